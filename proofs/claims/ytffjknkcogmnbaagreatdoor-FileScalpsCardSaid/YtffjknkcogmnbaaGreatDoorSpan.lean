/- Parts of the proof of a law of layer 11 (file): LfYak. The conditions stand in each theorem. -/
import Derived.Lib.AtoiAll
import Derived.Lib.SliceRun
import Derived.Shelf.Spec.SlicesGrow
import Derived.Test.YtffjknkcogmnbaaGreatDoorProg
import Derived.Test.YtffjknkcogmnbaaGreatDoorSpaa
import Derived.Test.YtffjknkcogmnbaaGreatDoorSpac
import Derived.Test.YtffjknkcogmnbaaGreatDoorSpae
import Derived.Test.YtffjknkcogmnbaaGreatDoorSpah
import Derived.Test.YtffjknkcogmnbaaGreatDoorSpak
import Derived.Test.YtffjknkcogmnbaaGreatDoorSpal
set_option linter.all false
set_option linter.unusedVariables false
set_option linter.unusedSimpArgs false
set_option linter.all false
set_option linter.unusedVariables false
set_option linter.unusedSimpArgs false
namespace Go.Proofs.LF
open Go.RowKit
set_option maxRecDepth 100000
theorem cells5:Tryz.prog.cellsOf 5 = 1:=by kernel_rfl
section
variable {H:Type} {enc:TypeId × Value→H} {W:World}
theorem read_bytes {fuel:Nat} {v:Value} {x:DataW H × List MemPlace} (h:DataW.trod enc Tryz.prog W 0 (fun _=>true) true fuel 22 [v] = some x):∃ l,Byt (fun b=>b < W.heap.size) W v l:=by
 rcases Go.ChangeShapes.open_ints Tryz.underlying22 Tryz.underlying5 cells5 h with ⟨hc,_⟩ | ⟨a,len,cap,zs,hc,_,hl,hm,hz,_,hcell,_⟩
 · obtain rfl:v = _:=by simpa using hc
   exact ⟨[],rfl,none,0,rfl,nl_ _,by simp [maxLen],fun _=>rfl, .inl rfl⟩
 · obtain rfl:v = _:=by simpa using hc
   simp only [if_true] at hz
   have hlen:(zs.take len).length = len:=by rw [List.length_take];omega
   refine ⟨zs.take len,?_⟩
   unfold Byt
   rw [hlen]
   refine ⟨by simp;omega,some a,cap,rfl,hl,hm,(fun h=>by cases h),?_⟩
   by_cases h0:len = 0
   · exact .inl h0
   · have hs:=w1_ (hcell 0 (by omega))
     have h1:=hs.1
     have hadd0:(a.add 0) = a:=rfl
     rw [hadd0] at hs
     refine .inr ⟨a.block,a.off,by cases a;simp only at hs;rw [hs.1],hs.2,fun j u hj=>?_⟩
     simp only [List.getElem?_map,Option.map_eq_some_iff,List.getElem?_take] at hj
     obtain ⟨z,hz',rfl⟩:=hj
     split at hz'
     · have hj':=(List.getElem?_eq_some_iff.1 hz').1
       have:=hcell j hj'
       rw [add_plain a hs.1] at this
       rw [this,List.getD_eq_getElem?_getD,hz'];rfl
     · cases hz'
end
end Go.Proofs.LF
namespace Go.Proofs.LF
open Go.RowKit Go.Sort
set_option maxHeartbeats 4000000
set_option maxRecDepth 100000
attribute [local go_sem] q1_ q2_ q6_
theorem Tryz.info71':(Tryz.prog.info? 96).map (fun i=>(i.zero,i.size,i.bytes)) = some (some (.agg #[.string ByteArray.empty, .bool false, .int .i64 0]),3,32):=by kernel_rfl
theorem kD_ (p:List Ky) (a:Option Addr) (c:Nat) (S:Nat→Prop) (w:World) (hv:Pth S w (.slice a p.length c) p) (hS:∀ b,S b→b < w.heap.size) (hlen:p.length ≤ 1000) :
 Calls Tryz.prog 31 #[.slice a p.length c] w fun e w'=>∃ a' c',e = .returned (.slice a' p.length c')∧Pth (Rg w.heap.size w'.heap.size) w' (.slice a' p.length c') p∧Below w.heap.size w w':=by
 obtain ⟨j0,hj0,hy0,hy1,hy2⟩:=info_parts Tryz.info71'
 have hcaps:=SlC.caps hv
 have hlk:=zm_ p
 have q65:∀ (w:World) (a:Option Addr) (n c:Nat),(binOp .eql 92 (.slice a n c) (.slice none 0 0)).run Tryz.prog w = .ok (.bool a.isNone) w:=fun w a n c=>Lib.run_eql_slice_nil w 92 96 a n c 0 0 Tryz.underlying92
 cases a with
 | none=>
   obtain ⟨h0,rfl⟩:=hcaps.2.2 rfl
   obtain rfl:p = []:=List.eq_nil_of_length_eq_zero h0
   simp only [List.length_nil]
   go_enter Tryz.func31,Tryz.ntmps31
   go_wp2_with fail
   go_ret
   exact ⟨none,0,rfl,⟨rfl,none,0,rfl,nl_ _,by simp [maxLen],fun _=>rfl, .inl rfl⟩,Below.refl _ _⟩
 | some ad=>
   have hbel:Below w.heap.size w (w.alloc (.cells #[] 96)):=(Below.refl _ _).alloc (nl_ _) _
   have hnews:=SlC.news hv (q9_ hbel hS)
   have how:(w.alloc (.cells #[] 96)).ownsRow w.heap.size 96 3 (.slice (some ⟨w.heap.size,0,none⟩) 0 0) 0 []:=qB_ (n:=0) (cap:=0) (cur:=#[]) (nl_ _) (ha_ _ _) (by omega) (by unfold maxLen;omega) (by simp) (by simp)
   have HB:=hid hbel
   clear hbel hv
   go_enter Tryz.func31,Tryz.ntmps31
   go_wp2_with (at_builtin;go_loud (refine q5_ _ rfl _ _ _ rfl w.heap.size 96 j0 _ 3 32 Tryz.underlying92 hj0 hy0 hy1 hy2 rfl (by omega) _ 0 [] rfl how (some ad) p.length c _ rfl hlk (fun h=>by cases h) hnews (xr_ p) (by unfold maxLen;omega) (by omega) (by simp) ?_);intro a1 c1 w1 hown1 hgrow1 hat1)
   simp only [Nat.zero_add,List.nil_append] at hown1
   go_ret
   refine ⟨a1,c1,by simp,SlC.of_owns hown1,HB.out.grown hgrow1 (by simp) (fun b hb=>by cases hb;exact nl_ _)⟩
theorem Atoi_any (s:List UInt8) (n:Nat) (w:World) (hs:s.length ≤ 1000) (h:Lib.atoiAll s = .ok (n:Int)) :
 Calls Tryz.prog 100 #[.string (bs s)] w fun e w'=>e = .returned (.tuple #[.int .i64 (n:Int), .nilIface])∧Below w.heap.size w w':=by
 refine (Tryz.strconv_Atoi_ok (bs s) (by rw [q2_];omega) (n:Int) (by rw [xA_];exact h) w).mono ?_
 rintro e w' ⟨rfl,rfl | ⟨t,rfl⟩⟩
 · exact ⟨rfl,Below.refl _ _⟩
 · refine ⟨rfl,?_⟩
   exact Lib.bytesWorld_below w 5 t
end Go.Proofs.LF
namespace Go.Proofs
def Tryz.laysGrow_ren:Go.Shelf.Ren:=⟨fun | 4=>125 | n=>n,fun | 22=>90 | 25=>98 | 3=>3 | 4=>4 | 9=>9 | 0=>0 | 20=>20 | n=>n,fun | n=>n⟩
theorem Tryz.laysGrow:Go.Proofs.Lays8.n4 Tryz.prog Tryz.laysGrow_ren:={
 mixed:=by kernel_rfl
 f4:=⟨Tryz.f125.name,by decide,Tryz.func125.trans (congrArg some (by kernel_rfl))⟩
 t0:=Tryz.underlying0
 a0:=Tryz.isAgg0
 z0:=Tryz.sizeOf0
 v0:=Tryz.zeroValue0
 t3:=Tryz.underlying3
 a3:=Tryz.isAgg3
 z3:=Tryz.sizeOf3
 v3:=Tryz.zeroValue3
 t4:=Tryz.underlying4
 a4:=Tryz.isAgg4
 z4:=Tryz.sizeOf4
 v4:=Tryz.zeroValue4
 t9:=Tryz.underlying9
 a9:=Tryz.isAgg9
 z9:=Tryz.sizeOf9
 v9:=Tryz.zeroValue9
 t20:=Tryz.underlying20
 a20:=Tryz.isAgg20
 z20:=Tryz.sizeOf20
 v20:=Tryz.zeroValue20
 t22:=Tryz.underlying90
 a22:=Tryz.isAgg90
 z22:=Tryz.sizeOf90
 v22:=Tryz.zeroValue90 }
namespace LF
open Go.RowKit Go.Sort
set_option maxHeartbeats 4000000
set_option maxRecDepth 100000
attribute [local go_sem] q1_ q2_ q6_
def rdLs:Rd (List Fl) 1 where
 R S w x cs:=∃ ap cp,cs = [.slice ap x.length cp]∧FlSl S w (.slice ap x.length cp) x
 len:=by rintro S w x cs ⟨_,_,rfl,_⟩;rfl
 one:=by rintro S w x cs ⟨_,_,rfl,_⟩ u hu;simp at hu;rcases hu with rfl;rfl
 agree:=by rintro S w w' x cs ⟨a,b,rfl,h1⟩ ha;exact ⟨a,b,rfl,h1.agree ha⟩
 wide:=by rintro S w w' x cs ⟨a,b,rfl,h1⟩ ha;exact ⟨a,b,rfl,h1.wide ha⟩
theorem jy_ (n:Nat) (w:World) (hn:n ≤ 1000000):Calls Tryz.prog 125 #[.slice none 0 0, .int .i64 n] w fun e w'=>∃ v,e = .returned v∧w'.ownsRow w.heap.size 98 2 v 0 []∧Below w.heap.size w w':=by
 by_cases h0:n = 0
 · subst h0
   refine (Any8.slices_Grow_room Tryz.laysGrow none 0 0 0 w (Nat.le_refl _) (by omega) (by omega) (by omega)).mono ?_
   rintro e w' ⟨rfl,rfl⟩
   exact ⟨_,rfl,World.ownsRow_nil _ _ _ _,Below.refl _ _⟩
 · obtain ⟨i0,hi0,hz0,hz1,hz2⟩:=info_parts Tryz.info171''
   refine (Any8.slices_Grow_grow Tryz.laysGrow i0 _ hi0 hz0 (by rw [hz1];omega) none 0 0 n [] w (Nat.le_refl _) (by omega) (by rw [hz2];omega) (by omega) (by simp) (fun _=>rfl) (fun a h=>by cases h)).mono ?_
   rintro e w' ⟨rfl,rfl⟩
   refine ⟨_,rfl,?_,((Below.refl w.heap.size w).drew).alloc (Nat.le_refl _) _⟩
   have hge:=grownCap_ge w (0 + n) 0 98
   have hle:=grownCap_le_maxLen w (0 + n) 0 98 (by unfold maxLen;omega)
   exact qB_ (g:=w.heap.size) (cap:=grownCap w (0 + n) 0 98) (Nat.le_refl _) (ha_ w.drew _) (Nat.zero_le _) hle (by have e25:Tryz.laysGrow_ren.t 25 = 98:=rfl;simp only [Nat.zero_add] at hge hle;simp [Builtin.zeroCells,Value.cells,e25];omega) (by simp)
theorem wq_ (ls:List (List Fl)) (a:Option Addr) (c:Nat) (S:Nat→Prop) (w:World) (hv:LSl rdLs S w (.slice a ls.length c) ls) (hS:∀ b,S b→b < w.heap.size) (hl:ls.length ≤ 1000) (hn:(ls.map List.length).sum ≤ 100000) :
 Calls Tryz.prog 75 #[.slice a ls.length c] w fun e w'=>∃ a' c',e = .returned (.slice a' ls.flatten.length c')∧FlSl (fun b=>S b ∨ Rg w.heap.size w'.heap.size b) w' (.slice a' ls.flatten.length c') ls.flatten∧Below w.heap.size w w':=by
 obtain ⟨a',c',he,hc,hcm,hat⟩:=hv.at
 obtain ⟨rfl,rfl⟩:a = a'∧c = c':=by cases he;exact ⟨rfl,rfl⟩
 obtain ⟨i0,hi0,hz0,hz1,hz2⟩:=info_parts Tryz.info171''
 have HAT:=hid hat
 have HS:=hid hS
 have HN:=hid hn
 clear hat hS he hv hn
 unfold maxLen at hcm
 have hsum:∀ k,((ls.take k).map List.length).sum ≤ 100000:=fun k=>by
  have h1:=HN.out
  have:(ls.map List.length).sum = ((ls.take k).map List.length).sum + ((ls.drop k).map List.length).sum:=by
   rw [← List.sum_append,← List.map_append,List.take_append_drop]
  omega
 have HSUM:=hid hsum
 clear hsum
 go_enter Tryz.func75,Tryz.ntmps75
 go_wp2_with fail
 go_loopw [3,11] (fun sz i wr=>∃ k:Nat,k ≤ ls.length∧i = .int .i64 k∧sz = .int .i64 (((ls.take k).map List.length).sum:Nat)∧Below w.heap.size w wr) (fun _ i _=>ls.length - (intOf i).toNat)
 case atStart=>exact ⟨0,by omega,rfl,by simp,Below.refl _ _⟩
 case round=>
  obtain ⟨k,hk,rfl,rfl,hB⟩:=hrel
  have hsz:=hB.size
  have hs1:=HSUM.out k
  by_cases hlt:k < ls.length
  · have hlt':(k:Int) < (ls.length:Int):=by omega
    obtain ⟨g,o,cs1,rfl,hg,⟨ap,cp,rfl,hF⟩,hcell⟩:=HAT.out k hlt
    have c0:=(q9_ hB HS.out).cell hg (hcell 0 _ rfl)
    rw [Nat.mul_one,Nat.add_zero] at c0
    have hs2:=HSUM.out (k + 1)
    have hst:((ls.take (k + 1)).map List.length).sum = ((ls.take k).map List.length).sum + ls[k].length:=by
     rw [List.take_succ_eq_append_getElem hlt,List.map_append,List.sum_append];simp only [List.map_cons,List.map_nil,List.sum_cons,List.sum_nil,Nat.add_zero]
    obtain ⟨s1,hs⟩:∃ s,((ls.take k).map List.length).sum = s:=⟨_,rfl⟩
    rw [hs] at hst hs1 ⊢
    rw [hst] at hs2
    have hnn:¬ ((s1:Int) + (ls[k].length:Int) < 0):=by omega
    have HST:=hid hst
    clear hst hcell hs
    go_wp2_with fail
    go_roundw
    case rel=>exact ⟨k + 1,by omega,by go_num,by rw [HST.out];go_num,hB⟩
    case measure=>simp [intOf];omega
  · obtain rfl:k = ls.length:=by omega
    have hlt':¬ (ls.length:Int) < (ls.length:Int):=by omega
    rw [List.take_length] at *
    obtain ⟨s1,hs⟩:∃ s,(ls.map List.length).sum = s:=⟨_,rfl⟩
    rw [hs] at hs1 ⊢
    go_wp2_with fail
    refine (jy_ s1 wr (by omega)).mono ?_
    rintro e w1 ⟨v1,rfl,how1,hb1⟩
    have hB1:=hB.trans (hb1.mono hsz)
    have how1:w1.ownsRow w.heap.size 98 2 v1 0 []:=qp_ how1 (fun g hg=>by have:=(how1.lt g hg).1;omega)
    have HOW1:=hid how1
    have HB1:=hid hB1
    clear how1 hb1 hB1 hB
    go_wp2_with fail
    go_loopw [6,27] (fun v i wr=>∃ (k:Nat) (cs:List Value),k ≤ ls.length∧i = .int .i64 k∧wr.ownsRow w.heap.size 98 2 v (ls.take k).flatten.length cs∧LCs xn_ (fun b=>S b) wr (ls.take k).flatten cs∧Below w.heap.size w wr) (fun _ i _=>ls.length - (intOf i).toNat)
    case atStart=>exact ⟨0,[],by omega,rfl,by simpa using HOW1.out,rfl,HB1.out⟩
    case round=>
     obtain ⟨k,cs,hk,rfl,hown,hlc,hB⟩:=hrel
     have hsz2:=hB.size
     by_cases hlt:k < ls.length
     · have hlt':(k:Int) < (ls.length:Int):=by omega
       obtain ⟨g,o,cs1,rfl,hg,⟨ap,cp,rfl,hF⟩,hcell⟩:=HAT.out k hlt
       have c0:=(q9_ hB HS.out).cell hg (hcell 0 _ rfl)
       rw [Nat.mul_one,Nat.add_zero] at c0
       obtain ⟨ds,hd1,hd2⟩:=hF
       have hcap:=SlC.caps hd1
       have hnews:=SlC.news hd1 (q9_ hB HS.out)
       have hone:=hd2.one
       have hlen:=hd1.1
       have hfl:(ls.take k).flatten.length = ((ls.take k).map List.length).sum:=List.length_flatten
       have hfl2:(ls.take (k + 1)).flatten.length = (ls.take k).flatten.length + ls[k].length:=by
        rw [List.take_succ_eq_append_getElem hlt,List.flatten_append];simp
       have hs2:=HSUM.out (k + 1)
       rw [← List.length_flatten,hfl2] at hs2
       have HN2:=hid hnews
       have HD2:=hid (hd2.agree (q9_ hB HS.out))
       have HO:=hid hone
       have HL:=hid hlen
       have HFL:=hid hfl2
       have HLC:=hid hlc
       obtain ⟨q,hq⟩:∃ q,(ls.take k).flatten.length = q:=⟨_,rfl⟩
       rw [hq] at hown hs2
       have HQ:=hid hq
       have hcapn:ap = none→ls[k].length = 0∧cp = 0:=hcap.2.2
       have HCN:=hid hcapn
       clear hcell hd1 hd2 hnews hone hlen hfl hfl2 hlc hq hcap hcapn
       go_wp2_with (at_builtin;refine (q5_ _ rfl _ _ _ rfl w.heap.size 98 i0 _ 2 48 Tryz.underlying90 hi0 hz0 hz1 hz2 rfl (by omega) u6 q cs rfl hown ap ls[k].length cp ds rfl HL.out HCN.out HN2.out HO.out (by unfold maxLen;omega) (by omega) hsz2 ?_);intro a4 c4 w4 hown4 hgrow4 hat4)
       have hag:qd_ S wr w4:=fun b hb=>hgrow4.block b (by have:=HS.out b hb;omega) (fun e=>by have:=(hown.lt b e.symm).1;have:=HS.out b hb;omega)
       have hm:=(HLC.out.agree hag).app (HD2.out.agree hag)
       have hfe:(ls.take (k + 1)).flatten = (ls.take k).flatten ++ ls[k]:=by
        rw [List.take_succ_eq_append_getElem hlt,List.flatten_append];simp
       have hB4:=hB.grown hgrow4 hsz2 (fun k hk=>(hown.lt k hk).1)
       go_roundw
       case rel=>exact ⟨k + 1,cs ++ ds,by omega,by go_num,by rw [HFL.out,HQ.out];exact hown4,by rw [hfe];exact hm,hB4⟩
       case measure=>simp [intOf];omega
     · obtain rfl:k = ls.length:=by omega
       have hlt':¬ (ls.length:Int) < (ls.length:Int):=by omega
       rw [List.take_length] at hown hlc
       obtain ⟨a9,c9,rfl,_,_⟩:=owns_shape hown
       go_wp2_with fail
       go_ret
       have hq:ls.flatten.length = s1:=by rw [List.length_flatten,hs]
       exact ⟨a9,c9,by simp [hq],⟨cs,by have:=(SlC.of_owns hown).wide (S':=fun b=>S b ∨ Rg w.heap.size wr.heap.size b) (fun b hb=>Or.inr hb);simp only [hq] at this ⊢;exact this,hlc.wide (S':=fun b=>S b ∨ Rg w.heap.size wr.heap.size b) (fun b hb=>Or.inl hb)⟩,hB⟩
end LF
end Go.Proofs
namespace Go.Proofs.LF
open Go.RowKit
theorem Rdr.cV {R:Nat} {t:List UInt8} {i j:Nat} {vs:List Value} {v:Value} {w:World} (h:Rdr R t i vs w) (hj:vs[j]? = some v):w.cell? ⟨R,j + 2,none⟩ = some v:=by
 unfold Rdr at h
 simp only [World.cell?,h]
 simpa using hj
theorem Rdr.setV {R:Nat} {t:List UInt8} {i:Nat} {vs:List Value} {w:World} (h:Rdr R t i vs w) (j:Nat) (v:Value):Rdr R t i (vs.set j v) (w.setCell ⟨R,j + 2,none⟩ v):=by
 unfold Rdr at h ⊢
 simp [World.setCell,Array.getElem?_modify,h]
open Go.Lib
theorem v0_:∀ (l:List UInt8) (acc n:Nat),(∀ c ∈ l,qG_ c = true)→acc < 10 ^ n→n + l.length ≤ 8→parseUint10 acc l = .ok (l.foldl (fun n c=>n * 10 + (c.toNat - 48)) acc)
 | [],_,_,_,_,_=>rfl
 | c :: r,acc,n,h,ha,hl=>by
   have hc:48 ≤ c.toNat∧c.toNat ≤ 57:=by
    have:=h c (by simp)
    simp only [qG_,inB,Bool.and_eq_true,decide_eq_true_eq] at this;omega
   have h8:10 ^ n ≤ 10 ^ 7:=Nat.pow_le_pow_right (by omega) (by simp at hl;omega)
   have hn:acc * 10 + (c.toNat - 48) < 10 ^ (n + 1):=by rw [Nat.pow_succ];omega
   simp only [parseUint10,hc,and_self,if_true,List.foldl_cons]
   have e7:(10:Nat) ^ 7 = 10000000:=rfl
   rw [if_neg (by omega),if_neg (by omega)]
   exact v0_ r _ (n + 1) (fun d hd=>h d (by simp [hd])) hn (by simp at hl;omega)
theorem jh_ {l:List UInt8} (h:∀ c ∈ l,qG_ c = true) (h0:l ≠ []) (h4:l.length ≤ 4):atoiAll l = .ok ((j4_ l:Nat):Int):=by
 cases l with
 | nil=>exact absurd rfl h0
 | cons c r=>
   have hc:48 ≤ c.toNat∧c.toNat ≤ 57:=by
    have:=h c (by simp)
    simp only [qG_,inB,Bool.and_eq_true,decide_eq_true_eq] at this;omega
   have hp:=v0_ (c :: r) 0 0 h (by simp) (by simp at h4 ⊢;omega)
   have hm:parseMag (c :: r) = .ok (j4_ (c :: r)):=by simp only [parseMag,j4_];rw [if_neg (by simp),hp]
   have hb:j4_ (c :: r) < 10 ^ 8:=by
    have key:∀ (l:List UInt8) (acc n:Nat),(∀ c ∈ l,qG_ c = true)→acc < 10 ^ n→l.foldl (fun n c=>n * 10 + (c.toNat - 48)) acc < 10 ^ (n + l.length):=by
     intro l
     induction l with
     | nil=>intro acc n _ ha;simpa using ha
     | cons c r ih=>
       intro acc n h ha
       have hc:48 ≤ c.toNat∧c.toNat ≤ 57:=by
        have:=h c (by simp)
        simp only [qG_,inB,Bool.and_eq_true,decide_eq_true_eq] at this;omega
       have hn:acc * 10 + (c.toNat - 48) < 10 ^ (n + 1):=by rw [Nat.pow_succ];omega
       have:=ih _ (n + 1) (fun d hd=>h d (by simp [hd])) hn
       simp only [List.foldl_cons,List.length_cons]
       rwa [show n + (r.length + 1) = n + 1 + r.length by omega]
    have:=key (c :: r) 0 0 h (by simp)
    refine Nat.lt_of_lt_of_le this (Nat.pow_le_pow_right (by omega) (by simp at h4 ⊢;omega))
   have e8:(10:Nat) ^ 8 = 100000000:=rfl
   simp only [atoiAll]
   rw [if_neg (by omega),hm]
   simp only
   rw [if_neg (by omega),if_neg (by omega),if_neg (by omega)]
def xz_ (t:List UInt8):Nat→Nat→Nat→Nat→List Ky→List Fl→List Fl × Nat × Nat × Nat
 | 0,_,_,_,_,_=>([],0,0,0)
 | f + 1,i,ln,dp,ks,fs=>
   if i < t.length then
    if 60 ≤ ln then ([],ln,0,2)
    else
     let r:=rdLine dp (t.drop i)
     if r.2.2.2.2 = false then ([],ln,r.2.2.2.1,11)
     else
      let ks':=ks.set r.1 (kyOf r.2.1 r.2.2.1)
      let p:=ks'.take (r.1 + 1)
      if fs.any (fun x=>decide (0 ≤ cmpP x.p p)) then ([],ln,r.1,4)
      else xz_ t f (i + r.2.2.2.1 + 1) (ln + 1) (min (r.1 + 1) 3) ks' (fs ++ [⟨p,r.2.2.1⟩])
   else (fs,0,0,0)
def ky0:Ky:=⟨[],false,0⟩
def prs (t:List UInt8):List Fl × Nat × Nat × Nat:=xz_ t 62 0 0 0 [ky0,ky0,ky0,ky0] []
theorem xK_:∀ (m:Nat) (s:List UInt8),(qq_ m s).2.1 ≤ s.length∧(qq_ m s).1.length ≤ m
 | 0,_=>by simp [qq_]
 | m + 1,s=>by
   simp only [qq_]
   split
   · simp
   · rename_i h
     have h1:1 ≤ s.length:=by
      cases s with
      | nil=>exact absurd (zO_ (.inr rfl)) h
      | cons _ _=>simp
     split
     · simp;omega
     · have h2:=vo_ (p:=qG_) (m:=zo_ (s.drop 1)) (l:=s.drop 1)
       have h3:=xK_ m ((s.drop 1).drop (qD_ qG_ (zo_ (s.drop 1)) (s.drop 1)))
       simp only [List.length_drop,List.length_cons] at h2 h3 ⊢
       omega
theorem rdLine_le (dp:Nat) (s:List UInt8):(rdLine dp s).1 ≤ dp∧(rdLine dp s).2.2.2.1 ≤ s.length∧(rdLine dp s).2.2.1.length ≤ 4∧(rdLine dp s).2.1.length ≤ 8∧((rdLine dp s).2.2.2.2 = true→(rdLine dp s).2.2.2.1 < s.length):=by
 have h1:=vo_ (p:=qw_) (m:=dp) (l:=s)
 have h2:=vo_ (p:=qK_) (m:=8) (l:=s.drop (qD_ qw_ dp s))
 have h3:=xK_ 4 ((s.drop (qD_ qw_ dp s)).drop (qD_ qK_ 8 (s.drop (qD_ qw_ dp s))))
 rw [List.length_drop] at h2
 simp only [List.drop_drop,List.length_drop] at h3
 simp only [rdLine]
 split
 · simp;omega
 · simp only [List.length_take,List.length_drop,Bool.and_eq_true,beq_iff_eq,List.drop_drop]
   refine ⟨by omega,by omega,h3.2,by omega,fun h=>?_⟩
   obtain ⟨_,h⟩:=h
   have h5:qD_ qw_ dp s + (qD_ qK_ 8 (s.drop (qD_ qw_ dp s)) + (qq_ 4 (s.drop (qD_ qw_ dp s + qD_ qK_ 8 (s.drop (qD_ qw_ dp s))))).2.1) < s.length:=by
    rcases Nat.lt_or_ge (qD_ qw_ dp s + (qD_ qK_ 8 (s.drop (qD_ qw_ dp s)) + (qq_ 4 (s.drop (qD_ qw_ dp s + qD_ qK_ 8 (s.drop (qD_ qw_ dp s))))).2.1)) s.length with h5 | h5
    · exact h5
    · rw [List.drop_eq_nil_of_le h5] at h;cases h
   omega
end Go.Proofs.LF
namespace Go.Proofs.LF
open Go.RowKit Go.Sort
set_option maxHeartbeats 4000000
set_option maxRecDepth 100000
attribute [local go_sem] q1_ q2_ q6_
theorem w2_ (n:List UInt8) (l:List Int) (an ab:Option Addr) (cn sl cb K:Nat) (k:Ky) (S:Nat→Prop) (w:World) (hl:qF_ S w (.slice an l.length cn) l) (hS:∀ b,S b→b < w.heap.size)
 (hK:K < w.heap.size) (h0:w.cell? ⟨K,0,none⟩ = some (.string (bs k.n))) (h1:w.cell? ⟨K,1,none⟩ = some (.bool k.h)) (h2:w.cell? ⟨K,2,none⟩ = some (.int .i64 k.x)) :
 Calls Tryz.prog 123 #[.agg #[.string (bs n), .slice an l.length cn, .slice ab sl cb], .pointer (some ⟨K,0,none⟩)] w fun e w'=>e = .returned (.bool (decide (kyOf n l = k)))∧Below w.heap.size w w':=by
 have hb:Below w.heap.size w (w.alloc (.cells #[.string (bs n), .slice an l.length cn, .slice ab sl cb] 109)):=(Below.refl _ _).alloc (nl_ _) _
 have HB:=hid hb
 have HL:=hid hl
 have HS:=hid hS
 clear hl hS hb
 obtain ⟨kk,hkk⟩:∃ kk,kyOf n l = kk:=⟨_,rfl⟩
 have hdec:decide (kyOf n l = k) = (kk.n == k.n && (kk.h == k.h && kk.x == k.x)):=by
  rw [hkk]
  obtain ⟨an,ah,ax⟩:=kk
  obtain ⟨bn,bh,bx⟩:=k
  by_cases h1:an = bn <;> by_cases h2:ah = bh <;> by_cases h3:ax = bx <;> simp [h1,h2,h3]
 have HDEC:=hid hdec
 have HKK:=hid hkk
 clear hdec hkk
 cases hn:(kk.n == k.n) <;> cases hh:(kk.h == k.h) <;> cases hx:(kk.x == k.x)
 all_goals
  go_enter Tryz.func123,Tryz.ntmps123
  go_wp2_with fail
  go_region_held3 (fun w'=>w'.cell? ⟨w.heap.size,0,none⟩ = some (.string (bs n))∧w'.cell? ⟨w.heap.size,1,none⟩ = some (.slice an l.length cn)∧w'.cell? ⟨w.heap.size,2,none⟩ = some (.slice ab sl cb)∧w'.cell? ⟨K,0,none⟩ = some (.string (bs k.n))∧w'.cell? ⟨K,1,none⟩ = some (.bool k.h)∧w'.cell? ⟨K,2,none⟩ = some (.int .i64 k.x))
   (first
     | (go_split_ands
        with_reducible refine ⟨bc_ hb1 ?_ ?_,bc_ hb1 ?_ ?_,bc_ hb1 ?_ ?_,bc_ hb1 ?_ ?_,bc_ hb1 ?_ ?_,bc_ hb1 ?_ ?_⟩
        all_goals (first | (with_reducible assumption) | (simp;done) | (simp;omega)))
     | go_keep)
   (first
     | (go_at_call 90; refine (zC_ n l an cn (.slice ab sl cb) S _ (HL.out.agree (q9_ HB.out.drew HS.out)) (fun b hb => by have := HS.out b hb; simp; omega) ab sl cb rfl).mono ?_
        rintro e w1 ⟨rfl,hb1⟩
        rw [HKK.out]))
  go_wp2_with fail
  go_ret
  have hb1':Below (w.alloc (.cells #[.string (bs n), .slice an l.length cn, .slice ab sl cb] 109)).heap.size (w.alloc (.cells #[.string (bs n), .slice an l.length cn, .slice ab sl cb] 109)) w1:=⟨hb1.os,hb1.tape,hb1.output,hb1.size,hb1.block⟩
  exact ⟨by rw [HDEC.out,hn,hh,hx];simp,HB.out.trans (hb1'.mono (by simp))⟩
theorem isKP_node {S:Nat→Prop} {w:World} {y:Fo} {a:Option Addr} {c:Nat} {cs:List Value} {K:Nat} {k:Ky} (hs:SlC S w 3 (.slice a y.len c) y.len cs) (hf:FCs S w y cs) (hS:∀ b,S b→b < w.heap.size)
 (hK:K < w.heap.size) (h0:w.cell? ⟨K,0,none⟩ = some (.string (bs k.n))) (h1:w.cell? ⟨K,1,none⟩ = some (.bool k.h)) (h2:w.cell? ⟨K,2,none⟩ = some (.int .i64 k.x)) :
 ∀ i,i < y.len→ka_ 123 [.pointer (some ⟨K,0,none⟩)] w [qJ_ 3 cs i] (decide (zf_ y i = some k)):=by
 intro i hi W hW
 obtain ⟨n,l,s,r,hd⟩:=Fo.drop_lt hi
 have hf':=hf.drop (i:=i)
 rw [hd] at hf'
 obtain ⟨vn,vs,cs',he,hI,⟨ds,hsb,_⟩,_⟩:=hf'
 obtain ⟨an,cn,rfl,_⟩:=SlC.shape hI
 obtain ⟨ab,cb,rfl,_⟩:=SlC.shape hsb
 have e:∀ j,cs[i * 3 + j]? = (Value.string (bs n) :: Value.slice an l.length cn :: Value.slice ab s.len cb :: cs')[j]?:=fun j=>by rw [← he,List.getElem?_drop]
 have hel:qJ_ 3 cs i = .agg #[.string (bs n), .slice an l.length cn, .slice ab s.len cb]:=by
  have e0:=e 0
  have e1:=e 1
  have e2:=e 2
  rw [Nat.add_zero] at e0
  simp [qJ_,List.range_succ,List.getD_eq_getElem?_getD,e0,e1,e2]
 have hk:zf_ y i = some (kyOf n l):=by simp [zf_,hd]
 rw [hel,hk]
 have hag:qd_ S w W:=q9_ hW hS
 have:=w2_ n l an ab cn s.len cb K k S W (SlC.agree hI hag) (fun b hb=>by have:=hS b hb;have:=hW.size;omega) (by have:=hW.size;omega) (bc_ hW hK h0) (bc_ hW hK h1) (bc_ hW hK h2)
 simpa using this
theorem enters135:z5_ 123:=by intro args W;simp [go_sem]
end Go.Proofs.LF