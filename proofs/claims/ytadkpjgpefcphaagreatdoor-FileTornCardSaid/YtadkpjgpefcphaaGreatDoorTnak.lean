/- Parts of the proof of a law of layer 11 (file): LfRdBy, LfPrs, LfJn, LfW18, LfRdr, LfAtoi, LfW31, LfW42, LfRdW, LfRtA, LfW19, LfW39, LfW18u, LfCan. The conditions stand in each theorem. -/
import Derived.Lib.AtoiAll
import Derived.Lib.ItoaMem
import Derived.Lib.SliceRun
import Derived.Shelf.Spec.SlicesGrow
import Derived.Test.YtadkpjgpefcphaaGreatDoorProg
import Derived.Test.YtadkpjgpefcphaaGreatDoorTnaa
import Derived.Test.YtadkpjgpefcphaaGreatDoorTnac
import Derived.Test.YtadkpjgpefcphaaGreatDoorTnad
import Derived.Test.YtadkpjgpefcphaaGreatDoorTnae
import Derived.Test.YtadkpjgpefcphaaGreatDoorTnaf
import Derived.Test.YtadkpjgpefcphaaGreatDoorTnai
import Derived.Test.YtadkpjgpefcphaaGreatDoorTnaj
set_option linter.all false
set_option linter.unusedVariables false
set_option linter.unusedSimpArgs false
namespace Go.Proofs.LF
open Go.RowKit
set_option maxRecDepth 100000
theorem cells5:Tryz.prog.cellsOf 5 = 1:=by kernel_rfl
section
variable {H:Type} {enc:TypeId × Value→H} {W:World}
theorem read_bytes {fuel:Nat} {v:Value} {x:DataW H × List MemPlace} (h:DataW.trod enc Tryz.prog W 0 (fun _=>true) true fuel 57 [v] = some x):∃ l,Byt (fun b=>b < W.heap.size) W v l:=by
 rcases Go.ChangeShapes.open_ints Tryz.underlying57 Tryz.underlying5 cells5 h with ⟨hc,_⟩ | ⟨a,len,cap,zs,hc,_,hl,hm,hz,_,hcell,_⟩
 · obtain rfl:v = _:=by simpa using hc
   exact ⟨[],rfl,none,0,rfl,nl_ _,by simp [maxLen],fun _=>rfl, .inl rfl⟩
 · obtain rfl:v = _:=by simpa using hc
   simp only [if_true] at hz
   have hlen:(zs.take len).length = len:=by rw [List.length_take];omega
   refine ⟨zs.take len,?_⟩
   unfold Byt
   rw [hlen]
   refine ⟨by simp;omega,some a,cap,rfl,hl,hm,(fun h=>by cases h),?_⟩
   by_cases h0:len = 0
   · exact .inl h0
   · have hs:=cell_plain (hcell 0 (by omega))
     have h1:=hs.1
     have hadd0:(a.add 0) = a:=rfl
     rw [hadd0] at hs
     refine .inr ⟨a.block,a.off,by cases a;simp only at hs;rw [hs.1],hs.2,fun j u hj=>?_⟩
     simp only [List.getElem?_map,Option.map_eq_some_iff,List.getElem?_take] at hj
     obtain ⟨z,hz',rfl⟩:=hj
     split at hz'
     · have hj':=(List.getElem?_eq_some_iff.1 hz').1
       have:=hcell j hj'
       rw [add_plain a hs.1] at this
       rw [this,List.getD_eq_getElem?_getD,hz'];rfl
     · cases hz'
end
theorem u8_range {n:Int} (h:(Lit.int .u8 n).wf = true):0 ≤ n∧n ≤ 255:=by
 simpa [Lit.wf,IntKind.min,IntKind.max,IntKind.signed,IntKind.bits] using h
end Go.Proofs.LF
namespace Go.Proofs.LF
def prsG (t:List UInt8):Nat→Nat→Nat→Nat→List Ky→List Fl→List Fl × Nat × Nat × Nat
 | 0,_,_,_,_,_=>([],0,0,0)
 | f + 1,i,ln,dp,ks,fs=>
   if i < t.length then
    if 60 ≤ ln then ([],ln,0,2)
    else
     let r:=rdLine dp (t.drop i)
     if r.2.2.2.2 = false then ([],ln,r.2.2.2.1,11)
     else
      let ks':=ks.set r.1 (kyOf r.2.1 r.2.2.1)
      let p:=ks'.take (r.1 + 1)
      if fs.any (fun x=>decide (0 ≤ cmpP x.p p)) then ([],ln,r.1,4)
      else prsG t f (i + r.2.2.2.1 + 1) (ln + 1) (min (r.1 + 1) 3) ks' (fs ++ [⟨p,r.2.2.1⟩])
   else (fs,0,0,0)
def ky0:Ky:=⟨[],false,0⟩
def prs (t:List UInt8):List Fl × Nat × Nat × Nat:=prsG t 62 0 0 0 [ky0,ky0,ky0,ky0] []
theorem rdNums_le:∀ (m:Nat) (s:List UInt8),(rdNums m s).2.1 ≤ s.length∧(rdNums m s).1.length ≤ m
 | 0,_=>by simp [rdNums]
 | m + 1,s=>by
   simp only [rdNums]
   split
   · simp
   · rename_i h
     have h1:1 ≤ s.length:=by
      cases s with
      | nil=>exact absurd (runN_stop (.inr rfl)) h
      | cons _ _=>simp
     split
     · simp;omega
     · have h2:=runN_le (p:=digitB) (m:=mostD (s.drop 1)) (l:=s.drop 1)
       have h3:=rdNums_le m ((s.drop 1).drop (runN digitB (mostD (s.drop 1)) (s.drop 1)))
       simp only [List.length_drop,List.length_cons] at h2 h3 ⊢
       omega
theorem rdLine_le (dp:Nat) (s:List UInt8):(rdLine dp s).1 ≤ dp∧(rdLine dp s).2.2.2.1 ≤ s.length∧(rdLine dp s).2.2.1.length ≤ 4∧(rdLine dp s).2.1.length ≤ 8∧((rdLine dp s).2.2.2.2 = true→(rdLine dp s).2.2.2.1 < s.length):=by
 have h1:=runN_le (p:=blankB) (m:=dp) (l:=s)
 have h2:=runN_le (p:=smallB) (m:=8) (l:=s.drop (runN blankB dp s))
 have h3:=rdNums_le 4 ((s.drop (runN blankB dp s)).drop (runN smallB 8 (s.drop (runN blankB dp s))))
 rw [List.length_drop] at h2
 simp only [List.drop_drop,List.length_drop] at h3
 simp only [rdLine]
 split
 · simp;omega
 · simp only [List.length_take,List.length_drop,Bool.and_eq_true,beq_iff_eq,List.drop_drop]
   refine ⟨by omega,by omega,h3.2,by omega,fun h=>?_⟩
   obtain ⟨_,h⟩:=h
   have h5:runN blankB dp s + (runN smallB 8 (s.drop (runN blankB dp s)) + (rdNums 4 (s.drop (runN blankB dp s + runN smallB 8 (s.drop (runN blankB dp s))))).2.1) < s.length:=by
    rcases Nat.lt_or_ge (runN blankB dp s + (runN smallB 8 (s.drop (runN blankB dp s)) + (rdNums 4 (s.drop (runN blankB dp s + runN smallB 8 (s.drop (runN blankB dp s))))).2.1)) s.length with h5 | h5
    · exact h5
    · rw [List.drop_eq_nil_of_le h5] at h;cases h
   omega
end Go.Proofs.LF
namespace Go.Proofs.LF
theorem decN_app (l:List UInt8) (c:UInt8):decN (l ++ [c]) = decN l * 10 + (c.toNat - 48):=by simp [decN,List.foldl_append]
theorem decN_dec:∀ (m u:Nat),u < m→decN (Lib.decDigits u) = u∧∀ c ∈ Lib.decDigits u,digitB c = true
 | 0,_,h=>by omega
 | m + 1,u,h=>by
   rw [Lib.decDigits]
   have hd:∀ k,k < 10→(UInt8.ofNat (48 + k)).toNat = 48 + k:=fun k hk=>by
    rw [UInt8.toNat_ofNat'];omega
   by_cases hu:u < 10
   · rw [dif_pos hu]
     refine ⟨?_,fun c hc=>?_⟩
     · show 0 * 10 + ((UInt8.ofNat (48 + u)).toNat - 48) = u
       rw [hd u hu];omega
     obtain rfl:=List.mem_singleton.1 hc
     rw [digitB_iff,hd u hu];omega
   · rw [dif_neg hu]
     obtain ⟨h1,h2⟩:=decN_dec m (u / 10) (by omega)
     refine ⟨?_,fun c hc=>?_⟩
     · rw [decN_app,h1,hd _ (Nat.mod_lt _ (by omega))];omega
     · rcases List.mem_append.1 hc with hc | hc
       · exact h2 c hc
       · obtain rfl:=List.mem_singleton.1 hc
         rw [digitB_iff,hd _ (Nat.mod_lt _ (by omega))];omega
end Go.Proofs.LF
namespace Go.Proofs.LF
open Go.RowKit Go.Sort
set_option maxHeartbeats 4000000
set_option maxRecDepth 100000
attribute [local go_sem] bs_toList bs_size bs_get
theorem Tryz.info71':(Tryz.prog.info? 71).map (fun i=>(i.zero,i.size,i.bytes)) = some (some (.agg #[.string ByteArray.empty, .bool false, .int .i64 0]),3,32):=by kernel_rfl
theorem cloneK_any (p:List Ky) (a:Option Addr) (c:Nat) (S:Nat→Prop) (w:World) (hv:Pth S w (.slice a p.length c) p) (hS:∀ b,S b→b < w.heap.size) (hlen:p.length ≤ 1000) :
 Calls Tryz.prog 117 #[.slice a p.length c] w fun e w'=>∃ a' c',e = .returned (.slice a' p.length c')∧Pth (Rg w.heap.size w'.heap.size) w' (.slice a' p.length c') p∧Below w.heap.size w w':=by
 obtain ⟨j0,hj0,hy0,hy1,hy2⟩:=info_parts Tryz.info71'
 have hcaps:=SlC.caps hv
 have hlk:=len_keys p
 have q65:∀ (w:World) (a:Option Addr) (n c:Nat),(binOp .eql 65 (.slice a n c) (.slice none 0 0)).run Tryz.prog w = .ok (.bool a.isNone) w:=fun w a n c=>Lib.run_eql_slice_nil w 65 71 a n c 0 0 Tryz.underlying65
 cases a with
 | none=>
   obtain ⟨h0,rfl⟩:=hcaps.2.2 rfl
   obtain rfl:p = []:=List.eq_nil_of_length_eq_zero h0
   simp only [List.length_nil]
   go_enter Tryz.func117,Tryz.ntmps117
   go_wp2_with fail
   go_ret
   exact ⟨none,0,rfl,⟨rfl,none,0,rfl,nl_ _,by simp [maxLen],fun _=>rfl, .inl rfl⟩,Below.refl _ _⟩
 | some ad=>
   have hbel:Below w.heap.size w (w.alloc (.cells #[] 71)):=(Below.refl _ _).alloc (nl_ _) _
   have hnews:=SlC.news hv (Ag_b hbel hS)
   have how:(w.alloc (.cells #[] 71)).ownsRow w.heap.size 71 3 (.slice (some ⟨w.heap.size,0,none⟩) 0 0) 0 []:=owns_of_row (n:=0) (cap:=0) (cur:=#[]) (nl_ _) (heap_alloc_new _ _) (by omega) (by unfold maxLen;omega) (by simp) (by simp)
   have HB:=hid hbel
   clear hbel hv
   go_enter Tryz.func117,Tryz.ntmps117
   go_wp2_with (at_builtin;go_loud (refine wpList_append_ao _ rfl _ _ _ rfl w.heap.size 71 j0 _ 3 32 Tryz.underlying65 hj0 hy0 hy1 hy2 rfl (by omega) _ 0 [] rfl how (some ad) p.length c _ rfl hlk (fun h=>by cases h) hnews (one_keys p) (by unfold maxLen;omega) (by omega) (by simp) ?_);intro a1 c1 w1 hown1 hgrow1 hat1)
   simp only [Nat.zero_add,List.nil_append] at hown1
   go_ret
   refine ⟨a1,c1,by simp,SlC.of_owns hown1,HB.out.grown hgrow1 (by simp) (fun b hb=>by cases hb;exact nl_ _)⟩
theorem Atoi_any (s:List UInt8) (n:Nat) (w:World) (hs:s.length ≤ 1000) (h:Lib.atoiAll s = .ok (n:Int)) :
 Calls Tryz.prog 190 #[.string (bs s)] w fun e w'=>e = .returned (.tuple #[.int .i64 (n:Int), .nilIface])∧Below w.heap.size w w':=by
 refine (Tryz.strconv_Atoi_ok (bs s) (by rw [bs_size];omega) (n:Int) (by rw [bs_data];exact h) w).mono ?_
 rintro e w' ⟨rfl,rfl | ⟨t,rfl⟩⟩
 · exact ⟨rfl,Below.refl _ _⟩
 · refine ⟨rfl,?_⟩
   exact Lib.bytesWorld_below w 5 t
end Go.Proofs.LF
namespace Go.Proofs.LF
open Go.RowKit
theorem Rdr.cV {R:Nat} {t:List UInt8} {i j:Nat} {vs:List Value} {v:Value} {w:World} (h:Rdr R t i vs w) (hj:vs[j]? = some v):w.cell? ⟨R,j + 2,none⟩ = some v:=by
 unfold Rdr at h
 simp only [World.cell?,h]
 simpa using hj
theorem Rdr.setV {R:Nat} {t:List UInt8} {i:Nat} {vs:List Value} {w:World} (h:Rdr R t i vs w) (j:Nat) (v:Value):Rdr R t i (vs.set j v) (w.setCell ⟨R,j + 2,none⟩ v):=by
 unfold Rdr at h ⊢
 simp [World.setCell,Array.getElem?_modify,h]
theorem Rdr.keep {R:Nat} {t:List UInt8} {i:Nat} {vs:List Value} {w w':World} {O:Nat→Prop} (h:Rdr R t i vs w) (hk:Keep O w w') (ho:¬ O R):Rdr R t i vs w':=(hk.block R h.lt ho).trans h
end Go.Proofs.LF
namespace Go.Proofs.LF
open Go.Lib
theorem parse_digits:∀ (l:List UInt8) (acc n:Nat),(∀ c ∈ l,digitB c = true)→acc < 10 ^ n→n + l.length ≤ 8→parseUint10 acc l = .ok (l.foldl (fun n c=>n * 10 + (c.toNat - 48)) acc)
 | [],_,_,_,_,_=>rfl
 | c :: r,acc,n,h,ha,hl=>by
   have hc:48 ≤ c.toNat∧c.toNat ≤ 57:=by
    have:=h c (by simp)
    simp only [digitB,inB,Bool.and_eq_true,decide_eq_true_eq] at this;omega
   have h8:10 ^ n ≤ 10 ^ 7:=Nat.pow_le_pow_right (by omega) (by simp at hl;omega)
   have hn:acc * 10 + (c.toNat - 48) < 10 ^ (n + 1):=by rw [Nat.pow_succ];omega
   simp only [parseUint10,hc,and_self,if_true,List.foldl_cons]
   have e7:(10:Nat) ^ 7 = 10000000:=rfl
   rw [if_neg (by omega),if_neg (by omega)]
   exact parse_digits r _ (n + 1) (fun d hd=>h d (by simp [hd])) hn (by simp at hl;omega)
theorem atoi_digits {l:List UInt8} (h:∀ c ∈ l,digitB c = true) (h0:l ≠ []) (h4:l.length ≤ 4):atoiAll l = .ok ((decN l:Nat):Int):=by
 cases l with
 | nil=>exact absurd rfl h0
 | cons c r=>
   have hc:48 ≤ c.toNat∧c.toNat ≤ 57:=by
    have:=h c (by simp)
    simp only [digitB,inB,Bool.and_eq_true,decide_eq_true_eq] at this;omega
   have hp:=parse_digits (c :: r) 0 0 h (by simp) (by simp at h4 ⊢;omega)
   have hm:parseMag (c :: r) = .ok (decN (c :: r)):=by simp only [parseMag,decN];rw [if_neg (by simp),hp]
   have hb:decN (c :: r) < 10 ^ 8:=by
    have key:∀ (l:List UInt8) (acc n:Nat),(∀ c ∈ l,digitB c = true)→acc < 10 ^ n→l.foldl (fun n c=>n * 10 + (c.toNat - 48)) acc < 10 ^ (n + l.length):=by
     intro l
     induction l with
     | nil=>intro acc n _ ha;simpa using ha
     | cons c r ih=>
       intro acc n h ha
       have hc:48 ≤ c.toNat∧c.toNat ≤ 57:=by
        have:=h c (by simp)
        simp only [digitB,inB,Bool.and_eq_true,decide_eq_true_eq] at this;omega
       have hn:acc * 10 + (c.toNat - 48) < 10 ^ (n + 1):=by rw [Nat.pow_succ];omega
       have:=ih _ (n + 1) (fun d hd=>h d (by simp [hd])) hn
       simp only [List.foldl_cons,List.length_cons]
       rwa [show n + (r.length + 1) = n + 1 + r.length by omega]
    have:=key (c :: r) 0 0 h (by simp)
    refine Nat.lt_of_lt_of_le this (Nat.pow_le_pow_right (by omega) (by simp at h4 ⊢;omega))
   have e8:(10:Nat) ^ 8 = 100000000:=rfl
   simp only [atoiAll]
   rw [if_neg (by omega),hm]
   simp only
   rw [if_neg (by omega),if_neg (by omega),if_neg (by omega)]
end Go.Proofs.LF
namespace Go.Proofs
def Tryz.laysGrow_ren:Go.Shelf.Ren:=⟨fun | 4=>228 | n=>n,fun | 22=>167 | 25=>171 | 3=>3 | 4=>4 | 9=>9 | 0=>0 | 20=>20 | n=>n,fun | n=>n⟩
theorem Tryz.laysGrow:Go.Proofs.Lays8.n4 Tryz.prog Tryz.laysGrow_ren:={
 mixed:=by kernel_rfl
 f4:=⟨Tryz.f228.name,by decide,Tryz.func228.trans (congrArg some (by kernel_rfl))⟩
 t0:=Tryz.underlying0
 a0:=Tryz.isAgg0
 z0:=Tryz.sizeOf0
 v0:=Tryz.zeroValue0
 t3:=Tryz.underlying3
 a3:=Tryz.isAgg3
 z3:=Tryz.sizeOf3
 v3:=Tryz.zeroValue3
 t4:=Tryz.underlying4
 a4:=Tryz.isAgg4
 z4:=Tryz.sizeOf4
 v4:=Tryz.zeroValue4
 t9:=Tryz.underlying9
 a9:=Tryz.isAgg9
 z9:=Tryz.sizeOf9
 v9:=Tryz.zeroValue9
 t20:=Tryz.underlying20
 a20:=Tryz.isAgg20
 z20:=Tryz.sizeOf20
 v20:=Tryz.zeroValue20
 t22:=Tryz.underlying167
 a22:=Tryz.isAgg167
 z22:=Tryz.sizeOf167
 v22:=Tryz.zeroValue167 }
namespace LF
open Go.RowKit Go.Sort
set_option maxHeartbeats 4000000
set_option maxRecDepth 100000
attribute [local go_sem] bs_toList bs_size bs_get
def rdLs:Rd (List Fl) 1 where
 R S w x cs:=∃ ap cp,cs = [.slice ap x.length cp]∧FlSl S w (.slice ap x.length cp) x
 len:=by rintro S w x cs ⟨_,_,rfl,_⟩;rfl
 one:=by rintro S w x cs ⟨_,_,rfl,_⟩ u hu;simp at hu;rcases hu with rfl;rfl
 agree:=by rintro S w w' x cs ⟨a,b,rfl,h1⟩ ha;exact ⟨a,b,rfl,h1.agree ha⟩
 wide:=by rintro S w w' x cs ⟨a,b,rfl,h1⟩ ha;exact ⟨a,b,rfl,h1.wide ha⟩
theorem growNil_any (n:Nat) (w:World) (hn:n ≤ 1000000):Calls Tryz.prog 228 #[.slice none 0 0, .int .i64 n] w fun e w'=>∃ v,e = .returned v∧w'.ownsRow w.heap.size 171 2 v 0 []∧Below w.heap.size w w':=by
 by_cases h0:n = 0
 · subst h0
   refine (Any8.slices_Grow_room Tryz.laysGrow none 0 0 0 w (Nat.le_refl _) (by omega) (by omega) (by omega)).mono ?_
   rintro e w' ⟨rfl,rfl⟩
   exact ⟨_,rfl,World.ownsRow_nil _ _ _ _,Below.refl _ _⟩
 · obtain ⟨i0,hi0,hz0,hz1,hz2⟩:=info_parts Tryz.info171''
   refine (Any8.slices_Grow_grow Tryz.laysGrow i0 _ hi0 hz0 (by rw [hz1];omega) none 0 0 n [] w (Nat.le_refl _) (by omega) (by rw [hz2];omega) (by omega) (by simp) (fun _=>rfl) (fun a h=>by cases h)).mono ?_
   rintro e w' ⟨rfl,rfl⟩
   refine ⟨_,rfl,?_,((Below.refl w.heap.size w).drew).alloc (Nat.le_refl _) _⟩
   have hge:=grownCap_ge w (0 + n) 0 171
   have hle:=grownCap_le_maxLen w (0 + n) 0 171 (by unfold maxLen;omega)
   exact owns_of_row (g:=w.heap.size) (cap:=grownCap w (0 + n) 0 171) (Nat.le_refl _) (heap_alloc_new w.drew _) (Nat.zero_le _) hle (by have e25:Tryz.laysGrow_ren.t 25 = 171:=rfl;simp only [Nat.zero_add] at hge hle;simp [Builtin.zeroCells,Value.cells,e25];omega) (by simp)
theorem concat_any (ls:List (List Fl)) (a:Option Addr) (c:Nat) (S:Nat→Prop) (w:World) (hv:LSl rdLs S w (.slice a ls.length c) ls) (hS:∀ b,S b→b < w.heap.size) (hl:ls.length ≤ 1000) (hn:(ls.map List.length).sum ≤ 100000) :
 Calls Tryz.prog 195 #[.slice a ls.length c] w fun e w'=>∃ a' c',e = .returned (.slice a' ls.flatten.length c')∧FlSl (fun b=>S b ∨ Rg w.heap.size w'.heap.size b) w' (.slice a' ls.flatten.length c') ls.flatten∧Below w.heap.size w w':=by
 obtain ⟨a',c',he,hc,hcm,hat⟩:=hv.at
 obtain ⟨rfl,rfl⟩:a = a'∧c = c':=by cases he;exact ⟨rfl,rfl⟩
 obtain ⟨i0,hi0,hz0,hz1,hz2⟩:=info_parts Tryz.info171''
 have HAT:=hid hat
 have HS:=hid hS
 have HN:=hid hn
 clear hat hS he hv hn
 unfold maxLen at hcm
 have hsum:∀ k,((ls.take k).map List.length).sum ≤ 100000:=fun k=>by
  have h1:=HN.out
  have:(ls.map List.length).sum = ((ls.take k).map List.length).sum + ((ls.drop k).map List.length).sum:=by
   rw [← List.sum_append,← List.map_append,List.take_append_drop]
  omega
 have HSUM:=hid hsum
 clear hsum
 go_enter Tryz.func195,Tryz.ntmps195
 go_wp2_with fail
 go_loopw [3,11] (fun sz i wr=>∃ k:Nat,k ≤ ls.length∧i = .int .i64 k∧sz = .int .i64 (((ls.take k).map List.length).sum:Nat)∧Below w.heap.size w wr) (fun _ i _=>ls.length - (intOf i).toNat)
 case atStart=>exact ⟨0,by omega,rfl,by simp,Below.refl _ _⟩
 case round=>
  obtain ⟨k,hk,rfl,rfl,hB⟩:=hrel
  have hsz:=hB.size
  have hs1:=HSUM.out k
  by_cases hlt:k < ls.length
  · have hlt':(k:Int) < (ls.length:Int):=by omega
    obtain ⟨g,o,cs1,rfl,hg,⟨ap,cp,rfl,hF⟩,hcell⟩:=HAT.out k hlt
    have c0:=(Ag_b hB HS.out).cell hg (hcell 0 _ rfl)
    rw [Nat.mul_one,Nat.add_zero] at c0
    have hs2:=HSUM.out (k + 1)
    have hst:((ls.take (k + 1)).map List.length).sum = ((ls.take k).map List.length).sum + ls[k].length:=by
     rw [List.take_succ_eq_append_getElem hlt,List.map_append,List.sum_append];simp only [List.map_cons,List.map_nil,List.sum_cons,List.sum_nil,Nat.add_zero]
    obtain ⟨s1,hs⟩:∃ s,((ls.take k).map List.length).sum = s:=⟨_,rfl⟩
    rw [hs] at hst hs1 ⊢
    rw [hst] at hs2
    have hnn:¬ ((s1:Int) + (ls[k].length:Int) < 0):=by omega
    have HST:=hid hst
    clear hst hcell hs
    go_wp2_with fail
    go_roundw
    case rel=>exact ⟨k + 1,by omega,by go_num,by rw [HST.out];go_num,hB⟩
    case measure=>simp [intOf];omega
  · obtain rfl:k = ls.length:=by omega
    have hlt':¬ (ls.length:Int) < (ls.length:Int):=by omega
    rw [List.take_length] at *
    obtain ⟨s1,hs⟩:∃ s,(ls.map List.length).sum = s:=⟨_,rfl⟩
    rw [hs] at hs1 ⊢
    go_wp2_with fail
    refine (growNil_any s1 wr (by omega)).mono ?_
    rintro e w1 ⟨v1,rfl,how1,hb1⟩
    have hB1:=hB.trans (hb1.mono hsz)
    have how1:w1.ownsRow w.heap.size 171 2 v1 0 []:=owns_base how1 (fun g hg=>by have:=(how1.lt g hg).1;omega)
    have HOW1:=hid how1
    have HB1:=hid hB1
    clear how1 hb1 hB1 hB
    go_wp2_with fail
    go_loopw [6,27] (fun v i wr=>∃ (k:Nat) (cs:List Value),k ≤ ls.length∧i = .int .i64 k∧wr.ownsRow w.heap.size 171 2 v (ls.take k).flatten.length cs∧LCs rdFl (fun b=>S b) wr (ls.take k).flatten cs∧Below w.heap.size w wr) (fun _ i _=>ls.length - (intOf i).toNat)
    case atStart=>exact ⟨0,[],by omega,rfl,by simpa using HOW1.out,rfl,HB1.out⟩
    case round=>
     obtain ⟨k,cs,hk,rfl,hown,hlc,hB⟩:=hrel
     have hsz2:=hB.size
     by_cases hlt:k < ls.length
     · have hlt':(k:Int) < (ls.length:Int):=by omega
       obtain ⟨g,o,cs1,rfl,hg,⟨ap,cp,rfl,hF⟩,hcell⟩:=HAT.out k hlt
       have c0:=(Ag_b hB HS.out).cell hg (hcell 0 _ rfl)
       rw [Nat.mul_one,Nat.add_zero] at c0
       obtain ⟨ds,hd1,hd2⟩:=hF
       have hcap:=SlC.caps hd1
       have hnews:=SlC.news hd1 (Ag_b hB HS.out)
       have hone:=hd2.one
       have hlen:=hd1.1
       have hfl:(ls.take k).flatten.length = ((ls.take k).map List.length).sum:=List.length_flatten
       have hfl2:(ls.take (k + 1)).flatten.length = (ls.take k).flatten.length + ls[k].length:=by
        rw [List.take_succ_eq_append_getElem hlt,List.flatten_append];simp
       have hs2:=HSUM.out (k + 1)
       rw [← List.length_flatten,hfl2] at hs2
       have HN2:=hid hnews
       have HD2:=hid (hd2.agree (Ag_b hB HS.out))
       have HO:=hid hone
       have HL:=hid hlen
       have HFL:=hid hfl2
       have HLC:=hid hlc
       obtain ⟨q,hq⟩:∃ q,(ls.take k).flatten.length = q:=⟨_,rfl⟩
       rw [hq] at hown hs2
       have HQ:=hid hq
       have hcapn:ap = none→ls[k].length = 0∧cp = 0:=hcap.2.2
       have HCN:=hid hcapn
       clear hcell hd1 hd2 hnews hone hlen hfl hfl2 hlc hq hcap hcapn
       go_wp2_with (at_builtin;refine (wpList_append_ao _ rfl _ _ _ rfl w.heap.size 171 i0 _ 2 48 Tryz.underlying167 hi0 hz0 hz1 hz2 rfl (by omega) u6 q cs rfl hown ap ls[k].length cp ds rfl HL.out HCN.out HN2.out HO.out (by unfold maxLen;omega) (by omega) hsz2 ?_);intro a4 c4 w4 hown4 hgrow4 hat4)
       have hag:Agree S wr w4:=fun b hb=>hgrow4.block b (by have:=HS.out b hb;omega) (fun e=>by have:=(hown.lt b e.symm).1;have:=HS.out b hb;omega)
       have hm:=(HLC.out.agree hag).app (HD2.out.agree hag)
       have hfe:(ls.take (k + 1)).flatten = (ls.take k).flatten ++ ls[k]:=by
        rw [List.take_succ_eq_append_getElem hlt,List.flatten_append];simp
       have hB4:=hB.grown hgrow4 hsz2 (fun k hk=>(hown.lt k hk).1)
       go_roundw
       case rel=>exact ⟨k + 1,cs ++ ds,by omega,by go_num,by rw [HFL.out,HQ.out];exact hown4,by rw [hfe];exact hm,hB4⟩
       case measure=>simp [intOf];omega
     · obtain rfl:k = ls.length:=by omega
       have hlt':¬ (ls.length:Int) < (ls.length:Int):=by omega
       rw [List.take_length] at hown hlc
       obtain ⟨a9,c9,rfl,_,_⟩:=owns_shape hown
       go_wp2_with fail
       go_ret
       have hq:ls.flatten.length = s1:=by rw [List.length_flatten,hs]
       exact ⟨a9,c9,by simp [hq],⟨cs,by have:=(SlC.of_owns hown).wide (S':=fun b=>S b ∨ Rg w.heap.size wr.heap.size b) (fun b hb=>Or.inr hb);simp only [hq] at this ⊢;exact this,hlc.wide (S':=fun b=>S b ∨ Rg w.heap.size wr.heap.size b) (fun b hb=>Or.inl hb)⟩,hB⟩
end LF
end Go.Proofs
namespace Go.Proofs.LF
open Go.RowKit Go.Sort
set_option maxHeartbeats 4000000
set_option maxRecDepth 100000
attribute [local go_sem] bs_toList bs_size bs_get
theorem isKeyP_any (n:List UInt8) (l:List Int) (an ab:Option Addr) (cn sl cb K:Nat) (k:Ky) (S:Nat→Prop) (w:World) (hl:Ints S w (.slice an l.length cn) l) (hS:∀ b,S b→b < w.heap.size)
 (hK:K < w.heap.size) (h0:w.cell? ⟨K,0,none⟩ = some (.string (bs k.n))) (h1:w.cell? ⟨K,1,none⟩ = some (.bool k.h)) (h2:w.cell? ⟨K,2,none⟩ = some (.int .i64 k.x)) :
 Calls Tryz.prog 135 #[.agg #[.string (bs n), .slice an l.length cn, .slice ab sl cb], .pointer (some ⟨K,0,none⟩)] w fun e w'=>e = .returned (.bool (decide (kyOf n l = k)))∧Below w.heap.size w w':=by
 have hb:Below w.heap.size w (w.alloc (.cells #[.string (bs n), .slice an l.length cn, .slice ab sl cb] 85)):=(Below.refl _ _).alloc (nl_ _) _
 have HB:=hid hb
 have HL:=hid hl
 have HS:=hid hS
 clear hl hS hb
 obtain ⟨kk,hkk⟩:∃ kk,kyOf n l = kk:=⟨_,rfl⟩
 have hdec:decide (kyOf n l = k) = (kk.n == k.n && (kk.h == k.h && kk.x == k.x)):=by
  rw [hkk]
  obtain ⟨an,ah,ax⟩:=kk
  obtain ⟨bn,bh,bx⟩:=k
  by_cases h1:an = bn <;> by_cases h2:ah = bh <;> by_cases h3:ax = bx <;> simp [h1,h2,h3]
 have HDEC:=hid hdec
 have HKK:=hid hkk
 clear hdec hkk
 cases hn:(kk.n == k.n) <;> cases hh:(kk.h == k.h) <;> cases hx:(kk.x == k.x)
 all_goals
  go_enter Tryz.func135,Tryz.ntmps135
  go_wp2_with fail
  go_region_held3 (fun w'=>w'.cell? ⟨w.heap.size,0,none⟩ = some (.string (bs n))∧w'.cell? ⟨w.heap.size,1,none⟩ = some (.slice an l.length cn)∧w'.cell? ⟨w.heap.size,2,none⟩ = some (.slice ab sl cb)∧w'.cell? ⟨K,0,none⟩ = some (.string (bs k.n))∧w'.cell? ⟨K,1,none⟩ = some (.bool k.h)∧w'.cell? ⟨K,2,none⟩ = some (.int .i64 k.x))
   (first
     | (go_split_ands
        with_reducible refine ⟨bc_ hb1 ?_ ?_,bc_ hb1 ?_ ?_,bc_ hb1 ?_ ?_,bc_ hb1 ?_ ?_,bc_ hb1 ?_ ?_,bc_ hb1 ?_ ?_⟩
        all_goals (first | (with_reducible assumption) | (simp;done) | (simp;omega)))
     | go_keep)
   (first
     | (go_at_call 136; refine (key_any n l an cn (.slice ab sl cb) S _ (HL.out.agree (Ag_b HB.out.drew HS.out)) (fun b hb => by have := HS.out b hb; simp; omega) ab sl cb rfl).mono ?_
        rintro e w1 ⟨rfl,hb1⟩
        rw [HKK.out]))
  go_wp2_with fail
  go_ret
  have hb1':Below (w.alloc (.cells #[.string (bs n), .slice an l.length cn, .slice ab sl cb] 85)).heap.size (w.alloc (.cells #[.string (bs n), .slice an l.length cn, .slice ab sl cb] 85)) w1:=⟨hb1.os,hb1.tape,hb1.output,hb1.size,hb1.block⟩
  exact ⟨by rw [HDEC.out,hn,hh,hx];simp,HB.out.trans (hb1'.mono (by simp))⟩
theorem isKP_node {S:Nat→Prop} {w:World} {y:Fo} {a:Option Addr} {c:Nat} {cs:List Value} {K:Nat} {k:Ky} (hs:SlC S w 3 (.slice a y.len c) y.len cs) (hf:FCs S w y cs) (hS:∀ b,S b→b < w.heap.size)
 (hK:K < w.heap.size) (h0:w.cell? ⟨K,0,none⟩ = some (.string (bs k.n))) (h1:w.cell? ⟨K,1,none⟩ = some (.bool k.h)) (h2:w.cell? ⟨K,2,none⟩ = some (.int .i64 k.x)) :
 ∀ i,i < y.len→PredC 135 [.pointer (some ⟨K,0,none⟩)] w [elemV 3 cs i] (decide (keyAt y i = some k)):=by
 intro i hi W hW
 obtain ⟨n,l,s,r,hd⟩:=Fo.drop_lt hi
 have hf':=hf.drop (i:=i)
 rw [hd] at hf'
 obtain ⟨vn,vs,cs',he,hI,⟨ds,hsb,_⟩,_⟩:=hf'
 obtain ⟨an,cn,rfl,_⟩:=SlC.shape hI
 obtain ⟨ab,cb,rfl,_⟩:=SlC.shape hsb
 have e:∀ j,cs[i * 3 + j]? = (Value.string (bs n) :: Value.slice an l.length cn :: Value.slice ab s.len cb :: cs')[j]?:=fun j=>by rw [← he,List.getElem?_drop]
 have hel:elemV 3 cs i = .agg #[.string (bs n), .slice an l.length cn, .slice ab s.len cb]:=by
  have e0:=e 0
  have e1:=e 1
  have e2:=e 2
  rw [Nat.add_zero] at e0
  simp [elemV,List.range_succ,List.getD_eq_getElem?_getD,e0,e1,e2]
 have hk:keyAt y i = some (kyOf n l):=by simp [keyAt,hd]
 rw [hel,hk]
 have hag:Agree S w W:=Ag_b hW hS
 have:=isKeyP_any n l an ab cn s.len cb K k S W (SlC.agree hI hag) (fun b hb=>by have:=hS b hb;have:=hW.size;omega) (by have:=hW.size;omega) (bc_ hW hK h0) (bc_ hW hK h1) (bc_ hW hK h2)
 simpa using this
theorem enters135:Enters 135:=by intro args W;simp [go_sem]
end Go.Proofs.LF
namespace Go.Proofs.LF
theorem u16_range {n:Int} (h:(Lit.int .u16 n).wf = true):0 ≤ n∧n ≤ 65535:=by
 simpa [Lit.wf,IntKind.min,IntKind.max,IntKind.signed,IntKind.bits] using h
end Go.Proofs.LF
namespace Go.Proofs.LF
theorem runN_app {p:UInt8→Bool}:∀ {a b:List UInt8} {m:Nat},(∀ c ∈ a,p c = true)→a.length ≤ m→(a.length = m ∨ ∀ c,b.head? = some c→p c = false)→runN p m (a ++ b) = a.length
 | [],b,0,_,_,_=>by simp [runN]
 | [],[],m + 1,_,_,_=>by simp [runN]
 | [],c :: b,m + 1,_,_,h=>by
   have h:=h.resolve_left (by simp) c rfl
   simp [runN,h]
 | c :: a,b,0,_,h,_=>by simp at h
 | c :: a,b,m + 1,h1,h2,h3=>by
   have hc:=h1 c (by simp)
   simp only [List.length_cons] at h2 h3
   simp only [List.cons_append,runN,hc,if_true,List.length_cons]
   rw [runN_app (fun d hd=>h1 d (by simp [hd])) (by omega) (h3.imp (fun h=>by omega) id)]
theorem dec_head:∀ (m u:Nat),u < m→0 < u→∃ c r,Lib.decDigits u = c :: r∧c ≠ 48
 | 0,_,h,_=>by omega
 | m + 1,u,h,h0=>by
   rw [Lib.decDigits]
   by_cases hu:u < 10
   · rw [dif_pos hu]
     refine ⟨_,[],rfl,fun e=>?_⟩
     have:=congrArg UInt8.toNat e
     rw [UInt8.toNat_ofNat'] at this
     simp at this
     omega
   · rw [dif_neg hu]
     obtain ⟨c,r,h1,h2⟩:=dec_head m (u / 10) (by omega) (by omega)
     rw [h1]
     exact ⟨c,_,rfl,h2⟩
theorem itoa_rd {x:Int} (h0:0 ≤ x) (h1:x ≤ 9999) (T:List UInt8) (hT:∀ c,T.head? = some c→digitB c = false):runN digitB (mostD (Lib.itoa x ++ T)) (Lib.itoa x ++ T) = (Lib.itoa x).length∧(Lib.itoa x).length ≠ 0∧(decN (Lib.itoa x):Int) = x:=by
 have hx:Lib.itoa x = Lib.decDigits x.toNat:=by unfold Lib.itoa;rw [if_neg (by omega)]
 obtain ⟨d1,d2⟩:=decN_dec (x.toNat + 1) x.toNat (by omega)
 have hl:=itoa_len h0 h1
 rw [hx] at hl ⊢
 by_cases hz:x.toNat = 0
 · rw [hz] at d1 d2 hl ⊢
   have e:Lib.decDigits 0 = [48]:=by rw [Lib.decDigits];rfl
   rw [e] at d1 d2 ⊢
   refine ⟨?_,by simp,by rw [d1];omega⟩
   rw [show mostD ([48] ++ T) = 1 by simp [mostD]]
   exact runN_app (a:=[48]) d2 (by simp) (.inl rfl)
 · obtain ⟨c,r,e,hc⟩:=dec_head (x.toNat + 1) x.toNat (by omega) (by omega)
   refine ⟨?_,by rw [e];simp,by rw [d1];omega⟩
   have hm:mostD (Lib.decDigits x.toNat ++ T) = 4:=by
    rw [mostD,if_neg (by rw [e];simpa using hc)]
   rw [hm]
   exact runN_app d2 hl (.inr hT)
theorem rdNums_txt {rest:List UInt8}:∀ (l:List Int) (m:Nat),(∀ x ∈ l,0 ≤ x∧x ≤ 9999)→l.length ≤ m→rdNums m ((l.map fun i=>32 :: Lib.itoa i).flatten ++ 10 :: rest) = (l,(l.map fun i=>32 :: Lib.itoa i).flatten.length,true)
 | [],0,_,_=>by simp [rdNums]
 | [],m + 1,_,_=>by simp [rdNums,runN,blankB]
 | x :: l,0,_,h=>by simp at h
 | x :: l,m + 1,h,hl=>by
   have hx:=h x (by simp)
   have ih:=rdNums_txt (rest:=rest) l m (fun z hz=>h z (by simp [hz])) (by simpa using hl)
   simp only [List.map_cons,List.flatten_cons,List.append_assoc,List.cons_append]
   obtain ⟨T,hT⟩:∃ T,(l.map fun i=>32 :: Lib.itoa i).flatten ++ 10 :: rest = T:=⟨_,rfl⟩
   rw [hT] at ih ⊢
   have hTd:∀ c,T.head? = some c→digitB c = false:=by
    intro c hc
    rw [← hT] at hc
    cases l with
    | nil=>simp at hc;subst hc;decide
    | cons z l=>simp at hc;subst hc;decide
   obtain ⟨i1,i2,i3⟩:=itoa_rd hx.1 hx.2 T hTd
   have hb:runN blankB 1 (32 :: (Lib.itoa x ++ T)) ≠ 0:=by simp [runN,blankB]
   rw [rdNums]
   simp only [List.drop_succ_cons,List.drop_zero]
   rw [if_neg hb,i1,if_neg i2,List.take_left,List.drop_left,ih,i3]
   simp only [List.length_cons,List.length_append,Prod.mk.injEq,and_true,true_and]
   omega
theorem badNm_small {n:List UInt8} (h:badNm n = false):∀ c ∈ n,smallB c = true:=by
 intro c hc
 simp only [badNm,Bool.or_eq_false_iff,List.any_eq_false,Bool.or_eq_true,decide_eq_true_eq,not_or] at h
 have:=h.1.1 c hc
 simp only [smallB,inB,Bool.and_eq_true,decide_eq_true_eq]
 omega
theorem rdLine_txt {x:NdD} (hx:OkN x) {dp:Nat} (hd:x.up.length ≤ dp) (rest:List UInt8):rdLine dp (lineB x ++ rest) = (x.up.length,x.n,x.l,(lineB x).length - 1,true):=by
 obtain ⟨h1,h2,h3⟩:=hx
 have hl:=badNm_len h1
 have hs:=badNm_small h1
 have hn:=badNs_mem h3
 have e:lineB x ++ rest = List.replicate x.up.length 32 ++ (x.n ++ ((x.l.map fun i=>32 :: Lib.itoa i).flatten ++ 10 :: rest)):=by
  simp [lineB,join_words]
 have hlen:(lineB x).length - 1 = x.up.length + x.n.length + (x.l.map fun i=>32 :: Lib.itoa i).flatten.length:=by
  simp [lineB,join_words];omega
 obtain ⟨T,hT⟩:∃ T,(x.l.map fun i=>32 :: Lib.itoa i).flatten ++ 10 :: rest = T:=⟨_,rfl⟩
 have hnb:∀ c,(x.n ++ T).head? = some c→blankB c = false:=by
  intro c hc
  cases hxn:x.n with
  | nil=>rw [hxn] at hl;simp at hl
  | cons a r=>
    rw [hxn] at hc
    simp at hc
    subst hc
    have:=hs a (by rw [hxn];simp)
    simp only [smallB,inB,Bool.and_eq_true,decide_eq_true_eq] at this
    simp only [blankB,beq_eq_false_iff_ne]
    rintro rfl
    simp at this
 have hTs:∀ c,T.head? = some c→smallB c = false:=by
  intro c hc
  rw [← hT] at hc
  cases hxl:x.l with
  | nil=>rw [hxl] at hc;simp at hc;subst hc;decide
  | cons z l=>rw [hxl] at hc;simp at hc;subst hc;decide
 have a1:runN blankB dp (List.replicate x.up.length 32 ++ (x.n ++ T)) = x.up.length:=by
  have:=runN_app (p:=blankB) (a:=List.replicate x.up.length 32) (b:=x.n ++ T) (m:=dp) (fun c hc=>by rw [List.eq_of_mem_replicate hc];decide) (by simpa using hd) (.inr hnb)
  simpa using this
 have a2:runN smallB 8 (x.n ++ T) = x.n.length:=runN_app hs hl.2 (.inr hTs)
 have a3:=rdNums_txt (rest:=rest) x.l 4 hn h2
 rw [hT] at a3
 rw [e,hT,rdLine,hlen]
 dsimp only
 have hdr:(List.replicate x.up.length (32:UInt8) ++ (x.n ++ T)).drop x.up.length = x.n ++ T:=by
  rw [List.drop_left' (by simp)]
 rw [a1,hdr,a2,if_neg (by omega),List.take_left,List.drop_left,a3]
 have:((x.n ++ T).drop (x.n.length + (x.l.map fun i=>32 :: Lib.itoa i).flatten.length)).head? = some 10:=by
  rw [← List.drop_drop,List.drop_left,← hT,List.drop_left];rfl
 dsimp only
 rw [this]
 simp
end Go.Proofs.LF
namespace Go.Proofs.LF
open Go.RowKit Go.Sort
set_option maxHeartbeats 4000000
set_option maxRecDepth 100000
attribute [local go_sem] bs_toList bs_size bs_get
theorem key_cells {p:List Ky} {k:Nat} (h:k < p.length):(p.flatMap Ky.cells)[k * 3]? = some (.string (bs p[k].n))∧(p.flatMap Ky.cells)[k * 3 + 1]? = some (.bool p[k].h)∧(p.flatMap Ky.cells)[k * 3 + 2]? = some (.int .i64 p[k].x):=by
 have e:p.flatMap Ky.cells = (p.take k).flatMap Ky.cells ++ (Ky.cells p[k] ++ (p.drop (k + 1)).flatMap Ky.cells):=by
  conv=>lhs;rw [← List.take_append_drop k p,List.drop_eq_getElem_cons h]
  rw [List.flatMap_append,List.flatMap_cons]
 have hl:((p.take k).flatMap Ky.cells).length = k * 3:=by rw [len_keys,List.length_take];congr 1;omega
 rw [e]
 refine ⟨?_,?_,?_⟩ <;> rw [List.getElem?_append_right (by omega),hl] <;> simp [Ky.cells]
theorem cmpPaths_any (p q:List Ky) (ap aq:Option Addr) (cp cq:Nat) (S:Nat→Prop) (w:World) (hp:Pth S w (.slice ap p.length cp) p) (hq:Pth S w (.slice aq q.length cq) q) (hS:∀ b,S b→b < w.heap.size) (lp:p.length ≤ 1000) (lq:q.length ≤ 1000) :
 Calls Tryz.prog 191 #[.slice ap p.length cp, .slice aq q.length cq, .func (.func 183) #[] #[]] w fun e w'=>e = .returned (.int .i64 (cmpP p q))∧Below w.heap.size w w':=by
 go_enter Tryz.func191,Tryz.ntmps191
 go_wp2_with fail
 go_loopw [13] (fun i wr=>∃ k:Nat,k ≤ p.length∧k ≤ q.length∧i = .int .i64 k∧Hid (cmpP p q = cmpP (p.drop k) (q.drop k))∧Below w.heap.size w wr) (fun i _=>p.length - (intOf i).toNat)
 case atStart=>exact ⟨0,by omega,by omega,rfl,by simp [Hid],Below.refl _ _⟩
 case round=>
  obtain ⟨k,hk,hk2,rfl,hN,hB⟩:=hrel
  have hsz:=hB.size
  by_cases hA:k < p.length
  · obtain ⟨g,o,rfl,hg,_,_,hcell⟩:=SlC.cells hp (by omega)
    obtain ⟨k0,k1,k2⟩:=key_cells hA
    have ha:=Ag_b hB hS
    have c0:=ha.cell hg (hcell _ _ k0)
    have c1:=ha.cell hg (hcell _ _ k1)
    have c2:=ha.cell hg (hcell _ _ k2)
    rw [← Nat.add_assoc] at c1 c2
    by_cases hB2:k < q.length
    · have a2:¬ (q.length:Int) ≤ (k:Int):=by omega
      have a3:(k:Int) < (q.length:Int):=by omega
      obtain ⟨g',o',rfl,hg',_,_,hcell'⟩:=SlC.cells hq (by omega)
      obtain ⟨k0',k1',k2'⟩:=key_cells hB2
      have hbx:Below w.heap.size w (wr.alloc (.cells #[.string (bs p[k].n), .bool p[k].h, .int .i64 p[k].x] 71)):=hB.alloc hsz _
      have hax:=Ag_b hbx hS
      have d0:=hax.cell hg' (hcell' _ _ k0')
      have d1:=hax.cell hg' (hcell' _ _ k1')
      have d2:=hax.cell hg' (hcell' _ _ k2')
      rw [← Nat.add_assoc] at d1 d2
      have hd:cmpP (p.drop k) (q.drop k) = if byK p[k] q[k] ≠ 0 then byK p[k] q[k] else cmpP (p.drop (k + 1)) (q.drop (k + 1)):=by
       rw [List.drop_eq_getElem_cons hA,List.drop_eq_getElem_cons hB2];rfl
      have HD:=hid hd
      have HBX:=hid hbx
      clear hcell k0 k1 k2 hcell' k0' k1' k2' hd hbx hax
      go_wp2_with fail
      refine (byKey_any p[k] q[k] _).mono ?_
      rintro e w2 ⟨rfl,hb2⟩
      have hz2:=HBX.out.size
      have HB2:=hid (HBX.out.trans ((((Below.refl _ _).alloc (nl_ _) _).trans (hb2.mono (by simp))).mono hz2))
      clear hz2 hb2
      by_cases he:byK p[k] q[k] = 0
      · have he':(byK p[k] q[k] != 0) = false:=by simpa using he
        have HE:=hid he
        clear he
        go_wp2_with fail
        go_roundw
        case rel=>exact ⟨k + 1,by omega,by omega,by go_num,by rw [Hid,hN.out,HD.out,if_neg (by simpa using HE.out)],HB2.out⟩
        case measure=>simp [intOf];omega
      · have he':(byK p[k] q[k] != 0) = true:=by simpa using he
        have HE:=hid he
        clear he
        go_wp2_with fail
        go_ret
        exact ⟨ret_int (by rw [hN.out,HD.out,if_pos (by simpa using HE.out)]),HB2.out⟩
    · have a2:(q.length:Int) ≤ (k:Int):=by omega
      have hd:cmpP (p.drop k) (q.drop k) = 1:=by
       rw [List.drop_eq_getElem_cons hA,List.drop_eq_nil_of_le (by omega:q.length ≤ k)];rfl
      clear hcell k0 k1 k2
      go_wp2_with fail
      go_ret
      exact ⟨ret_int (by rw [hN.out,hd]),hB.alloc hsz _⟩
  · have hA':¬ (k:Int) < (p.length:Int):=by omega
    obtain rfl:k = p.length:=by omega
    by_cases hB2:p.length < q.length
    · have a2:(p.length:Int) < (q.length:Int):=by omega
      have hd:cmpP (p.drop p.length) (q.drop p.length) = -1:=by
       rw [List.drop_eq_getElem_cons hB2,List.drop_length];rfl
      go_wp2_with fail
      go_ret
      exact ⟨ret_int (by rw [hN.out,hd]),hB⟩
    · have a2:¬ (p.length:Int) < (q.length:Int):=by omega
      have hd:cmpP (p.drop p.length) (q.drop p.length) = 0:=by
       rw [List.drop_length,List.drop_eq_nil_of_le (by omega)];rfl
      go_wp2_with fail
      go_ret
      exact ⟨ret_int (by rw [hN.out,hd]),hB⟩
theorem byPath_any (p q:List Ky) (ap aq:Option Addr) (cp cq:Nat) (S:Nat→Prop) (w:World) (hp:Pth S w (.slice ap p.length cp) p) (hq:Pth S w (.slice aq q.length cq) q) (hS:∀ b,S b→b < w.heap.size) (lp:p.length ≤ 1000) (lq:q.length ≤ 1000) :
 Calls Tryz.prog 103 #[.slice ap p.length cp, .slice aq q.length cq] w fun e w'=>e = .returned (.int .i64 (cmpP p q))∧Below w.heap.size w w':=by
 have H:=hid (cmpPaths_any p q ap aq cp cq S w hp hq hS lp lq)
 go_enter Tryz.func103,Tryz.ntmps103
 go_wp2_with fail
 refine H.out.mono ?_
 rintro e w1 ⟨rfl,hb1⟩
 go_wp2_with fail
 go_ret
 exact ⟨rfl,hb1⟩
end Go.Proofs.LF
namespace Go.Proofs.LF
open Go.RowKit Go.Sort
set_option maxHeartbeats 4000000
set_option maxRecDepth 100000
attribute [local go_sem] bs_toList bs_size bs_get
theorem cmpKN_any (n:List UInt8) (l:List Int) (an ab:Option Addr) (cn sl cb:Nat) (k:Ky) (S:Nat→Prop) (w:World) (hl:Ints S w (.slice an l.length cn) l) (hS:∀ b,S b→b < w.heap.size) :
 Calls Tryz.prog 204 #[.agg #[.string (bs n), .slice an l.length cn, .slice ab sl cb], .agg #[.string (bs k.n), .bool k.h, .int .i64 k.x]] w fun e w'=>e = .returned (.int .i64 (byK (kyOf n l) k))∧Below w.heap.size w w':=by
 obtain ⟨W,hW⟩:∃ W,W = (w.alloc (.cells #[.string (bs n), .slice an l.length cn, .slice ab sl cb] 85)).alloc (.cells #[.string (bs k.n), .bool k.h, .int .i64 k.x] 71):=⟨_,rfl⟩
 have hb:Below w.heap.size w W:=by rw [hW];exact ((Below.refl _ _).alloc (nl_ _) _).alloc (by simp) _
 have hWs:W.heap.size = w.heap.size + 1 + 1:=by rw [hW];simp
 have HB:=hid hb
 have HWS:=hid hWs
 have HL:=hid (hl.agree (Ag_b hb hS))
 have HS:=hid hS
 clear hl hS hb hWs
 obtain ⟨kk,hkk⟩:∃ kk,kyOf n l = kk:=⟨_,rfl⟩
 have HKK:=hid hkk
 rw [hkk]
 clear hkk
 subst hW
 go_enter Tryz.func204,Tryz.ntmps204
 go_wp2_with fail
 go_region_held3 (fun w'=>w'.cell? ⟨w.heap.size,0,none⟩ = some (.string (bs n))∧w'.cell? ⟨w.heap.size,1,none⟩ = some (.slice an l.length cn)∧w'.cell? ⟨w.heap.size,2,none⟩ = some (.slice ab sl cb)∧w'.cell? ⟨w.heap.size + 1,0,none⟩ = some (.string (bs k.n))∧w'.cell? ⟨w.heap.size + 1,1,none⟩ = some (.bool k.h)∧w'.cell? ⟨w.heap.size + 1,2,none⟩ = some (.int .i64 k.x))
  (first
    | (go_split_ands
       with_reducible refine ⟨bc_ hb1 ?_ ?_,bc_ hb1 ?_ ?_,bc_ hb1 ?_ ?_,bc_ hb1 ?_ ?_,bc_ hb1 ?_ ?_,bc_ hb1 ?_ ?_⟩
       all_goals (first | (with_reducible assumption) | (simp;done) | (simp;omega)))
    | (go_split_ands
       with_reducible refine ⟨bc_ hb2 ?_ ?_,bc_ hb2 ?_ ?_,bc_ hb2 ?_ ?_,bc_ hb2 ?_ ?_,bc_ hb2 ?_ ?_,bc_ hb2 ?_ ?_⟩
       all_goals (first | (with_reducible assumption) | (have:=hb1.size;simp at this ⊢;omega)))
    | go_keep)
  (first
    | (go_at_call 136; refine (key_any n l an cn (.slice ab sl cb) S _ (HL.out.agree (Ag_b (Below.refl _ _).drew (fun b hb => by have := HS.out b hb; have := HWS.out; omega))) (fun b hb => by have := HS.out b hb; simp; omega) ab sl cb rfl).mono ?_
       rintro e w1 ⟨rfl,hb1⟩
       rw [HKK.out])
    | (go_at_call 183; refine (byKey_any kk k _).mono ?_
       rintro e w2 ⟨rfl,hb2⟩))
 go_wp2_with fail
 go_ret
 exact ⟨rfl,HB.out.drew.trans ((hb1.mono (show w.heap.size ≤ _ by simp;omega)).trans (hb2.mono (show w.heap.size ≤ _ by have:=hb1.size;simp at this;omega)))⟩
def keyD (y:Fo) (i:Nat):Ky:=(keyAt y i).getD ky0
def fndN (y:Fo) (k:Ky):Nat:=bsF (fun h=>decide (byK (keyD y h) k < 0)) 0 y.len
theorem bsearchN_any (y:Fo) (k:Ky) (al:Option Addr) (cl:Nat) (S:Nat→Prop) (w:World) (hv:FSl S w (.slice al y.len cl) y) (hS:∀ b,S b→b < w.heap.size) (hl:y.len ≤ 1000) :
 Calls Tryz.prog 203 #[.slice al y.len cl, .agg #[.string (bs k.n), .bool k.h, .int .i64 k.x], .func (.func 204) #[] #[]] w fun e w'=>e = .returned (.tuple #[.int .i64 (fndN y k), .bool (decide (fndN y k < y.len) && decide (byK (keyD y (fndN y k)) k = 0))])∧Below w.heap.size w w':=by
 obtain ⟨a',c',he,hc,hcm,hat⟩:=hv.at
 obtain ⟨rfl,rfl⟩:al = a'∧cl = c':=by cases he;exact ⟨rfl,rfl⟩
 have HAT:=hid hat
 have HS:=hid hS
 clear hat hS he hv
 unfold maxLen at hcm
 have hcall:∀ (i:Nat) (hi:i < y.len),∃ g o n l s an cn ab cb,al = some ⟨g,o,none⟩∧keyD y i = kyOf n l∧g < w.heap.size∧∀ W,Below w.heap.size w W→W.cell? ⟨g,o + i * 3,none⟩ = some (.string (bs n))∧W.cell? ⟨g,o + i * 3 + 1,none⟩ = some (.slice an l.length cn)∧W.cell? ⟨g,o + i * 3 + 2,none⟩ = some (.slice ab (Fo.len s) cb) ∧
  Hid (Calls Tryz.prog 204 #[.agg #[.string (bs n), .slice an l.length cn, .slice ab (Fo.len s) cb], .agg #[.string (bs k.n), .bool k.h, .int .i64 k.x]] W fun e w'=>e = .returned (.int .i64 (byK (kyOf n l) k))∧Below W.heap.size W w'):=by
  intro i hi
  obtain ⟨g,o,n,l,s,r,an,cn,ab,cb,rfl,hg,hd,m0,m1,m2,hI,hF⟩:=HAT.out i hi
  refine ⟨g,o,n,l,s,an,cn,ab,cb,rfl,by simp [keyD,keyAt,hd],HS.out g hg,fun W hB=>?_⟩
  have ha:Agree S w W:=Ag_b hB HS.out
  refine ⟨ha.cell hg m0,ha.cell hg m1,ha.cell hg m2,cmpKN_any n l an ab cn s.len cb k S W (hI.agree ha) (fun b hb=>by have:=hB.size;have:=HS.out b hb;omega)⟩
 have HC:=hid hcall
 clear hcall HAT
 have hb0:Below w.heap.size w (w.alloc (.cells #[.string (bs k.n), .bool k.h, .int .i64 k.x] 71)):=(Below.refl _ _).alloc (nl_ _) _
 have HB0:=hid hb0
 have HN0:=hid (heap_alloc_new w (.cells #[.string (bs k.n), .bool k.h, .int .i64 k.x] 71))
 clear hb0
 go_enter Tryz.func203,Tryz.ntmps203
 go_wp2_with fail
 go_loopw [9,10] (fun vi vj wr=>∃ i j:Nat,vi = .int .i64 i∧vj = .int .i64 j∧i ≤ j∧j ≤ y.len∧Hid (fndN y k = bsF (fun h=>decide (byK (keyD y h) k < 0)) i j)∧Hid (wr.heap[w.heap.size]? = some (.cells #[.string (bs k.n), .bool k.h, .int .i64 k.x] 71 (0,0)))∧Below w.heap.size w wr) (fun vi vj _=>(intOf vj).toNat - (intOf vi).toNat)
 case atStart=>exact ⟨0,y.len,rfl,rfl,Nat.zero_le _,nl_ _,rfl,HN0.out,HB0.out⟩
 case round=>
  obtain ⟨i,j,rfl,rfl,hij,hjl,hF,hK,hB⟩:=hrel
  have hsz:=hB.size
  have hszK:w.heap.size < wr.heap.size:=(Array.getElem?_eq_some_iff.1 hK.out).1
  have e0:=cg_ hK.out (k:=0) rfl
  have e1:=cg_ hK.out (k:=1) rfl
  have e2:=cg_ hK.out (k:=2) rfl
  by_cases hlt:i < j
  · have hlt':(i:Int) < (j:Int):=by omega
    obtain ⟨h,hh⟩:∃ h,(i + j) / 2 = h:=⟨_,rfl⟩
    have hhi:((i:Int) + (j:Int)) / 2 = (h:Int):=by omega
    have hhl:h < y.len:=by omega
    have hbi:i ≤ h:=by omega
    have hbj:h < j:=by omega
    have hhl':(h:Int) < (y.len:Int):=by omega
    have hh0:(0:Int) ≤ (h:Int):=by omega
    obtain ⟨g,o,n,l,s,an,cn,ab,cb,rfl,hkd,hgl,H9⟩:=HC.out h hhl
    obtain ⟨c0,c1,c2,_⟩:=H9 wr hB
    have H:=hid ((H9 wr.drew hB.drew).2.2.2.out)
    clear H9
    have hF2:=hF.out
    rw [bsF_go hlt,hh] at hF2
    simp only [hkd,decide_eq_true_eq] at hF2
    have HF:=hid hF2
    clear hF2 hh hkd
    go_wp2_with fail
    go_region_held3 (fun w'=>w'.cell? ⟨g,o + h * 3,none⟩ = some (.string (bs n))∧w'.cell? ⟨g,o + h * 3 + 1,none⟩ = some (.slice an l.length cn)∧w'.cell? ⟨g,o + h * 3 + 2,none⟩ = some (.slice ab s.len cb)∧w'.cell? ⟨w.heap.size,0,none⟩ = some (.string (bs k.n))∧w'.cell? ⟨w.heap.size,1,none⟩ = some (.bool k.h)∧w'.cell? ⟨w.heap.size,2,none⟩ = some (.int .i64 k.x))
     (first
       | (go_split_ands
          with_reducible refine ⟨bc_ hb3 ?_ ?_,bc_ hb3 ?_ ?_,bc_ hb3 ?_ ?_,bc_ hb3 ?_ ?_,bc_ hb3 ?_ ?_,bc_ hb3 ?_ ?_⟩
          all_goals (first | (with_reducible assumption) | (simp;done) | (simp;omega)))
       | go_keep)
     (first
       | (go_at_call 204; refine H.out.mono ?_
          rintro e w2 ⟨rfl,hb3⟩))
    have HB:=hid (hB.drew.trans (hb3.mono (show w.heap.size ≤ _ by simpa using hsz)))
    have HK2:=hid ((hb3.block w.heap.size hszK).trans hK.out)
    clear hb3
    by_cases hneg:byK (kyOf n l) k < 0
    · have hF3:=HF.out
      rw [if_pos hneg] at hF3
      have HF3:=hid hF3
      clear hF3
      go_wp2_with fail
      go_roundw
      case rel=>exact ⟨h + 1,j,by go_num,rfl,by omega,hjl,HF3.out,HK2.out,HB.out⟩
      case measure=>simp [intOf];omega
    · have hF3:=HF.out
      rw [if_neg hneg] at hF3
      have HF3:=hid hF3
      clear hF3
      go_wp2_with fail
      go_roundw
      case rel=>exact ⟨i,h,rfl,rfl,hbi,by omega,HF3.out,HK2.out,HB.out⟩
      case measure=>simp [intOf];omega
  · obtain rfl:i = j:=by omega
    have hlt':¬ (i:Int) < (i:Int):=by omega
    have hF2:=hF.out
    clear hF2
    by_cases hil:i < y.len
    · have hil':(i:Int) < (y.len:Int):=by omega
      obtain ⟨g,o,n,l,s,an,cn,ab,cb,rfl,hkd,hgl,H9⟩:=HC.out i hil
      obtain ⟨c0,c1,c2,_⟩:=H9 wr hB
      have H:=hid ((H9 wr.drew hB.drew).2.2.2.out)
      clear H9
      go_wp2_with fail
      go_region_held3 (fun w'=>w'.cell? ⟨g,o + i * 3,none⟩ = some (.string (bs n))∧w'.cell? ⟨g,o + i * 3 + 1,none⟩ = some (.slice an l.length cn)∧w'.cell? ⟨g,o + i * 3 + 2,none⟩ = some (.slice ab s.len cb)∧w'.cell? ⟨w.heap.size,0,none⟩ = some (.string (bs k.n))∧w'.cell? ⟨w.heap.size,1,none⟩ = some (.bool k.h)∧w'.cell? ⟨w.heap.size,2,none⟩ = some (.int .i64 k.x))
       (first
         | (go_split_ands
            with_reducible refine ⟨bc_ hb3 ?_ ?_,bc_ hb3 ?_ ?_,bc_ hb3 ?_ ?_,bc_ hb3 ?_ ?_,bc_ hb3 ?_ ?_,bc_ hb3 ?_ ?_⟩
            all_goals (first | (with_reducible assumption) | (simp;done) | (simp;omega)))
         | go_keep)
       (first
         | (go_at_call 204; refine H.out.mono ?_
            rintro e w2 ⟨rfl,hb3⟩))
      have HB:=hid (hB.drew.trans (hb3.mono (show w.heap.size ≤ _ by simpa using hsz)))
      clear hb3
      go_wp2_with fail
      go_ret2
      have hF2:=hF.out
      rw [bsF_stop (by omega)] at hF2
      exact ⟨by rw [hF2,hkd];simp [hil];rfl,HB.out⟩
    · obtain rfl:i = y.len:=by omega
      go_wp2_with fail
      go_quiet (fail)
      have HB3:=hid (below_drewN hB nq)
      go_wp2_with fail
      go_ret2
      have hF2:=hF.out
      rw [bsF_stop (by omega)] at hF2
      exact ⟨by rw [hF2];simp,HB3.out⟩
end Go.Proofs.LF
namespace Go.Proofs.LF
open Go.RowKit Go.Sort
set_option maxHeartbeats 4000000
set_option maxRecDepth 100000
attribute [local go_sem] bs_toList bs_size bs_get
abbrev PthU (S:Nat→Prop) (w:World) (v:Value) (p:List Ky):Prop:=Pth (US S w) w v p
theorem PthU.agree {S:Nat→Prop} {w w':World} {v:Value} {p:List Ky} (h:PthU S w v p) (ha:Agree S w w'):PthU S w' v p:=(Pth.agree h (US.agree ha).1).wide (US.agree ha).2
theorem PthU.wide {S S':Nat→Prop} {w:World} {v:Value} {p:List Ky} (h:PthU S w v p) (hs:∀ b,S b→S' b):PthU S' w v p:=Pth.wide h (US.wide hs)
theorem Stable.pthu (v:Value) (p:List Ky):Stable (fun S w=>PthU S w v p):=⟨fun h=>PthU.agree h,fun h=>PthU.wide h⟩
theorem cloneK_u (p:List Ky) (a:Option Addr) (c:Nat) (S:Nat→Prop) (w:World) (hv:Pth S w (.slice a p.length c) p) (hS:∀ b,S b→b < w.heap.size) (hlen:p.length ≤ 1000) :
 Calls Tryz.prog 117 #[.slice a p.length c] w fun e w'=>∃ a' c',e = .returned (.slice a' p.length c')∧PthU (Rg w.heap.size w'.heap.size) w' (.slice a' p.length c') p∧Below w.heap.size w w':=by
 obtain ⟨j0,hj0,hy0,hy1,hy2⟩:=info_parts Tryz.info71'
 have hcaps:=SlC.caps hv
 have hlk:=len_keys p
 have q65:∀ (w:World) (a:Option Addr) (n c:Nat),(binOp .eql 65 (.slice a n c) (.slice none 0 0)).run Tryz.prog w = .ok (.bool a.isNone) w:=fun w a n c=>Lib.run_eql_slice_nil w 65 71 a n c 0 0 Tryz.underlying65
 cases a with
 | none=>
   obtain ⟨h0,rfl⟩:=hcaps.2.2 rfl
   obtain rfl:p = []:=List.eq_nil_of_length_eq_zero h0
   simp only [List.length_nil]
   go_enter Tryz.func117,Tryz.ntmps117
   go_wp2_with fail
   go_ret
   exact ⟨none,0,rfl,⟨rfl,none,0,rfl,nl_ _,by simp [maxLen],fun _=>rfl, .inl rfl⟩,Below.refl _ _⟩
 | some ad=>
   have hbel:Below w.heap.size w (w.alloc (.cells #[] 71)):=(Below.refl _ _).alloc (nl_ _) _
   have hnews:=SlC.news hv (Ag_b hbel hS)
   have how:(w.alloc (.cells #[] 71)).ownsRow w.heap.size 71 3 (.slice (some ⟨w.heap.size,0,none⟩) 0 0) 0 []:=owns_of_row (n:=0) (cap:=0) (cur:=#[]) (nl_ _) (heap_alloc_new _ _) (by omega) (by unfold maxLen;omega) (by simp) (by simp)
   have HB:=hid hbel
   clear hbel hv
   go_enter Tryz.func117,Tryz.ntmps117
   go_wp2_with (at_builtin;go_loud (refine wpList_append_ao _ rfl _ _ _ rfl w.heap.size 71 j0 _ 3 32 Tryz.underlying65 hj0 hy0 hy1 hy2 rfl (by omega) _ 0 [] rfl how (some ad) p.length c _ rfl hlk (fun h=>by cases h) hnews (one_keys p) (by unfold maxLen;omega) (by omega) (by simp) ?_);intro a1 c1 w1 hown1 hgrow1 hat1)
   simp only [Nat.zero_add,List.nil_append] at hown1
   go_ret
   refine ⟨a1,c1,by simp,SlC.of_owns_u hown1,HB.out.grown hgrow1 (by simp) (fun b hb=>by cases hb;exact nl_ _)⟩
end Go.Proofs.LF
namespace Go.Proofs.LF
def badWd (w:List UInt8):Bool:=w.any (fun c=>decide ((c.toNat:Int) < 48) || decide (57 < (c.toNat:Int))) || decide (4 < w.length) || (decide (1 < w.length) && decide (w.head? = some 48))
def blanksF (s:List UInt8):Nat:=(s.takeWhile (fun c=>c == 32)).length
inductive CS where
 | lead (n:Nat)
 | word (f:Bool) (m:Nat) (w:List UInt8)
 | done
def wStep (f:Bool) (m:Nat) (w:List UInt8) (c:UInt8):Option CS:=
 if c = 32 ∨ c = 10 then (if w = [] ∨ (c = 32∧m = 4) then none else if c = 10 then some .done else some (.word false (m + 1) []))
 else if (f && badNm (w ++ [c])) || (!f && badWd (w ++ [c])) then none else some (.word f m (w ++ [c]))
def csStep (dp:Nat):CS→UInt8→Option CS
 | .lead n,c=>if c = 32 then (if n + 1 ≤ dp then some (.lead (n + 1)) else none) else wStep true 0 [] c
 | .word f m w,c=>wStep f m w c
 | .done,_=>none
def csRun (dp:Nat):CS→List UInt8→Option CS
 | st,[]=>some st
 | st,c :: r=>match csStep dp st c with | none=>none | some st'=>csRun dp st' r
def kS (dp:Nat):CS→List UInt8→Nat
 | _,[]=>0
 | st,c :: r=>match csStep dp st c with | none=>0 | some st'=>kS dp st' r + 1
theorem kS_app {dp:Nat}:∀ {st st':CS} {x y:List UInt8},csRun dp st x = some st'→kS dp st (x ++ y) = x.length + kS dp st' y
 | st,st',[],y,h=>by simp only [csRun,Option.some.injEq] at h;subst h;simp
 | st,st',c :: r,y,h=>by
   simp only [csRun] at h
   simp only [List.cons_append,kS]
   cases hs:csStep dp st c with
   | none=>rw [hs] at h;cases h
   | some st2=>rw [hs] at h;simp only at h ⊢;rw [kS_app h];simp;omega
theorem lead_blanks (dp:Nat):∀ (m:Nat) (s:List UInt8) (n:Nat),n + m ≤ dp→csRun dp (.lead n) (s.take (runN blankB m s)) = some (.lead (n + runN blankB m s))
 | 0,s,n,_=>by simp [runN,csRun]
 | _ + 1,[],n,_=>by simp [runN,csRun]
 | m + 1,c :: r,n,h=>by
   simp only [runN,blankB,beq_iff_eq]
   split
   · rename_i hc
     simp only [List.take_succ_cons,csRun,csStep,hc,if_true]
     rw [if_pos (by omega)]
     simp only
     rw [lead_blanks dp m r (n + 1) (by omega)]
     congr 2;omega
   · simp [csRun]
theorem word_run (dp:Nat) (f:Bool) (m:Nat):∀ (x w:List UInt8),(∀ c ∈ x,c ≠ 32∧c ≠ 10)→(∀ j,j < x.length→((f && badNm (w ++ x.take (j + 1))) || (!f && badWd (w ++ x.take (j + 1)))) = false)→csRun dp (.word f m w) x = some (.word f m (w ++ x))
 | [],w,_,_=>by simp [csRun]
 | c :: r,w,h,hb=>by
   have hc:=h c (by simp)
   have h0:=hb 0 (by simp)
   simp only [Nat.zero_add,List.take_succ_cons,List.take_zero] at h0
   simp only [csRun,csStep,wStep]
   rw [if_neg (by intro e;rcases e with e | e;exact hc.1 e;exact hc.2 e),if_neg (by rw [h0];simp)]
   simp only
   rw [word_run dp f m r (w ++ [c]) (fun d hd=>h d (by simp [hd])) (fun j hj=>by
    have:=hb (j + 1) (by simpa using hj)
    simpa [List.take_succ_cons] using this)]
   simp
theorem runN_all {p:UInt8→Bool}:∀ {m:Nat} {s:List UInt8},∀ c ∈ s.take (runN p m s),p c = true
 | 0,s,c,h=>by simp [runN] at h
 | _ + 1,[],c,h=>by simp [runN] at h
 | m + 1,d :: r,c,h=>by
   simp only [runN] at h
   split at h
   · rename_i hd
     rw [List.take_succ_cons] at h
     rcases List.mem_cons.1 h with rfl | h
     · exact hd
     · exact runN_all c h
   · simp at h
theorem runN_next {p:UInt8→Bool}:∀ {m:Nat} {s r:List UInt8} {c:UInt8},s.drop (runN p m s) = c :: r→runN p m s < m→p c = false
 | 0,s,r,c,h,hl=>by omega
 | _ + 1,[],r,c,h,hl=>by simp at h
 | m + 1,d :: t,r,c,h,hl=>by
   simp only [runN] at h hl
   split at h
   · rename_i hd
     rw [if_pos hd] at hl
     rw [List.drop_succ_cons] at h
     exact runN_next h (by omega)
   · rename_i hd
     simp at h
     rw [← h.1]
     simpa using hd
theorem smallB_iff {c:UInt8}:smallB c = true ↔ 97 ≤ c.toNat∧c.toNat ≤ 122:=by
 simp only [smallB,inB,Bool.and_eq_true,decide_eq_true_eq];omega
theorem badNm_ok {w:List UInt8} (h:∀ c ∈ w,smallB c = true) (h1:1 ≤ w.length) (h8:w.length ≤ 8):badNm w = false:=by
 simp only [badNm,Bool.or_eq_false_iff,decide_eq_false_iff_not,List.any_eq_false,Bool.or_eq_true,decide_eq_true_eq]
 refine ⟨⟨fun c hc=>?_,by omega⟩,by omega⟩
 have:=smallB_iff.1 (h c hc);omega
theorem badNm_byte {w:List UInt8} {c:UInt8} (h:smallB c = false):badNm (w ++ [c]) = true:=by
 have h':¬ (97 ≤ c.toNat∧c.toNat ≤ 122):=fun e=>by rw [smallB_iff.2 e] at h;cases h
 simp only [badNm,Bool.or_eq_true,List.any_eq_true,decide_eq_true_eq]
 exact .inl (.inl ⟨c,by simp,by omega⟩)
theorem badNm_long {w:List UInt8} {c:UInt8} (h:8 ≤ w.length):badNm (w ++ [c]) = true:=by
 simp only [badNm,Bool.or_eq_true,List.length_append,List.length_singleton,decide_eq_true_eq]
 exact .inr (by omega)
theorem badWd_ok {w:List UInt8} (h:∀ c ∈ w,digitB c = true) (h4:w.length ≤ 4) (h0:1 < w.length→w.head? ≠ some 48):badWd w = false:=by
 simp only [badWd,Bool.or_eq_false_iff,decide_eq_false_iff_not,List.any_eq_false,Bool.or_eq_true,decide_eq_true_eq,Bool.and_eq_false_iff]
 refine ⟨⟨fun c hc=>?_,by omega⟩,?_⟩
 · have:=digitB_iff.1 (h c hc);omega
 · by_cases h1:1 < w.length
   · exact .inr (h0 h1)
   · exact .inl h1
theorem badWd_byte {w:List UInt8} {c:UInt8} (h:digitB c = false):badWd (w ++ [c]) = true:=by
 have h':¬ (48 ≤ c.toNat∧c.toNat ≤ 57):=fun e=>by rw [digitB_iff.2 e] at h;cases h
 simp only [badWd,Bool.or_eq_true,List.any_eq_true,decide_eq_true_eq]
 exact .inl (.inl ⟨c,by simp,by omega⟩)
theorem badWd_long {w:List UInt8} {c:UInt8} (h:4 ≤ w.length):badWd (w ++ [c]) = true:=by
 simp only [badWd,Bool.or_eq_true,List.length_append,List.length_singleton,decide_eq_true_eq]
 exact .inl (.inr (by omega))
theorem badWd_zero {w:List UInt8} {c:UInt8} (h:w.head? = some 48):badWd (w ++ [c]) = true:=by
 cases w with
 | nil=>cases h
 | cons d w=>
   simp only [List.head?_cons,Option.some.injEq] at h
   simp [badWd,h]
def Full (f:Bool) (w s:List UInt8):Prop:=∀ c r,s = c :: r→c ≠ 32→c ≠ 10→((f && badNm (w ++ [c])) || (!f && badWd (w ++ [c]))) = true
theorem kS_done (dp:Nat) (s:List UInt8):kS dp .done s = 0:=by cases s <;> rfl
theorem kS_full {dp:Nat} {f:Bool} {m:Nat} {w s:List UInt8} (hw:w ≠ []) (hf:Full f w s) (h:s.head? ≠ some 32 ∨ m = 4):kS dp (.word f m w) s = if s.head? = some 10 then 1 else 0:=by
 cases s with
 | nil=>rfl
 | cons c r=>
   simp only [kS,csStep,wStep,List.head?_cons,Option.some.injEq] at h ⊢
   by_cases hc:c = 32
   · subst hc
     have hm:m = 4:=by rcases h with h | h;exact absurd rfl h;exact h
     simp [hm]
   · by_cases h10:c = 10
     · subst h10
       simp [hw,kS_done]
     · have:=hf c r rfl hc h10
       rw [if_neg (by intro e;rcases e with e | e;exact hc e;exact h10 e),this]
       simp [h10]
theorem runN_blank1 (s:List UInt8):runN blankB 1 s = if s.head? = some 32 then 1 else 0:=by
 cases s with
 | nil=>rfl
 | cons c r=>simp only [runN,blankB,beq_iff_eq,List.head?_cons,Option.some.injEq]
theorem kS_nums (dp:Nat):∀ (m' m:Nat) (f:Bool) (w s:List UInt8),w ≠ []→Full f w s→m + m' = 4 →
 kS dp (.word f m w) s = (rdNums m' s).2.1 + (if (rdNums m' s).2.2 = true∧(s.drop (rdNums m' s).2.1).head? = some 10 then 1 else 0)∧(∀ c ∈ s.take (rdNums m' s).2.1,c ≠ 10)
 | 0,m,f,w,s,hw,hf,hm=>by
   rw [kS_full hw hf (.inr (by omega))]
   simp [rdNums]
 | m' + 1,m,f,w,s,hw,hf,hm=>by
   by_cases hb:s.head? = some 32
   · obtain ⟨s1,rfl⟩:∃ s1,s = 32 :: s1:=by cases s with | nil=>cases hb | cons c r=>simp at hb;exact ⟨r,by rw [hb]⟩
     have hst:csStep dp (.word f m w) 32 = some (.word false (m + 1) []):=by
      simp only [csStep,wStep]
      simp only [true_or,if_true]
      rw [if_neg (by intro e;rcases e with e | e;exact hw e;omega),if_neg (by decide)]
     have hk:kS dp (.word f m w) (32 :: s1) = kS dp (.word false (m + 1) []) s1 + 1:=by simp only [kS,hst]
     have hr:runN blankB 1 (32 :: s1) = 1:=by rw [runN_blank1];rfl
     have hmost:1 ≤ mostD s1:=by unfold mostD;split <;> omega
     simp only [rdNums,hr,Nat.one_ne_zero,if_false,List.drop_succ_cons,List.drop_zero]
     by_cases hn:runN digitB (mostD s1) s1 = 0
     · simp only [hn,if_true]
       have:kS dp (.word false (m + 1) []) s1 = 0:=by
        cases s1 with
        | nil=>rfl
        | cons c r=>
          have hd:digitB c = false:=runN_next (m:=mostD (c :: r)) (by rw [hn];rfl) (by omega)
          simp only [kS,csStep,wStep]
          by_cases hc:c = 32 ∨ c = 10
          · simp [hc]
          · have h2:=badWd_byte (w:=[]) hd
            simp only [List.nil_append] at h2
            simp [hc,h2]
       rw [hk,this]
       simp
     · simp only [hn,if_false]
       have hall:=runN_all (p:=digitB) (m:=mostD s1) (s:=s1)
       have hle:=runN_le (p:=digitB) (m:=mostD s1) (l:=s1)
       have hm4:mostD s1 ≤ 4:=by unfold mostD;split <;> omega
       generalize hN:runN digitB (mostD s1) s1 = n at *
       have hlen:(s1.take n).length = n:=by rw [List.length_take];omega
       have hne:s1.take n ≠ []:=fun e=>by rw [e] at hlen;simp at hlen;omega
       have hrun:csRun dp (.word false (m + 1) []) (s1.take n) = some (.word false (m + 1) (s1.take n)):=by
        have:=word_run dp false (m + 1) (s1.take n) [] (fun c hc=>by
         have:=digitB_iff.1 (hall c hc)
         exact ⟨fun e=>by subst e;simp at this,fun e=>by subst e;simp at this⟩) (fun j hj=>by
         rw [hlen] at hj
         simp only [Bool.false_and,Bool.false_or,Bool.not_false,Bool.true_and,List.nil_append,List.take_take,Nat.min_eq_left (show j + 1 ≤ n by omega)]
         refine badWd_ok (fun c hc=>hall c ?_) (by rw [List.length_take];omega) (fun h1 e=>?_)
         · exact List.mem_of_mem_take (i:=j + 1) (by rw [List.take_take,Nat.min_eq_left (show j + 1 ≤ n by omega)];exact hc)
         · have h48:s1.head? = some 48:=by
            cases s1 with
            | nil=>simp at e
            | cons d t=>simpa using e
           have:mostD s1 = 1:=by simp [mostD,h48]
           rw [List.length_take] at h1
           omega)
        simpa using this
       have hfull:Full false (s1.take n) (s1.drop n):=by
        intro c r hcr hc hc'
        simp only [Bool.false_and,Bool.false_or,Bool.not_false,Bool.true_and]
        by_cases hlt:n < mostD s1
        · exact badWd_byte (runN_next (m:=mostD s1) (by rw [hN];exact hcr) (by omega))
        · by_cases h48:s1.head? = some 48
          · have hm1:mostD s1 = 1:=by simp [mostD,h48]
            refine badWd_zero ?_
            cases s1 with
            | nil=>cases h48
            | cons d t=>rw [show n = 1 by omega];simpa using h48
          · have hm4':mostD s1 = 4:=by simp [mostD,h48]
            exact badWd_long (by omega)
       obtain ⟨ih1,ih2⟩:=kS_nums dp m' (m + 1) false (s1.take n) (s1.drop n) hne hfull (by omega)
       have hk2:kS dp (.word false (m + 1) []) s1 = n + kS dp (.word false (m + 1) (s1.take n)) (s1.drop n):=by
        conv=>lhs;rw [← List.take_append_drop n s1]
        rw [kS_app hrun,hlen]
       rw [hk,hk2,ih1]
       have e1:1 + n + (rdNums m' (s1.drop n)).2.1 = (n + (rdNums m' (s1.drop n)).2.1) + 1:=by omega
       refine ⟨?_,?_⟩
       · rw [e1,List.drop_succ_cons,← List.drop_drop]
         omega
       · rw [e1,List.take_succ_cons]
         intro c hc
         rcases List.mem_cons.1 hc with rfl | hc
         · decide
         · rw [List.take_add] at hc
           rcases List.mem_append.1 hc with hc | hc
           · have:=digitB_iff.1 (hall c hc)
             intro e;subst e;simp at this
           · exact ih2 c hc
   · have hr:runN blankB 1 s = 0:=by rw [runN_blank1,if_neg hb]
     rw [kS_full hw hf (.inl hb)]
     simp only [rdNums,hr,if_true]
     simp
theorem kS_line (dp:Nat) (s:List UInt8):kS dp (.lead 0) s = (rdLine dp s).2.2.2.1 + (if (rdLine dp s).2.2.2.2 = true then 1 else 0)∧(∀ c ∈ s.take (rdLine dp s).2.2.2.1,c ≠ 10)∧((rdLine dp s).2.2.2.2 = true→(s.drop (rdLine dp s).2.2.2.1).head? = some 10):=by
 have hlead:=lead_blanks dp dp s 0 (by omega)
 rw [Nat.zero_add] at hlead
 have hblank:=runN_all (p:=blankB) (m:=dp) (s:=s)
 have hd:=runN_le (p:=blankB) (m:=dp) (l:=s)
 have hk:kS dp (.lead 0) s = runN blankB dp s + kS dp (.lead (runN blankB dp s)) (s.drop (runN blankB dp s)):=by
  conv=>lhs;rw [← List.take_append_drop (runN blankB dp s) s]
  rw [kS_app hlead,List.length_take];omega
 have hnext:∀ c r,s.drop (runN blankB dp s) = c :: r→c ≠ 32 ∨ runN blankB dp s = dp:=fun c r h=>by
  by_cases hlt:runN blankB dp s < dp
  · have:=runN_next h hlt
    exact .inl (by simpa [blankB] using this)
  · exact .inr (by omega)
 simp only [rdLine]
 generalize hD:runN blankB dp s = d at *
 have hb10:∀ c ∈ s.take d,c ≠ 10:=fun c hc e=>by have:=hblank c hc;subst e;simp [blankB] at this
 generalize hs1:s.drop d = s1 at *
 have hall:=runN_all (p:=smallB) (m:=8) (s:=s1)
 have hle:=runN_le (p:=smallB) (m:=8) (l:=s1)
 have hn8:∀ c r,s1.drop (runN smallB 8 s1) = c :: r→smallB c = false ∨ runN smallB 8 s1 = 8:=fun c r h=>by
  by_cases hlt:runN smallB 8 s1 < 8
  · exact .inl (runN_next h hlt)
  · exact .inr (by omega)
 generalize hK:runN smallB 8 s1 = k at *
 by_cases h0:k = 0
 · subst h0
   simp only [if_true]
   refine ⟨?_,hb10,by simp⟩
   rw [hk]
   have:kS dp (.lead d) s1 = 0:=by
    cases s1 with
    | nil=>rfl
    | cons c r=>
      simp only [kS,csStep]
      by_cases hc:c = 32
      · subst hc
        have:=hnext 32 r rfl
        simp at this
        rw [if_pos rfl,if_neg (by omega)]
      · have h2:smallB c = false:=by rcases hn8 c r rfl with h | h;exact h;omega
        simp only [hc,if_false,wStep]
        by_cases h10:c = 10
        · simp [h10]
        · have h3:=badNm_byte (w:=[]) h2
          simp only [List.nil_append] at h3
          simp [hc,h10,h3]
   rw [this];simp
 · simp only [h0,if_false]
   have hlen:(s1.take k).length = k:=by rw [List.length_take];omega
   have hne:s1.take k ≠ []:=fun e=>by rw [e] at hlen;simp at hlen;omega
   have hword:csRun dp (.word true 0 []) (s1.take k) = some (.word true 0 (s1.take k)):=by
    have:=word_run dp true 0 (s1.take k) [] (fun c hc=>by
     have:=smallB_iff.1 (hall c hc)
     exact ⟨fun e=>by subst e;simp at this,fun e=>by subst e;simp at this⟩) (fun j hj=>by
     rw [hlen] at hj
     simp only [Bool.true_and,Bool.not_true,Bool.false_and,Bool.or_false,List.nil_append,List.take_take,Nat.min_eq_left (show j + 1 ≤ k by omega)]
     refine badNm_ok (fun c hc=>hall c ?_) (by rw [List.length_take];omega) (by rw [List.length_take];omega)
     exact List.mem_of_mem_take (i:=j + 1) (by rw [List.take_take,Nat.min_eq_left (show j + 1 ≤ k by omega)];exact hc))
    simpa using this
   have hlw:∀ y:List UInt8,kS dp (.lead d) (s1.take k ++ y) = kS dp (.word true 0 []) (s1.take k ++ y):=fun y=>by
    cases hq:s1.take k with
    | nil=>exact absurd hq hne
    | cons c r=>
      have hc:c ≠ 32:=fun e=>by
       have:=smallB_iff.1 (hall c (by rw [hq];simp))
       subst e;simp at this
      simp only [List.cons_append,kS,csStep,hc,if_false]
   have hfull:Full true (s1.take k) (s1.drop k):=by
    intro c r hcr hc hc'
    simp only [Bool.true_and,Bool.not_true,Bool.false_and,Bool.or_false]
    rcases hn8 c r hcr with h | h
    · exact badNm_byte h
    · exact badNm_long (by omega)
   obtain ⟨i1,i2⟩:=kS_nums dp 4 0 true (s1.take k) (s1.drop k) hne hfull rfl
   have hk2:kS dp (.lead d) s1 = k + kS dp (.word true 0 (s1.take k)) (s1.drop k):=by
    conv=>lhs;rw [← List.take_append_drop k s1]
    rw [hlw,kS_app hword,hlen]
   rw [List.drop_drop] at i1
   refine ⟨?_,?_,?_⟩
   · rw [hk,hk2,i1]
     simp only [Bool.and_eq_true,beq_iff_eq]
     omega
   · rw [show d + k + (rdNums 4 (s1.drop k)).2.1 = d + (k + (rdNums 4 (s1.drop k)).2.1) by omega,List.take_add]
     intro c hc
     rcases List.mem_append.1 hc with hc | hc
     · exact hb10 c hc
     · rw [hs1,List.take_add] at hc
       rcases List.mem_append.1 hc with hc | hc
       · have:=smallB_iff.1 (hall c hc)
         intro e;subst e;simp at this
       · exact i2 c hc
   · simp only [Bool.and_eq_true,beq_iff_eq]
     rintro ⟨_,h⟩
     rw [← h,← hs1]
     simp only [List.drop_drop,Nat.add_assoc]
end Go.Proofs.LF
