/- Parts of the proof of a law of layer 11 (file): LfRdCh, LfW18, LfW31, LfRdr, LfAtoi, LfJn, LfPrs, LfW42, LfW18u, LfW19, LfW39, LfFi. The conditions stand in each theorem. -/
import Derived.Lib.AtoiAll
import Derived.Lib.ItoaMem
import Derived.Shelf.Spec.SlicesGrow
import Derived.Test.YtadkpjgpefcphaaGreatDoorProg
import Derived.Test.YtadkpjgpefcphaaGreatDoorChaa
import Derived.Test.YtadkpjgpefcphaaGreatDoorChab
import Derived.Test.YtadkpjgpefcphaaGreatDoorChac
import Derived.Test.YtadkpjgpefcphaaGreatDoorChae
import Derived.Test.YtadkpjgpefcphaaGreatDoorChaf
import Derived.Test.YtadkpjgpefcphaaGreatDoorChah
import Derived.Test.YtadkpjgpefcphaaGreatDoorChak
import Derived.Test.YtadkpjgpefcphaaGreatDoorChal
set_option linter.all false
set_option linter.unusedVariables false
set_option linter.unusedSimpArgs false
namespace Go.Proofs.LF
open Go.RowKit
set_option maxRecDepth 100000
theorem cells68:Tryz.prog.cellsOf 68 = 5:=by kernel_rfl
theorem cells71:Tryz.prog.cellsOf 71 = 3:=by kernel_rfl
theorem cells65:Tryz.prog.cellsOf 65 = 1:=by kernel_rfl
theorem cells4:Tryz.prog.cellsOf 4 = 1:=by kernel_rfl
def rdKy:Rd Ky 3 where
 R _ _ x cs:=cs = x.cells
 len:=by rintro S w x cs rfl;rfl
 one:=by rintro S w x cs rfl u hu;simp [Ky.cells] at hu;rcases hu with rfl | rfl | rfl <;> rfl
 agree:=by rintro S w w' x cs rfl _;rfl
 wide:=by rintro S w w' x cs rfl _;rfl
theorem lcs_ky {S:Nat→Prop} {w:World}:∀ {xs:List Ky} {cs:List Value},LCs rdKy S w xs cs→cs = xs.flatMap Ky.cells
 | [],_,h=>h
 | x :: xs,_,⟨c,ds,h1,h2,h3⟩=>by rw [h1,show c = x.cells from h2,lcs_ky h3];rfl
section
variable {H:Type} {enc:TypeId × Value→H} {W:World}
theorem read_list {α:Type} {k:Nat} (r:Rd α k) {T E:TypeId} (hT:Tryz.prog.underlying T = some (.slice E)) (hk:Tryz.prog.cellsOf E = k) (hk0:0 < k)
 (each:∀ (fuel:Nat) (cs:List Value) (x:DataW H × List MemPlace),cs.length = k→DataW.trod enc Tryz.prog W 0 (fun _=>true) true fuel E cs = some x→∃ y,r.R (fun b=>b < W.heap.size) W y cs)
 {fuel:Nat} {v:Value} {x:DataW H × List MemPlace} (h:DataW.trod enc Tryz.prog W 0 (fun _=>true) true fuel T [v] = some x):∃ xs,LSl r (fun b=>b < W.heap.size) W v xs:=by
 rcases DataW.trod_slice hT h with ⟨hc,_⟩ | ⟨a,len,cap,elems,rest,n,hfu,hc,_,hb,hl,hm,hlen,hel,_,_⟩
 · obtain rfl:v = _:=by simpa using hc
   exact ⟨[],[],⟨by simp,none,0,rfl,nl_ _,by simp [maxLen],fun _=>rfl, .inl rfl⟩,rfl⟩
 · obtain rfl:v = _:=by simpa using hc
   rw [hk] at hel
   have one:∀ i,i < len→∃ y cs,r.R (fun b=>b < W.heap.size) W y cs∧∀ (j:Nat) u,cs[j]? = some u→W.cell? ((a.add (i * k)).add j) = some u:=by
    intro i hi
    have h1:=hel i hi
    rw [List.getElem?_eq_getElem (by omega)] at h1
    obtain ⟨cs',hcs,hx⟩:=Option.bind_eq_some_iff.1 h1
    obtain ⟨_,hcl,hcc⟩:=World.cells?_some hcs
    obtain ⟨y,hy⟩:=each n cs' _ hcl hx
    exact ⟨y,cs',hy,fun j u hj=>by
     have hjl:=(List.getElem?_eq_some_iff.1 hj).1
     rw [hcc j (by omega)];exact hj⟩
   by_cases h0:len = 0
   · subst h0
     exact ⟨[],[],⟨by simp,some a,cap,rfl,hl,hm,(fun h=>by cases h), .inl rfl⟩,rfl⟩
   · have hs:a.spot = none∧a.block < W.heap.size:=by
      obtain ⟨y,cs,hy,hc⟩:=one 0 (by omega)
      have hlen:=r.len hy
      have:=cell_plain (hc 0 cs[0] (by simp [show 0 < cs.length by omega]))
      simpa [Addr.add] using this
     have all:∀ q,q ≤ len→∃ xs ds,xs.length = q∧ds.length = q * k∧LCs r (fun b=>b < W.heap.size) W xs ds∧∀ (j:Nat) u,ds[j]? = some u→W.cell? ⟨a.block,a.off + j,none⟩ = some u:=by
      intro q
      induction q with
      | zero=>intro _;exact ⟨[],[],rfl,by simp,rfl,fun j u hj=>by simp at hj⟩
      | succ q ihq=>
        intro hq
        obtain ⟨xs,ds,h1,h2,h3,h4⟩:=ihq (by omega)
        obtain ⟨y,cs,hy,hc⟩:=one q (by omega)
        have hcl:=r.len hy
        refine ⟨xs ++ [y],ds ++ cs,by simp [h1],by rw [List.length_append,h2,hcl,Nat.add_mul];omega,h3.app (LCs.single hy),fun j u hj=>?_⟩
        by_cases hjl:j < ds.length
        · rw [List.getElem?_append_left hjl] at hj
          exact h4 j u hj
        · rw [List.getElem?_append_right (by omega)] at hj
          have:=hc _ u hj
          rw [add_plain a hs.1,add_plain _ rfl] at this
          rw [show a.off + j = a.off + q * k + (j - ds.length) by omega]
          exact this
     obtain ⟨xs,ds,h1,h2,h3,h4⟩:=all len (nl_ _)
     refine ⟨xs,ds,?_,h3⟩
     rw [h1]
     exact ⟨h2,some a,cap,rfl,hl,hm,(fun h=>by cases h), .inr ⟨a.block,a.off,by cases a;have:=hs.1;simp only at this;rw [this],hs.2,h4⟩⟩
theorem read_key {fuel:Nat} {cs:List Value} {x:DataW H × List MemPlace} (hl:cs.length = 3) (h:DataW.trod enc Tryz.prog W 0 (fun _=>true) true fuel 71 cs = some x):∃ y:Ky,rdKy.R (fun b=>b < W.heap.size) W y cs:=by
 obtain ⟨xs,m,hnm,_,_,hxl,hfs⟩:=DataW.trod_struct Tryz.underlying71 h
 match cs,hl with
 | [c0,c1,c2],_=>
   have f0:=hfs 0 _ rfl
   have f1:=hfs 1 _ rfl
   have f2:=hfs 2 _ rfl
   change DataW.trod enc Tryz.prog W 0 (fun _=>true) true m 9 (([c0,c1,c2].drop 0).take (Tryz.prog.cellsOf 9)) = xs[0]? at f0
   change DataW.trod enc Tryz.prog W 0 (fun _=>true) true m 4 (([c0,c1,c2].drop 1).take (Tryz.prog.cellsOf 4)) = xs[1]? at f1
   change DataW.trod enc Tryz.prog W 0 (fun _=>true) true m 3 (([c0,c1,c2].drop 2).take (Tryz.prog.cellsOf 3)) = xs[2]? at f2
   rw [cells9] at f0
   rw [cells4] at f1
   rw [cells3] at f2
   have g0:DataW.trod enc Tryz.prog W 0 (fun _=>true) true m 9 [c0] = xs[0]?:=f0
   have g1:DataW.trod enc Tryz.prog W 0 (fun _=>true) true m 4 [c1] = xs[1]?:=f1
   have g2:DataW.trod enc Tryz.prog W 0 (fun _=>true) true m 3 [c2] = xs[2]?:=f2
   have hx3:xs.length = 3:=hxl
   rw [List.getElem?_eq_getElem (by omega)] at g0 g1 g2
   obtain ⟨s,hs,_⟩:=DataW.trod_string Tryz.underlying9 g0
   obtain ⟨b,hb,_⟩:=DataW.trod_bool Tryz.underlying4 g1
   obtain ⟨n,hn,_⟩:=DataW.trod_int Tryz.underlying3 g2
   obtain rfl:c0 = .string s:=by simpa using hs
   obtain rfl:c1 = .bool b:=by simpa using hb
   obtain rfl:c2 = .int .i64 n:=by simpa using hn
   exact ⟨⟨s.data.toList,b,n⟩,by show _ = _;rw [Ky.cells,bs_of]⟩
theorem read_path {fuel:Nat} {v:Value} {x:DataW H × List MemPlace} (h:DataW.trod enc Tryz.prog W 0 (fun _=>true) true fuel 65 [v] = some x):∃ p,Pth (fun b=>b < W.heap.size) W v p:=by
 obtain ⟨xs,cs,h1,h2⟩:=read_list rdKy Tryz.underlying65 cells71 (by omega) (fun _ _ _ hl hx=>read_key hl hx) h
 exact ⟨xs,by rw [Pth,← lcs_ky h2];exact h1⟩
theorem read_change {fuel:Nat} {cs:List Value} {x:DataW H × List MemPlace} (hl:cs.length = 5) (h:DataW.trod enc Tryz.prog W 0 (fun _=>true) true fuel 68 cs = some x):∃ y:Ch,rdCh.R (fun b=>b < W.heap.size) W y cs:=by
 obtain ⟨xs,m,hnm,_,_,hxl,hfs⟩:=DataW.trod_struct Tryz.underlying68 h
 match cs,hl with
 | [c0,c1,c2,c3,c4],_=>
   have f0:=hfs 0 _ rfl
   have f1:=hfs 1 _ rfl
   have f2:=hfs 2 _ rfl
   have f3:=hfs 3 _ rfl
   have f4:=hfs 4 _ rfl
   change DataW.trod enc Tryz.prog W 0 (fun _=>true) true m 65 (([c0,c1,c2,c3,c4].drop 0).take (Tryz.prog.cellsOf 65)) = xs[0]? at f0
   change DataW.trod enc Tryz.prog W 0 (fun _=>true) true m 4 (([c0,c1,c2,c3,c4].drop 1).take (Tryz.prog.cellsOf 4)) = xs[1]? at f1
   change DataW.trod enc Tryz.prog W 0 (fun _=>true) true m 4 (([c0,c1,c2,c3,c4].drop 2).take (Tryz.prog.cellsOf 4)) = xs[2]? at f2
   change DataW.trod enc Tryz.prog W 0 (fun _=>true) true m 66 (([c0,c1,c2,c3,c4].drop 3).take (Tryz.prog.cellsOf 66)) = xs[3]? at f3
   change DataW.trod enc Tryz.prog W 0 (fun _=>true) true m 66 (([c0,c1,c2,c3,c4].drop 4).take (Tryz.prog.cellsOf 66)) = xs[4]? at f4
   rw [cells65] at f0
   rw [cells4] at f1 f2
   rw [cells66] at f3 f4
   have g0:DataW.trod enc Tryz.prog W 0 (fun _=>true) true m 65 [c0] = xs[0]?:=f0
   have g1:DataW.trod enc Tryz.prog W 0 (fun _=>true) true m 4 [c1] = xs[1]?:=f1
   have g2:DataW.trod enc Tryz.prog W 0 (fun _=>true) true m 4 [c2] = xs[2]?:=f2
   have g3:DataW.trod enc Tryz.prog W 0 (fun _=>true) true m 66 [c3] = xs[3]?:=f3
   have g4:DataW.trod enc Tryz.prog W 0 (fun _=>true) true m 66 [c4] = xs[4]?:=f4
   have hx5:xs.length = 5:=hxl
   rw [List.getElem?_eq_getElem (by omega)] at g0 g1 g2 g3 g4
   obtain ⟨p,hp⟩:=read_path g0
   obtain ⟨had,h1,_⟩:=DataW.trod_bool Tryz.underlying4 g1
   obtain ⟨has,h2,_⟩:=DataW.trod_bool Tryz.underlying4 g2
   obtain ⟨o,ho⟩:=read_ints g3
   obtain ⟨n,hn⟩:=read_ints g4
   obtain rfl:c1 = .bool had:=by simpa using h1
   obtain rfl:c2 = .bool has:=by simpa using h2
   obtain ⟨ap,cp,rfl,_⟩:=SlC.shape hp
   obtain ⟨ao,co,rfl,_⟩:=SlC.shape ho
   obtain ⟨an,cn,rfl,_⟩:=SlC.shape hn
   exact ⟨⟨p,had,has,o,n⟩,ap,cp,ao,co,an,cn,rfl,hp,ho,hn⟩
theorem read_changes {fuel:Nat} {v:Value} {x:DataW H × List MemPlace} (h:DataW.trod enc Tryz.prog W 0 (fun _=>true) true fuel 62 [v] = some x):∃ l,ChSl (fun b=>b < W.heap.size) W v l:=
 read_list rdCh Tryz.underlying62 cells68 (by omega) (fun _ _ _ hl hx=>read_change hl hx) h
end
end Go.Proofs.LF
namespace Go.Proofs.LF
open Go.RowKit Go.Sort
set_option maxHeartbeats 4000000
set_option maxRecDepth 100000
attribute [local go_sem] bs_toList bs_size bs_get
theorem Tryz.info71':(Tryz.prog.info? 71).map (fun i=>(i.zero,i.size,i.bytes)) = some (some (.agg #[.string ByteArray.empty, .bool false, .int .i64 0]),3,32):=by kernel_rfl
theorem cloneK_any (p:List Ky) (a:Option Addr) (c:Nat) (S:Nat→Prop) (w:World) (hv:Pth S w (.slice a p.length c) p) (hS:∀ b,S b→b < w.heap.size) (hlen:p.length ≤ 1000) :
 Calls Tryz.prog 117 #[.slice a p.length c] w fun e w'=>∃ a' c',e = .returned (.slice a' p.length c')∧Pth (Rg w.heap.size w'.heap.size) w' (.slice a' p.length c') p∧Below w.heap.size w w':=by
 obtain ⟨j0,hj0,hy0,hy1,hy2⟩:=info_parts Tryz.info71'
 have hcaps:=SlC.caps hv
 have hlk:=len_keys p
 have q65:∀ (w:World) (a:Option Addr) (n c:Nat),(binOp .eql 65 (.slice a n c) (.slice none 0 0)).run Tryz.prog w = .ok (.bool a.isNone) w:=fun w a n c=>Lib.run_eql_slice_nil w 65 71 a n c 0 0 Tryz.underlying65
 cases a with
 | none=>
   obtain ⟨h0,rfl⟩:=hcaps.2.2 rfl
   obtain rfl:p = []:=List.eq_nil_of_length_eq_zero h0
   simp only [List.length_nil]
   go_enter Tryz.func117,Tryz.ntmps117
   go_wp2_with fail
   go_ret
   exact ⟨none,0,rfl,⟨rfl,none,0,rfl,nl_ _,by simp [maxLen],fun _=>rfl, .inl rfl⟩,Below.refl _ _⟩
 | some ad=>
   have hbel:Below w.heap.size w (w.alloc (.cells #[] 71)):=(Below.refl _ _).alloc (nl_ _) _
   have hnews:=SlC.news hv (Ag_b hbel hS)
   have how:(w.alloc (.cells #[] 71)).ownsRow w.heap.size 71 3 (.slice (some ⟨w.heap.size,0,none⟩) 0 0) 0 []:=owns_of_row (n:=0) (cap:=0) (cur:=#[]) (nl_ _) (heap_alloc_new _ _) (by omega) (by unfold maxLen;omega) (by simp) (by simp)
   have HB:=hid hbel
   clear hbel hv
   go_enter Tryz.func117,Tryz.ntmps117
   go_wp2_with (at_builtin;go_loud (refine wpList_append_ao _ rfl _ _ _ rfl w.heap.size 71 j0 _ 3 32 Tryz.underlying65 hj0 hy0 hy1 hy2 rfl (by omega) _ 0 [] rfl how (some ad) p.length c _ rfl hlk (fun h=>by cases h) hnews (one_keys p) (by unfold maxLen;omega) (by omega) (by simp) ?_);intro a1 c1 w1 hown1 hgrow1 hat1)
   simp only [Nat.zero_add,List.nil_append] at hown1
   go_ret
   refine ⟨a1,c1,by simp,SlC.of_owns hown1,HB.out.grown hgrow1 (by simp) (fun b hb=>by cases hb;exact nl_ _)⟩
theorem Atoi_any (s:List UInt8) (n:Nat) (w:World) (hs:s.length ≤ 1000) (h:Lib.atoiAll s = .ok (n:Int)) :
 Calls Tryz.prog 190 #[.string (bs s)] w fun e w'=>e = .returned (.tuple #[.int .i64 (n:Int), .nilIface])∧Below w.heap.size w w':=by
 refine (Tryz.strconv_Atoi_ok (bs s) (by rw [bs_size];omega) (n:Int) (by rw [bs_data];exact h) w).mono ?_
 rintro e w' ⟨rfl,rfl | ⟨t,rfl⟩⟩
 · exact ⟨rfl,Below.refl _ _⟩
 · refine ⟨rfl,?_⟩
   exact Lib.bytesWorld_below w 5 t
end Go.Proofs.LF
namespace Go.Proofs
def Tryz.laysGrow_ren:Go.Shelf.Ren:=⟨fun | 4=>228 | n=>n,fun | 22=>167 | 25=>171 | 3=>3 | 4=>4 | 9=>9 | 0=>0 | 20=>20 | n=>n,fun | n=>n⟩
theorem Tryz.laysGrow:Go.Proofs.Lays8.n4 Tryz.prog Tryz.laysGrow_ren:={
 mixed:=by kernel_rfl
 f4:=⟨Tryz.f228.name,by decide,Tryz.func228.trans (congrArg some (by kernel_rfl))⟩
 t0:=Tryz.underlying0
 a0:=Tryz.isAgg0
 z0:=Tryz.sizeOf0
 v0:=Tryz.zeroValue0
 t3:=Tryz.underlying3
 a3:=Tryz.isAgg3
 z3:=Tryz.sizeOf3
 v3:=Tryz.zeroValue3
 t4:=Tryz.underlying4
 a4:=Tryz.isAgg4
 z4:=Tryz.sizeOf4
 v4:=Tryz.zeroValue4
 t9:=Tryz.underlying9
 a9:=Tryz.isAgg9
 z9:=Tryz.sizeOf9
 v9:=Tryz.zeroValue9
 t20:=Tryz.underlying20
 a20:=Tryz.isAgg20
 z20:=Tryz.sizeOf20
 v20:=Tryz.zeroValue20
 t22:=Tryz.underlying167
 a22:=Tryz.isAgg167
 z22:=Tryz.sizeOf167
 v22:=Tryz.zeroValue167 }
namespace LF
open Go.RowKit Go.Sort
set_option maxHeartbeats 4000000
set_option maxRecDepth 100000
attribute [local go_sem] bs_toList bs_size bs_get
def rdLs:Rd (List Fl) 1 where
 R S w x cs:=∃ ap cp,cs = [.slice ap x.length cp]∧FlSl S w (.slice ap x.length cp) x
 len:=by rintro S w x cs ⟨_,_,rfl,_⟩;rfl
 one:=by rintro S w x cs ⟨_,_,rfl,_⟩ u hu;simp at hu;rcases hu with rfl;rfl
 agree:=by rintro S w w' x cs ⟨a,b,rfl,h1⟩ ha;exact ⟨a,b,rfl,h1.agree ha⟩
 wide:=by rintro S w w' x cs ⟨a,b,rfl,h1⟩ ha;exact ⟨a,b,rfl,h1.wide ha⟩
theorem growNil_any (n:Nat) (w:World) (hn:n ≤ 1000000):Calls Tryz.prog 228 #[.slice none 0 0, .int .i64 n] w fun e w'=>∃ v,e = .returned v∧w'.ownsRow w.heap.size 171 2 v 0 []∧Below w.heap.size w w':=by
 by_cases h0:n = 0
 · subst h0
   refine (Any8.slices_Grow_room Tryz.laysGrow none 0 0 0 w (Nat.le_refl _) (by omega) (by omega) (by omega)).mono ?_
   rintro e w' ⟨rfl,rfl⟩
   exact ⟨_,rfl,World.ownsRow_nil _ _ _ _,Below.refl _ _⟩
 · obtain ⟨i0,hi0,hz0,hz1,hz2⟩:=info_parts Tryz.info171''
   refine (Any8.slices_Grow_grow Tryz.laysGrow i0 _ hi0 hz0 (by rw [hz1];omega) none 0 0 n [] w (Nat.le_refl _) (by omega) (by rw [hz2];omega) (by omega) (by simp) (fun _=>rfl) (fun a h=>by cases h)).mono ?_
   rintro e w' ⟨rfl,rfl⟩
   refine ⟨_,rfl,?_,((Below.refl w.heap.size w).drew).alloc (Nat.le_refl _) _⟩
   have hge:=grownCap_ge w (0 + n) 0 171
   have hle:=grownCap_le_maxLen w (0 + n) 0 171 (by unfold maxLen;omega)
   exact owns_of_row (g:=w.heap.size) (cap:=grownCap w (0 + n) 0 171) (Nat.le_refl _) (heap_alloc_new w.drew _) (Nat.zero_le _) hle (by have e25:Tryz.laysGrow_ren.t 25 = 171:=rfl;simp only [Nat.zero_add] at hge hle;simp [Builtin.zeroCells,Value.cells,e25];omega) (by simp)
theorem concat_any (ls:List (List Fl)) (a:Option Addr) (c:Nat) (S:Nat→Prop) (w:World) (hv:LSl rdLs S w (.slice a ls.length c) ls) (hS:∀ b,S b→b < w.heap.size) (hl:ls.length ≤ 1000) (hn:(ls.map List.length).sum ≤ 100000) :
 Calls Tryz.prog 195 #[.slice a ls.length c] w fun e w'=>∃ a' c',e = .returned (.slice a' ls.flatten.length c')∧FlSl (fun b=>S b ∨ Rg w.heap.size w'.heap.size b) w' (.slice a' ls.flatten.length c') ls.flatten∧Below w.heap.size w w':=by
 obtain ⟨a',c',he,hc,hcm,hat⟩:=hv.at
 obtain ⟨rfl,rfl⟩:a = a'∧c = c':=by cases he;exact ⟨rfl,rfl⟩
 obtain ⟨i0,hi0,hz0,hz1,hz2⟩:=info_parts Tryz.info171''
 have HAT:=hid hat
 have HS:=hid hS
 have HN:=hid hn
 clear hat hS he hv hn
 unfold maxLen at hcm
 have hsum:∀ k,((ls.take k).map List.length).sum ≤ 100000:=fun k=>by
  have h1:=HN.out
  have:(ls.map List.length).sum = ((ls.take k).map List.length).sum + ((ls.drop k).map List.length).sum:=by
   rw [← List.sum_append,← List.map_append,List.take_append_drop]
  omega
 have HSUM:=hid hsum
 clear hsum
 go_enter Tryz.func195,Tryz.ntmps195
 go_wp2_with fail
 go_loopw [3,11] (fun sz i wr=>∃ k:Nat,k ≤ ls.length∧i = .int .i64 k∧sz = .int .i64 (((ls.take k).map List.length).sum:Nat)∧Below w.heap.size w wr) (fun _ i _=>ls.length - (intOf i).toNat)
 case atStart=>exact ⟨0,by omega,rfl,by simp,Below.refl _ _⟩
 case round=>
  obtain ⟨k,hk,rfl,rfl,hB⟩:=hrel
  have hsz:=hB.size
  have hs1:=HSUM.out k
  by_cases hlt:k < ls.length
  · have hlt':(k:Int) < (ls.length:Int):=by omega
    obtain ⟨g,o,cs1,rfl,hg,⟨ap,cp,rfl,hF⟩,hcell⟩:=HAT.out k hlt
    have c0:=(Ag_b hB HS.out).cell hg (hcell 0 _ rfl)
    rw [Nat.mul_one,Nat.add_zero] at c0
    have hs2:=HSUM.out (k + 1)
    have hst:((ls.take (k + 1)).map List.length).sum = ((ls.take k).map List.length).sum + ls[k].length:=by
     rw [List.take_succ_eq_append_getElem hlt,List.map_append,List.sum_append];simp only [List.map_cons,List.map_nil,List.sum_cons,List.sum_nil,Nat.add_zero]
    obtain ⟨s1,hs⟩:∃ s,((ls.take k).map List.length).sum = s:=⟨_,rfl⟩
    rw [hs] at hst hs1 ⊢
    rw [hst] at hs2
    have hnn:¬ ((s1:Int) + (ls[k].length:Int) < 0):=by omega
    have HST:=hid hst
    clear hst hcell hs
    go_wp2_with fail
    go_roundw
    case rel=>exact ⟨k + 1,by omega,by go_num,by rw [HST.out];go_num,hB⟩
    case measure=>simp [intOf];omega
  · obtain rfl:k = ls.length:=by omega
    have hlt':¬ (ls.length:Int) < (ls.length:Int):=by omega
    rw [List.take_length] at *
    obtain ⟨s1,hs⟩:∃ s,(ls.map List.length).sum = s:=⟨_,rfl⟩
    rw [hs] at hs1 ⊢
    go_wp2_with fail
    refine (growNil_any s1 wr (by omega)).mono ?_
    rintro e w1 ⟨v1,rfl,how1,hb1⟩
    have hB1:=hB.trans (hb1.mono hsz)
    have how1:w1.ownsRow w.heap.size 171 2 v1 0 []:=owns_base how1 (fun g hg=>by have:=(how1.lt g hg).1;omega)
    have HOW1:=hid how1
    have HB1:=hid hB1
    clear how1 hb1 hB1 hB
    go_wp2_with fail
    go_loopw [6,27] (fun v i wr=>∃ (k:Nat) (cs:List Value),k ≤ ls.length∧i = .int .i64 k∧wr.ownsRow w.heap.size 171 2 v (ls.take k).flatten.length cs∧LCs rdFl (fun b=>S b) wr (ls.take k).flatten cs∧Below w.heap.size w wr) (fun _ i _=>ls.length - (intOf i).toNat)
    case atStart=>exact ⟨0,[],by omega,rfl,by simpa using HOW1.out,rfl,HB1.out⟩
    case round=>
     obtain ⟨k,cs,hk,rfl,hown,hlc,hB⟩:=hrel
     have hsz2:=hB.size
     by_cases hlt:k < ls.length
     · have hlt':(k:Int) < (ls.length:Int):=by omega
       obtain ⟨g,o,cs1,rfl,hg,⟨ap,cp,rfl,hF⟩,hcell⟩:=HAT.out k hlt
       have c0:=(Ag_b hB HS.out).cell hg (hcell 0 _ rfl)
       rw [Nat.mul_one,Nat.add_zero] at c0
       obtain ⟨ds,hd1,hd2⟩:=hF
       have hcap:=SlC.caps hd1
       have hnews:=SlC.news hd1 (Ag_b hB HS.out)
       have hone:=hd2.one
       have hlen:=hd1.1
       have hfl:(ls.take k).flatten.length = ((ls.take k).map List.length).sum:=List.length_flatten
       have hfl2:(ls.take (k + 1)).flatten.length = (ls.take k).flatten.length + ls[k].length:=by
        rw [List.take_succ_eq_append_getElem hlt,List.flatten_append];simp
       have hs2:=HSUM.out (k + 1)
       rw [← List.length_flatten,hfl2] at hs2
       have HN2:=hid hnews
       have HD2:=hid (hd2.agree (Ag_b hB HS.out))
       have HO:=hid hone
       have HL:=hid hlen
       have HFL:=hid hfl2
       have HLC:=hid hlc
       obtain ⟨q,hq⟩:∃ q,(ls.take k).flatten.length = q:=⟨_,rfl⟩
       rw [hq] at hown hs2
       have HQ:=hid hq
       have hcapn:ap = none→ls[k].length = 0∧cp = 0:=hcap.2.2
       have HCN:=hid hcapn
       clear hcell hd1 hd2 hnews hone hlen hfl hfl2 hlc hq hcap hcapn
       go_wp2_with (at_builtin;refine (wpList_append_ao _ rfl _ _ _ rfl w.heap.size 171 i0 _ 2 48 Tryz.underlying167 hi0 hz0 hz1 hz2 rfl (by omega) u6 q cs rfl hown ap ls[k].length cp ds rfl HL.out HCN.out HN2.out HO.out (by unfold maxLen;omega) (by omega) hsz2 ?_);intro a4 c4 w4 hown4 hgrow4 hat4)
       have hag:Agree S wr w4:=fun b hb=>hgrow4.block b (by have:=HS.out b hb;omega) (fun e=>by have:=(hown.lt b e.symm).1;have:=HS.out b hb;omega)
       have hm:=(HLC.out.agree hag).app (HD2.out.agree hag)
       have hfe:(ls.take (k + 1)).flatten = (ls.take k).flatten ++ ls[k]:=by
        rw [List.take_succ_eq_append_getElem hlt,List.flatten_append];simp
       have hB4:=hB.grown hgrow4 hsz2 (fun k hk=>(hown.lt k hk).1)
       go_roundw
       case rel=>exact ⟨k + 1,cs ++ ds,by omega,by go_num,by rw [HFL.out,HQ.out];exact hown4,by rw [hfe];exact hm,hB4⟩
       case measure=>simp [intOf];omega
     · obtain rfl:k = ls.length:=by omega
       have hlt':¬ (ls.length:Int) < (ls.length:Int):=by omega
       rw [List.take_length] at hown hlc
       obtain ⟨a9,c9,rfl,_,_⟩:=owns_shape hown
       go_wp2_with fail
       go_ret
       have hq:ls.flatten.length = s1:=by rw [List.length_flatten,hs]
       exact ⟨a9,c9,by simp [hq],⟨cs,by have:=(SlC.of_owns hown).wide (S':=fun b=>S b ∨ Rg w.heap.size wr.heap.size b) (fun b hb=>Or.inr hb);simp only [hq] at this ⊢;exact this,hlc.wide (S':=fun b=>S b ∨ Rg w.heap.size wr.heap.size b) (fun b hb=>Or.inl hb)⟩,hB⟩
end LF
end Go.Proofs
namespace Go.Proofs.LF
open Go.RowKit
theorem Rdr.cV {R:Nat} {t:List UInt8} {i j:Nat} {vs:List Value} {v:Value} {w:World} (h:Rdr R t i vs w) (hj:vs[j]? = some v):w.cell? ⟨R,j + 2,none⟩ = some v:=by
 unfold Rdr at h
 simp only [World.cell?,h]
 simpa using hj
theorem Rdr.setV {R:Nat} {t:List UInt8} {i:Nat} {vs:List Value} {w:World} (h:Rdr R t i vs w) (j:Nat) (v:Value):Rdr R t i (vs.set j v) (w.setCell ⟨R,j + 2,none⟩ v):=by
 unfold Rdr at h ⊢
 simp [World.setCell,Array.getElem?_modify,h]
theorem Rdr.keep {R:Nat} {t:List UInt8} {i:Nat} {vs:List Value} {w w':World} {O:Nat→Prop} (h:Rdr R t i vs w) (hk:Keep O w w') (ho:¬ O R):Rdr R t i vs w':=(hk.block R h.lt ho).trans h
end Go.Proofs.LF
namespace Go.Proofs.LF
open Go.Lib
theorem parse_digits:∀ (l:List UInt8) (acc n:Nat),(∀ c ∈ l,digitB c = true)→acc < 10 ^ n→n + l.length ≤ 8→parseUint10 acc l = .ok (l.foldl (fun n c=>n * 10 + (c.toNat - 48)) acc)
 | [],_,_,_,_,_=>rfl
 | c :: r,acc,n,h,ha,hl=>by
   have hc:48 ≤ c.toNat∧c.toNat ≤ 57:=by
    have:=h c (by simp)
    simp only [digitB,inB,Bool.and_eq_true,decide_eq_true_eq] at this;omega
   have h8:10 ^ n ≤ 10 ^ 7:=Nat.pow_le_pow_right (by omega) (by simp at hl;omega)
   have hn:acc * 10 + (c.toNat - 48) < 10 ^ (n + 1):=by rw [Nat.pow_succ];omega
   simp only [parseUint10,hc,and_self,if_true,List.foldl_cons]
   have e7:(10:Nat) ^ 7 = 10000000:=rfl
   rw [if_neg (by omega),if_neg (by omega)]
   exact parse_digits r _ (n + 1) (fun d hd=>h d (by simp [hd])) hn (by simp at hl;omega)
theorem atoi_digits {l:List UInt8} (h:∀ c ∈ l,digitB c = true) (h0:l ≠ []) (h4:l.length ≤ 4):atoiAll l = .ok ((decN l:Nat):Int):=by
 cases l with
 | nil=>exact absurd rfl h0
 | cons c r=>
   have hc:48 ≤ c.toNat∧c.toNat ≤ 57:=by
    have:=h c (by simp)
    simp only [digitB,inB,Bool.and_eq_true,decide_eq_true_eq] at this;omega
   have hp:=parse_digits (c :: r) 0 0 h (by simp) (by simp at h4 ⊢;omega)
   have hm:parseMag (c :: r) = .ok (decN (c :: r)):=by simp only [parseMag,decN];rw [if_neg (by simp),hp]
   have hb:decN (c :: r) < 10 ^ 8:=by
    have key:∀ (l:List UInt8) (acc n:Nat),(∀ c ∈ l,digitB c = true)→acc < 10 ^ n→l.foldl (fun n c=>n * 10 + (c.toNat - 48)) acc < 10 ^ (n + l.length):=by
     intro l
     induction l with
     | nil=>intro acc n _ ha;simpa using ha
     | cons c r ih=>
       intro acc n h ha
       have hc:48 ≤ c.toNat∧c.toNat ≤ 57:=by
        have:=h c (by simp)
        simp only [digitB,inB,Bool.and_eq_true,decide_eq_true_eq] at this;omega
       have hn:acc * 10 + (c.toNat - 48) < 10 ^ (n + 1):=by rw [Nat.pow_succ];omega
       have:=ih _ (n + 1) (fun d hd=>h d (by simp [hd])) hn
       simp only [List.foldl_cons,List.length_cons]
       rwa [show n + (r.length + 1) = n + 1 + r.length by omega]
    have:=key (c :: r) 0 0 h (by simp)
    refine Nat.lt_of_lt_of_le this (Nat.pow_le_pow_right (by omega) (by simp at h4 ⊢;omega))
   have e8:(10:Nat) ^ 8 = 100000000:=rfl
   simp only [atoiAll]
   rw [if_neg (by omega),hm]
   simp only
   rw [if_neg (by omega),if_neg (by omega),if_neg (by omega)]
end Go.Proofs.LF
namespace Go.Proofs.LF
def rfd (l:List Fl) (p:List Ky):Option Fl:=l.find? fun x=>decide (x.p = p)
theorem bsF_at' {lt:Nat→Bool} {m J:Nat} (h1:∀ k,k < m→lt k = true) (h2:∀ k,m ≤ k→k < J→lt k = false):∀ (n i j:Nat),j - i ≤ n→i ≤ m→m ≤ j→j ≤ J→bsF lt i j = m
 | 0,i,j,h,hi,hj,_=>by rw [bsF_stop (by omega)];omega
 | n + 1,i,j,h,hi,hj,hJ=>by
   by_cases hij:i < j
   · rw [bsF_go hij]
     by_cases hm:(i + j) / 2 < m
     · rw [if_pos (h1 _ hm)];exact bsF_at' h1 h2 n _ _ (by omega) (by omega) hj hJ
     · rw [if_neg (by rw [h2 _ (by omega) (by omega)];simp)];exact bsF_at' h1 h2 n _ _ (by omega) hi (by omega) (by omega)
   · rw [bsF_stop hij];omega
theorem srt_part {p:List Ky}:∀ {l:List Fl},Srt l→∃ A B,l = A ++ B∧(∀ x ∈ A,cmpP x.p p < 0)∧∀ x ∈ B,0 ≤ cmpP x.p p
 | [],_=>⟨[],[],rfl,by simp,by simp⟩
 | x :: l,h=>by
   obtain ⟨h1,h2⟩:=List.pairwise_cons.1 h
   by_cases hx:cmpP x.p p < 0
   · obtain ⟨A,B,rfl,hA,hB⟩:=srt_part (p:=p) h2
     refine ⟨x :: A,B,rfl,fun y hy=>?_,hB⟩
     rcases List.mem_cons.1 hy with rfl | hy
     · exact hx
     · exact hA y hy
   · refine ⟨[],x :: l,rfl,by simp,fun y hy=>?_⟩
     rcases List.mem_cons.1 hy with rfl | hy
     · omega
     · have:=h1 y hy
       rcases Int.lt_or_le (cmpP y.p p) 0 with h' | h'
       · have:=cmpP_ord.trans this h';omega
       · exact h'
theorem fnd_rfd {l:List Fl} (h:Srt l) (p:List Ky):fnd l p = rfd l p:=by
 obtain ⟨A,B,rfl,hA,hB⟩:=srt_part (p:=p) h
 have hm:fndI (A ++ B) p = A.length:=by
  unfold fndI
  refine bsF_at' (J:=(A ++ B).length) (fun k hk=>?_) (fun k hk hJ=>?_) _ _ _ (nl_ _) (Nat.zero_le _) (by simp) (nl_ _)
  · rw [decide_eq_true_eq,List.getD_eq_getElem?_getD,List.getElem?_append_left hk,List.getElem?_eq_getElem hk]
    exact hA _ (List.getElem_mem hk)
  · rw [List.length_append] at hJ
    rw [decide_eq_false_iff_not,List.getD_eq_getElem?_getD,List.getElem?_append_right hk,List.getElem?_eq_getElem (by omega)]
    have:=hB _ (List.getElem_mem (show k - A.length < B.length by omega))
    simp only [Option.getD_some];omega
 have hf:rfd (A ++ B) p = rfd B p:=by
  unfold rfd
  rw [List.find?_append,show A.find? (fun x=>decide (x.p = p)) = none from List.find?_eq_none.2 fun x hx=>by
   have:=hA x hx
   simp only [decide_eq_true_eq]
   intro e;rw [e,cmpP_ord.refl] at this;omega]
  rfl
 rw [hf,fnd,hm,List.getElem?_append_right (nl_ _),Nat.sub_self]
 have hsB:Srt B:=(List.pairwise_append.1 h).2.1
 cases B with
 | nil=>rfl
 | cons x B=>
   simp only [List.getElem?_cons_zero,rfd]
   by_cases hx:cmpP x.p p = 0
   · rw [if_pos hx,List.find?_cons_of_pos (by simpa using cmpP_ord.eq hx)]
   · have hne:x.p ≠ p:=fun e=>hx (by rw [e,cmpP_ord.refl])
     rw [if_neg hx,List.find?_cons_of_neg (by simpa using hne)]
     symm
     rw [List.find?_eq_none]
     intro y hy
     have h1:=(List.pairwise_cons.1 hsB).1 y hy
     have h2:=hB x (by simp)
     simp only [decide_eq_true_eq]
     intro e
     rw [e] at h1
     omega
theorem rfd_some {l:List Fl} {p:List Ky} {x:Fl} (h:rfd l p = some x):x ∈ l∧x.p = p:=⟨List.mem_of_find?_eq_some h,by have:=List.find?_some h;simpa using this⟩
theorem rfd_iff {l:List Fl} {p:List Ky}:(rfd l p).isSome = true ↔ p ∈ l.map Fl.p:=by
 unfold rfd
 rw [List.find?_isSome]
 simp
def eqR (a b:List Fl) (p:List Ky):Bool:=match rfd a p,rfd b p with | some x,some y=>decide (x.l = y.l) | none,none=>true | _,_=>false
theorem smF_eqR {a b:List Fl} (ha:Srt a) (hb:Srt b) (p:List Ky):smF a b p = eqR a b p:=by
 rw [smF,eqR,fnd_rfd ha,fnd_rfd hb]
 cases rfd a p <;> cases rfd b p <;> rfl
def putR (x:Fl):List Fl→List Fl
 | []=>[x]
 | y :: r=>if cmpP x.p y.p < 0 then x :: y :: r else y :: putR x r
def unR:List Fl→List Fl→List Fl
 | a,[]=>a
 | a,x :: b=>unR (if (rfd a x.p).isSome then a else putR x a) b
theorem putR_mem {x:Fl}:∀ {l:List Fl} {z:Fl},z ∈ putR x l ↔ z = x ∨ z ∈ l
 | [],z=>by simp [putR]
 | y :: r,z=>by
   simp only [putR]
   split
   · simp
   · rw [List.mem_cons,putR_mem,List.mem_cons]
     constructor
     · rintro (h | h | h) <;> simp [h]
     · rintro (h | h | h) <;> simp [h]
theorem putR_srt {x:Fl}:∀ {l:List Fl},Srt l→x.p ∉ l.map Fl.p→Srt (putR x l)
 | [],_,_=>by simp [putR,Srt]
 | y :: r,h,hx=>by
   obtain ⟨h1,h2⟩:=List.pairwise_cons.1 h
   simp only [List.map_cons,List.mem_cons,not_or] at hx
   simp only [putR]
   split
   · rename_i hlt
     refine List.pairwise_cons.2 ⟨fun z hz=>?_,h⟩
     rcases List.mem_cons.1 hz with rfl | hz
     · exact hlt
     · exact cmpP_ord.trans hlt (h1 z hz)
   · rename_i hlt
     have hyx:cmpP y.p x.p < 0:=by
      rcases Int.lt_trichotomy (cmpP x.p y.p) 0 with h' | h' | h'
      · exact absurd h' hlt
      · exact absurd (cmpP_ord.eq h') hx.1
      · exact cmpP_ord.flop h'
     refine List.pairwise_cons.2 ⟨fun z hz=>?_,putR_srt h2 hx.2⟩
     rcases putR_mem.1 hz with rfl | hz
     · exact hyx
     · exact h1 z hz
theorem unR_spec:∀ {b a:List Fl},Srt a→Srt (unR a b)∧∀ p,p ∈ (unR a b).map Fl.p ↔ p ∈ a.map Fl.p ∨ p ∈ b.map Fl.p
 | [],a,h=>⟨h,fun p=>by simp [unR]⟩
 | x :: b,a,h=>by
   simp only [unR]
   by_cases hs:(rfd a x.p).isSome = true
   · rw [if_pos hs]
     obtain ⟨h1,h2⟩:=unR_spec (b:=b) h
     refine ⟨h1,fun p=>?_⟩
     rw [h2 p,List.map_cons,List.mem_cons]
     have:=rfd_iff.1 hs
     constructor
     · rintro (h | h) <;> simp [h]
     · rintro (h | rfl | h)
       · exact .inl h
       · exact .inl this
       · exact .inr h
   · rw [if_neg hs]
     obtain ⟨h1,h2⟩:=unR_spec (b:=b) (putR_srt h (fun e=>hs (rfd_iff.2 e)))
     refine ⟨h1,fun p=>?_⟩
     rw [h2 p,List.map_cons,List.mem_cons]
     have:p ∈ (putR x a).map Fl.p ↔ p = x.p ∨ p ∈ a.map Fl.p:=by
      simp only [List.mem_map,putR_mem]
      constructor
      · rintro ⟨z,rfl | hz,rfl⟩
        · exact .inl rfl
        · exact .inr ⟨z,hz,rfl⟩
      · rintro (rfl | ⟨z,hz,rfl⟩)
        · exact ⟨x, .inl rfl,rfl⟩
        · exact ⟨z, .inr hz,rfl⟩
     rw [this]
     constructor
     · rintro ((h | h) | h) <;> simp [h]
     · rintro (h | h | h) <;> simp [h]
def SrtP (l:List (List Ky)):Prop:=l.Pairwise (fun a b=>cmpP a b < 0)
theorem srtP_ext:∀ {l l':List (List Ky)},SrtP l→SrtP l'→(∀ p,p ∈ l ↔ p ∈ l')→l = l'
 | [],l',_,_,h=>by
   cases l' with
   | nil=>rfl
   | cons b t=>have:=(h b).2 (by simp);cases this
 | a :: t,[],_,_,h=>by have:=(h a).1 (by simp);cases this
 | a :: t,b :: t',h1,h2,h=>by
   obtain ⟨p1,p2⟩:=List.pairwise_cons.1 h1
   obtain ⟨q1,q2⟩:=List.pairwise_cons.1 h2
   have hab:a = b:=by
    rcases List.mem_cons.1 ((h a).1 (by simp)) with e | e
    · exact e
    · rcases List.mem_cons.1 ((h b).2 (by simp)) with e' | e'
      · exact e'.symm
      · have:=cmpP_ord.trans (p1 b e') (q1 a e)
        rw [cmpP_ord.refl] at this;omega
   subst hab
   rw [srtP_ext p2 q2 fun p=>⟨fun hp=>?_,fun hp=>?_⟩]
   · rcases List.mem_cons.1 ((h p).1 (by simp [hp])) with rfl | e
     · have:=p1 p hp;rw [cmpP_ord.refl] at this;omega
     · exact e
   · rcases List.mem_cons.1 ((h p).2 (by simp [hp])) with rfl | e
     · have:=q1 p hp;rw [cmpP_ord.refl] at this;omega
     · exact e
theorem Srt.paths {l:List Fl} (h:Srt l):SrtP (l.map Fl.p):=by unfold SrtP;rw [List.pairwise_map];exact h
theorem srtP_strict {l:List (List Ky)} (h:l.Nodup):SrtP (srtP l):=by
 have h1:=srtP_sorted l
 have h2:(srtP l).Nodup:=(srtP_perm l).nodup_iff.2 h
 unfold SrtP
 refine (List.Pairwise.and h1 h2).imp fun {a b} ⟨hab,hne⟩=>?_
 rcases Int.lt_or_eq_of_le hab with h' | h'
 · exact h'
 · exact absurd (cmpP_ord.eq h') hne
theorem srtP_mem {l:List (List Ky)} {p:List Ky}:p ∈ srtP l ↔ p ∈ l:=(srtP_perm l).mem_iff
def GoodK (k:Ky):Prop:=(∀ c ∈ k.n,smallB c = true)∧0 ≤ k.x∧(k.h = false→k.x = 0)
def GoodP (p:List Ky):Prop:=∀ k ∈ p,GoodK k
theorem decN_app (l:List UInt8) (c:UInt8):decN (l ++ [c]) = decN l * 10 + (c.toNat - 48):=by simp [decN,List.foldl_append]
theorem decN_dec:∀ (m u:Nat),u < m→decN (Lib.decDigits u) = u∧∀ c ∈ Lib.decDigits u,digitB c = true
 | 0,_,h=>by omega
 | m + 1,u,h=>by
   rw [Lib.decDigits]
   have hd:∀ k,k < 10→(UInt8.ofNat (48 + k)).toNat = 48 + k:=fun k hk=>by
    rw [UInt8.toNat_ofNat'];omega
   by_cases hu:u < 10
   · rw [dif_pos hu]
     refine ⟨?_,fun c hc=>?_⟩
     · show 0 * 10 + ((UInt8.ofNat (48 + u)).toNat - 48) = u
       rw [hd u hu];omega
     obtain rfl:=List.mem_singleton.1 hc
     rw [digitB_iff,hd u hu];omega
   · rw [dif_neg hu]
     obtain ⟨h1,h2⟩:=decN_dec m (u / 10) (by omega)
     refine ⟨?_,fun c hc=>?_⟩
     · rw [decN_app,h1,hd _ (Nat.mod_lt _ (by omega))];omega
     · rcases List.mem_append.1 hc with hc | hc
       · exact h2 c hc
       · obtain rfl:=List.mem_singleton.1 hc
         rw [digitB_iff,hd _ (Nat.mod_lt _ (by omega))];omega
theorem split_eq {q:UInt8→Bool}:∀ {x x' T T':List UInt8},(∀ c ∈ x,q c = true)→(∀ c ∈ x',q c = true)→(∀ c,T.head? = some c→q c = false)→(∀ c,T'.head? = some c→q c = false)→x ++ T = x' ++ T'→x = x'∧T = T'
 | [],[],_,_,_,_,_,_,h=>⟨rfl,h⟩
 | [],c :: x',T,T',_,h2,h3,_,h=>by
   have h:T = c :: (x' ++ T'):=h
   have:=h3 c (by rw [h];rfl)
   rw [h2 c (by simp)] at this;cases this
 | c :: x,[],T,T',h1,_,_,h4,h=>by
   have h:c :: (x ++ T) = T':=h
   have:=h4 c (by rw [← h];rfl)
   rw [h1 c (by simp)] at this;cases this
 | c :: x,c' :: x',T,T',h1,h2,h3,h4,h=>by
   simp only [List.cons_append,List.cons.injEq] at h
   obtain ⟨rfl,h⟩:=h
   obtain ⟨rfl,rfl⟩:=split_eq (fun d hd=>h1 d (by simp [hd])) (fun d hd=>h2 d (by simp [hd])) h3 h4 h
   exact ⟨rfl,rfl⟩
theorem sptL_cons (k:Ky) (p:List Ky):sptL (k :: p) = sptK k ++ sptL p:=by simp [sptL]
theorem sptL_head (p:List Ky):∀ c,(sptL p).head? = some c→c = 47:=fun c h=>by
 cases p with
 | nil=>simp [sptL] at h
 | cons k p=>rw [sptL_cons,sptK] at h;simpa using h.symm
theorem sptL_inj:∀ {p q:List Ky},GoodP p→GoodP q→sptL p = sptL q→p = q
 | [],[],_,_,_=>rfl
 | [],k :: q,_,_,h=>by rw [sptL_cons,sptK] at h;simp [sptL] at h
 | k :: p,[],_,_,h=>by rw [sptL_cons,sptK] at h;simp [sptL] at h
 | k :: p,j :: q,hp,hq,h=>by
   have gk:=hp k (by simp)
   have gj:=hq j (by simp)
   have hp':GoodP p:=fun x hx=>hp x (by simp [hx])
   have hq':GoodP q:=fun x hx=>hq x (by simp [hx])
   have e:∀ (k:Ky),GoodK k→sptK k = 47 :: k.n ++ (if k.h then 58 :: Lib.itoa k.x else []):=fun k g=>by
    rw [sptK]
    cases hh:k.h with
    | true=>rfl
    | false=>simp [g.2.2 hh]
   rw [sptL_cons,sptL_cons,e k gk,e j gj] at h
   simp only [List.cons_append,List.append_assoc,List.cons.injEq,true_and] at h
   have hd:∀ (k:Ky) (p:List Ky),∀ c,((if k.h then 58 :: Lib.itoa k.x else []) ++ sptL p).head? = some c→smallB c = false:=fun k p c hc=>by
    have hc2:c = 58 ∨ c = 47:=by
     cases hh:k.h with
     | true=>rw [hh] at hc;exact .inl (by simpa using hc.symm)
     | false=>rw [hh] at hc;exact .inr (sptL_head p c (by simpa using hc))
    rcases hc2 with rfl | rfl <;> decide
   obtain ⟨hn,hr⟩:=split_eq gk.1 gj.1 (hd k p) (hd j q) h
   obtain ⟨kn,kh,kx⟩:=k
   obtain ⟨jn,jh,jx⟩:=j
   simp only at hn hr gk gj
   subst hn
   cases kh with
   | true=>
     cases jh with
     | true=>
       simp only [if_true,List.cons_append,List.cons.injEq,true_and] at hr
       have ek:Lib.itoa kx = Lib.decDigits kx.toNat:=by have:=Lib.itoa_nonneg kx.toNat;rwa [Int.toNat_of_nonneg gk.2.1] at this
       have ej:Lib.itoa jx = Lib.decDigits jx.toNat:=by have:=Lib.itoa_nonneg jx.toNat;rwa [Int.toNat_of_nonneg gj.2.1] at this
       rw [ek,ej] at hr
       have dk:=decN_dec (kx.toNat + 1) kx.toNat (Nat.lt_succ_self _)
       have dj:=decN_dec (jx.toNat + 1) jx.toNat (Nat.lt_succ_self _)
       obtain ⟨h1,h2⟩:=split_eq (q:=digitB) dk.2 dj.2 (fun c hc=>by rw [sptL_head p c hc];decide) (fun c hc=>by rw [sptL_head q c hc];decide) hr
       have hx:kx.toNat = jx.toNat:=by rw [← dk.1,← dj.1,h1]
       have h0:=gk.2.1
       have h0':=gj.2.1
       obtain rfl:kx = jx:=by simp only at h0 h0';omega
       rw [sptL_inj hp' hq' h2]
     | false=>
       have:=sptL_head q 58 (by simp at hr;rw [← hr];rfl)
       simp at this
   | false=>
     cases jh with
     | true=>
       have:=sptL_head p 58 (by simp at hr;rw [hr];rfl)
       simp at this
     | false=>
       have h0:=gk.2.2 rfl
       have h0':=gj.2.2 rfl
       simp only at h0 h0'
       subst h0 h0'
       rw [sptL_inj hp' hq' (by simpa using hr)]
theorem ddP_spec:∀ {r acc:List (List Ky)},(∀ p ∈ acc,GoodP p)→(∀ p ∈ r,GoodP p)→acc.Nodup→(ddP acc r).Nodup∧∀ p,p ∈ ddP acc r ↔ p ∈ acc ∨ p ∈ r
 | [],acc,_,_,h=>⟨h,fun p=>by simp [ddP]⟩
 | q :: r,acc,ha,hr,h=>by
   simp only [ddP]
   by_cases hs:sptL q ∈ acc.map sptL
   · rw [if_pos hs]
     obtain ⟨h1,h2⟩:=ddP_spec (r:=r) ha (fun p hp=>hr p (by simp [hp])) h
     refine ⟨h1,fun p=>?_⟩
     rw [h2 p,List.mem_cons]
     obtain ⟨z,hz,he⟩:=List.mem_map.1 hs
     have:z = q:=sptL_inj (ha z hz) (hr q (by simp)) he
     subst this
     constructor
     · rintro (h | h) <;> simp [h]
     · rintro (h | rfl | h)
       · exact .inl h
       · exact .inl hz
       · exact .inr h
   · rw [if_neg hs]
     have hnq:q ∉ acc:=fun e=>hs (List.mem_map.2 ⟨q,e,rfl⟩)
     obtain ⟨h1,h2⟩:=ddP_spec (r:=r) (acc:=acc ++ [q]) (fun p hp=>by
      rcases List.mem_append.1 hp with hp | hp
      · exact ha p hp
      · obtain rfl:p = q:=by simpa using hp
        exact hr p (by simp)) (fun p hp=>hr p (by simp [hp])) (by
      rw [List.nodup_append]
      exact ⟨h, by simp, fun a ha b hb e => by obtain rfl : b = q := by simpa using hb
                                               exact hnq (e ▸ ha)⟩)
     refine ⟨h1,fun p=>?_⟩
     rw [h2 p,List.mem_append,List.mem_singleton,List.mem_cons]
     constructor
     · rintro ((h | h) | h) <;> simp [h]
     · rintro (h | h | h) <;> simp [h]
theorem pths_spec {ls:List (List Fl)} (h:∀ l ∈ ls,∀ x ∈ l,GoodP x.p):SrtP (pthsF ls)∧∀ p,p ∈ pthsF ls ↔ ∃ l ∈ ls,p ∈ l.map Fl.p:=by
 have hg:∀ p ∈ ls.flatten.map Fl.p,GoodP p:=fun p hp=>by
  obtain ⟨x,hx,rfl⟩:=List.mem_map.1 hp
  obtain ⟨l,hl,hxl⟩:=List.mem_flatten.1 hx
  exact h l hl x hxl
 obtain ⟨h1,h2⟩:=ddP_spec (acc:=[]) (by simp) hg List.nodup_nil
 refine ⟨srtP_strict h1,fun p=>?_⟩
 rw [pthsF,srtP_mem,h2 p]
 simp only [List.not_mem_nil,false_or,List.mem_map,List.mem_flatten]
 constructor
 · rintro ⟨x,⟨l,hl,hx⟩,rfl⟩;exact ⟨l,hl,x,hx,rfl⟩
 · rintro ⟨l,hl,x,hx,rfl⟩;exact ⟨x,⟨l,hl,hx⟩,rfl⟩
theorem pths_un2 {a b:List Fl} (ha:Srt a) (hg:∀ l ∈ [a,b],∀ x ∈ l,GoodP x.p):(unR a b).map Fl.p = pthsF [a,b]:=by
 obtain ⟨h3,h4⟩:=unR_spec (b:=b) ha
 obtain ⟨h5,h6⟩:=pths_spec hg
 refine srtP_ext h3.paths h5 fun p=>?_
 rw [h4 p,h6 p]
 constructor
 · rintro (h | h)
   · exact ⟨a,by simp,h⟩
   · exact ⟨b,by simp,h⟩
 · rintro ⟨l,hl,h⟩
   simp only [List.mem_cons,List.not_mem_nil,or_false] at hl
   rcases hl with rfl | rfl
   · exact .inl h
   · exact .inr h
theorem SrtP.nodup {l:List (List Ky)} (h:SrtP l):l.Nodup:=h.imp fun {a b} hab e=>by rw [e,cmpP_ord.refl] at hab;omega
end Go.Proofs.LF
namespace Go.Proofs.LF
def prsG (t:List UInt8):Nat→Nat→Nat→Nat→List Ky→List Fl→List Fl × Nat × Nat × Nat
 | 0,_,_,_,_,_=>([],0,0,0)
 | f + 1,i,ln,dp,ks,fs=>
   if i < t.length then
    if 60 ≤ ln then ([],ln,0,2)
    else
     let r:=rdLine dp (t.drop i)
     if r.2.2.2.2 = false then ([],ln,r.2.2.2.1,11)
     else
      let ks':=ks.set r.1 (kyOf r.2.1 r.2.2.1)
      let p:=ks'.take (r.1 + 1)
      if fs.any (fun x=>decide (0 ≤ cmpP x.p p)) then ([],ln,r.1,4)
      else prsG t f (i + r.2.2.2.1 + 1) (ln + 1) (min (r.1 + 1) 3) ks' (fs ++ [⟨p,r.2.2.1⟩])
   else (fs,0,0,0)
def ky0:Ky:=⟨[],false,0⟩
def prs (t:List UInt8):List Fl × Nat × Nat × Nat:=prsG t 62 0 0 0 [ky0,ky0,ky0,ky0] []
theorem rdNums_le:∀ (m:Nat) (s:List UInt8),(rdNums m s).2.1 ≤ s.length∧(rdNums m s).1.length ≤ m
 | 0,_=>by simp [rdNums]
 | m + 1,s=>by
   simp only [rdNums]
   split
   · simp
   · rename_i h
     have h1:1 ≤ s.length:=by
      cases s with
      | nil=>exact absurd (runN_stop (.inr rfl)) h
      | cons _ _=>simp
     split
     · simp;omega
     · have h2:=runN_le (p:=digitB) (m:=mostD (s.drop 1)) (l:=s.drop 1)
       have h3:=rdNums_le m ((s.drop 1).drop (runN digitB (mostD (s.drop 1)) (s.drop 1)))
       simp only [List.length_drop,List.length_cons] at h2 h3 ⊢
       omega
theorem rdLine_le (dp:Nat) (s:List UInt8):(rdLine dp s).1 ≤ dp∧(rdLine dp s).2.2.2.1 ≤ s.length∧(rdLine dp s).2.2.1.length ≤ 4∧(rdLine dp s).2.1.length ≤ 8∧((rdLine dp s).2.2.2.2 = true→(rdLine dp s).2.2.2.1 < s.length):=by
 have h1:=runN_le (p:=blankB) (m:=dp) (l:=s)
 have h2:=runN_le (p:=smallB) (m:=8) (l:=s.drop (runN blankB dp s))
 have h3:=rdNums_le 4 ((s.drop (runN blankB dp s)).drop (runN smallB 8 (s.drop (runN blankB dp s))))
 rw [List.length_drop] at h2
 simp only [List.drop_drop,List.length_drop] at h3
 simp only [rdLine]
 split
 · simp;omega
 · simp only [List.length_take,List.length_drop,Bool.and_eq_true,beq_iff_eq,List.drop_drop]
   refine ⟨by omega,by omega,h3.2,by omega,fun h=>?_⟩
   obtain ⟨_,h⟩:=h
   have h5:runN blankB dp s + (runN smallB 8 (s.drop (runN blankB dp s)) + (rdNums 4 (s.drop (runN blankB dp s + runN smallB 8 (s.drop (runN blankB dp s))))).2.1) < s.length:=by
    rcases Nat.lt_or_ge (runN blankB dp s + (runN smallB 8 (s.drop (runN blankB dp s)) + (rdNums 4 (s.drop (runN blankB dp s + runN smallB 8 (s.drop (runN blankB dp s))))).2.1)) s.length with h5 | h5
    · exact h5
    · rw [List.drop_eq_nil_of_le h5] at h;cases h
   omega
end Go.Proofs.LF
namespace Go.Proofs.LF
open Go.RowKit Go.Sort
set_option maxHeartbeats 4000000
set_option maxRecDepth 100000
attribute [local go_sem] bs_toList bs_size bs_get
theorem isKeyP_any (n:List UInt8) (l:List Int) (an ab:Option Addr) (cn sl cb K:Nat) (k:Ky) (S:Nat→Prop) (w:World) (hl:Ints S w (.slice an l.length cn) l) (hS:∀ b,S b→b < w.heap.size)
 (hK:K < w.heap.size) (h0:w.cell? ⟨K,0,none⟩ = some (.string (bs k.n))) (h1:w.cell? ⟨K,1,none⟩ = some (.bool k.h)) (h2:w.cell? ⟨K,2,none⟩ = some (.int .i64 k.x)) :
 Calls Tryz.prog 135 #[.agg #[.string (bs n), .slice an l.length cn, .slice ab sl cb], .pointer (some ⟨K,0,none⟩)] w fun e w'=>e = .returned (.bool (decide (kyOf n l = k)))∧Below w.heap.size w w':=by
 have hb:Below w.heap.size w (w.alloc (.cells #[.string (bs n), .slice an l.length cn, .slice ab sl cb] 85)):=(Below.refl _ _).alloc (nl_ _) _
 have HB:=hid hb
 have HL:=hid hl
 have HS:=hid hS
 clear hl hS hb
 obtain ⟨kk,hkk⟩:∃ kk,kyOf n l = kk:=⟨_,rfl⟩
 have hdec:decide (kyOf n l = k) = (kk.n == k.n && (kk.h == k.h && kk.x == k.x)):=by
  rw [hkk]
  obtain ⟨an,ah,ax⟩:=kk
  obtain ⟨bn,bh,bx⟩:=k
  by_cases h1:an = bn <;> by_cases h2:ah = bh <;> by_cases h3:ax = bx <;> simp [h1,h2,h3]
 have HDEC:=hid hdec
 have HKK:=hid hkk
 clear hdec hkk
 cases hn:(kk.n == k.n) <;> cases hh:(kk.h == k.h) <;> cases hx:(kk.x == k.x)
 all_goals
  go_enter Tryz.func135,Tryz.ntmps135
  go_wp2_with fail
  go_region_held3 (fun w'=>w'.cell? ⟨w.heap.size,0,none⟩ = some (.string (bs n))∧w'.cell? ⟨w.heap.size,1,none⟩ = some (.slice an l.length cn)∧w'.cell? ⟨w.heap.size,2,none⟩ = some (.slice ab sl cb)∧w'.cell? ⟨K,0,none⟩ = some (.string (bs k.n))∧w'.cell? ⟨K,1,none⟩ = some (.bool k.h)∧w'.cell? ⟨K,2,none⟩ = some (.int .i64 k.x))
   (first
     | (go_split_ands
        with_reducible refine ⟨bc_ hb1 ?_ ?_,bc_ hb1 ?_ ?_,bc_ hb1 ?_ ?_,bc_ hb1 ?_ ?_,bc_ hb1 ?_ ?_,bc_ hb1 ?_ ?_⟩
        all_goals (first | (with_reducible assumption) | (simp;done) | (simp;omega)))
     | go_keep)
   (first
     | (go_at_call 136; refine (key_any n l an cn (.slice ab sl cb) S _ (HL.out.agree (Ag_b HB.out.drew HS.out)) (fun b hb => by have := HS.out b hb; simp; omega) ab sl cb rfl).mono ?_
        rintro e w1 ⟨rfl,hb1⟩
        rw [HKK.out]))
  go_wp2_with fail
  go_ret
  have hb1':Below (w.alloc (.cells #[.string (bs n), .slice an l.length cn, .slice ab sl cb] 85)).heap.size (w.alloc (.cells #[.string (bs n), .slice an l.length cn, .slice ab sl cb] 85)) w1:=⟨hb1.os,hb1.tape,hb1.output,hb1.size,hb1.block⟩
  exact ⟨by rw [HDEC.out,hn,hh,hx];simp,HB.out.trans (hb1'.mono (by simp))⟩
theorem isKP_node {S:Nat→Prop} {w:World} {y:Fo} {a:Option Addr} {c:Nat} {cs:List Value} {K:Nat} {k:Ky} (hs:SlC S w 3 (.slice a y.len c) y.len cs) (hf:FCs S w y cs) (hS:∀ b,S b→b < w.heap.size)
 (hK:K < w.heap.size) (h0:w.cell? ⟨K,0,none⟩ = some (.string (bs k.n))) (h1:w.cell? ⟨K,1,none⟩ = some (.bool k.h)) (h2:w.cell? ⟨K,2,none⟩ = some (.int .i64 k.x)) :
 ∀ i,i < y.len→PredC 135 [.pointer (some ⟨K,0,none⟩)] w [elemV 3 cs i] (decide (keyAt y i = some k)):=by
 intro i hi W hW
 obtain ⟨n,l,s,r,hd⟩:=Fo.drop_lt hi
 have hf':=hf.drop (i:=i)
 rw [hd] at hf'
 obtain ⟨vn,vs,cs',he,hI,⟨ds,hsb,_⟩,_⟩:=hf'
 obtain ⟨an,cn,rfl,_⟩:=SlC.shape hI
 obtain ⟨ab,cb,rfl,_⟩:=SlC.shape hsb
 have e:∀ j,cs[i * 3 + j]? = (Value.string (bs n) :: Value.slice an l.length cn :: Value.slice ab s.len cb :: cs')[j]?:=fun j=>by rw [← he,List.getElem?_drop]
 have hel:elemV 3 cs i = .agg #[.string (bs n), .slice an l.length cn, .slice ab s.len cb]:=by
  have e0:=e 0
  have e1:=e 1
  have e2:=e 2
  rw [Nat.add_zero] at e0
  simp [elemV,List.range_succ,List.getD_eq_getElem?_getD,e0,e1,e2]
 have hk:keyAt y i = some (kyOf n l):=by simp [keyAt,hd]
 rw [hel,hk]
 have hag:Agree S w W:=Ag_b hW hS
 have:=isKeyP_any n l an ab cn s.len cb K k S W (SlC.agree hI hag) (fun b hb=>by have:=hS b hb;have:=hW.size;omega) (by have:=hW.size;omega) (bc_ hW hK h0) (bc_ hW hK h1) (bc_ hW hK h2)
 simpa using this
theorem enters135:Enters 135:=by intro args W;simp [go_sem]
end Go.Proofs.LF
namespace Go.Proofs.LF
open Go.RowKit Go.Sort
set_option maxHeartbeats 4000000
set_option maxRecDepth 100000
attribute [local go_sem] bs_toList bs_size bs_get
abbrev PthU (S:Nat→Prop) (w:World) (v:Value) (p:List Ky):Prop:=Pth (US S w) w v p
theorem PthU.agree {S:Nat→Prop} {w w':World} {v:Value} {p:List Ky} (h:PthU S w v p) (ha:Agree S w w'):PthU S w' v p:=(Pth.agree h (US.agree ha).1).wide (US.agree ha).2
theorem PthU.wide {S S':Nat→Prop} {w:World} {v:Value} {p:List Ky} (h:PthU S w v p) (hs:∀ b,S b→S' b):PthU S' w v p:=Pth.wide h (US.wide hs)
theorem Stable.pthu (v:Value) (p:List Ky):Stable (fun S w=>PthU S w v p):=⟨fun h=>PthU.agree h,fun h=>PthU.wide h⟩
theorem cloneK_u (p:List Ky) (a:Option Addr) (c:Nat) (S:Nat→Prop) (w:World) (hv:Pth S w (.slice a p.length c) p) (hS:∀ b,S b→b < w.heap.size) (hlen:p.length ≤ 1000) :
 Calls Tryz.prog 117 #[.slice a p.length c] w fun e w'=>∃ a' c',e = .returned (.slice a' p.length c')∧PthU (Rg w.heap.size w'.heap.size) w' (.slice a' p.length c') p∧Below w.heap.size w w':=by
 obtain ⟨j0,hj0,hy0,hy1,hy2⟩:=info_parts Tryz.info71'
 have hcaps:=SlC.caps hv
 have hlk:=len_keys p
 have q65:∀ (w:World) (a:Option Addr) (n c:Nat),(binOp .eql 65 (.slice a n c) (.slice none 0 0)).run Tryz.prog w = .ok (.bool a.isNone) w:=fun w a n c=>Lib.run_eql_slice_nil w 65 71 a n c 0 0 Tryz.underlying65
 cases a with
 | none=>
   obtain ⟨h0,rfl⟩:=hcaps.2.2 rfl
   obtain rfl:p = []:=List.eq_nil_of_length_eq_zero h0
   simp only [List.length_nil]
   go_enter Tryz.func117,Tryz.ntmps117
   go_wp2_with fail
   go_ret
   exact ⟨none,0,rfl,⟨rfl,none,0,rfl,nl_ _,by simp [maxLen],fun _=>rfl, .inl rfl⟩,Below.refl _ _⟩
 | some ad=>
   have hbel:Below w.heap.size w (w.alloc (.cells #[] 71)):=(Below.refl _ _).alloc (nl_ _) _
   have hnews:=SlC.news hv (Ag_b hbel hS)
   have how:(w.alloc (.cells #[] 71)).ownsRow w.heap.size 71 3 (.slice (some ⟨w.heap.size,0,none⟩) 0 0) 0 []:=owns_of_row (n:=0) (cap:=0) (cur:=#[]) (nl_ _) (heap_alloc_new _ _) (by omega) (by unfold maxLen;omega) (by simp) (by simp)
   have HB:=hid hbel
   clear hbel hv
   go_enter Tryz.func117,Tryz.ntmps117
   go_wp2_with (at_builtin;go_loud (refine wpList_append_ao _ rfl _ _ _ rfl w.heap.size 71 j0 _ 3 32 Tryz.underlying65 hj0 hy0 hy1 hy2 rfl (by omega) _ 0 [] rfl how (some ad) p.length c _ rfl hlk (fun h=>by cases h) hnews (one_keys p) (by unfold maxLen;omega) (by omega) (by simp) ?_);intro a1 c1 w1 hown1 hgrow1 hat1)
   simp only [Nat.zero_add,List.nil_append] at hown1
   go_ret
   refine ⟨a1,c1,by simp,SlC.of_owns_u hown1,HB.out.grown hgrow1 (by simp) (fun b hb=>by cases hb;exact nl_ _)⟩
end Go.Proofs.LF
namespace Go.Proofs.LF
open Go.RowKit Go.Sort
set_option maxHeartbeats 4000000
set_option maxRecDepth 100000
attribute [local go_sem] bs_toList bs_size bs_get
theorem key_cells {p:List Ky} {k:Nat} (h:k < p.length):(p.flatMap Ky.cells)[k * 3]? = some (.string (bs p[k].n))∧(p.flatMap Ky.cells)[k * 3 + 1]? = some (.bool p[k].h)∧(p.flatMap Ky.cells)[k * 3 + 2]? = some (.int .i64 p[k].x):=by
 have e:p.flatMap Ky.cells = (p.take k).flatMap Ky.cells ++ (Ky.cells p[k] ++ (p.drop (k + 1)).flatMap Ky.cells):=by
  conv=>lhs;rw [← List.take_append_drop k p,List.drop_eq_getElem_cons h]
  rw [List.flatMap_append,List.flatMap_cons]
 have hl:((p.take k).flatMap Ky.cells).length = k * 3:=by rw [len_keys,List.length_take];congr 1;omega
 rw [e]
 refine ⟨?_,?_,?_⟩ <;> rw [List.getElem?_append_right (by omega),hl] <;> simp [Ky.cells]
theorem cmpPaths_any (p q:List Ky) (ap aq:Option Addr) (cp cq:Nat) (S:Nat→Prop) (w:World) (hp:Pth S w (.slice ap p.length cp) p) (hq:Pth S w (.slice aq q.length cq) q) (hS:∀ b,S b→b < w.heap.size) (lp:p.length ≤ 1000) (lq:q.length ≤ 1000) :
 Calls Tryz.prog 191 #[.slice ap p.length cp, .slice aq q.length cq, .func (.func 183) #[] #[]] w fun e w'=>e = .returned (.int .i64 (cmpP p q))∧Below w.heap.size w w':=by
 go_enter Tryz.func191,Tryz.ntmps191
 go_wp2_with fail
 go_loopw [13] (fun i wr=>∃ k:Nat,k ≤ p.length∧k ≤ q.length∧i = .int .i64 k∧Hid (cmpP p q = cmpP (p.drop k) (q.drop k))∧Below w.heap.size w wr) (fun i _=>p.length - (intOf i).toNat)
 case atStart=>exact ⟨0,by omega,by omega,rfl,by simp [Hid],Below.refl _ _⟩
 case round=>
  obtain ⟨k,hk,hk2,rfl,hN,hB⟩:=hrel
  have hsz:=hB.size
  by_cases hA:k < p.length
  · obtain ⟨g,o,rfl,hg,_,_,hcell⟩:=SlC.cells hp (by omega)
    obtain ⟨k0,k1,k2⟩:=key_cells hA
    have ha:=Ag_b hB hS
    have c0:=ha.cell hg (hcell _ _ k0)
    have c1:=ha.cell hg (hcell _ _ k1)
    have c2:=ha.cell hg (hcell _ _ k2)
    rw [← Nat.add_assoc] at c1 c2
    by_cases hB2:k < q.length
    · have a2:¬ (q.length:Int) ≤ (k:Int):=by omega
      have a3:(k:Int) < (q.length:Int):=by omega
      obtain ⟨g',o',rfl,hg',_,_,hcell'⟩:=SlC.cells hq (by omega)
      obtain ⟨k0',k1',k2'⟩:=key_cells hB2
      have hbx:Below w.heap.size w (wr.alloc (.cells #[.string (bs p[k].n), .bool p[k].h, .int .i64 p[k].x] 71)):=hB.alloc hsz _
      have hax:=Ag_b hbx hS
      have d0:=hax.cell hg' (hcell' _ _ k0')
      have d1:=hax.cell hg' (hcell' _ _ k1')
      have d2:=hax.cell hg' (hcell' _ _ k2')
      rw [← Nat.add_assoc] at d1 d2
      have hd:cmpP (p.drop k) (q.drop k) = if byK p[k] q[k] ≠ 0 then byK p[k] q[k] else cmpP (p.drop (k + 1)) (q.drop (k + 1)):=by
       rw [List.drop_eq_getElem_cons hA,List.drop_eq_getElem_cons hB2];rfl
      have HD:=hid hd
      have HBX:=hid hbx
      clear hcell k0 k1 k2 hcell' k0' k1' k2' hd hbx hax
      go_wp2_with fail
      refine (byKey_any p[k] q[k] _).mono ?_
      rintro e w2 ⟨rfl,hb2⟩
      have hz2:=HBX.out.size
      have HB2:=hid (HBX.out.trans ((((Below.refl _ _).alloc (nl_ _) _).trans (hb2.mono (by simp))).mono hz2))
      clear hz2 hb2
      by_cases he:byK p[k] q[k] = 0
      · have he':(byK p[k] q[k] != 0) = false:=by simpa using he
        have HE:=hid he
        clear he
        go_wp2_with fail
        go_roundw
        case rel=>exact ⟨k + 1,by omega,by omega,by go_num,by rw [Hid,hN.out,HD.out,if_neg (by simpa using HE.out)],HB2.out⟩
        case measure=>simp [intOf];omega
      · have he':(byK p[k] q[k] != 0) = true:=by simpa using he
        have HE:=hid he
        clear he
        go_wp2_with fail
        go_ret
        exact ⟨ret_int (by rw [hN.out,HD.out,if_pos (by simpa using HE.out)]),HB2.out⟩
    · have a2:(q.length:Int) ≤ (k:Int):=by omega
      have hd:cmpP (p.drop k) (q.drop k) = 1:=by
       rw [List.drop_eq_getElem_cons hA,List.drop_eq_nil_of_le (by omega:q.length ≤ k)];rfl
      clear hcell k0 k1 k2
      go_wp2_with fail
      go_ret
      exact ⟨ret_int (by rw [hN.out,hd]),hB.alloc hsz _⟩
  · have hA':¬ (k:Int) < (p.length:Int):=by omega
    obtain rfl:k = p.length:=by omega
    by_cases hB2:p.length < q.length
    · have a2:(p.length:Int) < (q.length:Int):=by omega
      have hd:cmpP (p.drop p.length) (q.drop p.length) = -1:=by
       rw [List.drop_eq_getElem_cons hB2,List.drop_length];rfl
      go_wp2_with fail
      go_ret
      exact ⟨ret_int (by rw [hN.out,hd]),hB⟩
    · have a2:¬ (p.length:Int) < (q.length:Int):=by omega
      have hd:cmpP (p.drop p.length) (q.drop p.length) = 0:=by
       rw [List.drop_length,List.drop_eq_nil_of_le (by omega)];rfl
      go_wp2_with fail
      go_ret
      exact ⟨ret_int (by rw [hN.out,hd]),hB⟩
theorem byPath_any (p q:List Ky) (ap aq:Option Addr) (cp cq:Nat) (S:Nat→Prop) (w:World) (hp:Pth S w (.slice ap p.length cp) p) (hq:Pth S w (.slice aq q.length cq) q) (hS:∀ b,S b→b < w.heap.size) (lp:p.length ≤ 1000) (lq:q.length ≤ 1000) :
 Calls Tryz.prog 103 #[.slice ap p.length cp, .slice aq q.length cq] w fun e w'=>e = .returned (.int .i64 (cmpP p q))∧Below w.heap.size w w':=by
 have H:=hid (cmpPaths_any p q ap aq cp cq S w hp hq hS lp lq)
 go_enter Tryz.func103,Tryz.ntmps103
 go_wp2_with fail
 refine H.out.mono ?_
 rintro e w1 ⟨rfl,hb1⟩
 go_wp2_with fail
 go_ret
 exact ⟨rfl,hb1⟩
end Go.Proofs.LF
namespace Go.Proofs.LF
open Go.RowKit Go.Sort
set_option maxHeartbeats 4000000
set_option maxRecDepth 100000
attribute [local go_sem] bs_toList bs_size bs_get
theorem cmpKN_any (n:List UInt8) (l:List Int) (an ab:Option Addr) (cn sl cb:Nat) (k:Ky) (S:Nat→Prop) (w:World) (hl:Ints S w (.slice an l.length cn) l) (hS:∀ b,S b→b < w.heap.size) :
 Calls Tryz.prog 204 #[.agg #[.string (bs n), .slice an l.length cn, .slice ab sl cb], .agg #[.string (bs k.n), .bool k.h, .int .i64 k.x]] w fun e w'=>e = .returned (.int .i64 (byK (kyOf n l) k))∧Below w.heap.size w w':=by
 obtain ⟨W,hW⟩:∃ W,W = (w.alloc (.cells #[.string (bs n), .slice an l.length cn, .slice ab sl cb] 85)).alloc (.cells #[.string (bs k.n), .bool k.h, .int .i64 k.x] 71):=⟨_,rfl⟩
 have hb:Below w.heap.size w W:=by rw [hW];exact ((Below.refl _ _).alloc (nl_ _) _).alloc (by simp) _
 have hWs:W.heap.size = w.heap.size + 1 + 1:=by rw [hW];simp
 have HB:=hid hb
 have HWS:=hid hWs
 have HL:=hid (hl.agree (Ag_b hb hS))
 have HS:=hid hS
 clear hl hS hb hWs
 obtain ⟨kk,hkk⟩:∃ kk,kyOf n l = kk:=⟨_,rfl⟩
 have HKK:=hid hkk
 rw [hkk]
 clear hkk
 subst hW
 go_enter Tryz.func204,Tryz.ntmps204
 go_wp2_with fail
 go_region_held3 (fun w'=>w'.cell? ⟨w.heap.size,0,none⟩ = some (.string (bs n))∧w'.cell? ⟨w.heap.size,1,none⟩ = some (.slice an l.length cn)∧w'.cell? ⟨w.heap.size,2,none⟩ = some (.slice ab sl cb)∧w'.cell? ⟨w.heap.size + 1,0,none⟩ = some (.string (bs k.n))∧w'.cell? ⟨w.heap.size + 1,1,none⟩ = some (.bool k.h)∧w'.cell? ⟨w.heap.size + 1,2,none⟩ = some (.int .i64 k.x))
  (first
    | (go_split_ands
       with_reducible refine ⟨bc_ hb1 ?_ ?_,bc_ hb1 ?_ ?_,bc_ hb1 ?_ ?_,bc_ hb1 ?_ ?_,bc_ hb1 ?_ ?_,bc_ hb1 ?_ ?_⟩
       all_goals (first | (with_reducible assumption) | (simp;done) | (simp;omega)))
    | (go_split_ands
       with_reducible refine ⟨bc_ hb2 ?_ ?_,bc_ hb2 ?_ ?_,bc_ hb2 ?_ ?_,bc_ hb2 ?_ ?_,bc_ hb2 ?_ ?_,bc_ hb2 ?_ ?_⟩
       all_goals (first | (with_reducible assumption) | (have:=hb1.size;simp at this ⊢;omega)))
    | go_keep)
  (first
    | (go_at_call 136; refine (key_any n l an cn (.slice ab sl cb) S _ (HL.out.agree (Ag_b (Below.refl _ _).drew (fun b hb => by have := HS.out b hb; have := HWS.out; omega))) (fun b hb => by have := HS.out b hb; simp; omega) ab sl cb rfl).mono ?_
       rintro e w1 ⟨rfl,hb1⟩
       rw [HKK.out])
    | (go_at_call 183; refine (byKey_any kk k _).mono ?_
       rintro e w2 ⟨rfl,hb2⟩))
 go_wp2_with fail
 go_ret
 exact ⟨rfl,HB.out.drew.trans ((hb1.mono (show w.heap.size ≤ _ by simp;omega)).trans (hb2.mono (show w.heap.size ≤ _ by have:=hb1.size;simp at this;omega)))⟩
def keyD (y:Fo) (i:Nat):Ky:=(keyAt y i).getD ky0
def fndN (y:Fo) (k:Ky):Nat:=bsF (fun h=>decide (byK (keyD y h) k < 0)) 0 y.len
theorem bsearchN_any (y:Fo) (k:Ky) (al:Option Addr) (cl:Nat) (S:Nat→Prop) (w:World) (hv:FSl S w (.slice al y.len cl) y) (hS:∀ b,S b→b < w.heap.size) (hl:y.len ≤ 1000) :
 Calls Tryz.prog 203 #[.slice al y.len cl, .agg #[.string (bs k.n), .bool k.h, .int .i64 k.x], .func (.func 204) #[] #[]] w fun e w'=>e = .returned (.tuple #[.int .i64 (fndN y k), .bool (decide (fndN y k < y.len) && decide (byK (keyD y (fndN y k)) k = 0))])∧Below w.heap.size w w':=by
 obtain ⟨a',c',he,hc,hcm,hat⟩:=hv.at
 obtain ⟨rfl,rfl⟩:al = a'∧cl = c':=by cases he;exact ⟨rfl,rfl⟩
 have HAT:=hid hat
 have HS:=hid hS
 clear hat hS he hv
 unfold maxLen at hcm
 have hcall:∀ (i:Nat) (hi:i < y.len),∃ g o n l s an cn ab cb,al = some ⟨g,o,none⟩∧keyD y i = kyOf n l∧g < w.heap.size∧∀ W,Below w.heap.size w W→W.cell? ⟨g,o + i * 3,none⟩ = some (.string (bs n))∧W.cell? ⟨g,o + i * 3 + 1,none⟩ = some (.slice an l.length cn)∧W.cell? ⟨g,o + i * 3 + 2,none⟩ = some (.slice ab (Fo.len s) cb) ∧
  Hid (Calls Tryz.prog 204 #[.agg #[.string (bs n), .slice an l.length cn, .slice ab (Fo.len s) cb], .agg #[.string (bs k.n), .bool k.h, .int .i64 k.x]] W fun e w'=>e = .returned (.int .i64 (byK (kyOf n l) k))∧Below W.heap.size W w'):=by
  intro i hi
  obtain ⟨g,o,n,l,s,r,an,cn,ab,cb,rfl,hg,hd,m0,m1,m2,hI,hF⟩:=HAT.out i hi
  refine ⟨g,o,n,l,s,an,cn,ab,cb,rfl,by simp [keyD,keyAt,hd],HS.out g hg,fun W hB=>?_⟩
  have ha:Agree S w W:=Ag_b hB HS.out
  refine ⟨ha.cell hg m0,ha.cell hg m1,ha.cell hg m2,cmpKN_any n l an ab cn s.len cb k S W (hI.agree ha) (fun b hb=>by have:=hB.size;have:=HS.out b hb;omega)⟩
 have HC:=hid hcall
 clear hcall HAT
 have hb0:Below w.heap.size w (w.alloc (.cells #[.string (bs k.n), .bool k.h, .int .i64 k.x] 71)):=(Below.refl _ _).alloc (nl_ _) _
 have HB0:=hid hb0
 have HN0:=hid (heap_alloc_new w (.cells #[.string (bs k.n), .bool k.h, .int .i64 k.x] 71))
 clear hb0
 go_enter Tryz.func203,Tryz.ntmps203
 go_wp2_with fail
 go_loopw [9,10] (fun vi vj wr=>∃ i j:Nat,vi = .int .i64 i∧vj = .int .i64 j∧i ≤ j∧j ≤ y.len∧Hid (fndN y k = bsF (fun h=>decide (byK (keyD y h) k < 0)) i j)∧Hid (wr.heap[w.heap.size]? = some (.cells #[.string (bs k.n), .bool k.h, .int .i64 k.x] 71 (0,0)))∧Below w.heap.size w wr) (fun vi vj _=>(intOf vj).toNat - (intOf vi).toNat)
 case atStart=>exact ⟨0,y.len,rfl,rfl,Nat.zero_le _,nl_ _,rfl,HN0.out,HB0.out⟩
 case round=>
  obtain ⟨i,j,rfl,rfl,hij,hjl,hF,hK,hB⟩:=hrel
  have hsz:=hB.size
  have hszK:w.heap.size < wr.heap.size:=(Array.getElem?_eq_some_iff.1 hK.out).1
  have e0:=cg_ hK.out (k:=0) rfl
  have e1:=cg_ hK.out (k:=1) rfl
  have e2:=cg_ hK.out (k:=2) rfl
  by_cases hlt:i < j
  · have hlt':(i:Int) < (j:Int):=by omega
    obtain ⟨h,hh⟩:∃ h,(i + j) / 2 = h:=⟨_,rfl⟩
    have hhi:((i:Int) + (j:Int)) / 2 = (h:Int):=by omega
    have hhl:h < y.len:=by omega
    have hbi:i ≤ h:=by omega
    have hbj:h < j:=by omega
    have hhl':(h:Int) < (y.len:Int):=by omega
    have hh0:(0:Int) ≤ (h:Int):=by omega
    obtain ⟨g,o,n,l,s,an,cn,ab,cb,rfl,hkd,hgl,H9⟩:=HC.out h hhl
    obtain ⟨c0,c1,c2,_⟩:=H9 wr hB
    have H:=hid ((H9 wr.drew hB.drew).2.2.2.out)
    clear H9
    have hF2:=hF.out
    rw [bsF_go hlt,hh] at hF2
    simp only [hkd,decide_eq_true_eq] at hF2
    have HF:=hid hF2
    clear hF2 hh hkd
    go_wp2_with fail
    go_region_held3 (fun w'=>w'.cell? ⟨g,o + h * 3,none⟩ = some (.string (bs n))∧w'.cell? ⟨g,o + h * 3 + 1,none⟩ = some (.slice an l.length cn)∧w'.cell? ⟨g,o + h * 3 + 2,none⟩ = some (.slice ab s.len cb)∧w'.cell? ⟨w.heap.size,0,none⟩ = some (.string (bs k.n))∧w'.cell? ⟨w.heap.size,1,none⟩ = some (.bool k.h)∧w'.cell? ⟨w.heap.size,2,none⟩ = some (.int .i64 k.x))
     (first
       | (go_split_ands
          with_reducible refine ⟨bc_ hb3 ?_ ?_,bc_ hb3 ?_ ?_,bc_ hb3 ?_ ?_,bc_ hb3 ?_ ?_,bc_ hb3 ?_ ?_,bc_ hb3 ?_ ?_⟩
          all_goals (first | (with_reducible assumption) | (simp;done) | (simp;omega)))
       | go_keep)
     (first
       | (go_at_call 204; refine H.out.mono ?_
          rintro e w2 ⟨rfl,hb3⟩))
    have HB:=hid (hB.drew.trans (hb3.mono (show w.heap.size ≤ _ by simpa using hsz)))
    have HK2:=hid ((hb3.block w.heap.size hszK).trans hK.out)
    clear hb3
    by_cases hneg:byK (kyOf n l) k < 0
    · have hF3:=HF.out
      rw [if_pos hneg] at hF3
      have HF3:=hid hF3
      clear hF3
      go_wp2_with fail
      go_roundw
      case rel=>exact ⟨h + 1,j,by go_num,rfl,by omega,hjl,HF3.out,HK2.out,HB.out⟩
      case measure=>simp [intOf];omega
    · have hF3:=HF.out
      rw [if_neg hneg] at hF3
      have HF3:=hid hF3
      clear hF3
      go_wp2_with fail
      go_roundw
      case rel=>exact ⟨i,h,rfl,rfl,hbi,by omega,HF3.out,HK2.out,HB.out⟩
      case measure=>simp [intOf];omega
  · obtain rfl:i = j:=by omega
    have hlt':¬ (i:Int) < (i:Int):=by omega
    have hF2:=hF.out
    clear hF2
    by_cases hil:i < y.len
    · have hil':(i:Int) < (y.len:Int):=by omega
      obtain ⟨g,o,n,l,s,an,cn,ab,cb,rfl,hkd,hgl,H9⟩:=HC.out i hil
      obtain ⟨c0,c1,c2,_⟩:=H9 wr hB
      have H:=hid ((H9 wr.drew hB.drew).2.2.2.out)
      clear H9
      go_wp2_with fail
      go_region_held3 (fun w'=>w'.cell? ⟨g,o + i * 3,none⟩ = some (.string (bs n))∧w'.cell? ⟨g,o + i * 3 + 1,none⟩ = some (.slice an l.length cn)∧w'.cell? ⟨g,o + i * 3 + 2,none⟩ = some (.slice ab s.len cb)∧w'.cell? ⟨w.heap.size,0,none⟩ = some (.string (bs k.n))∧w'.cell? ⟨w.heap.size,1,none⟩ = some (.bool k.h)∧w'.cell? ⟨w.heap.size,2,none⟩ = some (.int .i64 k.x))
       (first
         | (go_split_ands
            with_reducible refine ⟨bc_ hb3 ?_ ?_,bc_ hb3 ?_ ?_,bc_ hb3 ?_ ?_,bc_ hb3 ?_ ?_,bc_ hb3 ?_ ?_,bc_ hb3 ?_ ?_⟩
            all_goals (first | (with_reducible assumption) | (simp;done) | (simp;omega)))
         | go_keep)
       (first
         | (go_at_call 204; refine H.out.mono ?_
            rintro e w2 ⟨rfl,hb3⟩))
      have HB:=hid (hB.drew.trans (hb3.mono (show w.heap.size ≤ _ by simpa using hsz)))
      clear hb3
      go_wp2_with fail
      go_ret2
      have hF2:=hF.out
      rw [bsF_stop (by omega)] at hF2
      exact ⟨by rw [hF2,hkd];simp [hil];rfl,HB.out⟩
    · obtain rfl:i = y.len:=by omega
      go_wp2_with fail
      go_quiet (fail)
      have HB3:=hid (below_drewN hB nq)
      go_wp2_with fail
      go_ret2
      have hF2:=hF.out
      rw [bsF_stop (by omega)] at hF2
      exact ⟨by rw [hF2];simp,HB3.out⟩
end Go.Proofs.LF
namespace Go.Proofs.LF
def fiG (p:List Ky):Nat→List Fl→Int
 | _,[] => -1
 | k,x :: l=>if x.p = p then (k:Int) else fiG p (k + 1) l
def fiI (l:List Fl) (p:List Ky):Int:=fiG p 0 l
theorem fiG_cases (p:List Ky):∀ (l:List Fl) (k:Nat),(∃ (j:Nat) (h:j < l.length),fiG p k l = (k:Int) + j∧rfd l p = some l[j]∧l[j].p = p) ∨ (fiG p k l = -1∧rfd l p = none)
 | [],k => .inr ⟨rfl,rfl⟩
 | x :: l,k=>by
   by_cases h:x.p = p
   · exact .inl ⟨0,by simp,by simp [fiG,h],by simp [rfd,h],by simpa using h⟩
   · have e1:fiG p k (x :: l) = fiG p (k + 1) l:=by simp [fiG,h]
     have e2:rfd (x :: l) p = rfd l p:=by simp [rfd,h]
     rw [e1,e2]
     rcases fiG_cases p l (k + 1) with ⟨j,hj,h1,h2,h3⟩ | h1
     · exact .inl ⟨j + 1,by simpa using hj,by rw [h1];omega,by simpa using h2,by simpa using h3⟩
     · exact .inr h1
theorem fi_cases (l:List Fl) (p:List Ky):(∃ (j:Nat) (h:j < l.length),fiI l p = (j:Int)∧rfd l p = some l[j]∧l[j].p = p) ∨ (fiI l p = -1∧rfd l p = none):=by
 rcases fiG_cases p l 0 with ⟨j,hj,h1,h2,h3⟩ | h1
 · exact .inl ⟨j,hj,by rw [fiI,h1];simp,h2,h3⟩
 · exact .inr h1
theorem fiG_step {l:List Fl} {p:List Ky} {k:Nat} {x:Fl} (h:fiI l p = fiG p k (l.drop k)) (hk:k < l.length) (hx:l[k] = x):(x.p = p→fiI l p = (k:Int))∧(x.p ≠ p→fiI l p = fiG p (k + 1) (l.drop (k + 1))):=by
 rw [List.drop_eq_getElem_cons hk,hx] at h
 exact ⟨fun e=>by rw [h,fiG,if_pos e],fun e=>by rw [h,fiG,if_neg e]⟩
theorem fiG_end {l:List Fl} {p:List Ky} (h:fiI l p = fiG p l.length (l.drop l.length)):fiI l p = -1:=by rw [h,List.drop_length];rfl
theorem byK_lt (a b:Ky):decide (byK a b < 0) = befK a b:=by
 have h:decide (0 ≤ byK a b) = !befK a b:=byK_bef' a b
 by_cases h2:byK a b < 0
 · rw [decide_eq_false (by omega)] at h
   rw [decide_eq_true h2];cases hb:befK a b with
   | true=>rfl
   | false=>rw [hb] at h;cases h
 · rw [decide_eq_true (by omega)] at h
   rw [decide_eq_false h2];cases hb:befK a b with
   | false=>rfl
   | true=>rw [hb] at h;cases h
theorem ahead_at {p q:List Ky} {k:Nat} {a b:Ky} (h:p.take k = q.take k) (hp:k < p.length) (hq:k < q.length) (ha:p[k] = a) (hb:q[k] = b) (hne:a ≠ b):decide (cmpP p q < 0) = befK a b:=by
 have e1:p = p.take k ++ a :: p.drop (k + 1):=by rw [← ha,← List.drop_eq_getElem_cons hp,List.take_append_drop]
 have e2:q = p.take k ++ b :: q.drop (k + 1):=by rw [h,← hb,← List.drop_eq_getElem_cons hq,List.take_append_drop]
 have e3:cmpP p q = byK a b:=by
  rw [e1,e2,cmpP_same,cmpP,if_pos]
  intro e;exact hne (byK_ord.eq e)
 rw [e3,byK_lt]
theorem ahead_end {p q:List Ky} {k:Nat} (h:p.take k = q.take k) (h2:k = p.length∧k ≤ q.length ∨ k = q.length∧k ≤ p.length):decide (cmpP p q < 0) = decide (p.length < q.length):=by
 have e1:p = p.take k ++ p.drop k:=(List.take_append_drop k p).symm
 have e2:q = p.take k ++ q.drop k:=by rw [h];exact (List.take_append_drop k q).symm
 have e3:cmpP p q = cmpP (p.drop k) (q.drop k):=by
  conv=>lhs;rw [e1,e2]
  exact cmpP_same _ _ _
 rw [e3]
 rcases h2 with ⟨rfl,h2⟩ | ⟨rfl,h2⟩
 · rw [List.drop_length]
   cases hd:q.drop p.length with
   | nil=>
     have:=congrArg List.length hd
     rw [List.length_drop] at this
     simp only [List.length_nil] at this
     simp [cmpP];omega
   | cons c r=>
     have:=congrArg List.length hd
     rw [List.length_drop] at this
     simp only [List.length_cons] at this
     simp [cmpP];omega
 · rw [List.drop_length]
   cases hd:p.drop q.length with
   | nil=>simp [cmpP];omega
   | cons c r=>simp [cmpP];omega
theorem eqR_some {a b:List Fl} {p:List Ky} {x y:Fl} (ha:rfd a p = some x) (hb:rfd b p = some y):eqR a b p = decide (x.l = y.l):=by unfold eqR;rw [ha,hb]
theorem eqR_l {a b:List Fl} {p:List Ky} {x:Fl} (ha:rfd a p = some x) (hb:rfd b p = none):eqR a b p = false:=by unfold eqR;rw [ha,hb]
theorem eqR_r {a b:List Fl} {p:List Ky} {y:Fl} (ha:rfd a p = none) (hb:rfd b p = some y):eqR a b p = false:=by unfold eqR;rw [ha,hb]
theorem eqR_no {a b:List Fl} {p:List Ky} (ha:rfd a p = none) (hb:rfd b p = none):eqR a b p = true:=by unfold eqR;rw [ha,hb]
def putG (x:Fl):Bool→List Fl→List Fl→List Fl
 | d,acc,[]=>if d then acc else acc ++ [x]
 | d,acc,y :: l=>if !d && decide (cmpP x.p y.p < 0) then putG x true (acc ++ [x] ++ [y]) l else putG x d (acc ++ [y]) l
theorem putG_true (x:Fl):∀ (l acc:List Fl),putG x true acc l = acc ++ l
 | [],acc=>by simp [putG]
 | y :: l,acc=>by simp [putG,putG_true x l]
theorem putG_false (x:Fl):∀ (l acc:List Fl),putG x false acc l = acc ++ putR x l
 | [],acc=>by simp [putG,putR]
 | y :: l,acc=>by
   by_cases h:cmpP x.p y.p < 0
   · simp [putG,putR,h,putG_true]
   · simp [putG,putR,h,putG_false x l]
end Go.Proofs.LF
