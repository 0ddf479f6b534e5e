/- Parts of the proof of a law of layer 11 (file): LfRdIn, LfW36, LfRead, LfW17, LfW35, LfW24, LfW14, LfW68, LfW70. The conditions stand in each theorem. -/
import Derived.Below
import Derived.ChangeSame
import Derived.Deep.DeepHandedRow
import Derived.Deep.DeepWitnessRowRef
import Derived.Deep.Slices
import Derived.Laws.StructEq
import Derived.Lib.LaidIn
import Derived.Lib.LaidTab
import Derived.Lib.LazyBuf
import Derived.Lib.SliceRun
import Derived.OpenShut
import Derived.ProofKit
import Derived.Stop.LaidErr
import Derived.Test.YtadkpjgpefcphaaGreatDoorCards
import Derived.Test.YtadkpjgpefcphaaGreatDoorProg
import Derived.Test.YtadkpjgpefcphaaGreatDoorTie
import Derived.Test.YtadkpjgpefcphaaGreatDoorNoaa
import Derived.Test.YtadkpjgpefcphaaGreatDoorNoab
import Derived.Test.YtadkpjgpefcphaaGreatDoorNoae
import Derived.Test.YtadkpjgpefcphaaGreatDoorNoah
import Derived.Test.YtadkpjgpefcphaaGreatDoorNoai
import Derived.Test.YtadkpjgpefcphaaGreatDoorNoaj
set_option linter.all false
set_option linter.unusedVariables false
set_option linter.unusedSimpArgs false
namespace Go.Proofs.LF
open Go.RowKit
set_option maxRecDepth 100000
theorem cells22:Tryz.prog.cellsOf 85 = 3:=by kernel_rfl
theorem cells3:Tryz.prog.cellsOf 3 = 1:=by kernel_rfl
theorem cells9:Tryz.prog.cellsOf 9 = 1:=by kernel_rfl
theorem cells66:Tryz.prog.cellsOf 66 = 1:=by kernel_rfl
theorem cells22':Tryz.prog.cellsOf 22 = 1:=by kernel_rfl
section
variable {H:Type} {enc:TypeId × Value→H} {W:World}
theorem cell_plain {a:Addr} {v:Value} (h:W.cell? a = some v):a.spot = none∧a.block < W.heap.size:=by
 unfold World.cell? at h
 split at h
 · rename_i c t f hb
   split at h
   · cases h
   · rename_i hs
     exact ⟨by simpa using hs,(Array.getElem?_eq_some_iff.1 hb).1⟩
 · cases h
theorem add_plain (a:Addr) (h:a.spot = none) (i:Nat):a.add i = ⟨a.block,a.off + i,none⟩:=by
 unfold Addr.add
 split
 · rename_i h0
   subst h0
   cases a
   simp only at h
   subst h
   rfl
 · rfl
theorem read_ints {fuel:Nat} {v:Value} {x:DataW H × List MemPlace} (h:DataW.trod enc Tryz.prog W 0 (fun _=>true) true fuel 66 [v] = some x):∃ l,Ints (fun b=>b < W.heap.size) W v l:=by
 rcases Go.ChangeShapes.open_ints Tryz.underlying66 Tryz.underlying3 cells3 h with ⟨hc,_⟩ | ⟨a,len,cap,zs,hc,_,hl,hm,hz,_,hcell,_⟩
 · obtain rfl:v = _:=by simpa using hc
   exact ⟨[],rfl,none,0,rfl,nl_ _,by simp [maxLen],fun _=>rfl, .inl rfl⟩
 · obtain rfl:v = _:=by simpa using hc
   simp only [if_true] at hz
   have hlen:(zs.take len).length = len:=by rw [List.length_take];omega
   refine ⟨zs.take len,?_⟩
   unfold Ints
   rw [hlen]
   refine ⟨by simp;omega,some a,cap,rfl,hl,hm,(fun h=>by cases h),?_⟩
   by_cases h0:len = 0
   · exact .inl h0
   · have hs:=cell_plain (hcell 0 (by omega))
     have h1:=hs.1
     have hadd0:(a.add 0) = a:=rfl
     rw [hadd0] at hs
     refine .inr ⟨a.block,a.off,by cases a;simp only at hs;rw [hs.1],hs.2,fun j u hj=>?_⟩
     simp only [List.getElem?_map,Option.map_eq_some_iff,List.getElem?_take] at hj
     obtain ⟨z,hz',rfl⟩:=hj
     split at hz'
     · have hj':=(List.getElem?_eq_some_iff.1 hz').1
       have:=hcell j hj'
       rw [add_plain a hs.1] at this
       rw [this,List.getD_eq_getElem?_getD,hz'];rfl
     · cases hz'
theorem read_nodes:∀ (fuel:Nat) (v:Value) (x:DataW H × List MemPlace),DataW.trod enc Tryz.prog W 0 (fun _=>true) true fuel 22 [v] = some x→∃ y,FSl (fun b=>b < W.heap.size) W v y:=by
 intro fuel
 induction fuel using Nat.strongRecOn with
 | _ fuel ih=>
 intro v x h
 rcases DataW.trod_slice Tryz.underlying22 h with ⟨hc,_⟩ | ⟨a,len,cap,elems,rest,n,hfu,hc,_,hb,hl,hm,hlen,hel,_,_⟩
 · obtain rfl:v = _:=by simpa using hc
   exact ⟨.nil,[],⟨rfl,none,0,rfl,nl_ _,by simp [maxLen],fun _=>rfl, .inl rfl⟩,rfl⟩
 · obtain rfl:v = _:=by simpa using hc
   rw [cells22] at hel
   have each:∀ i,i < len→∃ s l y vn vs,W.cell? (a.add (i * 3)) = some (.string s)∧W.cell? ((a.add (i * 3)).add 1) = some vn∧W.cell? ((a.add (i * 3)).add 2) = some vs∧Ints (fun b=>b < W.heap.size) W vn l∧FSl (fun b=>b < W.heap.size) W vs y:=by
    intro i hi
    have h1:=hel i hi
    rw [List.getElem?_eq_getElem (by omega)] at h1
    obtain ⟨cs',hcs,hx⟩:=Option.bind_eq_some_iff.1 h1
    obtain ⟨_,hcl,hcc⟩:=World.cells?_some hcs
    obtain ⟨xs,m,hnm,_,_,hxl,hfs⟩:=DataW.trod_struct Tryz.underlying85 hx
    match cs',hcl with
    | [c0,c1,c2],_=>
      have f0:=hfs 0 _ rfl
      have f1:=hfs 1 _ rfl
      have f2:=hfs 2 _ rfl
      change DataW.trod enc Tryz.prog W 0 (fun _=>true) true m 9 (([c0,c1,c2].drop 0).take (Tryz.prog.cellsOf 9)) = xs[0]? at f0
      change DataW.trod enc Tryz.prog W 0 (fun _=>true) true m 66 (([c0,c1,c2].drop 1).take (Tryz.prog.cellsOf 66)) = xs[1]? at f1
      change DataW.trod enc Tryz.prog W 0 (fun _=>true) true m 22 (([c0,c1,c2].drop 2).take (Tryz.prog.cellsOf 22)) = xs[2]? at f2
      rw [cells9] at f0
      rw [cells66] at f1
      rw [cells22'] at f2
      have g0:DataW.trod enc Tryz.prog W 0 (fun _=>true) true m 9 [c0] = xs[0]?:=f0
      have g1:DataW.trod enc Tryz.prog W 0 (fun _=>true) true m 66 [c1] = xs[1]?:=f1
      have g2:DataW.trod enc Tryz.prog W 0 (fun _=>true) true m 22 [c2] = xs[2]?:=f2
      have hx3:xs.length = 3:=hxl
      rw [List.getElem?_eq_getElem (by omega)] at g0 g1 g2
      obtain ⟨s,hs,_⟩:=DataW.trod_string Tryz.underlying9 g0
      obtain rfl:c0 = .string s:=by simpa using hs
      obtain ⟨l,hI⟩:=read_ints g1
      obtain ⟨y,hF⟩:=ih m (by omega) c2 _ g2
      have e0:=hcc 0 (by omega)
      have e1:=hcc 1 (by omega)
      have e2:=hcc 2 (by omega)
      exact ⟨s,l,y,c1,c2,e0,e1,e2,hI,hF⟩
   have all:∀ k,k ≤ len→∃ y ds,y.len = k∧ds.length = k * 3∧FCs (fun b=>b < W.heap.size) W y ds∧∀ j u,ds[j]? = some u→W.cell? ⟨a.block,a.off + j,none⟩ = some u:=by
    intro k
    induction k with
    | zero=>intro _;exact ⟨.nil,[],rfl,rfl,rfl,fun j u hj=>by simp at hj⟩
    | succ k ihk=>
      intro hk
      obtain ⟨y,ds,h1,h2,h3,h4⟩:=ihk (by omega)
      obtain ⟨s,l,z,vn,vs,c0,c1,c2,hI,hF⟩:=each k (by omega)
      have hsp:a.spot = none:=by
       obtain ⟨s0,_,_,_,_,d0,_⟩:=each 0 (by omega)
       exact (cell_plain d0).1
      rw [add_plain a hsp,add_plain _ rfl] at c1 c2
      rw [add_plain a hsp] at c0
      obtain ⟨an,cn,rfl,_⟩:=SlC.shape hI
      obtain ⟨ab,cb,rfl,_,_,_⟩:=hF.at
      refine ⟨y.app (.cons s.data.toList l z .nil),ds ++ [.string (bs s.data.toList), .slice an l.length cn, .slice ab z.len cb],by rw [Fo.len_app,h1];rfl,by simp [h2];omega,h3.app (FCs.one hI hF),fun j u hj=>?_⟩
      by_cases hjl:j < ds.length
      · rw [List.getElem?_append_left hjl] at hj
        exact h4 j u hj
      · rw [List.getElem?_append_right (by omega)] at hj
        rw [bs_of] at hj
        have hj3:j - ds.length < 3:=by have:=(List.getElem?_eq_some_iff.1 hj).1;simpa using this
        obtain h | h | h:j = k * 3 ∨ j = k * 3 + 1 ∨ j = k * 3 + 2:=by omega
        · subst h
          rw [show k * 3 - ds.length = 0 by omega] at hj
          simp only [List.getElem?_cons_zero,Option.some.injEq] at hj
          rw [← hj];exact c0
        · subst h
          rw [show k * 3 + 1 - ds.length = 1 by omega] at hj
          simp only [List.getElem?_cons_succ,List.getElem?_cons_zero,Option.some.injEq] at hj
          rw [← hj,← Nat.add_assoc];exact c1
        · subst h
          rw [show k * 3 + 2 - ds.length = 2 by omega] at hj
          simp only [List.getElem?_cons_succ,List.getElem?_cons_zero,Option.some.injEq] at hj
          rw [← hj,← Nat.add_assoc];exact c2
   obtain ⟨y,ds,h1,h2,h3,h4⟩:=all len (nl_ _)
   refine ⟨y,ds,?_,h3⟩
   rw [h1]
   refine ⟨h2,some a,cap,rfl,hl,hm,(fun h=>by cases h),?_⟩
   by_cases h0:len = 0
   · exact .inl h0
   · obtain ⟨s0,_,_,_,_,d0,_⟩:=each 0 (by omega)
     have hs:=cell_plain d0
     exact .inr ⟨a.block,a.off,by cases a;have:=hs.1;simp only [Addr.add] at this;simp at this;rw [this],hs.2,h4⟩
end
end Go.Proofs.LF
namespace Go.Proofs.LF
open Go.RowKit Go.Sort
set_option maxHeartbeats 4000000
set_option maxRecDepth 100000
attribute [local go_sem] bs_toList bs_size bs_get
theorem isKey_any (n:List UInt8) (l:List Int) (an ab:Option Addr) (cn sl cb K:Nat) (k:Ky) (S:Nat→Prop) (w:World) (hl:Ints S w (.slice an l.length cn) l) (hS:∀ b,S b→b < w.heap.size)
 (hK:K < w.heap.size) (h0:w.cell? ⟨K,0,none⟩ = some (.string (bs k.n))) (h1:w.cell? ⟨K,1,none⟩ = some (.bool k.h)) (h2:w.cell? ⟨K,2,none⟩ = some (.int .i64 k.x)) :
 Calls Tryz.prog 202 #[.agg #[.string (bs n), .slice an l.length cn, .slice ab sl cb], .pointer (some ⟨K,0,none⟩)] w fun e w'=>e = .returned (.bool (decide (kyOf n l = k)))∧Below w.heap.size w w':=by
 have hb:Below w.heap.size w (w.alloc (.cells #[.string (bs n), .slice an l.length cn, .slice ab sl cb] 85)):=(Below.refl _ _).alloc (nl_ _) _
 have HB:=hid hb
 have HL:=hid hl
 have HS:=hid hS
 clear hl hS hb
 obtain ⟨kk,hkk⟩:∃ kk,kyOf n l = kk:=⟨_,rfl⟩
 have hdec:decide (kyOf n l = k) = (kk.n == k.n && (kk.h == k.h && kk.x == k.x)):=by
  rw [hkk]
  obtain ⟨an,ah,ax⟩:=kk
  obtain ⟨bn,bh,bx⟩:=k
  by_cases h1:an = bn <;> by_cases h2:ah = bh <;> by_cases h3:ax = bx <;> simp [h1,h2,h3]
 have HDEC:=hid hdec
 have HKK:=hid hkk
 clear hdec hkk
 cases hn:(kk.n == k.n) <;> cases hh:(kk.h == k.h) <;> cases hx:(kk.x == k.x)
 all_goals
  go_enter Tryz.func202,Tryz.ntmps202
  go_wp2_with fail
  go_region_held3 (fun w'=>w'.cell? ⟨w.heap.size,0,none⟩ = some (.string (bs n))∧w'.cell? ⟨w.heap.size,1,none⟩ = some (.slice an l.length cn)∧w'.cell? ⟨w.heap.size,2,none⟩ = some (.slice ab sl cb)∧w'.cell? ⟨K,0,none⟩ = some (.string (bs k.n))∧w'.cell? ⟨K,1,none⟩ = some (.bool k.h)∧w'.cell? ⟨K,2,none⟩ = some (.int .i64 k.x))
   (first
     | (go_split_ands
        with_reducible refine ⟨bc_ hb1 ?_ ?_,bc_ hb1 ?_ ?_,bc_ hb1 ?_ ?_,bc_ hb1 ?_ ?_,bc_ hb1 ?_ ?_,bc_ hb1 ?_ ?_⟩
        all_goals (first | (with_reducible assumption) | (simp;done) | (simp;omega)))
     | go_keep)
   (first
     | (go_at_call 136; refine (key_any n l an cn (.slice ab sl cb) S _ (HL.out.agree (Ag_b HB.out.drew HS.out)) (fun b hb => by have := HS.out b hb; simp; omega) ab sl cb rfl).mono ?_
        rintro e w1 ⟨rfl,hb1⟩
        rw [HKK.out]))
  go_wp2_with fail
  go_ret
  have hb1':Below (w.alloc (.cells #[.string (bs n), .slice an l.length cn, .slice ab sl cb] 85)).heap.size (w.alloc (.cells #[.string (bs n), .slice an l.length cn, .slice ab sl cb] 85)) w1:=⟨hb1.os,hb1.tape,hb1.output,hb1.size,hb1.block⟩
  exact ⟨by rw [HDEC.out,hn,hh,hx];simp,HB.out.trans (hb1'.mono (by simp))⟩
def fstK (k:Ky):Fo→Option (List UInt8 × List Int × Fo)
 | .nil=>none
 | .cons n l s r=>if kyOf n l = k then some (n,l,s) else fstK k r
def atF:Fo→List Ky→Option (List UInt8 × List Int × Fo)
 | _,[]=>none
 | y,k :: r=>match fstK k y with
   | none=>none
   | some x=>if r = [] then some x else atF x.2.2 r
def keyAt (y:Fo) (i:Nat):Option Ky:=match y.drop i with | .nil=>none | .cons n l _ _=>some (kyOf n l)
theorem fstK_drop {k:Ky}:∀ {i:Nat} {y:Fo},(∀ j,j < i→keyAt y j ≠ some k)→fstK k y = fstK k (y.drop i)
 | 0,_,_=>rfl
 | _ + 1, .nil,_=>rfl
 | i + 1, .cons n l s r,h=>by
   have h0:=h 0 (by omega)
   simp only [keyAt,Fo.drop,ne_eq,Option.some.injEq] at h0
   simp only [fstK,h0,if_false,Fo.drop]
   exact fstK_drop fun j hj=>h (j + 1) (by omega)
theorem isK_node {S:Nat→Prop} {w:World} {y:Fo} {a:Option Addr} {c:Nat} {cs:List Value} {K:Nat} {k:Ky} (hs:SlC S w 3 (.slice a y.len c) y.len cs) (hf:FCs S w y cs) (hS:∀ b,S b→b < w.heap.size)
 (hK:K < w.heap.size) (h0:w.cell? ⟨K,0,none⟩ = some (.string (bs k.n))) (h1:w.cell? ⟨K,1,none⟩ = some (.bool k.h)) (h2:w.cell? ⟨K,2,none⟩ = some (.int .i64 k.x)) :
 ∀ i,i < y.len→PredC 202 [.pointer (some ⟨K,0,none⟩)] w [elemV 3 cs i] (decide (keyAt y i = some k)):=by
 intro i hi W hW
 obtain ⟨n,l,s,r,hd⟩:=Fo.drop_lt hi
 have hf':=hf.drop (i:=i)
 rw [hd] at hf'
 obtain ⟨vn,vs,cs',he,hI,⟨ds,hsb,_⟩,_⟩:=hf'
 obtain ⟨an,cn,rfl,_⟩:=SlC.shape hI
 obtain ⟨ab,cb,rfl,_⟩:=SlC.shape hsb
 have e:∀ j,cs[i * 3 + j]? = (Value.string (bs n) :: Value.slice an l.length cn :: Value.slice ab s.len cb :: cs')[j]?:=fun j=>by rw [← he,List.getElem?_drop]
 have hel:elemV 3 cs i = .agg #[.string (bs n), .slice an l.length cn, .slice ab s.len cb]:=by
  have e0:=e 0
  have e1:=e 1
  have e2:=e 2
  rw [Nat.add_zero] at e0
  simp [elemV,List.range_succ,List.getD_eq_getElem?_getD,e0,e1,e2]
 have hk:keyAt y i = some (kyOf n l):=by simp [keyAt,hd]
 rw [hel,hk]
 have hag:Agree S w W:=Ag_b hW hS
 have:=isKey_any n l an ab cn s.len cb K k S W (SlC.agree hI hag) (fun b hb=>by have:=hS b hb;have:=hW.size;omega) (by have:=hW.size;omega) (bc_ hW hK h0) (bc_ hW hK h1) (bc_ hW hK h2)
 simpa using this
theorem enters202:Enters 202:=by intro args W;simp [go_sem]
end Go.Proofs.LF
namespace Go.Proofs.LF
def blankB (c:UInt8):Bool:=c == 32
def smallB (c:UInt8):Bool:=inB c.toNat 97 122
def digitB (c:UInt8):Bool:=inB c.toNat 48 57
def mostD (s:List UInt8):Nat:=if s.head? = some 48 then 1 else 4
def decN (l:List UInt8):Nat:=l.foldl (fun n c=>n * 10 + (c.toNat - 48)) 0
def rdNums:Nat→List UInt8→List Int × Nat × Bool
 | 0,_=>([],0,true)
 | m + 1,s=>
   if runN blankB 1 s = 0 then ([],0,true)
   else
    let s1:=s.drop 1
    let n:=runN digitB (mostD s1) s1
    if n = 0 then ([],1,false)
    else
     let r:=rdNums m (s1.drop n)
     ((decN (s1.take n):Int) :: r.1,1 + n + r.2.1,r.2.2)
def rdLine (deepest:Nat) (s:List UInt8):Nat × List UInt8 × List Int × Nat × Bool:=
 let d:=runN blankB deepest s
 let s1:=s.drop d
 let k:=runN smallB 8 s1
 if k = 0 then (d,[],[],d,false)
 else
  let r:=rdNums 4 (s1.drop k)
  (d,s1.take k,r.1,d + k + r.2.1,r.2.2 && ((s1.drop (k + r.2.1)).head? == some 10))
end Go.Proofs.LF
namespace Go.Proofs.LF
open Go.RowKit Go.Sort
set_option maxHeartbeats 4000000
set_option maxRecDepth 100000
attribute [local go_sem] bs_toList bs_size bs_get
theorem isBlank_any (c:UInt8) (w:World):Calls Tryz.prog 225 #[.int .u8 c.toNat] w fun e w'=>e = .returned (.bool (c == 32))∧Below w.heap.size w w':=by
 by_cases h:c = 32
 · subst h
   go_enter Tryz.func225,Tryz.ntmps225
   go_wp2_with fail
   go_ret
   exact ⟨rfl,Below.refl _ _⟩
 · have h1:((c.toNat:Int) == 32) = false:=by
    simp only [beq_eq_false_iff_ne,ne_eq]
    intro e
    exact h (by rw [u8_eq_iff]; have : c.toNat = 32 := by omega
                exact this)
   have h2:(c == 32) = false:=by simpa using h
   rw [h2]
   go_enter Tryz.func225,Tryz.ntmps225
   go_wp2_with fail
   go_ret
   exact ⟨rfl,Below.refl _ _⟩
theorem enters225:Enters 225:=by intro args W;simp [go_sem]
theorem blanks_any (w:World):Calls Tryz.prog 185 #[] w fun e w'=>e = .returned (.agg #[.func (.func 225) #[] #[]])∧Below w.heap.size w w':=by
 go_enter Tryz.func185,Tryz.ntmps185
 go_wp2_with fail
 exact bodyPost_ret (v := .agg #[.func (.func 225) #[] #[]]) (by simp [results,Tryz.results185,go_sem]) rfl ⟨rfl,(Below.refl _ _).alloc (nl_ _) _⟩
theorem small_any (w:World):Calls Tryz.prog 186 #[] w fun e w'=>e = .returned (.agg #[.int .u8 97, .int .u8 122])∧Below w.heap.size w w':=by
 go_enter Tryz.func186,Tryz.ntmps186
 go_wp2_with fail
 exact bodyPost_ret (v := .agg #[.int .u8 97, .int .u8 122]) (by simp [results,Tryz.results186,go_sem]) rfl ⟨rfl,(Below.refl _ _).alloc (nl_ _) _⟩
theorem digitsK_any (w:World):Calls Tryz.prog 189 #[] w fun e w'=>e = .returned (.agg #[.func (.func 187) #[.agg #[.int .u8 48, .int .u8 57]] #[]])∧Below w.heap.size w w':=by
 go_enter Tryz.func189,Tryz.ntmps189
 go_wp2_with fail
 exact bodyPost_ret (v := .agg #[.func (.func 187) #[.agg #[.int .u8 48, .int .u8 57]] #[]]) (by simp [results,Tryz.results189,go_sem]) rfl ⟨rfl,(Below.refl _ _).alloc (nl_ _) _⟩
end Go.Proofs.LF
namespace Go.Proofs.LF
open Go.RowKit Go.Sort
set_option maxHeartbeats 4000000
set_option maxRecDepth 100000
attribute [local go_sem] bs_toList bs_size bs_get
theorem own_any (m:Nat):∀ (y:Fo) (av:Option Addr) (cv:Nat) (S:Nat→Prop) (w:World),y.cnt < m→FSl S w (.slice av y.len cv) y→(∀ b,S b→b < w.heap.size)→y.len ≤ 1000→y.Sm →
 Calls Tryz.prog 133 #[.slice av y.len cv] w fun e w'=>∃ a c,e = .returned (.slice a y.len c)∧FOw 85 (Rg w.heap.size w'.heap.size) w' (.slice a y.len c) y∧Below w.heap.size w w':=by
 induction m with
 | zero=>intro y _ _ _ _ h;omega
 | succ m ih=>
 intro y av cv S w hcnt hv hS hlen hsm
 obtain ⟨a,c,he,hc,hm,hat⟩:=hv.at
 cases he
 obtain ⟨i0,hi0,hz0,hz1,hz2⟩:=info_parts Tryz.info85
 have IH:=hid ih
 clear ih
 unfold maxLen at hm
 go_enter Tryz.func133,Tryz.ntmps133
 go_wp2_with fail
 go_loopw [3,8] (fun v i wr=>∃ k:Nat,k ≤ y.len∧i = .int .i64 k∧(∃ cs,wr.ownsRow w.heap.size 85 3 v k cs∧FOCs 85 (Rx w.heap.size wr.heap.size v) wr (y.take k) cs)∧Below w.heap.size w wr) (fun _ i _=>y.len - (intOf i).toNat)
 case atStart=>exact ⟨0,by omega,rfl,⟨[],World.ownsRow_nil _ _ _ _,rfl⟩,Below.refl _ _⟩
 case round=>
  obtain ⟨k,hk,rfl,⟨cs,hown,hfc⟩,hB⟩:=hrel
  by_cases hlt:k < y.len
  · obtain ⟨g,o,n,l,s,r,an,cn,ab,cb,rfl,hg1,hd,hc0,hc1,hc2,hI,hF⟩:=hat k hlt
    have ha:Agree S w wr:=Ag_b hB hS
    have c0:=ha.cell hg1 hc0
    have c1:=ha.cell hg1 hc1
    have c2:=ha.cell hg1 hc2
    obtain ⟨s1,s2,s3,s4,_⟩:n.length ≤ 1000∧l.length ≤ 1000∧s.len ≤ 1000∧s.Sm∧r.Sm:=by have:=hsm.drop (i:=k);rwa [hd] at this
    have s5:=Fo.cnt_at hd
    have HD:=hid hd
    have hsz:=hB.size
    have hne:=owns_ne hown (nl_ wr.heap.size)
    clear hc0 hc1 hc2 hat hd
    go_wp2_with fail
    go_region_held3 (fun w'=>w'.cell? ⟨wr.heap.size,0,none⟩ = some (.string (bs n))∧w'.cell? ⟨wr.heap.size,1,none⟩ = some (.slice an l.length cn)∧w'.cell? ⟨wr.heap.size,2,none⟩ = some (.slice ab s.len cb))
     (first | go_keep | (go_split_ands;exact ⟨bc_ hb1 (by simp) (by assumption),bc_ hb1 (by simp) (by assumption),bc_ hb1 (by simp) (by assumption)⟩) | (go_split_ands;have hlt2:=hb1.size;exact ⟨bc_ hb2 (by simp at hlt2;omega) (by assumption),bc_ hb2 (by simp at hlt2;omega) (by assumption),bc_ hb2 (by simp at hlt2;omega) (by assumption)⟩) | (go_split_ands;exact ⟨grown_cell hgrow hne (by assumption),grown_cell hgrow hne (by assumption),grown_cell hgrow hne (by assumption)⟩))
     (first
       | (go_at_call 127;refine (cloneI_u l an cn S _ (hI.agree (Ag_b (B:=w.heap.size) ?_ hS)) s2).mono ?_;(exact (hB.alloc hB.size _).drew);rintro e w1 ⟨a1,c1,rfl,hI1,hb1⟩)
       | (go_at_call 133;refine (IH.out s ab cb S _ (by omega) (hF.agree (Ag_b (B:=w.heap.size) ?_ hS)) ?_ s3 s4).mono ?_;(exact ((hB.alloc hB.size _).drew).trans (hb1.mono (by simp;omega)));(intro b hb;have:=hS b hb;have:=hb1.size;simp at this;omega);rintro e w2 ⟨a2,c2,rfl,hF2,hb2⟩)
       | (refine step_append_lies _ (by rfl) _ _ _ (by rfl) w.heap.size 85 i0 _ 3 64 Tryz.underlying22 hi0 hz0 hz1 hz2 rfl (by omega) u3 k cs (by rfl) ((ob_ (ob_ (hown.alloc _).drew hb1 (nl_ _)) hb2 (nl_ _)).alloc _) ⟨w2.heap.size,0,none⟩ 1 1 [.string (bs n), .slice a1 l.length c1, .slice a2 s.len c2] (by rfl) (by rfl) (World.news_of_block (cs:=#[.string (bs n), .slice a1 l.length c1, .slice a2 s.len c2]) (t:=85) (fr:=(0,0)) (heap_alloc_new _ _)) (by simp [Value.oneCell']) (by omega) (by unfold maxLen;omega) (by omega) (by have:=hb1.size;have:=hb2.size;simp at *;omega) (w2.heap.size + 1) (by simp) ?_;intro gg cap w3 hown3 hgrow hatt hltt))
    go_wp2
    go_roundw
    case rel=>
     have st:Step w.heap.size wr _ w3 u3 gg:=⟨((((Below.refl _ _).alloc (nl_ _) _).drew.trans (hb1.mono (by simp))).trans (hb2.mono (by have:=hb1.size;simp at this;omega))).alloc (by have:=hb1.size;have:=hb2.size;simp at *;omega) _,hgrow,hsz,fun b hb=>hown.lt b hb,hatt.imp id (fun h=>by rw [h];simp),hltt⟩
     have hv':(Value.slice (some ⟨gg,0,none⟩) (k + 1) cap).ownBlock = some gg:=rfl
     have hp:=st.past hv'
     have hz1:=hb1.size
     have hz2:=hb2.size
     have hf1:=st.fresh (p:=(wr.alloc (.cells #[.string (bs n), .slice an l.length cn, .slice ab s.len cb] 85)).drew.heap.size) (q:=w1.heap.size) hv' (by simp) (by simp;omega) (hb2.alloc hb2.size _)
     have hf2:=st.fresh (p:=w1.heap.size) (q:=w2.heap.size) hv' (by simp at hz1;omega) (by simp) ((Below.refl _ _).alloc (nl_ _) _)
     have g1:=hfc.agree hp.2
     have g2:=hI1.agree hf1.2
     have g3:=hF2.agree hf2.2
     have g4:=g1.app (FOCs.one (n:=n) g2 g3 (fun b h1 h2=>by have:=h1.2;have:=h2.1;omega)) (fun b h1 h2=>by
      have h3:=h1.2.1
      rcases h2 with h2 | h2
      · have:=h2.1;simp at this;omega
      · have:=h2.1;simp at hz1;omega)
     have g5:=g4.wide (S':=Rx w.heap.size w3.heap.size (.slice (some ⟨gg,0,none⟩) (k + 1) cap)) (fun b hb=>by
      rcases hb with hb | hb | hb
      · exact hp.1 b hb
      · exact hf1.1 b hb
      · exact hf2.1 b hb)
     exact ⟨k + 1,by omega,by go_num,⟨_,hown3,by rw [Fo.take_succ HD.out];exact g5⟩,st.out hB⟩
    case measure=>simp [intOf];omega
  · go_wp2_with fail
    go_ret
    obtain rfl:k = y.len:=by omega
    obtain ⟨aa,ca,rfl,_,_⟩:=(SlC.of_owns hown).shape
    rw [Fo.take_len] at hfc
    exact ⟨aa,ca,rfl,⟨_,owns_base hown (fun g hg=>Nat.zero_le _),fun g hg=>hown.lt g hg,hfc.wide fun b hb=>⟨⟨hb.1,hb.2.1⟩,hb.2.2⟩⟩,hB⟩
end Go.Proofs.LF
namespace Go.Proofs.LF
open Go.RowKit Go.Sort
set_option maxHeartbeats 4000000
set_option maxRecDepth 100000
attribute [local go_sem] bs_toList bs_size bs_get
theorem tree_u (l:List Fl) (al:Option Addr) (cl:Nat) (S:Nat→Prop) (w:World) (hv:FlSl S w (.slice al l.length cl) l) (hS:∀ b,S b→b < w.heap.size) (hll:l.length ≤ 1000) (hsm:SmF l) :
 Calls Tryz.prog 104 #[.slice al l.length cl] w fun e w'=>∃ a c,e = .returned (.slice a (treF 0 l).1.len c)∧FSlU (Rg w.heap.size w'.heap.size) w' (.slice a (treF 0 l).1.len c) (treF 0 l).1∧Below w.heap.size w w':=by
 obtain ⟨W3,hW3⟩:∃ W3,((w.alloc (.cells #[.slice al l.length cl] 167)).alloc (.cells #[.int .i64 0] 3)).alloc (.cells #[belC (w.heap.size + 1) w.heap.size (w.heap.size + 1 + 1)] 132) = W3:=⟨_,rfl⟩
 have hb3:Below w.heap.size w W3:=by rw [← hW3];exact (((Below.refl _ _).alloc (nl_ _) _).alloc (by simp) _).alloc (by simp;omega) _
 have hz3:W3.heap.size = w.heap.size + 3:=by rw [← hW3];simp
 have h0:W3.heap[w.heap.size]? = some (.cells #[.slice al l.length cl] 167 (0,0)):=by
  rw [← hW3]
  exact (heap_alloc_old _ _ (by simp;omega)).trans ((heap_alloc_old _ _ (by simp)).trans (heap_alloc_new _ _))
 have h1:W3.heap[w.heap.size + 1]? = some (.cells #[.int .i64 ((0:Nat):Int)] 3 (0,0)):=by
  rw [← hW3]
  have:=heap_alloc_new (w.alloc (.cells #[.slice al l.length cl] 167)) (.cells #[.int .i64 0] 3)
  refine (heap_alloc_old _ _ (by simp)).trans ?_
  simpa using this
 have h2:W3.heap[w.heap.size + 1 + 1]? = some (.cells #[belC (w.heap.size + 1) w.heap.size (w.heap.size + 1 + 1)] 132 (0,0)):=by
  rw [← hW3]
  have:=heap_alloc_new ((w.alloc (.cells #[.slice al l.length cl] 167)).alloc (.cells #[.int .i64 0] 3)) (.cells #[belC (w.heap.size + 1) w.heap.size (w.heap.size + 1 + 1)] 132)
  simpa using this
 have H:=below_u (w.heap.size + 1) w.heap.size (w.heap.size + 1 + 1) l al cl hll hsm (l.length + 1) 0 0 S W3 (by omega) (Nat.zero_le _) (nl_ _) (hv.agree (Ag_b hb3 hS)) (fun b hb=>by have:=hS b hb;omega)
  (cg_ h0 (k:=0) rfl) (cg_ h2 (k:=0) rfl) h1 (by omega) (by omega)
 rw [List.drop_zero,show ((0:Nat):Int) = 0 from rfl] at H
 have k2:=cg_ h2 (k:=0) rfl
 unfold belC at hW3 k2
 have H:=hid H
 have HB3:=hid hb3
 have HZ3:=hid hz3
 clear hb3 hz3 h0 h1 h2
 go_enter Tryz.func104,Tryz.ntmps104
 go_wp2_with fail
 refine H.out.mono ?_
 rintro e w4 ⟨a,c,rfl,hF,_,hk⟩
 go_wp2_with fail
 go_ret
 have h1:=HZ3.out
 have h2:=HB3.out
 exact ⟨a,c,rfl,hF.wide (fun b hb=>⟨by have:=hb.1;omega,hb.2⟩),h2.trans (hk.below (n:=w.heap.size) (by omega) (fun b hb=>by omega))⟩
theorem tree_any (l:List Fl) (al:Option Addr) (cl:Nat) (S:Nat→Prop) (w:World) (hv:FlSl S w (.slice al l.length cl) l) (hS:∀ b,S b→b < w.heap.size) (hll:l.length ≤ 1000) (hsm:SmF l) :
 Calls Tryz.prog 104 #[.slice al l.length cl] w fun e w'=>∃ a c,e = .returned (.slice a (treF 0 l).1.len c)∧FSl (Rg w.heap.size w'.heap.size) w' (.slice a (treF 0 l).1.len c) (treF 0 l).1∧Below w.heap.size w w':=
 (tree_u l al cl S w hv hS hll hsm).mono fun _ _ ⟨a,c,he,h,hb⟩=>⟨a,c,he,FSlU.fsl h,hb⟩
end Go.Proofs.LF
namespace Go.Proofs.LF
open Go.RowKit Go.Sort
set_option maxHeartbeats 4000000
set_option maxRecDepth 100000
attribute [local go_sem] bs_toList bs_size bs_get
def linesL (up:List Ky) (y:Fo):List Fl:=(nodesL up y).map fun x=>⟨x.up ++ [kyOf x.n x.l],x.l⟩
theorem linesL_take {up:List Ky} {k:Nat} {y r s:Fo} {n:List UInt8} {l:List Int} (h:y.drop k = .cons n l s r):linesL up (y.take (k + 1)) = linesL up (y.take k) ++ (⟨up ++ [kyOf n l],l⟩ :: linesL (up ++ [kyOf n l]) s):=by
 rw [linesL,nodesL_take h,List.map_append];rfl
theorem linesL_length (up:List Ky) (y:Fo):(linesL up y).length = y.cnt:=by rw [linesL,List.length_map,nodesL_length]
theorem Tryz.info159:(Tryz.prog.info? 159).map (fun i=>(i.zero,i.size,i.bytes)) = some (some (.agg #[.slice none 0 0, .slice none 0 0]),2,48):=by kernel_rfl
theorem Tryz.info160:(Tryz.prog.info? 160).map (fun i=>(i.zero,i.size,i.bytes)) = some (some (.agg #[.string ByteArray.empty, .bool false, .int .i64 0]),3,32):=by kernel_rfl
theorem Lines_any (m:Nat):∀ (y:Fo) (up:List Ky) (a:Option Addr) (c:Nat) (ua:Option Addr) (uc:Nat) (S:Nat→Prop) (w:World),y.cnt < m→FSl S w (.slice a y.len c) y→Pth S w (.slice ua up.length uc) up→(∀ b,S b→b < w.heap.size)→y.len ≤ 1000→y.Sm→up.length + y.cnt ≤ 900 →
 Calls Tryz.prog 96 #[.slice a y.len c, .slice ua up.length uc] w fun e w'=>∃ a c,e = .returned (.slice a (linesL up y).length c)∧FlSl (fun b=>S b ∨ Rg w.heap.size w'.heap.size b) w' (.slice a (linesL up y).length c) (linesL up y)∧Below w.heap.size w w':=by
 induction m with
 | zero=>intro y _ _ _ _ _ _ _ h;omega
 | succ m ih=>
 intro y up a c ua uc S w hcnt hv hup hS hlen hsm hdep
 obtain ⟨_,_,he,hc,hm,hat⟩:=hv.at
 cases he
 obtain ⟨i0,hi0,hz0,hz1,hz2⟩:=info_parts Tryz.info159
 obtain ⟨j0,hj0,hy0,hy1,hy2⟩:=info_parts Tryz.info160
 have IH:=hid ih
 clear ih
 unfold maxLen at hm
 go_enter Tryz.func96,Tryz.ntmps96
 go_wp2_with fail
 go_loopw [5,6] (fun v i wr=>∃ k:Nat,k ≤ y.len∧i = .int .i64 k∧(∃ cs,wr.ownsRow w.heap.size 159 2 v (linesL up (y.take k)).length cs∧LCs rdFl (Sx S w.heap.size wr.heap.size v) wr (linesL up (y.take k)) cs)∧Below w.heap.size w wr) (fun _ i _=>y.len - (intOf i).toNat)
 case atStart=>exact ⟨0,by omega,rfl,⟨[],World.ownsRow_nil _ _ _ _,rfl⟩,Below.refl _ _⟩
 case round=>
  obtain ⟨k,hk,rfl,⟨cs,hown,hfc⟩,hB⟩:=hrel
  by_cases hlt:k < y.len
  · obtain ⟨g,o,n,l,s,r,an,cn,ab,cb,rfl,hg1,hd,hc0,hc1,hc2,hI,hF⟩:=hat k hlt
    have ha:Agree S w wr:=Ag_b hB hS
    have c0:=ha.cell hg1 hc0
    have c1:=ha.cell hg1 hc1
    have c2:=ha.cell hg1 hc2
    have c1':=c1
    have hc2':=hc2
    obtain ⟨s1,s2,s3,s4,_⟩:n.length ≤ 1000∧l.length ≤ 1000∧s.len ≤ 1000∧s.Sm∧r.Sm:=by have:=hsm.drop (i:=k);rwa [hd] at this
    have s5:=Fo.cnt_at hd
    have HD:=hid hd
    have hsz:=hB.size
    have hne:=owns_ne hown (nl_ wr.heap.size)
    clear hc0 hc1 hc2 hat hd
    have hnone:=fun e:ua = none=>(SlC.caps hup).2.2 e
    go_wp2_with fail
    have lg:=hS g hg1
    have hlu:=len_keys up
    go_region_held3 (fun w'=>w'.cell? ⟨g,o + k * 3,none⟩ = some (.string (bs n))∧w'.cell? ⟨g,o + k * 3 + 1,none⟩ = some (.slice an l.length cn))
     (first
       | go_keep
       | (go_split_ands;exact ⟨grown_cell hgrow1 (by simp [Value.ownBlock];omega) (by assumption),grown_cell hgrow1 (by simp [Value.ownBlock];omega) (by assumption)⟩)
       | (go_split_ands;exact ⟨bc_ hb2 (by have:=hq1.out;omega) (by assumption),bc_ hb2 (by have:=hq1.out;omega) (by assumption)⟩)
       | (go_split_ands;exact ⟨grown_cell hgrow3 hne3 (by assumption),grown_cell hgrow3 hne3 (by assumption)⟩))
     (first
       | ((refine step_append_ao _ (by rfl) _ _ _ (by rfl) wr.heap.size 160 j0 _ 3 32 Tryz.underlying92 hj0 hy0 hy1 hy2 rfl (by omega) _ 0 [] (by rfl) (World.ownsRow.drew (owns_of_row (w := wr.alloc (.cells #[] 160)) (n := 0) (cap := 0) (cur := #[]) (nl_ _) (heap_alloc_new _ _) (by omega) (by unfold maxLen; omega) (by simp) (by simp))) ua up.length uc _ (by rfl) hlu hnone (SlC.news hup (Ag_b ((hB.alloc hsz _).drew) hS)) (one_keys up) (by unfold maxLen; omega) (by omega) (by simp) ?_)
          intro a1 c1 w1 hown1 hgrow1 hat1
          simp only [Nat.zero_add,List.nil_append] at hown1 hat1
          have hb1:Below wr.heap.size wr w1:=(((Below.refl _ _).alloc (nl_ _) _).drew).grown hgrow1 (by simp) (fun b hb=>by simp [Value.ownBlock] at hb;omega)
          have hq1:=hid (show w.heap.size ≤ w1.heap.size by have:=hb1.size;omega))
       | (go_at_call 107;refine (KeyOf_any n l an cn S _ (hI.agree (Ag_b (hB.trans (hb1.mono hsz)) hS)) (fun b h=>by have:=hS b h;have:=hq1.out;omega)).mono ?_;rintro e w2 ⟨rfl,hb2⟩)
       | ((refine step_append_ao _ (by rfl) _ _ _ (by rfl) wr.heap.size 160 j0 _ 3 32 Tryz.underlying92 hj0 hy0 hy1 hy2 rfl (by omega) (.slice a1 up.length c1) up.length (up.flatMap Ky.cells) (by rfl) ((ob_ hown1 hb2 (nl_ _)).alloc _) (some ⟨w2.heap.size, 0, none⟩) 1 1 [.string (bs (kyOf n l).n), .bool (kyOf n l).h, .int .i64 (kyOf n l).x] (by rfl) (by rfl) (fun h => by cases h) (fun ad had => by cases had; exact World.news_of_block (cs := #[.string (bs (kyOf n l).n), .bool (kyOf n l).h, .int .i64 (kyOf n l).x]) (t := 160) (fr := (0, 0)) (heap_alloc_new _ _)) (by simp [Value.oneCell']) (by unfold maxLen; omega) (by omega) (by have := hb1.size; have := hb2.size; simp; omega) ?_)
          intro a3 c3 w3 hown3 hgrow3 hat3
          have hne3:(Value.slice a1 up.length c1).ownBlock ≠ some g:=fun e=>by have:=(hown1.lt g e).1;omega))
    have hz1':=hq1.out
    have hz2:=hb2.size
    have hb3:Below wr.heap.size wr w3:=((hb1.trans (hb2.mono hb1.size)).alloc (by have:=hb1.size;omega) _).grown hgrow3 (by have:=hb1.size;simp;omega) (fun b hb=>(hown1.lt b hb).1)
    have hkp:(up ++ [kyOf n l]).length = up.length + 1:=by simp
    have hp3:Pth (Rg wr.heap.size w3.heap.size) w3 (.slice a3 (up.length + 1) c3) (up ++ [kyOf n l]):=by
     have h:=SlC.of_owns hown3
     unfold Pth
     rw [hkp,show (up ++ [kyOf n l]).flatMap Ky.cells = up.flatMap Ky.cells ++ [.string (bs (kyOf n l).n), .bool (kyOf n l).h, .int .i64 (kyOf n l).x] by simp [Ky.cells]]
     exact h
    have d1:w3.cell? ⟨g,o + k * 3 + 1,none⟩ = some (.slice an l.length cn):=bc_ hb3 (by omega) c1'
    have hll:(linesL up (y.take k)).length ≤ 900:=by
     have h1:=(nodesL_pre (up:=up) (k:=k) (y:=y)).length_le
     have h2:=nodesL_length up y
     rw [linesL,List.length_map];omega
    have hls:(linesL (up ++ [kyOf n l]) s).length ≤ 900:=by rw [linesL_length];omega
    have HB3:=hid hb3
    have HP3:=hid hp3
    clear hown1 hgrow1 hat1 hb1 hb2 hown3 hgrow3 hat3 hne3 hz1' hz2 hb3 hp3 hkp
    have ow:=((ob_ hown HB3.out (nl_ _)).alloc (.cells #[.slice a3 (up.length + 1) c3, .slice an l.length cn] 159))
    have d2:(w3.alloc (.cells #[.slice a3 (up.length + 1) c3, .slice an l.length cn] 159)).cell? ⟨g,o + k * 3 + 2,none⟩ = some (.slice ab s.len cb):=bc_ ((HB3.out.alloc HB3.out.size _)) (by omega) c2
    have hne5:=owns_ne' hown lg
    have hz3:=hid (show w.heap.size ≤ w3.heap.size by have:=HB3.out.size;omega)
    go_wp2_with (at_builtin;refine (wpList_append_ao _ rfl _ _ _ rfl w.heap.size 159 i0 _ 2 48 Tryz.underlying38 hi0 hz0 hz1 hz2 rfl (by omega) u5 (linesL up (y.take k)).length cs rfl ow (some ⟨w3.heap.size,0,none⟩) 1 1 [.slice a3 (up.length + 1) c3, .slice an l.length cn] rfl rfl (fun h=>by cases h) (fun ad had=>by cases had;exact World.news_of_block (cs:=#[.slice a3 (up.length + 1) c3, .slice an l.length cn]) (t:=159) (fr:=(0,0)) (heap_alloc_new _ _)) (by simp [Value.oneCell']) (by unfold maxLen;omega) (by omega) (by have:=hz3.out;simp;omega) ?_);intro a4 c4 w4 hown4 hgrow4 hat4;have e2:=grown_cell hgrow4 hne5 d2)
    obtain ⟨g4,cap4,he4,hg4,hlt4⟩:=hown4.form (by omega)
    cases he4
    have hv4:(Value.slice (some ⟨g4,0,none⟩) ((linesL up (y.take k)).length + 1) c4).ownBlock = some g4:=rfl
    have st1:Step w.heap.size wr _ w4 u5 g4:=⟨(HB3.out.alloc HB3.out.size _),hgrow4,hsz,fun b hb=>hown.lt b hb,hat4 g4 rfl,hlt4⟩
    have k1:=st1.keepS (Stable.lcs _ _) hv4 hS hfc
    have kp:=(st1.lift (Stable.pth _ _) hv4 HP3.out (nl_ _) (by simp) ((Below.refl _ _).alloc (nl_ _) _)).wide (S':=Sx S w.heap.size w4.heap.size (.slice (some ⟨g4,0,none⟩) ((linesL up (y.take k)).length + 1) c4)) (fun b hb => .inr hb)
    have hB4:=st1.out hB
    have ki:=(hI.agree (Ag_b hB4 hS)).wide (S':=Sx S w.heap.size w4.heap.size (.slice (some ⟨g4,0,none⟩) ((linesL up (y.take k)).length + 1) c4)) (fun b hb => .inl hb)
    have kF:=(hF.agree (Ag_b hB4 hS)).wide (S':=Sx S w.heap.size w4.heap.size (.slice (some ⟨g4,0,none⟩) ((linesL up (y.take k)).length + 1) c4)) (fun b hb => .inl hb)
    have hkp:(up ++ [kyOf n l]).length = up.length + 1:=by simp
    have hfc4:=k1.app (LCs.single (r:=rdFl) (x:=⟨up ++ [kyOf n l],l⟩) ⟨a3,c3,an,cn,rfl,by rw [hkp];exact kp,ki⟩)
    rw [hkp] at hfc4
    have hSx:∀ b,Sx S w.heap.size w4.heap.size (.slice (some ⟨g4,0,none⟩) ((linesL up (y.take k)).length + 1) c4) b→b < w4.heap.size:=fun b hb=>by
     rcases hb with hb | hb
     · have:=hS b hb;have:=hB4.size;omega
     · exact hb.2.1
    have hcall:∀ W,Below w4.heap.size w4 W→Calls Tryz.prog 96 #[.slice ab s.len cb, .slice a3 (up.length + 1) c3] W _:=fun W hW=>by
     have h:=IH.out s (up ++ [kyOf n l]) ab cb a3 c3 _ W (by omega) (kF.agree (Ag_b hW hSx)) (by rw [hkp];exact kp.agree (Ag_b hW hSx)) (fun b hb=>by have:=hSx b hb;have:=hW.size;omega) s3 s4 (by rw [hkp];omega)
     rw [hkp] at h
     exact h
    have hz4:=hB4.size
    have HCALL:=hid hcall
    have HK:=hid hfc4
    have HB4:=hid hB4
    have hgg:g4 ≠ g:=by omega
    have hz5:=hid hz4
    clear k1 kp ki kF hcall hfc4 hB4 hz4 st1 hown hgrow4 hat4 ow hne hfc
    refine (HCALL.out _ (Below.refl _ _)).mono ?_
    rintro e w5 ⟨a5,c5,rfl,⟨ds,hL5,hC5⟩,hb5⟩
    have ow5:=ob_ hown4 hb5 (nl_ _)
    have HC5:=hid hC5
    have hcap5:=fun h=>(SlC.caps hL5).2.2 h
    have hnews5:=SlC.news hL5 Agree.refl
    have hone5:=hC5.one
    have hlen5:=hL5.1
    have HB5:=hid hb5
    have HL5:=hid hL5
    clear hC5 hb5 hL5
    go_wp2_with (at_builtin;refine (wpList_append_ao _ rfl _ _ _ rfl w.heap.size 159 i0 _ 2 48 Tryz.underlying38 hi0 hz0 hz1 hz2 rfl (by omega) _ ((linesL up (y.take k)).length + 1) _ rfl ow5 a5 (linesL (up ++ [kyOf n l]) s).length c5 ds rfl hlen5 hcap5 hnews5 hone5 (by unfold maxLen;omega) (by omega) (by have:=HB5.out.size;have:=hz5.out;omega) ?_);intro a6 c6 w6 hown6 hgrow6 hat6)
    obtain ⟨g6,cap6,he6,hg6,hlt6⟩:=hown6.form (by omega)
    cases he6
    have hv6:(Value.slice (some ⟨g6,0,none⟩) ((linesL up (y.take k)).length + 1 + (linesL (up ++ [kyOf n l]) s).length) c6).ownBlock = some g6:=rfl
    have st2:Step w.heap.size w4 w5 w6 (.slice (some ⟨g4,0,none⟩) ((linesL up (y.take k)).length + 1) c4) g6:=⟨HB5.out,hgrow6,hz5.out,fun b hb=>by cases hb;exact ⟨hg4,hlt4⟩,hat6 g6 rfl,hlt6⟩
    have m1:=st2.keepS (Stable.lcs _ _) hv6 hS HK.out
    have m2:=st2.liftS (Stable.lcs _ _) hv6 hS (nl_ _) (Below.refl _ _) HB5.out.size HC5.out
    have hlk:linesL up (y.take (k + 1)) = (linesL up (y.take k) ++ [⟨up ++ [kyOf n l],l⟩]) ++ linesL (up ++ [kyOf n l]) s:=by rw [linesL_take HD.out];simp
    have hlk2:(linesL up (y.take (k + 1))).length = (linesL up (y.take k)).length + 1 + (linesL (up ++ [kyOf n l]) s).length:=by rw [hlk];simp;omega
    go_wp2
    go_roundw
    case rel=>
     refine ⟨k + 1,by omega,by go_num,⟨_,by rw [hlk2];exact hown6,by rw [hlk];exact m1.app m2⟩,st2.out HB4.out⟩
    case measure=>simp [intOf];omega
  · go_wp2_with fail
    go_ret
    obtain rfl:k = y.len:=by omega
    obtain ⟨aa,ca,rfl,_,_⟩:=(SlC.of_owns hown).shape
    rw [Fo.take_len] at hfc hown
    refine ⟨aa,ca,by rw [Fo.take_len];rfl,⟨_,(SlC.of_owns hown).wide fun b hb => .inr hb,hfc.wide fun b hb=>hb.imp id fun hb=>⟨hb.1,hb.2.1⟩⟩,hB⟩
end Go.Proofs.LF
namespace Go.Proofs.LF
open Go.RowKit
set_option maxHeartbeats 4000000
set_option maxRecDepth 100000
attribute [local go_sem] bs_toList bs_size bs_get
theorem Tryz.zero3 (w:World):(zeroValue 3).run Tryz.prog w = .ok (.int .i64 0) w:=by kernel_rfl
theorem clear_u {S:Nat→Prop} {w:World} {l:List Int} {an:Option Addr} {cn:Nat} (ty:TypeId) (h:IntU S w (.slice an l.length cn) l):∃ w',(Builtin.clear_ #[66] ty #[.slice an l.length cn]).run Tryz.prog w = .ok (.tuple #[]) w'∧KP w w'∧∀ B,(∀ b,S b→B ≤ b)→Below B w w':=by
 by_cases hn:0 < l.length
 · obtain ⟨g,o,rfl,hg,_,_,hc⟩:=SlC.cells h hn
   obtain ⟨cs,t,hb⟩:=hg.2
   have hcell:∀ j,j < l.length→∃ x,w.cell? ⟨g,o + j,none⟩ = some (.int .i64 x):=fun j hj=>⟨l[j],hc j _ (by simp [hj])⟩
   refine ⟨_,Lib.run_clear_slice w 66 3 ty (.int .i64 0) Tryz.underlying66 Tryz.zero3 rfl rfl g o l.length cn hn (fun j hj=>?_) (fun j hj=>?_),KP.zeros g l.length o w hcell,fun B hB=>below_setCells (hB g hg.1) _ _ _ (Below.refl _ _)⟩
   · obtain ⟨x,hx⟩:=hcell j hj
     rw [hx];rfl
   · simp [World.frozen?,hb]
 · obtain rfl:l = []:=List.eq_nil_of_length_eq_zero (by omega)
   refine ⟨w,?_,KP.refl w,fun B _=>Below.refl _ _⟩
   cases an with
   | none=>simp [Builtin.clear_,run_underlying Tryz.underlying66]
   | some ad=>simp [Builtin.clear_,run_underlying Tryz.underlying66]
theorem scribble_any (m:Nat):∀ (y:Fo) (a:Option Addr) (c:Nat) (S:Nat→Prop) (B:Nat) (w:World),y.cnt < m→FSlU S w (.slice a y.len c) y→(∀ b,S b→B ≤ b)→B ≤ w.heap.size →
 Calls Tryz.prog 36 #[.slice a y.len c] w fun e w'=>e = .returned (.tuple #[])∧KP w w'∧Below B w w':=by
 induction m with
 | zero=>intro y _ _ _ _ _ h;omega
 | succ m ih=>
 intro y a c S B w hm hy hS hBw
 obtain ⟨_,_,he,hc,hcm,_⟩:=hy.at
 cases he
 have IH:=hid ih
 have HY:=hid hy
 have HS:=hid hS
 unfold maxLen at hcm
 clear ih hy hS
 go_enter Tryz.func36,Tryz.ntmps36
 go_wp2_with fail
 go_loopw [5] (fun i wr=>∃ k:Nat,k ≤ y.len∧i = .int .i64 k∧Hid (KP w wr)∧Hid (Below B w wr)) (fun i _=>y.len - (intOf i).toNat)
 case atStart=>exact ⟨0,by omega,rfl,KP.refl _,Below.refl _ _⟩
 case round=>
  obtain ⟨k,hk,rfl,hK,hB⟩:=hrel
  have i1:(0:Int) ≤ (k:Int):=by omega
  have hz:=hB.out.size
  by_cases hlt:k < y.len
  · have i2:(k:Int) < (y.len:Int):=by omega
    obtain ⟨y',hy',hl',hn'⟩:=KP.fsl HY.out hK.out
    rw [← hl'] at hy'
    obtain ⟨_,_,he,_,_,hat⟩:=hy'.at
    cases he
    obtain ⟨g,o,n,l,s,r,an,cn,ab,cb,rfl,hg,hd,c0,c1,c2,hI,hF⟩:=hat k (by omega)
    have hcs:=Fo.cnt_at hd
    have hI:IntU S wr (.slice an l.length cn) l:=hI
    have hF:FSlU S wr (.slice ab s.len cb) s:=hF
    obtain ⟨wA,hr,hKA,hBA⟩:=clear_u 0 hI
    have hzA:=(hBA B HS.out).size
    obtain ⟨s2,hF2,hl2,hn2⟩:=KP.fsl hF hKA
    rw [← hl2] at hF2
    obtain ⟨u1,d1,k1⟩:=hKA.cell c1
    obtain rfl:=k1.slice
    obtain ⟨u2,d2,k2⟩:=hKA.cell c2
    obtain rfl:=k2.slice
    rw [← hl2] at d2
    have SC:=hid (IH.out s2 ab cb S B wA (by omega) hF2 HS.out (by omega))
    have HKA:=hid hKA
    have HBA:=hid (hBA B HS.out)
    have HG:=hid hg
    have C0:=hid c0
    have HL2:=hid hl2
    clear hat hy' hI hF hF2 hKA hBA hd hcs k1 k2 hl2 hn2 c0 hg
    go_wp2_with fail
    refine SC.out.mono ?_
    rintro e wB ⟨rfl,hKB,hBB⟩
    have HKB:=hid (HKA.out.trans hKB)
    have HBB:=hid (HBA.out.trans hBB)
    obtain ⟨cs,tt,hblk⟩:=HKB.out.uf HG.out.2
    have hfz:wB.frozen? ⟨g,o + k * 3,none⟩ = false:=by simp [World.frozen?,hblk]
    obtain ⟨u0,b0,k0⟩:=HKB.out.cell C0.out
    obtain ⟨st,rfl⟩:=k0.str
    have hKC:=KP.setCell (v := .string ⟨#[120]⟩) b0 (.inr (.inr ⟨_,_,rfl,rfl⟩))
    have hBC:Below B wr (wB.setCell ⟨g,o + k * 3,none⟩ (.string ⟨#[120]⟩)):=HBB.out.setCell (p:=⟨g,o + k * 3,none⟩) (HS.out g HG.out.1) _
    have HKC:=hid (hK.out.trans (HKB.out.trans hKC))
    have HBC:=hid (hB.out.trans hBC)
    clear hblk k0 hKB hBB hKC hBC d1 d2
    go_wp2_with fail
    go_roundw
    case rel=>exact ⟨k + 1,by omega,by go_num,HKC.out,HBC.out⟩
    case measure=>simp [intOf];omega
  · have i2:¬ (k:Int) < (y.len:Int):=by omega
    go_wp2_with fail
    refine bodyPost_end (v := .tuple #[]) (by simp [results,Tryz.results36,go_sem]) rfl ?_
    exact ⟨rfl,hK.out,hB.out⟩
end Go.Proofs.LF
namespace Go.Proofs.LF
open Go.RowKit Go.Sort
set_option maxHeartbeats 4000000
set_option maxRecDepth 100000
attribute [local go_sem] bs_toList bs_size bs_get
def Byt (S:Nat→Prop) (w:World) (v:Value) (l:List Int):Prop:=SlC S w 1 v l.length (l.map (Value.int .u8))
def HpC (b:Nat) (a:Option Addr) (l:List Int) (c:Nat) (nx rd:Int) (w:World):Prop:=w.heap[b]? = some (.cells #[.slice a l.length c, .int .i64 nx, .int .u32 rd] 203 (0,0))
def Hp (b:Nat) (S:Nat→Prop) (w:World):Prop:=∃ (a:Option Addr) (l:List Int) (c:Nat) (nx rd:Int),HpC b a l c nx rd w∧0 ≤ nx∧(nx = 0 ∨ nx < l.length)∧Byt S w (.slice a l.length c) l∧∀ q,S q→q ≠ b
theorem HpC.keep {b:Nat} {S:Nat→Prop} {a:Option Addr} {l:List Int} {c:Nat} {nx' rd':Int} {w w':World} (hS:∀ q,S q→q ≠ b) (hl:Byt S w (.slice a l.length c) l) (h0:0 ≤ nx') (h1:nx' = 0 ∨ nx' < l.length)
 (hb:HpC b a l c nx' rd' w') (ho:w'.os = w.os) (ht:w'.tape = w.tape) (hu:w'.output = w.output) (hz:w'.heap.size = w.heap.size) (hh:∀ q,q ≠ b→w'.heap[q]? = w.heap[q]?):Hp b S w'∧Keep (· = b) w w':=
 ⟨⟨a,l,c,nx',rd',hb,h0,h1,SlC.agree hl fun q hq=>hh q (hS q hq),hS⟩,⟨ho,ht,hu,by omega,fun q _ hq=>hh q hq⟩⟩
end Go.Proofs.LF
