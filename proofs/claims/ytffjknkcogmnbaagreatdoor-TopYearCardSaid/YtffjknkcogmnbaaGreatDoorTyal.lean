/- Parts of the proof of a law of layer 11 (file): LfYai, LsFill, LsBell2. The conditions stand in each theorem. -/
import Derived.Below
import Derived.ChangeSame
import Derived.Deep.Cut
import Derived.Deep.CutBlock
import Derived.Deep.CutRange
import Derived.Deep.DeepHandedRow
import Derived.Deep.DeepWitnessRowRef
import Derived.Deep.Slices
import Derived.Laws.StructEq
import Derived.Lib.LaidIn
import Derived.Lib.LaidTab
import Derived.OpenShut
import Derived.ProofKit
import Derived.Stop.LaidErr
import Derived.Test.YtffjknkcogmnbaaGreatDoorCards
import Derived.Test.YtffjknkcogmnbaaGreatDoorProg
import Derived.Test.YtffjknkcogmnbaaGreatDoorTie
import Derived.Test.YtffjknkcogmnbaaGreatDoorTyac
import Derived.Test.YtffjknkcogmnbaaGreatDoorTyae
import Derived.Test.YtffjknkcogmnbaaGreatDoorTyah
import Derived.Test.YtffjknkcogmnbaaGreatDoorTyaj
set_option linter.all false
set_option linter.unusedVariables false
set_option linter.unusedSimpArgs false
set_option linter.all false
set_option linter.unusedVariables false
set_option linter.unusedSimpArgs false
namespace Go.Proofs.LF
open Go.RowKit
set_option maxRecDepth 100000
section
variable {H:Type} {enc:TypeId × Value→H} {W:World}
theorem wg_ {a:Addr} {v:Value} (h:W.cell? a = some v):a.spot = none∧a.block < W.heap.size:=by
 unfold World.cell? at h
 split at h
 · rename_i c t f hb
   split at h
   · cases h
   · rename_i hs
     exact ⟨by simpa using hs,(ge_ hb).1⟩
 · cases h
theorem add_plain (a:Addr) (h:a.spot = none) (i:Nat):a.add i = ⟨a.block,a.off + i,none⟩:=by
 unfold Addr.add
 split
 · rename_i h0
   subst h0
   cases a
   simp only at h
   subst h
   rfl
 · rfl
end
end Go.Proofs.LF
namespace Go.Proofs.LF
open Go.RowKit Go.Sort
set_option maxHeartbeats 4000000
set_option maxRecDepth 100000
attribute [local go_sem] q1_ q2_ q8_
def Byt (S:Nat→Prop) (w:World) (v:Value) (l:List Int):Prop:=SlC S w 1 v l.length (l.map (Value.int .u8))
def HpC (b:Nat) (a:Option Addr) (l:List Int) (c:Nat) (nx rd:Int) (w:World):Prop:=w.heap[b]? = some (.cells #[.slice a l.length c, .int .i64 nx, .int .u32 rd] 85 (0,0))
def Hp (b:Nat) (S:Nat→Prop) (w:World):Prop:=∃ (a:Option Addr) (l:List Int) (c:Nat) (nx rd:Int),HpC b a l c nx rd w∧0 ≤ nx∧(nx = 0 ∨ nx < l.length)∧Byt S w (.slice a l.length c) l∧∀ q,S q→q ≠ b
theorem and_low (X:Int):0 ≤ bits .and .u32 X 32767∧bits .and .u32 X 32767 ≤ 32767:=by
 have h:(BitVec.ofInt 32 X &&& BitVec.ofInt 32 32767).toNat ≤ 32767:=by
  rw [BitVec.toNat_and]
  exact Nat.le_trans Nat.and_le_right (by decide)
 have h2:bits .and .u32 X 32767 = IntKind.u32.wrap (((BitVec.ofInt 32 X &&& BitVec.ofInt 32 32767).toNat:Nat):Int):=rfl
 rw [h2]
 generalize (BitVec.ofInt 32 X &&& BitVec.ofInt 32 32767).toNat = N at h
 have h3:IntKind.u32.wrap (N:Int) = N:=by
  unfold IntKind.wrap
  have:(N:Int) % 2 ^ IntKind.u32.bits = N:=Int.emod_eq_of_lt (by omega) (by show (N:Int) < 2 ^ 32;omega)
  simp only [this]
  rfl
 rw [h3];omega
theorem zN_ {X:Int}:0 ≤ wrap64 (bits .and .u32 X 32767)∧wrap64 (bits .and .u32 X 32767) ≤ 32767:=by
 have:=and_low X
 unfold wrap64;omega
theorem HpC.keep {b:Nat} {S:Nat→Prop} {a:Option Addr} {l:List Int} {c:Nat} {nx' rd':Int} {w w':World} (hS:∀ q,S q→q ≠ b) (hl:Byt S w (.slice a l.length c) l) (h0:0 ≤ nx') (h1:nx' = 0 ∨ nx' < l.length)
 (hb:HpC b a l c nx' rd' w') (ho:w'.os = w.os) (ht:w'.tape = w.tape) (hu:w'.output = w.output) (hz:w'.heap.size = w.heap.size) (hh:∀ q,q ≠ b→w'.heap[q]? = w.heap[q]?):Hp b S w'∧Keep (· = b) w w':=
 ⟨⟨a,l,c,nx',rd',hb,h0,h1,SlC.agree hl fun q hq=>hh q (hS q hq),hS⟩,⟨ho,ht,hu,by omega,fun q _ hq=>hh q hq⟩⟩
theorem pick_any (b:Nat) (S:Nat→Prop) (w:World) (h:Hp b S w):Calls Tryz.prog 27 #[.pointer (some ⟨b,0,none⟩)] w fun e w'=>∃ r:Int,e = .returned (.int .i64 r)∧0 ≤ r∧r ≤ 32767∧Hp b S w'∧Keep (· = b) w w':=by
 obtain ⟨a,l,c,nx,rd,hb,h0,h1,hl,hS⟩:=h
 have k0:=cg_ hb (k:=0) rfl
 have k1:=cg_ hb (k:=1) rfl
 have k2:=cg_ hb (k:=2) rfl
 have f1:=q5_ hb (k:=1)
 have f2:=q5_ hb (k:=2)
 obtain ⟨hc1,hc2,_⟩:=SlC.caps hl
 by_cases hlt:nx < l.length
 · obtain ⟨g,o,rfl,hg,_,_,hcell⟩:=SlC.cells hl (by omega)
   obtain ⟨n,rfl⟩:∃ n:Nat,nx = n:=⟨nx.toNat,by omega⟩
   have hn:n < l.length:=by omega
   have e0:=hcell n (.int .u8 l[n]) (by simp [hn])
   clear hcell
   have i1:(0:Int) ≤ (n:Int):=by omega
   go_enter Tryz.func27,Tryz.ntmps27
   go_wp2_with fail
   go_quiet (fail)
   go_wp2_with fail
   go_quiet (fail)
   go_wp2_with fail
   by_cases hge:(n:Int) + 1 < (l.length:Int)
   · go_quiet (fail)
     go_wp2_with fail
     go_ret
     refine ⟨_,rfl,zN_.1,zN_.2,HpC.keep hS hl (nx':=(n:Int) + 1) (rd':=rd) (by omega) (.inr hge) ?_ rfl rfl rfl (by simp [World.setCell]) (fun q hq=>Below.heap_setCell _ _ _ _ hq)⟩
     have hb':=hb
     unfold HpC at hb' ⊢
     simp [World.setCell,World.drewN,Array.getElem?_modify,hb']
   · have hge':(n:Int) + 1 ≥ (l.length:Int):=by omega
     go_quiet (fail)
     go_wp2_with fail
     go_ret
     refine ⟨_,rfl,zN_.1,zN_.2,HpC.keep hS hl (nx':=0) (rd':=(rd + 1) % 4294967296) (by omega) (.inl rfl) ?_ rfl rfl rfl (by simp [World.setCell]) (fun q hq=>(Below.heap_setCell _ _ _ _ hq).trans ((Below.heap_setCell _ _ _ _ hq).trans (Below.heap_setCell _ _ _ _ hq)))⟩
     have hb':=hb
     unfold HpC at hb' ⊢
     simp [World.setCell,World.drewN,Array.getElem?_modify,hb']
 · obtain rfl:nx = 0:=by omega
   have hl0:l.length = 0:=by omega
   obtain rfl:l = []:=List.eq_nil_of_length_eq_zero hl0
   go_enter Tryz.func27,Tryz.ntmps27
   go_wp2_with fail
   go_quiet (fail)
   go_wp2_with fail
   go_quiet (fail)
   go_wp2_with fail
   go_ret
   refine ⟨_,rfl,zN_.1,zN_.2,HpC.keep hS hl (nx':=0) (rd':=(rd + 1) % 4294967296) (by omega) (.inl rfl) ?_ rfl rfl rfl (by simp [World.setCell]) (fun q hq=>(Below.heap_setCell _ _ _ _ hq).trans ((Below.heap_setCell _ _ _ _ hq).trans (Below.heap_setCell _ _ _ _ hq)))⟩
   have hb':=hb
   unfold HpC at hb' ⊢
   simp [World.setCell,World.drewN,Array.getElem?_modify,hb']
theorem qD_ (b:Nat) (S:Nat→Prop) (w:World) (n:Nat) (hn:n ≤ 1000) (h:Hp b S w):Calls Tryz.prog 7 #[.pointer (some ⟨b,0,none⟩), .int .i64 n] w fun e w'=>∃ r:Nat,e = .returned (.int .i64 r)∧r ≤ n∧Hp b S w'∧Keep (· = b) w w':=by
 have PK:=hid (pick_any b S w h)
 clear h
 have w1:IntKind.i64.wrap ((n:Int) + 1) = (n:Int) + 1:=IntWalk.i64_in _ (by omega)
 go_enter Tryz.func7,Tryz.ntmps7
 go_wp2_with fail
 refine PK.out.mono ?_
 rintro e w1 ⟨r,rfl,h0,h1,h2,h3⟩
 have h2:=hid h2
 have h3:=hid h3
 obtain ⟨r,rfl⟩:∃ q:Nat,r = q:=⟨r.toNat,by omega⟩
 go_wp2_with fail
 go_ret
 have hm:max 1 ((n:Int) + 1) = ((n + 1:Nat):Int):=by omega
 refine ⟨r % (n + 1),qd_ (by rw [hm];omega),by have:=Nat.mod_lt r (show 0 < n + 1 by omega);omega,h2.out,h3.out⟩
theorem yd_ (a:Option Addr) (l:List Int) (c:Nat) (S:Nat→Prop) (w:World) (hl:Byt S w (.slice a l.length c) l) (hS:∀ q,S q→q < w.heap.size) :
 Calls Tryz.prog 6 #[.slice a l.length c] w fun e w'=>e = .returned (.pointer (some ⟨w.heap.size,0,none⟩))∧Hp w.heap.size S w'∧w'.heap.size = w.heap.size + 1∧Below w.heap.size w w':=by
 have hb:=ha_ w (.cells #[.slice a l.length c, .int .i64 0, .int .u32 0] 85)
 have hB:Below w.heap.size w (w.alloc (.cells #[.slice a l.length c, .int .i64 0, .int .u32 0] 85)):=(Below.refl _ _).alloc (nl_ _) _
 have hH:Hp w.heap.size S (w.alloc (.cells #[.slice a l.length c, .int .i64 0, .int .u32 0] 85)):=⟨a,l,c,0,0,hb,by omega, .inl rfl,SlC.agree hl (qc_ hB hS),fun q hq e=>by have:=hS q hq;omega⟩
 have HH:=hid hH
 have HB:=hid hB
 clear hb hB hH hl hS
 go_enter Tryz.func6,Tryz.ntmps6
 go_wp2_with fail
 go_ret
 exact ⟨rfl,HH.out,by simp,HB.out⟩
theorem jO_ (c:UInt8) (w:World):Calls Tryz.prog 144 #[.int .u8 c.toNat] w fun e w'=>e = .returned (.bool (c == 32))∧Below w.heap.size w w':=by
 by_cases h:c = 32
 · subst h
   go_enter Tryz.func144,Tryz.ntmps144
   go_wp2_with fail
   go_ret
   exact ⟨rfl,Below.refl _ _⟩
 · have h1:((c.toNat:Int) == 32) = false:=by
    simp only [beq_eq_false_iff_ne,ne_eq]
    intro e
    exact h (by rw [xy_]; have : c.toNat = 32 := by omega
                exact this)
   have h2:(c == 32) = false:=by simpa using h
   rw [h2]
   go_enter Tryz.func144,Tryz.ntmps144
   go_wp2_with fail
   go_ret
   exact ⟨rfl,Below.refl _ _⟩
theorem enters225:zn_ 144:=by intro args W;simp [go_sem]
theorem vO_ (w:World):Calls Tryz.prog 95 #[] w fun e w'=>e = .returned (.agg #[.func (.func 144) #[] #[]])∧Below w.heap.size w w':=by
 go_enter Tryz.func95,Tryz.ntmps95
 go_wp2_with fail
 exact bodyPost_ret (v := .agg #[.func (.func 144) #[] #[]]) (by simp [results,Tryz.results95,go_sem]) rfl ⟨rfl,(Below.refl _ _).alloc (nl_ _) _⟩
theorem small_any (w:World):Calls Tryz.prog 96 #[] w fun e w'=>e = .returned (.agg #[.int .u8 97, .int .u8 122])∧Below w.heap.size w w':=by
 go_enter Tryz.func96,Tryz.ntmps96
 go_wp2_with fail
 exact bodyPost_ret (v := .agg #[.int .u8 97, .int .u8 122]) (by simp [results,Tryz.results96,go_sem]) rfl ⟨rfl,(Below.refl _ _).alloc (nl_ _) _⟩
theorem jt_ (w:World):Calls Tryz.prog 99 #[] w fun e w'=>e = .returned (.agg #[.func (.func 97) #[.agg #[.int .u8 48, .int .u8 57]] #[]])∧Below w.heap.size w w':=by
 go_enter Tryz.func99,Tryz.ntmps99
 go_wp2_with fail
 exact bodyPost_ret (v := .agg #[.func (.func 97) #[.agg #[.int .u8 48, .int .u8 57]] #[]]) (by simp [results,Tryz.results99,go_sem]) rfl ⟨rfl,(Below.refl _ _).alloc (nl_ _) _⟩
end Go.Proofs.LF
namespace Go.Proofs.LF
def qt_ (c:UInt8):Bool:=c == 32
def qM_ (c:UInt8):Bool:=inB c.toNat 97 122
def qH_ (c:UInt8):Bool:=inB c.toNat 48 57
def zp_ (s:List UInt8):Nat:=if s.head? = some 48 then 1 else 4
def xU_ (l:List UInt8):Nat:=l.foldl (fun n c=>n * 10 + (c.toNat - 48)) 0
def qo_:Nat→List UInt8→List Int × Nat × Bool
 | 0,_=>([],0,true)
 | m + 1,s=>
   if qC_ qt_ 1 s = 0 then ([],0,true)
   else
    let s1:=s.drop 1
    let n:=qC_ qH_ (zp_ s1) s1
    if n = 0 then ([],1,false)
    else
     let r:=qo_ m (s1.drop n)
     ((xU_ (s1.take n):Int) :: r.1,1 + n + r.2.1,r.2.2)
def rdLine (deepest:Nat) (s:List UInt8):Nat × List UInt8 × List Int × Nat × Bool:=
 let d:=qC_ qt_ deepest s
 let s1:=s.drop d
 let k:=qC_ qM_ 8 s1
 if k = 0 then (d,[],[],d,false)
 else
  let r:=qo_ 4 (s1.drop k)
  (d,s1.take k,r.1,d + k + r.2.1,r.2.2 && ((s1.drop (k + r.2.1)).head? == some 10))
theorem vP_ {c:UInt8}:qH_ c = true ↔ 48 ≤ c.toNat∧c.toNat ≤ 57:=by
 simp only [qH_,inB,Bool.and_eq_true,decide_eq_true_eq];omega
end Go.Proofs.LF
namespace Go.Proofs.LF
open Go.RowKit Go.Sort
set_option maxHeartbeats 4000000
set_option maxRecDepth 100000
attribute [local go_sem] q1_ q2_ q8_
theorem tree_u (l:List Fl) (al:Option Addr) (cl:Nat) (S:Nat→Prop) (w:World) (hv:FlSl S w (.slice al l.length cl) l) (hS:∀ b,S b→b < w.heap.size) (hll:l.length ≤ 1000) (hsm:SmF l) :
 Calls Tryz.prog 38 #[.slice al l.length cl] w fun e w'=>∃ a c,e = .returned (.slice a (treF 0 l).1.len c)∧FSlU (Rg w.heap.size w'.heap.size) w' (.slice a (treF 0 l).1.len c) (treF 0 l).1∧Below w.heap.size w w':=by
 obtain ⟨W3,hW3⟩:∃ W3,((w.alloc (.cells #[.slice al l.length cl] 90)).alloc (.cells #[.int .i64 0] 3)).alloc (.cells #[belC (w.heap.size + 1) w.heap.size (w.heap.size + 1 + 1)] 142) = W3:=⟨_,rfl⟩
 have hb3:Below w.heap.size w W3:=by rw [← hW3];exact (((Below.refl _ _).alloc (nl_ _) _).alloc (by simp) _).alloc (by simp;omega) _
 have hz3:W3.heap.size = w.heap.size + 3:=by rw [← hW3];simp
 have h0:W3.heap[w.heap.size]? = some (.cells #[.slice al l.length cl] 90 (0,0)):=by
  rw [← hW3]
  exact (heap_alloc_old _ _ (by simp;omega)).trans ((heap_alloc_old _ _ (by simp)).trans (ha_ _ _))
 have h1:W3.heap[w.heap.size + 1]? = some (.cells #[.int .i64 ((0:Nat):Int)] 3 (0,0)):=by
  rw [← hW3]
  have:=ha_ (w.alloc (.cells #[.slice al l.length cl] 90)) (.cells #[.int .i64 0] 3)
  refine (heap_alloc_old _ _ (by simp)).trans ?_
  simpa using this
 have h2:W3.heap[w.heap.size + 1 + 1]? = some (.cells #[belC (w.heap.size + 1) w.heap.size (w.heap.size + 1 + 1)] 142 (0,0)):=by
  rw [← hW3]
  have:=ha_ ((w.alloc (.cells #[.slice al l.length cl] 90)).alloc (.cells #[.int .i64 0] 3)) (.cells #[belC (w.heap.size + 1) w.heap.size (w.heap.size + 1 + 1)] 142)
  simpa using this
 have H:=below_u (w.heap.size + 1) w.heap.size (w.heap.size + 1 + 1) l al cl hll hsm (l.length + 1) 0 0 S W3 (by omega) (Nat.zero_le _) (nl_ _) (hv.agree (qc_ hb3 hS)) (fun b hb=>by have:=hS b hb;omega)
  (cg_ h0 (k:=0) rfl) (cg_ h2 (k:=0) rfl) h1 (by omega) (by omega)
 rw [List.drop_zero,show ((0:Nat):Int) = 0 from rfl] at H
 have k2:=cg_ h2 (k:=0) rfl
 unfold belC at hW3 k2
 have H:=hid H
 have HB3:=hid hb3
 have HZ3:=hid hz3
 clear hb3 hz3 h0 h1 h2
 go_enter Tryz.func38,Tryz.ntmps38
 go_wp2_with fail
 refine H.out.mono ?_
 rintro e w4 ⟨a,c,rfl,hF,_,hk⟩
 go_wp2_with fail
 go_ret
 have h1:=HZ3.out
 have h2:=HB3.out
 exact ⟨a,c,rfl,hF.wide (fun b hb=>⟨by have:=hb.1;omega,hb.2⟩),h2.trans (hk.below (n:=w.heap.size) (by omega) (fun b hb=>by omega))⟩
theorem tree_any (l:List Fl) (al:Option Addr) (cl:Nat) (S:Nat→Prop) (w:World) (hv:FlSl S w (.slice al l.length cl) l) (hS:∀ b,S b→b < w.heap.size) (hll:l.length ≤ 1000) (hsm:SmF l) :
 Calls Tryz.prog 38 #[.slice al l.length cl] w fun e w'=>∃ a c,e = .returned (.slice a (treF 0 l).1.len c)∧FSl (Rg w.heap.size w'.heap.size) w' (.slice a (treF 0 l).1.len c) (treF 0 l).1∧Below w.heap.size w w':=
 (tree_u l al cl S w hv hS hll hsm).mono fun _ _ ⟨a,c,he,h,hb⟩=>⟨a,c,he,FSlU.fsl h,hb⟩
def fstK (k:Ky):Fo→Option (List UInt8 × List Int × Fo)
 | .nil=>none
 | .cons n l s r=>if qn_ n l = k then some (n,l,s) else fstK k r
def atF:Fo→List Ky→Option (List UInt8 × List Int × Fo)
 | _,[]=>none
 | y,k :: r=>match fstK k y with
   | none=>none
   | some x=>if r = [] then some x else atF x.2.2 r
def keyAt (y:Fo) (i:Nat):Option Ky:=match y.drop i with | .nil=>none | .cons n l _ _=>some (qn_ n l)
theorem xP_:zn_ 163:=by intro args W;simp [go_sem]
end Go.Proofs.LF
namespace Go.Proofs.LS
theorem zO_ {i:Nat}:∀ {n k:Nat} {ws:List Way} {r:Option (List Way)},xK_ i n ws = some r→xK_ i (n + k) ws = some r
 | 0,_,_,_,h=>by cases h
 | n + 1,k,ws,r,h=>by
   rw [show n + 1 + k = (n + k) + 1 by omega]
   simp only [xK_] at h ⊢
   split
   · rename_i hlt
     rw [if_pos hlt] at h
     split at h
     · cases h
     · exact h
     · exact zO_ h
   · rename_i hlt
     rw [if_neg hlt] at h;exact h
theorem zr_ {n k:Nat}:∀ {m i:Nat} {ws:List Way} {r:Option (List Way)},jA_ n m i ws = some r→jA_ (n + k) m i ws = some r
 | 0,_,_,_,h=>h
 | m + 1,i,ws,r,h=>by
   simp only [jA_] at h ⊢
   split at h
   · cases h
   · rename_i h1;rw [zO_ h1];exact h
   · rename_i h1;rw [zO_ h1];exact zr_ h
theorem kD_:∀ {n k:Nat} {ws r:List Way},vW_ n ws = some r→vW_ (n + k) ws = some r
 | 0,_,_,_,h=>by cases h
 | n + 1,k,ws,r,h=>by
   rw [show n + 1 + k = (n + k) + 1 by omega]
   simp only [vW_] at h ⊢
   split
   · rename_i hlt
     rw [if_pos hlt] at h;exact h
   · rename_i hlt
     rw [if_neg hlt] at h
     split at h
     · cases h
     · exact kD_ h
theorem fill1_ok {xs:List Way} (hx:Fit xs) {i:Nat}:∀ (k:Nat) {ws:List Way},Flow ws→z5_ ws xs→i < ws.length→((at_ ws i).lo - (at_ ws i).goes).toNat ≤ k →
 ∃ n ws',xK_ i n ws = some (some ws')∧Flow ws'∧z5_ ws' xs∧(at_ ws' i).lo ≤ (at_ ws' i).goes∧∀ j,j < ws.length→(at_ ws j).lo ≤ (at_ ws j).goes→(at_ ws' j).lo ≤ (at_ ws' j).goes
 | k,ws,hF,hS,hi,hk=>by
   by_cases hlt:(at_ ws i).goes < (at_ ws i).lo
   · obtain ⟨n1,n2,n3⟩:=hF.node i hi
     rcases jP_ (b:=(at_ ws i).f) hF n2 n3.symm with ⟨met,p1,_,p2,p3,p4⟩ | ⟨l,met,p1,_,p2,_,p3,p4,p5⟩
     · exact (lack_no hF hS hx hi hlt (fun v=>met.getD v false) p2 p3 p4).elim
     · have hno:∀ c ∈ l,c.way ≠ i:=fun c hc e=>by
        obtain ⟨q1,q2⟩:=p4 c hc
        have hr:=(qp_.1 q1).2
        cases hm:c.more with
        | true=>rw [eT,hm,e] at q2;exact q2 rfl
        | false=>
          rw [eR,hm,e,show (ws.getD i Way.z) = at_ ws i from rfl] at hr
          simp only [Bool.false_eq_true,if_false] at hr
          omega
       have hlv:(⟨i,true⟩:Cg) ∈ qN_ ws ws.length:=qp_.2 ⟨hi,by
        show (0:Int) < (at_ ws i).hi - (at_ ws i).goes
        have h1:=hx.lim i (by rw [← hS.len];exact hi)
        have h2:=hx.need i (by rw [← hS.len];exact hi)
        have h3:=hS.at i
        omega⟩
       have hch:Chn ws (l ++ [⟨i,true⟩]) (at_ ws i).f (at_ ws i).f:=p3.app ⟨rfl,rfl⟩
       have hon:Once (l ++ [⟨i,true⟩]):=List.pairwise_append.2 ⟨p5,List.pairwise_cons.2 ⟨by simp,List.Pairwise.nil⟩,fun c hc d hd=>by rw [List.mem_singleton.1 hd];exact hno c hc⟩
       have hli:∀ c ∈ l ++ [⟨i,true⟩],c ∈ qN_ ws ws.length:=fun c hc=>by
        rcases List.mem_append.1 hc with e | e
        · exact (p4 c e).1
        · rw [List.mem_singleton.1 e];exact hlv
       obtain ⟨m1,m2,m3,m4,m5,m6,_⟩:=make_flow (m:=(at_ ws i).lo - (at_ ws i).goes) hF hli hon hch (by omega)
       have hd:dls (l ++ [⟨i,true⟩]) i = 1:=by
        have:∀ (l k:List Cg),dls (l ++ k) i = dls l i + dls k i:=fun l k=>by rw [dls,List.foldl_append,jN_];rfl
        rw [this,ym_ hno]
        simp [dls,dl]
       have hg:=m5 i hi
       rw [hd,Int.mul_one] at hg
       have hs5:=m2.at i
       cases k with
       | zero=>omega
       | succ k=>
         obtain ⟨n,ws',f1,f2,f3,f4,f5⟩:=fill1_ok hx (i:=i) k m1 (m2.symm.trans hS) (by rw [← m2.len];exact hi) (by omega)
         refine ⟨n + 1,ws',?_,f2,f3,f4,fun j hj hlo=>f5 j (by rw [← m2.len];exact hj) (by rw [← (m2.at j).2.2.1];exact m6 j hj hlo)⟩
         simp only [xK_]
         rw [show (ws.getD i Way.z) = at_ ws i from rfl,if_pos hlt,p1]
         cases hl:l with
         | nil=>exact absurd hl p2
         | cons c l'=>simp only;rw [← hl];exact f1
   · exact ⟨1,ws,by simp only [xK_];rw [show (ws.getD i Way.z) = at_ ws i from rfl,if_neg hlt],hF,hS,by omega,fun j _ h=>h⟩
theorem fillA_ok {xs:List Way} (hx:Fit xs):∀ (k:Nat) {i:Nat} {ws:List Way},Flow ws→z5_ ws xs→i + k = ws.length→(∀ j,j < i→(at_ ws j).lo ≤ (at_ ws j).goes) →
 ∃ n ws',jA_ n k i ws = some (some ws')∧Fit ws'∧z5_ ws' xs
 | 0,i,ws,hF,hS,hi,hj=>⟨0,ws,rfl,⟨hF,fun j h=>hj j (by omega)⟩,hS⟩
 | k + 1,i,ws,hF,hS,hi,hj=>by
   obtain ⟨n,ws1,f1,f2,f3,f4,f5⟩:=fill1_ok hx (i:=i) _ hF hS (by omega) (Nat.le_refl _)
   have hl:ws1.length = ws.length:=f3.len.trans hS.len.symm
   obtain ⟨n2,ws2,g1,g2,g3⟩:=fillA_ok hx k (i:=i + 1) f2 f3 (by omega) fun j h=>by
    by_cases e:j = i
    · rw [e];exact f4
    · exact f5 j (by omega) (hj j (by omega))
   refine ⟨n + n2,ws2,?_,g2,g3⟩
   simp only [jA_]
   rw [zO_ f1]
   have:=zr_ (k:=n) g1
   rwa [Nat.add_comm] at this
theorem x7_ {ws:List Way} (hF:Flow ws) (hc:∀ i,i < ws.length→0 ≤ (at_ ws i).cost):0 ≤ costW ws:=by
 rw [kc_,show (0:Int) = sm ws.length fun _=>0 from (zz_ fun _ _=>rfl).symm]
 exact sm_le fun i hi=>Int.mul_nonneg (hc i hi) (hF.lim i hi).1
theorem fillB_ok:∀ (k:Nat) {ws:List Way},Fit ws→(∀ i,i < ws.length→0 ≤ (at_ ws i).cost)→(costW ws).toNat ≤ k →
 ∃ n ws',vW_ n ws = some ws'∧Fit ws'∧z5_ ws ws'∧(∀ c ∈ qN_ ws' ws'.length,fr (cAll ws') (eT ws' c) ≤ fr (cAll ws') (eF ws' c) + eC ws' c)
 | k,ws,hF,hc,hk=>by
   by_cases hl:(cAll ws).last < 0
   · obtain ⟨τ,L,N,hJ⟩:=cAll_ok hF.toFlow
     exact ⟨1,ws,by simp only [vW_];rw [if_pos hl],hF,rfl,fun c h=>hJ.no hl c h⟩
   · obtain ⟨l,a,c1,_,_,c4,c5,c6,c7⟩:=cycle_ok hF.toFlow (by omega)
     obtain ⟨m1,m2,m3,m4,m5,m6,m7⟩:=make_flow (m:=1000000) hF.toFlow c5 c6 c4 (by omega)
     have hF':Fit (k7_ ws l 1000000):=⟨m1,fun i hi=>by
      have hi':i < ws.length:=by rw [m2.len];exact hi
      rw [← (m2.at i).2.2.1];exact m6 i hi' (hF.need i hi')⟩
     have hc':∀ i,i < (k7_ ws l 1000000).length→0 ≤ (at_ (k7_ ws l 1000000) i).cost:=fun i hi=>by
      rw [← (m2.at i).2.2.2.2];exact hc i (by rw [m2.len];exact hi)
     have hn:=x7_ m1 hc'
     have h0:=x7_ hF.toFlow hc
     have hdec:mMost ws l 1000000 * cs ws l ≤ -1:=by
      have:mMost ws l 1000000 * cs ws l < 0:=Int.mul_neg_of_pos_of_neg m3 c7
      omega
     cases k with
     | zero=>omega
     | succ k=>
       obtain ⟨n,ws',f1,f2,f3,f4⟩:=fillB_ok k hF' hc' (by omega)
       refine ⟨n + 1,ws',?_,f2,m2.trans f3,f4⟩
       simp only [vW_]
       rw [if_neg hl,c1];exact f1
theorem filled_ok {ws xs:List Way} (h0:Flow ws) (hx:Fit xs) (hS:z5_ ws xs) (hc:∀ i,i < ws.length→0 ≤ (at_ ws i).cost) :
 ∃ n ws',zK_ n ws = some (some ws')∧Fit ws'∧z5_ ws ws'∧∀ ys,z5_ ws ys→Fit ys→costW ws' ≤ costW ys:=by
 obtain ⟨n1,ws1,a1,a2,a3⟩:=fillA_ok hx ws.length (i:=0) h0 hS (by omega) fun j h=>by omega
 have s1:z5_ ws ws1:=hS.trans a3.symm
 obtain ⟨n2,ws2,b1,b2,b3,b4⟩:=fillB_ok _ a2 (fun i hi=>by rw [← (s1.at i).2.2.2.2];exact hc i (by rw [s1.len];exact hi)) (Nat.le_refl _)
 refine ⟨n1 + n2,ws2,?_,b2,s1.trans b3,fun ys h1 h2=>opt b2 ((s1.trans b3).symm.trans h1) h2 (fr (cAll ws2)) b4⟩
 simp only [zK_]
 rw [zr_ a1]
 have:=kD_ (k:=n1) b1
 rw [Nat.add_comm] at this
 simp only [this,Option.map_some]
theorem vt_ {n k:Nat} {ws:List Way} {r:Option (List Way)} (h:zK_ n ws = some r):zK_ (n + k) ws = some r:=by
 simp only [zK_] at h ⊢
 split at h
 · cases h
 · rename_i h1;rw [zr_ h1];exact h
 · rename_i h1;rw [zr_ h1]
   obtain ⟨z,h2,h3⟩:=Option.map_eq_some_iff.1 h
   show Option.map some (vW_ (n + k) _) = some r
   rw [kD_ h2,← h3];rfl
theorem cyc_live {ws:List Way} (h:Flow ws) (hl:0 ≤ (cAll ws).last):(cAll ws).last.toNat < 12∧∀ n,cby (cAll ws) (iter (fun at_=>eF ws (cby (cAll ws) at_)) n (cAll ws).last.toNat) ∈ qN_ ws ws.length:=by
 obtain ⟨τ,L,N,hJ⟩:=cAll_ok h
 obtain ⟨hv,hL⟩:=hJ.yes hl
 obtain ⟨s,hs⟩:∃ s,cAll ws = s:=⟨_,rfl⟩
 rw [hs] at hJ hl hv hL ⊢
 obtain ⟨v,hv'⟩:∃ v,s.last.toNat = v:=⟨_,rfl⟩
 obtain ⟨f,hf⟩:∃ f:Nat→Nat,f = fun at_=>eF ws (cby s at_):=⟨_,rfl⟩
 have hfx:∀ x,eF ws (cby s x) = f x:=fun x=>by rw [hf]
 rw [hv'] at hv hL
 have hX:∀ j,j ≤ 12→13 ≤ L (iter f j v) + j∧iter f j v < 12:=by
  intro j
  induction j with
  | zero=>intro _;exact ⟨by show 13 ≤ L v + 0;omega,hv⟩
  | succ j ih=>
    intro hj
    obtain ⟨h1,h2⟩:=ih (by omega)
    obtain ⟨k1,k2,k3,k4,k5⟩:=hJ.ex (iter f j v) (by omega)
    rw [hfx] at k5
    rw [qs_]
    have:=ends_lt h k1
    rw [hfx] at this
    exact ⟨by omega,this.1⟩
 obtain ⟨i,j,hij,hj,he⟩:=php (n:=12) (fun k=>iter f k v) fun k hk=>(hX k hk).2
 have he:iter f i v = iter f j v:=he
 have hper:∀ n,∃ m,m ≤ 12∧iter f n v = iter f m v:=by
  intro n
  induction n with
  | zero=>exact ⟨0,by omega,rfl⟩
  | succ n ih=>
    obtain ⟨m,h1,h2⟩:=ih
    by_cases e:m = 12
    · refine ⟨i + (13 - j),by omega,?_⟩
      rw [qs_,h2,e,← qs_ f 12 v,show (12:Nat) + 1 = j + (13 - j) by omega,qY_,qY_,he]
    · exact ⟨m + 1,by omega,by rw [qs_,qs_,h2]⟩
 have hgood:∀ n,1 ≤ L (iter f n v):=fun n=>by
  obtain ⟨m,h1,h2⟩:=hper n
  have:=(hX m h1).1
  rw [h2];omega
 refine ⟨by rw [hv'];exact hv,fun n=>?_⟩
 rw [← hf,hv']
 exact (hJ.ex _ (hgood n)).1
end Go.Proofs.LS