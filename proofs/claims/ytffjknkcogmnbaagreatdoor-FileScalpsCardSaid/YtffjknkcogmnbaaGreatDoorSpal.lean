/- Parts of the proof of a law of layer 11 (file): LfYai. The conditions stand in each theorem. -/
import Derived.Below
import Derived.ChangeSame
import Derived.Deep.Cut
import Derived.Deep.CutBlock
import Derived.Deep.CutRange
import Derived.Deep.DeepHandedRow
import Derived.Deep.DeepWitnessRowRef
import Derived.Deep.Slices
import Derived.Laws.StructEq
import Derived.Lib.LaidIn
import Derived.Lib.LaidTab
import Derived.OpenShut
import Derived.ProofKit
import Derived.Stop.LaidErr
import Derived.Test.YtffjknkcogmnbaaGreatDoorCards
import Derived.Test.YtffjknkcogmnbaaGreatDoorProg
import Derived.Test.YtffjknkcogmnbaaGreatDoorTie
import Derived.Test.YtffjknkcogmnbaaGreatDoorSpac
import Derived.Test.YtffjknkcogmnbaaGreatDoorSpae
import Derived.Test.YtffjknkcogmnbaaGreatDoorSpah
import Derived.Test.YtffjknkcogmnbaaGreatDoorSpaj
set_option linter.all false
set_option linter.unusedVariables false
set_option linter.unusedSimpArgs false
set_option linter.all false
set_option linter.unusedVariables false
set_option linter.unusedSimpArgs false
namespace Go.Proofs.LF
open Go.RowKit
set_option maxRecDepth 100000
section
variable {H:Type} {enc:TypeId × Value→H} {W:World}
theorem w1_ {a:Addr} {v:Value} (h:W.cell? a = some v):a.spot = none∧a.block < W.heap.size:=by
 unfold World.cell? at h
 split at h
 · rename_i c t f hb
   split at h
   · cases h
   · rename_i hs
     exact ⟨by simpa using hs,(ge_ hb).1⟩
 · cases h
theorem add_plain (a:Addr) (h:a.spot = none) (i:Nat):a.add i = ⟨a.block,a.off + i,none⟩:=by
 unfold Addr.add
 split
 · rename_i h0
   subst h0
   cases a
   simp only at h
   subst h
   rfl
 · rfl
end
end Go.Proofs.LF
namespace Go.Proofs.LF
open Go.RowKit Go.Sort
set_option maxHeartbeats 4000000
set_option maxRecDepth 100000
attribute [local go_sem] q1_ q2_ q6_
def Byt (S:Nat→Prop) (w:World) (v:Value) (l:List Int):Prop:=SlC S w 1 v l.length (l.map (Value.int .u8))
def HpC (b:Nat) (a:Option Addr) (l:List Int) (c:Nat) (nx rd:Int) (w:World):Prop:=w.heap[b]? = some (.cells #[.slice a l.length c, .int .i64 nx, .int .u32 rd] 85 (0,0))
def Hp (b:Nat) (S:Nat→Prop) (w:World):Prop:=∃ (a:Option Addr) (l:List Int) (c:Nat) (nx rd:Int),HpC b a l c nx rd w∧0 ≤ nx∧(nx = 0 ∨ nx < l.length)∧Byt S w (.slice a l.length c) l∧∀ q,S q→q ≠ b
theorem and_low (X:Int):0 ≤ bits .and .u32 X 32767∧bits .and .u32 X 32767 ≤ 32767:=by
 have h:(BitVec.ofInt 32 X &&& BitVec.ofInt 32 32767).toNat ≤ 32767:=by
  rw [BitVec.toNat_and]
  exact Nat.le_trans Nat.and_le_right (by decide)
 have h2:bits .and .u32 X 32767 = IntKind.u32.wrap (((BitVec.ofInt 32 X &&& BitVec.ofInt 32 32767).toNat:Nat):Int):=rfl
 rw [h2]
 generalize (BitVec.ofInt 32 X &&& BitVec.ofInt 32 32767).toNat = N at h
 have h3:IntKind.u32.wrap (N:Int) = N:=by
  unfold IntKind.wrap
  have:(N:Int) % 2 ^ IntKind.u32.bits = N:=Int.emod_eq_of_lt (by omega) (by show (N:Int) < 2 ^ 32;omega)
  simp only [this]
  rfl
 rw [h3];omega
theorem zX_ {X:Int}:0 ≤ wrap64 (bits .and .u32 X 32767)∧wrap64 (bits .and .u32 X 32767) ≤ 32767:=by
 have:=and_low X
 unfold wrap64;omega
theorem HpC.keep {b:Nat} {S:Nat→Prop} {a:Option Addr} {l:List Int} {c:Nat} {nx' rd':Int} {w w':World} (hS:∀ q,S q→q ≠ b) (hl:Byt S w (.slice a l.length c) l) (h0:0 ≤ nx') (h1:nx' = 0 ∨ nx' < l.length)
 (hb:HpC b a l c nx' rd' w') (ho:w'.os = w.os) (ht:w'.tape = w.tape) (hu:w'.output = w.output) (hz:w'.heap.size = w.heap.size) (hh:∀ q,q ≠ b→w'.heap[q]? = w.heap[q]?):Hp b S w'∧Keep (· = b) w w':=
 ⟨⟨a,l,c,nx',rd',hb,h0,h1,SlC.agree hl fun q hq=>hh q (hS q hq),hS⟩,⟨ho,ht,hu,by omega,fun q _ hq=>hh q hq⟩⟩
theorem pick_any (b:Nat) (S:Nat→Prop) (w:World) (h:Hp b S w):Calls Tryz.prog 27 #[.pointer (some ⟨b,0,none⟩)] w fun e w'=>∃ r:Int,e = .returned (.int .i64 r)∧0 ≤ r∧r ≤ 32767∧Hp b S w'∧Keep (· = b) w w':=by
 obtain ⟨a,l,c,nx,rd,hb,h0,h1,hl,hS⟩:=h
 have k0:=cg_ hb (k:=0) rfl
 have k1:=cg_ hb (k:=1) rfl
 have k2:=cg_ hb (k:=2) rfl
 have f1:=cells_frz hb (k:=1)
 have f2:=cells_frz hb (k:=2)
 obtain ⟨hc1,hc2,_⟩:=SlC.caps hl
 by_cases hlt:nx < l.length
 · obtain ⟨g,o,rfl,hg,_,_,hcell⟩:=SlC.cells hl (by omega)
   obtain ⟨n,rfl⟩:∃ n:Nat,nx = n:=⟨nx.toNat,by omega⟩
   have hn:n < l.length:=by omega
   have e0:=hcell n (.int .u8 l[n]) (by simp [hn])
   clear hcell
   have i1:(0:Int) ≤ (n:Int):=by omega
   go_enter Tryz.func27,Tryz.ntmps27
   go_wp2_with fail
   go_quiet (fail)
   go_wp2_with fail
   go_quiet (fail)
   go_wp2_with fail
   by_cases hge:(n:Int) + 1 < (l.length:Int)
   · go_quiet (fail)
     go_wp2_with fail
     go_ret
     refine ⟨_,rfl,zX_.1,zX_.2,HpC.keep hS hl (nx':=(n:Int) + 1) (rd':=rd) (by omega) (.inr hge) ?_ rfl rfl rfl (by simp [World.setCell]) (fun q hq=>Below.heap_setCell _ _ _ _ hq)⟩
     have hb':=hb
     unfold HpC at hb' ⊢
     simp [World.setCell,World.drewN,Array.getElem?_modify,hb']
   · have hge':(n:Int) + 1 ≥ (l.length:Int):=by omega
     go_quiet (fail)
     go_wp2_with fail
     go_ret
     refine ⟨_,rfl,zX_.1,zX_.2,HpC.keep hS hl (nx':=0) (rd':=(rd + 1) % 4294967296) (by omega) (.inl rfl) ?_ rfl rfl rfl (by simp [World.setCell]) (fun q hq=>(Below.heap_setCell _ _ _ _ hq).trans ((Below.heap_setCell _ _ _ _ hq).trans (Below.heap_setCell _ _ _ _ hq)))⟩
     have hb':=hb
     unfold HpC at hb' ⊢
     simp [World.setCell,World.drewN,Array.getElem?_modify,hb']
 · obtain rfl:nx = 0:=by omega
   have hl0:l.length = 0:=by omega
   obtain rfl:l = []:=List.eq_nil_of_length_eq_zero hl0
   go_enter Tryz.func27,Tryz.ntmps27
   go_wp2_with fail
   go_quiet (fail)
   go_wp2_with fail
   go_quiet (fail)
   go_wp2_with fail
   go_ret
   refine ⟨_,rfl,zX_.1,zX_.2,HpC.keep hS hl (nx':=0) (rd':=(rd + 1) % 4294967296) (by omega) (.inl rfl) ?_ rfl rfl rfl (by simp [World.setCell]) (fun q hq=>(Below.heap_setCell _ _ _ _ hq).trans ((Below.heap_setCell _ _ _ _ hq).trans (Below.heap_setCell _ _ _ _ hq)))⟩
   have hb':=hb
   unfold HpC at hb' ⊢
   simp [World.setCell,World.drewN,Array.getElem?_modify,hb']
theorem zi_ (b:Nat) (S:Nat→Prop) (w:World) (n:Nat) (hn:n ≤ 1000) (h:Hp b S w):Calls Tryz.prog 7 #[.pointer (some ⟨b,0,none⟩), .int .i64 n] w fun e w'=>∃ r:Nat,e = .returned (.int .i64 r)∧r ≤ n∧Hp b S w'∧Keep (· = b) w w':=by
 have PK:=hid (pick_any b S w h)
 clear h
 have w1:IntKind.i64.wrap ((n:Int) + 1) = (n:Int) + 1:=IntWalk.i64_in _ (by omega)
 go_enter Tryz.func7,Tryz.ntmps7
 go_wp2_with fail
 refine PK.out.mono ?_
 rintro e w1 ⟨r,rfl,h0,h1,h2,h3⟩
 have h2:=hid h2
 have h3:=hid h3
 obtain ⟨r,rfl⟩:∃ q:Nat,r = q:=⟨r.toNat,by omega⟩
 go_wp2_with fail
 go_ret
 have hm:max 1 ((n:Int) + 1) = ((n + 1:Nat):Int):=by omega
 refine ⟨r % (n + 1),qe_ (by rw [hm];omega),by have:=Nat.mod_lt r (show 0 < n + 1 by omega);omega,h2.out,h3.out⟩
theorem Once_any (b:Nat) (S:Nat→Prop) (w:World) (n:Nat) (hn:n ≤ 1000) (h:Hp b S w):Calls Tryz.prog 54 #[.pointer (some ⟨b,0,none⟩), .int .i64 ((n + 1:Nat):Int)] w fun e w'=>∃ q:Bool,e = .returned (.bool q)∧Hp b S w'∧Keep (· = b) w w':=by
 have UP:=hid (zi_ b S w n hn h)
 clear h
 have w1:IntKind.i64.wrap (((n + 1:Nat):Int) - 1) = (n:Int):=by rw [show ((n + 1:Nat):Int) - 1 = n by omega];exact IntWalk.i64_in _ (by omega)
 obtain ⟨N,hN⟩:∃ N:Int,((n + 1:Nat):Int) = N:=⟨_,rfl⟩
 rw [hN] at w1 ⊢
 clear hN
 go_enter Tryz.func54,Tryz.ntmps54
 go_wp2_with fail
 refine UP.out.mono ?_
 rintro e w1 ⟨r,rfl,h0,h2,h3⟩
 have h2:=hid h2
 have h3:=hid h3
 go_wp2_with fail
 go_ret
 exact ⟨_,rfl,h2.out,h3.out⟩
theorem Pile_any (a:Option Addr) (l:List Int) (c:Nat) (S:Nat→Prop) (w:World) (hl:Byt S w (.slice a l.length c) l) (hS:∀ q,S q→q < w.heap.size) :
 Calls Tryz.prog 6 #[.slice a l.length c] w fun e w'=>e = .returned (.pointer (some ⟨w.heap.size,0,none⟩))∧Hp w.heap.size S w'∧w'.heap.size = w.heap.size + 1∧Below w.heap.size w w':=by
 have hb:=ha_ w (.cells #[.slice a l.length c, .int .i64 0, .int .u32 0] 85)
 have hB:Below w.heap.size w (w.alloc (.cells #[.slice a l.length c, .int .i64 0, .int .u32 0] 85)):=(Below.refl _ _).alloc (nl_ _) _
 have hH:Hp w.heap.size S (w.alloc (.cells #[.slice a l.length c, .int .i64 0, .int .u32 0] 85)):=⟨a,l,c,0,0,hb,by omega, .inl rfl,SlC.agree hl (q9_ hB hS),fun q hq e=>by have:=hS q hq;omega⟩
 have HH:=hid hH
 have HB:=hid hB
 clear hb hB hH hl hS
 go_enter Tryz.func6,Tryz.ntmps6
 go_wp2_with fail
 go_ret
 exact ⟨rfl,HH.out,by simp,HB.out⟩
theorem jn_ (c:UInt8) (w:World):Calls Tryz.prog 144 #[.int .u8 c.toNat] w fun e w'=>e = .returned (.bool (c == 32))∧Below w.heap.size w w':=by
 by_cases h:c = 32
 · subst h
   go_enter Tryz.func144,Tryz.ntmps144
   go_wp2_with fail
   go_ret
   exact ⟨rfl,Below.refl _ _⟩
 · have h1:((c.toNat:Int) == 32) = false:=by
    simp only [beq_eq_false_iff_ne,ne_eq]
    intro e
    exact h (by rw [j3_]; have : c.toNat = 32 := by omega
                exact this)
   have h2:(c == 32) = false:=by simpa using h
   rw [h2]
   go_enter Tryz.func144,Tryz.ntmps144
   go_wp2_with fail
   go_ret
   exact ⟨rfl,Below.refl _ _⟩
theorem enters225:z5_ 144:=by intro args W;simp [go_sem]
theorem x0_ (w:World):Calls Tryz.prog 95 #[] w fun e w'=>e = .returned (.agg #[.func (.func 144) #[] #[]])∧Below w.heap.size w w':=by
 go_enter Tryz.func95,Tryz.ntmps95
 go_wp2_with fail
 exact bodyPost_ret (v := .agg #[.func (.func 144) #[] #[]]) (by simp [results,Tryz.results95,go_sem]) rfl ⟨rfl,(Below.refl _ _).alloc (nl_ _) _⟩
theorem small_any (w:World):Calls Tryz.prog 96 #[] w fun e w'=>e = .returned (.agg #[.int .u8 97, .int .u8 122])∧Below w.heap.size w w':=by
 go_enter Tryz.func96,Tryz.ntmps96
 go_wp2_with fail
 exact bodyPost_ret (v := .agg #[.int .u8 97, .int .u8 122]) (by simp [results,Tryz.results96,go_sem]) rfl ⟨rfl,(Below.refl _ _).alloc (nl_ _) _⟩
theorem ju_ (w:World):Calls Tryz.prog 99 #[] w fun e w'=>e = .returned (.agg #[.func (.func 97) #[.agg #[.int .u8 48, .int .u8 57]] #[]])∧Below w.heap.size w w':=by
 go_enter Tryz.func99,Tryz.ntmps99
 go_wp2_with fail
 exact bodyPost_ret (v := .agg #[.func (.func 97) #[.agg #[.int .u8 48, .int .u8 57]] #[]]) (by simp [results,Tryz.results99,go_sem]) rfl ⟨rfl,(Below.refl _ _).alloc (nl_ _) _⟩
end Go.Proofs.LF
namespace Go.Proofs.LF
def qw_ (c:UInt8):Bool:=c == 32
def qK_ (c:UInt8):Bool:=inB c.toNat 97 122
def qG_ (c:UInt8):Bool:=inB c.toNat 48 57
def zo_ (s:List UInt8):Nat:=if s.head? = some 48 then 1 else 4
def j4_ (l:List UInt8):Nat:=l.foldl (fun n c=>n * 10 + (c.toNat - 48)) 0
def qq_:Nat→List UInt8→List Int × Nat × Bool
 | 0,_=>([],0,true)
 | m + 1,s=>
   if qD_ qw_ 1 s = 0 then ([],0,true)
   else
    let s1:=s.drop 1
    let n:=qD_ qG_ (zo_ s1) s1
    if n = 0 then ([],1,false)
    else
     let r:=qq_ m (s1.drop n)
     ((j4_ (s1.take n):Int) :: r.1,1 + n + r.2.1,r.2.2)
def rdLine (deepest:Nat) (s:List UInt8):Nat × List UInt8 × List Int × Nat × Bool:=
 let d:=qD_ qw_ deepest s
 let s1:=s.drop d
 let k:=qD_ qK_ 8 s1
 if k = 0 then (d,[],[],d,false)
 else
  let r:=qq_ 4 (s1.drop k)
  (d,s1.take k,r.1,d + k + r.2.1,r.2.2 && ((s1.drop (k + r.2.1)).head? == some 10))
theorem vW_ {c:UInt8}:qG_ c = true ↔ 48 ≤ c.toNat∧c.toNat ≤ 57:=by
 simp only [qG_,inB,Bool.and_eq_true,decide_eq_true_eq];omega
end Go.Proofs.LF
namespace Go.Proofs.LF
open Go.RowKit Go.Sort
set_option maxHeartbeats 4000000
set_option maxRecDepth 100000
attribute [local go_sem] q1_ q2_ q6_
theorem tree_u (l:List Fl) (al:Option Addr) (cl:Nat) (S:Nat→Prop) (w:World) (hv:FlSl S w (.slice al l.length cl) l) (hS:∀ b,S b→b < w.heap.size) (hll:l.length ≤ 1000) (hsm:SmF l) :
 Calls Tryz.prog 38 #[.slice al l.length cl] w fun e w'=>∃ a c,e = .returned (.slice a (treF 0 l).1.len c)∧FSlU (Rg w.heap.size w'.heap.size) w' (.slice a (treF 0 l).1.len c) (treF 0 l).1∧Below w.heap.size w w':=by
 obtain ⟨W3,hW3⟩:∃ W3,((w.alloc (.cells #[.slice al l.length cl] 90)).alloc (.cells #[.int .i64 0] 3)).alloc (.cells #[belC (w.heap.size + 1) w.heap.size (w.heap.size + 1 + 1)] 142) = W3:=⟨_,rfl⟩
 have hb3:Below w.heap.size w W3:=by rw [← hW3];exact (((Below.refl _ _).alloc (nl_ _) _).alloc (by simp) _).alloc (by simp;omega) _
 have hz3:W3.heap.size = w.heap.size + 3:=by rw [← hW3];simp
 have h0:W3.heap[w.heap.size]? = some (.cells #[.slice al l.length cl] 90 (0,0)):=by
  rw [← hW3]
  exact (heap_alloc_old _ _ (by simp;omega)).trans ((heap_alloc_old _ _ (by simp)).trans (ha_ _ _))
 have h1:W3.heap[w.heap.size + 1]? = some (.cells #[.int .i64 ((0:Nat):Int)] 3 (0,0)):=by
  rw [← hW3]
  have:=ha_ (w.alloc (.cells #[.slice al l.length cl] 90)) (.cells #[.int .i64 0] 3)
  refine (heap_alloc_old _ _ (by simp)).trans ?_
  simpa using this
 have h2:W3.heap[w.heap.size + 1 + 1]? = some (.cells #[belC (w.heap.size + 1) w.heap.size (w.heap.size + 1 + 1)] 142 (0,0)):=by
  rw [← hW3]
  have:=ha_ ((w.alloc (.cells #[.slice al l.length cl] 90)).alloc (.cells #[.int .i64 0] 3)) (.cells #[belC (w.heap.size + 1) w.heap.size (w.heap.size + 1 + 1)] 142)
  simpa using this
 have H:=below_u (w.heap.size + 1) w.heap.size (w.heap.size + 1 + 1) l al cl hll hsm (l.length + 1) 0 0 S W3 (by omega) (Nat.zero_le _) (nl_ _) (hv.agree (q9_ hb3 hS)) (fun b hb=>by have:=hS b hb;omega)
  (cg_ h0 (k:=0) rfl) (cg_ h2 (k:=0) rfl) h1 (by omega) (by omega)
 rw [List.drop_zero,show ((0:Nat):Int) = 0 from rfl] at H
 have k2:=cg_ h2 (k:=0) rfl
 unfold belC at hW3 k2
 have H:=hid H
 have HB3:=hid hb3
 have HZ3:=hid hz3
 clear hb3 hz3 h0 h1 h2
 go_enter Tryz.func38,Tryz.ntmps38
 go_wp2_with fail
 refine H.out.mono ?_
 rintro e w4 ⟨a,c,rfl,hF,_,hk⟩
 go_wp2_with fail
 go_ret
 have h1:=HZ3.out
 have h2:=HB3.out
 exact ⟨a,c,rfl,hF.wide (fun b hb=>⟨by have:=hb.1;omega,hb.2⟩),h2.trans (hk.below (n:=w.heap.size) (by omega) (fun b hb=>by omega))⟩
theorem tree_any (l:List Fl) (al:Option Addr) (cl:Nat) (S:Nat→Prop) (w:World) (hv:FlSl S w (.slice al l.length cl) l) (hS:∀ b,S b→b < w.heap.size) (hll:l.length ≤ 1000) (hsm:SmF l) :
 Calls Tryz.prog 38 #[.slice al l.length cl] w fun e w'=>∃ a c,e = .returned (.slice a (treF 0 l).1.len c)∧FSl (Rg w.heap.size w'.heap.size) w' (.slice a (treF 0 l).1.len c) (treF 0 l).1∧Below w.heap.size w w':=
 (tree_u l al cl S w hv hS hll hsm).mono fun _ _ ⟨a,c,he,h,hb⟩=>⟨a,c,he,FSlU.fsl h,hb⟩
theorem isKey_any (n:List UInt8) (l:List Int) (an ab:Option Addr) (cn sl cb K:Nat) (k:Ky) (S:Nat→Prop) (w:World) (hl:qF_ S w (.slice an l.length cn) l) (hS:∀ b,S b→b < w.heap.size)
 (hK:K < w.heap.size) (h0:w.cell? ⟨K,0,none⟩ = some (.string (bs k.n))) (h1:w.cell? ⟨K,1,none⟩ = some (.bool k.h)) (h2:w.cell? ⟨K,2,none⟩ = some (.int .i64 k.x)) :
 Calls Tryz.prog 163 #[.agg #[.string (bs n), .slice an l.length cn, .slice ab sl cb], .pointer (some ⟨K,0,none⟩)] w fun e w'=>e = .returned (.bool (decide (kyOf n l = k)))∧Below w.heap.size w w':=by
 have hb:Below w.heap.size w (w.alloc (.cells #[.string (bs n), .slice an l.length cn, .slice ab sl cb] 109)):=(Below.refl _ _).alloc (nl_ _) _
 have HB:=hid hb
 have HL:=hid hl
 have HS:=hid hS
 clear hl hS hb
 obtain ⟨kk,hkk⟩:∃ kk,kyOf n l = kk:=⟨_,rfl⟩
 have hdec:decide (kyOf n l = k) = (kk.n == k.n && (kk.h == k.h && kk.x == k.x)):=by
  rw [hkk]
  obtain ⟨an,ah,ax⟩:=kk
  obtain ⟨bn,bh,bx⟩:=k
  by_cases h1:an = bn <;> by_cases h2:ah = bh <;> by_cases h3:ax = bx <;> simp [h1,h2,h3]
 have HDEC:=hid hdec
 have HKK:=hid hkk
 clear hdec hkk
 cases hn:(kk.n == k.n) <;> cases hh:(kk.h == k.h) <;> cases hx:(kk.x == k.x)
 all_goals
  go_enter Tryz.func163,Tryz.ntmps163
  go_wp2_with fail
  go_region_held3 (fun w'=>w'.cell? ⟨w.heap.size,0,none⟩ = some (.string (bs n))∧w'.cell? ⟨w.heap.size,1,none⟩ = some (.slice an l.length cn)∧w'.cell? ⟨w.heap.size,2,none⟩ = some (.slice ab sl cb)∧w'.cell? ⟨K,0,none⟩ = some (.string (bs k.n))∧w'.cell? ⟨K,1,none⟩ = some (.bool k.h)∧w'.cell? ⟨K,2,none⟩ = some (.int .i64 k.x))
   (first
     | (go_split_ands
        with_reducible refine ⟨bc_ hb1 ?_ ?_,bc_ hb1 ?_ ?_,bc_ hb1 ?_ ?_,bc_ hb1 ?_ ?_,bc_ hb1 ?_ ?_,bc_ hb1 ?_ ?_⟩
        all_goals (first | (with_reducible assumption) | (simp;done) | (simp;omega)))
     | go_keep)
   (first
     | (go_at_call 90; refine (zC_ n l an cn (.slice ab sl cb) S _ (HL.out.agree (q9_ HB.out.drew HS.out)) (fun b hb => by have := HS.out b hb; simp; omega) ab sl cb rfl).mono ?_
        rintro e w1 ⟨rfl,hb1⟩
        rw [HKK.out]))
  go_wp2_with fail
  go_ret
  have hb1':Below (w.alloc (.cells #[.string (bs n), .slice an l.length cn, .slice ab sl cb] 109)).heap.size (w.alloc (.cells #[.string (bs n), .slice an l.length cn, .slice ab sl cb] 109)) w1:=⟨hb1.os,hb1.tape,hb1.output,hb1.size,hb1.block⟩
  exact ⟨by rw [HDEC.out,hn,hh,hx];simp,HB.out.trans (hb1'.mono (by simp))⟩
def j7_ (k:Ky):Fo→Option (List UInt8 × List Int × Fo)
 | .nil=>none
 | .cons n l s r=>if kyOf n l = k then some (n,l,s) else j7_ k r
def atF:Fo→List Ky→Option (List UInt8 × List Int × Fo)
 | _,[]=>none
 | y,k :: r=>match j7_ k y with
   | none=>none
   | some x=>if r = [] then some x else atF x.2.2 r
def zf_ (y:Fo) (i:Nat):Option Ky:=match y.drop i with | .nil=>none | .cons n l _ _=>some (kyOf n l)
theorem ki_ {k:Ky}:∀ {i:Nat} {y:Fo},(∀ j,j < i→zf_ y j ≠ some k)→j7_ k y = j7_ k (y.drop i)
 | 0,_,_=>rfl
 | _ + 1, .nil,_=>rfl
 | i + 1, .cons n l s r,h=>by
   have h0:=h 0 (by omega)
   simp only [zf_,Fo.drop,ne_eq,Option.some.injEq] at h0
   simp only [j7_,h0,if_false,Fo.drop]
   exact ki_ fun j hj=>h (j + 1) (by omega)
theorem isK_node {S:Nat→Prop} {w:World} {y:Fo} {a:Option Addr} {c:Nat} {cs:List Value} {K:Nat} {k:Ky} (hs:SlC S w 3 (.slice a y.len c) y.len cs) (hf:FCs S w y cs) (hS:∀ b,S b→b < w.heap.size)
 (hK:K < w.heap.size) (h0:w.cell? ⟨K,0,none⟩ = some (.string (bs k.n))) (h1:w.cell? ⟨K,1,none⟩ = some (.bool k.h)) (h2:w.cell? ⟨K,2,none⟩ = some (.int .i64 k.x)) :
 ∀ i,i < y.len→ka_ 163 [.pointer (some ⟨K,0,none⟩)] w [qJ_ 3 cs i] (decide (zf_ y i = some k)):=by
 intro i hi W hW
 obtain ⟨n,l,s,r,hd⟩:=Fo.drop_lt hi
 have hf':=hf.drop (i:=i)
 rw [hd] at hf'
 obtain ⟨vn,vs,cs',he,hI,⟨ds,hsb,_⟩,_⟩:=hf'
 obtain ⟨an,cn,rfl,_⟩:=SlC.shape hI
 obtain ⟨ab,cb,rfl,_⟩:=SlC.shape hsb
 have e:∀ j,cs[i * 3 + j]? = (Value.string (bs n) :: Value.slice an l.length cn :: Value.slice ab s.len cb :: cs')[j]?:=fun j=>by rw [← he,List.getElem?_drop]
 have hel:qJ_ 3 cs i = .agg #[.string (bs n), .slice an l.length cn, .slice ab s.len cb]:=by
  have e0:=e 0
  have e1:=e 1
  have e2:=e 2
  rw [Nat.add_zero] at e0
  simp [qJ_,List.range_succ,List.getD_eq_getElem?_getD,e0,e1,e2]
 have hk:zf_ y i = some (kyOf n l):=by simp [zf_,hd]
 rw [hel,hk]
 have hag:qd_ S w W:=q9_ hW hS
 have:=isKey_any n l an ab cn s.len cb K k S W (SlC.agree hI hag) (fun b hb=>by have:=hS b hb;have:=hW.size;omega) (by have:=hW.size;omega) (bc_ hW hK h0) (bc_ hW hK h1) (bc_ hW hK h2)
 simpa using this
theorem vm_:z5_ 163:=by intro args W;simp [go_sem]
theorem jC_ (m:Nat):∀ (y:Fo) (av:Option Addr) (cv:Nat) (S:Nat→Prop) (w:World),y.cnt < m→FSl S w (.slice av y.len cv) y→(∀ b,S b→b < w.heap.size)→y.len ≤ 1000→y.Sm →
 Calls Tryz.prog 121 #[.slice av y.len cv] w fun e w'=>∃ a c,e = .returned (.slice a y.len c)∧FOw 109 (Rg w.heap.size w'.heap.size) w' (.slice a y.len c) y∧Below w.heap.size w w':=by
 induction m with
 | zero=>intro y _ _ _ _ h;omega
 | succ m ih=>
 intro y av cv S w hcnt hv hS hlen hsm
 obtain ⟨a,c,he,hc,hm,hat⟩:=hv.at
 cases he
 obtain ⟨i0,hi0,hz0,hz1,hz2⟩:=info_parts Tryz.info85
 have IH:=hid ih
 clear ih
 unfold maxLen at hm
 go_enter Tryz.func121,Tryz.ntmps121
 go_wp2_with fail
 go_loopw [3,8] (fun v i wr=>∃ k:Nat,k ≤ y.len∧i = .int .i64 k∧(∃ cs,wr.ownsRow w.heap.size 109 3 v k cs∧qT_ 109 (Rx w.heap.size wr.heap.size v) wr (y.take k) cs)∧Below w.heap.size w wr) (fun _ i _=>y.len - (intOf i).toNat)
 case atStart=>exact ⟨0,by omega,rfl,⟨[],World.ownsRow_nil _ _ _ _,rfl⟩,Below.refl _ _⟩
 case round=>
  obtain ⟨k,hk,rfl,⟨cs,hown,hfc⟩,hB⟩:=hrel
  by_cases hlt:k < y.len
  · obtain ⟨g,o,n,l,s,r,an,cn,ab,cb,rfl,hg1,hd,hc0,hc1,hc2,hI,hF⟩:=hat k hlt
    have ha:qd_ S w wr:=q9_ hB hS
    have c0:=ha.cell hg1 hc0
    have c1:=ha.cell hg1 hc1
    have c2:=ha.cell hg1 hc2
    obtain ⟨s1,s2,s3,s4,_⟩:n.length ≤ 1000∧l.length ≤ 1000∧s.len ≤ 1000∧s.Sm∧r.Sm:=by have:=hsm.drop (i:=k);rwa [hd] at this
    have s5:=Fo.cnt_at hd
    have HD:=hid hd
    have hsz:=hB.size
    have hne:=owns_ne hown (nl_ wr.heap.size)
    clear hc0 hc1 hc2 hat hd
    go_wp2_with fail
    go_region_held3 (fun w'=>w'.cell? ⟨wr.heap.size,0,none⟩ = some (.string (bs n))∧w'.cell? ⟨wr.heap.size,1,none⟩ = some (.slice an l.length cn)∧w'.cell? ⟨wr.heap.size,2,none⟩ = some (.slice ab s.len cb))
     (first | go_keep | (go_split_ands;exact ⟨bc_ hb1 (by simp) (by assumption),bc_ hb1 (by simp) (by assumption),bc_ hb1 (by simp) (by assumption)⟩) | (go_split_ands;have hlt2:=hb1.size;exact ⟨bc_ hb2 (by simp at hlt2;omega) (by assumption),bc_ hb2 (by simp at hlt2;omega) (by assumption),bc_ hb2 (by simp at hlt2;omega) (by assumption)⟩) | (go_split_ands;exact ⟨qh_ hgrow hne (by assumption),qh_ hgrow hne (by assumption),qh_ hgrow hne (by assumption)⟩))
     (first
       | (go_at_call 65;refine (km_ l an cn S _ (hI.agree (q9_ (B:=w.heap.size) ?_ hS)) s2).mono ?_;(exact (hB.alloc hB.size _).drew);rintro e w1 ⟨a1,c1,rfl,hI1,hb1⟩)
       | (go_at_call 121;refine (IH.out s ab cb S _ (by omega) (hF.agree (q9_ (B:=w.heap.size) ?_ hS)) ?_ s3 s4).mono ?_;(exact ((hB.alloc hB.size _).drew).trans (hb1.mono (by simp;omega)));(intro b hb;have:=hS b hb;have:=hb1.size;simp at this;omega);rintro e w2 ⟨a2,c2,rfl,hF2,hb2⟩)
       | (refine step_append_lies _ (by rfl) _ _ _ (by rfl) w.heap.size 109 i0 _ 3 64 Tryz.underlying38 hi0 hz0 hz1 hz2 rfl (by omega) u3 k cs (by rfl) ((ob_ (ob_ (hown.alloc _).drew hb1 (nl_ _)) hb2 (nl_ _)).alloc _) ⟨w2.heap.size,0,none⟩ 1 1 [.string (bs n), .slice a1 l.length c1, .slice a2 s.len c2] (by rfl) (by rfl) (World.news_of_block (cs:=#[.string (bs n), .slice a1 l.length c1, .slice a2 s.len c2]) (t:=109) (fr:=(0,0)) (ha_ _ _)) (by simp [Value.oneCell']) (by omega) (by unfold maxLen;omega) (by omega) (by have:=hb1.size;have:=hb2.size;simp at *;omega) (w2.heap.size + 1) (by simp) ?_;intro gg cap w3 hown3 hgrow hatt hltt))
    go_wp2
    go_roundw
    case rel=>
     have st:Step w.heap.size wr _ w3 u3 gg:=⟨((((Below.refl _ _).alloc (nl_ _) _).drew.trans (hb1.mono (by simp))).trans (hb2.mono (by have:=hb1.size;simp at this;omega))).alloc (by have:=hb1.size;have:=hb2.size;simp at *;omega) _,hgrow,hsz,fun b hb=>hown.lt b hb,hatt.imp id (fun h=>by rw [h];simp),hltt⟩
     have hv':(Value.slice (some ⟨gg,0,none⟩) (k + 1) cap).ownBlock = some gg:=rfl
     have hp:=st.past hv'
     have hz1:=hb1.size
     have hz2:=hb2.size
     have hf1:=st.fresh (p:=(wr.alloc (.cells #[.string (bs n), .slice an l.length cn, .slice ab s.len cb] 109)).drew.heap.size) (q:=w1.heap.size) hv' (by simp) (by simp;omega) (hb2.alloc hb2.size _)
     have hf2:=st.fresh (p:=w1.heap.size) (q:=w2.heap.size) hv' (by simp at hz1;omega) (by simp) ((Below.refl _ _).alloc (nl_ _) _)
     have g1:=hfc.agree hp.2
     have g2:=hI1.agree hf1.2
     have g3:=hF2.agree hf2.2
     have g4:=g1.app (qT_.one (n:=n) g2 g3 (fun b h1 h2=>by have:=h1.2;have:=h2.1;omega)) (fun b h1 h2=>by
      have h3:=h1.2.1
      rcases h2 with h2 | h2
      · have:=h2.1;simp at this;omega
      · have:=h2.1;simp at hz1;omega)
     have g5:=g4.wide (S':=Rx w.heap.size w3.heap.size (.slice (some ⟨gg,0,none⟩) (k + 1) cap)) (fun b hb=>by
      rcases hb with hb | hb | hb
      · exact hp.1 b hb
      · exact hf1.1 b hb
      · exact hf2.1 b hb)
     exact ⟨k + 1,by omega,by go_num,⟨_,hown3,by rw [Fo.take_succ HD.out];exact g5⟩,st.out hB⟩
    case measure=>simp [intOf];omega
  · go_wp2_with fail
    go_ret
    obtain rfl:k = y.len:=by omega
    obtain ⟨aa,ca,rfl,_,_⟩:=(SlC.of_owns hown).shape
    rw [Fo.take_len] at hfc
    exact ⟨aa,ca,rfl,⟨_,qp_ hown (fun g hg=>Nat.zero_le _),fun g hg=>hown.lt g hg,hfc.wide fun b hb=>⟨⟨hb.1,hb.2.1⟩,hb.2.2⟩⟩,hB⟩
end Go.Proofs.LF