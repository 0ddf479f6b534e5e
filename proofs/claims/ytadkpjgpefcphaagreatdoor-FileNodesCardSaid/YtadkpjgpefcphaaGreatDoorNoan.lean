/- Parts of the proof of a law of layer 11 (file): LfW38, LfW32, LfW28, LfW21, LfW90, LfPut, LfW33, LfW22a. The conditions stand in each theorem. -/
import Derived.Shelf.SlSortCmp.NoneTotal
import Derived.Test.YtadkpjgpefcphaaGreatDoorProg
import Derived.Test.YtadkpjgpefcphaaGreatDoorNoaa
import Derived.Test.YtadkpjgpefcphaaGreatDoorNoab
import Derived.Test.YtadkpjgpefcphaaGreatDoorNoac
import Derived.Test.YtadkpjgpefcphaaGreatDoorNoad
import Derived.Test.YtadkpjgpefcphaaGreatDoorNoah
import Derived.Test.YtadkpjgpefcphaaGreatDoorNoal
import Derived.Test.YtadkpjgpefcphaaGreatDoorNoam
set_option linter.all false
set_option linter.unusedVariables false
set_option linter.unusedSimpArgs false
namespace Go.Proofs.LF
open Go.RowKit Go.Sort
set_option maxHeartbeats 4000000
set_option maxRecDepth 100000
attribute [local go_sem] bs_toList bs_size bs_get
theorem fstK_sm {k:Ky} {n:List UInt8} {l:List Int} {s:Fo}:∀ {y:Fo},y.Sm→fstK k y = some (n,l,s)→n.length ≤ 1000∧l.length ≤ 1000∧s.len ≤ 1000∧s.Sm
 | .nil,_,h=>by cases h
 | .cons n' l' s' r,⟨h1,h2,h3,h4,h5⟩,h=>by
   simp only [fstK] at h
   split at h
   · cases h;exact ⟨h1,h2,h3,h4⟩
   · exact fstK_sm h5 h
theorem atF_sm {n:List UInt8} {l:List Int} {s:Fo}:∀ {p:List Ky} {y:Fo},y.Sm→atF y p = some (n,l,s)→n.length ≤ 1000∧l.length ≤ 1000∧s.len ≤ 1000∧s.Sm
 | [],y,_,h=>by cases y <;> cases h
 | k :: r,y,hy,h=>by
   have e:atF y (k :: r) = match fstK k y with | none=>none | some x=>if r = [] then some x else atF x.2.2 r:=by cases y <;> rfl
   rw [e] at h
   cases hk:fstK k y with
   | none=>rw [hk] at h;cases h
   | some x=>
     rw [hk] at h
     obtain ⟨n',l',s'⟩:=x
     simp only at h
     split at h
     · cases h;exact fstK_sm hy hk
     · exact atF_sm (fstK_sm hy hk).2.2.2 h
theorem fstK_cnt {k:Ky} {n:List UInt8} {l:List Int} {s:Fo}:∀ {y:Fo},fstK k y = some (n,l,s)→s.cnt < y.cnt
 | .nil,h=>by cases h
 | .cons n' l' s' r,h=>by
   simp only [fstK] at h
   split at h
   · cases h;simp only [Fo.cnt];omega
   · have:=fstK_cnt h;simp only [Fo.cnt];omega
theorem one_node {S:Nat→Prop} {w:World} {b:Nat} {n:List UInt8} {l:List Int} {s:Fo} {vn vs:Value} {t:TypeId} {fr:Nat × Nat} (hb:w.heap[b]? = some (.cells #[.string (bs n),vn,vs] t fr)) (h1:Ints S w vn l) (h2:FSl S w vs s) :
 FSl (fun x=>S x ∨ x = b) w (.slice (some ⟨b,0,none⟩) 1 1) (.cons n l s .nil):=by
 obtain ⟨ds,h3,h4⟩:=h2
 refine ⟨[.string (bs n),vn,vs],⟨by rfl,some ⟨b,0,none⟩,1,rfl,nl_ _,by simp [maxLen],(fun h=>by cases h), .inr ⟨b,0,rfl, .inr rfl,fun j u hj=>?_⟩⟩,vn,vs,[],rfl,h1.wide (fun _ h => .inl h),⟨ds,h3.wide (fun _ h => .inl h),h4.wide (fun _ h => .inl h)⟩,rfl⟩
 rw [Nat.zero_add]
 simp only [World.cell?,hb]
 simpa using hj
def getE (y:Fo) (p:List Ky):Int:=if chkY y ≠ 0 then chkY y else if (atF y p).isSome then 0 else 1
def getN (y:Fo) (p:List Ky):List UInt8 × List Int × Fo:=if getE y p = 0 then (atF y p).getD ([],[], .nil) else ([],[], .nil)
theorem ret56 {tmps:Array Value} {W:World} {b:Nat} {x y z t5:Value} (h:W.heap[b]? = some (.cells #[x,y,z] 85 (0,0))) (h2:tmps.getD 4 undef = .pointer (some ⟨b,0,none⟩)) (h3:tmps.getD 5 undef = t5) :
 (results Tryz.f56 tmps).run Tryz.prog W = .ok (.tuple #[.agg #[x,y,z],t5]) W:=by
 have h0:=cg_ h (k:=0) rfl
 have h1:=cg_ h (k:=1) rfl
 have h4:=cg_ h (k:=2) rfl
 rw [results_cell_tmp rfl,h2,h3]
 simp [go_sem,h0,h1,h4]
theorem below_set3 {lo b:Nat} {w W:World} {x y z:Value} (h:Below lo w W) (hb:lo ≤ b):Below lo w (((W.setCell ⟨b,0,none⟩ x).setCell ⟨b,1,none⟩ y).setCell ⟨b,2,none⟩ z):=
 Below.setCell (Below.setCell (Below.setCell h (p:=⟨b,0,none⟩) hb _) (p:=⟨b,1,none⟩) hb _) (p:=⟨b,2,none⟩) hb _
def GetR (y:Fo) (p:List Ky) (w:World) (e:Ending) (w':World):Prop:=
 ∃ n l s an cn ab cb,getN y p = (n,l,s)∧e = .returned (.tuple #[.agg #[.string (bs n), .slice an l.length cn, .slice ab s.len cb], .int .i64 (getE y p)]) ∧
  Ints (Rg w.heap.size w'.heap.size) w' (.slice an l.length cn) l∧FSl (Rg w.heap.size w'.heap.size) w' (.slice ab s.len cb) s∧Below w.heap.size w w'
def GetU (y:Fo) (p:List Ky) (w:World) (e:Ending) (w':World):Prop:=
 ∃ n l s an cn ab cb,getN y p = (n,l,s)∧e = .returned (.tuple #[.agg #[.string (bs n), .slice an l.length cn, .slice ab s.len cb], .int .i64 (getE y p)]) ∧
  IntU (Rg w.heap.size w'.heap.size) w' (.slice an l.length cn) l∧FSlU (Rg w.heap.size w'.heap.size) w' (.slice ab s.len cb) s∧Below w.heap.size w w'
theorem GetU.getR {y:Fo} {p:List Ky} {w w':World} {e:Ending} (h:GetU y p w e w'):GetR y p w e w':=
 let ⟨n,l,s,an,cn,ab,cb,h1,h2,h3,h4,h5⟩:=h
 ⟨n,l,s,an,cn,ab,cb,h1,h2,Ints.wide h3 (fun _ hb=>hb.1),FSlU.fsl h4,h5⟩
theorem GetU.bad {y:Fo} {p:List Ky} {w w':World} {x:Int} (hx:getE y p = x) (h0:x ≠ 0) (hb:Below w.heap.size w w'):GetU y p w (.returned (.tuple #[.agg #[.string { data:=#[] }, .slice none 0 0, .slice none 0 0], .int .i64 x])) w':=by
 subst hx
 exact ⟨[],[], .nil,none,0,none,0,by simp [getN,h0],rfl,⟨rfl,_,0,rfl,nl_ _,by simp [maxLen],fun _=>rfl, .inl rfl⟩,⟨[],⟨rfl,_,0,rfl,nl_ _,by simp [maxLen],fun _=>rfl, .inl rfl⟩,rfl⟩,hb⟩
theorem own_one (n:List UInt8) (l:List Int) (s:Fo) (vn vs:Value) (b:Nat) (t:TypeId) (fr:Nat × Nat) (S:Nat→Prop) (W:World) (hb:W.heap[b]? = some (.cells #[.string (bs n),vn,vs] t fr)) (h1:Ints S W vn l) (h2:FSl S W vs s)
 (hS:∀ b,S b→b < W.heap.size) (s1:n.length ≤ 1000) (s2:l.length ≤ 1000) (s3:s.len ≤ 1000) (s4:s.Sm) :
 Calls Tryz.prog 133 #[.slice (some ⟨b,0,none⟩) 1 1] W fun e w'=>∃ g o c an cn ab cb,e = .returned (.slice (some ⟨g,o,none⟩) 1 c)∧1 ≤ c∧W.heap.size ≤ g∧w'.cell? ⟨g,o,none⟩ = some (.string (bs n))∧w'.cell? ⟨g,o + 1,none⟩ = some (.slice an l.length cn)∧w'.cell? ⟨g,o + 2,none⟩ = some (.slice ab s.len cb) ∧
  IntU (Rg W.heap.size w'.heap.size) w' (.slice an l.length cn) l∧FSlU (Rg W.heap.size w'.heap.size) w' (.slice ab s.len cb) s∧Below W.heap.size W w':=by
 have hlt:b < W.heap.size:=(Array.getElem?_eq_some_iff.1 hb).1
 refine (own_any _ (.cons n l s .nil) (some ⟨b,0,none⟩) 1 (fun x=>S x ∨ x = b) W (Nat.lt_succ_self _) (one_node hb h1 h2) (fun x hx=>hx.elim (hS x) (fun h=>by omega)) (by simp [Fo.len]) ⟨s1,s2,s3,s4,trivial⟩).mono ?_
 rintro e w' ⟨a,c,rfl,hF,hbel⟩
 obtain ⟨a',c',he,hc1,_,hat⟩:=FSl.at hF.fslu
 cases he
 obtain ⟨g,o,n',l',s',r',an,cn,ab,cb,rfl,hg,hd,m0,m1,m2,hI,hFs⟩:=hat 0 (by simp [Fo.len])
 simp only [Fo.drop,Fo.cons.injEq] at hd
 obtain ⟨rfl,rfl,rfl,rfl⟩:=hd
 simp only [Nat.zero_mul,Nat.add_zero] at m0 m1 m2
 exact ⟨g,o,c,an,cn,ab,cb,rfl,hc1,hg.1.1,m0,m1,m2,hI,hFs,hbel⟩
theorem Get_u (y:Fo) (p:List Ky) (ay ap:Option Addr) (cy cp:Nat) (S T:Nat→Prop) (w:World) (hv:FSl S w (.slice ay y.len cy) y) (hS:∀ b,S b→b < w.heap.size) (hp:Pth T w (.slice ap p.length cp) p) (hT:∀ b,T b→b < w.heap.size)
 (hlen:y.len ≤ 1000) (hsm:y.Sm) (hcnt:y.cnt ≤ 900) (lp:p.length ≤ 1000) :
 Calls Tryz.prog 56 #[.slice ay y.len cy, .slice ap p.length cp] w (GetU y p w):=by
 have hb0:Below w.heap.size w (w.alloc (.cells #[.string { data:=#[] }, .slice none 0 0, .slice none 0 0] 85)):=(Below.refl _ _).alloc (nl_ _) _
 have hR0:=hid (heap_alloc_new w (.cells #[.string { data:=#[] }, .slice none 0 0, .slice none 0 0] 85))
 have HC:=hid (Check_any y ay cy S _ (hv.agree (Ag_b hb0 hS)) (fun b hb=>by have:=hS b hb;simp;omega) hlen hsm hcnt)
 have HB0:=hid hb0
 have HV:=hid hv
 have HP:=hid hp
 have HS:=hid hS
 have HT:=hid hT
 have HSM:=hid hsm
 clear hb0 hv hp hS hT hsm
 by_cases hc:chkY y = 0
 · go_enter Tryz.func56,Tryz.ntmps56
   go_wp2_with fail
   refine HC.out.mono ?_
   rintro e w1 ⟨rfl,hb1⟩
   have hB1:=HB0.out.trans (hb1.mono (by simp))
   have hR1:=hid ((hb1.block w.heap.size (by simp)).trans hR0.out)
   have hsz1:=hb1.size
   simp only [World.size_alloc] at hsz1
   have HA:=hid (at_any y p ay ap cy cp S T w1 (HV.out.agree (Ag_b hB1 HS.out)) (fun b hb=>by have:=HS.out b hb;omega) (HP.out.agree (Ag_b hB1 HT.out)) (fun b hb=>by have:=HT.out b hb;omega) hlen HSM.out lp)
   rw [hc]
   have HB1:=hid hB1
   clear hb1 hB1
   go_wp2_with fail
   refine HA.out.mono ?_
   rintro e w2 ⟨n,l,s,an,cn,ab,cb,hat,rfl,hI,hF,hb2⟩
   have hB2:=HB1.out.trans (hb2.mono (by omega))
   have hR2:=hid ((hb2.block w.heap.size (by omega)).trans hR1.out)
   have hsz2:=hb2.size
   have q0:=cg_ hR2.out (k:=0) rfl
   have q1:=cg_ hR2.out (k:=1) rfl
   have q2:=cg_ hR2.out (k:=2) rfl
   have f0:=cells_frz hR2.out (k:=0)
   have f1:=cells_frz hR2.out (k:=1)
   have f2:=cells_frz hR2.out (k:=2)
   have hlt2:w.heap.size < w2.heap.size:=by omega
   have hne2:w.heap.size ≠ w2.heap.size:=by omega
   have HI:=hid hI
   have HF:=hid hF
   have HB2:=hid hB2
   clear hI hF hb2 hB2
   cases hat':atF y p with
   | none=>
     have hE:=hid (show getE y p = 1 by simp [getE,hc,hat'])
     clear hat
     go_wp2_with fail
     refine bodyPost_ret (v := .tuple #[.agg #[.string { data:=#[] }, .slice none 0 0, .slice none 0 0], .int .i64 1]) (ret56 ((heap_alloc_old _ _ (by simpa using hlt2)).trans (node_set hR2.out)) rfl rfl) rfl ?_
     exact GetU.bad hE.out (by decide) ((below_set3 HB2.out (nl_ _)).alloc (by simp;omega) _)
   | some x=>
     have hE:=hid (show getE y p = 0 by simp [getE,hc,hat'])
     obtain rfl:x = (n,l,s):=by rw [hat'] at hat;exact hat
     have hG:=hid (show getN y p = (n,l,s) by simp [getN,hE.out,hat'])
     obtain ⟨s1,s2,s3,s4⟩:=atF_sm HSM.out hat'
     clear hat hat'
     go_wp2_with fail
     have hBw:Below w.heap.size w ((w2.alloc (.cells #[.string (bs n), .slice an l.length cn, .slice ab s.len cb] 85)).alloc (.cells #[.string (bs n), .slice an l.length cn, .slice ab s.len cb] 85)):=(HB2.out.alloc (by omega) _).alloc (by simp;omega) _
     have hag:Agree S w2 ((w2.alloc (.cells #[.string (bs n), .slice an l.length cn, .slice ab s.len cb] 85)).alloc (.cells #[.string (bs n), .slice an l.length cn, .slice ab s.len cb] 85)):=Ag_b (((Below.refl w2.heap.size w2).alloc (nl_ _) _).alloc (by simp) _) (fun b hb=>by have:=HS.out b hb;omega)
     have hnb:=heap_alloc_new (w2.alloc (.cells #[.string (bs n), .slice an l.length cn, .slice ab s.len cb] 85)) (.cells #[.string (bs n), .slice an l.length cn, .slice ab s.len cb] 85)
     rw [World.size_alloc] at hnb
     refine (own_one n l s _ _ _ _ _ S _ hnb (HI.out.agree hag) (HF.out.agree hag) (fun b hb=>by have:=HS.out b hb;simp;omega) s1 s2 s3 s4).mono ?_
     rintro e w3 ⟨g3,o3,c3,an3,cn3,ab3,cb3,rfl,hc3,hg3,m0,m1,m2,hI3,hF3,hb3⟩
     have hB3:=hBw.trans (hb3.mono (by simp;omega))
     have hR3:w3.heap[w.heap.size]? = _:=(hb3.block w.heap.size (by simp;omega)).trans ((heap_alloc_old _ _ (by simp;omega)).trans ((heap_alloc_old _ _ (by omega)).trans hR2.out))
     have e0:=cg_ hR3 (k:=0) rfl
     have e1:=cg_ hR3 (k:=1) rfl
     have e2:=cg_ hR3 (k:=2) rfl
     have p0:=cells_frz hR3 (k:=0)
     have p1:=cells_frz hR3 (k:=1)
     have p2:=cells_frz hR3 (k:=2)
     have hst:Agree (Rg ((w2.alloc (.cells #[.string (bs n), .slice an l.length cn, .slice ab s.len cb] 85)).alloc (.cells #[.string (bs n), .slice an l.length cn, .slice ab s.len cb] 85)).heap.size w3.heap.size) w3 (((w3.setCell ⟨w.heap.size,0,none⟩ (.string (bs n))).setCell ⟨w.heap.size,1,none⟩ (.slice an3 l.length cn3)).setCell ⟨w.heap.size,2,none⟩ (.slice ab3 s.len cb3)):=fun b hb=>by
      have h1:=hb.1
      simp only [World.size_alloc] at h1
      have hn:b ≠ w.heap.size:=by omega
      rw [Below.heap_setCell _ _ _ _ hn,Below.heap_setCell _ _ _ _ hn,Below.heap_setCell _ _ _ _ hn]
     have HI3:=hid (IntU.agree hI3 hst)
     have HF3:=hid (FSlU.agree hF3 hst)
     have hR3':=hid hR3
     have HB3:=hid hB3
     clear hI3 hF3 hst hR3 hBw hag hnb hB3
     go_wp2_with fail
     refine bodyPost_ret (v := .tuple #[.agg #[.string (bs n), .slice an3 l.length cn3, .slice ab3 s.len cb3], .int .i64 0]) (ret56 (node_set hR3'.out) rfl rfl) rfl ?_
     refine ⟨n,l,s,an3,cn3,ab3,cb3,hG.out,by rw [hE.out],?_,?_,below_set3 HB3.out (nl_ _)⟩
     · exact IntU.wide HI3.out (fun b hb=>⟨by have:=hb.1;simp at this;omega,by simpa using hb.2⟩)
     · exact FSlU.wide HF3.out (fun b hb=>⟨by have:=hb.1;simp at this;omega,by simpa using hb.2⟩)
 · go_enter Tryz.func56,Tryz.ntmps56
   go_wp2_with fail
   refine HC.out.mono ?_
   rintro e w1 ⟨rfl,hb1⟩
   have hB1:=HB0.out.trans (hb1.mono (by simp))
   have hR1:=(hb1.block w.heap.size (by simp)).trans hR0.out
   have q0:=cg_ hR1 (k:=0) rfl
   have q1:=cg_ hR1 (k:=1) rfl
   have q2:=cg_ hR1 (k:=2) rfl
   have f0:=cells_frz hR1 (k:=0)
   have f1:=cells_frz hR1 (k:=1)
   have f2:=cells_frz hR1 (k:=2)
   have hsz1:=hb1.size
   simp only [World.size_alloc] at hsz1
   have hb:(chkY y == 0) = false:=by simpa using hc
   go_wp2_with fail
   refine bodyPost_ret (v := .tuple #[.agg #[.string { data:=#[] }, .slice none 0 0, .slice none 0 0], .int .i64 (chkY y)]) (ret56 (node_set hR1) rfl rfl) rfl ?_
   exact GetU.bad (by simp [getE,hc]) hc (below_set3 hB1 (nl_ _))
theorem Get_any (y:Fo) (p:List Ky) (ay ap:Option Addr) (cy cp:Nat) (S T:Nat→Prop) (w:World) (hv:FSl S w (.slice ay y.len cy) y) (hS:∀ b,S b→b < w.heap.size) (hp:Pth T w (.slice ap p.length cp) p) (hT:∀ b,T b→b < w.heap.size)
 (hlen:y.len ≤ 1000) (hsm:y.Sm) (hcnt:y.cnt ≤ 900) (lp:p.length ≤ 1000) :
 Calls Tryz.prog 56 #[.slice ay y.len cy, .slice ap p.length cp] w (GetR y p w):=
 (Get_u y p ay ap cy cp S T w hv hS hp hT hlen hsm hcnt lp).mono fun _ _ h=>h.getR
end Go.Proofs.LF
namespace Go.Proofs
def Tryz.laysSort_ren:Go.Shelf.Ren:=⟨fun | 6=>121 | 15=>199 | 14=>198 | 28=>237 | 29=>238 | 20=>229 | 21=>230 | 22=>231 | 23=>232 | 24=>233 | 25=>234 | 26=>235 | 27=>236 | 46=>275 | 47=>276 | 48=>277 | 49=>278 | 50=>279 | 57=>299 | n=>n,fun | 22=>49 | 24=>65 | 25=>175 | 3=>3 | 39=>240 | 0=>0 | 53=>201 | 55=>278 | 4=>4 | 46=>292 | 45=>291 | 50=>265 | 5=>5 | 9=>9 | 66=>325 | 70=>329 | 76=>344 | 77=>345 | n=>n,fun | n=>n⟩
theorem Tryz.laysSort:Go.Proofs.SlLaysF.n6 Tryz.prog Tryz.laysSort_ren:={
 mixed:=by kernel_rfl
 f6:=⟨Tryz.f121.name,by decide,Tryz.func121.trans (congrArg some (by kernel_rfl))⟩
 f14:=⟨Tryz.f198.name,by decide,Tryz.func198.trans (congrArg some (by kernel_rfl))⟩
 f15:=Tryz.func199.trans (congrArg some (by kernel_rfl))
 f20:=⟨Tryz.f229.name,by decide,Tryz.func229.trans (congrArg some (by kernel_rfl))⟩
 f21:=⟨Tryz.f230.name,by decide,Tryz.func230.trans (congrArg some (by kernel_rfl))⟩
 f22:=⟨Tryz.f231.name,by decide,Tryz.func231.trans (congrArg some (by kernel_rfl))⟩
 f23:=⟨Tryz.f232.name,by decide,Tryz.func232.trans (congrArg some (by kernel_rfl))⟩
 f24:=⟨Tryz.f233.name,by decide,Tryz.func233.trans (congrArg some (by kernel_rfl))⟩
 f25:=⟨Tryz.f234.name,by decide,Tryz.func234.trans (congrArg some (by kernel_rfl))⟩
 f26:=⟨Tryz.f235.name,by decide,Tryz.func235.trans (congrArg some (by kernel_rfl))⟩
 f27:=⟨Tryz.f236.name,by decide,Tryz.func236.trans (congrArg some (by kernel_rfl))⟩
 f28:=Tryz.func237.trans (congrArg some (by kernel_rfl))
 f29:=Tryz.func238.trans (congrArg some (by kernel_rfl))
 f46:=⟨Tryz.f275.name,by decide,Tryz.func275.trans (congrArg some (by kernel_rfl))⟩
 f47:=Tryz.func276.trans (congrArg some (by kernel_rfl))
 f48:=Tryz.func277.trans (congrArg some (by kernel_rfl))
 f49:=⟨Tryz.f278.name,by decide,Tryz.func278.trans (congrArg some (by kernel_rfl))⟩
 f50:=⟨Tryz.f279.name,by decide,Tryz.func279.trans (congrArg some (by kernel_rfl))⟩
 f57:=⟨Tryz.f299.name,by decide,Tryz.func299.trans (congrArg some (by kernel_rfl))⟩
 t0:=Tryz.underlying0
 a0:=Tryz.isAgg0
 z0:=Tryz.sizeOf0
 v0:=Tryz.zeroValue0
 t3:=Tryz.underlying3
 a3:=Tryz.isAgg3
 z3:=Tryz.sizeOf3
 v3:=Tryz.zeroValue3
 t4:=Tryz.underlying4
 a4:=Tryz.isAgg4
 z4:=Tryz.sizeOf4
 v4:=Tryz.zeroValue4
 t5:=Tryz.underlying5
 a5:=Tryz.isAgg5
 z5:=Tryz.sizeOf5
 v5:=Tryz.zeroValue5
 t9:=Tryz.underlying9
 a9:=Tryz.isAgg9
 z9:=Tryz.sizeOf9
 v9:=Tryz.zeroValue9
 t22:=Tryz.underlying49
 a22:=Tryz.isAgg49
 z22:=Tryz.sizeOf49
 v22:=Tryz.zeroValue49
 a24:=Tryz.isAgg65
 z24:=Tryz.sizeOf65
 t25:=Tryz.underlying175
 a25:=Tryz.isAgg175
 z25:=Tryz.sizeOf175
 v25:=Tryz.zeroValue175
 t39:=Tryz.underlying240
 a39:=Tryz.isAgg240
 z39:=Tryz.sizeOf240
 v39:=Tryz.zeroValue240
 t45:=Tryz.underlying291
 a45:=Tryz.isAgg291
 z45:=Tryz.sizeOf291
 v45:=Tryz.zeroValue291
 t46:=Tryz.underlying292
 a46:=Tryz.isAgg292
 z46:=Tryz.sizeOf292
 v46:=Tryz.zeroValue292
 t50:=Tryz.underlying265
 a50:=Tryz.isAgg265
 z50:=Tryz.sizeOf265
 v50:=Tryz.zeroValue265
 t53:=Tryz.underlying201
 a53:=Tryz.isAgg201
 z53:=Tryz.sizeOf201
 v53:=Tryz.zeroValue201
 t55:=Tryz.underlying278
 a55:=Tryz.isAgg278
 z55:=Tryz.sizeOf278
 v55:=Tryz.zeroValue278
 t66:=Tryz.underlying325
 a66:=Tryz.isAgg325
 z66:=Tryz.sizeOf325
 v66:=Tryz.zeroValue325
 t70:=Tryz.underlying329
 a70:=Tryz.isAgg329
 z70:=Tryz.sizeOf329
 v70:=Tryz.zeroValue329
 t76:=Tryz.underlying344
 a76:=Tryz.isAgg344
 z76:=Tryz.sizeOf344
 v76:=Tryz.zeroValue344
 t77:=Tryz.underlying345
 a77:=Tryz.isAgg345
 z77:=Tryz.sizeOf345
 v77:=Tryz.zeroValue345 }
namespace LF
open Go.RowKit Go.Sort
set_option maxHeartbeats 4000000
set_option maxRecDepth 100000
structure PV where
 v:Value
 p:List Ky
 deriving Inhabited
theorem swoP {α:Type} (f:α→List Ky):SWO (ltOf (fun x y:α=>cmpP (f x) (f y))) where
 irrefl x:=by simp [ltOf,cmpP_ord.refl]
 trans x y z h1 h2:=by simp only [ltOf,decide_eq_true_eq] at *;exact cmpP_ord.trans h1 h2
 ntrans x y z h1 h2:=by
  simp only [ltOf,decide_eq_false_iff_not] at *
  intro h
  rcases Int.lt_trichotomy (cmpP (f x) (f y)) 0 with h3 | h3 | h3
  · exact h1 h3
  · rw [cmpP_ord.eq h3] at h;exact h2 h
  · have h4:=cmpP_ord.flop h3
    exact h2 (cmpP_ord.trans h4 h)
theorem sortW_block {α:Type} [Inhabited α] {enc:α→Value} {w:World} {g n b:Nat} {os:Array Obj} {d:Array α} (hb:b < w.heap.size) (hne:b ≠ g):(sortWorld enc w g 0 n d os).heap[b]? = w.heap[b]?:=by
 unfold sortWorld
 rw [heap_grow_old _ _ (by simpa using hb)]
 have:g ≠ b:=fun e=>hne e.symm
 simp [putRow,mapBlock,Sort.ahead,Array.getElem?_modify,this]
theorem sortW_grown {α:Type} [Inhabited α] {enc:α→Value} {w:World} {g n:Nat} {os:Array Obj} (d:Array α):w.grownBy (sortWorld enc w g 0 n d os) (some g):=
 ⟨rfl,rfl,rfl,by unfold sortWorld;simp,fun k hk hne=>sortW_block hk (fun e=>hne (by rw [e]))⟩
theorem sortW_row {α:Type} [Inhabited α] {enc:α→Value} {w:World} {g n:Nat} {os:Array Obj} {d:Array α} {cur:Array Value} {e:TypeId} (hb:w.heap[g]? = some (.cells cur e (0,0))):(sortWorld enc w g 0 n d os).heap[g]? = some (.cells (putCells enc 0 d cur) e (0,0)):=by
 have hg:g < w.heap.size:=(Array.getElem?_eq_some_iff.1 hb).1
 unfold sortWorld
 rw [heap_grow_old _ _ (by simpa using hg)]
 simp [putRow,mapBlock,Sort.ahead,Array.getElem?_modify,hb,onCells]
theorem take_putC {α:Type} [Inhabited α] (enc:α→Value) (cur:Array Value) (d:Array α) (h:d.size ≤ cur.size):(putCells enc 0 d cur).toList.take d.size = d.toList.map enc:=by
 apply List.ext_getElem?
 intro j
 by_cases hj:j < d.size
 · rw [List.getElem?_take_of_lt hj,Array.getElem?_toList]
   simp [putCells,hj,show j < cur.size by omega]
 · rw [List.getElem?_take_eq_none (by omega),List.getElem?_eq_none (by simp;omega)]
abbrev PVs (M:Nat→Prop) (w:World):={ x:PV // (∃ a c,x.v = .slice a x.p.length c)∧Pth M w x.v x.p∧x.p.length ≤ 1000 }
theorem pvs_of {M:Nat→Prop} {w:World}:∀ {ps:List (List Ky)} {cs:List Value},LCs rdPa M w ps cs→(∀ p ∈ ps,p.length ≤ 1000)→∃ ds:List (PVs M w),ds.map (·.1.v) = cs∧ds.map (·.1.p) = ps
 | [],_,h,_=>⟨[],by rw [show _ = [] from h];rfl,rfl⟩
 | p :: ps,_,⟨c,es,h1,⟨ap,cp,h2,h3⟩,h4⟩,hl=>by
   obtain ⟨ds,hd1,hd2⟩:=pvs_of h4 (fun q hq=>hl q (by simp [hq]))
   exact ⟨⟨⟨.slice ap p.length cp,p⟩,⟨ap,cp,rfl⟩,h3,hl p (by simp)⟩ :: ds,by rw [h1,h2,← hd1];rfl,by simp [hd2]⟩
theorem pvs_to {M:Nat→Prop} {w:World}:∀ (ds:List (PVs M w)),LCs rdPa M w (ds.map (·.1.p)) (ds.map (·.1.v))
 | []=>rfl
 | x :: ds=>by
   obtain ⟨a,c,h⟩:=x.2.1
   refine ⟨[x.1.v],ds.map (·.1.v),rfl,⟨a,c,by rw [h],?_⟩,pvs_to ds⟩
   have:=x.2.2.1
   rwa [h] at this
theorem enters103 (args:Array Value) (w:World):(callFunc 103 args).run Tryz.prog w = .ok (.enter 103 args) w:=by simp [go_sem]
theorem sort_any (ps:List (List Ky)) (v:Value) (B:Nat) (cs:List Value) (M:Nat→Prop) (w:World) (hown:w.ownsRow B 65 1 v ps.length cs) (hlc:LCs rdPa M w ps cs) (hM:∀ b,M b→b < w.heap.size∧v.ownBlock ≠ some b) (hps:∀ p ∈ ps,p.length ≤ 1000) (hl:ps.length ≤ 100000) :
 Calls Tryz.prog 121 #[v, .func (.func 103) #[] #[]] w fun e w'=>e = .returned (.tuple #[])∧∃ cs',w'.ownsRow B 65 1 v ps.length cs'∧LCs rdPa M w' (srtP ps) cs'∧w.grownBy w' v.ownBlock:=by
 by_cases h0:ps.length = 0
 · obtain rfl:=List.eq_nil_of_length_eq_zero h0
   obtain ⟨a,c,rfl,_,_⟩:=owns_shape hown
   refine (AnyF.slices_SortFunc_none (L:={ Tryz.laysSort with }) a c (.func (.func 103) #[] #[]) w).mono ?_
   rintro e w' ⟨rfl,rfl⟩
   exact ⟨rfl,cs,hown,by simpa [srtP] using hlc,World.grownBy.refl _ _⟩
 · obtain ⟨h1,⟨rfl,h2⟩ | ⟨g,cap,cur,rfl,hbg,hgg,hn,hcap,hsz,htk⟩⟩:=hown
   · exact absurd h2 h0
   · obtain ⟨ds,hd1,hd2⟩:=pvs_of hlc hps
     have hdl:ds.length = ps.length:=by rw [← hd2];simp
     have hgl:g < w.heap.size:=(Array.getElem?_eq_some_iff.1 hgg).1
     haveI:Inhabited (PVs M w):=⟨ds[0]'(by omega)⟩
     have hMg:∀ b,M b→b ≠ g:=fun b hb e=>(hM b hb).2 (by simp [Value.ownBlock,e])
     have hH:Holds (fun x:PVs M w=>x.1.v) w g 0 ds.toArray:=by
      intro j hj
      have hj':j < ds.length:=by simpa using hj
      have e1:cs[j]? = some (ds[j]).1.v:=by rw [← hd1];simp [hj']
      rw [← htk,Nat.mul_one,List.getElem?_take] at e1
      rw [if_pos (by omega)] at e1
      refine ⟨?_,by simp [World.frozen?,hgg]⟩
      simp only [World.cell?,hgg,Nat.zero_add]
      rw [← Array.getElem?_toList,e1]
      simp [hj']
     have hag:∀ m os (dk:Array (PVs M w)),Agree M w (sortWorld (fun x:PVs M w=>x.1.v) w g 0 m dk os):=fun m os dk b hb=>sortW_block (hM b hb).1 (hMg b hb)
     have hcmp:CmpLays1 Tryz.prog 103 #[] (fun x:PVs M w=>x.1.v) (fun x y=>cmpP x.1.p y.1.p) g 0 ds.toArray.size w:=by
      intro m os dk hs x y
      obtain ⟨ax,cx,hx⟩:=x.2.1
      obtain ⟨ay,cy,hy⟩:=y.2.1
      have hpx:=x.2.2.1
      have hpy:=y.2.2.1
      have:=byPath_g x.1.p y.1.p ax ay cx cy M (sortWorld (fun x:PVs M w=>x.1.v) w g 0 m dk os) ((by rw [← hx];exact hpx.agree (hag m os dk))) ((by rw [← hy];exact hpy.agree (hag m os dk))) (fun b hb=>by have h9:=(sortW_grown (enc:=fun x:PVs M w=>x.1.v) (w:=w) (g:=g) (n:=m) (os:=os) dk).size;have:=(hM b hb).1;omega) x.2.2.2 y.2.2.2
      simp only [hx,hy]
      simpa [Grw] using this
     have hcon:=Any.slices_SortFunc Tryz.laysSort (fun x:PVs M w=>x.1.v) (fun x=>by obtain ⟨a,c,h⟩:=x.2.1;show x.1.v.oneCell' = true;rw [h];rfl) (fun x y=>cmpP x.1.p y.1.p) (swoP fun x:PVs M w=>x.1.p) 103 #[] g 0 cap ds.toArray w enters103 hcmp hH hgl (by simp;omega)
     have e1:ds.toArray.size = ps.length:=by simpa using hdl
     rw [e1] at hcon
     refine hcon.mono ?_
     rintro e w' ⟨rfl,d',n,os,⟨hp1,_,hp3⟩,hs,rfl⟩
     have hps':(d'.toList.map (·.1.p)).Perm ps:=by
      have h3:d'.toList.Perm ds:=by
       have:=hp3
       rw [← e1] at this
       rw [Array.extract_eq_self_of_le (by omega),Array.extract_eq_self_of_le (by omega)] at this
       simpa using this
      rw [← hd2]
      exact h3.map _
     have hd's:d'.size = ps.length:=by rw [hp1,e1]
     have hsorted:(d'.toList.map (·.1.p)).Pairwise (fun a b=>cmpP a b ≤ 0):=by
      rw [List.pairwise_map,List.pairwise_iff_getElem]
      intro i j hi hj hij
      have hi':i < d'.size:=by simpa using hi
      have hj':j < d'.size:=by simpa using hj
      have:=hs i j (Nat.zero_le _) hij (by omega)
      simp only [ltOf,decide_eq_false_iff_not] at this
      rw [getElem!_pos d' j hj',getElem!_pos d' i hi'] at this
      simp only [Array.getElem_toList]
      rcases Int.lt_trichotomy (cmpP d'[i].1.p d'[j].1.p) 0 with h | h | h
      · omega
      · omega
      · exact absurd (cmpP_ord.flop h) this
     have hsrt:=srtP_of hps' hsorted
     refine ⟨rfl,d'.toList.map (·.1.v),⟨by simp [hd's], .inr ⟨g,cap,_,rfl,hbg,sortW_row hgg,hn,hcap,by simp [putCells,hsz],?_⟩⟩,?_,sortW_grown d'⟩
     · rw [Nat.mul_one,← hd's]
       exact take_putC _ _ _ (by omega)
     · rw [← hsrt]
       exact (pvs_to d'.toList).agree (hag n os d')
end LF
end Go.Proofs
namespace Go.Proofs.LF
open Go.RowKit Go.Sort
set_option maxHeartbeats 4000000
set_option maxRecDepth 100000
attribute [local go_sem] bs_toList bs_size bs_get
theorem cmpFl_any (p q:List Ky) (ap aq al:Option Addr) (cp cq nl cl:Nat) (S:Nat→Prop) (w:World) (hp:Pth S w (.slice ap p.length cp) p) (hq:Pth S w (.slice aq q.length cq) q) (hS:∀ b,S b→b < w.heap.size) (lp:p.length ≤ 1000) (lq:q.length ≤ 1000) :
 Calls Tryz.prog 197 #[.agg #[.slice ap p.length cp, .slice al nl cl], .slice aq q.length cq] w fun e w'=>e = .returned (.int .i64 (cmpP p q))∧Below w.heap.size w w':=by
 have hb:Below w.heap.size w (w.alloc (.cells #[.slice ap p.length cp, .slice al nl cl] 171)):=(Below.refl _ _).alloc (nl_ _) _
 have ha:=Ag_b hb hS
 have H:=hid (byPath_any p q ap aq cp cq S _ (hp.agree ha) (hq.agree ha) (fun b h=>by have:=hS b h;simp;omega) lp lq)
 have HB:=hid hb
 clear hb ha hp hq
 go_enter Tryz.func197,Tryz.ntmps197
 go_wp2_with fail
 refine H.out.mono ?_
 rintro e w1 ⟨rfl,hb1⟩
 have HB1:=hid (HB.out.trans (hb1.mono HB.out.size))
 go_wp2_with fail
 go_ret
 exact ⟨rfl,HB1.out⟩
theorem bsearch_any (l:List Fl) (p:List Ky) (al ap:Option Addr) (cl cp:Nat) (S T:Nat→Prop) (w:World) (hv:FlSl S w (.slice al l.length cl) l) (hS:∀ b,S b→b < w.heap.size) (hp:Pth T w (.slice ap p.length cp) p) (hT:∀ b,T b→b < w.heap.size)
 (hl:l.length ≤ 1000) (hsm:SmF l) (lp:p.length ≤ 1000) :
 Calls Tryz.prog 196 #[.slice al l.length cl, .slice ap p.length cp, .func (.func 197) #[] #[]] w fun e w'=>e = .returned (.tuple #[.int .i64 (fndI l p), .bool (decide (fndI l p < l.length) && decide (cmpP (l.getD (fndI l p) fl0).p p = 0))])∧Below w.heap.size w w':=by
 obtain ⟨a',c',he,hc,hcm,hat⟩:=hv.at
 obtain ⟨rfl,rfl⟩:al = a'∧cl = c':=by cases he;exact ⟨rfl,rfl⟩
 have HAT:=hid hat
 have HS:=hid hS
 have HT:=hid hT
 have HP:=hid hp
 have HSM:=hid hsm
 clear hat hS hT hp hsm he hv
 unfold maxLen at hcm
 have hcall:∀ (i:Nat) (hi:i < l.length) (W:World),Below w.heap.size w W→∃ g o ap2 cp2 an cn,al = some ⟨g,o,none⟩∧W.cell? ⟨g,o + i * 2,none⟩ = some (.slice ap2 l[i].p.length cp2)∧W.cell? ⟨g,o + i * 2 + 1,none⟩ = some (.slice an l[i].l.length cn) ∧
  Hid (Calls Tryz.prog 197 #[.agg #[.slice ap2 l[i].p.length cp2, .slice an l[i].l.length cn], .slice ap p.length cp] W fun e w'=>e = .returned (.int .i64 (cmpP l[i].p p))∧Below W.heap.size W w'):=by
  intro i hi W hB
  obtain ⟨g,o,cs1,rfl,hg,⟨ap2,cp2,an,cn,rfl,hP,hI⟩,hcell⟩:=HAT.out i hi
  have ha:Agree S w W:=Ag_b hB HS.out
  have c0:=ha.cell hg (hcell 0 _ rfl)
  have c1:=ha.cell hg (hcell 1 _ rfl)
  rw [Nat.add_zero] at c0
  rw [← Nat.add_assoc] at c1
  exact ⟨g,o,ap2,cp2,an,cn,rfl,c0,c1,cmpFl_any l[i].p p ap2 ap an cp2 cp _ cn (fun b=>S b ∨ T b) W ((hP.agree ha).wide fun b hb => .inl hb) ((HP.out.agree (Ag_b hB HT.out)).wide fun b hb => .inr hb)
   (fun b hb=>by have:=hB.size;rcases hb with hb | hb;have:=HS.out b hb;omega;have:=HT.out b hb;omega) (HSM.out _ (List.getElem_mem hi)).1 lp⟩
 have HC:=hid hcall
 clear hcall
 go_enter Tryz.func196,Tryz.ntmps196
 go_wp2_with fail
 go_loopw [9,10] (fun vi vj wr=>∃ i j:Nat,vi = .int .i64 i∧vj = .int .i64 j∧i ≤ j∧j ≤ l.length∧Hid (fndI l p = bsF (fun h=>decide (cmpP (l.getD h fl0).p p < 0)) i j)∧Below w.heap.size w wr) (fun vi vj _=>(intOf vj).toNat - (intOf vi).toNat)
 case atStart=>exact ⟨0,l.length,rfl,rfl,Nat.zero_le _,nl_ _,rfl,Below.refl _ _⟩
 case round=>
  obtain ⟨i,j,rfl,rfl,hij,hjl,hF,hB⟩:=hrel
  have hsz:=hB.size
  by_cases hlt:i < j
  · have hlt':(i:Int) < (j:Int):=by omega
    obtain ⟨h,hh⟩:∃ h,(i + j) / 2 = h:=⟨_,rfl⟩
    have hhi:((i:Int) + (j:Int)) / 2 = (h:Int):=by omega
    have hhl:h < l.length:=by omega
    have hb1:i ≤ h:=by omega
    have hb2:h < j:=by omega
    have hhl':(h:Int) < (l.length:Int):=by omega
    have hh0:(0:Int) ≤ (h:Int):=by omega
    obtain ⟨g,o,ap2,cp2,an,cn,rfl,c0,c1,H⟩:=HC.out h hhl wr hB
    have hF2:=hF.out
    rw [bsF_go hlt,hh] at hF2
    have hg:l.getD h fl0 = l[h]:=by simp [List.getD_eq_getElem?_getD,hhl]
    simp only [hg,decide_eq_true_eq] at hF2
    have HF:=hid hF2
    clear hF2 hg hh
    go_wp2_with fail
    refine H.out.mono ?_
    rintro e w2 ⟨rfl,hb3⟩
    have HB:=hid (hB.trans (hb3.mono hsz))
    clear hb3
    by_cases hneg:cmpP l[h].p p < 0
    · have hF3:=HF.out
      rw [if_pos hneg] at hF3
      have HF3:=hid hF3
      clear hF3
      go_wp2_with fail
      go_roundw
      case rel=>exact ⟨h + 1,j,by go_num,rfl,by omega,hjl,HF3.out,HB.out⟩
      case measure=>simp [intOf];omega
    · have hF3:=HF.out
      rw [if_neg hneg] at hF3
      have HF3:=hid hF3
      clear hF3
      go_wp2_with fail
      go_roundw
      case rel=>exact ⟨i,h,rfl,rfl,hb1,by omega,HF3.out,HB.out⟩
      case measure=>simp [intOf];omega
  · obtain rfl:i = j:=by omega
    have hlt':¬ (i:Int) < (i:Int):=by omega
    by_cases hil:i < l.length
    · have hil':(i:Int) < (l.length:Int):=by omega
      obtain ⟨g,o,ap2,cp2,an,cn,rfl,c0,c1,H⟩:=HC.out i hil wr hB
      have hF2:=hF.out
      rw [bsF_stop (by omega)] at hF2
      have HF:=hid hF2
      clear hF2
      go_wp2_with fail
      refine H.out.mono ?_
      rintro e w2 ⟨rfl,hb3⟩
      have HB:=hid (hB.trans (hb3.mono hsz))
      clear hb3
      have hfin:(decide (fndI l p < l.length) && decide (cmpP (l.getD (fndI l p) fl0).p p = 0)) = decide (cmpP l[i].p p = 0):=by
       rw [HF.out];simp [hil,List.getD_eq_getElem?_getD]
      have HFI:=hid hfin
      clear hfin
      by_cases hz:cmpP l[i].p p = 0
      · have hz':(cmpP l[i].p p == 0) = true:=by simp [hz]
        have hzd:decide (cmpP l[i].p p = 0) = true:=by simp [hz]
        have HZ:=hid hzd
        clear hz hzd
        go_wp2_with fail
        go_ret2
        exact ⟨by rw [HFI.out,HZ.out,HF.out];simp,HB.out⟩
      · have hz':(cmpP l[i].p p == 0) = false:=by simp [hz]
        have hzd:decide (cmpP l[i].p p = 0) = false:=by simp [hz]
        have HZ:=hid hzd
        clear hz hzd
        go_wp2_with fail
        go_ret2
        exact ⟨by rw [HFI.out,HZ.out,HF.out];simp,HB.out⟩
    · have hil':¬ (i:Int) < (l.length:Int):=by omega
      have hF2:=hF.out
      rw [bsF_stop (by omega)] at hF2
      have HF:=hid hF2
      clear hF2
      have hfin:(decide (fndI l p < l.length) && decide (cmpP (l.getD (fndI l p) fl0).p p = 0)) = false:=by
       rw [HF.out];simp [hil]
      have HFI:=hid hfin
      clear hfin
      go_wp2_with fail
      go_ret2
      exact ⟨by have h1:=HF.out;have h2:=HFI.out;rw [h1] at h2 ⊢;simp [hil],hB⟩
end Go.Proofs.LF
namespace Go.Proofs.LF
open Go.RowKit Go.Sort
set_option maxHeartbeats 4000000
set_option maxRecDepth 100000
attribute [local go_sem] bs_toList bs_size bs_get
def RunR (p:UInt8→Bool) (R:Nat) (t:List UInt8) (i most:Nat) (vs:List Value) (w:World) (e:Ending) (w':World):Prop:=
 ∃ s:List UInt8,e = .returned (.string (bs s))∧Hid (s = (t.drop i).take (runN p most (t.drop i)))∧Hid (s.length = runN p most (t.drop i))∧Hid (s.length ≤ most∧i + s.length ≤ t.length)∧Hid (Rdr R t (i + s.length) vs w')∧Hid (Keep (· = R) w w')
theorem RunR.of {p:UInt8→Bool} {R:Nat} {t:List UInt8} {i most:Nat} {vs:List Value} {w:World} {e:Ending} {w':World} (hi:i ≤ t.length)
 (h:e = .returned (.string (bs ((t.drop i).take (runN p most (t.drop i)))))∧Rdr R t (i + runN p most (t.drop i)) vs w'∧Keep (· = R) w w'):RunR p R t i most vs w e w':=by
 have hl:=runN_le (p:=p) (m:=most) (l:=t.drop i)
 have hs:((t.drop i).take (runN p most (t.drop i))).length = runN p most (t.drop i):=by rw [List.length_take];omega
 rw [List.length_drop] at hl
 exact ⟨_,h.1,rfl,hs,by rw [Hid,hs];omega,by rw [Hid,hs];exact h.2.1,h.2.2⟩
theorem blank_runs (R:Nat) (t:List UInt8) (i most:Nat) (vs:List Value) (w:World) (hr:Rdr R t i vs w) (ht:t.length ≤ 100000) (hi:i ≤ t.length) (hm:most ≤ 1000) :
 Calls Tryz.prog 184 #[.pointer (some ⟨R,0,none⟩), .func (.func 225) #[] #[], .int .i64 most] w (RunR blankB R t i most vs w):=
 (runA_any 225 enters225 blankB R t i most vs w hr ht hi hm fun c W=>isBlank_any c W).mono fun _ _ h=>RunR.of hi h
theorem small_runs (R:Nat) (t:List UInt8) (i most:Nat) (vs:List Value) (w:World) (hr:Rdr R t i vs w) (ht:t.length ≤ 100000) (hi:i ≤ t.length) (hm:most ≤ 1000) :
 Calls Tryz.prog 184 #[.pointer (some ⟨R,0,none⟩), .func (.func 187) #[.agg #[.int .u8 97, .int .u8 122]] #[], .int .i64 most] w (RunR smallB R t i most vs w):=
 (runB_any 97 122 smallB R t i most vs w hr ht hi hm fun c W=>has_any 97 122 c.toNat W).mono fun _ _ h=>RunR.of hi h
theorem digit_runs (R:Nat) (t:List UInt8) (i most:Nat) (vs:List Value) (w:World) (hr:Rdr R t i vs w) (ht:t.length ≤ 100000) (hi:i ≤ t.length) (hm:most ≤ 1000) :
 Calls Tryz.prog 184 #[.pointer (some ⟨R,0,none⟩), .func (.func 187) #[.agg #[.int .u8 48, .int .u8 57]] #[], .int .i64 most] w (RunR digitB R t i most vs w):=
 (runB_any 48 57 digitB R t i most vs w hr ht hi hm fun c W=>has_any 48 57 c.toNat W).mono fun _ _ h=>RunR.of hi h
end Go.Proofs.LF
namespace Go.Proofs.LF
open Go.RowKit Go.Sort
set_option maxHeartbeats 4000000
set_option maxRecDepth 100000
attribute [local go_sem] bs_toList bs_size bs_get
theorem key_elemV {p:List Ky} {i:Nat} (hi:i < p.length):elemV 3 (p.flatMap Ky.cells) i = .agg #[.string (bs p[i].n), .bool p[i].h, .int .i64 p[i].x]:=by
 obtain ⟨h0,h1,h2⟩:=key_cells hi
 simp [elemV,List.range_succ,List.getD_eq_getElem?_getD,h0,h1,h2]
end Go.Proofs.LF
namespace Go.Proofs.LF
def putN (n:List UInt8) (l:List Int) (s:Fo) (y:Fo):Fo:=
 if fndN y (kyOf n l) < y.len∧byK (keyD y (fndN y (kyOf n l))) (kyOf n l) = 0 then y.setN (fndN y (kyOf n l)) n l s else y.insN (fndN y (kyOf n l)) n l s
def modK (k:Ky) (f:Fo→Fo):Fo→Fo
 | .nil => .nil
 | .cons n l s r=>if kyOf n l = k then .cons n l (f s) r else .cons n l s (modK k f r)
def putF (n:List UInt8) (l:List Int) (s:Fo):List Ky→Fo→Fo
 | [],y=>putN n l s y
 | k :: r,y=>modK k (putF n l s r) y
theorem modK_at {k:Ky} {f:Fo→Fo}:∀ {i:Nat} {y s r:Fo} {n:List UInt8} {l:List Int},y.drop i = .cons n l s r→kyOf n l = k→(∀ j,j < i→keyAt y j ≠ some k)→modK k f y = y.setN i n l (f s)
 | 0, .cons n' l' s' r',s,r,n,l,h,hk,_=>by
   simp only [Fo.drop,Fo.cons.injEq] at h
   obtain ⟨rfl,rfl,rfl,rfl⟩:=h
   simp [modK,hk,Fo.setN,Fo.take,Fo.app,Fo.drop]
 | i + 1, .cons n' l' s' r',s,r,n,l,h,hk,hb=>by
   have h0:=hb 0 (by omega)
   simp only [keyAt,Fo.drop,ne_eq,Option.some.injEq] at h0
   have:=modK_at (k:=k) (f:=f) (i:=i) (y:=r') h hk (fun j hj=>hb (j + 1) (by omega))
   simp only [modK,h0,if_false,this,Fo.setN,Fo.take,Fo.app,Fo.drop]
 | 0, .nil,_,_,_,_,h,_,_=>by cases h
 | _ + 1, .nil,_,_,_,_,h,_,_=>by cases h
theorem Fo.Sm.app:∀ {y z:Fo},y.Sm→z.Sm→(y.app z).Sm
 | .nil,_,_,h=>h
 | .cons _ _ _ _,_,⟨h1,h2,h3,h4,h5⟩,h=>⟨h1,h2,h3,h4,h5.app h⟩
theorem Fo.Sm.take:∀ {i:Nat} {y:Fo},y.Sm→(y.take i).Sm
 | 0,_,_=>trivial
 | _ + 1, .nil,_=>trivial
 | i + 1, .cons _ _ _ _,⟨h1,h2,h3,h4,h5⟩=>⟨h1,h2,h3,h4,Fo.Sm.take (i:=i) h5⟩
theorem Fo.cnt_app:∀ (y z:Fo),(y.app z).cnt = y.cnt + z.cnt
 | .nil,z=>by simp [Fo.app,Fo.cnt]
 | .cons n l s r,z=>by simp only [Fo.app,Fo.cnt,Fo.cnt_app r z];omega
theorem Fo.len_le_cnt:∀ (y:Fo),y.len ≤ y.cnt
 | .nil=>nl_ _
 | .cons n l s r=>by have:=Fo.len_le_cnt r;simp only [Fo.len,Fo.cnt];omega
theorem Fo.cnt_take_drop (i:Nat) (y:Fo):(y.take i).cnt + (y.drop i).cnt = y.cnt:=by
 rw [← Fo.cnt_app,Fo.take_drop]
theorem Fo.cnt_drop_succ {i:Nat} {y:Fo}:(y.drop (i + 1)).cnt ≤ (y.drop i).cnt:=by
 have h:∀ (i:Nat) (y:Fo),(y.drop (i + 1)).cnt ≤ (y.drop i).cnt:=by
  intro i
  induction i with
  | zero=>intro y;cases y with
    | nil=>simp [Fo.drop]
    | cons n l s r=>simp only [Fo.drop,Fo.cnt];omega
  | succ i ih=>intro y;cases y with
    | nil=>simp [Fo.drop]
    | cons n l s r=>exact ih r
 exact h i y
def Fo.Nm:Fo→Prop
 | .nil=>True
 | .cons n l s r=>n.length ≤ 1000∧l.length ≤ 1000∧s.Nm∧r.Nm
theorem Fo.Sm.nm:∀ {y:Fo},y.Sm→y.Nm
 | .nil,_=>trivial
 | .cons _ _ _ _,⟨h1,h2,_,h4,h5⟩=>⟨h1,h2,h4.nm,h5.nm⟩
theorem Fo.Nm.sm:∀ {y:Fo},y.Nm→y.cnt ≤ 1000→y.Sm
 | .nil,_,_=>trivial
 | .cons n l s r,⟨h1,h2,h4,h5⟩,hc=>by
   simp only [Fo.cnt] at hc
   have:=Fo.len_le_cnt s
   exact ⟨h1,h2,by omega,h4.sm (by omega),h5.sm (by omega)⟩
theorem Fo.Nm.app:∀ {y z:Fo},y.Nm→z.Nm→(y.app z).Nm
 | .nil,_,_,h=>h
 | .cons _ _ _ _,_,⟨h1,h2,h4,h5⟩,h=>⟨h1,h2,h4,h5.app h⟩
theorem Fo.Nm.take:∀ {i:Nat} {y:Fo},y.Nm→(y.take i).Nm
 | 0,_,_=>trivial
 | _ + 1, .nil,_=>trivial
 | i + 1, .cons _ _ _ _,⟨h1,h2,h4,h5⟩=>⟨h1,h2,h4,Fo.Nm.take (i:=i) h5⟩
theorem Fo.Nm.drop:∀ {i:Nat} {y:Fo},y.Nm→(y.drop i).Nm
 | 0,_,h=>h
 | _ + 1, .nil,h=>h
 | i + 1, .cons _ _ _ r,⟨_,_,_,h⟩=>Fo.Nm.drop (i:=i) (y:=r) h
theorem putN_nm {n:List UInt8} {l:List Int} {s y:Fo} (hy:y.Nm) (h1:n.length ≤ 1000) (h2:l.length ≤ 1000) (h4:s.Nm):(putN n l s y).Nm:=by
 unfold putN
 split
 · exact hy.take.app ⟨h1,h2,h4,hy.drop⟩
 · exact hy.take.app ⟨h1,h2,h4,hy.drop⟩
theorem putN_cnt {n:List UInt8} {l:List Int} {s y:Fo}:(putN n l s y).cnt ≤ y.cnt + 1 + s.cnt:=by
 unfold putN
 split
 · have h1:=Fo.cnt_take_drop (fndN y (kyOf n l)) y
   have h2:=Fo.cnt_drop_succ (i:=fndN y (kyOf n l)) (y:=y)
   simp only [Fo.setN,Fo.cnt_app,Fo.cnt];omega
 · have h1:=Fo.cnt_take_drop (fndN y (kyOf n l)) y
   simp only [Fo.insN,Fo.cnt_app,Fo.cnt];omega
theorem modK_cnt {k:Ky} {f:Fo→Fo} {m:Nat} (hf:∀ s,(f s).cnt ≤ s.cnt + m):∀ (y:Fo),(modK k f y).cnt ≤ y.cnt + m
 | .nil=>by simp [modK,Fo.cnt]
 | .cons n l s r=>by
   simp only [modK]
   split
   · have:=hf s;simp only [Fo.cnt];omega
   · have:=modK_cnt (k:=k) hf r;simp only [Fo.cnt];omega
theorem putF_cnt {n:List UInt8} {l:List Int} {s:Fo}:∀ (p:List Ky) (y:Fo),(putF n l s p y).cnt ≤ y.cnt + (1 + s.cnt)
 | [],y=>by have:=putN_cnt (n:=n) (l:=l) (s:=s) (y:=y);simp only [putF];omega
 | k :: r,y=>by simp only [putF];exact modK_cnt (fun z=>putF_cnt r z) y
theorem modK_nm {k:Ky} {f:Fo→Fo} (hf:∀ s,s.Nm→(f s).Nm):∀ (y:Fo),y.Nm→(modK k f y).Nm
 | .nil,_=>trivial
 | .cons n l s r,⟨h1,h2,h4,h5⟩=>by
   simp only [modK]
   split
   · exact ⟨h1,h2,hf s h4,h5⟩
   · exact ⟨h1,h2,h4,modK_nm hf r h5⟩
theorem putF_nm {n:List UInt8} {l:List Int} {s:Fo} (h1:n.length ≤ 1000) (h2:l.length ≤ 1000) (h4:s.Nm):∀ (p:List Ky) (y:Fo),y.Nm→(putF n l s p y).Nm
 | [],_,hy=>putN_nm hy h1 h2 h4
 | _ :: r,y,hy=>modK_nm (fun z hz=>putF_nm h1 h2 h4 r z hz) y hy
def putE (y:Fo) (p:List Ky) (n:List UInt8) (l:List Int) (s:Fo):Int:=
 if chkY y ≠ 0 then chkY y else if (atF y p).isNone∧p ≠ [] then 1 else if 60 < 1 + s.cnt then 2 else chkY (putF n l s p y)
def putY (y:Fo) (p:List Ky) (n:List UInt8) (l:List Int) (s:Fo):Fo:=if putE y p n l s = 0 then putF n l s p y else .nil
end Go.Proofs.LF
namespace Go.Proofs.LF
open Go.RowKit Go.Sort
set_option maxHeartbeats 4000000
set_option maxRecDepth 100000
attribute [local go_sem] bs_toList bs_size bs_get
theorem wpList_setPut {P:Program} {w:World} {ops:Array Oper} {rest:List Oper} {o:Oper} {a:Act} {Q:Exit→Act→World→Prop} (hg:o.guard = none)
 (m x v:Operand) (t:TypeId) (hop:o.op = Op.mapUpdate t m x v)
 (k e:TypeId) (ht:P.underlying t = some (.map k e)) (hk:P.underlying k = some .string) (he:P.underlying e = some .bool) (b n:Nat) (l:List (List UInt8))
 (hm:a.eval m = .map (some b)) (h:SetM P k e b n l w) (hn:n < maxLen) (s:List UInt8) (hs:s.length ≤ maxLen) (hx:a.eval x = .string (bs s)) (hv:a.eval v = .bool true)
 (hK:∀ w',SetM P k e b (n + 1) (s :: l) w'→w.grownBy w' (some b)→wpList P ops Q rest (a.put o.dst undef) w'):wpList P ops Q (o :: rest) a w:=
 wpList_plain hg fun _ hK'=>wp_setPut m x v t hop k e ht hk he b n l hm h hn s hs hx hv fun w' h1 h2=>hK' _ _ (hK w' h1 h2)
theorem Tryz.info65':(Tryz.prog.info? 65).map (fun i=>(i.zero,i.size,i.bytes)) = some (some (.slice none 0 0),1,24):=by kernel_rfl
theorem paths_any (ls:List (List Fl)) (a:Option Addr) (c:Nat) (S:Nat→Prop) (w:World) (hv:LSl rdLs S w (.slice a ls.length c) ls) (hS:∀ b,S b→b < w.heap.size) (hl:ls.length ≤ 1000) (hn:(ls.map List.length).sum ≤ 1000)
 (hok:∀ x ∈ ls.flatten,x.p.length ≤ 1000∧∀ k ∈ x.p,OkK k) (ht:Pow w) :
 Calls Tryz.prog 115 #[.slice a ls.length c] w fun e w'=>∃ a' c',e = .returned (.slice a' (pthsF ls).length c')∧PaSl (fun b=>S b ∨ Rg w.heap.size w'.heap.size b) w' (.slice a' (pthsF ls).length c') (pthsF ls)∧Below w.heap.size w w':=by
 have hmm:=@run_makeMap Tryz.prog
 obtain ⟨i0,hi0,hz0,hz1,hz2⟩:=info_parts Tryz.info65'
 have hb1:Below w.heap.size w (w.alloc (.map #[] 0)):=(Below.refl _ _).alloc (nl_ _) _
 have HC:=hid (concat_any ls a c S _ (hv.agree (Ag_b hb1 hS)) (fun b hb=>by have:=hS b hb;simp;omega) hl (by omega))
 have HSM:=hid (SetM.made (P:=Tryz.prog) 9 4 w)
 have HB1:=hid hb1
 have HT:=hid ht
 have HS:=hid hS
 have HOK:=hid hok
 have HNN:=hid hn
 clear hv hS hok hb1 ht hn
 go_enter Tryz.func115,Tryz.ntmps115
 go_wp2_with fail
 refine HC.out.mono ?_
 rintro e w1 ⟨ac,cc,rfl,hF1,hb2⟩
 obtain ⟨all,hall⟩:∃ all,ls.flatten = all:=⟨_,rfl⟩
 have hlen1:all.length ≤ 1000:=by rw [← hall,List.length_flatten];exact HNN.out
 rw [hall] at hF1 ⊢
 have hpf:pthsF ls = srtP (ddP [] (all.map Fl.p)):=by rw [pthsF,hall]
 have hokA:∀ x ∈ all,x.p.length ≤ 1000∧∀ k ∈ x.p,OkK k:=by rw [← hall];exact HOK.out
 obtain ⟨S1,hS1⟩:∃ S1:Nat→Prop,S1 = fun b=>S b ∨ Rg (w.alloc (.map #[] 0)).heap.size w1.heap.size b:=⟨_,rfl⟩
 rw [← hS1] at hF1
 have hz1':=hb2.size
 simp only [World.size_alloc] at hz1'
 have hS1lt:∀ b,S1 b→b < w1.heap.size∧b ≠ w.heap.size∧(S b ∨ w.heap.size < b):=fun b hb=>by
  rw [hS1] at hb
  rcases hb with hb | hb
  · have:=HS.out b hb;exact ⟨by omega,by omega, .inl hb⟩
  · have h1:=hb.1;have h2:=hb.2;simp only [World.size_alloc] at h1;exact ⟨h2,by omega, .inr (by omega)⟩
 obtain ⟨a',c',he,hc,hcm,hat⟩:=hF1.at
 obtain ⟨rfl,rfl⟩:ac = a'∧cc = c':=by cases he;exact ⟨rfl,rfl⟩
 have HAT:=hid hat
 have HSM1:=hid (HSM.out.kept (hb2.block w.heap.size (by simp)))
 have HB2:=hid (HB1.out.trans (hb2.mono (by simp)))
 have HS1:=hid hS1lt
 have HOKA:=hid hokA
 have HPF:=hid hpf
 have HSE:=hid hS1
 have HZ1:=hid hz1'
 unfold maxLen at hcm
 clear hat he hF1 hb2 hS1lt hokA hpf hS1 hall hz1'
 go_wp2_with fail
 go_loopw [3,12] (fun v i wr=>∃ (k:Nat) (acc:List (List Ky)) (cs:List Value) (l:List (List UInt8)),k ≤ all.length∧acc.length ≤ k∧i = .int .i64 k∧Hid (ddP [] (all.map Fl.p) = ddP acc ((all.map Fl.p).drop k)) ∧
  wr.ownsRow w1.heap.size 65 1 v acc.length cs∧Hid (LCs rdPa S1 wr acc cs)∧Hid (SetM Tryz.prog 9 4 w.heap.size acc.length l wr)∧Hid (∀ s,s ∈ l ↔ s ∈ acc.map sptL)∧Hid (∀ p ∈ acc,p.length ≤ 1000)∧Hid (Below w.heap.size w wr)∧Hid (∀ b,b < w1.heap.size→b ≠ w.heap.size→wr.heap[b]? = w1.heap[b]?)∧w1.heap.size ≤ wr.heap.size) (fun _ i _=>all.length - (intOf i).toNat)
 case atStart=>exact ⟨0,[],[],[],by omega,by simp,rfl,rfl,World.ownsRow_nil _ _ _ _,rfl,HSM1.out,(fun s=>by simp),(fun p hp=>by cases hp),HB2.out,(fun _ _ _=>rfl),nl_ _⟩
 case round=>
  obtain ⟨k,acc,cs,l,hk,hacc,rfl,hD,hown,hlc,hsm,hmem,hap,hB,hkp,hzr⟩:=hrel
  by_cases hlt:k < all.length
  · have hlt':(k:Int) < (all.length:Int):=by omega
    obtain ⟨g,o,cs1,rfl,hg,⟨ap,cp,an,cn,rfl,hP,hI⟩,hcell⟩:=HAT.out k hlt
    have hg1:=HS1.out g hg
    have c0:=(World.cell?_of_block (w:=w1) (w':=wr) (a:=⟨g,o + (k * 2 + 0),none⟩) (hkp.out g hg1.1 hg1.2.1)).trans (hcell 0 _ rfl)
    have c1:=(World.cell?_of_block (w:=w1) (w':=wr) (a:=⟨g,o + (k * 2 + 1),none⟩) (hkp.out g hg1.1 hg1.2.1)).trans (hcell 1 _ rfl)
    rw [Nat.add_zero] at c0
    rw [← Nat.add_assoc] at c1
    have hagr:Agree S1 w1 wr:=fun b hb=>hkp.out b (HS1.out b hb).1 (HS1.out b hb).2.1
    have hokk:=HOKA.out all[k] (List.getElem_mem hlt)
    have hdrop:(all.map Fl.p).drop k = all[k].p :: (all.map Fl.p).drop (k + 1):=by
     rw [List.drop_eq_getElem_cons (by simpa using hlt)];simp
    obtain ⟨x,hx⟩:∃ x,all[k] = x:=⟨_,rfl⟩
    rw [hx] at c0 c1 hP hI hokk hdrop
    have hW:Below w.heap.size w (wr.alloc (.cells #[.slice ap x.p.length cp, .slice an x.l.length cn] 171)):=hB.out.alloc (by have:=HZ1.out;omega) _
    have hspl:=spelt_any x.p ap cp S1 (wr.alloc (.cells #[.slice ap x.p.length cp, .slice an x.l.length cn] 171)) ((hP.agree hagr).agree (fun b hb=>heap_alloc_old _ _ (by have:=(HS1.out b hb).1;omega))) (fun b hb=>by have:=(HS1.out b hb).1;simp;omega) hokk.1 hokk.2 (HT.out.below hW)
    have hsl:=sptL_len hokk.2
    have HSPL:=hid hspl
    have HW:=hid hW
    have HDR:=hid hdrop
    have HOK:=hid hokk
    have HPp:=hid (hP.agree hagr)
    have HX:=hid hx
    have hsl2:(sptL x.p).length ≤ 1006000:=by have:=hokk.1;omega
    clear hcell hspl hW hdrop hokk hP hI hx hagr hsl
    go_wp2_with fail
    refine HSPL.out.mono ?_
    rintro e w3 ⟨rfl,hb3⟩
    have hz3:=hb3.size
    simp only [World.size_alloc] at hz3
    have hml:w.heap.size < wr.heap.size:=by have:=HZ1.out;omega
    have hsm3:Hid (SetM Tryz.prog 9 4 w.heap.size acc.length l w3):=hsm.out.kept ((hb3.block _ (by simp;omega)).trans (heap_alloc_old _ _ hml))
    have hf3:=(hb3.block wr.heap.size (by simp)).trans (heap_alloc_new _ _)
    have m0:=cg_ hf3 (k:=0) rfl
    have ow3:w3.ownsRow w1.heap.size 65 1 u3 acc.length cs:=ob_ (hown.alloc _) hb3 (nl_ _)
    have HB3:=hid (HW.out.trans (hb3.mono (by simp;omega)))
    have HK3:Hid (∀ b,b < wr.heap.size→w3.heap[b]? = wr.heap[b]?):=fun b hb=>(hb3.block b (by simp;omega)).trans (heap_alloc_old _ _ hb)
    have HF3:=hid hf3
    have hzb:(zeroValue 4).run Tryz.prog w3 = .ok (.bool false) w3:=Tryz.zeroValue4 w3
    have HZB:=hid hzb
    clear hf3 hb3 hzb
    obtain ⟨sp,hsp⟩:∃ sp,sptL x.p = sp:=⟨_,rfl⟩
    rw [hsp] at hsl2 ⊢
    have HSP:=hid hsp
    clear hsp
    have hss:sp.length ≤ maxLen:=by unfold maxLen;omega
    by_cases hmt:sp ∈ l
    · have hdm:decide (sp ∈ l) = true:=by simp [hmt]
      have hdd:Hid (ddP [] (all.map Fl.p) = ddP acc ((all.map Fl.p).drop (k + 1))):=by
       rw [Hid,hD.out,HDR.out]
       simp only [ddP]
       rw [if_pos (by rw [HSP.out];exact (hmem.out sp).1 hmt)]
      clear hmt
      go_wp2_with (at_lookup;refine wpList_setLook rfl _ _ 263 rfl 9 4 Tryz.underlying263 Tryz.underlying9 Tryz.underlying4 HZB.out w.heap.size acc.length l rfl hsm3.out sp hss rfl ?_)
      have hag3:Agree S1 wr w3:=fun b hb=>HK3.out b (by have:=(HS1.out b hb).1;omega)
      have hkp3:Hid (∀ b,b < w1.heap.size→b ≠ w.heap.size→w3.heap[b]? = w1.heap[b]?):=fun b h1 h2=>(HK3.out b (by omega)).trans (hkp.out b h1 h2)
      go_roundw
      case rel=>exact ⟨k + 1,acc,cs,l,by omega,by omega,by go_num,hdd,ow3,hlc.out.agree hag3,hsm3,hmem,hap,HB3,hkp3,by omega⟩
      case measure=>simp [intOf];omega
    · have hdm:decide (sp ∈ l) = false:=by simp [hmt]
      have hdd:Hid (ddP [] (all.map Fl.p) = ddP (acc ++ [x.p]) ((all.map Fl.p).drop (k + 1))):=by
       rw [Hid,hD.out,HDR.out]
       simp only [ddP]
       rw [if_neg (by rw [HSP.out];exact fun e=>hmt ((hmem.out sp).2 e))]
      clear hmt
      have hag3:Agree S1 wr w3:=fun b hb=>HK3.out b (by have:=(HS1.out b hb).1;omega)
      have HAG3:=hid hag3
      clear hag3
      have hlen3:acc.length ≤ 1000:=by omega
      have hb13:w1.heap.size ≤ w3.heap.size:=by omega
      go_wp2_with (first
       | (at_lookup;refine wpList_setLook rfl _ _ 263 rfl 9 4 Tryz.underlying263 Tryz.underlying9 Tryz.underlying4 HZB.out w.heap.size acc.length l rfl hsm3.out sp hss rfl ?_)
       | (at_builtin;refine (wpList_append_ao _ rfl _ _ _ rfl w1.heap.size 65 i0 _ 1 24 Tryz.underlying49 hi0 hz0 hz1 hz2 rfl (by omega) u3 acc.length cs rfl (ow3.alloc _) (some ⟨w3.heap.size,0,none⟩) 1 1 [.slice ap x.p.length cp] rfl rfl (fun h=>by cases h) (fun ad had=>by cases had;exact World.news_of_block (cs:=#[.slice ap x.p.length cp]) (t:=65) (fr:=(0,0)) (heap_alloc_new _ _)) (by simp [Value.oneCell']) (by unfold maxLen;omega) (by omega) (by simp;omega) ?_);intro a4 c4 w4 hown4 hgrow4 hat4;have hsm4:=hid (hsm3.out.kept ((hgrow4.block w.heap.size (by simp;omega) (fun e=>by have:=(ow3.lt _ e.symm).1;have:=HZ1.out;omega)).trans (heap_alloc_old _ _ (by omega)))))
       | (at_mapUpdate;refine wpList_setPut rfl _ _ _ 263 rfl 9 4 Tryz.underlying263 Tryz.underlying9 Tryz.underlying4 w.heap.size acc.length l rfl hsm4.out (by unfold maxLen;omega) sp hss rfl rfl ?_;intro w5 hsm5 hgrow5))
      have hwl:w.heap.size < w1.heap.size:=by have:=HZ1.out;omega
      have hfar:∀ b,b < w3.heap.size→b ≠ w.heap.size→u3.ownBlock ≠ some b→w5.heap[b]? = w3.heap[b]?:=fun b h1 h2 h3=>by
       have hg4:=hgrow4.size
       simp only [World.size_alloc] at hg4
       exact (hgrow5.block b (by omega) (fun e=>h2 (Option.some.inj e))).trans ((hgrow4.block b (by simp;omega) (fun e=>h3 e.symm)).trans (heap_alloc_old _ _ h1))
      have hul:∀ b,u3.ownBlock = some b→w1.heap.size ≤ b:=fun b hb=>(ow3.lt b hb).1
      have hag5:Agree S1 w3 w5:=fun b hb=>by
       have h1:=HS1.out b hb
       exact hfar b (by omega) h1.2.1 (fun e=>by have:=hul b e;omega)
      have hkp5:Hid (∀ b,b < w1.heap.size→b ≠ w.heap.size→w5.heap[b]? = w1.heap[b]?):=fun b h1 h2=>(hfar b (by omega) h2 (fun e=>by have:=hul b e;omega)).trans ((HK3.out b (by omega)).trans (hkp.out b h1 h2))
      have how5:w5.ownsRow w1.heap.size 65 1 (.slice a4 (acc.length + 1) c4) (acc.length + 1) (cs ++ [.slice ap x.p.length cp]):=owns_agree hown4 fun g hg=>by
       have h1:=hown4.lt g hg
       exact hgrow5.block g h1.2 (fun e=>by have:=Option.some.inj e;omega)
      have hlc5:LCs rdPa S1 w5 (acc ++ [x.p]) (cs ++ [.slice ap x.p.length cp]):=((hlc.out.agree HAG3.out).agree hag5).app (LCs.single ⟨ap,cp,rfl,(HPp.out.agree HAG3.out).agree hag5⟩)
      have hmem5:Hid (∀ s,s ∈ sp :: l ↔ s ∈ (acc ++ [x.p]).map sptL):=fun s=>by
       rw [List.map_append,List.mem_append,List.mem_cons,hmem.out s,← HSP.out]
       simp only [List.map_cons,List.map_nil,List.mem_singleton]
       exact Or.comm
      have hap5:Hid (∀ p ∈ acc ++ [x.p],p.length ≤ 1000):=fun p hp=>by
       rcases List.mem_append.1 hp with h | h
       · exact hap.out p h
       · simp only [List.mem_singleton] at h;rw [h];exact HOK.out.1
      have hsz4:=hgrow4.size
      simp only [World.size_alloc] at hsz4
      have hB5:Hid (Below w.heap.size w w5):=((HB3.out.alloc HB3.out.size _).grown hgrow4 (by have:=HB3.out.size;simp;omega) (fun k hk=>by have:=hul k hk;omega)).grown hgrow5 (by have:=HB3.out.size;omega) (fun k hk=>by rw [Option.some.inj hk];exact nl_ _)
      have hz5:=hgrow5.size
      go_roundw
      case rel=>exact ⟨k + 1,acc ++ [x.p],cs ++ [.slice ap x.p.length cp],sp :: l,by omega,by simp;omega,by go_num,hdd,by simpa using how5,hid hlc5,by simpa [Hid] using hsm5,hmem5,hap5,hB5,hkp5,by omega⟩
      case measure=>simp [intOf];omega
  · obtain rfl:k = all.length:=by omega
    have hlt':¬ (all.length:Int) < (all.length:Int):=by omega
    have hdn:ddP [] (all.map Fl.p) = acc:=by
     rw [hD.out,List.drop_eq_nil_of_le (by simp)];rfl
    have HDN:=hid hdn
    clear hdn
    go_wp2_with fail
    refine (sort_any acc _ w1.heap.size cs S1 wr hown hlc.out (fun b hb=>by
     have h1:=(HS1.out b hb).1
     exact ⟨by omega,fun e=>by have:=(hown.lt b e).1;omega⟩) hap.out (by omega)).mono ?_
    rintro e w6 ⟨rfl,cs6,hown6,hlc6,hgrow6⟩
    have HB6:=hid (hB.out.grown hgrow6 (by have:=HZ1.out;omega) (fun k hk=>by have:=(hown.lt k hk).1;have:=HZ1.out;omega))
    go_wp2_with fail
    go_ret
    obtain ⟨a9,c9,rfl,_,_⟩:=owns_shape hown6
    have hlen:(srtP acc).length = acc.length:=(srtP_perm acc).length_eq
    rw [HPF.out,HDN.out,hlen]
    have hz6:=hgrow6.size
    refine ⟨a9,c9,by simp,⟨cs6,?_,?_⟩,HB6.out⟩
    · rw [hlen]
      exact (SlC.of_owns hown6).wide fun b hb => .inr ⟨by have:=hb.1;have:=HZ1.out;omega,hb.2⟩
    · refine hlc6.wide fun b hb=>?_
      have h1:=HS1.out b hb
      rcases h1.2.2 with h | h
      · exact .inl h
      · exact .inr ⟨by omega,by omega⟩
end Go.Proofs.LF
namespace Go.Proofs.LF
open Go.RowKit Go.Sort
set_option maxHeartbeats 4000000
set_option maxRecDepth 100000
theorem ret100 {tmps:Array Value} {W:World} {b:Nat} {x y t3:Value} (h:W.heap[b]? = some (.cells #[x,y] 171 (0,0))) (h2:tmps.getD 2 undef = .pointer (some ⟨b,0,none⟩)) (h3:tmps.getD 3 undef = t3) :
 (results Tryz.f100 tmps).run Tryz.prog W = .ok (.tuple #[.agg #[x,y],t3]) W:=by
 have h0:=cg_ h (k:=0) rfl
 have h1:=cg_ h (k:=1) rfl
 rw [results_cell_tmp rfl,h2,h3]
 simp [go_sem,h0,h1]
theorem res_set {W:World} {b:Nat} {x y x' y':Value} (h:W.heap[b]? = some (.cells #[x,y] 171 (0,0))):((W.setCell ⟨b,0,none⟩ x').setCell ⟨b,1,none⟩ y').heap[b]? = some (.cells #[x',y'] 171 (0,0)):=by
 simp [World.setCell,Array.getElem?_modify,h]
theorem rdNums_none {m:Nat} {s:List UInt8} (h:runN blankB 1 s = 0):rdNums m s = ([],0,true):=by
 cases m <;> simp [rdNums,h]
theorem rdNums_bad {m:Nat} {s:List UInt8} (h:runN blankB 1 s ≠ 0) (h2:runN digitB (mostD (s.drop 1)) (s.drop 1) = 0):rdNums (m + 1) s = ([],1,false):=by
 simp only [rdNums,h,h2,if_false,if_true]
theorem rdNums_go {m n:Nat} {s:List UInt8} (h:runN blankB 1 s ≠ 0) (h2:n = runN digitB (mostD (s.drop 1)) (s.drop 1)) (h3:n ≠ 0):rdNums (m + 1) s = (((decN ((s.drop 1).take n):Nat):Int) :: (rdNums m (s.drop (1 + n))).1,1 + n + (rdNums m (s.drop (1 + n))).2.1,(rdNums m (s.drop (1 + n))).2.2):=by
 subst h2
 simp only [rdNums,h,h3,if_false,List.drop_drop]
theorem nxt_eq {t:List UInt8} {q:Nat} {c:UInt8} (h0:c ≠ 0):nxt t q = (c.toNat:Int) ↔ (t.drop q).head? = some c:=by
 unfold nxt
 split
 · rename_i h
   rw [List.drop_eq_getElem_cons h,List.head?_cons,Option.some.injEq]
   constructor
   · intro e
     exact UInt8.toNat_inj.1 (by omega)
   · intro e;rw [e]
 · rename_i h
   rw [List.drop_eq_nil_of_le (by omega)]
   simp only [List.head?_nil,reduceCtorEq,iff_false]
   intro e
   exact h0 (UInt8.toNat_inj.1 (by simp;omega))
theorem digit_most (R:Nat) (t:List UInt8) (i:Nat) (vs:List Value) (w:World) (hr:Rdr R t i vs w) (ht:t.length ≤ 100000) (hi:i ≤ t.length) {M:Nat} (hm:mostD (t.drop i) = M) :
 Calls Tryz.prog 184 #[.pointer (some ⟨R,0,none⟩), .func (.func 187) #[.agg #[.int .u8 48, .int .u8 57]] #[], .int .i64 M] w (RunR digitB R t i (mostD (t.drop i)) vs w):=by
 have h4:mostD (t.drop i) ≤ 4:=by unfold mostD;split <;> omega
 subst hm
 exact digit_runs R t i _ vs w hr ht hi (by omega)
theorem mostD_le (s:List UInt8):mostD s ≤ 4:=by unfold mostD;split <;> omega
theorem run_all {p:UInt8→Bool}:∀ {m:Nat} {s:List UInt8},∀ c ∈ s.take (runN p m s),p c = true
 | 0,s,c,h=>by simp [runN] at h
 | _ + 1,[],c,h=>by simp [runN] at h
 | m + 1,d :: r,c,h=>by
   simp only [runN] at h
   split at h
   · rename_i hd
     rw [List.take_succ_cons] at h
     rcases List.mem_cons.1 h with rfl | h
     · exact hd
     · exact run_all c h
   · simp at h
theorem node_after {B:Nat} {w11 w12:World} {o:Obj} {cs:Array Value} {nv:Value} {k:Nat} {xs:List Value} (h:w11.heap[B]? = some (.cells cs 85 (0,0))) (ho:w11.ownsRow (B + 1) 3 1 nv k xs) (hg:(w11.alloc o).grownBy w12 nv.ownBlock):Hid (w12.heap[B]? = some (.cells cs 85 (0,0))):=by
 have hlt:=(Array.getElem?_eq_some_iff.1 h).1
 exact (hg.block B (by simp;omega) (fun e=>by have:=(ho.lt B e.symm).1;omega)).trans ((heap_alloc_old _ _ hlt).trans h)
theorem Keep.grownNew {O:Nat→Prop} {A B C:World} {row:Option Nat} (h:Keep O A B) (hg:B.grownBy C row) (hr:∀ b,row = some b→A.heap.size ≤ b):Keep O A C:=
 ⟨hg.os.trans h.os,hg.tape.trans h.tape,hg.output.trans h.output,Nat.le_trans h.size hg.size,fun b hb ho=>(hg.block b (Nat.lt_of_lt_of_le hb h.size) (fun e=>by have:=hr b e.symm;omega)).trans (h.block b hb ho)⟩
theorem Rdr.setFar {R b k:Nat} {t:List UInt8} {i:Nat} {vs:List Value} {w:World} {u:Value} (h:Rdr R t i vs w) (hb:R ≠ b):Rdr R t i vs (w.setCell ⟨b,k,none⟩ u):=(Below.heap_setCell _ _ _ _ hb).trans h
theorem Rdr.alloc {R:Nat} {t:List UInt8} {i:Nat} {vs:List Value} {w:World} (h:Rdr R t i vs w) (o:Obj):Rdr R t i vs (w.alloc o):=(heap_alloc_old _ _ h.lt).trans h
theorem keys_set {kys:List Ky} {d:Nat} {k:Ky} {fd:Value} (hk:kys.length = 4) (hd:d ≤ 3):(((kys.flatMap Ky.cells ++ [fd]).set (d * 3) (.string (bs k.n))).set (d * 3 + 1) (.bool k.h)).set (d * 3 + 2) (.int .i64 k.x) = (kys.set d k).flatMap Ky.cells ++ [fd]:=by
 match kys,hk with
 | [a,b,c,e],_=>
   match d,hd with
   | 0,_=>rfl
   | 1,_=>rfl
   | 2,_=>rfl
   | 3,_=>rfl
theorem keys_at {kys:List Ky} {d:Nat} {fd:Value} (hk:kys.length = 4) (hd:d ≤ 3):∃ a b c,(kys.flatMap Ky.cells ++ [fd])[d * 3]? = some a∧(kys.flatMap Ky.cells ++ [fd])[d * 3 + 1]? = some b∧(kys.flatMap Ky.cells ++ [fd])[d * 3 + 2]? = some c:=by
 match kys,hk with
 | [a,b,c,e],_=>
   match d,hd with
   | 0,_=>exact ⟨_,_,_,rfl,rfl,rfl⟩
   | 1,_=>exact ⟨_,_,_,rfl,rfl,rfl⟩
   | 2,_=>exact ⟨_,_,_,rfl,rfl,rfl⟩
   | 3,_=>exact ⟨_,_,_,rfl,rfl,rfl⟩
theorem rdr_key {R d:Nat} {t:List UInt8} {i:Nat} {a b c k:Value} {ks:List Value} {w:World} (h:Rdr R t i (a :: b :: c :: ks) w) (hk:ks[d * 3]? = some k):w.cell? ⟨R,5 + d * 3,none⟩ = some k:=by
 have:=h.cV (j:=d * 3 + 3) (v:=k) (by simpa using hk)
 rwa [show 5 + d * 3 = d * 3 + 3 + 2 by omega]
theorem rdr_key1 {R d:Nat} {t:List UInt8} {i:Nat} {a b c k:Value} {ks:List Value} {w:World} (h:Rdr R t i (a :: b :: c :: ks) w) (hk:ks[d * 3 + 1]? = some k):w.cell? ⟨R,5 + d * 3 + 1,none⟩ = some k:=by
 have:=h.cV (j:=d * 3 + 1 + 3) (v:=k) (by simpa using hk)
 rwa [show 5 + d * 3 + 1 = d * 3 + 1 + 3 + 2 by omega]
theorem rdr_key2 {R d:Nat} {t:List UInt8} {i:Nat} {a b c k:Value} {ks:List Value} {w:World} (h:Rdr R t i (a :: b :: c :: ks) w) (hk:ks[d * 3 + 2]? = some k):w.cell? ⟨R,5 + d * 3 + 2,none⟩ = some k:=by
 have:=h.cV (j:=d * 3 + 2 + 3) (v:=k) (by simpa using hk)
 rwa [show 5 + d * 3 + 2 = d * 3 + 2 + 3 + 2 by omega]
theorem rdr_last {R d:Nat} {t:List UInt8} {i:Nat} {a b c:Value} {kys:List Ky} {fd:Value} {w:World} (h:Rdr R t i (a :: b :: c :: (kys.flatMap Ky.cells ++ [fd])) w) (hk:kys.length = 4) (hd:d ≤ 3) (k:Ky) (c':Value) :
 Rdr R t i (a :: b :: c' :: ((kys.set d k).flatMap Ky.cells ++ [fd])) ((((w.setCell ⟨R,5 + d * 3,none⟩ (.string (bs k.n))).setCell ⟨R,5 + d * 3 + 1,none⟩ (.bool k.h)).setCell ⟨R,5 + d * 3 + 2,none⟩ (.int .i64 k.x)).setCell ⟨R,4,none⟩ c'):=by
 have h1:=(((h.setV (3 + d * 3) (.string (bs k.n))).setV (3 + d * 3 + 1) (.bool k.h)).setV (3 + d * 3 + 2) (.int .i64 k.x)).setV 2 c'
 rw [show 3 + d * 3 + 2 + 2 = 5 + d * 3 + 2 by omega,show 3 + d * 3 + 1 + 2 = 5 + d * 3 + 1 by omega,show 3 + d * 3 + 2 = 5 + d * 3 by omega] at h1
 have e:((((a :: b :: c :: (kys.flatMap Ky.cells ++ [fd])).set (3 + d * 3) (.string (bs k.n))).set (3 + d * 3 + 1) (.bool k.h)).set (5 + d * 3) (.int .i64 k.x)).set 2 c' = a :: b :: c' :: ((kys.set d k).flatMap Ky.cells ++ [fd]):=by
  rw [← keys_set hk hd,show 3 + d * 3 = d * 3 + 1 + 1 + 1 by omega,show 5 + d * 3 = d * 3 + 2 + 1 + 1 + 1 by omega]
  simp only [List.set_cons_succ,List.set_cons_zero]
 rw [e] at h1
 exact h1
theorem rdr_path {R d:Nat} {t:List UInt8} {i:Nat} {a b c:Value} {kys:List Ky} {fd:Value} {w:World} (h:Rdr R t i (a :: b :: c :: (kys.flatMap Ky.cells ++ [fd])) w) (hk:kys.length = 4) (hd:d ≤ 3) :
 Pth (· = R) w (.slice (some ⟨R,5,none⟩) (kys.take (d + 1)).length 4) (kys.take (d + 1)):=by
 have hl:(kys.take (d + 1)).length = d + 1:=by rw [List.length_take];omega
 refine ⟨len_keys _,some ⟨R,5,none⟩,4,rfl,by omega,by simp [maxLen],(fun e=>by cases e), .inr ⟨R,5,rfl,rfl,fun j u hj=>?_⟩⟩
 have hj2:(kys.flatMap Ky.cells ++ [fd])[j]? = some u:=by
  have h3:=(List.getElem?_eq_some_iff.1 hj).1
  have e:kys.flatMap Ky.cells = (kys.take (d + 1)).flatMap Ky.cells ++ (kys.drop (d + 1)).flatMap Ky.cells:=by
   rw [← List.flatMap_append,List.take_append_drop]
  rw [e,List.append_assoc,List.getElem?_append_left h3]
  exact hj
 have:=h.cV (j:=j + 3) (v:=u) (by simpa using hj2)
 rwa [show 5 + j = j + 3 + 2 by omega]
theorem cloneK_any' (p:List Ky) (a:Option Addr) (n:Nat) (hn:p.length = n) (c:Nat) (hlen:n ≤ 1000) (S:Nat→Prop) (w:World) (hv:Pth S w (.slice a p.length c) p) (hS:∀ b,S b→b < w.heap.size) :
 Calls Tryz.prog 117 #[.slice a n c] w fun e w'=>∃ a' c',e = .returned (.slice a' n c')∧Pth (Rg w.heap.size w'.heap.size) w' (.slice a' n c') p∧Below w.heap.size w w':=by
 subst hn
 exact cloneK_any p a c S w hv hS hlen
def ReadR (R:Nat) (t:List UInt8) (i ln dp:Nat) (kys:List Ky) (fd:Value) (w:World) (e:Ending) (w':World):Prop:=
 ((rdLine dp (t.drop i)).2.2.2.2 = false∧e = .returned (.tuple #[.agg #[.slice none 0 0, .slice none 0 0], .bool false]) ∧
   (∃ vs,Rdr R t (i + (rdLine dp (t.drop i)).2.2.2.1) (.int .i64 ln :: .int .i64 i :: vs) w')∧Keep (· = R) w w') ∨
 ((rdLine dp (t.drop i)).2.2.2.2 = true∧∃ ap cp an cn,e = .returned (.tuple #[.agg #[.slice ap ((rdLine dp (t.drop i)).1 + 1) cp, .slice an (rdLine dp (t.drop i)).2.2.1.length cn], .bool true]) ∧
   Pth (Rg w.heap.size w'.heap.size) w' (.slice ap ((rdLine dp (t.drop i)).1 + 1) cp) ((kys.set (rdLine dp (t.drop i)).1 (kyOf (rdLine dp (t.drop i)).2.1 (rdLine dp (t.drop i)).2.2.1)).take ((rdLine dp (t.drop i)).1 + 1)) ∧
   Ints (Rg w.heap.size w'.heap.size) w' (.slice an (rdLine dp (t.drop i)).2.2.1.length cn) (rdLine dp (t.drop i)).2.2.1 ∧
   Rdr R t (i + (rdLine dp (t.drop i)).2.2.2.1) (.int .i64 ln :: .int .i64 i :: .int .i64 (min ((rdLine dp (t.drop i)).1 + 1) 3:Nat) :: ((kys.set (rdLine dp (t.drop i)).1 (kyOf (rdLine dp (t.drop i)).2.1 (rdLine dp (t.drop i)).2.2.1)).flatMap Ky.cells ++ [fd])) w'∧Keep (· = R) w w')
theorem rdLine_no {dp d:Nat} {s:List UInt8} (h1:d = runN blankB dp s) (h2:runN smallB 8 (s.drop d) = 0):rdLine dp s = (d,[],[],d,false):=by
 subst h1
 simp only [rdLine]
 rw [if_pos h2]
theorem rdLine_of {dp d k:Nat} {s:List UInt8} {r:List Int × Nat × Bool} (h1:d = runN blankB dp s) (h2:k = runN smallB 8 (s.drop d)) (h3:k ≠ 0) (h4:rdNums 4 (s.drop (d + k)) = r):rdLine dp s = (d,(s.drop d).take k,r.1,d + k + r.2.1,r.2.2 && ((s.drop (d + (k + r.2.1))).head? == some 10)):=by
 subst h1;subst h2;subst h4
 simp only [rdLine]
 rw [if_neg h3]
 simp only [List.drop_drop]
end Go.Proofs.LF
