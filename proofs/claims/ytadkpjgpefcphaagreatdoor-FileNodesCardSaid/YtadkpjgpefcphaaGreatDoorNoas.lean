/- Parts of the proof of a law of layer 11 (file): LfW30, LfW80. The conditions stand in each theorem. -/
import Derived.Test.YtadkpjgpefcphaaGreatDoorProg
import Derived.Test.YtadkpjgpefcphaaGreatDoorNoab
import Derived.Test.YtadkpjgpefcphaaGreatDoorNoac
import Derived.Test.YtadkpjgpefcphaaGreatDoorNoae
import Derived.Test.YtadkpjgpefcphaaGreatDoorNoap
set_option linter.all false
set_option linter.unusedVariables false
set_option linter.unusedSimpArgs false
namespace Go.Proofs.LF
open Go.RowKit Go.Sort
set_option maxHeartbeats 4000000
set_option maxRecDepth 100000
attribute [local go_sem] bs_toList bs_size bs_get
theorem smF_eq (a b:List Fl) (p:List Ky):smF a b p = (((fnd a p).isSome == (fnd b p).isSome) && decide (((fnd a p).getD fl0).l = ((fnd b p).getD fl0).l)):=by
 unfold smF
 cases fnd a p <;> cases fnd b p <;> simp
theorem fnd_len {l:List Fl} {p:List Ky} (h:SmF l):((fnd l p).getD fl0).p.length ≤ 1000∧((fnd l p).getD fl0).l.length ≤ 1000:=by
 cases hf:fnd l p with
 | none=>simp [fl0]
 | some x=>
   have hm:x ∈ l:=by
    unfold fnd at hf
    split at hf
    · rename_i y hy
      split at hf
      · cases hf;exact List.mem_of_getElem? hy
      · cases hf
    · cases hf
   exact ⟨(h x hm).1,(h x hm).2.1⟩
theorem same_any (a b:List Fl) (p:List Ky) (aa ab ap:Option Addr) (ca cb cp:Nat) (S S' T:Nat→Prop) (w:World) (ha:FlSl S w (.slice aa a.length ca) a) (hS:∀ b,S b→b < w.heap.size) (hb:FlSl S' w (.slice ab b.length cb) b) (hS':∀ b,S' b→b < w.heap.size)
 (hp:Pth T w (.slice ap p.length cp) p) (hT:∀ b,T b→b < w.heap.size) (la:a.length ≤ 1000) (lb:b.length ≤ 1000) (sa:SmF a) (sb:SmF b) (lp:p.length ≤ 1000) :
 Calls Tryz.prog 116 #[.slice aa a.length ca, .slice ab b.length cb, .slice ap p.length cp] w fun e w'=>e = .returned (.bool (smF a b p))∧Below w.heap.size w w':=by
 have H1:=hid (find_any a p aa ap ca cp S T w ha hS hp hT la sa lp)
 have HB:=hid hb
 have HP:=hid hp
 have HS:=hid hS
 have HS':=hid hS'
 have HT:=hid hT
 have HFA:=hid (fnd_len (p:=p) sa)
 have HFB:=hid (fnd_len (p:=p) sb)
 have HSB:=hid sb
 have HE:=hid (smF_eq a b p)
 clear ha hb hp hS hS' hT sa sb
 go_enter Tryz.func116,Tryz.ntmps116
 go_wp2_with fail
 refine H1.out.mono ?_
 rintro e w1 ⟨ap1,cp1,an1,cn1,rfl,_,hI1,hb1⟩
 obtain ⟨x,hx⟩:∃ x,(fnd a p).getD fl0 = x:=⟨_,rfl⟩
 obtain ⟨bx,hbx⟩:∃ bx,(fnd a p).isSome = bx:=⟨_,rfl⟩
 rw [hx] at hI1 ⊢
 rw [hbx]
 have HX:=hid hx
 have HBX:=hid hbx
 have hz1:=hb1.size
 have hb1':Below w.heap.size w (w1.alloc (.cells #[.slice ap1 x.p.length cp1, .slice an1 x.l.length cn1] 171)):=hb1.alloc hz1 _
 have HB1:=hid hb1'
 have HI1:=hid (hI1.agree (Ag_b (B:=w1.heap.size) (w':=w1.alloc (.cells #[.slice ap1 x.p.length cp1, .slice an1 x.l.length cn1] 171)) ((Below.refl _ _).alloc (nl_ _) _) (fun b hb=>by have:=HS.out b hb;omega)))
 have hblk1:(w1.alloc (.cells #[.slice ap1 x.p.length cp1, .slice an1 x.l.length cn1] 171)).heap[w1.heap.size]? = some (.cells #[.slice ap1 x.p.length cp1, .slice an1 x.l.length cn1] 171 (0,0)):=heap_alloc_new _ _
 have HK1:=hid hblk1
 clear hx hbx hI1 hb1' hblk1 hb1
 go_wp2_with fail
 refine (find_any b p ab ap cb cp S' T _ (HB.out.agree (Ag_b HB1.out HS'.out)) (fun b hb=>by have:=HS'.out b hb;simp;omega) (HP.out.agree (Ag_b HB1.out HT.out)) (fun b hb=>by have:=HT.out b hb;simp;omega) lb HSB.out lp).mono ?_
 rintro e w2 ⟨ap2,cp2,an2,cn2,rfl,_,hI2,hb2⟩
 obtain ⟨y,hy⟩:∃ y,(fnd b p).getD fl0 = y:=⟨_,rfl⟩
 obtain ⟨bz,hbz⟩:∃ bz,(fnd b p).isSome = bz:=⟨_,rfl⟩
 rw [hy] at hI2 ⊢
 rw [hbz]
 have hse:=HE.out
 rw [HX.out,HBX.out,hy,hbz] at hse
 have hxl:=HFA.out.2
 have hyl:=HFB.out.2
 rw [HX.out] at hxl
 rw [hy] at hyl
 have HSE:=hid hse
 have hz2:=hb2.size
 simp only [World.size_alloc] at hz2
 have hq1:=(hb2.block w1.heap.size (by simp)).trans HK1.out
 have hb2':Below w.heap.size w (w2.alloc (.cells #[.slice ap2 y.p.length cp2, .slice an2 y.l.length cn2] 171)):=(HB1.out.trans (hb2.mono (by simp;omega))).alloc (by omega) _
 have m1:(w2.alloc (.cells #[.slice ap2 y.p.length cp2, .slice an2 y.l.length cn2] 171)).cell? ⟨w1.heap.size,1,none⟩ = some (.slice an1 x.l.length cn1):=cg_ (k:=1) ((heap_alloc_old _ _ (by omega)).trans hq1) rfl
 have hag:Agree (fun b=>S b ∨ S' b) (w1.alloc (.cells #[.slice ap1 x.p.length cp1, .slice an1 x.l.length cn1] 171)) (w2.alloc (.cells #[.slice ap2 y.p.length cp2, .slice an2 y.l.length cn2] 171)):=fun b hb=>by
  have:b < w.heap.size:=by rcases hb with hb | hb;exact HS.out b hb;exact HS'.out b hb
  exact (heap_alloc_old _ _ (by omega)).trans (hb2.block b (by simp;omega))
 have hEq:=eqInts_any x.l y.l an1 an2 cn1 cn2 (fun b=>S b ∨ S' b) _ ((HI1.out.wide fun b hb => .inl hb).agree hag) ((hI2.agree fun b hb=>heap_alloc_old _ _ (by have:=HS'.out b hb;omega)).wide fun b hb => .inr hb) (by omega) (by omega)
 have HEQ:=hid hEq
 have HB2:=hid hb2'
 clear hse hy hbz hI2 hb2 hb2' hq1 hag hEq
 cases bx <;> cases bz
 all_goals
  go_wp2_with fail
  first
   | (go_ret
      exact ⟨by rw [HSE.out];simp,HB2.out⟩)
   | (refine HEQ.out.mono ?_
      rintro e w3 ⟨rfl,hb3⟩
      have hb4:=HB2.out.trans (hb3.mono HB2.out.size)
      clear hb3
      go_wp2_with fail
      go_ret
      exact ⟨by rw [HSE.out];simp,hb4⟩)
end Go.Proofs.LF
namespace Go.Proofs.LF
open Go.RowKit Go.Sort
set_option maxHeartbeats 4000000
set_option maxRecDepth 100000
attribute [local go_sem] bs_toList bs_size bs_get
def kpN (p:Nat→Bool):Nat→Nat
 | 0=>0
 | j + 1=>if p j = true then kpN p j else kpN p j + 1
def kpC (k:Nat) (p:Nat→Bool) (cs:List Value):Nat→List Value
 | 0=>[]
 | j + 1=>if p j = true then kpC k p cs j else kpC k p cs j ++ (cs.drop (j * k)).take k
theorem kpN_all {p:Nat→Bool} {n:Nat} (h:∀ j,j < n→p j = false):∀ j,j ≤ n→kpN p j = j
 | 0,_=>rfl
 | j + 1,hj=>by rw [kpN,h j (by omega),if_neg (by simp),kpN_all h j (by omega)]
theorem kpC_all {p:Nat→Bool} {n m k:Nat} {cs:List Value} (h:∀ j,j < n→p j = false) (hl:cs.length = m * k):∀ j,j ≤ n→kpC k p cs j = cs.take (j * k)
 | 0,_=>by simp [kpC]
 | j + 1,hj=>by rw [kpC,h j (by omega),if_neg (by simp),kpC_all h hl j (by omega),Nat.add_mul,Nat.one_mul,List.take_add]
theorem idxN_neg {p:Nat→Bool} {n:Nat} {r:Int} (h:idxN p n = r) (hr:r < 0):r = -1∧∀ j,j < n→p j = false:=by
 rcases idxN_cases p n with ⟨h1,h2⟩ | ⟨i,_,h1,_⟩
 · exact ⟨h.symm.trans h1,h2⟩
 · omega
theorem idxN_pos {p:Nat→Bool} {n:Nat} {r:Int} (h:idxN p n = r) (hr:0 ≤ r):∃ f:Nat,r = f∧f < n∧p f = true∧∀ j,j < f→p j = false:=by
 rcases idxN_cases p n with ⟨h1,_⟩ | ⟨i,h0,h1,h2,h3⟩
 · omega
 · exact ⟨i,h.symm.trans h1,h0,h2,h3⟩
theorem setCells_row {g:Nat} {T:TypeId} {fr:Nat × Nat}:∀ (vs:List Value) (o:Nat) (w:World) (cur:Array Value),w.heap[g]? = some (.cells cur T fr)→∃ cur',(w.setCells g o vs).heap[g]? = some (.cells cur' T fr)∧cur'.size = cur.size∧(∀ q,q ≤ o→cur'.toList.take q = cur.toList.take q)∧(w.setCells g o vs).heap.size = w.heap.size
 | [],o,w,cur,h=>⟨cur,h,rfl,fun _ _=>rfl,rfl⟩
 | v :: vs,o,w,cur,h=>by
   have h1:(w.setCell ⟨g,o,none⟩ v).heap[g]? = some (.cells (cur.setIfInBounds o v) T fr):=setCell_at h
   obtain ⟨cur',k1,k2,k3,k4⟩:=setCells_row vs (o + 1) _ _ h1
   refine ⟨cur',k1,by simpa using k2,fun q hq=>?_,k4.trans (by simp [World.setCell])⟩
   rw [k3 q (by omega),Array.toList_setIfInBounds]
   apply List.ext_getElem?
   intro j
   simp only [List.getElem?_take,List.getElem?_set]
   by_cases hj:j < q
   · rw [if_pos hj,if_pos hj,if_neg (by omega)]
   · rw [if_neg hj,if_neg hj]
theorem setCells_other {g b:Nat} (h:b ≠ g):∀ (vs:List Value) (o:Nat) (w:World),(w.setCells g o vs).heap[b]? = w.heap[b]?
 | [],_,_=>rfl
 | v :: vs,o,w=>by
   have:=setCells_other h vs (o + 1) (w.setCell ⟨g,o,none⟩ v)
   exact this.trans (Below.heap_setCell _ _ _ _ h)
theorem clear_row {P:Program} {w:World} {z:Value} {cur:Array Value} {g i n c e k:Nat} {T t ty:TypeId} (ht:P.underlying t = some (.slice e)) (hv:∀ w,(zeroValue e).run P w = .ok z w) (hg:w.heap[g]? = some (.cells cur T (0,0))) (hin:i < n) (hnc:n ≤ c) (hs:cur.size = c * k) (hz:z.cells.size = k) (hz1:∀ v ∈ z.cells.toList,v.oneCell' = true) (hk:0 < k) :
 ∃ w' cur',(Builtin.clear_ #[t] ty #[.slice (some ⟨g,i * k,none⟩) (n - i) (c - i)]).run P w = .ok (.tuple #[]) w'∧w.grownBy w' (some g)∧w'.heap[g]? = some (.cells cur' T (0,0))∧cur'.size = cur.size∧cur'.toList.take (i * k) = cur.toList.take (i * k):=by
 obtain ⟨vs,hvs⟩:∃ vs,(Builtin.zeroCells z.cells (n - i)).toList = vs:=⟨_,rfl⟩
 have hl:vs.length = (n - i) * k:=by rw [← hvs,Array.length_toList,size_zeroCells,hz]
 have hone:∀ v ∈ vs,v.oneCell' = true:=by
  intro v hv'
  rw [← hvs] at hv'
  obtain ⟨q,hq,rfl⟩:=List.getElem_of_mem hv'
  refine hz1 _ ?_
  have hq':q < (Builtin.zeroCells z.cells (n - i)).size:=by simpa using hq
  have hk':q % z.cells.size < z.cells.size:=Nat.mod_lt _ (by omega)
  have:(Builtin.zeroCells z.cells (n - i)).toList[q] = z.cells[q % z.cells.size]:=by
   simp [Builtin.zeroCells,hk']
  rw [this]
  exact Array.getElem_mem_toList _
 have hlt:∀ j,j < vs.length→i * k + j < cur.size:=fun j hj=>by
  rw [hs]
  rw [hl] at hj
  have h1:(n - i) * k + i * k = n * k:=by rw [← Nat.add_mul];congr 1;omega
  have h2:n * k ≤ c * k:=Nat.mul_le_mul_right k hnc
  omega
 have hst:=run_storeCells_cells (P:=P) g (i * k) vs 0 w (fun j hj=>by
  rw [Nat.add_zero,cg_ hg (k:=i * k + j) (Array.getElem?_eq_getElem (hlt j hj))];rfl) (fun j hj=>by
  rw [Nat.add_zero];exact cells_frz hg) hone
 rw [Nat.add_zero] at hst
 obtain ⟨cur',k1,k2,k3,k4⟩:=setCells_row vs (i * k) w cur hg
 have hbl:=below_setCells (nl_ g) vs (i * k) w (Below.refl g w)
 refine ⟨w.setCells g (i * k) vs,cur',?_,⟨hbl.os,hbl.tape,hbl.output,by omega,fun b hb hne=>?_⟩,k1,k2,k3 _ (nl_ _)⟩
 · obtain ⟨m,hm⟩:∃ m,n - i = m + 1:=⟨n - i - 1,by omega⟩
   rw [hm] at hvs ⊢
   simp [Builtin.clear_,run_underlying ht,hv,hvs,hst]
 · exact setCells_other (fun e=>hne (by rw [e])) vs (i * k) w
theorem Tryz.zeroOf171 (w:World):(zeroValue 171).run Tryz.prog w = .ok (.agg #[.slice none 0 0, .slice none 0 0]) w:=by kernel_rfl
theorem set2_row' {w:World} {g o:Nat} {cur:Array Value} {t:TypeId} {x y:Value} (hg:w.heap[g]? = some (.cells cur t (0,0))) :
 ((w.setCell ⟨g,o,none⟩ x).setCell ⟨g,o + 1,none⟩ y).heap[g]? = some (.cells ((cur.setIfInBounds (o) x).setIfInBounds (o + 1) y) t (0,0)):=by
 simp [World.setCell,Array.getElem?_modify,hg]
theorem set2_other' {w:World} {g o b:Nat} {x y:Value} (h:b ≠ g):((w.setCell ⟨g,o,none⟩ x).setCell ⟨g,o + 1,none⟩ y).heap[b]? = w.heap[b]?:=by
 rw [Below.heap_setCell _ _ _ _ h,Below.heap_setCell _ _ _ _ h]
theorem set2_take {cur:Array Value} {cs:List Value} {i j:Nat} (hi:i * 2 + 2 ≤ cur.size) (hj:j * 2 + 2 ≤ cs.length) :
 ((cur.setIfInBounds (i * 2) (cs.getD (j * 2) undef)).setIfInBounds (i * 2 + 1) (cs.getD (j * 2 + 1) undef)).toList.take ((i + 1) * 2) = cur.toList.take (i * 2) ++ (cs.drop (j * 2)).take 2:=by
 apply List.ext_getElem?
 intro q
 simp only [Array.toList_setIfInBounds,List.getElem?_take,List.getElem?_set,List.getElem?_append,List.length_take,List.length_set,Array.length_toList,List.getElem?_drop]
 have hm:min (i * 2) cur.size = i * 2:=by omega
 rw [hm]
 by_cases h1:q < i * 2
 · simp only [h1,if_true]
   rw [if_pos (by omega)]
   repeat' rw [if_neg (by omega)]
 · simp only [h1,if_false]
   by_cases h2:q < (i + 1) * 2
   · rw [if_pos h2]
     obtain h3 | h3:q = i * 2 ∨ q = i * 2 + 1:=by omega
     all_goals subst h3
     · rw [if_neg (by omega)];rw [if_pos rfl,if_pos (by omega)]
       rw [if_pos (by omega),← getD_of_lt (by omega)]
       congr 1;omega
     · rw [if_pos rfl,if_pos (by omega)]
       rw [if_pos (by omega),← getD_of_lt (by omega)]
       congr 1;omega
   · rw [if_neg h2,if_neg (by omega)]
theorem clear2_row {P:Program} {w:World} {z:Value} {cur:Array Value} {g i n c e:Nat} {T:TypeId} (t ty:TypeId) (ht:P.underlying t = some (.slice e)) (hv:∀ w,(zeroValue e).run P w = .ok z w) (hg:w.heap[g]? = some (.cells cur T (0,0))) (hin:i < n) (hnc:n ≤ c) (hs:cur.size = c * 2) (hz:z.cells.size = 2:=by rfl) (hz1:∀ v ∈ z.cells.toList,v.oneCell' = true:=by simp [Value.cells,Value.oneCell']) :
 ∃ w' cur',(Builtin.clear_ #[t] ty #[.slice (some ⟨g,i * 2,none⟩) (n - i) (c - i)]).run P w = .ok (.tuple #[]) w'∧w.grownBy w' (some g)∧w'.heap[g]? = some (.cells cur' T (0,0))∧cur'.size = cur.size∧cur'.toList.take (i * 2) = cur.toList.take (i * 2):=by
 refine clear_row ht hv hg hin hnc hs hz hz1 (by omega)
theorem del_flat (g:Nat) (hE:Enters g) (p:Nat→Bool) (caps:List Value) (n B gg c:Nat) (cs:List Value) (w:World) (hown:w.ownsRow B 171 2 (.slice (some ⟨gg,0,none⟩) n c) n cs) (hsh:∀ j,j < n→∃ x0 y0 z0 x1 y1 z1,cs.getD (j * 2) undef = (.slice x0 y0 z0)∧cs.getD (j * 2 + 1) undef = (.slice x1 y1 z1)) (hlen:n ≤ 100000)
 (hp:∀ i,i < n→∀ W,w.grownBy W (some gg)→Calls Tryz.prog g ([elemV 2 cs i] ++ caps).toArray W fun e w'=>e = .returned (.bool (p i))∧Below W.heap.size W w') :
 Calls Tryz.prog 130 #[.slice (some ⟨gg,0,none⟩) n c, .func (.func g) #[] caps.toArray] w fun e w'=>e = .returned (.slice (some ⟨gg,0,none⟩) (kpN p n) c)∧w'.ownsRow B 171 2 (.slice (some ⟨gg,0,none⟩) (kpN p n) c) (kpN p n) (kpC 2 p cs n)∧w.grownBy w' (some gg):=by
 have hE':∀ (args:Array Value) (W:World),Sem.run Tryz.prog (callFunc g args) W = .ok (.enter g args) W:=hE
 have hsl:=SlC.of_owns hown
 obtain ⟨h1,⟨h0,_⟩ | ⟨g',cap,cur0,he,hbg,hg0,hnc,hcap,hcs0,htk0⟩⟩:=id hown
 · cases h0
 cases he
 unfold maxLen at hcap
 have hgl:gg < w.heap.size:=(Array.getElem?_eq_some_iff.1 hg0).1
 have IDX:=hid (idx_flat g hE p caps n (some ⟨gg,0,none⟩) c cs _ w hsl (fun b hb=>hb.2) hlen (fun i hi W hW=>hp i hi W ⟨hW.os,hW.tape,hW.output,hW.size,fun b hb _=>hW.block b hb⟩))
 have HP:=hid hp
 have HG0:=hid hg0
 have HCS0:=hid hcs0
 have HTK0:=hid htk0
 have HOWN:=hid hown
 have HCS:=hid h1
 have HSH:=hid hsh
 clear hp hown hsl hE hg0 hcs0 htk0 h1 hsh
 go_enter Tryz.func130,Tryz.ntmps130
 go_wp2_with fail
 refine IDX.out.mono ?_
 rintro e w1 ⟨rfl,hb1⟩
 have hz1:=hb1.size
 have HB1:=hid hb1
 obtain ⟨r,hr⟩:∃ r,idxN p n = r:=⟨_,rfl⟩
 rw [hr]
 have HR:=hid hr
 clear hr IDX hb1
 rcases Int.lt_or_le r 0 with hneg | hpos
 · have hno:=idxN_neg HR.out hneg
   obtain rfl:=hno.1
   have HNO:=hid hno.2
   clear hno hneg HR
   go_wp2_with fail
   go_ret
   have hgr:w.grownBy w1 (some gg):=⟨HB1.out.os,HB1.out.tape,HB1.out.output,HB1.out.size,fun b hb _=>HB1.out.block b hb⟩
   rw [kpN_all HNO.out n (nl_ _),kpC_all HNO.out HCS.out n (nl_ _),List.take_of_length_le (Nat.le_of_eq HCS.out)]
   exact ⟨rfl,ob_ HOWN.out HB1.out (nl_ _),hgr⟩
 · obtain ⟨f,hrf,hfn,hfp,hfno⟩:=idxN_pos HR.out hpos
   have HRF:=hid hrf
   have HFP:=hid hfp
   have HFNO:=hid hfno
   have hff:¬ r = -1:=by omega
   have hr1:r < 100000:=by omega
   have HFN:=hid hfn
   clear HR hfp hfno hrf hfn
   go_wp2_with fail
   clear hff hpos hr1
   obtain ⟨bb,hbb⟩:∃ bb,(r == -1) = bb:=⟨_,rfl⟩
   rw [hbb]
   clear hbb
   go_loopw [5,6] (fun vi vj wr=>∃ (i j:Nat) (cur:Array Value),vi = .int .i64 i∧vj = .int .i64 j∧i < j∧j ≤ n∧Hid (kpN p j = i)∧Hid (w.grownBy wr (some gg))∧Hid (wr.heap[gg]? = some (.cells cur 171 (0,0)))∧Hid (cur.size = c * 2)∧Hid (cur.toList.take (i * 2) = kpC 2 p cs j)∧Hid (∀ q,j * 2 ≤ q→q < n * 2→cur[q]? = cs[q]?)) (fun _ vj _=>n - (intOf vj).toNat)
   case atStart=>
    have hfn:=HFN.out
    refine ⟨f,f + 1,cur0,by rw [HRF.out],by rw [HRF.out];go_num,by omega,by omega,?_,?_,?_,HCS0.out,?_,?_⟩
    · show kpN p (f + 1) = f
      rw [kpN,HFP.out,if_pos rfl,kpN_all HFNO.out f (nl_ _)]
    · exact ⟨HB1.out.os,HB1.out.tape,HB1.out.output,HB1.out.size,fun b hb _=>HB1.out.block b hb⟩
    · exact (HB1.out.block gg hgl).trans HG0.out
    · show cur0.toList.take (f * 2) = kpC 2 p cs (f + 1)
      rw [kpC,HFP.out,if_pos rfl,kpC_all HFNO.out HCS.out f (by omega),← HTK0.out,List.take_take,Nat.min_eq_left (Nat.mul_le_mul_right 2 (Nat.le_of_lt hfn))]
    · intro q _ hq
      have h2:=HTK0.out
      rw [← h2,List.getElem?_take,if_pos hq,Array.getElem?_toList]
   case round=>
    rename_i _ _ wr
    obtain ⟨i,j,cur,rfl,rfl,hij,hjn,HK,HGR,HG,HSZ,HT,HQ⟩:=hrel
    have hzr:=HGR.out.size
    by_cases hlt:j < n
    · have hlt':(j:Int) < (n:Int):=by omega
      obtain ⟨x0,y0,z0,x1,y1,z1,s0,s1⟩:=HSH.out j hlt
      have hel:elemV 2 cs j = .agg #[.slice x0 y0 z0, .slice x1 y1 z1]:=by simp [elemV,List.range_succ,s0,s1, -List.getD_eq_getElem?_getD]
      have q0:j * 2 + 0 < n * 2:=by omega
      have c0:wr.cell? ⟨gg,j * 2,none⟩ = some (.slice x0 y0 z0):=cg_ HG.out (k:=j * 2) ((HQ.out (j * 2) (by omega) (by omega)).trans ((getD_of_lt (by rw [HCS.out];omega)).trans (by rw [s0])))
      have q1:j * 2 + 1 < n * 2:=by omega
      have c1:wr.cell? ⟨gg,j * 2 + 1,none⟩ = some (.slice x1 y1 z1):=cg_ HG.out (k:=j * 2 + 1) ((HQ.out (j * 2 + 1) (by omega) (by omega)).trans ((getD_of_lt (by rw [HCS.out];omega)).trans (by rw [s1])))
      have NB:=hid (heap_alloc_new wr (.cells #[.slice x0 y0 z0, .slice x1 y1 z1] 171))
      have BA:=hid ((Below.refl wr.heap.size wr).alloc (nl_ _) (.cells #[.slice x0 y0 z0, .slice x1 y1 z1] 171))
      have m0:=cg_ NB.out (k:=0) (v:=(.slice x0 y0 z0)) rfl
      have m1:=cg_ NB.out (k:=1) (v:=(.slice x1 y1 z1)) rfl
      obtain ⟨wa,hwa⟩:∃ wa,wr.alloc (.cells #[.slice x0 y0 z0, .slice x1 y1 z1] 171) = wa:=⟨_,rfl⟩
      have hza:wr.heap.size < wa.heap.size:=by rw [← hwa];simp
      rw [hwa] at NB BA m0 m1
      have HWA:=hid hwa
      have CALL:=hid (HP.out j hlt wa ⟨BA.out.os.trans HGR.out.os,BA.out.tape.trans HGR.out.tape,BA.out.output.trans HGR.out.output,by omega,fun b hb hne=>(BA.out.block b (by omega)).trans (HGR.out.block b hb hne)⟩)
      rw [hel] at CALL
      have HSS:=hid (And.intro s0 s1)
      clear hwa hel s0 s1
      go_wp2_with fail
      rw [HWA.out]
      go_wp2_with fail
      refine CALL.out.mono ?_
      rintro e w2 ⟨rfl,hb2⟩
      have hz2:=hb2.size
      have hbx:Below wr.heap.size wr w2:=BA.out.trans (hb2.mono (by omega))
      have hgr2:w.grownBy w2 (some gg):=⟨hbx.os.trans HGR.out.os,hbx.tape.trans HGR.out.tape,hbx.output.trans HGR.out.output,by omega,fun b hb hne=>(hbx.block b (by omega)).trans (HGR.out.block b hb hne)⟩
      have hg2:w2.heap[gg]? = some (.cells cur 171 (0,0)):=(hbx.block gg (by omega)).trans HG.out
      replace m0:=bc_ hb2 hza m0
      replace m1:=bc_ hb2 hza m1
      have HGR2:=hid hgr2
      have HG2:=hid hg2
      clear HWA CALL hb2 hbx hgr2 hg2 BA NB c0 c1
      cases hpj:p j with
      | true=>
        have HPJ:=hid hpj
        clear hpj
        go_wp2_with fail
        go_roundw
        case rel=>
         refine ⟨i,j + 1,cur,rfl,by go_num,by omega,by omega,?_,HGR2,HG2,HSZ,?_,fun q h1 h2=>HQ.out q (by omega) h2⟩
         · show kpN p (j + 1) = i
           rw [kpN,HPJ.out,if_pos rfl,HK.out]
         · show cur.toList.take (i * 2) = kpC 2 p cs (j + 1)
           rw [kpC,HPJ.out,if_pos rfl,HT.out]
        case measure=>simp [intOf];omega
      | false=>
        have HPJ:=hid hpj
        clear hpj
        have hin:(i:Int) < (n:Int):=by omega
        have hi0:(0:Int) ≤ (i:Int):=by omega
        have hsz:=HSZ.out
        have f0:=cells_frz HG2.out (k:=i * 2)
        have e0:=cg_ HG2.out (k:=i * 2) (Array.getElem?_eq_getElem (show i * 2 < cur.size by omega))
        have f1:=cells_frz HG2.out (k:=i * 2 + 1)
        have e1:=cg_ HG2.out (k:=i * 2 + 1) (Array.getElem?_eq_getElem (show i * 2 + 1 < cur.size by omega))
        go_wp2_with fail
        go_roundw
        case rel=>
         refine ⟨i + 1,j + 1,((cur.setIfInBounds (i * 2) (.slice x0 y0 z0)).setIfInBounds (i * 2 + 1) (.slice x1 y1 z1)),by go_num,by go_num,by omega,by omega,?_,?_,?_,?_,?_,?_⟩
         · show kpN p (j + 1) = i + 1
           rw [kpN,HPJ.out,if_neg (by simp),HK.out]
         · exact ⟨HGR2.out.os,HGR2.out.tape,HGR2.out.output,by simpa [World.setCell] using HGR2.out.size,fun b hb hne=>(set2_other' (fun e=>hne (by rw [e]))).trans (HGR2.out.block b hb hne)⟩
         · exact set2_row' HG2.out
         · show _ = _
           simpa using HSZ.out
         · show List.take _ _ = _
           rw [kpC,HPJ.out,if_neg (by simp),← HT.out]
           have hss:=HSS.out
           rw [← hss.1,← hss.2]
           exact set2_take (by have:=HSZ.out;omega) (by rw [HCS.out];omega)
         · intro q h1 h2
           rw [← HQ.out q (by omega) h2]
           simp only [Array.getElem?_setIfInBounds]
           repeat' rw [if_neg (by omega)]
        case measure=>simp [intOf];omega
    · obtain rfl:j = n:=by omega
      have hlt':¬ (j:Int) < (j:Int):=by omega
      have hin:(i:Int) ≤ (j:Int):=by omega
      have hin':(i:Int) ≤ (c:Int):=by omega
      obtain ⟨w3,cur3,hclr,hgr3,hg3,hs3,ht3⟩:=clear2_row 167 0 (z := .agg #[.slice none 0 0, .slice none 0 0]) Tryz.underlying167 Tryz.zeroOf171 HG.out (i:=i) (n:=j) (c:=c) hij (by omega) HSZ.out
      have HGR3:=hid hgr3
      have HG3:=hid hg3
      have HT3:=hid ht3
      have hs3':=hid hs3
      clear hgr3 hg3 ht3 hs3
      go_wp2_with fail
      go_ret
      rw [HK.out]
      refine ⟨rfl,⟨by rw [← HT.out,List.length_take,Array.length_toList,HSZ.out];omega, .inr ⟨gg,c,cur3,rfl,hbg,HG3.out,by omega,by unfold maxLen;omega,hs3'.out.trans HSZ.out,HT3.out.trans HT.out⟩⟩,?_⟩
      exact ⟨HGR3.out.os.trans HGR.out.os,HGR3.out.tape.trans HGR.out.tape,HGR3.out.output.trans HGR.out.output,by have:=HGR3.out.size;omega,fun b hb hne=>(HGR3.out.block b (by omega) hne).trans (HGR.out.block b hb hne)⟩
end Go.Proofs.LF
