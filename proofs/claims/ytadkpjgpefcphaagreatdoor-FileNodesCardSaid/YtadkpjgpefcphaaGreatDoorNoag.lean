/- Parts of the proof of a law of layer 11 (file): LfW11, LfW57. The conditions stand in each theorem. -/
import Derived.Deep.Cut
import Derived.Deep.CutBlock
import Derived.Deep.CutRange
import Derived.Test.YtadkpjgpefcphaaGreatDoorProg
import Derived.Test.YtadkpjgpefcphaaGreatDoorNoaa
import Derived.Test.YtadkpjgpefcphaaGreatDoorNoae
import Derived.Test.YtadkpjgpefcphaaGreatDoorNoaf
set_option linter.all false
set_option linter.unusedVariables false
set_option linter.unusedSimpArgs false
namespace Go.Proofs.LF
open Go.RowKit
set_option maxHeartbeats 4000000
set_option maxRecDepth 100000
attribute [local go_sem] bs_toList bs_size bs_get
section
variable {P:Program} (w:World)
theorem run_append_str_at (base:Nat) (t u ty e:TypeId) (i:TypeInfo) (ht:P.underlying t = some (.slice e)) (hu:P.underlying u = some .string) (hi:P.info? e = some i) (hz:i.zero = some (.int .u8 0))
 (hsize:i.size = 1) (hby:i.bytes = 1)
 (v:Value) (n:Nat) (xs:List Value) (hown:w.ownsRow base e 1 v n xs) (s:ByteArray)
 (h63:n + s.size ≤ maxLen) (hbytes:n + s.size ≤ 140737488355328) (hbase:base ≤ w.heap.size) :
 ∃ v' w',(Builtin.append_ #[t,u] ty #[v, .string s]).run P w = .ok v' w'∧w'.ownsRow base e 1 v' (n + s.size) (xs ++ Lib.strCells s)∧w.grownBy w' v.ownBlock ∧
  (∀ g,v'.ownBlock = some g→v.ownBlock = some g ∨ w.heap.size ≤ g):=by
 obtain ⟨v',w',hr,h2,h3,h4⟩:=Lib.run_append_own_string (P:=P) w base t u ty e i ht hu hi hz hsize hby v n xs hown s h63 hbytes hbase
 refine ⟨v',w',hr,h2,h3,?_⟩
 have hsmall:n + s.size ≤ 9223372036854775807:=by simp only [maxLen] at h63;omega
 have hxl:xs.length = n:=by simpa using hown.1
 rcases hown.2 with ⟨rfl,rfl⟩ | ⟨g,cap,cur,rfl,hbg,hg,hnc,hcm,hcs,htake⟩
 · obtain ⟨v2,w2,hr2,k2,k3,_⟩:=Lib.run_append_own_string (P:=P) w w.heap.size t u ty e i ht hu hi hz hsize hby (.slice none 0 0) 0 [] (World.ownsRow_nil _ _ _ _) s h63 hbytes (nl_ _)
   rw [hr] at hr2
   cases hr2
   exact fun g hg => .inr (k2.lt g hg).1
 · by_cases hroom:n + s.size ≤ cap
   · have hcs':cur.size = cap:=by simpa using hcs
     have hr2:=Lib.run_append_room_string (P:=P) w t u ty e i ht hu hi hsize g n cap cur hg s hroom (by omega)
     rw [hr] at hr2
     cases hr2
     exact fun g' hg' => .inl hg'
   · have holds:∀ j u,xs[j]? = some u→w.cell? ((⟨g,0,none⟩:Addr).add j) = some u:=hown.cells (g:=g) rfl
     have hr2:=Lib.run_append_grow_string (P:=P) w t u ty e i (.int .u8 0) ht hu hi hz ⟨g,0,none⟩ n cap xs (by rw [hsize];simpa using hxl) holds s (by omega) (by omega) (by rw [hby];exact growslice_fits (by omega) (by omega))
     rw [hr] at hr2
     cases hr2
     intro g' hg'
     right
     simp [Value.ownBlock] at hg'
     omega
theorem wpList_append_str {ops:Array Oper} {rest:List Oper} {o:Oper} {a:Act} {Q:Exit→Act→World→Prop} (hgd:o.guard = none) (sl x:Operand) (t u:TypeId)
 (ho:o.op = .call { callee := .builtin .append,args:=#[sl,x],argTypes:=#[t,u] })
 (base:Nat) (e:TypeId) (i:TypeInfo) (ht:P.underlying t = some (.slice e)) (hu:P.underlying u = some .string) (hi:P.info? e = some i) (hz:i.zero = some (.int .u8 0))
 (hsize:i.size = 1) (hby:i.bytes = 1)
 (v:Value) (n:Nat) (xs:List Value) (hs:a.eval sl = v) (hown:w.ownsRow base e 1 v n xs) (s:ByteArray) (hx:a.eval x = .string s)
 (h63:n + s.size ≤ maxLen) (hbytes:n + s.size ≤ 140737488355328) (hbase:base ≤ w.heap.size)
 (h:∀ v' w',w'.ownsRow base e 1 v' (n + s.size) (xs ++ Lib.strCells s)→w.grownBy w' v.ownBlock→(∀ g,v'.ownBlock = some g→v.ownBlock = some g ∨ w.heap.size ≤ g)→wpList P ops Q rest (a.put o.dst v') w'):wpList P ops Q (o :: rest) a w:=by
 refine wpList_plain hgd fun K hK=>?_
 obtain ⟨v',w',hr,h2,h3,h4⟩:=run_append_str_at (P:=P) w base t u o.type e i ht hu hi hz hsize hby v n xs hown s h63 hbytes hbase
 unfold Oper.wp execOp
 simp only [ho,resolve,invoke,builtin,Sem.run_bind,Sem.run_pure,Result.andThen_ok,List.map_toArray,List.map_cons,List.map_nil,hs,hx,hr]
 exact hK _ _ (h v' w' h2 h3 h4)
end
def Bld (b:Nat) (v:Value) (l:List UInt8) (W:World):Prop:=
 ∃ p,(p = .pointer none ∨ p = .pointer (some ⟨b,0,none⟩))∧W.heap[b]? = some (.cells #[p,v] 144 (0,0))∧W.ownsRow b 5 1 v l.length (Lib.byteCells l)∧v.ownBlock ≠ some b
def BldU (b:Nat) (v:Value) (l:List UInt8) (W:World):Prop:=
 W.heap[b]? = some (.cells #[.pointer (some ⟨b,0,none⟩),v] 144 (0,0))∧W.ownsRow b 5 1 v l.length (Lib.byteCells l)∧v.ownBlock ≠ some b
theorem Bld.lt {b:Nat} {v:Value} {l:List UInt8} {W:World} (h:Bld b v l W):b < W.heap.size:=by
 obtain ⟨p,_,h,_⟩:=h
 exact (Array.getElem?_eq_some_iff.1 h).1
theorem Bld.is {b:Nat} {v:Value} {l:List UInt8} {W:World} (h:Bld b v l W):Lib.IsBuilder 144 5 b b (Lib.byteCells l) W:=by
 obtain ⟨p,hp,h1,h2,h3⟩:=h
 rcases hp with rfl | rfl
 · exact .inl ⟨nl_ _,v,h1,by rw [Lib.byteCells_length];exact h2,h3⟩
 · exact .inr ⟨nl_ _,v,h1,by rw [Lib.byteCells_length];exact h2,h3⟩
def BldO (b:Nat) (v:Value):Nat→Prop:=fun k=>k = b ∨ v.ownBlock = some k
theorem Bld.agree {b:Nat} {v:Value} {l:List UInt8} {W W':World} (h:Bld b v l W) (ha:∀ k,BldO b v k→W'.heap[k]? = W.heap[k]?):Bld b v l W':=by
 obtain ⟨p,hp,h1,h2,h3⟩:=h
 refine ⟨p,hp,(ha b (.inl rfl)).trans h1,?_,h3⟩
 refine ⟨h2.1,h2.2.imp id ?_⟩
 rintro ⟨g,cap,cur,rfl,hb,hg,r⟩
 exact ⟨g,cap,cur,rfl,hb,(ha g (.inr rfl)).trans hg,r⟩
theorem BldO.lt {b:Nat} {v:Value} {l:List UInt8} {W:World} (h:Bld b v l W):∀ k,BldO b v k→k < W.heap.size:=by
 rintro k (rfl | hk)
 · exact h.lt
 · obtain ⟨_,_,_,h2,_⟩:=h
   exact (h2.lt k hk).2
theorem BldO.ge {b:Nat} {v:Value} {l:List UInt8} {W:World} (h:Bld b v l W):∀ k,BldO b v k→b ≤ k:=by
 rintro k (rfl | hk)
 · exact nl_ _
 · obtain ⟨_,_,_,h2,_⟩:=h
   exact (h2.lt k hk).1
theorem copyCheck_any (b:Nat) (v:Value) (l:List UInt8) (w:World) (h:Bld b v l w) :
 Calls Tryz.prog 181 #[.pointer (some ⟨b,0,none⟩)] w fun e w'=>e = .returned (.tuple #[])∧BldU b v l w'∧Keep (· = b) w w'∧w'.heap.size = w.heap.size:=by
 obtain ⟨p,hp,h1,h2,h3⟩:=h
 rcases hp with rfl | rfl
 · refine (Any.Builder_copyCheck_fresh (ρ:=Tryz.lays156_ren) { Tryz.lays156 with } Tryz.Builder_Extra_156.toX72 b w (by simp [World.cell?,h1]) (by simp [World.shape?,h1];decide) (by simp [World.frozen?,h1])).mono ?_
   rintro e w' ⟨rfl,rfl⟩
   refine ⟨rfl,⟨?_,?_,h3⟩,Keep.setCell rfl,by simp [World.setCell]⟩
   · simp [World.setCell,Array.getElem?_modify,h1]
   · refine ⟨h2.1,h2.2.imp id ?_⟩
     rintro ⟨g,cap,cur,rfl,hb,hg,r⟩
     exact ⟨g,cap,cur,rfl,hb,(Below.heap_setCell _ _ _ _ (by simpa [Value.ownBlock] using h3)).trans hg,r⟩
 · refine (Any.Builder_copyCheck_used (ρ:=Tryz.lays156_ren) { Tryz.lays156 with } Tryz.Builder_Extra_156.toX72 b w (by simp [World.cell?,h1])).mono ?_
   rintro e w' ⟨rfl,rfl⟩
   exact ⟨rfl,⟨h1,h2,h3⟩,Keep.refl _ _,rfl⟩
theorem Tryz.info5:(Tryz.prog.info? 5).map (fun i=>(i.zero,i.size,i.bytes)) = some (some (.int .u8 0),1,1):=by kernel_rfl
theorem WriteByte_any (b:Nat) (v:Value) (l:List UInt8) (c:UInt8) (w:World) (h:Bld b v l w) (hlen:l.length ≤ 100000000) :
 Calls Tryz.prog 89 #[.pointer (some ⟨b,0,none⟩), .int .u8 c.toNat] w fun e w'=>e = .returned .nilIface∧∃ v',Bld b v' (l ++ [c]) w'∧Keep (BldO b v) w w'∧(∀ k,BldO b v' k→BldO b v k ∨ w.heap.size ≤ k):=by
 have hlt:=h.lt
 obtain ⟨i0,hi0,hz0,hz1,hz2⟩:=info_parts Tryz.info5
 go_enter Tryz.func89,Tryz.ntmps89
 go_wp2_with fail
 refine (copyCheck_any b v l w h).mono ?_
 rintro e w1 ⟨rfl,⟨hbk,hown,hne⟩,hk1,hs1'⟩
 have hs1:=hid hs1'
 clear hs1'
 have c0:w1.cell? ⟨b,0,none⟩ = some (.pointer (some ⟨b,0,none⟩)):=by simp [World.cell?,hbk]
 have c1:w1.cell? ⟨b,1,none⟩ = some v:=by simp [World.cell?,hbk]
 go_wp2_with (at_builtin;refine wpList_append_lies _ rfl _ _ _ rfl b 5 i0 _ 1 1 Tryz.underlying57 hi0 hz0 hz1 hz2 rfl (by omega) v l.length (Lib.byteCells l) rfl (hown.alloc _) ⟨w1.heap.size,0,none⟩ 1 1 [.int .u8 c.toNat] rfl rfl (World.news_of_block (cs:=#[.int .u8 c.toNat]) (t:=5) (fr:=(0,0)) (heap_alloc_new _ _)) (by simp [Value.oneCell']) (by omega) (by unfold maxLen;omega) (by omega) (by have:=hs1.out;simp;omega) (w1.heap.size + 1) (by simp) ?_)
 have hs1:=hs1.out
 intro g cap w2 hown' hgrow hat hltt
 have hb2:w2.heap[b]? = some (.cells #[.pointer (some ⟨b,0,none⟩),v] 144 (0,0)):=by
  rw [hgrow.block b (by simp;omega) (fun e=>hne e.symm),Below.heap_alloc w1 _ b (by omega)]
  exact hbk
 have d0:w2.cell? ⟨b,0,none⟩ = some (.pointer (some ⟨b,0,none⟩)):=by simp [World.cell?,hb2]
 have d1:w2.cell? ⟨b,1,none⟩ = some v:=by simp [World.cell?,hb2]
 have f1:w2.frozen? ⟨b,1,none⟩ = false:=by simp [World.frozen?,hb2]
 have hgb:g ≠ b:=by
  rcases hat with hat | hat
  · rintro rfl;exact hne hat
  · omega
 go_wp2_with fail
 go_ret
 refine ⟨rfl, .slice (some ⟨g,0,none⟩) (l.length + 1) cap,⟨_, .inr rfl,?_,?_,?_⟩,?_,?_⟩
 · simp [World.setCell,Array.getElem?_modify,hb2]
 · refine ⟨by have:=hown'.1;simpa [Lib.byteCells] using this, .inr ?_⟩
   rcases hown'.2 with ⟨h,_⟩ | ⟨g',cap',cur,hv,hb,hg,r⟩
   · cases h
   · cases hv
     refine ⟨g,cap,cur,by simp,hb,(Below.heap_setCell _ _ _ _ hgb).trans hg,?_⟩
     simpa [Lib.byteCells] using r
 · simp [Value.ownBlock,hgb]
 · refine ((hk1.mono fun k _ h => .inl h).trans ⟨?_,?_,?_,?_,?_⟩)
   · exact hgrow.os
   · exact hgrow.tape
   · exact hgrow.output
   · have:=hgrow.size;simp [World.setCell] at *;omega
   · intro k hk ho
     have e1:k ≠ b:=fun e=>ho (.inl e)
     rw [Below.heap_setCell _ _ _ _ (by simpa using e1),hgrow.block k (by simp;omega) (fun e=>ho (.inr e.symm)),Below.heap_alloc w1 _ k hk]
 · rintro k (rfl | hk)
   · exact .inl (.inl rfl)
   · simp [Value.ownBlock] at hk
     subst hk
     rcases hat with hat | hat
     · exact .inl (.inr hat)
     · exact .inr (by omega)
theorem WriteString_any (b:Nat) (v:Value) (l s:List UInt8) (w:World) (h:Bld b v l w) (hlen:l.length ≤ 100000000) (hs:s.length ≤ 100000000) :
 Calls Tryz.prog 91 #[.pointer (some ⟨b,0,none⟩), .string (bs s)] w fun e w'=>e = .returned (.tuple #[.int .i64 s.length, .nilIface])∧∃ v',Bld b v' (l ++ s) w'∧Keep (BldO b v) w w'∧(∀ k,BldO b v' k→BldO b v k ∨ w.heap.size ≤ k):=by
 have hlt:=h.lt
 obtain ⟨i0,hi0,hz0,hz1,hz2⟩:=info_parts Tryz.info5
 go_enter Tryz.func91,Tryz.ntmps91
 go_wp2_with fail
 refine (copyCheck_any b v l w h).mono ?_
 rintro e w1 ⟨rfl,⟨hbk,hown,hne⟩,hk1,hs1'⟩
 have hs1:=hid hs1'
 clear hs1'
 have c0:w1.cell? ⟨b,0,none⟩ = some (.pointer (some ⟨b,0,none⟩)):=by simp [World.cell?,hbk]
 have c1:w1.cell? ⟨b,1,none⟩ = some v:=by simp [World.cell?,hbk]
 go_wp2_with (at_builtin;refine wpList_append_str _ rfl _ _ _ _ rfl b 5 i0 Tryz.underlying57 Tryz.underlying9 hi0 hz0 hz1 hz2 v l.length (Lib.byteCells l) rfl hown (bs s) rfl (by unfold maxLen;rw [bs_size];omega) (by rw [bs_size];omega) (by have:=hs1.out;omega) ?_)
 have hs1:=hs1.out
 intro v' w2 hown' hgrow hat
 have hb2:w2.heap[b]? = some (.cells #[.pointer (some ⟨b,0,none⟩),v] 144 (0,0)):=by
  rw [hgrow.block b (by omega) (fun e=>hne e.symm)]
  exact hbk
 have d0:w2.cell? ⟨b,0,none⟩ = some (.pointer (some ⟨b,0,none⟩)):=by simp [World.cell?,hb2]
 have d1:w2.cell? ⟨b,1,none⟩ = some v:=by simp [World.cell?,hb2]
 have f1:w2.frozen? ⟨b,1,none⟩ = false:=by simp [World.frozen?,hb2]
 have hgb:v'.ownBlock ≠ some b:=by
  intro h
  rcases hat b h with hat | hat
  · exact hne hat
  · omega
 obtain ⟨ao,n',cap,rfl⟩:∃ ao n' cap,v' = .slice ao n' cap:=by
  rcases hown'.2 with ⟨hv,_⟩ | ⟨g,cap,cur,hv,_⟩
  · exact ⟨_,_,_,hv⟩
  · exact ⟨_,_,_,hv⟩
 go_wp2_with fail
 go_ret2
 refine ⟨by simp, .slice ao n' cap,⟨_, .inr rfl,?_,?_,hgb⟩,?_,?_⟩
 · simp [World.setCell,Array.getElem?_modify,hb2]
 · have e1:Lib.byteCells l ++ Lib.strCells (bs s) = Lib.byteCells (l ++ s):=by simp [Lib.byteCells,Lib.strCells,bs_data]
   rw [e1] at hown'
   rw [List.length_append]
   refine ⟨hown'.1,hown'.2.imp id ?_⟩
   rintro ⟨g',cap',cur,hv,hb,hg,r⟩
   refine ⟨g',cap',cur,hv,hb,(Below.heap_setCell _ _ _ _ ?_).trans hg,r⟩
   rintro rfl
   exact hgb (by rw [hv];rfl)
 · refine ((hk1.mono fun k _ h => .inl h).trans ⟨?_,?_,?_,?_,?_⟩)
   · exact hgrow.os
   · exact hgrow.tape
   · exact hgrow.output
   · have:=hgrow.size;simp [World.setCell] at *;omega
   · intro k hk ho
     have e1:k ≠ b:=fun e=>ho (.inl e)
     rw [Below.heap_setCell _ _ _ _ (by simpa using e1),hgrow.block k (by omega) (fun e=>ho (.inr e.symm))]
 · rintro k (rfl | hk)
   · exact .inl (.inl rfl)
   · rcases hat k hk with hat | hat
     · exact .inl (.inr hat)
     · exact .inr (by omega)
end Go.Proofs.LF
namespace Go.Proofs.LF
open Go.RowKit
set_option maxHeartbeats 4000000
set_option maxRecDepth 100000
attribute [local go_sem] bs_toList bs_size bs_get
theorem enters110:∀ (args:Array Value) (W:World),(callFunc 110 args).run Tryz.prog W = .ok (.enter 110 args) W:=by
 intro args W
 simp [go_sem]
theorem eqNodesR_any (m:Nat) (hcl:NodeEqC 110 m) (y z:Fo) (ay:Option Addr) (cy:Nat) (az:Option Addr) (cz:Nat) (S:Nat→Prop) (w:World) (hm:y.cnt < m + 1) (hy:FSl S w (.slice ay y.len cy) y) (hz:FSl S w (.slice az z.len cz) z) (hS:∀ b,S b→b < w.heap.size) (ly:y.len ≤ 1000) (lz:z.len ≤ 1000) (sy:y.Sm) (sz:z.Sm) :
 Calls Tryz.prog 109 #[.slice ay y.len cy, .slice az z.len cz, .func (.func 110) #[] #[]] w fun e w'=>e = .returned (.bool (decide (y = z)))∧Below w.heap.size w w':=by
 obtain ⟨_,_,he,hc,hm1,hat⟩:=hy.at
 cases he
 obtain ⟨_,_,he,hc',hm2,hat'⟩:=hz.at
 cases he
 unfold maxLen at hm1 hm2
 have HC:=hid hcl
 clear hcl
 have hE:=enters110
 by_cases hne:y.len = z.len
 · have hne':((y.len:Int) != (z.len:Int)) = false:=by simp;omega
   have HN:=hid hne
   clear hne
   go_enter Tryz.func109,Tryz.ntmps109
   go_wp2_with fail
   go_loopw [17] (fun i wr=>∃ k:Nat,k ≤ y.len∧i = .int .i64 k∧Hid (y.take k = z.take k)∧Below w.heap.size w wr) (fun i _=>y.len - (intOf i).toNat)
   case atStart=>exact ⟨0,by omega,rfl,by simp [Hid,Fo.take],Below.refl _ _⟩
   case round=>
    obtain ⟨k,hk,rfl,H2,hB⟩:=hrel
    have HAT:=hid hat
    have HAT':=hid hat'
    clear hat hat'
    by_cases hlt:k < y.len
    · obtain ⟨g,o,n,l,s,r,an,cn,ab,cb,rfl,hg1,hd,hc0,hc1,hc2,hI,hF⟩:=HAT.out k hlt
      obtain ⟨g',o',n',l',s',r',an',cn',ab',cb',rfl,hg1',hd',hc0',hc1',hc2',hI',hF'⟩:=HAT'.out k (by have:=HN.out;omega)
      have hlt':(k:Int) < (z.len:Int):=by have:=HN.out;omega
      have ha:Agree S w wr:=Ag_b hB hS
      have c0:=ha.cell hg1 hc0
      have c1:=ha.cell hg1 hc1
      have c2:=ha.cell hg1 hc2
      have d0:=ha.cell hg1' hc0'
      have d1:=ha.cell hg1' hc1'
      have d2:=ha.cell hg1' hc2'
      obtain ⟨s1,s2,s3,s4,_⟩:n.length ≤ 1000∧l.length ≤ 1000∧s.len ≤ 1000∧s.Sm∧r.Sm:=by have:=sy.drop (i:=k);rwa [hd] at this
      obtain ⟨p1,p2,p3,p4,_⟩:n'.length ≤ 1000∧l'.length ≤ 1000∧s'.len ≤ 1000∧s'.Sm∧r'.Sm:=by have:=sz.drop (i:=k);rwa [hd'] at this
      have s5:=Fo.cnt_at hd
      have HD:=hid hd
      have HD':=hid hd'
      have hsz:=hB.size
      have lg:=hS _ hg1'
      have lg':g' < wr.heap.size:=by omega
      have hbx:Below w.heap.size w (wr.alloc (.cells #[.string (bs n), .slice an l.length cn, .slice ab s.len cb] 85)):=hB.alloc hsz _
      have e0:=(Ag_b hbx hS).cell hg1' hc0'
      have e1:=(Ag_b hbx hS).cell hg1' hc1'
      have e2:=(Ag_b hbx hS).cell hg1' hc2'
      clear hbx
      clear hc0 hc1 hc2 hd hc0' hc1' hc2' hd'
      go_wp2_with fail
      have hb2:Below w.heap.size w ((wr.alloc (.cells #[.string (bs n), .slice an l.length cn, .slice ab s.len cb] 85)).alloc (.cells #[.string (bs n'), .slice an' l'.length cn', .slice ab' s'.len cb'] 97)):=(hB.alloc hsz _).alloc (by simp;omega) _
      have ha2:=Ag_b hb2 hS
      have HB2:=hid hb2
      refine (HC.out n l s an cn ab cb n' l' s' an' cn' ab' cb' S _ (by omega) (hI.agree ha2) (hF.agree ha2) (hI'.agree ha2) (hF'.agree ha2) (fun b h=>by have:=hS b h;simp;omega) s2 s3 s4 p2 p3 p4).mono ?_
      rintro e w1 ⟨rfl,hb1⟩
      clear hb2 ha2
      by_cases he:n = n'∧l = l'∧s = s'
      · have he':decide (n = n'∧l = l'∧s = s') = true:=decide_eq_true he
        have HE:=hid he
        clear he
        rw [he']
        go_wp2_with fail
        go_roundw
        case rel=>exact ⟨k + 1,by omega,by go_num,by obtain ⟨rfl,rfl,rfl⟩:=HE.out;exact Fo.take_eq HD.out HD'.out H2.out,HB2.out.trans (hb1.mono HB2.out.size)⟩
        case measure=>simp [intOf];omega
      · have he':decide (n = n'∧l = l'∧s = s') = false:=decide_eq_false he
        have HE:=hid he
        clear he
        rw [he']
        go_wp2_with fail
        go_ret
        refine ⟨ret_bool ?_,HB2.out.trans (hb1.mono HB2.out.size)⟩
        symm
        rw [decide_eq_false_iff_not]
        exact fun e=>HE.out (Fo.drop_eq HD.out HD'.out e)
    · go_wp2_with fail
      go_ret
      obtain rfl:k = y.len:=by omega
      refine ⟨ret_bool ?_,hB⟩
      symm
      have:=H2.out
      rw [Fo.take_len,HN.out,Fo.take_len] at this
      exact decide_eq_true this
 · have hne':((y.len:Int) != (z.len:Int)) = true:=by simp;omega
   have HN:=hid hne
   clear hne
   go_enter Tryz.func109,Tryz.ntmps109
   go_wp2_with fail
   go_ret
   refine ⟨ret_bool ?_,Below.refl _ _⟩
   symm
   rw [decide_eq_false_iff_not]
   rintro rfl
   exact HN.out rfl
theorem sameNodes_any (m:Nat):NodeEqC 110 m∧∀ (y z:Fo) (ay:Option Addr) (cy:Nat) (az:Option Addr) (cz:Nat) (S:Nat→Prop) (w:World),y.cnt < m→FSl S w (.slice ay y.len cy) y→FSl S w (.slice az z.len cz) z→(∀ b,S b→b < w.heap.size)→y.len ≤ 1000→z.len ≤ 1000→y.Sm→z.Sm →
 Calls Tryz.prog 28 #[.slice ay y.len cy, .slice az z.len cz] w fun e w'=>e = .returned (.bool (decide (y = z)))∧Below w.heap.size w w':=by
 induction m with
 | zero=>exact ⟨fun _ _ _ _ _ _ _ _ _ _ _ _ _ _ _ _ h=>by omega,fun _ _ _ _ _ _ _ _ h=>by omega⟩
 | succ m ih=>
   have key:∀ (y z:Fo) (ay:Option Addr) (cy:Nat) (az:Option Addr) (cz:Nat) (S:Nat→Prop) (w:World),y.cnt < m + 1→FSl S w (.slice ay y.len cy) y→FSl S w (.slice az z.len cz) z→(∀ b,S b→b < w.heap.size)→y.len ≤ 1000→z.len ≤ 1000→y.Sm→z.Sm →
    Calls Tryz.prog 28 #[.slice ay y.len cy, .slice az z.len cz] w fun e w'=>e = .returned (.bool (decide (y = z)))∧Below w.heap.size w w':=by
    intro y z ay cy az cz S w hm hy hz hS ly lz sy sz
    have hq:=eqNodesR_any m ih.1 y z ay cy az cz S w hm hy hz hS ly lz sy sz
    have HQ:=hid hq
    clear hq ih
    go_enter Tryz.func28,Tryz.ntmps28
    go_wp2_with fail
    refine HQ.out.mono ?_
    rintro e w1 ⟨rfl,hb1⟩
    go_wp2_with fail
    go_ret
    exact ⟨rfl,hb1⟩
   refine ⟨?_,key⟩
   have KEY:=hid key
   clear key ih
   intro n l s an cn ab cb n' l' s' an' cn' ab' cb' S w hm hI hF hI' hF' hS l1 l2 sm1 l3 l4 sm2
   have hb:Below w.heap.size w ((w.alloc (.cells #[.string (bs n), .slice an l.length cn, .slice ab s.len cb] 85)).alloc (.cells #[.string (bs n'), .slice an' l'.length cn', .slice ab' s'.len cb'] 97)):=((Below.refl _ _).alloc (nl_ _) _).alloc (by simp) _
   have HB:=hid hb
   clear hb
   by_cases h1:n = n'
   · have t1:(n == n') = true:=by simpa using h1
     have H1:=hid h1
     clear h1
     go_enter Tryz.func110,Tryz.ntmps110
     go_wp2_with fail
     refine (eqInts_any l l' an an' cn cn' S _ (hI.agree (Ag_b HB.out hS)) (hI'.agree (Ag_b HB.out hS)) (by omega) (by omega)).mono ?_
     rintro e w1 ⟨rfl,hb1⟩
     have x2:=bc_ hb1 (b:=w.heap.size) (o:=2) (v := .slice ab s.len cb) (by simp;omega) (by simp)
     have x2':=bc_ hb1 (b:=w.heap.size + 1) (o:=2) (v := .slice ab' s'.len cb') (by simp) (by simp)
     have HB1:=hid (HB.out.trans (hb1.mono HB.out.size))
     by_cases h2:l = l'
     · have t2:decide (l = l') = true:=decide_eq_true h2
       have H2:=hid h2
       clear h2
       rw [t2]
       go_wp2_with fail
       refine (KEY.out s s' ab cb ab' cb' S _ hm (hF.agree (Ag_b HB1.out hS)) (hF'.agree (Ag_b HB1.out hS)) (fun b h=>by have:=hS b h;have:=HB1.out.size;omega) l2 l4 sm1 sm2).mono ?_
       rintro e w2 ⟨rfl,hb2⟩
       go_wp2_with fail
       go_ret
       exact ⟨ret_bool (by have:=H1.out;have:=H2.out;subst n';subst l';simp),HB1.out.trans (hb2.mono HB1.out.size)⟩
     · have t2:decide (l = l') = false:=decide_eq_false h2
       have H2:=hid h2
       clear h2
       rw [t2]
       go_wp2_with fail
       go_ret
       exact ⟨ret_bool (by symm;rw [decide_eq_false_iff_not];exact fun e=>H2.out e.2.1),HB1.out⟩
   · have t1:(n == n') = false:=by simpa using h1
     have H1:=hid h1
     clear h1
     go_enter Tryz.func110,Tryz.ntmps110
     go_wp2_with fail
     go_ret
     exact ⟨ret_bool (by symm;rw [decide_eq_false_iff_not];exact fun e=>H1.out e.1),HB.out⟩
end Go.Proofs.LF
