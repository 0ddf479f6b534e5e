/- Parts of the proof of a law of layer 11 (file): LfYad, LsPath. The conditions stand in each theorem. -/
import Derived.Test.YtffjknkcogmnbaaGreatDoorProg
import Derived.Test.YtffjknkcogmnbaaGreatDoorSpaa
import Derived.Test.YtffjknkcogmnbaaGreatDoorSpae
import Derived.Test.YtffjknkcogmnbaaGreatDoorSpaf
set_option linter.all false
set_option linter.unusedVariables false
set_option linter.unusedSimpArgs false
set_option linter.all false
set_option linter.unusedVariables false
set_option linter.unusedSimpArgs false
namespace Go.Proofs.LF
open Go.RowKit
set_option maxHeartbeats 4000000
set_option maxRecDepth 100000
attribute [local go_sem] q1_ q2_ q6_
section
variable {P:Program} (w:World)
theorem kB_ (base:Nat) (t u ty e:TypeId) (i:TypeInfo) (ht:P.underlying t = some (.slice e)) (hu:P.underlying u = some .string) (hi:P.info? e = some i) (hz:i.zero = some (.int .u8 0))
 (hsize:i.size = 1) (hby:i.bytes = 1)
 (v:Value) (n:Nat) (xs:List Value) (hown:w.ownsRow base e 1 v n xs) (s:ByteArray)
 (h63:n + s.size ≤ maxLen) (hbytes:n + s.size ≤ 140737488355328) (hbase:base ≤ w.heap.size) :
 ∃ v' w',(Builtin.append_ #[t,u] ty #[v, .string s]).run P w = .ok v' w'∧w'.ownsRow base e 1 v' (n + s.size) (xs ++ Lib.strCells s)∧w.grownBy w' v.ownBlock ∧
  (∀ g,v'.ownBlock = some g→v.ownBlock = some g ∨ w.heap.size ≤ g):=by
 obtain ⟨v',w',hr,h2,h3,h4⟩:=Lib.run_append_own_string (P:=P) w base t u ty e i ht hu hi hz hsize hby v n xs hown s h63 hbytes hbase
 refine ⟨v',w',hr,h2,h3,?_⟩
 have hsmall:n + s.size ≤ 9223372036854775807:=by simp only [maxLen] at h63;omega
 have hxl:xs.length = n:=by simpa using hown.1
 rcases hown.2 with ⟨rfl,rfl⟩ | ⟨g,cap,cur,rfl,hbg,hg,hnc,hcm,hcs,htake⟩
 · obtain ⟨v2,w2,hr2,k2,k3,_⟩:=Lib.run_append_own_string (P:=P) w w.heap.size t u ty e i ht hu hi hz hsize hby (.slice none 0 0) 0 [] (World.ownsRow_nil _ _ _ _) s h63 hbytes (nl_ _)
   rw [hr] at hr2
   cases hr2
   exact fun g hg => .inr (k2.lt g hg).1
 · by_cases hroom:n + s.size ≤ cap
   · have hcs':cur.size = cap:=by simpa using hcs
     have hr2:=Lib.run_append_room_string (P:=P) w t u ty e i ht hu hi hsize g n cap cur hg s hroom (by omega)
     rw [hr] at hr2
     cases hr2
     exact fun g' hg' => .inl hg'
   · have holds:∀ j u,xs[j]? = some u→w.cell? ((⟨g,0,none⟩:Addr).add j) = some u:=hown.cells (g:=g) rfl
     have hr2:=Lib.run_append_grow_string (P:=P) w t u ty e i (.int .u8 0) ht hu hi hz ⟨g,0,none⟩ n cap xs (by rw [hsize];simpa using hxl) holds s (by omega) (by omega) (by rw [hby];exact growslice_fits (by omega) (by omega))
     rw [hr] at hr2
     cases hr2
     intro g' hg'
     right
     simp [Value.ownBlock] at hg'
     omega
theorem kG_ {ops:Array Oper} {rest:List Oper} {o:Oper} {a:Act} {Q:Exit→Act→World→Prop} (hgd:o.guard = none) (sl x:Operand) (t u:TypeId)
 (ho:o.op = .call { callee := .builtin .append,args:=#[sl,x],argTypes:=#[t,u] })
 (base:Nat) (e:TypeId) (i:TypeInfo) (ht:P.underlying t = some (.slice e)) (hu:P.underlying u = some .string) (hi:P.info? e = some i) (hz:i.zero = some (.int .u8 0))
 (hsize:i.size = 1) (hby:i.bytes = 1)
 (v:Value) (n:Nat) (xs:List Value) (hs:a.eval sl = v) (hown:w.ownsRow base e 1 v n xs) (s:ByteArray) (hx:a.eval x = .string s)
 (h63:n + s.size ≤ maxLen) (hbytes:n + s.size ≤ 140737488355328) (hbase:base ≤ w.heap.size)
 (h:∀ v' w',w'.ownsRow base e 1 v' (n + s.size) (xs ++ Lib.strCells s)→w.grownBy w' v.ownBlock→(∀ g,v'.ownBlock = some g→v.ownBlock = some g ∨ w.heap.size ≤ g)→wpList P ops Q rest (a.put o.dst v') w'):wpList P ops Q (o :: rest) a w:=by
 refine wpList_plain hgd fun K hK=>?_
 obtain ⟨v',w',hr,h2,h3,h4⟩:=kB_ (P:=P) w base t u o.type e i ht hu hi hz hsize hby v n xs hown s h63 hbytes hbase
 unfold Oper.wp execOp
 simp only [ho,resolve,invoke,builtin,Sem.run_bind,Sem.run_pure,Result.andThen_ok,List.map_toArray,List.map_cons,List.map_nil,hs,hx,hr]
 exact hK _ _ (h v' w' h2 h3 h4)
end
def Bld (b:Nat) (v:Value) (l:List UInt8) (W:World):Prop:=
 ∃ p,(p = .pointer none ∨ p = .pointer (some ⟨b,0,none⟩))∧W.heap[b]? = some (.cells #[p,v] 113 (0,0))∧W.ownsRow b 5 1 v l.length (Lib.byteCells l)∧v.ownBlock ≠ some b
def BldU (b:Nat) (v:Value) (l:List UInt8) (W:World):Prop:=
 W.heap[b]? = some (.cells #[.pointer (some ⟨b,0,none⟩),v] 113 (0,0))∧W.ownsRow b 5 1 v l.length (Lib.byteCells l)∧v.ownBlock ≠ some b
theorem Bld.lt {b:Nat} {v:Value} {l:List UInt8} {W:World} (h:Bld b v l W):b < W.heap.size:=by
 obtain ⟨p,_,h,_⟩:=h
 exact (ge_ h).1
theorem Bld.is {b:Nat} {v:Value} {l:List UInt8} {W:World} (h:Bld b v l W):Lib.IsBuilder 113 5 b b (Lib.byteCells l) W:=by
 obtain ⟨p,hp,h1,h2,h3⟩:=h
 rcases hp with rfl | rfl
 · exact .inl ⟨nl_ _,v,h1,by rw [Lib.byteCells_length];exact h2,h3⟩
 · exact .inr ⟨nl_ _,v,h1,by rw [Lib.byteCells_length];exact h2,h3⟩
def kc_ (b:Nat) (v:Value):Nat→Prop:=fun k=>k = b ∨ v.ownBlock = some k
theorem Bld.agree {b:Nat} {v:Value} {l:List UInt8} {W W':World} (h:Bld b v l W) (ha:∀ k,kc_ b v k→W'.heap[k]? = W.heap[k]?):Bld b v l W':=by
 obtain ⟨p,hp,h1,h2,h3⟩:=h
 refine ⟨p,hp,(ha b (.inl rfl)).trans h1,?_,h3⟩
 refine ⟨h2.1,h2.2.imp id ?_⟩
 rintro ⟨g,cap,cur,rfl,hb,hg,r⟩
 exact ⟨g,cap,cur,rfl,hb,(ha g (.inr rfl)).trans hg,r⟩
theorem kc_.lt {b:Nat} {v:Value} {l:List UInt8} {W:World} (h:Bld b v l W):∀ k,kc_ b v k→k < W.heap.size:=by
 rintro k (rfl | hk)
 · exact h.lt
 · obtain ⟨_,_,_,h2,_⟩:=h
   exact (h2.lt k hk).2
theorem kc_.ge {b:Nat} {v:Value} {l:List UInt8} {W:World} (h:Bld b v l W):∀ k,kc_ b v k→b ≤ k:=by
 rintro k (rfl | hk)
 · exact nl_ _
 · obtain ⟨_,_,_,h2,_⟩:=h
   exact (h2.lt k hk).1
theorem kv_ (b:Nat) (v:Value) (l:List UInt8) (w:World) (h:Bld b v l w) :
 Calls Tryz.prog 91 #[.pointer (some ⟨b,0,none⟩)] w fun e w'=>e = .returned (.tuple #[])∧BldU b v l w'∧Keep (· = b) w w'∧w'.heap.size = w.heap.size:=by
 obtain ⟨p,hp,h1,h2,h3⟩:=h
 rcases hp with rfl | rfl
 · refine (Any.Builder_copyCheck_fresh (ρ:=Tryz.lays156_ren) { Tryz.lays156 with } Tryz.Builder_Extra_156.toX72 b w (by simp [World.cell?,h1]) (by simp [World.shape?,h1];decide) (by simp [World.frozen?,h1])).mono ?_
   rintro e w' ⟨rfl,rfl⟩
   refine ⟨rfl,⟨?_,?_,h3⟩,Keep.setCell rfl,by simp [World.setCell]⟩
   · simp [World.setCell,Array.getElem?_modify,h1]
   · refine ⟨h2.1,h2.2.imp id ?_⟩
     rintro ⟨g,cap,cur,rfl,hb,hg,r⟩
     exact ⟨g,cap,cur,rfl,hb,(Below.heap_setCell _ _ _ _ (by simpa [Value.ownBlock] using h3)).trans hg,r⟩
 · refine (Any.Builder_copyCheck_used (ρ:=Tryz.lays156_ren) { Tryz.lays156 with } Tryz.Builder_Extra_156.toX72 b w (by simp [World.cell?,h1])).mono ?_
   rintro e w' ⟨rfl,rfl⟩
   exact ⟨rfl,⟨h1,h2,h3⟩,Keep.refl _ _,rfl⟩
theorem Tryz.info5:(Tryz.prog.info? 5).map (fun i=>(i.zero,i.size,i.bytes)) = some (some (.int .u8 0),1,1):=by kernel_rfl
theorem xm_ (b:Nat) (v:Value) (l:List UInt8) (c:UInt8) (w:World) (h:Bld b v l w) (hlen:l.length ≤ 100000000) :
 Calls Tryz.prog 41 #[.pointer (some ⟨b,0,none⟩), .int .u8 c.toNat] w fun e w'=>e = .returned .nilIface∧∃ v',Bld b v' (l ++ [c]) w'∧Keep (kc_ b v) w w'∧(∀ k,kc_ b v' k→kc_ b v k ∨ w.heap.size ≤ k):=by
 have hlt:=h.lt
 obtain ⟨i0,hi0,hz0,hz1,hz2⟩:=info_parts Tryz.info5
 go_enter Tryz.func41,Tryz.ntmps41
 go_wp2_with fail
 refine (kv_ b v l w h).mono ?_
 rintro e w1 ⟨rfl,⟨hbk,hown,hne⟩,hk1,hs1'⟩
 have hs1:=hid hs1'
 clear hs1'
 have c0:w1.cell? ⟨b,0,none⟩ = some (.pointer (some ⟨b,0,none⟩)):=by simp [World.cell?,hbk]
 have c1:w1.cell? ⟨b,1,none⟩ = some v:=by simp [World.cell?,hbk]
 go_wp2_with (at_builtin;refine wpList_append_lies _ rfl _ _ _ rfl b 5 i0 _ 1 1 Tryz.underlying22 hi0 hz0 hz1 hz2 rfl (by omega) v l.length (Lib.byteCells l) rfl (hown.alloc _) ⟨w1.heap.size,0,none⟩ 1 1 [.int .u8 c.toNat] rfl rfl (World.news_of_block (cs:=#[.int .u8 c.toNat]) (t:=5) (fr:=(0,0)) (ha_ _ _)) (by simp [Value.oneCell']) (by omega) (by unfold maxLen;omega) (by omega) (by have:=hs1.out;simp;omega) (w1.heap.size + 1) (by simp) ?_)
 have hs1:=hs1.out
 intro g cap w2 hown' hgrow hat hltt
 have hb2:w2.heap[b]? = some (.cells #[.pointer (some ⟨b,0,none⟩),v] 113 (0,0)):=by
  rw [hgrow.block b (by simp;omega) (fun e=>hne e.symm),Below.heap_alloc w1 _ b (by omega)]
  exact hbk
 have d0:w2.cell? ⟨b,0,none⟩ = some (.pointer (some ⟨b,0,none⟩)):=by simp [World.cell?,hb2]
 have d1:w2.cell? ⟨b,1,none⟩ = some v:=by simp [World.cell?,hb2]
 have f1:w2.frozen? ⟨b,1,none⟩ = false:=by simp [World.frozen?,hb2]
 have hgb:g ≠ b:=by
  rcases hat with hat | hat
  · rintro rfl;exact hne hat
  · omega
 go_wp2_with fail
 go_ret
 refine ⟨rfl, .slice (some ⟨g,0,none⟩) (l.length + 1) cap,⟨_, .inr rfl,?_,?_,?_⟩,?_,?_⟩
 · simp [World.setCell,Array.getElem?_modify,hb2]
 · refine ⟨by have:=hown'.1;simpa [Lib.byteCells] using this, .inr ?_⟩
   rcases hown'.2 with ⟨h,_⟩ | ⟨g',cap',cur,hv,hb,hg,r⟩
   · cases h
   · cases hv
     refine ⟨g,cap,cur,by simp,hb,(Below.heap_setCell _ _ _ _ hgb).trans hg,?_⟩
     simpa [Lib.byteCells] using r
 · simp [Value.ownBlock,hgb]
 · refine ((hk1.mono fun k _ h => .inl h).trans ⟨?_,?_,?_,?_,?_⟩)
   · exact hgrow.os
   · exact hgrow.tape
   · exact hgrow.output
   · have:=hgrow.size;simp [World.setCell] at *;omega
   · intro k hk ho
     have e1:k ≠ b:=fun e=>ho (.inl e)
     rw [Below.heap_setCell _ _ _ _ (by simpa using e1),hgrow.block k (by simp;omega) (fun e=>ho (.inr e.symm)),Below.heap_alloc w1 _ k hk]
 · rintro k (rfl | hk)
   · exact .inl (.inl rfl)
   · simp [Value.ownBlock] at hk
     subst hk
     rcases hat with hat | hat
     · exact .inl (.inr hat)
     · exact .inr (by omega)
theorem qN_ (b:Nat) (v:Value) (l s:List UInt8) (w:World) (h:Bld b v l w) (hlen:l.length ≤ 100000000) (hs:s.length ≤ 100000000) :
 Calls Tryz.prog 43 #[.pointer (some ⟨b,0,none⟩), .string (bs s)] w fun e w'=>e = .returned (.tuple #[.int .i64 s.length, .nilIface])∧∃ v',Bld b v' (l ++ s) w'∧Keep (kc_ b v) w w'∧(∀ k,kc_ b v' k→kc_ b v k ∨ w.heap.size ≤ k):=by
 have hlt:=h.lt
 obtain ⟨i0,hi0,hz0,hz1,hz2⟩:=info_parts Tryz.info5
 go_enter Tryz.func43,Tryz.ntmps43
 go_wp2_with fail
 refine (kv_ b v l w h).mono ?_
 rintro e w1 ⟨rfl,⟨hbk,hown,hne⟩,hk1,hs1'⟩
 have hs1:=hid hs1'
 clear hs1'
 have c0:w1.cell? ⟨b,0,none⟩ = some (.pointer (some ⟨b,0,none⟩)):=by simp [World.cell?,hbk]
 have c1:w1.cell? ⟨b,1,none⟩ = some v:=by simp [World.cell?,hbk]
 go_wp2_with (at_builtin;refine kG_ _ rfl _ _ _ _ rfl b 5 i0 Tryz.underlying22 Tryz.underlying9 hi0 hz0 hz1 hz2 v l.length (Lib.byteCells l) rfl hown (bs s) rfl (by unfold maxLen;rw [q2_];omega) (by rw [q2_];omega) (by have:=hs1.out;omega) ?_)
 have hs1:=hs1.out
 intro v' w2 hown' hgrow hat
 have hb2:w2.heap[b]? = some (.cells #[.pointer (some ⟨b,0,none⟩),v] 113 (0,0)):=by
  rw [hgrow.block b (by omega) (fun e=>hne e.symm)]
  exact hbk
 have d0:w2.cell? ⟨b,0,none⟩ = some (.pointer (some ⟨b,0,none⟩)):=by simp [World.cell?,hb2]
 have d1:w2.cell? ⟨b,1,none⟩ = some v:=by simp [World.cell?,hb2]
 have f1:w2.frozen? ⟨b,1,none⟩ = false:=by simp [World.frozen?,hb2]
 have hgb:v'.ownBlock ≠ some b:=by
  intro h
  rcases hat b h with hat | hat
  · exact hne hat
  · omega
 obtain ⟨ao,n',cap,rfl⟩:∃ ao n' cap,v' = .slice ao n' cap:=by
  rcases hown'.2 with ⟨hv,_⟩ | ⟨g,cap,cur,hv,_⟩
  · exact ⟨_,_,_,hv⟩
  · exact ⟨_,_,_,hv⟩
 go_wp2_with fail
 go_ret2
 refine ⟨by simp, .slice ao n' cap,⟨_, .inr rfl,?_,?_,hgb⟩,?_,?_⟩
 · simp [World.setCell,Array.getElem?_modify,hb2]
 · have e1:Lib.byteCells l ++ Lib.strCells (bs s) = Lib.byteCells (l ++ s):=by simp [Lib.byteCells,Lib.strCells,xA_]
   rw [e1] at hown'
   rw [List.length_append]
   refine ⟨hown'.1,hown'.2.imp id ?_⟩
   rintro ⟨g',cap',cur,hv,hb,hg,r⟩
   refine ⟨g',cap',cur,hv,hb,(Below.heap_setCell _ _ _ _ ?_).trans hg,r⟩
   rintro rfl
   exact hgb (by rw [hv];rfl)
 · refine ((hk1.mono fun k _ h => .inl h).trans ⟨?_,?_,?_,?_,?_⟩)
   · exact hgrow.os
   · exact hgrow.tape
   · exact hgrow.output
   · have:=hgrow.size;simp [World.setCell] at *;omega
   · intro k hk ho
     have e1:k ≠ b:=fun e=>ho (.inl e)
     rw [Below.heap_setCell _ _ _ _ (by simpa using e1),hgrow.block k (by omega) (fun e=>ho (.inr e.symm))]
 · rintro k (rfl | hk)
   · exact .inl (.inl rfl)
   · rcases hat k hk with hat | hat
     · exact .inl (.inr hat)
     · exact .inr (by omega)
end Go.Proofs.LF
namespace Go.Proofs.LS
def cnt (l:List Bool):Nat:=l.countP id
theorem cnt_le (l:List Bool):cnt l ≤ l.length:=List.countP_le_length
theorem jJ_:∀ {l:List Bool} {i:Nat},i < l.length→l.getD i false = false→cnt (l.set i true) = cnt l + 1
 | [],i,h,_=>by simp at h
 | b :: l,0,_,h=>by
   have:b = false:=by simpa using h
   subst this
   simp [cnt]
 | b :: l,i + 1,h,h0=>by
   have ih:=jJ_ (l:=l) (i:=i) (by simpa using h) (by simpa using h0)
   simp only [cnt,List.set_cons_succ,List.countP_cons] at ih ⊢
   omega
theorem zz_ {α:Type} (l:List α) (i j:Nat) (x d:α) (h:i < l.length):(l.set i x).getD j d = if j = i then x else l.getD j d:=by
 simp only [List.getD_eq_getElem?_getD,List.getElem?_set]
 by_cases e:i = j
 · subst e;simp [h]
 · rw [if_neg e,if_neg fun h=>e h.symm]
def mt (s:PS) (v:Nat):Bool:=s.met.getD v false
def byc (s:PS) (v:Nat):Cg:=s.by_.getD v Cg.z
structure PI (ws:List Way) (a:Nat) (s:PS) (τ:Nat→Nat):Prop where
 lm:s.met.length = 12
 lb:s.by_.length = 12
 ha:mt s a = true
 t0:τ a = 0
 lt:∀ v,mt s v = true→τ v < cnt s.met
 ex:∀ v,mt s v = true→v ≠ a→byc s v ∈ qM_ ws ws.length∧eT ws (byc s v) = v∧mt s (eF ws (byc s v)) = true∧τ (eF ws (byc s v)) < τ v
theorem ends_lt {ws:List Way} (h:Flow ws) {c:Cg} (hc:c ∈ qM_ ws ws.length):eF ws c < 12∧eT ws c < 12∧eF ws c ≠ eT ws c:=by
 have:=h.node c.way (qu_.1 hc).1
 rw [eF,eT,show (ws.getD c.way Way.z) = at_ ws c.way from rfl]
 cases c.more <;> simp <;> omega
theorem pStep_ok {ws:List Way} {a:Nat} {s:PS} {τ:Nat→Nat} {c:Cg} (h:Flow ws) (hc:c ∈ qM_ ws ws.length) (hI:PI ws a s τ) :
 (vR_ ws s c = s∧(mt s (eF ws c) = true→mt s (eT ws c) = true)) ∨ (∃ τ',PI ws a (vR_ ws s c) τ'∧cnt (vR_ ws s c).met = cnt s.met + 1∧∀ v,mt s v = true→mt (vR_ ws s c) v = true):=by
 obtain ⟨e1,e2,e3⟩:=ends_lt h hc
 rw [vR_,show s.met.getD (eF ws c) false = mt s (eF ws c) from rfl,show s.met.getD (eT ws c) false = mt s (eT ws c) from rfl]
 by_cases hq:(mt s (eF ws c) && !mt s (eT ws c)) = true
 · right
   rw [if_pos hq]
   rw [Bool.and_eq_true,Bool.not_eq_true'] at hq
   obtain ⟨h1,h2⟩:=hq
   have hcn:=jJ_ (l:=s.met) (i:=eT ws c) (by rw [hI.lm];exact e2) h2
   have hm:∀ v,mt ⟨s.met.set (eT ws c) true,s.by_.set (eT ws c) c⟩ v = if v = eT ws c then true else mt s v:=fun v=>zz_ _ _ _ _ _ (by rw [hI.lm];exact e2)
   have hb:∀ v,byc ⟨s.met.set (eT ws c) true,s.by_.set (eT ws c) c⟩ v = if v = eT ws c then c else byc s v:=fun v=>zz_ _ _ _ _ _ (by rw [hI.lb];exact e2)
   have hne:a ≠ eT ws c:=fun e=>by rw [← e,hI.ha] at h2;cases h2
   refine ⟨fun v=>if v = eT ws c then cnt s.met else τ v,⟨by simpa using hI.lm,by simpa using hI.lb,by rw [hm];split <;> simp [hI.ha],by rw [if_neg hne,hI.t0],fun v hv=>?_,fun v hv hva=>?_⟩,hcn,fun v hv=>by rw [hm];split <;> simp [hv]⟩
   · show _ < cnt (s.met.set (eT ws c) true)
     rw [hcn]
     rw [hm] at hv
     by_cases e:v = eT ws c
     · rw [if_pos e];omega
     · rw [if_neg e] at hv ⊢;have:=hI.lt v hv;omega
   · rw [hb]
     rw [hm] at hv
     by_cases e:v = eT ws c
     · rw [if_pos e,hm,if_pos e,if_neg e3]
       refine ⟨hc,e.symm,by simp [h1],?_⟩
       rw [if_neg e3]
       exact hI.lt _ h1
     · rw [if_neg e] at hv ⊢
       obtain ⟨k1,k2,k3,k4⟩:=hI.ex v hv hva
       have e5:eF ws (byc s v) ≠ eT ws c:=fun e5=>by rw [e5,h2] at k3;cases k3
       rw [hm,if_neg e5,if_neg e5,if_neg e]
       exact ⟨k1,k2,k3,k4⟩
 · left
   rw [if_neg hq]
   refine ⟨rfl,fun h1=>?_⟩
   rw [h1] at hq
   simpa using hq
theorem xj_ {ws:List Way} {a:Nat} (h:Flow ws):∀ {l:List Cg} {s:PS} {τ:Nat→Nat},(∀ c ∈ l,c ∈ qM_ ws ws.length)→PI ws a s τ →
 (l.foldl (vR_ ws) s = s∧∀ c ∈ l,mt s (eF ws c) = true→mt s (eT ws c) = true) ∨ (∃ τ',PI ws a (l.foldl (vR_ ws) s) τ'∧cnt s.met < cnt (l.foldl (vR_ ws) s).met)
 | [],s,τ,_,hI => .inl ⟨rfl,by simp⟩
 | c :: l,s,τ,hl,hI=>by
   have hl':∀ c ∈ l,c ∈ qM_ ws ws.length:=fun c hc=>hl c (List.mem_cons_of_mem _ hc)
   rw [List.foldl_cons]
   rcases pStep_ok h (hl c (List.mem_cons_self ..)) hI with ⟨h1,h2⟩ | ⟨τ',h1,h2,_⟩
   · rw [h1]
     rcases xj_ h hl' hI with ⟨h3,h4⟩ | h3
     · left
       exact ⟨h3, fun c' hc' => by rcases List.mem_cons.1 hc' with e | e; · rw [e]; exact h2
                                   · exact h4 c' e⟩
     · right;exact h3
   · right
     rcases xj_ h hl' h1 with ⟨h3,h4⟩ | ⟨τ2,h3,h4⟩
     · rw [h3];exact ⟨τ',h1,by omega⟩
     · exact ⟨τ2,h3,by omega⟩
theorem pLoop_ok {ws:List Way} {a:Nat} (h:Flow ws):∀ {n:Nat} {s:PS} {τ:Nat→Nat},PI ws a s τ→13 ≤ n + cnt s.met→0 < n→∃ s' τ',pLoop ws n s = some s'∧PI ws a s' τ'∧∀ c ∈ qM_ ws ws.length,mt s' (eF ws c) = true→mt s' (eT ws c) = true
 | 0,_,_,_,_,hn=>by omega
 | n + 1,s,τ,hI,hn,_=>by
   rw [pLoop]
   rcases xj_ (l:=qM_ ws ws.length) h (fun c hc=>hc) hI with ⟨h1,h2⟩ | ⟨τ',h1,h2⟩
   · rw [show z4_ ws s = s from h1,if_pos rfl]
     exact ⟨s,τ,rfl,hI,h2⟩
   · have h1':PI ws a (z4_ ws s) τ':=h1
     have h2':cnt s.met < cnt (z4_ ws s).met:=h2
     have hne:(z4_ ws s).met ≠ s.met:=fun e=>by rw [e] at h2';omega
     rw [if_neg hne]
     have hle:=cnt_le (z4_ ws s).met
     rw [h1'.lm] at hle
     exact pLoop_ok h h1' (by omega) (by omega)
theorem p0_ok {ws:List Way} {a:Nat} (ha:a < 12):PI ws a (p0 a) (fun _=>0):=by
 have hm:∀ v,mt (p0 a) v = if v = a then true else false:=fun v=>by
  rw [show mt (p0 a) v = ((List.replicate 12 false).set a true).getD v false from rfl,zz_ _ _ _ _ _ (by simpa using ha)]
  split
  · rfl
  · simp only [List.getD_eq_getElem?_getD,List.getElem?_replicate];split <;> rfl
 have hc:cnt (p0 a).met = 1:=by
  rw [show (p0 a).met = (List.replicate 12 false).set a true from rfl,jJ_ (by simpa using ha) (by simp only [List.getD_eq_getElem?_getD,List.getElem?_replicate];split <;> rfl)]
  rfl
 refine ⟨by simp [p0],by simp [p0],by rw [hm];simp,rfl,fun v _=>by rw [hc];omega,fun v hv hne=>?_⟩
 rw [hm,if_neg hne] at hv;cases hv
theorem back_ok {ws:List Way} {a:Nat} {s:PS} {τ:Nat→Nat} (hI:PI ws a s τ):∀ {n v:Nat},mt s v = true→τ v ≤ n→∃ l,back ws s.by_ a n v = some l∧Chn ws l a v∧(v ≠ a→l ≠ []) ∧
 (∀ c ∈ l,c ∈ qM_ ws ws.length∧τ (eF ws c) < τ (eT ws c)∧τ (eT ws c) ≤ τ v∧eT ws c ≠ a)∧l.Pairwise (fun c c'=>τ (eT ws c') < τ (eT ws c))
 | n,v,hv,hn=>by
   by_cases e:v = a
   · subst e
     refine ⟨[],?_,rfl,fun h=>absurd rfl h,by simp,List.Pairwise.nil⟩
     cases n <;> simp [back]
   · obtain ⟨h1,h2,h3,h4⟩:=hI.ex v hv e
     cases n with
     | zero=>omega
     | succ n=>
       obtain ⟨l,g1,g2,_,g4,g5⟩:=back_ok hI (n:=n) h3 (by omega)
       refine ⟨byc s v :: l,?_,⟨h2,g2⟩,fun _=>by simp,fun c hc=>?_,List.pairwise_cons.2 ⟨fun c hc=>?_,g5⟩⟩
       · rw [back,if_neg e,show (s.by_.getD v Cg.z) = byc s v from rfl,g1];rfl
       · rcases List.mem_cons.1 hc with q | q
         · rw [q,h2];exact ⟨h1,h4,Nat.le_refl _,e⟩
         · obtain ⟨k1,k2,k3,k4⟩:=g4 c q
           exact ⟨k1,k2,by omega,k4⟩
       · rw [h2];have:=(g4 c hc).2.2.1;omega
theorem way_ends {ws:List Way} {c c':Cg} (h:c.way = c'.way):(eF ws c = eF ws c'∧eT ws c = eT ws c') ∨ (eF ws c = eT ws c'∧eT ws c = eF ws c'):=by
 rw [eF,eF,eT,eT,h]
 cases c.more <;> cases c'.more <;> simp
theorem once_of {ws:List Way} {τ:Nat→Nat} {l:List Cg} (h1:∀ c ∈ l,τ (eF ws c) < τ (eT ws c)) (h2:l.Pairwise fun c c'=>τ (eT ws c') < τ (eT ws c)):Once l:=by
 induction l with
 | nil=>exact List.Pairwise.nil
 | cons c l ih=>
   obtain ⟨h3,h4⟩:=List.pairwise_cons.1 h2
   refine List.pairwise_cons.2 ⟨fun c' hc' e=>?_,ih (fun c hc=>h1 c (List.mem_cons_of_mem _ hc)) h4⟩
   have a1:=h1 c (List.mem_cons_self ..)
   have a2:=h1 c' (List.mem_cons_of_mem _ hc')
   have a3:=h3 c' hc'
   rcases way_ends (ws:=ws) e with ⟨e1,e2⟩ | ⟨e1,e2⟩
   · rw [e2] at a3;omega
   · rw [e1] at a1;rw [e2] at a1 a3;omega
theorem path_ok {ws:List Way} {a b:Nat} (h:Flow ws) (ha:a < 12) (hab:a ≠ b) :
 (∃ met:List Bool,path ws a b = some ([],met)∧met.length = 12∧met.getD a false = true∧met.getD b false = false∧∀ c ∈ qM_ ws ws.length,met.getD (eF ws c) false = true→met.getD (eT ws c) false = true) ∨
 (∃ l met,path ws a b = some (l,met)∧met.length = 12∧l ≠ []∧l.length ≤ 12∧Chn ws l a b∧(∀ c ∈ l,c ∈ qM_ ws ws.length∧eT ws c ≠ a)∧Once l):=by
 obtain ⟨s,τ,h1,h2,h3⟩:=pLoop_ok (ws:=ws) (a:=a) (n:=13) h (p0_ok ha) (by omega) (by omega)
 cases hb:s.met.getD b false with
 | false=>left;exact ⟨s.met,by simp only [path,h1,hb];rfl,h2.lm,h2.ha,hb,h3⟩
 | true=>
   right
   have hlt:=h2.lt b hb
   have hc:=cnt_le s.met
   rw [h2.lm] at hc
   obtain ⟨l,g1,g2,g3,g4,g5⟩:=back_ok h2 (n:=12) hb (by omega)
   refine ⟨l,s.met,by simp only [path,h1,hb,if_true,g1];rfl,h2.lm,g3 fun e=>hab e.symm,?_,g2,fun c hc=>⟨(g4 c hc).1,(g4 c hc).2.2.2⟩,once_of (fun c hc=>(g4 c hc).2.1) g5⟩
   have:∀ (n v:Nat) (l:List Cg),back ws s.by_ a n v = some l→l.length ≤ n:=by
    intro n
    induction n with
    | zero=>
      intro v l hl
      rw [back] at hl
      split at hl
      · cases hl;simp
      · cases hl
    | succ n ih=>
      intro v l hl
      rw [back] at hl
      split at hl
      · cases hl;simp
      · obtain ⟨l',h1,h2⟩:=Option.map_eq_some_iff.1 hl
        subst h2
        have:=ih _ _ h1
        simp;omega
   exact this _ _ _ g1
end Go.Proofs.LS