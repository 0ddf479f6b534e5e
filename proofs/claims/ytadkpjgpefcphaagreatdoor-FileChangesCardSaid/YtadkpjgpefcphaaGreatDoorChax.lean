/- Parts of the proof of a law of layer 11 (file): LfClr. The conditions stand in each theorem. -/
import Derived.Test.YtadkpjgpefcphaaGreatDoorProg
import Derived.Test.YtadkpjgpefcphaaGreatDoorChac
import Derived.Test.YtadkpjgpefcphaaGreatDoorChal
import Derived.Test.YtadkpjgpefcphaaGreatDoorCham
import Derived.Test.YtadkpjgpefcphaaGreatDoorChav
set_option linter.all false
set_option linter.unusedVariables false
set_option linter.unusedSimpArgs false
namespace Go.Proofs.LF
open Go.RowKit
set_option maxRecDepth 100000
def SK (u u':Value):Prop:=(∃ x y,u = .int .i64 x∧u' = .int .i64 y) ∨ (∃ x y,u = .string x∧u' = .string y) ∨ ∃ x y,u = .bool x∧u' = .bool y
def Ks (u u':Value):Prop:=u' = u ∨ SK u u'
theorem SK.trans {a b c:Value} (h:SK a b) (k:SK b c):SK a c:=by
 rcases h with ⟨x,y,rfl,rfl⟩ | ⟨x,y,rfl,rfl⟩ | ⟨x,y,rfl,rfl⟩
 · rcases k with ⟨p,q,h1,rfl⟩ | ⟨p,q,h1,rfl⟩ | ⟨p,q,h1,rfl⟩
   · exact .inl ⟨x,q,rfl,rfl⟩
   · cases h1
   · cases h1
 · rcases k with ⟨p,q,h1,rfl⟩ | ⟨p,q,h1,rfl⟩ | ⟨p,q,h1,rfl⟩
   · cases h1
   · exact .inr (.inl ⟨x,q,rfl,rfl⟩)
   · cases h1
 · rcases k with ⟨p,q,h1,rfl⟩ | ⟨p,q,h1,rfl⟩ | ⟨p,q,h1,rfl⟩
   · cases h1
   · cases h1
   · exact .inr (.inr ⟨x,q,rfl,rfl⟩)
theorem SK.symm {a b:Value} (h:SK a b):SK b a:=by
 rcases h with ⟨x,y,rfl,rfl⟩ | ⟨x,y,rfl,rfl⟩ | ⟨x,y,rfl,rfl⟩
 · exact .inl ⟨y,x,rfl,rfl⟩
 · exact .inr (.inl ⟨y,x,rfl,rfl⟩)
 · exact .inr (.inr ⟨y,x,rfl,rfl⟩)
theorem Ks.trans {a b c:Value} (h:Ks a b) (k:Ks b c):Ks a c:=by
 rcases h with rfl | h
 · exact k
 · rcases k with rfl | k
   · exact .inr h
   · exact .inr (h.trans k)
theorem Ks.to {a b c:Value} (h:Ks a b) (k:SK a c):SK b c:=by
 rcases h with rfl | h
 · exact k
 · exact h.symm.trans k
def KQ (w w':World):Prop:=∀ (b:Nat) (cs:Array Value) (t:TypeId) (fr:Nat × Nat),w.heap[b]? = some (.cells cs t fr)→∃ cs',w'.heap[b]? = some (.cells cs' t fr)∧∀ (o:Nat) u,cs[o]? = some u→∃ u',cs'[o]? = some u'∧Ks u u'
theorem KQ.refl (w:World):KQ w w:=fun _ cs _ _ h=>⟨cs,h,fun _ u hu=>⟨u,hu, .inl rfl⟩⟩
theorem KQ.trans {a b c:World} (h:KQ a b) (k:KQ b c):KQ a c:=fun q cs t fr hq=>by
 obtain ⟨cs1,h1,h2⟩:=h q cs t fr hq
 obtain ⟨cs2,k1,k2⟩:=k q cs1 t fr h1
 refine ⟨cs2,k1,fun o u hu=>?_⟩
 obtain ⟨u1,e1,d1⟩:=h2 o u hu
 obtain ⟨u2,e2,d2⟩:=k2 o u1 e1
 exact ⟨u2,e2,d1.trans d2⟩
theorem KQ.of_below {w w':World} (h:Below w.heap.size w w'):KQ w w':=fun b cs _ _ hb=>
 ⟨cs,(h.block b (Array.getElem?_eq_some_iff.1 hb).1).trans hb,fun _ u hu=>⟨u,hu, .inl rfl⟩⟩
theorem KQ.cell {w w':World} (h:KQ w w') {b o:Nat} {u:Value} (hc:w.cell? ⟨b,o,none⟩ = some u):∃ u',w'.cell? ⟨b,o,none⟩ = some u'∧Ks u u':=by
 unfold World.cell? at hc ⊢
 simp only at hc ⊢
 cases hb:w.heap[b]? with
 | none=>rw [hb] at hc;cases hc
 | some x=>
   rw [hb] at hc
   cases x with
   | cells cs t fr=>
     obtain ⟨cs',h1,h2⟩:=h b cs t fr hb
     rw [h1]
     simp only [Option.isSome_none,Bool.false_eq_true,if_false] at hc ⊢
     exact h2 o u hc
   | _=>cases hc
theorem KQ.slice {w w':World} (h:KQ w w') {b o:Nat} {a:Option Addr} {n c:Nat} (hc:w.cell? ⟨b,o,none⟩ = some (.slice a n c)):w'.cell? ⟨b,o,none⟩ = some (.slice a n c):=by
 obtain ⟨u',h1,h2 | ⟨x,y,h2,_⟩ | ⟨x,y,h2,_⟩ | ⟨x,y,h2,_⟩⟩:=h.cell hc
 · rw [h1,h2]
 · cases h2
 · cases h2
 · cases h2
theorem KQ.bool {w w':World} (h:KQ w w') {b o:Nat} {q:Bool} (hc:w.cell? ⟨b,o,none⟩ = some (.bool q)):∃ q',w'.cell? ⟨b,o,none⟩ = some (.bool q'):=by
 obtain ⟨u',h1,h2 | ⟨x,y,h2,_⟩ | ⟨x,y,h2,_⟩ | ⟨x,y,h2,h3⟩⟩:=h.cell hc
 · exact ⟨q,by rw [h1,h2]⟩
 · cases h2
 · cases h2
 · exact ⟨y,by rw [h1,h3]⟩
theorem KQ.sk {w w':World} (h:KQ w w') {b o:Nat} {u v:Value} (hn:SK u v) (hc:w.cell? ⟨b,o,none⟩ = some u):∃ u',w'.cell? ⟨b,o,none⟩ = some u'∧SK u' v:=by
 obtain ⟨u',h1,h2⟩:=h.cell hc
 exact ⟨u',h1,h2.to hn⟩
theorem KQ.uf {w w':World} (h:KQ w w') {q:Nat} (hu:Uf w q):Uf w' q:=by
 obtain ⟨cs,t,hb⟩:=hu
 obtain ⟨cs',h1,_⟩:=h q cs t (0,0) hb
 exact ⟨cs',t,h1⟩
theorem KQ.setCell {w:World} {b o:Nat} {u v:Value} (hc:w.cell? ⟨b,o,none⟩ = some u) (hd:Ks u v):KQ w (w.setCell ⟨b,o,none⟩ v):=fun q cs t fr hq=>by
 by_cases hqb:b = q
 · subst hqb
   refine ⟨cs.setIfInBounds o v,by simp [World.setCell,Array.getElem?_modify,hq],fun i x hx=>?_⟩
   rw [Array.getElem?_setIfInBounds]
   by_cases hi:o = i
   · subst hi
     have hlt:o < cs.size:=(Array.getElem?_eq_some_iff.1 hx).1
     rw [if_pos rfl,if_pos hlt]
     unfold World.cell? at hc
     simp only [hq,Option.isSome_none,Bool.false_eq_true,if_false] at hc
     rw [hx] at hc
     cases hc
     exact ⟨v,rfl,hd⟩
   · rw [if_neg hi]
     exact ⟨x,hx, .inl rfl⟩
 · exact ⟨cs,(Below.heap_setCell _ _ _ _ (Ne.symm hqb)).trans hq,fun i x hx=>⟨x,hx, .inl rfl⟩⟩
theorem KQ.sets (b:Nat):∀ (vs:List Value) (o:Nat) (w:World),(∀ j (hj:j < vs.length),∃ u,w.cell? ⟨b,o + j,none⟩ = some u∧SK u vs[j])→KQ w (w.setCells b o vs)
 | [],_,w,_=>KQ.refl w
 | v :: vs,o,w,h=>by
   obtain ⟨x,hx,hn⟩:=h 0 (by simp)
   rw [Nat.add_zero] at hx
   have h1:KQ w (w.setCell ⟨b,o,none⟩ v):=KQ.setCell hx (.inr hn)
   refine h1.trans ?_
   show KQ _ ((w.setCell ⟨b,o,none⟩ v).setCells b (o + 1) vs)
   refine KQ.sets b vs (o + 1) _ fun j hj=>?_
   obtain ⟨y,hy,hm⟩:=h (j + 1) (by simp;omega)
   rw [show o + 1 + j = o + (j + 1) by omega]
   exact h1.sk hm hy
theorem clear_q {w:World} {z:Value} {g o n c e k:Nat} {t ty:TypeId} (ht:Tryz.prog.underlying t = some (.slice e)) (hv:∀ w,(zeroValue e).run Tryz.prog w = .ok z w) (hz:z.cells.size = k) (hz1:∀ v ∈ z.cells.toList,v.oneCell' = true) (hk:0 < k) (hn:0 < n) (hu:Uf w g) (hc:∀ j,j < n * k→∃ u,w.cell? ⟨g,o + j,none⟩ = some u∧SK u (z.cells.getD (j % k) undef)) :
 ∃ w',(Builtin.clear_ #[t] ty #[.slice (some ⟨g,o,none⟩) n c]).run Tryz.prog w = .ok (.tuple #[]) w'∧KQ w w'∧(∀ B,B ≤ g→Below B w w')∧∀ b,b ≠ g→w'.heap[b]? = w.heap[b]?:=by
 obtain ⟨cs,T,hb⟩:=hu
 obtain ⟨vs,hvs⟩:∃ vs,(Builtin.zeroCells z.cells n).toList = vs:=⟨_,rfl⟩
 have hl:vs.length = n * k:=by rw [← hvs,Array.length_toList,size_zeroCells,hz]
 have hval:∀ q (hq:q < vs.length),vs[q] = z.cells.getD (q % k) undef:=by
  intro q hq
  subst hvs
  have hq':q < (Builtin.zeroCells z.cells n).size:=by simpa using hq
  have hk':q % z.cells.size < z.cells.size:=Nat.mod_lt _ (by omega)
  have:(Builtin.zeroCells z.cells n).toList[q] = z.cells[q % z.cells.size]:=by
   simp [Builtin.zeroCells,hk']
  rw [this,← hz]
  simp [Array.getD,hk']
 have hmem:∀ v ∈ vs,v ∈ z.cells.toList:=by
  intro v hv'
  obtain ⟨q,hq,rfl⟩:=List.getElem_of_mem hv'
  rw [hval q hq]
  have hk':q % k < z.cells.size:=by rw [hz];exact Nat.mod_lt _ hk
  simp [Array.getD,hk']
 have hst:=run_storeCells_cells (P:=Tryz.prog) g o vs 0 w (fun j hj=>by
  rw [Nat.add_zero]
  obtain ⟨u,h1,_⟩:=hc j (by omega)
  rw [h1];rfl) (fun j hj=>by
  rw [Nat.add_zero];exact cells_frz hb) (fun v hv'=>hz1 v (hmem v hv'))
 rw [Nat.add_zero] at hst
 refine ⟨w.setCells g o vs,?_,KQ.sets g vs o w (fun j hj=>?_),fun B hB=>below_setCells hB vs o w (Below.refl B w),fun b hb=>setCells_other hb vs o w⟩
 · obtain ⟨m,hm⟩:∃ m,n = m + 1:=⟨n - 1,by omega⟩
   subst hm
   simp [Builtin.clear_,run_underlying ht,hv,hvs,hst]
 · rw [hval j hj]
   exact hc j (by omega)
theorem clear_none {w:World} {t ty:TypeId} {e c:Nat} {an:Option Addr} (ht:Tryz.prog.underlying t = some (.slice e)):(Builtin.clear_ #[t] ty #[.slice an 0 c]).run Tryz.prog w = .ok (.tuple #[]) w:=by
 cases an with
 | none=>simp [Builtin.clear_,run_underlying ht]
 | some ad=>simp [Builtin.clear_,run_underlying ht]
theorem Tryz.zero71q (w:World):(zeroValue 71).run Tryz.prog w = .ok (.agg #[.string ⟨#[]⟩, .bool false, .int .i64 0]) w:=by kernel_rfl
theorem clear_ints2 {S:Nat→Prop} {w0 w:World} {l:List Int} {an:Option Addr} {cn:Nat} (ty:TypeId) (h:IntU S w0 (.slice an l.length cn) l) (hk:KQ w0 w):∃ w',(Builtin.clear_ #[66] ty #[.slice an l.length cn]).run Tryz.prog w = .ok (.tuple #[]) w'∧KQ w w'∧(∀ B,(∀ b,S b→B ≤ b)→Below B w w')∧∀ b,¬ S b→w'.heap[b]? = w.heap[b]?:=by
 by_cases hn:0 < l.length
 · obtain ⟨g,o,rfl,hg,_,_,hc⟩:=SlC.cells h hn
   obtain ⟨w',h1,h2,h3,h4⟩:=clear_q (k:=1) (w:=w) (g:=g) (o:=o) (n:=l.length) (c:=cn) (ty:=ty) Tryz.underlying66 Tryz.zero3 rfl (by simp [Value.cells,Value.oneCell']) (by omega) hn (hk.uf hg.2) (fun j hj=>hk.sk (.inl ⟨_,0,rfl,by rw [Nat.mod_one];rfl⟩) (hc j (.int .i64 (l[j]'(by omega))) (by simp [show j < l.length by omega])))
   exact ⟨w',h1,h2,fun B hB=>h3 B (hB g hg.1),fun b hb=>h4 b fun e=>hb (by rw [e];exact hg.1)⟩
 · obtain rfl:l = []:=List.eq_nil_of_length_eq_zero (by omega)
   exact ⟨w,clear_none Tryz.underlying66,KQ.refl w,fun B _=>Below.refl _ _,fun _ _=>rfl⟩
theorem clear_path2 {S:Nat→Prop} {w0 w:World} {p:List Ky} {an:Option Addr} {cn:Nat} (ty:TypeId) (h:PthU S w0 (.slice an p.length cn) p) (hk:KQ w0 w):∃ w',(Builtin.clear_ #[65] ty #[.slice an p.length cn]).run Tryz.prog w = .ok (.tuple #[]) w'∧KQ w w'∧(∀ B,(∀ b,S b→B ≤ b)→Below B w w')∧∀ b,¬ S b→w'.heap[b]? = w.heap[b]?:=by
 by_cases hn:0 < p.length
 · obtain ⟨g,o,rfl,hg,_,_,hc⟩:=SlC.cells h hn
   obtain ⟨w',h1,h2,h3,h4⟩:=clear_q (k:=3) (w:=w) (g:=g) (o:=o) (n:=p.length) (c:=cn) (ty:=ty) Tryz.underlying65 Tryz.zero71q rfl (by simp [Value.cells,Value.oneCell']) (by omega) hn (hk.uf hg.2) (fun j hj=>by
    have hi:j / 3 < p.length:=by omega
    obtain ⟨k0,k1,k2⟩:=key_cells hi
    obtain h | h | h:j % 3 = 0 ∨ j % 3 = 1 ∨ j % 3 = 2:=by omega
    · rw [h]
      rw [show j / 3 * 3 = j by omega] at k0
      exact hk.sk (.inr (.inl ⟨_,⟨#[]⟩,rfl,rfl⟩)) (hc j _ k0)
    · rw [h]
      rw [show j / 3 * 3 + 1 = j by omega] at k1
      exact hk.sk (.inr (.inr ⟨_,false,rfl,rfl⟩)) (hc j _ k1)
    · rw [h]
      rw [show j / 3 * 3 + 2 = j by omega] at k2
      exact hk.sk (.inl ⟨_,0,rfl,rfl⟩) (hc j _ k2))
   exact ⟨w',h1,h2,fun B hB=>h3 B (hB g hg.1),fun b hb=>h4 b fun e=>hb (by rw [e];exact hg.1)⟩
 · obtain rfl:p = []:=List.eq_nil_of_length_eq_zero (by omega)
   exact ⟨w,clear_none Tryz.underlying65,KQ.refl w,fun B _=>Below.refl _ _,fun _ _=>rfl⟩
theorem clear_ints {S:Nat→Prop} {w0 w:World} {l:List Int} {an:Option Addr} {cn:Nat} (ty:TypeId) (h:IntU S w0 (.slice an l.length cn) l) (hk:KQ w0 w):∃ w',(Builtin.clear_ #[66] ty #[.slice an l.length cn]).run Tryz.prog w = .ok (.tuple #[]) w'∧KQ w w'∧∀ B,(∀ b,S b→B ≤ b)→Below B w w':=
 let ⟨w',h1,h2,h3,_⟩:=clear_ints2 ty h hk;⟨w',h1,h2,h3⟩
theorem clear_path {S:Nat→Prop} {w0 w:World} {p:List Ky} {an:Option Addr} {cn:Nat} (ty:TypeId) (h:PthU S w0 (.slice an p.length cn) p) (hk:KQ w0 w):∃ w',(Builtin.clear_ #[65] ty #[.slice an p.length cn]).run Tryz.prog w = .ok (.tuple #[]) w'∧KQ w w'∧∀ B,(∀ b,S b→B ≤ b)→Below B w w':=
 let ⟨w',h1,h2,h3,_⟩:=clear_path2 ty h hk;⟨w',h1,h2,h3⟩
end Go.Proofs.LF
