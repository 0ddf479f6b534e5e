/- Parts of the proof of a law of layer 11 (file): LfYaq, LfYar. The conditions stand in each theorem. -/
import Derived.Lib.LazyBuf
import Derived.Test.YtffjknkcogmnbaaGreatDoorProg
import Derived.Test.YtffjknkcogmnbaaGreatDoorTyac
import Derived.Test.YtffjknkcogmnbaaGreatDoorTyae
import Derived.Test.YtffjknkcogmnbaaGreatDoorTyah
import Derived.Test.YtffjknkcogmnbaaGreatDoorTyan
import Derived.Test.YtffjknkcogmnbaaGreatDoorTyap
import Derived.Test.YtffjknkcogmnbaaGreatDoorTyar
set_option linter.all false
set_option linter.unusedVariables false
set_option linter.unusedSimpArgs false
set_option linter.all false
set_option linter.unusedVariables false
set_option linter.unusedSimpArgs false
namespace Go.Proofs.LF
open Go.RowKit Go.Sort
set_option maxHeartbeats 4000000
set_option maxRecDepth 100000
attribute [local go_sem] q1_ q2_ q8_
def PutE (y:Fo) (p:List Ky) (n:List UInt8) (l:List Int) (s:Fo) (w:World) (e:Ending) (w':World):Prop:=
 ∃ a c,e = .returned (.tuple #[.slice a (putY y p n l s).len c, .int .i64 (putE y p n l s)])∧FOw 109 (Rg w.heap.size w'.heap.size) w' (.slice a (putY y p n l s).len c) (putY y p n l s)∧Below w.heap.size w w'
theorem FOw.nil {E:TypeId} {S:Nat→Prop} {w:World}:FOw E S w (.slice none 0 0) .nil:=⟨[],World.ownsRow_nil _ _ _ _,fun g h=>by simp [Value.ownBlock] at h,rfl⟩
theorem PutE.bad {y:Fo} {p:List Ky} {n:List UInt8} {l:List Int} {s:Fo} {w w':World} {x:Int} (hx:putE y p n l s = x) (h0:x ≠ 0) (hb:Below w.heap.size w w'):PutE y p n l s w (.returned (.tuple #[.slice none 0 0, .int .i64 x])) w':=by
 subst hx
 have hy:putY y p n l s = .nil:=by rw [putY,if_neg h0]
 refine ⟨none,0,by rw [hy];rfl,by rw [hy];exact FOw.nil,hb⟩
end Go.Proofs.LF
set_option linter.all false
set_option linter.unusedVariables false
set_option linter.unusedSimpArgs false
namespace Go.Proofs.LF
open Go.RowKit Go.Sort
set_option maxHeartbeats 4000000
set_option maxRecDepth 100000
attribute [local go_sem] q1_ q2_ q8_
theorem smF_eq (a b:List Fl) (p:List Ky):smF a b p = (((fnd a p).isSome == (fnd b p).isSome) && decide (((fnd a p).getD fl0).l = ((fnd b p).getD fl0).l)):=by
 unfold smF
 cases fnd a p <;> cases fnd b p <;> simp
theorem fnd_len {l:List Fl} {p:List Ky} (h:SmF l):((fnd l p).getD fl0).p.length ≤ 1000∧((fnd l p).getD fl0).l.length ≤ 1000:=by
 cases hf:fnd l p with
 | none=>simp [fl0]
 | some x=>
   have hm:x ∈ l:=by
    unfold fnd at hf
    split at hf
    · rename_i y hy
      split at hf
      · cases hf;exact List.mem_of_getElem? hy
      · cases hf
    · cases hf
   exact ⟨(h x hm).1,(h x hm).2.1⟩
theorem x1_ (a b:List Fl) (p:List Ky) (aa ab ap:Option Addr) (ca cb cp:Nat) (S S' T:Nat→Prop) (w:World) (ha:FlSl S w (.slice aa a.length ca) a) (hS:∀ b,S b→b < w.heap.size) (hb:FlSl S' w (.slice ab b.length cb) b) (hS':∀ b,S' b→b < w.heap.size)
 (hp:Pth T w (.slice ap p.length cp) p) (hT:∀ b,T b→b < w.heap.size) (la:a.length ≤ 1000) (lb:b.length ≤ 1000) (sa:SmF a) (sb:SmF b) (lp:p.length ≤ 1000) :
 Calls Tryz.prog 30 #[.slice aa a.length ca, .slice ab b.length cb, .slice ap p.length cp] w fun e w'=>e = .returned (.bool (smF a b p))∧Below w.heap.size w w':=by
 have H1:=hid (kL_ a p aa ap ca cp S T w ha hS hp hT la sa lp)
 have HB:=hid hb
 have HP:=hid hp
 have HS:=hid hS
 have HS':=hid hS'
 have HT:=hid hT
 have HFA:=hid (fnd_len (p:=p) sa)
 have HFB:=hid (fnd_len (p:=p) sb)
 have HSB:=hid sb
 have HE:=hid (smF_eq a b p)
 clear ha hb hp hS hS' hT sa sb
 go_enter Tryz.func30,Tryz.ntmps30
 go_wp2_with fail
 refine H1.out.mono ?_
 rintro e w1 ⟨ap1,cp1,an1,cn1,rfl,_,hI1,hb1⟩
 obtain ⟨x,hx⟩:∃ x,(fnd a p).getD fl0 = x:=⟨_,rfl⟩
 obtain ⟨bx,hbx⟩:∃ bx,(fnd a p).isSome = bx:=⟨_,rfl⟩
 rw [hx] at hI1 ⊢
 rw [hbx]
 have HX:=hid hx
 have HBX:=hid hbx
 have hz1:=hb1.size
 have hb1':Below w.heap.size w (w1.alloc (.cells #[.slice ap1 x.p.length cp1, .slice an1 x.l.length cn1] 98)):=hb1.alloc hz1 _
 have HB1:=hid hb1'
 have HI1:=hid (hI1.agree (qc_ (B:=w1.heap.size) (w':=w1.alloc (.cells #[.slice ap1 x.p.length cp1, .slice an1 x.l.length cn1] 98)) ((Below.refl _ _).alloc (nl_ _) _) (fun b hb=>by have:=HS.out b hb;omega)))
 have hblk1:(w1.alloc (.cells #[.slice ap1 x.p.length cp1, .slice an1 x.l.length cn1] 98)).heap[w1.heap.size]? = some (.cells #[.slice ap1 x.p.length cp1, .slice an1 x.l.length cn1] 98 (0,0)):=ha_ _ _
 have HK1:=hid hblk1
 clear hx hbx hI1 hb1' hblk1 hb1
 go_wp2_with fail
 refine (kL_ b p ab ap cb cp S' T _ (HB.out.agree (qc_ HB1.out HS'.out)) (fun b hb=>by have:=HS'.out b hb;simp;omega) (HP.out.agree (qc_ HB1.out HT.out)) (fun b hb=>by have:=HT.out b hb;simp;omega) lb HSB.out lp).mono ?_
 rintro e w2 ⟨ap2,cp2,an2,cn2,rfl,_,hI2,hb2⟩
 obtain ⟨y,hy⟩:∃ y,(fnd b p).getD fl0 = y:=⟨_,rfl⟩
 obtain ⟨bz,hbz⟩:∃ bz,(fnd b p).isSome = bz:=⟨_,rfl⟩
 rw [hy] at hI2 ⊢
 rw [hbz]
 have hse:=HE.out
 rw [HX.out,HBX.out,hy,hbz] at hse
 have hxl:=HFA.out.2
 have hyl:=HFB.out.2
 rw [HX.out] at hxl
 rw [hy] at hyl
 have HSE:=hid hse
 have hz2:=hb2.size
 simp only [World.size_alloc] at hz2
 have hq1:=(hb2.block w1.heap.size (by simp)).trans HK1.out
 have hb2':Below w.heap.size w (w2.alloc (.cells #[.slice ap2 y.p.length cp2, .slice an2 y.l.length cn2] 98)):=(HB1.out.trans (hb2.mono (by simp;omega))).alloc (by omega) _
 have m1:(w2.alloc (.cells #[.slice ap2 y.p.length cp2, .slice an2 y.l.length cn2] 98)).cell? ⟨w1.heap.size,1,none⟩ = some (.slice an1 x.l.length cn1):=cg_ (k:=1) ((heap_alloc_old _ _ (by omega)).trans hq1) rfl
 have hag:qg_ (fun b=>S b ∨ S' b) (w1.alloc (.cells #[.slice ap1 x.p.length cp1, .slice an1 x.l.length cn1] 98)) (w2.alloc (.cells #[.slice ap2 y.p.length cp2, .slice an2 y.l.length cn2] 98)):=fun b hb=>by
  have:b < w.heap.size:=by rcases hb with hb | hb;exact HS.out b hb;exact HS'.out b hb
  exact (heap_alloc_old _ _ (by omega)).trans (hb2.block b (by simp;omega))
 have hEq:=w1_ x.l y.l an1 an2 cn1 cn2 (fun b=>S b ∨ S' b) _ ((HI1.out.wide fun b hb => .inl hb).agree hag) ((hI2.agree fun b hb=>heap_alloc_old _ _ (by have:=HS'.out b hb;omega)).wide fun b hb => .inr hb) (by omega) (by omega)
 have HEQ:=hid hEq
 have HB2:=hid hb2'
 clear hse hy hbz hI2 hb2 hb2' hq1 hag hEq
 cases bx <;> cases bz
 all_goals
  go_wp2_with fail
  first
   | (go_ret
      exact ⟨by rw [HSE.out];simp,HB2.out⟩)
   | (refine HEQ.out.mono ?_
      rintro e w3 ⟨rfl,hb3⟩
      have hb4:=HB2.out.trans (hb3.mono HB2.out.size)
      clear hb3
      go_wp2_with fail
      go_ret
      exact ⟨by rw [HSE.out];simp,hb4⟩)
end Go.Proofs.LF
namespace Go.Proofs.LF
open Go.RowKit
set_option maxRecDepth 100000
def SK (u u':Value):Prop:=(∃ x y,u = .int .i64 x∧u' = .int .i64 y) ∨ (∃ x y,u = .string x∧u' = .string y) ∨ ∃ x y,u = .bool x∧u' = .bool y
def Ks (u u':Value):Prop:=u' = u ∨ SK u u'
theorem SK.trans {a b c:Value} (h:SK a b) (k:SK b c):SK a c:=by
 rcases h with ⟨x,y,rfl,rfl⟩ | ⟨x,y,rfl,rfl⟩ | ⟨x,y,rfl,rfl⟩
 · rcases k with ⟨p,q,h1,rfl⟩ | ⟨p,q,h1,rfl⟩ | ⟨p,q,h1,rfl⟩
   · exact .inl ⟨x,q,rfl,rfl⟩
   · cases h1
   · cases h1
 · rcases k with ⟨p,q,h1,rfl⟩ | ⟨p,q,h1,rfl⟩ | ⟨p,q,h1,rfl⟩
   · cases h1
   · exact .inr (.inl ⟨x,q,rfl,rfl⟩)
   · cases h1
 · rcases k with ⟨p,q,h1,rfl⟩ | ⟨p,q,h1,rfl⟩ | ⟨p,q,h1,rfl⟩
   · cases h1
   · cases h1
   · exact .inr (.inr ⟨x,q,rfl,rfl⟩)
theorem SK.symm {a b:Value} (h:SK a b):SK b a:=by
 rcases h with ⟨x,y,rfl,rfl⟩ | ⟨x,y,rfl,rfl⟩ | ⟨x,y,rfl,rfl⟩
 · exact .inl ⟨y,x,rfl,rfl⟩
 · exact .inr (.inl ⟨y,x,rfl,rfl⟩)
 · exact .inr (.inr ⟨y,x,rfl,rfl⟩)
theorem Ks.trans {a b c:Value} (h:Ks a b) (k:Ks b c):Ks a c:=by
 rcases h with rfl | h
 · exact k
 · rcases k with rfl | k
   · exact .inr h
   · exact .inr (h.trans k)
theorem Ks.to {a b c:Value} (h:Ks a b) (k:SK a c):SK b c:=by
 rcases h with rfl | h
 · exact k
 · exact h.symm.trans k
def KQ (w w':World):Prop:=∀ (b:Nat) (cs:Array Value) (t:TypeId) (fr:Nat × Nat),w.heap[b]? = some (.cells cs t fr)→∃ cs',w'.heap[b]? = some (.cells cs' t fr)∧∀ (o:Nat) u,cs[o]? = some u→∃ u',cs'[o]? = some u'∧Ks u u'
theorem KQ.refl (w:World):KQ w w:=fun _ cs _ _ h=>⟨cs,h,fun _ u hu=>⟨u,hu, .inl rfl⟩⟩
theorem KQ.trans {a b c:World} (h:KQ a b) (k:KQ b c):KQ a c:=fun q cs t fr hq=>by
 obtain ⟨cs1,h1,h2⟩:=h q cs t fr hq
 obtain ⟨cs2,k1,k2⟩:=k q cs1 t fr h1
 refine ⟨cs2,k1,fun o u hu=>?_⟩
 obtain ⟨u1,e1,d1⟩:=h2 o u hu
 obtain ⟨u2,e2,d2⟩:=k2 o u1 e1
 exact ⟨u2,e2,d1.trans d2⟩
theorem KQ.of_below {w w':World} (h:Below w.heap.size w w'):KQ w w':=fun b cs _ _ hb=>
 ⟨cs,(h.block b (ge_ hb).1).trans hb,fun _ u hu=>⟨u,hu, .inl rfl⟩⟩
theorem KQ.cell {w w':World} (h:KQ w w') {b o:Nat} {u:Value} (hc:w.cell? ⟨b,o,none⟩ = some u):∃ u',w'.cell? ⟨b,o,none⟩ = some u'∧Ks u u':=by
 unfold World.cell? at hc ⊢
 simp only at hc ⊢
 cases hb:w.heap[b]? with
 | none=>rw [hb] at hc;cases hc
 | some x=>
   rw [hb] at hc
   cases x with
   | cells cs t fr=>
     obtain ⟨cs',h1,h2⟩:=h b cs t fr hb
     rw [h1]
     simp only [Option.isSome_none,Bool.false_eq_true,if_false] at hc ⊢
     exact h2 o u hc
   | _=>cases hc
theorem KQ.slice {w w':World} (h:KQ w w') {b o:Nat} {a:Option Addr} {n c:Nat} (hc:w.cell? ⟨b,o,none⟩ = some (.slice a n c)):w'.cell? ⟨b,o,none⟩ = some (.slice a n c):=by
 obtain ⟨u',h1,h2 | ⟨x,y,h2,_⟩ | ⟨x,y,h2,_⟩ | ⟨x,y,h2,_⟩⟩:=h.cell hc
 · rw [h1,h2]
 · cases h2
 · cases h2
 · cases h2
theorem KQ.bool {w w':World} (h:KQ w w') {b o:Nat} {q:Bool} (hc:w.cell? ⟨b,o,none⟩ = some (.bool q)):∃ q',w'.cell? ⟨b,o,none⟩ = some (.bool q'):=by
 obtain ⟨u',h1,h2 | ⟨x,y,h2,_⟩ | ⟨x,y,h2,_⟩ | ⟨x,y,h2,h3⟩⟩:=h.cell hc
 · exact ⟨q,by rw [h1,h2]⟩
 · cases h2
 · cases h2
 · exact ⟨y,by rw [h1,h3]⟩
theorem KQ.uf {w w':World} (h:KQ w w') {q:Nat} (hu:Uf w q):Uf w' q:=by
 obtain ⟨cs,t,hb⟩:=hu
 obtain ⟨cs',h1,_⟩:=h q cs t (0,0) hb
 exact ⟨cs',t,h1⟩
theorem KQ.setCell {w:World} {b o:Nat} {u v:Value} (hc:w.cell? ⟨b,o,none⟩ = some u) (hd:Ks u v):KQ w (w.setCell ⟨b,o,none⟩ v):=fun q cs t fr hq=>by
 by_cases hqb:b = q
 · subst hqb
   refine ⟨cs.setIfInBounds o v,by simp [World.setCell,Array.getElem?_modify,hq],fun i x hx=>?_⟩
   rw [Array.getElem?_setIfInBounds]
   by_cases hi:o = i
   · subst hi
     have hlt:o < cs.size:=(ge_ hx).1
     rw [if_pos rfl,if_pos hlt]
     unfold World.cell? at hc
     simp only [hq,Option.isSome_none,Bool.false_eq_true,if_false] at hc
     rw [hx] at hc
     cases hc
     exact ⟨v,rfl,hd⟩
   · rw [if_neg hi]
     exact ⟨x,hx, .inl rfl⟩
 · exact ⟨cs,(Below.heap_setCell _ _ _ _ (Ne.symm hqb)).trans hq,fun i x hx=>⟨x,hx, .inl rfl⟩⟩
end Go.Proofs.LF