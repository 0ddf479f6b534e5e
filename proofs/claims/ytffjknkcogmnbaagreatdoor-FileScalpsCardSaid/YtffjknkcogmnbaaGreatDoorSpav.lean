/- Parts of the proof of a law of layer 11 (file): LfYar. The conditions stand in each theorem. -/
import Derived.Lib.LazyBuf
import Derived.Test.YtffjknkcogmnbaaGreatDoorProg
import Derived.Test.YtffjknkcogmnbaaGreatDoorSpac
import Derived.Test.YtffjknkcogmnbaaGreatDoorSpae
import Derived.Test.YtffjknkcogmnbaaGreatDoorSpah
import Derived.Test.YtffjknkcogmnbaaGreatDoorSpap
import Derived.Test.YtffjknkcogmnbaaGreatDoorSpas
set_option linter.all false
set_option linter.unusedVariables false
set_option linter.unusedSimpArgs false
set_option linter.all false
set_option linter.unusedVariables false
set_option linter.unusedSimpArgs false
namespace Go.Proofs.LF
open Go.RowKit Go.Sort
set_option maxHeartbeats 4000000
set_option maxRecDepth 100000
attribute [local go_sem] q1_ q2_ q6_
theorem smF_eq (a b:List Fl) (p:List Ky):smF a b p = (((fnd a p).isSome == (fnd b p).isSome) && decide (((fnd a p).getD fl0).l = ((fnd b p).getD fl0).l)):=by
 unfold smF
 cases fnd a p <;> cases fnd b p <;> simp
theorem xk_ {l:List Fl} {p:List Ky} (h:SmF l):((fnd l p).getD fl0).p.length ≤ 1000∧((fnd l p).getD fl0).l.length ≤ 1000:=by
 cases hf:fnd l p with
 | none=>simp [fl0]
 | some x=>
   have hm:x ∈ l:=by
    unfold fnd at hf
    split at hf
    · rename_i y hy
      split at hf
      · cases hf;exact List.mem_of_getElem? hy
      · cases hf
    · cases hf
   exact ⟨(h x hm).1,(h x hm).2.1⟩
theorem v6_ (a b:List Fl) (p:List Ky) (aa ab ap:Option Addr) (ca cb cp:Nat) (S S' T:Nat→Prop) (w:World) (ha:FlSl S w (.slice aa a.length ca) a) (hS:∀ b,S b→b < w.heap.size) (hb:FlSl S' w (.slice ab b.length cb) b) (hS':∀ b,S' b→b < w.heap.size)
 (hp:Pth T w (.slice ap p.length cp) p) (hT:∀ b,T b→b < w.heap.size) (la:a.length ≤ 1000) (lb:b.length ≤ 1000) (sa:SmF a) (sb:SmF b) (lp:p.length ≤ 1000) :
 Calls Tryz.prog 30 #[.slice aa a.length ca, .slice ab b.length cb, .slice ap p.length cp] w fun e w'=>e = .returned (.bool (smF a b p))∧Below w.heap.size w w':=by
 have H1:=hid (zU_ a p aa ap ca cp S T w ha hS hp hT la sa lp)
 have HB:=hid hb
 have HP:=hid hp
 have HS:=hid hS
 have HS':=hid hS'
 have HT:=hid hT
 have HFA:=hid (xk_ (p:=p) sa)
 have HFB:=hid (xk_ (p:=p) sb)
 have HSB:=hid sb
 have HE:=hid (smF_eq a b p)
 clear ha hb hp hS hS' hT sa sb
 go_enter Tryz.func30,Tryz.ntmps30
 go_wp2_with fail
 refine H1.out.mono ?_
 rintro e w1 ⟨ap1,cp1,an1,cn1,rfl,_,hI1,hb1⟩
 obtain ⟨x,hx⟩:∃ x,(fnd a p).getD fl0 = x:=⟨_,rfl⟩
 obtain ⟨bx,hbx⟩:∃ bx,(fnd a p).isSome = bx:=⟨_,rfl⟩
 rw [hx] at hI1 ⊢
 rw [hbx]
 have HX:=hid hx
 have HBX:=hid hbx
 have hz1:=hb1.size
 have hb1':Below w.heap.size w (w1.alloc (.cells #[.slice ap1 x.p.length cp1, .slice an1 x.l.length cn1] 98)):=hb1.alloc hz1 _
 have HB1:=hid hb1'
 have HI1:=hid (hI1.agree (q9_ (B:=w1.heap.size) (w':=w1.alloc (.cells #[.slice ap1 x.p.length cp1, .slice an1 x.l.length cn1] 98)) ((Below.refl _ _).alloc (nl_ _) _) (fun b hb=>by have:=HS.out b hb;omega)))
 have hblk1:(w1.alloc (.cells #[.slice ap1 x.p.length cp1, .slice an1 x.l.length cn1] 98)).heap[w1.heap.size]? = some (.cells #[.slice ap1 x.p.length cp1, .slice an1 x.l.length cn1] 98 (0,0)):=ha_ _ _
 have HK1:=hid hblk1
 clear hx hbx hI1 hb1' hblk1 hb1
 go_wp2_with fail
 refine (zU_ b p ab ap cb cp S' T _ (HB.out.agree (q9_ HB1.out HS'.out)) (fun b hb=>by have:=HS'.out b hb;simp;omega) (HP.out.agree (q9_ HB1.out HT.out)) (fun b hb=>by have:=HT.out b hb;simp;omega) lb HSB.out lp).mono ?_
 rintro e w2 ⟨ap2,cp2,an2,cn2,rfl,_,hI2,hb2⟩
 obtain ⟨y,hy⟩:∃ y,(fnd b p).getD fl0 = y:=⟨_,rfl⟩
 obtain ⟨bz,hbz⟩:∃ bz,(fnd b p).isSome = bz:=⟨_,rfl⟩
 rw [hy] at hI2 ⊢
 rw [hbz]
 have hse:=HE.out
 rw [HX.out,HBX.out,hy,hbz] at hse
 have hxl:=HFA.out.2
 have hyl:=HFB.out.2
 rw [HX.out] at hxl
 rw [hy] at hyl
 have HSE:=hid hse
 have hz2:=hb2.size
 simp only [World.size_alloc] at hz2
 have hq1:=(hb2.block w1.heap.size (by simp)).trans HK1.out
 have hb2':Below w.heap.size w (w2.alloc (.cells #[.slice ap2 y.p.length cp2, .slice an2 y.l.length cn2] 98)):=(HB1.out.trans (hb2.mono (by simp;omega))).alloc (by omega) _
 have m1:(w2.alloc (.cells #[.slice ap2 y.p.length cp2, .slice an2 y.l.length cn2] 98)).cell? ⟨w1.heap.size,1,none⟩ = some (.slice an1 x.l.length cn1):=cg_ (k:=1) ((heap_alloc_old _ _ (by omega)).trans hq1) rfl
 have hag:qd_ (fun b=>S b ∨ S' b) (w1.alloc (.cells #[.slice ap1 x.p.length cp1, .slice an1 x.l.length cn1] 98)) (w2.alloc (.cells #[.slice ap2 y.p.length cp2, .slice an2 y.l.length cn2] 98)):=fun b hb=>by
  have:b < w.heap.size:=by rcases hb with hb | hb;exact HS.out b hb;exact HS'.out b hb
  exact (heap_alloc_old _ _ (by omega)).trans (hb2.block b (by simp;omega))
 have hEq:=zS_ x.l y.l an1 an2 cn1 cn2 (fun b=>S b ∨ S' b) _ ((HI1.out.wide fun b hb => .inl hb).agree hag) ((hI2.agree fun b hb=>heap_alloc_old _ _ (by have:=HS'.out b hb;omega)).wide fun b hb => .inr hb) (by omega) (by omega)
 have HEQ:=hid hEq
 have HB2:=hid hb2'
 clear hse hy hbz hI2 hb2 hb2' hq1 hag hEq
 cases bx <;> cases bz
 all_goals
  go_wp2_with fail
  first
   | (go_ret
      exact ⟨by rw [HSE.out];simp,HB2.out⟩)
   | (refine HEQ.out.mono ?_
      rintro e w3 ⟨rfl,hb3⟩
      have hb4:=HB2.out.trans (hb3.mono HB2.out.size)
      clear hb3
      go_wp2_with fail
      go_ret
      exact ⟨by rw [HSE.out];simp,hb4⟩)
end Go.Proofs.LF
namespace Go.Proofs.LF
open Go.RowKit
set_option maxRecDepth 100000
def SK (u u':Value):Prop:=(∃ x y,u = .int .i64 x∧u' = .int .i64 y) ∨ (∃ x y,u = .string x∧u' = .string y) ∨ ∃ x y,u = .bool x∧u' = .bool y
end Go.Proofs.LF