/- Parts of the proof of a law of layer 11 (file): LfYae. The conditions stand in each theorem. -/
import Derived.Test.YtffjknkcogmnbaaGreatDoorProg
import Derived.Test.YtffjknkcogmnbaaGreatDoorSpaa
import Derived.Test.YtffjknkcogmnbaaGreatDoorSpac
import Derived.Test.YtffjknkcogmnbaaGreatDoorSpag
set_option linter.all false
set_option linter.unusedVariables false
set_option linter.unusedSimpArgs false
set_option linter.all false
set_option linter.unusedVariables false
set_option linter.unusedSimpArgs false
namespace Go.Proofs.LF
open Go.RowKit Go.Sort
set_option maxHeartbeats 4000000
set_option maxRecDepth 100000
attribute [local go_sem] q1_ q2_ q6_
theorem km_ (l:List Int) (a:Option Addr) (c:Nat) (S:Nat→Prop) (w:World) (hv:qF_ S w (.slice a l.length c) l) (hlen:l.length ≤ 1000) :
 Calls Tryz.prog 65 #[.slice a l.length c] w fun e w'=>∃ a' c',e = .returned (.slice a' l.length c')∧IntU (Rg w.heap.size w'.heap.size) w' (.slice a' l.length c') l∧Below w.heap.size w w':=by
 have fin:∀ (e:Ending) (w':World),(∃ v',e = .returned v'∧w'.ownsRow w.heap.size 3 1 v' l.length (l.map (Value.int .i64))∧v' ≠ .slice none 0 0∧Below w.heap.size w w') →
  ∃ a' c',e = .returned (.slice a' l.length c')∧IntU (Rg w.heap.size w'.heap.size) w' (.slice a' l.length c') l∧Below w.heap.size w w':=by
  rintro e w' ⟨v',rfl,h1,_,hb⟩
  obtain ⟨a',c',rfl,_,_⟩:=owns_shape h1
  exact ⟨a',c',rfl,SlC.of_owns_u h1,hb⟩
 by_cases hn:0 < l.length
 · obtain ⟨g,o,rfl,_,_,_,hc⟩:=SlC.cells hv hn
   have hz:l.length ≤ l.length:=nl_ _
   refine (Tryz.slices_Clone_int g o l.length c l w hz (by omega) (fun j hj=>?_)).mono fun e w' h=>fin e w' (by rwa [List.take_length] at h)
   refine hc j _ ?_
   rw [List.getElem?_map,List.getElem?_eq_getElem hj]
   simp [List.getD,hj]
 · obtain rfl:l = []:=List.eq_nil_of_length_eq_zero (by omega)
   cases a with
   | none=>refine (Tryz.slices_Clone_int_nil _ c w).mono ?_;rintro e w' ⟨rfl,rfl⟩;exact ⟨none,0,rfl,⟨rfl,none,0,rfl,nl_ _,by simp [maxLen],fun _=>rfl, .inl rfl⟩,Below.refl _ _⟩
   | some ad=>exact (Tryz.slices_Clone_int_zero ad c w).mono fun e w' h=>fin e w' h
theorem wg_ (l:List Int) (a:Option Addr) (c:Nat) (S:Nat→Prop) (w:World) (hv:qF_ S w (.slice a l.length c) l) (hlen:l.length ≤ 1000) :
 Calls Tryz.prog 65 #[.slice a l.length c] w fun e w'=>∃ a' c',e = .returned (.slice a' l.length c')∧qF_ (Rg w.heap.size w'.heap.size) w' (.slice a' l.length c') l∧Below w.heap.size w w':=
 (km_ l a c S w hv hlen).mono fun _ _ ⟨a',c',he,h,hb⟩=>⟨a',c',he,qF_.wide h fun q hq=>hq.1,hb⟩
structure StepK (O:Nat→Prop) (B:Nat) (W0 W w3:World) (v:Value) (gg:Nat):Prop where
 keep:Keep O W0 W
 own:∀ b,O b→b < B
 grown:W.grownBy w3 v.ownBlock
 base:B ≤ W0.heap.size
 old:∀ b,v.ownBlock = some b→B ≤ b∧b < W0.heap.size
 place:v.ownBlock = some gg ∨ gg = W.heap.size
 lt:gg < w3.heap.size
theorem StepK.size {O:Nat→Prop} {B:Nat} {W0 W w3:World} {v:Value} {gg:Nat} (h:StepK O B W0 W w3 v gg):W0.heap.size ≤ W.heap.size∧W.heap.size ≤ w3.heap.size:=⟨h.keep.size,h.grown.size⟩
theorem StepK.past {O:Nat→Prop} {B:Nat} {W0 W w3:World} {v v':Value} {gg:Nat} (h:StepK O B W0 W w3 v gg) (hv:v'.ownBlock = some gg):(∀ b,Rx B W0.heap.size v b→Rx B w3.heap.size v' b)∧qd_ (Rx B W0.heap.size v) W0 w3:=by
 have hs:=h.size
 refine ⟨fun b hb=>⟨hb.1,by have:=hb.2.1;omega,fun e=>?_⟩,fun b hb=>?_⟩
 · rw [hv] at e
   cases e
   rcases h.place with hp | hp
   · exact hb.2.2 hp
   · have:=hb.2.1
     omega
 · exact (h.grown.block b (by have:=hb.2.1;omega) (fun e=>hb.2.2 e.symm)).trans (h.keep.block b hb.2.1 (fun e=>by have:=h.own b e;have:=hb.1;omega))
theorem StepK.stay {P:(Nat→Prop)→World→Prop} (hP:Stable P) {O:Nat→Prop} {B:Nat} {W0 W w3:World} {v v':Value} {gg:Nat} (h:StepK O B W0 W w3 v gg) (hv:v'.ownBlock = some gg) (hF:P (Rx B W0.heap.size v) W0):P (Rx B w3.heap.size v') w3:=
 hP.both hF (h.past hv).2 (h.past hv).1
theorem StepK.lift {P:(Nat→Prop)→World→Prop} (hP:Stable P) {O:Nat→Prop} {B p q:Nat} {W0 W w1 w3:World} {v v':Value} {gg:Nat} (h:StepK O B W0 W w3 v gg) (hv:v'.ownBlock = some gg) (hF:P (Rg p q) w1) (hp:W0.heap.size ≤ p) (hq:q ≤ W.heap.size) (hb:qd_ (Rg p q) w1 W):P (Rx B w3.heap.size v') w3:=by
 have hs:=h.size
 have hB:=h.base
 refine hP.both hF (fun b hb'=>(h.grown.block b (by have:=hb'.2;omega) (fun e=>by have:=(h.old _ e.symm).2;have:=hb'.1;omega)).trans (hb b hb')) (fun b hb=>⟨by have:=hb.1;omega,by have:=hb.2;omega,fun e=>?_⟩)
 rw [hv] at e
 cases e
 rcases h.place with hp' | hp'
 · have:=(h.old _ hp').2;have:=hb.1;omega
 · have:=hb.2;omega
theorem StepK.out {O:Nat→Prop} {B:Nat} {W00 W0 W w3:World} {v:Value} {gg:Nat} (h:StepK O B W0 W w3 v gg) (h0:B = W00.heap.size) (hk:Keep O W00 W0):Keep O W00 w3:=by
 refine ⟨h.grown.os.trans (h.keep.os.trans hk.os),h.grown.tape.trans (h.keep.tape.trans hk.tape),h.grown.output.trans (h.keep.output.trans hk.output),by have:=h.size;have:=hk.size;omega,fun b hb ho=>?_⟩
 have h1:=hk.block b hb ho
 have h2:=h.keep.block b (by have:=hk.size;omega) ho
 have h3:=h.grown.block b (by have:=h.size;have:=hk.size;omega) (fun e=>by have:=(h.old _ e.symm).1;omega)
 exact h3.trans (h2.trans h1)
theorem key_name {p:List Ky} {k:Nat} (h:k < p.length):(p.flatMap Ky.cells)[k * 3]? = some (.string (bs p[k].n)):=by
 have e:p.flatMap Ky.cells = (p.take k).flatMap Ky.cells ++ (Ky.cells p[k] ++ (p.drop (k + 1)).flatMap Ky.cells):=by
  conv=>lhs;rw [← List.take_append_drop k p,List.drop_eq_getElem_cons h]
  rw [List.flatMap_append,List.flatMap_cons]
 have hl:((p.take k).flatMap Ky.cells).length = k * 3:=by rw [zm_,List.length_take];congr 1;omega
 rw [e,List.getElem?_append_right (by omega),hl];simp [Ky.cells]
theorem Fo.app_assoc:∀ (x y z:Fo),(x.app y).app z = x.app (y.app z)
 | .nil,_,_=>rfl
 | .cons _ _ _ r,y,z=>by simp only [Fo.app];rw [Fo.app_assoc r y z]
theorem Keep.setNew {O:Nat→Prop} {A B:World} {p:Addr} {v:Value} (h:Keep O A B) (hp:A.heap.size ≤ p.block):Keep O A (B.setCell p v):=
 ⟨h.os,h.tape,h.output,by have:=h.size;simpa [World.setCell] using this,fun b hb ho=>(Below.heap_setCell _ _ _ _ (by omega)).trans (h.block b hb ho)⟩
theorem Keep.alloc {O:Nat→Prop} {A B:World} (h:Keep O A B) (o:Obj):Keep O A (B.alloc o):=
 ⟨h.os,h.tape,h.output,by have:=h.size;simp;omega,fun b hb ho=>(heap_alloc_old _ _ (by have:=h.size;omega)).trans (h.block b hb ho)⟩
def numAt (A:Nat) (w:World):Nat:=match w.cell? ⟨A,0,none⟩ with | some (.int _ z)=>z.toNat | _=>0
def vd_ (A:Nat) (i:Nat) (w:World):Prop:=w.heap[A]? = some (.cells #[.int .i64 (i:Int)] 3 (0,0))
theorem vd_.cell {A i:Nat} {w:World} (h:vd_ A i w):w.cell? ⟨A,0,none⟩ = some (.int .i64 (i:Int)):=by unfold vd_ at h;simp [World.cell?,h]
theorem vd_.num {A i:Nat} {w:World} (h:vd_ A i w):numAt A w = i:=by unfold numAt;rw [h.cell];simp
theorem vd_.fz {A i:Nat} {w:World} (h:vd_ A i w):w.frozen? ⟨A,0,none⟩ = false:=by unfold vd_ at h;simp [World.frozen?,h]
theorem vd_.lt {A i:Nat} {w:World} (h:vd_ A i w):A < w.heap.size:=(ge_ h).1
theorem vd_.set {A i:Nat} {w:World} (h:vd_ A i w) (j:Nat):vd_ A j (w.setCell ⟨A,0,none⟩ (.int .i64 (j:Int))):=by
 unfold vd_ at h ⊢;simp [World.setCell,Array.getElem?_modify,h]
theorem vd_.of {A i:Nat} {w w':World} (h:vd_ A i w) (hb:w'.heap[A]? = w.heap[A]?):vd_ A i w':=hb.trans h
theorem Tryz.info85':(Tryz.prog.info? 109).map (fun i=>(i.zero,i.size,i.bytes)) = some (some (.agg #[.string ByteArray.empty, .slice none 0 0, .slice none 0 0]),3,64):=by kernel_rfl
def SmF (l:List Fl):Prop:=∀ x ∈ l,x.p.length ≤ 1000∧x.l.length ≤ 1000∧∀ k ∈ x.p,k.n.length ≤ 1000
theorem cg_ {w:World} {b k:Nat} {cs:Array Value} {t:TypeId} {v:Value} (h:w.heap[b]? = some (.cells cs t (0,0))) (hk:cs[k]? = some v):w.cell? ⟨b,k,none⟩ = some v:=by simp [World.cell?,h,hk]
theorem cells_frz {w:World} {b k:Nat} {cs:Array Value} {t:TypeId} (h:w.heap[b]? = some (.cells cs t (0,0))):w.frozen? ⟨b,k,none⟩ = false:=by simp [World.frozen?,h]
theorem jo_ {w:World} {b o:Nat} {v:Value} {X Y:Obj} (h:(w.alloc X).cell? ⟨b,o,none⟩ = some v) (hb:b < w.heap.size):(w.alloc Y).cell? ⟨b,o,none⟩ = some v:=by
 rw [World.cell?_of_block (w:=w) (heap_alloc_old w Y hb)]
 rwa [World.cell?_of_block (w:=w) (heap_alloc_old w X hb)] at h
structure MidU (W2 W5:World) (b8:Nat) (nm:List UInt8) (nums:List Int) (a3:Option Addr) (c3:Nat):Prop where
 lo:W2.heap.size ≤ b8
 hi:b8 < W5.heap.size
 blk:W5.heap[b8]? = some (.cells #[.string (bs nm), .slice a3 nums.length c3, .slice none 0 0] 109 (0,0))
 bel:Below W2.heap.size W2 W5
 ints:∃ p q,W2.heap.size ≤ p∧q ≤ W5.heap.size∧¬ Rg p q b8∧IntU (Rg p q) W5 (.slice a3 nums.length c3) nums
theorem ql_ {w:World} {b c o k:Nat} {u v:Value} (h:w.cell? ⟨b,o,none⟩ = some v) (hb:b ≠ c):(w.setCell ⟨c,k,none⟩ u).cell? ⟨b,o,none⟩ = some v:=by
 rw [World.cell?_of_block (w:=w) (Below.heap_setCell _ _ _ _ hb)];exact h
def belC (A L B:Nat):Value := .func (.func 84) #[] #[.pointer (some ⟨A,0,none⟩), .pointer (some ⟨L,0,none⟩), .pointer (some ⟨B,0,none⟩)]
theorem below_u (A L B:Nat) (l:List Fl) (al:Option Addr) (cl:Nat) (hll:l.length ≤ 1000) (hsm:SmF l) (m:Nat):∀ (i d:Nat) (S:Nat→Prop) (w:World),
 l.length - i < m→i ≤ l.length→d ≤ i→FlSl S w (.slice al l.length cl) l→(∀ b,S b→b < w.heap.size∧b ≠ A)→w.cell? ⟨L,0,none⟩ = some (.slice al l.length cl)→w.cell? ⟨B,0,none⟩ = some (belC A L B) →
 vd_ A i w→L ≠ A→B ≠ A →
 Calls Tryz.prog 84 #[.int .i64 d, .pointer (some ⟨A,0,none⟩), .pointer (some ⟨L,0,none⟩), .pointer (some ⟨B,0,none⟩)] w fun e w'=>
  ∃ a c,e = .returned (.slice a (treF d (l.drop i)).1.len c)∧FSlU (Rg w.heap.size w'.heap.size) w' (.slice a (treF d (l.drop i)).1.len c) (treF d (l.drop i)).1∧vd_ A (i + (treF d (l.drop i)).2) w'∧Keep (· = A) w w':=by
 induction m with
 | zero=>intro i d S w h;omega
 | succ m ih=>
 intro i d S w hm hi hd hv hS hL hB hA hLA hBA
 obtain ⟨a',c',he,hc,hcm,hat⟩:=hv.at
 obtain ⟨rfl,rfl⟩:al = a'∧cl = c':=by cases he;exact ⟨rfl,rfl⟩
 obtain ⟨i0,hi0,hz0,hz1,hz2⟩:=info_parts Tryz.info85'
 have IH:=hid ih
 have HAT:=hid hat
 have HS:=hid hS
 have HV:=hid hv
 have HSM:=hid hsm
 clear ih hat hS hsm he hv
 unfold maxLen at hcm
 have hLlt:L < w.heap.size:=World.block_lt_of_cell? _ _ hL
 have hBlt:B < w.heap.size:=World.block_lt_of_cell? _ _ hB
 have hAlt:=hA.lt
 go_enter Tryz.func84,Tryz.ntmps84
 go_wp2_with fail
 go_loopw [6] (fun v wr=>∃ (y0:Fo) (j:Nat) (cs:List Value),i ≤ j∧j ≤ l.length∧y0.len ≤ j - i∧Hid (treF d (l.drop i) = (y0.app (treF d (l.drop j)).1,(j - i) + (treF d (l.drop j)).2)) ∧
  wr.ownsRow w.heap.size 109 3 v y0.len cs∧FCsU (Rx w.heap.size wr.heap.size v) wr y0 cs∧Keep (· = A) w wr∧vd_ A j wr) (fun _ wr=>l.length - numAt A wr)
 case atStart=>exact ⟨.nil,i,[],by omega,hi,by simp [Fo.len],by simp [Hid,Fo.app],World.ownsRow_nil _ _ _ _,rfl,Keep.refl _ _,hA⟩
 case round=>
  obtain ⟨y0,j,cs,hij,hjl,hyl,hT,hown,hfc,hK,hAj⟩:=hrel
  have hsz:=hK.size
  have kL:wr.cell? ⟨L,0,none⟩ = some (.slice al l.length cl):=hK.cell hLlt hLA hL
  have kB:wr.cell? ⟨B,0,none⟩ = some (belC A L B):=hK.cell hBlt hBA hB
  have kA:=hAj.cell
  by_cases hlt:j < l.length
  · obtain ⟨g,o,cs1,rfl,hg,⟨ap,cp,an,cn,rfl,hP,hI⟩,hcell⟩:=HAT.out j hlt
    have ha:qd_ S w wr:=hK.agree HS.out
    have c0:=ha.cell hg (hcell 0 _ rfl)
    have c1:=ha.cell hg (hcell 1 _ rfl)
    rw [Nat.add_zero] at c0
    rw [← Nat.add_assoc] at c1
    by_cases hpd:l[j].p.length = d + 1
    · have e1:(l[j].p.length:Int) = (d:Int) + 1:=by omega
      obtain ⟨g',o',rfl,hg',_,_,hcell'⟩:=SlC.cells hP (by omega)
      have d0:=ha.cell hg' (hcell' _ _ (key_name (show d < l[j].p.length by omega)))
      have hlt':(j:Int) < (l.length:Int):=by omega
      have fA:=hAj.fz
      have hAlt1:=hAj.lt
      have HP:=hid hP
      have HA:=hid ha
      clear hcell hcell' hP ha
      have hln:l[j].l.length ≤ 1000:=(HSM.out _ (List.getElem_mem hlt)).2.1
      have HSr:∀ b,S b→b < wr.heap.size∧¬ (b = A):=fun b hb=>by have:=HS.out b hb;exact ⟨by omega,this.2⟩
      have hgA:g' ≠ A:=(HS.out g' hg').2
      obtain ⟨W2,hW2⟩:∃ W2,(wr.setCell ⟨A,0,none⟩ (.int .i64 ((j:Int) + 1))).alloc (.cells #[.slice (some ⟨g',o',none⟩) (d + 1) cp, .slice an l[j].l.length cn] 98) = W2:=⟨_,rfl⟩
      go_wp2_with fail
      have hz2:W2.heap.size = wr.heap.size + 1:=by rw [← hW2];simp [World.setCell]
      have hk2:Keep (· = A) wr W2:=by
       rw [← hW2]
       exact (Keep.setCell (O:=(· = A)) (p:=⟨A,0,none⟩) rfl).trans (Keep.of_below ((Below.refl _ _).alloc (nl_ _) _))
      have hA2:vd_ A (j + 1) W2:=by
       rw [← hW2]
       have:=hAj.set (j + 1)
       exact vd_.of (by simpa using this) (heap_alloc_old _ _ (by simpa [World.setCell] using hAlt1))
      have hb2:W2.heap[wr.heap.size]? = some (.cells #[.slice (some ⟨g',o',none⟩) (d + 1) cp, .slice an l[j].l.length cn] 98 (0,0)):=by
       rw [← hW2]
       have:=ha_ (wr.setCell ⟨A,0,none⟩ (.int .i64 ((j:Int) + 1))) (.cells #[.slice (some ⟨g',o',none⟩) (d + 1) cp, .slice an l[j].l.length cn] 98)
       simpa [World.setCell] using this
      have q0:W2.cell? ⟨wr.heap.size,0,none⟩ = some (.slice (some ⟨g',o',none⟩) (d + 1) cp):=by simp [World.cell?,hb2]
      have q1:W2.cell? ⟨wr.heap.size,1,none⟩ = some (.slice an l[j].l.length cn):=by simp [World.cell?,hb2]
      have q2:W2.cell? ⟨g',o' + d * 3,none⟩ = some (.string (bs l[j].p[d].n)):=hk2.cell (World.block_lt_of_cell? _ _ d0) hgA d0
      clear hW2 d0 c0 c1 kA hb2
      have hw1:wr.heap.size ≠ W2.heap.size:=by omega
      have hw2:g' ≠ W2.heap.size:=by have:=HS.out g' hg';omega
      have hg2:g' < W2.heap.size:=by have:=HS.out g' hg';omega
      have HS2:∀ b,S b→b < W2.heap.size:=fun b hb=>by have:=HS.out b hb;omega
      have hdd:(d:Int) < (d:Int) + 1:=by omega
      have hd0:(0:Int) ≤ (d:Int):=by omega
      have HI:=hid (qF_.agree hI (HA.out.trans (hk2.agree HSr)))
      have HZ2:=hid hz2
      have hlt2:wr.heap.size < W2.heap.size:=by omega
      clear hz2
      obtain ⟨s1,n1,hs1⟩:∃ s n,treF (d + 1) (l.drop (j + 1)) = (s,n):=⟨_,_,rfl⟩
      go_region_held3 (fun w'=>w'.cell? ⟨wr.heap.size,0,none⟩ = some (.slice (some ⟨g',o',none⟩) (d + 1) cp)∧w'.cell? ⟨wr.heap.size,1,none⟩ = some (.slice an l[j].l.length cn)∧w'.cell? ⟨g',o' + d * 3,none⟩ = some (.string (bs l[j].p[d].n)))
       (first
         | (go_split_ands
            with_reducible refine ⟨ql_ (ql_ (ql_ ?_ hw1) hw1) hw1,ql_ (ql_ (ql_ ?_ hw1) hw1) hw1,ql_ (ql_ (ql_ ?_ hw2) hw2) hw2⟩
            all_goals (with_reducible assumption))
         | (go_split_ands
            with_reducible refine ⟨jo_ (by with_reducible assumption) ?_,jo_ (by with_reducible assumption) ?_,jo_ (by with_reducible assumption) ?_⟩
            all_goals (have:=hb3.size;simp at this;omega))
         | (go_split_ands
            with_reducible refine ⟨bc_ hb3 ?_ ?_,bc_ hb3 ?_ ?_,bc_ hb3 ?_ ?_⟩
            all_goals (first | (with_reducible assumption) | (simp;omega)))
         | go_keep)
       (first
         | (go_at_call 65; refine (km_ _ _ _ S _ (HI.out.agree (q9_ (B := W2.heap.size) (by first | exact (Below.refl _ _).drew | exact ((Below.refl _ _).alloc (nl_ _) _).drew) HS2)) hln).mono ?_; rintro e w3 ⟨a3, c3, rfl, hI3, hb3⟩
            first
             | (have hq : Hid (w3.heap[W2.heap.size]? = some (.cells #[.string { data := #[] }, .slice none 0 0, .slice none 0 0] 109 (0, 0))) := (hb3.block W2.heap.size (by simp)).trans (ha_ _ _)
                have g0:w3.cell? ⟨W2.heap.size,0,none⟩ = some (.string { data:=#[] }):=cg_ hq.out rfl
                have g1:w3.cell? ⟨W2.heap.size,1,none⟩ = some (.slice none 0 0):=cg_ hq.out rfl
                have g2:w3.cell? ⟨W2.heap.size,2,none⟩ = some (.slice none 0 0):=cg_ hq.out rfl
                have f0:=cells_frz hq.out (k:=0)
                have f1:=cells_frz hq.out (k:=1)
                have f2:=cells_frz hq.out (k:=2))
             | skip))
      all_goals
       first
        | (
          have HM:MidU W2 (w3.alloc (.cells #[.string (bs l[j].p[d].n), .slice a3 l[j].l.length c3, .slice none 0 0] 109)) w3.heap.size l[j].p[d].n l[j].l a3 c3:=
           ⟨hb3.size,by simp,ha_ _ _,Below.alloc (show Below W2.heap.size W2 w3 from ⟨hb3.os,hb3.tape,hb3.output,hb3.size,hb3.block⟩) hb3.size _,W2.heap.size,w3.heap.size,nl_ _,by simp,fun h=>by have:=h.2;omega,hI3.agree (q9_ ((Below.refl _ _).alloc (nl_ _) _) fun b hb=>hb.2)⟩
          clear HI hI3 hb3
          revert HM
          generalize w3.alloc (.cells #[.string (bs l[j].p[d].n), .slice a3 l[j].l.length c3, .slice none 0 0] 109) = W5
          generalize w3.heap.size = b8
          intro HM)
        | (
          have HM:MidU W2 (((w3.setCell ⟨W2.heap.size,0,none⟩ (.string (bs l[j].p[d].n))).setCell ⟨W2.heap.size,1,none⟩ (.slice a3 l[j].l.length c3)).setCell ⟨W2.heap.size,2,none⟩ (.slice none 0 0)) W2.heap.size l[j].p[d].n l[j].l a3 c3:=by
           have hz3:=hb3.size
           simp at hz3
           have hq2:=hq.out
           have hbl:Below W2.heap.size W2 w3:=((Below.refl _ _).alloc (nl_ _) _).trans (Below.mono ⟨hb3.os,hb3.tape,hb3.output,hb3.size,hb3.block⟩ (by simp))
           refine ⟨nl_ _,by simp [World.setCell];omega,by simp [World.setCell,Array.getElem?_modify,hq2],?_,W2.heap.size + 1,w3.heap.size,by omega,by simp [World.setCell],fun h=>by have:=h.1;omega,?_⟩
           · exact Below.setCell (Below.setCell (Below.setCell hbl (p:=⟨W2.heap.size,0,none⟩) (nl_ _) _) (p:=⟨W2.heap.size,1,none⟩) (nl_ _) _) (p:=⟨W2.heap.size,2,none⟩) (nl_ _) _
           · refine IntU.agree (w:=w3) (by simpa using hI3) fun b hb=>?_
             have:b ≠ W2.heap.size:=by have:=hb.1;omega
             rw [Below.heap_setCell _ _ _ _ this,Below.heap_setCell _ _ _ _ this,Below.heap_setCell _ _ _ _ this]
          clear HI hI3 hb3
          revert HM
          generalize ((w3.setCell ⟨W2.heap.size,0,none⟩ (.string (bs l[j].p[d].n))).setCell ⟨W2.heap.size,1,none⟩ (.slice a3 l[j].l.length c3)).setCell ⟨W2.heap.size,2,none⟩ (.slice none 0 0) = W5
          intro HM
          obtain ⟨b8,hb8⟩:∃ b,W2.heap.size = b:=⟨_,rfl⟩
          rw [hb8] at HM
          simp only [hb8]
          have hb8:=hid hb8)
       have hAW2:=hA2.lt
       have HK5:Keep (· = A) wr W5:=hk2.trans (Keep.of_below HM.bel)
       have kB5:W5.cell? ⟨B,0,none⟩ = some (belC A L B):=HK5.cell (World.block_lt_of_cell? _ _ kB) hBA kB
       have kL5:W5.cell? ⟨L,0,none⟩ = some (.slice (some ⟨g,o,none⟩) l.length cl):=HK5.cell (World.block_lt_of_cell? _ _ kL) hLA kL
       have hA5:vd_ A (j + 1) W5:=hA2.of (HM.bel.block _ hAW2)
       have hz5:=HK5.size
       have hlo:=HM.lo
       have H:=IH.out (j + 1) (d + 1) S W5 (by omega) (by omega) (by omega) (LSl.agree HV.out ((hK.trans HK5).agree HS.out)) (fun b hb=>by have:=HS.out b hb;exact ⟨by omega,this.2⟩) kL5 kB5 hA5 hLA hBA
       rw [show ((d + 1:Nat):Int) = (d:Int) + 1 by omega,hs1] at H
       have H:=hid H
       unfold belC at kB5
       clear kL5 kL kB q0 q1 q2 hA2
       go_wp2_with fail
       refine H.out.mono ?_
       rintro e w6 ⟨a6,c6,rfl,hF6,hA6,hk6⟩
       have hb8A:b8 ≠ A:=by omega
       have hq6:=(hk6.block b8 HM.hi hb8A).trans HM.blk
       have e0:=cg_ hq6 (k:=0) rfl
       have e1':=cg_ hq6 (k:=1) rfl
       have e2:=cg_ hq6 (k:=2) rfl
       have f2':=cells_frz hq6 (k:=2)
       have HQ6:=hid hq6
       have HK6:=HK5.trans hk6
       have hz6:=HK6.size
       have hb86:b8 < w6.heap.size:=(ge_ hq6).1
       have hgA6:∀ q,u6.ownBlock = some q→w.heap.size ≤ q∧q < wr.heap.size:=fun q hq=>hown.lt q hq
       have ow:((w6.setCell ⟨b8,2,none⟩ (.slice a6 s1.len c6)).alloc (.cells #[.string (bs l[j].p[d].n), .slice a3 l[j].l.length c3, .slice a6 s1.len c6] 109)).ownsRow w.heap.size 109 3 u6 y0.len cs:=owns_agree hown fun q hq=>by
        have h1:=hgA6 q hq
        refine (heap_alloc_old _ _ (by simp [World.setCell];omega)).trans ((Below.heap_setCell _ _ _ _ (by simp;omega)).trans (HK6.block q h1.2 (by omega)))
       have OW:=hid ow
       have hbase:w.heap.size ≤ w6.heap.size:=by omega
       clear hq6 ow hA5 HK5 kB5
       go_wp2_with (at_builtin;refine (q5_ _ rfl _ _ _ rfl w.heap.size 109 i0 _ 3 64 Tryz.underlying38 hi0 hz0 hz1 hz2 rfl (by omega) u6 y0.len cs rfl OW.out (some ⟨w6.heap.size,0,none⟩) 1 1 [.string (bs l[j].p[d].n), .slice a3 l[j].l.length c3, .slice a6 s1.len c6] rfl rfl (fun h=>by cases h) (fun ad had=>by cases had;exact World.news_of_block (cs:=#[.string (bs l[j].p[d].n), .slice a3 l[j].l.length c3, .slice a6 s1.len c6]) (t:=109) (fr:=(0,0)) (by simpa [World.setCell] using ha_ (w6.setCell ⟨b8,2,none⟩ (.slice a6 s1.len c6)) (.cells #[.string (bs l[j].p[d].n), .slice a3 l[j].l.length c3, .slice a6 s1.len c6] 109))) (by simp [Value.oneCell']) (by unfold maxLen;omega) (by omega) (by simp [World.setCell];omega) ?_);intro a7 c7 w7 hown7 hgrow7 hat7)
       obtain ⟨g7,cap7,he7,hg7,hlt7⟩:=hown7.form (by omega)
       cases he7
       have hn1:=treF_le (d + 1) (l.drop (j + 1))
       rw [hs1,List.length_drop] at hn1
       have hkW:Keep (· = A) wr ((w6.setCell ⟨b8,2,none⟩ (.slice a6 s1.len c6)).alloc (.cells #[.string (bs l[j].p[d].n), .slice a3 l[j].l.length c3, .slice a6 s1.len c6] 109)):=(HK6.setNew (p:=⟨b8,2,none⟩) (by simp;omega)).alloc _
       have st:StepK (· = A) w.heap.size wr _ w7 u6 g7:=⟨hkW,fun b hb=>by rw [hb];exact hAlt,hgrow7,hsz,hgA6,hat7 g7 rfl,hlt7⟩
       have hv':(Value.slice (some ⟨g7,0,none⟩) (y0.len + 1) c7).ownBlock = some g7:=rfl
       have m1:=st.stay (Stable.fcsu _ _) hv' hfc
       obtain ⟨p,q,hp,hq,hpq,hI5⟩:=HM.ints
       have m2:=st.lift (Stable.intu _ _) hv' hI5 (by omega) (by have:=hk6.size;simp [World.setCell];omega) (fun b hb=>by
        have h1:=hb.2
        have h2:b ≠ b8:=fun e=>hpq (e ▸ hb)
        have h3:=hk6.size
        exact (heap_alloc_old _ _ (by simp [World.setCell];omega)).trans ((Below.heap_setCell _ _ _ _ (by simpa using h2)).trans (hk6.block b (by omega) (by have:=hb.1;omega))))
       have m3:=st.lift (Stable.fslu _ _) hv' hF6 (by omega) (by simp [World.setCell]) (fun b hb=>by
        have h1:=hb.2
        have h2:b ≠ b8:=fun e=>by have:=hb.1;have:=HM.hi;omega
        exact (heap_alloc_old _ _ (by simp [World.setCell];omega)).trans (Below.heap_setCell _ _ _ _ (by simpa using h2)))
       have m4:vd_ A (j + 1 + n1) w7:=hA6.of ((hgrow7.block A (by have:=hA6.lt;simp [World.setCell];omega) (fun e=>by have:=(hgA6 A e.symm).1;omega)).trans ((heap_alloc_old _ _ (by have:=hA6.lt;simp [World.setCell];omega)).trans (Below.heap_setCell _ _ _ _ (by simpa using hb8A.symm))))
       have hlen2:(y0.app (.cons l[j].p[d].n l[j].l s1 .nil)).len = y0.len + 1:=by rw [Fo.len_app];rfl
       have htr:treF d (l.drop j) = (.cons l[j].p[d].n l[j].l s1 (treF d (l.drop (j + 1 + n1))).1,1 + n1 + (treF d (l.drop (j + 1 + n1))).2):=by
        rw [List.drop_eq_getElem_cons hlt,yk_ hpd,hs1]
        simp only [List.drop_drop]
       have HTR:=hid htr
       clear htr
       go_roundw
       case rel=>
        refine ⟨y0.app (.cons l[j].p[d].n l[j].l s1 .nil),j + 1 + n1,_,by omega,by omega,by rw [hlen2];omega,?_,by rw [hlen2];exact hown7,m1.app (FCsU.one m2 m3),st.out rfl hK,m4⟩
        rw [Hid,hT.out,HTR.out,Fo.app_assoc]
        simp only [Fo.app,Prod.mk.injEq,true_and]
        omega
       case measure=>rw [m4.num,hAj.num];omega
    · have e1:¬ (l[j].p.length:Int) = (d:Int) + 1:=by omega
      have hlt':(j:Int) < (l.length:Int):=by omega
      have hno:treF d (l.drop j) = (.nil,0):=by rw [List.drop_eq_getElem_cons hlt];exact treF_no hpd
      have HNO:=hid hno
      clear hno hcell
      go_wp2_with fail
      go_ret
      rw [hT.out,HNO.out,Fo.app_nil]
      obtain ⟨a9,c9,rfl,_,_⟩:=owns_shape hown
      exact ⟨a9,c9,by simp,⟨cs,(SlC.of_owns_u hown),hfc.wide fun b hb=>⟨hb.1,hb.2.1⟩⟩,by rw [show i + (j - i + 0) = j by omega];exact hAj,hK⟩
  · have hlt':¬ (j:Int) < (l.length:Int):=by omega
    obtain rfl:j = l.length:=by omega
    have hno:treF d (l.drop l.length) = (.nil,0):=by rw [List.drop_length];rfl
    have HNO:=hid hno
    clear hno
    go_wp2_with fail
    go_ret
    rw [hT.out,HNO.out,Fo.app_nil]
    obtain ⟨a9,c9,rfl,_,_⟩:=owns_shape hown
    exact ⟨a9,c9,by simp,⟨cs,(SlC.of_owns_u hown),hfc.wide fun b hb=>⟨hb.1,hb.2.1⟩⟩,by rw [show i + (l.length - i + 0) = l.length by omega];exact hAj,hK⟩
end Go.Proofs.LF