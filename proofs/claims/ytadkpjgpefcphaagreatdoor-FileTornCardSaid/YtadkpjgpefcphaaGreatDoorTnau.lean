/- Parts of the proof of a law of layer 11 (file): LfW71. The conditions stand in each theorem. -/
import Derived.Test.YtadkpjgpefcphaaGreatDoorProg
import Derived.Test.YtadkpjgpefcphaaGreatDoorTnaj
import Derived.Test.YtadkpjgpefcphaaGreatDoorTnam
import Derived.Test.YtadkpjgpefcphaaGreatDoorTnas
set_option linter.all false
set_option linter.unusedVariables false
set_option linter.unusedSimpArgs false
namespace Go.Proofs.LF
open Go.RowKit Go.Sort
set_option maxHeartbeats 4000000
set_option maxRecDepth 100000
attribute [local go_sem] bs_toList bs_size bs_get
theorem Hp.below {b:Nat} {S:Nat→Prop} {w w':World} (h:Hp b S w) (hb:b < w.heap.size) (hS:∀ q,S q→q < w.heap.size) (hB:Below w.heap.size w w'):Hp b S w':=by
 obtain ⟨a,l,c,nx,rd,h1,h2,h3,h4,h5⟩:=h
 exact ⟨a,l,c,nx,rd,(hB.block b hb).trans h1,h2,h3,SlC.agree h4 (Ag_b hB hS),h5⟩
theorem Hp.agree {b:Nat} {S:Nat→Prop} {w w':World} (h:Hp b S w) (hb:w'.heap[b]? = w.heap[b]?) (hS:Agree S w w'):Hp b S w':=by
 obtain ⟨a,l,c,nx,rd,h1,h2,h3,h4,h5⟩:=h
 exact ⟨a,l,c,nx,rd,hb.trans h1,h2,h3,SlC.agree h4 hS,h5⟩
def nm4:Array Value:=#[.string ⟨#[98,101,100]⟩, .string ⟨#[99,97,114,116]⟩, .string ⟨#[104,111,114,110]⟩, .string ⟨#[115,97,99,107]⟩]
theorem nm4_at:∀ i,i < 4→nm4[i]? = some (.string (bs (nmI i))):=by
 intro i hi
 obtain rfl | rfl | rfl | rfl:i = 0 ∨ i = 1 ∨ i = 2 ∨ i = 3:=by omega
 all_goals rfl
def bdM:Nat→Nat→Nat
 | 0,m=>m * 2
 | f + 1,m=>m * (bdM f (m - 1) + 2)
def nM:Nat→Nat→Nat
 | 0,_=>0
 | f + 1,m=>bdM f (m - 1)
theorem bdM_nM (f m:Nat):bdM f m = m * (nM f m + 2):=by cases f <;> rfl
def FRow (B:Nat) (w:World) (v:Value) (y:Fo):Prop:=∃ cs,w.ownsRow B 85 3 v y.len cs∧FCs (Rx B w.heap.size v) w y cs
theorem FRow.fsl {B:Nat} {w:World} {v:Value} {y:Fo} (h:FRow B w v y):FSl (Rg B w.heap.size) w v y:=let ⟨cs,h1,h2⟩:=h;⟨cs,SlC.of_owns h1,h2.wide fun _ hq=>⟨hq.1,hq.2.1⟩⟩
def MadC (f:Nat):Prop:=∀ (most b:Nat) (S:Nat→Prop) (w:World),f ≤ most→most ≤ 3→Hp b S w→b < w.heap.size→(∀ q,S q→q < w.heap.size) →
 Calls Tryz.prog 124 #[.pointer (some ⟨b,0,none⟩), .int .i64 most, .int .i64 ((2 - f:Nat):Int)] w fun e w'=>∃ y a c,e = .returned (.slice a y.len c)∧FRow w.heap.size w' (.slice a y.len c) y∧OkF (2 - f + 1) y∧y.len ≤ 6∧y.cnt ≤ bdM f most∧Hp b S w'∧Keep (· = b) w w'
theorem made_app {w w0 Wn w6:World} {u7:Value} {y s:Fo} {cs:List Value} {nm:List UInt8} {l:List Int} {an as_ a6:Option Addr} {cn cs_ c6 p q p2 q2 b:Nat} {S:Nat→Prop} (hb:b < w.heap.size) (hS:∀ q,S q→q < w.heap.size) (hK:Keep (· = b) w w0) (hKW:Keep (· = b) w0 Wn)
 (hown:w0.ownsRow w.heap.size 85 3 u7 y.len cs) (hfc:FCs (Rx w.heap.size w0.heap.size u7) w0 y cs) (hI:Ints (Rg p q) Wn (.slice an l.length cn) l) (hp:w0.heap.size ≤ p) (hq:q ≤ Wn.heap.size) (hF:FSl (Rg p2 q2) Wn (.slice as_ s.len cs_) s) (hp2:w0.heap.size ≤ p2) (hq2:q2 ≤ Wn.heap.size) (hH:Hp b S Wn)
 (hown6:w6.ownsRow w.heap.size 85 3 (.slice a6 (y.len + 1) c6) (y.len + 1) (cs ++ [.string (bs nm), .slice an l.length cn, .slice as_ s.len cs_])) (hgrow6:(Wn.alloc (.cells #[.string (bs nm), .slice an l.length cn, .slice as_ s.len cs_] 85)).grownBy w6 u7.ownBlock)
 (hat6:∀ g,(Value.slice a6 (y.len + 1) c6).ownBlock = some g→u7.ownBlock = some g ∨ g = (Wn.alloc (.cells #[.string (bs nm), .slice an l.length cn, .slice as_ s.len cs_] 85)).heap.size) :
 Hid (FCs (Rx w.heap.size w6.heap.size (.slice a6 (y.len + 1) c6)) w6 (y.app (.cons nm l s .nil)) (cs ++ [.string (bs nm), .slice an l.length cn, .slice as_ s.len cs_]))∧Hid (Hp b S w6)∧Hid (Keep (· = b) w w6)∧w6.ownsRow w.heap.size 85 3 (.slice a6 (y.len + 1) c6) (y.app (.cons nm l s .nil)).len (cs ++ [.string (bs nm), .slice an l.length cn, .slice as_ s.len cs_]) ∧
  Hid (∀ q,q < Wn.heap.size→u7.ownBlock ≠ some q→w6.heap[q]? = Wn.heap[q]?)∧Hid (Wn.heap.size < w6.heap.size):=by
 obtain ⟨g6,cap6,he6,hg6,hlt6⟩:=hown6.form (by omega)
 cases he6
 have hz:=hK.size
 have hz2:=hKW.size
 have hz3:=hgrow6.size
 simp only [World.size_alloc] at hz3
 have hold:∀ q,u7.ownBlock = some q→w.heap.size ≤ q∧q < w0.heap.size:=fun q hq=>hown.lt q hq
 have st:StepK (· = b) w.heap.size w0 (Wn.alloc (.cells #[.string (bs nm), .slice an l.length cn, .slice as_ s.len cs_] 85)) w6 u7 g6:=⟨hKW.alloc _,fun q hq=>by rw [hq];exact hb,hgrow6,hz,hold,hat6 g6 rfl,hlt6⟩
 have hv:(Value.slice (some ⟨g6,0,none⟩) (y.len + 1) c6).ownBlock = some g6:=rfl
 have m1:=st.stay (Stable.fcs _ _) hv hfc
 have m2:=st.lift (Stable.ints _ _) hv hI hp (by simp;omega) (fun q hq=>heap_alloc_old _ _ (by have:=hq.2;omega))
 have m3:=st.lift (Stable.fsl _ _) hv hF hp2 (by simp;omega) (fun q hq=>heap_alloc_old _ _ (by have:=hq.2;omega))
 have hoth:∀ q,q < Wn.heap.size→u7.ownBlock ≠ some q→w6.heap[q]? = Wn.heap[q]?:=fun q hq hn=>(hgrow6.block q (by simp;omega) (fun e=>hn e.symm)).trans (heap_alloc_old _ _ hq)
 have hnb:∀ q,q < w.heap.size→u7.ownBlock ≠ some q:=fun q hq e=>by have:=(hold q e).1;omega
 exact ⟨m1.app (FCs.one m2 m3),hH.agree (hoth b (by omega) (hnb b hb)) (fun q hq=>hoth q (by have:=hS q hq;omega) (hnb q (hS q hq))),st.out rfl hK,by rw [Fo.len_app];exact hown6,hoth,by unfold Hid;omega⟩
theorem made_ok1 {D i:Nat} {y s:Fo} {nm:List UInt8} {l:List Int} (hy:OkF D y) (h1:OkF D (.cons nm l s .nil)) (ht:∀ k ∈ tops y,∃ j,j < i∧k.n = nmI j) (hn:nmI i = nm) (hi:i < 5):OkF D (y.app (.cons nm l s .nil)):=
 hy.app h1 fun a ha b hb=>by
  obtain ⟨j,hj,e⟩:=ht a ha
  simp only [tops,List.mem_singleton] at hb
  subst hb
  exact byK_nm (by rw [e,tops_n,← hn];exact nmI_less i hi j hj)
theorem made_tn {i:Nat} {y s:Fo} {nm:List UInt8} {l:List Int} (ht:∀ k ∈ tops y,∃ j,j < i∧k.n = nmI j) (hn:nmI i = nm):∀ k ∈ tops (y.app (.cons nm l s .nil)),∃ j,j < i + 1∧k.n = nmI j:=fun k hk=>by
 rw [tops_app] at hk
 rcases List.mem_append.1 hk with h | h
 · obtain ⟨j,hj,e⟩:=ht k h;exact ⟨j,by omega,e⟩
 · simp only [tops,List.mem_singleton] at h;subst h;exact ⟨i,by omega,by rw [tops_n,hn]⟩
theorem made_ok2 {D i:Nat} {y s:Fo} {nm:List UInt8} {l:List Int} {x0 r:Int} (h7:OkF D (y.app (.cons nm l s .nil))) (ht:∀ k ∈ tops y,∃ j,j < i∧k.n = nmI j) (hn:nmI i = nm) (hi:i < 5) (hl:0 < l.length) (hx:l[0] = x0) (h1:OkF D (.cons nm [x0 + 1,r] .nil .nil)):OkF D ((y.app (.cons nm l s .nil)).app (.cons nm [x0 + 1,r] .nil .nil)):=
 h7.app h1 fun a ha b hb=>by
  simp only [tops,List.mem_singleton] at hb
  subst hb
  rw [tops_app] at ha
  rcases List.mem_append.1 ha with h | h
  · obtain ⟨j,hj,e⟩:=ht a h
    exact byK_nm (by rw [e,tops_n,← hn];exact nmI_less i hi j hj)
  · simp only [tops,List.mem_singleton] at h
    subst h
    cases l with
    | nil=>simp at hl
    | cons z t=>
      simp only [List.getElem_cons_zero] at hx
      subst hx
      exact byK_num (by omega)
theorem made_tn2 {i:Nat} {y s:Fo} {nm:List UInt8} {l:List Int} (ht:∀ k ∈ tops y,∃ j,j < i + 1∧k.n = nmI j) (hn:nmI i = nm):∀ k ∈ tops (y.app (.cons nm l s .nil)),∃ j,j < i + 1∧k.n = nmI j:=fun k hk=>by
 rw [tops_app] at hk
 rcases List.mem_append.1 hk with h | h
 · exact ht k h
 · simp only [tops,List.mem_singleton] at h;subst h;exact ⟨i,by omega,by rw [tops_n,hn]⟩
theorem made_any (f:Nat) (hf:f ≤ 2) (IH:∀ g,g < f→MadC g):MadC f:=by
 intro most b S w hfm hm hH hb hS
 obtain ⟨i0,hi0,hz0,hz1,hz2⟩:=info_parts Tryz.info85'
 obtain ⟨j0,hj0,hy0,hy1,hy2⟩:=info_parts Tryz.info3
 have UP:=hid (Upto_any b S w most (by omega) hH)
 have HS:=hid hS
 have IH:=hid IH
 obtain ⟨N,hN⟩:∃ N,nM f most = N:=⟨_,rfl⟩
 have HN:=hid hN
 obtain ⟨D,hD⟩:∃ D:Nat,2 - f = D:=⟨_,rfl⟩
 have HD:=hid hD
 rw [hD]
 clear hH hS hD hN
 go_enter Tryz.func124,Tryz.ntmps124
 go_wp2_with fail
 refine UP.out.mono ?_
 rintro e w1 ⟨r,rfl,hr,hH1,hk1⟩
 have HH1:=hid hH1
 have HK1:=hid hk1
 have hzw:=hk1.size
 clear hH1 hk1
 go_wp2_with fail
 go_loopw [7,13] (fun v iv wr=>∃ (i:Nat) (y:Fo) (cs:List Value),i ≤ r∧iv = .int .i64 i∧wr.ownsRow w.heap.size 85 3 v y.len cs∧y.len ≤ 2 * i∧y.cnt ≤ i * (N + 2)∧Hid (FCs (Rx w.heap.size wr.heap.size v) wr y cs)∧Hid (OkF (D + 1) y)∧Hid (∀ k ∈ tops y,∃ j,j < i∧k.n = nmI j)∧Hid (Hp b S wr)∧Hid (Keep (· = b) w wr)) (fun _ iv _=>r - (intOf iv).toNat)
 case atStart=>exact ⟨0, .nil,[],by omega,rfl,World.ownsRow_nil _ _ _ _,by simp [Fo.len],by simp [Fo.cnt],rfl,trivial,(fun k hk=>by cases hk),HH1,HK1⟩
 case round=>
  obtain ⟨i,y,cs,hi,rfl,hown,hyl,hyc,hfc,hok,htn,hH,hK⟩:=hrel
  have i1:(0:Int) ≤ (i:Int):=by omega
  have hz:=hK.out.size
  by_cases hlt:i < r
  · have hlt':(i:Int) < (r:Int):=by omega
    have hi4:(i:Int) % 4 = (i:Int):=by omega
    have i2:(i:Int) < 4:=by omega
    have i3:¬ (3:Int) < (i:Int):=by omega
    have hblk:=heap_alloc_new wr (.cells nm4 9)
    have e0:(wr.alloc (.cells nm4 9)).cell? ⟨wr.heap.size,i,none⟩ = some (.string (bs (nmI i))):=cg_ hblk (nm4_at i (by omega))
    unfold nm4 at e0
    obtain ⟨nm,hnm⟩:∃ nm,nmI i = nm:=⟨_,rfl⟩
    rw [hnm] at e0
    have HNM:=hid hnm
    clear hblk hnm
    obtain ⟨W2,hW2⟩:∃ W2,(wr.alloc (.cells #[.string ⟨#[98,101,100]⟩, .string ⟨#[99,97,114,116]⟩, .string ⟨#[104,111,114,110]⟩, .string ⟨#[115,97,99,107]⟩] 9)).alloc (.cells #[.string (bs nm), .slice none 0 0, .slice none 0 0] 85) = W2:=⟨_,rfl⟩
    obtain ⟨Bx,hBx⟩:∃ Bx,wr.heap.size + 1 = Bx:=⟨_,rfl⟩
    have hB2:Below wr.heap.size wr W2:=by rw [← hW2];exact ((Below.refl _ _).alloc (nl_ _) _).alloc (by simp) _
    have hz2':W2.heap.size = Bx + 1:=by rw [← hW2,← hBx];simp
    have hk2:W2.heap[Bx]? = some (.cells #[.string (bs nm), .slice none 0 0, .slice none 0 0] 85 (0,0)):=by
     rw [← hW2,← hBx]
     have:=heap_alloc_new (wr.alloc (.cells #[.string ⟨#[98,101,100]⟩, .string ⟨#[99,97,114,116]⟩, .string ⟨#[104,111,114,110]⟩, .string ⟨#[115,97,99,107]⟩] 9)) (.cells #[.string (bs nm), .slice none 0 0, .slice none 0 0] 85)
     simpa using this
    have UP3:=hid (Upto_any b S W2 3 (by omega) (hH.out.below (by omega) (fun q hq=>by have:=HS.out q hq;omega) hB2))
    have HB2:=hid hB2
    have HK2:=hid hk2
    have HW2:=hid hW2
    have HBX:=hid hBx
    have HZ2:=hid hz2'
    clear hB2 hk2 hW2 hBx hz2'
    go_wp2_with fail
    simp only [HW2.out,HBX.out]
    have hz2':=HZ2.out
    have hbx':=HBX.out
    refine UP3.out.mono ?_
    rintro e W3 ⟨r3,rfl,hr3,hH3,hk3⟩
    have hz3:=hk3.size
    have hbx3:W3.heap[Bx]? = some (.cells #[.string (bs nm), .slice none 0 0, .slice none 0 0] 85 (0,0)):=(hk3.block Bx (by omega) (by have:=HBX.out;omega)).trans HK2.out
    have HH3:=hid hH3
    have HK3:=hid hk3
    have HBX3:=hid hbx3
    have hbB:b < Bx:=by have:=HBX.out;omega
    have hBx3:Bx < W3.heap.size:=by omega
    have hwBx:wr.heap.size < Bx:=by omega
    clear hH3 hk3 hbx3 hz2' hbx'
    obtain ⟨w0,rfl⟩:∃ v,v = wr:=⟨_,rfl⟩
    go_upto_block 2 with fail
    go_cut [] from 27 to 35 (fun wx=>∃ (l:List Int) (an:Option Addr) (cn:Nat),l.length ≤ 3∧wx.heap[Bx]? = some (.cells #[.string (bs nm), .slice an l.length cn, .slice none 0 0] 85 (0,0))∧wx.ownsRow W3.heap.size 3 1 (.slice an l.length cn) l.length (l.map (Value.int .i64))∧Hid (∀ x ∈ l,0 ≤ x∧x ≤ 3)∧Hid (Hp b S wx)∧Hid (Keep (fun q=>q = b ∨ q = Bx) W3 wx))
    case first=>
     go_wp2_with fail
     go_loopw [26] (fun kv wx=>∃ (k:Nat) (l:List Int) (an:Option Addr) (cn:Nat),k ≤ r3∧kv = .int .i64 k∧l.length = k∧wx.heap[Bx]? = some (.cells #[.string (bs nm), .slice an l.length cn, .slice none 0 0] 85 (0,0))∧wx.ownsRow W3.heap.size 3 1 (.slice an l.length cn) l.length (l.map (Value.int .i64))∧Hid (∀ x ∈ l,0 ≤ x∧x ≤ 3)∧Hid (Hp b S wx)∧Hid (Keep (fun q=>q = b ∨ q = Bx) W3 wx)) (fun kv _=>r3 - (intOf kv).toNat)
     case atStart=>exact ⟨0,[],none,0,by omega,rfl,rfl,HBX3.out,World.ownsRow_nil _ _ _ _,(fun x hx=>by cases hx),HH3,Keep.refl _ _⟩
     case round=>
      obtain ⟨k,l,an,cn,hk,rfl,hlk,hblk,howx,hlx,hHx,hKx⟩:=hrel
      obtain ⟨wx,rfl⟩:∃ v,v = wr:=⟨_,rfl⟩
      have hBxl:Bx < wx.heap.size:=(Array.getElem?_eq_some_iff.1 hblk).1
      have hzK:=hKx.out.size
      have HLK:=hid hlk
      clear hlk
      by_cases hkr:k < r3
      · have hkr':(k:Int) < (r3:Int):=by omega
        have hlk3:l.length ≤ 3:=by have:=HLK.out;omega
        have bc1:=cg_ hblk (k:=1) rfl
        go_wp2_with fail
        refine (wpIn_wide (n:=9)).1 ?_
        refine region_T (fun w':World=>w'.cell? ⟨Bx,1,none⟩ = some (.slice an l.length cn)) 7 (by kernel_rfl) ?_
        have hS0:(fun w':World=>w'.cell? ⟨Bx,1,none⟩ = some (.slice an l.length cn)) wx.drew:=bc1
        refine AnyT_takeD (fun _=>trivial) (by kernel_rfl) 0 28 (.pointer (some ⟨Bx,1,none⟩)) rfl rfl (by kernel_rfl) (by kernel_rfl) (by kernel_rfl) (by decide) (by kernel_rfl) (fun _ _ _ h=>h) (.inl ⟨by kernel_rfl,fun w' hs=>?_⟩) hS0 ?_
        · go_simp
        refine AnyT_takeD (fun _=>trivial) (by kernel_rfl) 1 29 (.slice an l.length cn) rfl rfl (by kernel_rfl) (by kernel_rfl) (by kernel_rfl) (by decide) (by kernel_rfl) (fun _ _ _ h=>h) (.inl ⟨by kernel_rfl,fun w' hs=>?_⟩) hS0 ?_
        · go_simp
        refine AnyT_takeD (fun _=>trivial) (by kernel_rfl) 2 30 (.pointer (some ⟨b,0,none⟩)) rfl rfl (by kernel_rfl) (by kernel_rfl) (by kernel_rfl) (by decide) (by kernel_rfl) (fun _ _ _ h=>h) (.inl ⟨by kernel_rfl,fun w' hs=>?_⟩) hS0 ?_
        · go_simp
        refine AnyT_one (i:=3) (by kernel_rfl) rfl (by kernel_rfl) (by decide) (fun K hK=>?_)
        go_simp
        refine ⟨trivial,(callsIn_wide.2 (Upto_any b S wx.drew 3 (by omega) (hHx.out.agree rfl Agree.refl))).mono ?_⟩
        rintro e w4 ⟨r4,rfl,hr4,hH4,hk4⟩
        have hz4:=hk4.size
        have hb4:w4.heap[Bx]? = some (.cells #[.string (bs nm), .slice an l.length cn, .slice none 0 0] 85 (0,0)):=(hk4.block Bx hBxl (by omega)).trans hblk
        have bc4:=cg_ hb4 (k:=1) rfl
        have hS4:(fun w':World=>w'.cell? ⟨Bx,1,none⟩ = some (.slice an l.length cn)) w4:=bc4
        refine hK _ _ ⟨hS4,?_⟩
        clear hK
        refine AnyT_one (i:=4) (by kernel_rfl) rfl (by kernel_rfl) (by decide) (fun K hK=>?_)
        go_simp
        refine hK _ _ ⟨bc_ ((Below.refl w4.heap.size w4).alloc (nl_ _) _) (by have:wx.heap.size ≤ w4.heap.size:=hz4;omega) bc4,?_⟩
        clear hK
        have how4:w4.ownsRow W3.heap.size 3 1 (.slice an l.length cn) l.length (l.map (Value.int .i64)):=owns_agree howx fun q hq=>hk4.block q (howx.lt q hq).2 (by have:=(howx.lt q hq).1;omega)
        obtain ⟨a5,c5,w5,hr5,hown5,hgrow5,hat5⟩:=run_append_ao (P:=Tryz.prog) (w4.alloc (.cells #[.int .i64 r4] 3)) 66 66 W3.heap.size 3 j0 _ 1 8 Tryz.underlying66 hj0 hy0 hy1 hy2 rfl (by omega) (.slice an l.length cn) l.length (l.map (Value.int .i64)) (how4.alloc _) (some ⟨w4.heap.size,0,none⟩) 1 1 [.int .i64 r4] rfl (fun h=>by cases h) (fun ad had=>by cases had;exact World.news_of_block (cs:=#[.int .i64 r4]) (t:=3) (fr:=(0,0)) (heap_alloc_new _ _)) (by simp [Value.oneCell']) (by unfold maxLen;omega) (by omega) (by have:wx.heap.size ≤ w4.heap.size:=hz4;simp;omega)
        have hzx4:wx.heap.size ≤ w4.heap.size:=hz4
        have hneB:(Value.slice an l.length cn).ownBlock ≠ some Bx:=fun e=>by have:=(howx.lt _ e).1;omega
        have hb5:w5.heap[Bx]? = some (.cells #[.string (bs nm), .slice an l.length cn, .slice none 0 0] 85 (0,0)):=(hgrow5.block Bx (by simp;omega) (fun e=>hneB e.symm)).trans ((heap_alloc_old _ _ (by omega)).trans hb4)
        have bc5:=cg_ hb5 (k:=1) rfl
        have bf5:=cells_frz hb5 (k:=1)
        refine AnyT_one (i:=5) (by kernel_rfl) rfl (by kernel_rfl) (by decide) (fun K hK=>?_)
        refine wpIn_value (fun _=>trivial) rfl (exec_append rfl rfl rfl hr5) ?_
        refine hK _ _ ⟨bc5,?_⟩
        clear hK hr5
        have hS5:(fun w':World=>w'.cell? ⟨Bx,1,none⟩ = some (.slice an l.length cn)) w5:=bc5
        refine AnyT_takeD (fun _=>trivial) (by kernel_rfl) 6 34 (.pointer (some ⟨Bx,1,none⟩)) rfl rfl (by kernel_rfl) (by kernel_rfl) (by kernel_rfl) (by decide) (by kernel_rfl) (fun _ _ _ h=>h) (.inl ⟨by kernel_rfl,fun w' hs=>?_⟩) hS5 ?_
        · go_simp
        refine AnyT_last (by kernel_rfl) rfl (by kernel_rfl) (by kernel_rfl) (fun K hK=>?_)
        go_simp
        refine hK _ _ ?_
        clear hK
        go_simp
        have hz5:w4.heap.size + 1 ≤ w5.heap.size:=by have:=hgrow5.size;simpa using this
        have hother:∀ q,q < wx.heap.size→q ≠ b→q ≠ Bx→q < W3.heap.size→(w5.setCell ⟨Bx,1,none⟩ (.slice a5 (l.length + 1) c5)).heap[q]? = wx.heap[q]?:=fun q hq h1 h2 h3=>
         (Below.heap_setCell _ _ _ _ h2).trans ((hgrow5.block q (by simp;omega) (fun e=>by have:=(howx.lt q e.symm).1;omega)).trans ((heap_alloc_old _ _ (by omega)).trans (hk4.block q hq h1)))
        have hbH:(w5.setCell ⟨Bx,1,none⟩ (.slice a5 (l.length + 1) c5)).heap[b]? = w4.heap[b]?:=
         (Below.heap_setCell _ _ _ _ (show b ≠ Bx by omega)).trans ((hgrow5.block b (by simp;omega) (fun e=>by have:=(howx.lt b e.symm).1;omega)).trans (heap_alloc_old _ _ (by omega)))
        have hSH:Agree S w4 (w5.setCell ⟨Bx,1,none⟩ (.slice a5 (l.length + 1) c5)):=fun q hq=>by
         have h1:=HS.out q hq
         exact (Below.heap_setCell _ _ _ _ (show q ≠ Bx by omega)).trans ((hgrow5.block q (by simp;omega) (fun e=>by have:=(howx.lt q e.symm).1;omega)).trans (heap_alloc_old _ _ (by omega)))
        have n1:Hid (Hp b S (w5.setCell ⟨Bx,1,none⟩ (.slice a5 (l.length + 1) c5))):=hH4.agree hbH hSH
        have n2:(w5.setCell ⟨Bx,1,none⟩ (.slice a5 (l.length + 1) c5)).heap[Bx]? = some (.cells #[.string (bs nm), .slice a5 (l ++ [(r4:Int)]).length c5, .slice none 0 0] 85 (0,0)):=by
         simp [World.setCell,Array.getElem?_modify,hb5]
        have n3:(w5.setCell ⟨Bx,1,none⟩ (.slice a5 (l.length + 1) c5)).ownsRow W3.heap.size 3 1 (.slice a5 (l ++ [(r4:Int)]).length c5) (l ++ [(r4:Int)]).length ((l ++ [(r4:Int)]).map (Value.int .i64)):=by
         rw [List.length_append,List.map_append]
         exact owns_agree hown5 fun q hq=>Below.heap_setCell _ _ _ _ (show q ≠ Bx by have:=(hown5.lt q hq).1;omega)
        have n4:Hid (Keep (fun q=>q = b ∨ q = Bx) W3 (w5.setCell ⟨Bx,1,none⟩ (.slice a5 (l.length + 1) c5))):=
         ⟨hgrow5.os.trans (hk4.os.trans hKx.out.os),hgrow5.tape.trans (hk4.tape.trans hKx.out.tape),hgrow5.output.trans (hk4.output.trans hKx.out.output),by have:=hKx.out.size;simp [World.setCell];omega,fun q hq ho=>(hother q (by have:=hKx.out.size;omega) (fun e=>ho (.inl e)) (fun e=>ho (.inr e)) (by omega)).trans (hKx.out.block q hq ho)⟩
        have n5:Hid (∀ x ∈ l ++ [(r4:Int)],0 ≤ x∧x ≤ 3):=fun x hx=>by
         rcases List.mem_append.1 hx with h | h
         · exact hlx.out x h
         · simp only [List.mem_singleton] at h;rw [h];omega
        clear hother hbH hSH hown5 hgrow5 hat5 hb5 bc5 bf5 hk4 hH4 hb4 bc4 how4
        go_wp2_with fail
        go_roundw
        case rel=>exact ⟨k + 1,l ++ [(r4:Int)],a5,c5,by omega,by go_num,by simp [HLK.out],n2,n3,n5,n1,n4⟩
        case measure=>simp [intOf];omega
      · have hkr':¬ (k:Int) < (r3:Int):=by omega
        go_wp2_with fail
        go_meet
        case rel=>exact ⟨l,an,cn,by have:=HLK.out;omega,hblk,howx,hlx,hHx,hKx⟩
    case rest=>
     obtain ⟨l,an,cn,hl3,hblk,howx,hlx,hHx,hKx⟩:=hcut
     obtain ⟨wx,rfl⟩:∃ v,v = wc:=⟨_,rfl⟩
     have hBxl:Bx < wx.heap.size:=(Array.getElem?_eq_some_iff.1 hblk).1
     have hzK:=hKx.out.size
     have bc1:=cg_ hblk (k:=1) rfl
     have HBLK:=hid hblk
     have HOWX:=hid howx
     clear hblk howx
     have hwz:=HBX.out
     have HB0:=hid hb
     cases f with
     | zero=>
       have gD:¬ (D:Int) < 2:=by have:=HD.out;omega
       have gD3:D + 1 ≤ 3:=by have:=HD.out;omega
       obtain ⟨s,as_,cs_,HBN,HF5,HOS,hsc⟩:∃ (s:Fo) (as_:Option Addr) (cs_:Nat),Hid (wx.heap[Bx]? = some (.cells #[.string (bs nm), .slice an l.length cn, .slice as_ s.len cs_] 85 (0,0)))∧Hid (FSl (Rg wx.heap.size wx.heap.size) wx (.slice as_ s.len cs_) s)∧Hid (OkF (D + 1 + 1) s)∧s.cnt ≤ N:=
        ⟨.nil,none,0,HBLK.out,⟨[],⟨rfl,none,0,rfl,nl_ _,by simp [maxLen],fun _=>rfl, .inl rfl⟩,rfl⟩,trivial,Nat.zero_le _⟩
       have HI5:Hid (Ints (Rg W3.heap.size wx.heap.size) wx (.slice an l.length cn) l):=SlC.of_owns HOWX.out
       have HH5:=hHx
       have HKW:Hid (Keep (· = b) w0 wx):=⟨hKx.out.os.trans (HK3.out.os.trans HB2.out.os),hKx.out.tape.trans (HK3.out.tape.trans HB2.out.tape),hKx.out.output.trans (HK3.out.output.trans HB2.out.output),by have:=HB2.out.size;have:=HK3.out.size;omega,fun q hq hn=>(hKx.out.block q (by have:=HB2.out.size;have:=HK3.out.size;omega) (fun e=>by rcases e with e | e;exact hn e;omega)).trans ((HK3.out.block q (by have:=HB2.out.size;omega) hn).trans (HB2.out.block q hq))⟩
       have hz5:=HKW.out.size
       have hBxn:Bx < wx.heap.size:=(Array.getElem?_eq_some_iff.1 HBN.out).1
       have c0:=cg_ HBN.out (k:=0) rfl
       have c1:=cg_ HBN.out (k:=1) rfl
       have c2:=cg_ HBN.out (k:=2) rfl
       have hown5:wx.ownsRow w.heap.size 85 3 u7 y.len cs:=owns_agree hown fun q hq=>HKW.out.block q (hown.lt q hq).2 (by have:=(hown.lt q hq).1;omega)
       have hneX:u7.ownBlock ≠ some Bx:=fun e=>by have:=(hown.lt Bx e).2;omega
       have HO1:Hid (OkF (D + 1) (.cons nm l s .nil)):=OkF.one (by omega) (by have:=HNM.out;rw [← this];exact nmI_mem i (by omega)) (by omega) (fun x hx=>by have:=hlx.out x hx;omega) HOS.out
       by_cases hl0:l.length = 0
       · have g0:¬ (0:Int) < (l.length:Int):=by omega
         clear hl0
         go_wp2_with (at_builtin;refine (wpList_append_ao _ rfl _ _ _ rfl w.heap.size 85 i0 _ 3 64 Tryz.underlying22 hi0 hz0 hz1 hz2 rfl (by omega) u7 y.len cs rfl (hown5.alloc _) (some ⟨wx.heap.size,0,none⟩) 1 1 [.string (bs nm), .slice an l.length cn, .slice as_ s.len cs_] rfl rfl (fun h=>by cases h) (fun ad had=>by cases had;exact World.news_of_block (cs:=#[.string (bs nm), .slice an l.length cn, .slice as_ s.len cs_]) (t:=85) (fr:=(0,0)) (heap_alloc_new _ _)) (by simp [Value.oneCell']) (by unfold maxLen;omega) (by omega) (by simp;omega) ?_);intro a6 c6 w6 hown6 hgrow6 hat6;have m7:=hid hat6;obtain ⟨m1,m2,m3,m4,m5,m6⟩:=made_app HB0.out HS.out hK.out HKW.out hown hfc.out HI5.out (by omega) (by omega) HF5.out (by omega) (nl_ _) HH5.out hown6 hgrow6 hat6;have hb6:=(m5.out Bx hBxn hneX).trans HBN.out;have d0:=cg_ hb6 (k:=0) rfl;have d1:=cg_ hb6 (k:=1) rfl;clear hown6 hgrow6 hat6)
         go_roundw
         case rel=>exact ⟨i + 1,y.app (.cons nm l s .nil),_,by omega,by go_num,m4,by rw [Fo.len_app];simp only [Fo.len];omega,by rw [Fo.cnt_app,Nat.succ_mul];simp only [Fo.cnt];omega,m1,made_ok1 hok.out HO1.out htn.out HNM.out (by omega),made_tn htn.out HNM.out,m2,m3⟩
         case measure=>simp [intOf];omega
       · have g0:(0:Int) < (l.length:Int):=by omega
         clear hl0
         go_wp2_with (at_builtin;refine (wpList_append_ao _ rfl _ _ _ rfl w.heap.size 85 i0 _ 3 64 Tryz.underlying22 hi0 hz0 hz1 hz2 rfl (by omega) u7 y.len cs rfl (hown5.alloc _) (some ⟨wx.heap.size,0,none⟩) 1 1 [.string (bs nm), .slice an l.length cn, .slice as_ s.len cs_] rfl rfl (fun h=>by cases h) (fun ad had=>by cases had;exact World.news_of_block (cs:=#[.string (bs nm), .slice an l.length cn, .slice as_ s.len cs_]) (t:=85) (fr:=(0,0)) (heap_alloc_new _ _)) (by simp [Value.oneCell']) (by unfold maxLen;omega) (by omega) (by simp;omega) ?_);intro a6 c6 w6 hown6 hgrow6 hat6;have m7:=hid hat6;obtain ⟨m1,m2,m3,m4,m5,m6⟩:=made_app HB0.out HS.out hK.out HKW.out hown hfc.out HI5.out (by omega) (by omega) HF5.out (by omega) (nl_ _) HH5.out hown6 hgrow6 hat6;have hb6:=(m5.out Bx hBxn hneX).trans HBN.out;have d0:=cg_ hb6 (k:=0) rfl;have d1:=cg_ hb6 (k:=1) rfl;clear hown6 hgrow6 hat6)
         have ON:=hid (Once_any b S w6 2 (by omega) m2.out)
         obtain ⟨gn,on,rfl,hgn,_,_,hcn⟩:=SlC.cells HI5.out (by omega)
         have hl0':0 < l.length:=by omega
         obtain ⟨x0,hx0⟩:∃ x0,l[0] = x0:=⟨_,rfl⟩
         have hxr:=hlx.out l[0] (List.getElem_mem hl0')
         have e0:wx.cell? ⟨gn,on,none⟩ = some (.int .i64 x0):=by
          have:=hcn 0 (.int .i64 x0) (by rw [List.getElem?_map,List.getElem?_eq_getElem hl0',hx0];rfl)
          simpa using this
         rw [hx0] at hxr
         have HXR:=hid hxr
         have hgnw:gn < wx.heap.size:=by have:=hgn.2;omega
         have hneG:u7.ownBlock ≠ some gn:=fun e=>by have:=(hown.lt gn e).2;have:=hgn.1;omega
         have e6:w6.cell? ⟨gn,on,none⟩ = some (.int .i64 x0):=by rw [World.cell?_of_block (w:=wx) (m5.out gn hgnw hneG)];exact e0
         have HX0:=hid hx0
         have z6:=m6.out
         have hgB:gn ≠ b:=by have:=hgn.1;omega
         clear hx0 hcn e0
         have HNX:Hid ((Value.slice a6 (y.len + 1) c6).ownBlock ≠ some Bx):=fun e=>by rcases m7.out Bx e with h | h;exact hneX h;(simp at h;omega)
         have HNG:Hid ((Value.slice a6 (y.len + 1) c6).ownBlock ≠ some gn):=fun e=>by rcases m7.out gn e with h | h;exact hneG h;(simp at h;omega)
         have w1:IntKind.i64.wrap (x0 + 1) = x0 + 1:=IntWalk.i64_in _ (by omega)
         refine ON.out.mono ?_
         rintro e w7 ⟨q7,rfl,hH7,hk7⟩
         have hz7:=hk7.size
         have d07:=(World.cell?_of_block (w:=w6) (hk7.block Bx (by omega) (show Bx ≠ b by omega))).trans d0
         have d17:=(World.cell?_of_block (w:=w6) (hk7.block Bx (by omega) (show Bx ≠ b by omega))).trans d1
         have e7:=(World.cell?_of_block (w:=w6) (hk7.block gn (by omega) hgB)).trans e6
         have hK7:Hid (Keep (· = b) w w7):=m3.out.trans hk7
         have HH7:=hid hH7
         have hown7:w7.ownsRow w.heap.size 85 3 (.slice a6 (y.len + 1) c6) (y.app (.cons nm l s .nil)).len (cs ++ [.string (bs nm), .slice (some ⟨gn,on,none⟩) l.length cn, .slice as_ s.len cs_]):=owns_agree m4 fun q hq=>hk7.block q (m4.lt q hq).2 (by have:=(m4.lt q hq).1;omega)
         have hfc7:Hid (FCs (Rx w.heap.size w7.heap.size (.slice a6 (y.len + 1) c6)) w7 (y.app (.cons nm l s .nil)) (cs ++ [.string (bs nm), .slice (some ⟨gn,on,none⟩) l.length cn, .slice as_ s.len cs_])):=(m1.out.agree fun q hq=>hk7.block q hq.2.1 (by have:=hq.1;omega)).wide fun q hq=>⟨hq.1,by have:=hq.2.1;omega,hq.2.2⟩
         have hok7:Hid (OkF (D + 1) (y.app (.cons nm l s .nil))):=made_ok1 hok.out HO1.out htn.out HNM.out (by omega)
         have htn7:Hid (∀ k ∈ tops (y.app (.cons nm l s .nil)),∃ j,j < i + 1∧k.n = nmI j):=made_tn htn.out HNM.out
         cases q7 with
         | false=>
           go_wp2_with fail
           go_roundw
           case rel=>exact ⟨i + 1,y.app (.cons nm l s .nil),_,by omega,by go_num,hown7,by rw [Fo.len_app];simp only [Fo.len];omega,by rw [Fo.cnt_app,Nat.succ_mul];simp only [Fo.cnt];omega,hfc7,hok7,htn7,HH7,hK7⟩
           case measure=>simp [intOf];omega
         | true=>
           go_wp2_with fail
           refine (wpIn_wide (n:=9)).1 ?_
           refine region_held (fun w':World=>w'.cell? ⟨Bx,0,none⟩ = some (.string (bs nm))∧w'.cell? ⟨Bx,1,none⟩ = some (.slice (some ⟨gn,on,none⟩) l.length cn)∧w'.cell? ⟨gn,on,none⟩ = some (.int .i64 x0)) (by kernel_rfl) ?_
           have hS0:(fun w':World=>w'.cell? ⟨Bx,0,none⟩ = some (.string (bs nm))∧w'.cell? ⟨Bx,1,none⟩ = some (.slice (some ⟨gn,on,none⟩) l.length cn)∧w'.cell? ⟨gn,on,none⟩ = some (.int .i64 x0)) w7.drew:=⟨d07,d17,e7⟩
           refine tkY 0 61 (.slice a6 (y.len + 1) c6) rfl rfl hS0 (fun w' hs=>?_) ?_
           · go_simp
           refine tkY 1 62 (.pointer (some ⟨Bx,0,none⟩)) rfl rfl hS0 (fun w' hs=>?_) ?_
           · go_simp
           refine tkY 2 63 (.string (bs nm)) rfl rfl hS0 (fun w' hs=>?_) ?_
           · go_simp
           refine tkY 3 64 (.pointer (some ⟨Bx,1,none⟩)) rfl rfl hS0 (fun w' hs=>?_) ?_
           · go_simp
           refine tkY 4 65 (.slice (some ⟨gn,on,none⟩) l.length cn) rfl rfl hS0 (fun w' hs=>?_) ?_
           · go_simp
           refine tkY 5 66 (.pointer (some ⟨gn,on,none⟩)) rfl rfl hS0 (fun w' hs=>?_) ?_
           · go_simp
           refine tkY 6 67 (.int .i64 x0) rfl rfl hS0 (fun w' hs=>?_) ?_
           · go_simp
           refine tkY 7 68 (.int .i64 (x0 + 1)) rfl rfl hS0 (fun w' hs=>?_) ?_
           · go_simp
           refine tkY 8 69 (.pointer (some ⟨b,0,none⟩)) rfl rfl hS0 (fun w' hs=>?_) ?_
           · go_simp
           refine AnyH_one (i:=9) (by kernel_rfl) rfl (by kernel_rfl) (fun K hK=>?_)
           go_simp
           refine ⟨trivial,(callsIn_wide.2 (Upto_any b S w7.drew 2 (by omega) (HH7.out.agree rfl Agree.refl))).mono ?_⟩
           rintro e w8 ⟨r8,rfl,hr8,hH8,hk8⟩
           have hz8:w7.heap.size ≤ w8.heap.size:=hk8.size
           have HZR:Hid (∀ z ∈ [x0 + 1,(r8:Int)],0 ≤ z∧z ≤ 9999):=fun z hz=>by
            have h1:=HXR.out
            simp only [List.mem_cons,List.not_mem_nil,or_false] at hz
            rcases hz with hz | hz
            · rw [hz];omega
            · rw [hz];omega
           have hS8:(fun w':World=>w'.cell? ⟨Bx,0,none⟩ = some (.string (bs nm))∧w'.cell? ⟨Bx,1,none⟩ = some (.slice (some ⟨gn,on,none⟩) l.length cn)∧w'.cell? ⟨gn,on,none⟩ = some (.int .i64 x0)) w8:=⟨(World.cell?_of_block (w:=w7) (hk8.block Bx (show Bx < w7.heap.size by omega) (show Bx ≠ b by omega))).trans d07,(World.cell?_of_block (w:=w7) (hk8.block Bx (show Bx < w7.heap.size by omega) (show Bx ≠ b by omega))).trans d17,(World.cell?_of_block (w:=w7) (hk8.block gn (show gn < w7.heap.size by omega) hgB)).trans e7⟩
           refine hK _ _ ⟨hS8,?_⟩
           clear hK
           refine AnyH_one (i:=10) (by kernel_rfl) rfl (by kernel_rfl) (fun K hK=>?_)
           go_simp
           have hba:Below w8.heap.size w8 (w8.alloc (.cells #[.int .i64 (x0 + 1), .int .i64 r8] 3)):=(Below.refl _ _).alloc (nl_ _) _
           have hS9:(fun w':World=>w'.cell? ⟨Bx,0,none⟩ = some (.string (bs nm))∧w'.cell? ⟨Bx,1,none⟩ = some (.slice (some ⟨gn,on,none⟩) l.length cn)∧w'.cell? ⟨gn,on,none⟩ = some (.int .i64 x0)) (w8.alloc (.cells #[.int .i64 (x0 + 1), .int .i64 r8] 3)):=⟨bc_ hba (by omega) hS8.1,bc_ hba (by omega) hS8.2.1,bc_ hba (by omega) hS8.2.2⟩
           refine hK _ _ ⟨hS9,?_⟩
           clear hK
           refine tkY 11 72 (.agg #[.string (bs nm), .slice (some ⟨w8.heap.size,0,none⟩) 2 2, .slice none 0 0]) rfl rfl hS9 (fun w' hs=>?_) ?_
           · go_simp
           refine AnyH_one (i:=12) (by kernel_rfl) rfl (by kernel_rfl) (fun K hK=>?_)
           go_simp
           have hbb:Below w8.heap.size w8 ((w8.alloc (.cells #[.int .i64 (x0 + 1), .int .i64 r8] 3)).alloc (.cells #[.string (bs nm), .slice (some ⟨w8.heap.size,0,none⟩) 2 2, .slice none 0 0] 85)):=hba.alloc (by simp) _
           refine hK _ _ ⟨⟨bc_ hbb (by omega) hS8.1,bc_ hbb (by omega) hS8.2.1,bc_ hbb (by omega) hS8.2.2⟩,?_⟩
           clear hK
           have hown8:w8.ownsRow w.heap.size 85 3 (.slice a6 (y.len + 1) c6) (y.app (.cons nm l s .nil)).len (cs ++ [.string (bs nm), .slice (some ⟨gn,on,none⟩) l.length cn, .slice as_ s.len cs_]):=owns_agree hown7 fun q hq=>hk8.block q (show q < w7.heap.size from (hown7.lt q hq).2) (by have:=(hown7.lt q hq).1;omega)
           have hyl7:(y.app (.cons nm l s .nil)).len ≤ 2 * i + 1:=by rw [Fo.len_app];simp only [Fo.len];omega
           obtain ⟨a9,c9,w9,hr9,hown9,hgrow9,hat9⟩:=run_append_ao (P:=Tryz.prog) ((w8.alloc (.cells #[.int .i64 (x0 + 1), .int .i64 r8] 3)).alloc (.cells #[.string (bs nm), .slice (some ⟨w8.heap.size,0,none⟩) 2 2, .slice none 0 0] 85)) 22 22 w.heap.size 85 i0 _ 3 64 Tryz.underlying22 hi0 hz0 hz1 hz2 rfl (by omega) (.slice a6 (y.len + 1) c6) (y.app (.cons nm l s .nil)).len _ ((hown8.alloc _).alloc _) (some ⟨w8.heap.size + 1,0,none⟩) 1 1 [.string (bs nm), .slice (some ⟨w8.heap.size,0,none⟩) 2 2, .slice none 0 0] rfl (fun h=>by cases h) (fun ad had=>by cases had;exact World.news_of_block (cs:=#[.string (bs nm), .slice (some ⟨w8.heap.size,0,none⟩) 2 2, .slice none 0 0]) (t:=85) (fr:=(0,0)) (by simpa using heap_alloc_new (w8.alloc (.cells #[.int .i64 (x0 + 1), .int .i64 r8] 3)) (.cells #[.string (bs nm), .slice (some ⟨w8.heap.size,0,none⟩) 2 2, .slice none 0 0] 85))) (by simp [Value.oneCell']) (by unfold maxLen;omega) (by omega) (by simp;omega)
           have HI9:Ints (Rg w8.heap.size (w8.heap.size + 1)) (w8.alloc (.cells #[.int .i64 (x0 + 1), .int .i64 r8] 3)) (.slice (some ⟨w8.heap.size,0,none⟩) [x0 + 1,(r8:Int)].length 2) [x0 + 1,(r8:Int)]:=by
            refine ⟨rfl,_,2,rfl,by simp,by simp [maxLen],(fun h=>by cases h), .inr ⟨w8.heap.size,0,rfl,⟨nl_ _,by omega⟩,fun j u hj=>?_⟩⟩
            have:=cg_ (heap_alloc_new w8 (.cells #[.int .i64 (x0 + 1), .int .i64 r8] 3)) (k:=j) (v:=u) (by simpa using hj)
            simpa using this
           have HF9:FSl (Rg w8.heap.size w8.heap.size) (w8.alloc (.cells #[.int .i64 (x0 + 1), .int .i64 r8] 3)) (.slice none (Fo.nil).len 0) .nil:=⟨[],⟨rfl,none,0,rfl,nl_ _,by simp [maxLen],fun _=>rfl, .inl rfl⟩,rfl⟩
           have hk79:Keep (· = b) w7 (w8.alloc (.cells #[.int .i64 (x0 + 1), .int .i64 r8] 3)):=Keep.alloc (A:=w7) (B:=w8) ⟨hk8.os,hk8.tape,hk8.output,hz8,fun q hq hn=>hk8.block q hq hn⟩ _
           obtain ⟨n1,n2,n3,n4,n5,n6⟩:=made_app (l:=[x0 + 1,(r8:Int)]) (s := .nil) (as_:=none) (cs_:=0) HB0.out HS.out hK7.out hk79 hown7 hfc7.out HI9 (by omega) (by simp) HF9 (by omega) (by simp) (hH8.below (show b < w8.heap.size by omega) (fun q hq=>by have:=HS.out q hq;omega) hba) hown9 hgrow9 hat9
           have hneX6:(Value.slice a6 (y.len + 1) c6).ownBlock ≠ some Bx:=fun e=>by
            have:=hown7.lt Bx e
            exact HNX.out e
           have hneG6:(Value.slice a6 (y.len + 1) c6).ownBlock ≠ some gn:=fun e=>HNG.out e
           have hS10:(fun w':World=>w'.cell? ⟨Bx,0,none⟩ = some (.string (bs nm))∧w'.cell? ⟨Bx,1,none⟩ = some (.slice (some ⟨gn,on,none⟩) l.length cn)∧w'.cell? ⟨gn,on,none⟩ = some (.int .i64 x0)) w9:=⟨(World.cell?_of_block (w:=w8.alloc (.cells #[.int .i64 (x0 + 1), .int .i64 r8] 3)) (n5.out Bx (by simp;omega) hneX6)).trans hS9.1,(World.cell?_of_block (w:=w8.alloc (.cells #[.int .i64 (x0 + 1), .int .i64 r8] 3)) (n5.out Bx (by simp;omega) hneX6)).trans hS9.2.1,(World.cell?_of_block (w:=w8.alloc (.cells #[.int .i64 (x0 + 1), .int .i64 r8] 3)) (n5.out gn (by simp;omega) hneG6)).trans hS9.2.2⟩
           refine AnyH_one (i:=13) (by kernel_rfl) rfl (by kernel_rfl) (fun K hK=>?_)
           refine wpIn_value (fun _=>trivial) rfl (exec_append rfl rfl rfl hr9) ?_
           refine hK _ _ ⟨hS10,?_⟩
           clear hK hr9
           refine tkY 14 7 (.slice a9 ((y.app (.cons nm l s .nil)).len + 1) c9) rfl rfl hS10 (fun w' hs=>?_) ?_
           · go_simp
           refine AnyH_done (by kernel_rfl) ?_
           go_simp
           clear hown9 hgrow9 hat9 hS10 hS9 hS8 hba hbb hk79 hown8
           go_wp2_with fail
           go_roundw
           case rel=>exact ⟨i + 1,(y.app (.cons nm l s .nil)).app (.cons nm [x0 + 1,(r8:Int)] .nil .nil),_,by omega,by go_num,n4,by rw [Fo.len_app,Fo.len_app];simp only [Fo.len];omega,by rw [Fo.cnt_app,Fo.cnt_app,Nat.succ_mul];simp only [Fo.cnt];omega,n1,made_ok2 hok7.out htn.out HNM.out (by omega) hl0' HX0.out (OkF.one (by omega) (by have:=HNM.out;rw [← this];exact nmI_mem i (by omega)) (by simp) HZR.out trivial),made_tn2 htn7.out HNM.out,n2,n3⟩
           case measure=>simp [intOf];omega
     | succ g=>
       have gD:(D:Int) < 2:=by have:=HD.out;omega
       have gD3:D + 1 ≤ 3:=by have:=HD.out;omega
       have gm:1 ≤ most:=by omega
       have em:((most - 1:Nat):Int) = (most:Int) - 1:=by omega
       have ed:((2 - g:Nat):Int) = (D:Int) + 1:=by have:=HD.out;omega
       have ed2:2 - g = D + 1:=by have:=HD.out;omega
       have eN:bdM g (most - 1) = N:=HN.out
       have ON:=hid (Once_any b S wx 1 (by omega) hHx.out)
       have w1:IntKind.i64.wrap ((most:Int) - 1) = (most:Int) - 1:=IntWalk.i64_in _ (by omega)
       have w2:IntKind.i64.wrap ((D:Int) + 1) = (D:Int) + 1:=IntWalk.i64_in _ (by omega)
       have EM:=hid em
       have ED:=hid ed
       have ED2:=hid ed2
       have EN:=hid eN
       clear em ed ed2 eN
       go_upto_if 41 with (refine ON.out.mono ?_;rintro e w5 ⟨q5,rfl,hH5,hk5⟩)
       have hzk5:=hk5.size
       have hb5:w5.heap[Bx]? = some (.cells #[.string (bs nm), .slice an l.length cn, .slice none 0 0] 85 (0,0)):=(hk5.block Bx hBxl (by omega)).trans HBLK.out
       have HK5:=hid hk5
       have HH5x:=hid hH5
       have HB5:=hid hb5
       clear hH5 hk5 hb5
       go_cut [] from 42 to 48 (fun wx2=>∃ (s:Fo) (as_:Option Addr) (cs_:Nat),Hid (wx2.heap[Bx]? = some (.cells #[.string (bs nm), .slice an l.length cn, .slice as_ s.len cs_] 85 (0,0)))∧Hid (FSl (Rg wx.heap.size wx2.heap.size) wx2 (.slice as_ s.len cs_) s)∧Hid (OkF (D + 1 + 1) s)∧s.cnt ≤ N∧Hid (Hp b S wx2)∧Hid (Keep (fun q=>q = b ∨ q = Bx) wx wx2)∧wx.heap.size ≤ wx2.heap.size)
       case first=>
        cases q5 with
        | false=>
          go_wp2_with fail
          go_meet
          case rel=>exact ⟨.nil,none,0,HB5.out,⟨[],⟨rfl,none,0,rfl,nl_ _,by simp [maxLen],fun _=>rfl, .inl rfl⟩,rfl⟩,trivial,Nat.zero_le _,HH5x,⟨HK5.out.os,HK5.out.tape,HK5.out.output,HK5.out.size,fun q hq hn=>HK5.out.block q hq (fun e=>hn (.inl e))⟩,hzk5⟩
        | true=>
          have MD:=IH.out g (Nat.lt_succ_self g) (most - 1) b S w5 (by omega) (by omega) HH5x.out (by omega) (fun q hq=>by have:=HS.out q hq;omega)
          rw [EM.out,ED.out] at MD
          have MD:=hid MD
          go_wp2_with fail
          refine MD.out.mono ?_
          rintro e w6 ⟨y1,a1,c1,rfl,hF6',hO6,hl6,hc6,hH6,hk6⟩
          have hF6:=hF6'.fsl
          clear hF6'
          have hzk6:=hk6.size
          have hb6:w6.heap[Bx]? = some (.cells #[.string (bs nm), .slice an l.length cn, .slice none 0 0] 85 (0,0)):=(hk6.block Bx (by omega) (by omega)).trans HB5.out
          have d2:=cg_ hb6 (k:=2) rfl
          have f2:=cells_frz hb6 (k:=2)
          have n1:Hid ((w6.setCell ⟨Bx,2,none⟩ (.slice a1 y1.len c1)).heap[Bx]? = some (.cells #[.string (bs nm), .slice an l.length cn, .slice a1 y1.len c1] 85 (0,0))):=by
           unfold Hid;simp [World.setCell,Array.getElem?_modify,hb6]
          have hfar:∀ q,q ≠ Bx→(w6.setCell ⟨Bx,2,none⟩ (.slice a1 y1.len c1)).heap[q]? = w6.heap[q]?:=fun q hq=>Below.heap_setCell _ _ _ _ hq
          have hzs:(w6.setCell ⟨Bx,2,none⟩ (.slice a1 y1.len c1)).heap.size = w6.heap.size:=by simp [World.setCell]
          have n2:Hid (FSl (Rg wx.heap.size (w6.setCell ⟨Bx,2,none⟩ (.slice a1 y1.len c1)).heap.size) (w6.setCell ⟨Bx,2,none⟩ (.slice a1 y1.len c1)) (.slice a1 y1.len c1) y1):=by
           rw [hzs]
           exact (hF6.agree (fun q hq=>hfar q (by have:=hq.1;omega))).wide (fun q hq=>⟨by have:=hq.1;omega,hq.2⟩)
          have n3:Hid (OkF (D + 1 + 1) y1):=by rw [← ED2.out];exact hO6
          have n4:Hid (Hp b S (w6.setCell ⟨Bx,2,none⟩ (.slice a1 y1.len c1))):=hH6.agree (hfar b (by omega)) (fun q hq=>hfar q (by have:=HS.out q hq;omega))
          have n5:Hid (Keep (fun q=>q = b ∨ q = Bx) wx (w6.setCell ⟨Bx,2,none⟩ (.slice a1 y1.len c1))):=⟨hk6.os.trans HK5.out.os,hk6.tape.trans HK5.out.tape,hk6.output.trans HK5.out.output,by rw [hzs];omega,fun q hq hn=>(hfar q (fun e=>hn (.inr e))).trans ((hk6.block q (by omega) (fun e=>hn (.inl e))).trans (HK5.out.block q hq (fun e=>hn (.inl e))))⟩
          have n6:y1.cnt ≤ N:=by rw [← EN.out];exact hc6
          have HZS:=hid hzs
          clear hfar hzs hF6 hO6 hH6 hk6 hb6
          go_wp2_with fail
          go_meet
          case rel=>exact ⟨y1,a1,c1,n1,n2,n3,n6,n4,n5,by rw [HZS.out];omega⟩
       case rest=>
        obtain ⟨s,as_,cs_,HBN,HF5,HOS,hsc,HH5,hKn,hzn⟩:=hcut
        obtain ⟨Wn,rfl⟩:∃ v,v = wc:=⟨_,rfl⟩
        have hI0:Ints (Rg W3.heap.size wx.heap.size) wx (.slice an l.length cn) l:=SlC.of_owns HOWX.out
        have HI5:Hid (Ints (Rg W3.heap.size wx.heap.size) Wn (.slice an l.length cn) l):=hI0.agree fun q hq=>hKn.out.block q hq.2 (fun e=>by have:=hq.1;rcases e with e | e <;> omega)
        have HKW:Hid (Keep (· = b) w0 Wn):=⟨hKn.out.os.trans (hKx.out.os.trans (HK3.out.os.trans HB2.out.os)),hKn.out.tape.trans (hKx.out.tape.trans (HK3.out.tape.trans HB2.out.tape)),hKn.out.output.trans (hKx.out.output.trans (HK3.out.output.trans HB2.out.output)),by have:=HB2.out.size;have:=HK3.out.size;omega,fun q hq hn=>(hKn.out.block q (by have:=HB2.out.size;have:=HK3.out.size;omega) (fun e=>by rcases e with e | e;exact hn e;omega)).trans ((hKx.out.block q (by have:=HB2.out.size;have:=HK3.out.size;omega) (fun e=>by rcases e with e | e;exact hn e;omega)).trans ((HK3.out.block q (by have:=HB2.out.size;omega) hn).trans (HB2.out.block q hq)))⟩
        clear hI0
        have hz5:=HKW.out.size
        have hBxn:Bx < Wn.heap.size:=(Array.getElem?_eq_some_iff.1 HBN.out).1
        have c0:=cg_ HBN.out (k:=0) rfl
        have c1:=cg_ HBN.out (k:=1) rfl
        have c2:=cg_ HBN.out (k:=2) rfl
        have hown5:Wn.ownsRow w.heap.size 85 3 u7 y.len cs:=owns_agree hown fun q hq=>HKW.out.block q (hown.lt q hq).2 (by have:=(hown.lt q hq).1;omega)
        have hneX:u7.ownBlock ≠ some Bx:=fun e=>by have:=(hown.lt Bx e).2;omega
        have HO1:Hid (OkF (D + 1) (.cons nm l s .nil)):=OkF.one (by omega) (by have:=HNM.out;rw [← this];exact nmI_mem i (by omega)) (by omega) (fun x hx=>by have:=hlx.out x hx;omega) HOS.out
        by_cases hl0:l.length = 0
        · have g0:¬ (0:Int) < (l.length:Int):=by omega
          clear hl0
          go_wp2_with (at_builtin;refine (wpList_append_ao _ rfl _ _ _ rfl w.heap.size 85 i0 _ 3 64 Tryz.underlying22 hi0 hz0 hz1 hz2 rfl (by omega) u7 y.len cs rfl (hown5.alloc _) (some ⟨Wn.heap.size,0,none⟩) 1 1 [.string (bs nm), .slice an l.length cn, .slice as_ s.len cs_] rfl rfl (fun h=>by cases h) (fun ad had=>by cases had;exact World.news_of_block (cs:=#[.string (bs nm), .slice an l.length cn, .slice as_ s.len cs_]) (t:=85) (fr:=(0,0)) (heap_alloc_new _ _)) (by simp [Value.oneCell']) (by unfold maxLen;omega) (by omega) (by simp;omega) ?_);intro a6 c6 w6 hown6 hgrow6 hat6;have m7:=hid hat6;obtain ⟨m1,m2,m3,m4,m5,m6⟩:=made_app HB0.out HS.out hK.out HKW.out hown hfc.out HI5.out (by omega) (by omega) HF5.out (by omega) (nl_ _) HH5.out hown6 hgrow6 hat6;have hb6:=(m5.out Bx hBxn hneX).trans HBN.out;have d0:=cg_ hb6 (k:=0) rfl;have d1:=cg_ hb6 (k:=1) rfl;clear hown6 hgrow6 hat6)
          go_roundw
          case rel=>exact ⟨i + 1,y.app (.cons nm l s .nil),_,by omega,by go_num,m4,by rw [Fo.len_app];simp only [Fo.len];omega,by rw [Fo.cnt_app,Nat.succ_mul];simp only [Fo.cnt];omega,m1,made_ok1 hok.out HO1.out htn.out HNM.out (by omega),made_tn htn.out HNM.out,m2,m3⟩
          case measure=>simp [intOf];omega
        · have g0:(0:Int) < (l.length:Int):=by omega
          clear hl0
          go_wp2_with (at_builtin;refine (wpList_append_ao _ rfl _ _ _ rfl w.heap.size 85 i0 _ 3 64 Tryz.underlying22 hi0 hz0 hz1 hz2 rfl (by omega) u7 y.len cs rfl (hown5.alloc _) (some ⟨Wn.heap.size,0,none⟩) 1 1 [.string (bs nm), .slice an l.length cn, .slice as_ s.len cs_] rfl rfl (fun h=>by cases h) (fun ad had=>by cases had;exact World.news_of_block (cs:=#[.string (bs nm), .slice an l.length cn, .slice as_ s.len cs_]) (t:=85) (fr:=(0,0)) (heap_alloc_new _ _)) (by simp [Value.oneCell']) (by unfold maxLen;omega) (by omega) (by simp;omega) ?_);intro a6 c6 w6 hown6 hgrow6 hat6;have m7:=hid hat6;obtain ⟨m1,m2,m3,m4,m5,m6⟩:=made_app HB0.out HS.out hK.out HKW.out hown hfc.out HI5.out (by omega) (by omega) HF5.out (by omega) (nl_ _) HH5.out hown6 hgrow6 hat6;have hb6:=(m5.out Bx hBxn hneX).trans HBN.out;have d0:=cg_ hb6 (k:=0) rfl;have d1:=cg_ hb6 (k:=1) rfl;clear hown6 hgrow6 hat6)
          have ON:=hid (Once_any b S w6 2 (by omega) m2.out)
          obtain ⟨gn,on,rfl,hgn,_,_,hcn⟩:=SlC.cells HI5.out (by omega)
          have hl0':0 < l.length:=by omega
          obtain ⟨x0,hx0⟩:∃ x0,l[0] = x0:=⟨_,rfl⟩
          have hxr:=hlx.out l[0] (List.getElem_mem hl0')
          have e0:Wn.cell? ⟨gn,on,none⟩ = some (.int .i64 x0):=by
           have:=hcn 0 (.int .i64 x0) (by rw [List.getElem?_map,List.getElem?_eq_getElem hl0',hx0];rfl)
           simpa using this
          rw [hx0] at hxr
          have HXR:=hid hxr
          have hgnw:gn < Wn.heap.size:=by have:=hgn.2;omega
          have hneG:u7.ownBlock ≠ some gn:=fun e=>by have:=(hown.lt gn e).2;have:=hgn.1;omega
          have e6:w6.cell? ⟨gn,on,none⟩ = some (.int .i64 x0):=by rw [World.cell?_of_block (w:=Wn) (m5.out gn hgnw hneG)];exact e0
          have HX0:=hid hx0
          have z6:=m6.out
          have hgB:gn ≠ b:=by have:=hgn.1;omega
          clear hx0 hcn e0
          have HNX:Hid ((Value.slice a6 (y.len + 1) c6).ownBlock ≠ some Bx):=fun e=>by rcases m7.out Bx e with h | h;exact hneX h;(simp at h;omega)
          have HNG:Hid ((Value.slice a6 (y.len + 1) c6).ownBlock ≠ some gn):=fun e=>by rcases m7.out gn e with h | h;exact hneG h;(simp at h;omega)
          have w1:IntKind.i64.wrap (x0 + 1) = x0 + 1:=IntWalk.i64_in _ (by omega)
          refine ON.out.mono ?_
          rintro e w7 ⟨q7,rfl,hH7,hk7⟩
          have hz7:=hk7.size
          have d07:=(World.cell?_of_block (w:=w6) (hk7.block Bx (by omega) (show Bx ≠ b by omega))).trans d0
          have d17:=(World.cell?_of_block (w:=w6) (hk7.block Bx (by omega) (show Bx ≠ b by omega))).trans d1
          have e7:=(World.cell?_of_block (w:=w6) (hk7.block gn (by omega) hgB)).trans e6
          have hK7:Hid (Keep (· = b) w w7):=m3.out.trans hk7
          have HH7:=hid hH7
          have hown7:w7.ownsRow w.heap.size 85 3 (.slice a6 (y.len + 1) c6) (y.app (.cons nm l s .nil)).len (cs ++ [.string (bs nm), .slice (some ⟨gn,on,none⟩) l.length cn, .slice as_ s.len cs_]):=owns_agree m4 fun q hq=>hk7.block q (m4.lt q hq).2 (by have:=(m4.lt q hq).1;omega)
          have hfc7:Hid (FCs (Rx w.heap.size w7.heap.size (.slice a6 (y.len + 1) c6)) w7 (y.app (.cons nm l s .nil)) (cs ++ [.string (bs nm), .slice (some ⟨gn,on,none⟩) l.length cn, .slice as_ s.len cs_])):=(m1.out.agree fun q hq=>hk7.block q hq.2.1 (by have:=hq.1;omega)).wide fun q hq=>⟨hq.1,by have:=hq.2.1;omega,hq.2.2⟩
          have hok7:Hid (OkF (D + 1) (y.app (.cons nm l s .nil))):=made_ok1 hok.out HO1.out htn.out HNM.out (by omega)
          have htn7:Hid (∀ k ∈ tops (y.app (.cons nm l s .nil)),∃ j,j < i + 1∧k.n = nmI j):=made_tn htn.out HNM.out
          cases q7 with
          | false=>
            go_wp2_with fail
            go_roundw
            case rel=>exact ⟨i + 1,y.app (.cons nm l s .nil),_,by omega,by go_num,hown7,by rw [Fo.len_app];simp only [Fo.len];omega,by rw [Fo.cnt_app,Nat.succ_mul];simp only [Fo.cnt];omega,hfc7,hok7,htn7,HH7,hK7⟩
            case measure=>simp [intOf];omega
          | true=>
            go_wp2_with fail
            refine (wpIn_wide (n:=9)).1 ?_
            refine region_held (fun w':World=>w'.cell? ⟨Bx,0,none⟩ = some (.string (bs nm))∧w'.cell? ⟨Bx,1,none⟩ = some (.slice (some ⟨gn,on,none⟩) l.length cn)∧w'.cell? ⟨gn,on,none⟩ = some (.int .i64 x0)) (by kernel_rfl) ?_
            have hS0:(fun w':World=>w'.cell? ⟨Bx,0,none⟩ = some (.string (bs nm))∧w'.cell? ⟨Bx,1,none⟩ = some (.slice (some ⟨gn,on,none⟩) l.length cn)∧w'.cell? ⟨gn,on,none⟩ = some (.int .i64 x0)) w7.drew:=⟨d07,d17,e7⟩
            refine tkY 0 61 (.slice a6 (y.len + 1) c6) rfl rfl hS0 (fun w' hs=>?_) ?_
            · go_simp
            refine tkY 1 62 (.pointer (some ⟨Bx,0,none⟩)) rfl rfl hS0 (fun w' hs=>?_) ?_
            · go_simp
            refine tkY 2 63 (.string (bs nm)) rfl rfl hS0 (fun w' hs=>?_) ?_
            · go_simp
            refine tkY 3 64 (.pointer (some ⟨Bx,1,none⟩)) rfl rfl hS0 (fun w' hs=>?_) ?_
            · go_simp
            refine tkY 4 65 (.slice (some ⟨gn,on,none⟩) l.length cn) rfl rfl hS0 (fun w' hs=>?_) ?_
            · go_simp
            refine tkY 5 66 (.pointer (some ⟨gn,on,none⟩)) rfl rfl hS0 (fun w' hs=>?_) ?_
            · go_simp
            refine tkY 6 67 (.int .i64 x0) rfl rfl hS0 (fun w' hs=>?_) ?_
            · go_simp
            refine tkY 7 68 (.int .i64 (x0 + 1)) rfl rfl hS0 (fun w' hs=>?_) ?_
            · go_simp
            refine tkY 8 69 (.pointer (some ⟨b,0,none⟩)) rfl rfl hS0 (fun w' hs=>?_) ?_
            · go_simp
            refine AnyH_one (i:=9) (by kernel_rfl) rfl (by kernel_rfl) (fun K hK=>?_)
            go_simp
            refine ⟨trivial,(callsIn_wide.2 (Upto_any b S w7.drew 2 (by omega) (HH7.out.agree rfl Agree.refl))).mono ?_⟩
            rintro e w8 ⟨r8,rfl,hr8,hH8,hk8⟩
            have hz8:w7.heap.size ≤ w8.heap.size:=hk8.size
            have HZR:Hid (∀ z ∈ [x0 + 1,(r8:Int)],0 ≤ z∧z ≤ 9999):=fun z hz=>by
             have h1:=HXR.out
             simp only [List.mem_cons,List.not_mem_nil,or_false] at hz
             rcases hz with hz | hz
             · rw [hz];omega
             · rw [hz];omega
            have hS8:(fun w':World=>w'.cell? ⟨Bx,0,none⟩ = some (.string (bs nm))∧w'.cell? ⟨Bx,1,none⟩ = some (.slice (some ⟨gn,on,none⟩) l.length cn)∧w'.cell? ⟨gn,on,none⟩ = some (.int .i64 x0)) w8:=⟨(World.cell?_of_block (w:=w7) (hk8.block Bx (show Bx < w7.heap.size by omega) (show Bx ≠ b by omega))).trans d07,(World.cell?_of_block (w:=w7) (hk8.block Bx (show Bx < w7.heap.size by omega) (show Bx ≠ b by omega))).trans d17,(World.cell?_of_block (w:=w7) (hk8.block gn (show gn < w7.heap.size by omega) hgB)).trans e7⟩
            refine hK _ _ ⟨hS8,?_⟩
            clear hK
            refine AnyH_one (i:=10) (by kernel_rfl) rfl (by kernel_rfl) (fun K hK=>?_)
            go_simp
            have hba:Below w8.heap.size w8 (w8.alloc (.cells #[.int .i64 (x0 + 1), .int .i64 r8] 3)):=(Below.refl _ _).alloc (nl_ _) _
            have hS9:(fun w':World=>w'.cell? ⟨Bx,0,none⟩ = some (.string (bs nm))∧w'.cell? ⟨Bx,1,none⟩ = some (.slice (some ⟨gn,on,none⟩) l.length cn)∧w'.cell? ⟨gn,on,none⟩ = some (.int .i64 x0)) (w8.alloc (.cells #[.int .i64 (x0 + 1), .int .i64 r8] 3)):=⟨bc_ hba (by omega) hS8.1,bc_ hba (by omega) hS8.2.1,bc_ hba (by omega) hS8.2.2⟩
            refine hK _ _ ⟨hS9,?_⟩
            clear hK
            refine tkY 11 72 (.agg #[.string (bs nm), .slice (some ⟨w8.heap.size,0,none⟩) 2 2, .slice none 0 0]) rfl rfl hS9 (fun w' hs=>?_) ?_
            · go_simp
            refine AnyH_one (i:=12) (by kernel_rfl) rfl (by kernel_rfl) (fun K hK=>?_)
            go_simp
            have hbb:Below w8.heap.size w8 ((w8.alloc (.cells #[.int .i64 (x0 + 1), .int .i64 r8] 3)).alloc (.cells #[.string (bs nm), .slice (some ⟨w8.heap.size,0,none⟩) 2 2, .slice none 0 0] 85)):=hba.alloc (by simp) _
            refine hK _ _ ⟨⟨bc_ hbb (by omega) hS8.1,bc_ hbb (by omega) hS8.2.1,bc_ hbb (by omega) hS8.2.2⟩,?_⟩
            clear hK
            have hown8:w8.ownsRow w.heap.size 85 3 (.slice a6 (y.len + 1) c6) (y.app (.cons nm l s .nil)).len (cs ++ [.string (bs nm), .slice (some ⟨gn,on,none⟩) l.length cn, .slice as_ s.len cs_]):=owns_agree hown7 fun q hq=>hk8.block q (show q < w7.heap.size from (hown7.lt q hq).2) (by have:=(hown7.lt q hq).1;omega)
            have hyl7:(y.app (.cons nm l s .nil)).len ≤ 2 * i + 1:=by rw [Fo.len_app];simp only [Fo.len];omega
            obtain ⟨a9,c9,w9,hr9,hown9,hgrow9,hat9⟩:=run_append_ao (P:=Tryz.prog) ((w8.alloc (.cells #[.int .i64 (x0 + 1), .int .i64 r8] 3)).alloc (.cells #[.string (bs nm), .slice (some ⟨w8.heap.size,0,none⟩) 2 2, .slice none 0 0] 85)) 22 22 w.heap.size 85 i0 _ 3 64 Tryz.underlying22 hi0 hz0 hz1 hz2 rfl (by omega) (.slice a6 (y.len + 1) c6) (y.app (.cons nm l s .nil)).len _ ((hown8.alloc _).alloc _) (some ⟨w8.heap.size + 1,0,none⟩) 1 1 [.string (bs nm), .slice (some ⟨w8.heap.size,0,none⟩) 2 2, .slice none 0 0] rfl (fun h=>by cases h) (fun ad had=>by cases had;exact World.news_of_block (cs:=#[.string (bs nm), .slice (some ⟨w8.heap.size,0,none⟩) 2 2, .slice none 0 0]) (t:=85) (fr:=(0,0)) (by simpa using heap_alloc_new (w8.alloc (.cells #[.int .i64 (x0 + 1), .int .i64 r8] 3)) (.cells #[.string (bs nm), .slice (some ⟨w8.heap.size,0,none⟩) 2 2, .slice none 0 0] 85))) (by simp [Value.oneCell']) (by unfold maxLen;omega) (by omega) (by simp;omega)
            have HI9:Ints (Rg w8.heap.size (w8.heap.size + 1)) (w8.alloc (.cells #[.int .i64 (x0 + 1), .int .i64 r8] 3)) (.slice (some ⟨w8.heap.size,0,none⟩) [x0 + 1,(r8:Int)].length 2) [x0 + 1,(r8:Int)]:=by
             refine ⟨rfl,_,2,rfl,by simp,by simp [maxLen],(fun h=>by cases h), .inr ⟨w8.heap.size,0,rfl,⟨nl_ _,by omega⟩,fun j u hj=>?_⟩⟩
             have:=cg_ (heap_alloc_new w8 (.cells #[.int .i64 (x0 + 1), .int .i64 r8] 3)) (k:=j) (v:=u) (by simpa using hj)
             simpa using this
            have HF9:FSl (Rg w8.heap.size w8.heap.size) (w8.alloc (.cells #[.int .i64 (x0 + 1), .int .i64 r8] 3)) (.slice none (Fo.nil).len 0) .nil:=⟨[],⟨rfl,none,0,rfl,nl_ _,by simp [maxLen],fun _=>rfl, .inl rfl⟩,rfl⟩
            have hk79:Keep (· = b) w7 (w8.alloc (.cells #[.int .i64 (x0 + 1), .int .i64 r8] 3)):=Keep.alloc (A:=w7) (B:=w8) ⟨hk8.os,hk8.tape,hk8.output,hz8,fun q hq hn=>hk8.block q hq hn⟩ _
            obtain ⟨n1,n2,n3,n4,n5,n6⟩:=made_app (l:=[x0 + 1,(r8:Int)]) (s := .nil) (as_:=none) (cs_:=0) HB0.out HS.out hK7.out hk79 hown7 hfc7.out HI9 (by omega) (by simp) HF9 (by omega) (by simp) (hH8.below (show b < w8.heap.size by omega) (fun q hq=>by have:=HS.out q hq;omega) hba) hown9 hgrow9 hat9
            have hneX6:(Value.slice a6 (y.len + 1) c6).ownBlock ≠ some Bx:=fun e=>by
             have:=hown7.lt Bx e
             exact HNX.out e
            have hneG6:(Value.slice a6 (y.len + 1) c6).ownBlock ≠ some gn:=fun e=>HNG.out e
            have hS10:(fun w':World=>w'.cell? ⟨Bx,0,none⟩ = some (.string (bs nm))∧w'.cell? ⟨Bx,1,none⟩ = some (.slice (some ⟨gn,on,none⟩) l.length cn)∧w'.cell? ⟨gn,on,none⟩ = some (.int .i64 x0)) w9:=⟨(World.cell?_of_block (w:=w8.alloc (.cells #[.int .i64 (x0 + 1), .int .i64 r8] 3)) (n5.out Bx (by simp;omega) hneX6)).trans hS9.1,(World.cell?_of_block (w:=w8.alloc (.cells #[.int .i64 (x0 + 1), .int .i64 r8] 3)) (n5.out Bx (by simp;omega) hneX6)).trans hS9.2.1,(World.cell?_of_block (w:=w8.alloc (.cells #[.int .i64 (x0 + 1), .int .i64 r8] 3)) (n5.out gn (by simp;omega) hneG6)).trans hS9.2.2⟩
            refine AnyH_one (i:=13) (by kernel_rfl) rfl (by kernel_rfl) (fun K hK=>?_)
            refine wpIn_value (fun _=>trivial) rfl (exec_append rfl rfl rfl hr9) ?_
            refine hK _ _ ⟨hS10,?_⟩
            clear hK hr9
            refine tkY 14 7 (.slice a9 ((y.app (.cons nm l s .nil)).len + 1) c9) rfl rfl hS10 (fun w' hs=>?_) ?_
            · go_simp
            refine AnyH_done (by kernel_rfl) ?_
            go_simp
            clear hown9 hgrow9 hat9 hS10 hS9 hS8 hba hbb hk79 hown8
            go_wp2_with fail
            go_roundw
            case rel=>exact ⟨i + 1,(y.app (.cons nm l s .nil)).app (.cons nm [x0 + 1,(r8:Int)] .nil .nil),_,by omega,by go_num,n4,by rw [Fo.len_app,Fo.len_app];simp only [Fo.len];omega,by rw [Fo.cnt_app,Fo.cnt_app,Nat.succ_mul];simp only [Fo.cnt];omega,n1,made_ok2 hok7.out htn.out HNM.out (by omega) hl0' HX0.out (OkF.one (by omega) (by have:=HNM.out;rw [← this];exact nmI_mem i (by omega)) (by simp) HZR.out trivial),made_tn2 htn7.out HNM.out,n2,n3⟩
            case measure=>simp [intOf];omega
  · have hlt':¬ (i:Int) < (r:Int):=by omega
    obtain rfl:i = r:=by omega
    obtain ⟨a9,c9,rfl,_,_⟩:=owns_shape hown
    have hbd:y.cnt ≤ bdM f most:=by
     rw [bdM_nM,HN.out]
     have:i * (N + 2) ≤ most * (N + 2):=Nat.mul_le_mul_right _ (by omega)
     omega
    have HBD:=hid hbd
    clear hbd
    go_wp2_with fail
    go_ret
    exact ⟨y,a9,c9,rfl,⟨cs,hown,hfc.out⟩,hok.out,by omega,HBD.out,hH.out,hK.out⟩
theorem made_all:∀ f,f ≤ 2→MadC f:=fun f=>by
 induction f using Nat.strongRecOn with
 | _ f ih=>exact fun hf=>made_any f hf fun g hg=>ih g hg (by omega)
theorem Made_row0 (most b:Nat) (S:Nat→Prop) (w:World) (h2:2 ≤ most) (hm:most ≤ 3) (hH:Hp b S w) (hb:b < w.heap.size) (hS:∀ q,S q→q < w.heap.size) :
 Calls Tryz.prog 37 #[.pointer (some ⟨b,0,none⟩), .int .i64 most] w fun e w'=>∃ y a c,e = .returned (.slice a y.len c)∧FRow w.heap.size w' (.slice a y.len c) y∧OkF 1 y∧y.len ≤ 6∧y.cnt ≤ 30∧Hp b S w'∧Keep (· = b) w w':=by
 have h:=made_all 2 (nl_ _) most b S w h2 hm hH hb hS
 have hbm:bdM 2 most ≤ 30:=by
  obtain rfl | rfl:most = 2 ∨ most = 3:=by omega
  · decide
  · decide
 have H:=hid h
 clear h hH hb hS
 go_enter Tryz.func37,Tryz.ntmps37
 go_wp2_with fail
 refine H.out.mono ?_
 rintro e w1 ⟨y,a,c,rfl,h1,h2,h3,h4,h5,h6⟩
 have h1:=hid h1
 have h2:=hid h2
 have h5:=hid h5
 have h6:=hid h6
 go_wp2_with fail
 go_ret
 exact ⟨y,a,c,rfl,h1.out,h2.out,h3,by omega,h5.out,h6.out⟩
theorem Made_any0 (most b:Nat) (S:Nat→Prop) (w:World) (h2:2 ≤ most) (hm:most ≤ 3) (hH:Hp b S w) (hb:b < w.heap.size) (hS:∀ q,S q→q < w.heap.size) :
 Calls Tryz.prog 37 #[.pointer (some ⟨b,0,none⟩), .int .i64 most] w fun e w'=>∃ y a c,e = .returned (.slice a y.len c)∧FSl (Rg w.heap.size w'.heap.size) w' (.slice a y.len c) y∧OkF 1 y∧y.len ≤ 6∧y.cnt ≤ 30∧Hp b S w'∧Keep (· = b) w w':=
 (Made_row0 most b S w h2 hm hH hb hS).mono fun _ _ ⟨y,a,c,he,h1,h2⟩=>⟨y,a,c,he,h1.fsl,h2⟩
end Go.Proofs.LF
