/- Parts of the proof of a law of layer 11 (file): LfW50. The conditions stand in each theorem. -/
import Derived.Test.YtadkpjgpefcphaaGreatDoorProg
import Derived.Test.YtadkpjgpefcphaaGreatDoorNoaw
set_option linter.all false
set_option linter.unusedVariables false
set_option linter.unusedSimpArgs false
namespace Go.Proofs.LF
open Go.RowKit Go.Sort
set_option maxHeartbeats 40000000
set_option maxRecDepth 100000
attribute [local go_sem] bs_toList bs_size bs_get
theorem AnyH_two {F:Fence} {n:Nat} {P:Program} {ops:Array Oper} {Q:Exit→Act→World→Prop} {md:Region.Mode} {S:World→Prop} {i j:Nat} {oi oj:Oper} {fuel:Nat} {listed:Array Bool} {a:Act} {w:World} (hr:Region.ready md ops listed = [i,j]) (hi:ops[i]? = some oi) (hj:ops[j]? = some oj)
 (hwi:Region.wanted oi (yielded ops a.tmps) = true) (hwj:Region.wanted oj (yielded ops a.tmps) = true)
 (h1:∀ K:Act→World→Prop,(∀ a w,S w∧AnyH F n P md ops Q S fuel (listed.setIfInBounds i true) a w→K a w)→Oper.wpIn F n P oi a w K Q)
 (h2:∀ K:Act→World→Prop,(∀ a w,S w∧AnyH F n P md ops Q S fuel (listed.setIfInBounds j true) a w→K a w)→Oper.wpIn F n P oj a w K Q):AnyH F n P md ops Q S (fuel + 1) listed a w:=
 ⟨fun h0=>(by rw [hr] at h0;cases h0),hr ▸ fun k hk=>by
   simp only [List.mem_cons,List.not_mem_nil,or_false] at hk
   rcases hk with rfl | rfl
   · unfold wpOpIn
     rw [hi]
     simp only [hwi,if_true]
     exact h1 _ fun _ _ h=>h
   · unfold wpOpIn
     rw [hj]
     simp only [hwj,if_true]
     exact h2 _ fun _ _ h=>h⟩
theorem awake_any (w:World) (ht:Pow w):Calls Tryz.prog 18 #[] w fun e w'=>e = .returned (.bool true)∧Below w.heap.size w w':=by
 have HT:=hid ht
 clear ht
 go_enter Tryz.func18,Tryz.ntmps18
 go_wp2_with fail
 refine (One_any 7 w).mono ?_
 rintro e w1 ⟨g1,rfl,hF1,hb1⟩
 have HB1:=hid hb1
 have P1:=hid (print7 _ 2 _ w1 hF1 (fun b hb=>hb.2) (HT.out.below hb1))
 clear hF1 hb1
 go_wp2_with fail
 refine P1.out.mono ?_
 rintro e w2 ⟨rfl,hb2⟩
 have HB2:=hid (HB1.out.trans (hb2.mono HB1.out.size))
 clear hb2
 go_wp2_with fail
 refine (parse1 w2).mono ?_
 rintro e w3 ⟨a3,c3,rfl,hF3,hb3⟩
 have HB3:=hid (HB2.out.trans (hb3.mono HB2.out.size))
 have HF3:=hid hF3
 clear hF3 hb3
 go_wp2_with fail
 refine (parse2 w3).mono ?_
 rintro e w4 ⟨a4,c4,rfl,hb4⟩
 have HB4:=hid (HB3.out.trans (hb4.mono HB3.out.size))
 have HF4:=hid (HF3.out.agree (Ag_b hb4 (fun b hb=>hb.2)))
 have hz4:=hb4.size
 clear hb4
 go_wp2_with fail
 refine (One_any 7 w4).mono ?_
 rintro e w5 ⟨g5,rfl,hF5,hb5⟩
 have HB5:=hid (HB4.out.trans (hb5.mono HB4.out.size))
 have A5:=hid (alike7 a3 (some ⟨g5,0,none⟩) c3 2 (fun b=>b < w5.heap.size) w5 ((HF4.out.agree (Ag_b hb5 (fun b hb=>by have:=hb.2;omega))).wide (fun b hb=>by have:=hb.2;have:=hb5.size;omega)) (hF5.wide (fun b hb=>hb.2)) (fun b hb=>hb))
 clear hF5 hb5
 go_wp2_with fail
 refine A5.out.mono ?_
 rintro e w6 ⟨rfl,hb6⟩
 have HB6:=hid (HB5.out.trans (hb6.mono HB5.out.size))
 clear hb6
 go_wp2_with fail
 refine (One_any 7 w6).mono ?_
 rintro e w7 ⟨g7,rfl,hF7,hb7⟩
 have HB7:=hid (HB6.out.trans (hb7.mono HB6.out.size))
 have HF7:=hid hF7
 clear hF7 hb7
 go_wp2_with fail
 refine (One_any 8 w7).mono ?_
 rintro e w8 ⟨g8,rfl,hF8,hb8⟩
 have HB8:=hid (HB7.out.trans (hb8.mono HB7.out.size))
 have D8:=hid (diff78 (some ⟨g7,0,none⟩) (some ⟨g8,0,none⟩) 2 2 (fun b=>b < w8.heap.size) w8 ((HF7.out.agree (Ag_b hb8 (fun b hb=>hb.2))).wide (fun b hb=>by have:=hb.2;have:=hb8.size;omega)) ((FSl.pre (m:=1) hF8 (by decide)).wide (fun b hb=>hb.2)) (fun b hb=>hb) (HT.out.below HB8.out))
 clear hF8 hb8
 go_wp2_with fail
 refine D8.out.mono ?_
 rintro e w9 ⟨a9,c9,rfl,hC9,hb9⟩
 have HB9:=hid (HB8.out.trans (hb9.mono HB8.out.size))
 have HC9:=hid hC9
 clear hC9 hb9
 go_wp2_with fail
 refine (One_any 7 w9).mono ?_
 rintro e w10 ⟨g10,rfl,hF10,hb10⟩
 have HB10:=hid (HB9.out.trans (hb10.mono HB9.out.size))
 have HF10:=hid hF10
 have HC10:=hid (LSl.agree HC9.out (Ag_b hb10 (fun b hb=>hb.2)))
 have hz10:=hb10.size
 clear hF10 hb10 HF7 HF4 HF3 HC9 P1 A5 D8
 go_wp2_with fail
 have hba:Below w10.heap.size w10 (w10.alloc (.cells #[.int .i64 3] 3)):=(Below.refl _ _).alloc (nl_ _) _
 refine (K_any _ 3 w10.heap.size 1 _ (cg_ (heap_alloc_new w10 _) (k:=0) rfl) (by simp) (nl_ _)).mono ?_
 rintro e w11 ⟨rfl,hb11⟩
 have hb11':=hba.trans (hb11.mono (by simp))
 have HB11:=hid (HB10.out.trans (hb11'.mono HB10.out.size))
 have HL11:=hid hb11'
 clear hb11 hba hb11'
 go_wp2_with fail
 have hba:Below w11.heap.size w11 (w11.alloc (.cells #[.int .i64 5] 3)):=(Below.refl _ _).alloc (nl_ _) _
 refine (K_any _ 5 w11.heap.size 1 _ (cg_ (heap_alloc_new w11 _) (k:=0) rfl) (by simp) (nl_ _)).mono ?_
 rintro e w12 ⟨rfl,hb12⟩
 have hb12':=hba.trans (hb12.mono (by simp))
 have HB12:=hid (HB11.out.trans (hb12'.mono HB11.out.size))
 have HL12:=hid (HL11.out.trans (hb12'.mono HL11.out.size))
 clear hb12 hba hb12'
 go_wp2_with fail
 have hk12:=heap_alloc_new w12 (.cells #[.string ⟨#[98,101,100]⟩, .bool true, .int .i64 3, .string ⟨#[114,97,107,101,100]⟩, .bool true, .int .i64 5] 71)
 have hbk:Below w12.heap.size w12 (w12.alloc (.cells #[.string ⟨#[98,101,100]⟩, .bool true, .int .i64 3, .string ⟨#[114,97,107,101,100]⟩, .bool true, .int .i64 5] 71)):=(Below.refl _ _).alloc (nl_ _) _
 have hl12:=HL12.out.trans (hbk.mono HL12.out.size)
 have hP12:Pth (fun b=>b < w12.heap.size + 1) (w12.alloc (.cells #[.string ⟨#[98,101,100]⟩, .bool true, .int .i64 3, .string ⟨#[114,97,107,101,100]⟩, .bool true, .int .i64 5] 71)) (.slice (some ⟨w12.heap.size,0,none⟩) 2 2) [bed3,raked5]:=slc_block (k:=3) (n:=2) hk12 (by omega) rfl (by simp [maxLen])
 have G12:=hid (get7 (some ⟨g10,0,none⟩) (some ⟨w12.heap.size,0,none⟩) 2 2 _ _ _ (HF10.out.agree (Ag_b hl12 (fun b hb=>hb.2))) (fun b hb=>by have:=hb.2;have:=hl12.size;omega) hP12 (fun b hb=>by simpa using hb))
 have HL12b:=hid hl12
 clear hk12 hbk hP12 hl12
 refine G12.out.mono ?_
 rintro e w13 ⟨an,cn,ab,cb,rfl,hI13,hb13⟩
 have hb13':=HL12b.out.trans (hb13.mono HL12b.out.size)
 have HL13:=hid hb13'
 have HB13:=hid (HB10.out.trans (hb13'.mono HB10.out.size))
 have HI13:=hid hI13
 have hz13:=hb13'.size
 have hz13b:w12.heap.size + 1 ≤ w13.heap.size:=by have:=hb13.size;simpa using this
 clear hI13 hb13 hb13' G12 HF10 HL12 HL12b HL11
 go_wp2_with fail
 have HN13:=hid (heap_alloc_new w13 (.cells #[.string ⟨#[114,97,107,101,100]⟩, .slice an 2 cn, .slice ab 0 cb] 85))
 have hbx:Below w13.heap.size w13 (w13.alloc (.cells #[.string ⟨#[114,97,107,101,100]⟩, .slice an 2 cn, .slice ab 0 cb] 85)):=(Below.refl _ _).alloc (nl_ _) _
 refine (One_any 7 _).mono ?_
 rintro e w14 ⟨g14,rfl,hF14,hb14⟩
 have hz14:=hb14.size
 simp only [World.size_alloc] at hz14
 have hb14':=hbx.trans (hb14.mono (by simp))
 have HL14:=hid hb14'
 have HB14:=hid (HB13.out.trans (hb14'.mono HB13.out.size))
 have HN14:=hid ((hb14.block w13.heap.size (by simp)).trans HN13.out)
 have HF14:=hid (hF14.wide (S':=fun b=>b < w14.heap.size) (fun b hb=>hb.2))
 clear hF14 hb14 hb14' hbx
 go_wp2_with fail
 have hba:Below w14.heap.size w14 (w14.alloc (.cells #[.int .i64 3] 3)):=(Below.refl _ _).alloc (nl_ _) _
 refine (K_any _ 3 w14.heap.size 1 _ (cg_ (heap_alloc_new w14 _) (k:=0) rfl) (by simp) (nl_ _)).mono ?_
 rintro e w15 ⟨rfl,hb15⟩
 have hb15':=hba.trans (hb15.mono (by simp))
 have HL15:=hid hb15'
 have hz15:=hb15'.size
 clear hb15 hba hb15'
 go_wp2_with fail
 have hk15:=heap_alloc_new w15 (.cells #[.string ⟨#[98,101,100]⟩, .bool true, .int .i64 3] 71)
 have hk15b:((w15.alloc (.cells #[.string ⟨#[98,101,100]⟩, .bool true, .int .i64 3] 71)).alloc (.cells #[.int .i64 6] 3)).heap[w15.heap.size]? = _:=(heap_alloc_old _ _ (by simp)).trans hk15
 have hk6:=heap_alloc_new (w15.alloc (.cells #[.string ⟨#[98,101,100]⟩, .bool true, .int .i64 3] 71)) (.cells #[.int .i64 6] 3)
 simp only [World.size_alloc] at hk6
 have hbk:Below w15.heap.size w15 ((w15.alloc (.cells #[.string ⟨#[98,101,100]⟩, .bool true, .int .i64 3] 71)).alloc (.cells #[.int .i64 6] 3)):=((Below.refl _ _).alloc (nl_ _) _).alloc (by simp) _
 have hl15:=HL15.out.trans (hbk.mono hz15)
 have hP15:Pth (fun b=>b < w15.heap.size + 2) ((w15.alloc (.cells #[.string ⟨#[98,101,100]⟩, .bool true, .int .i64 3] 71)).alloc (.cells #[.int .i64 6] 3)) (.slice (some ⟨w15.heap.size,0,none⟩) 1 1) [bed3]:=slc_block (k:=3) (n:=1) hk15b (by omega) rfl (by simp [maxLen])
 have hI15:Ints (fun b=>b < w15.heap.size + 2) ((w15.alloc (.cells #[.string ⟨#[98,101,100]⟩, .bool true, .int .i64 3] 71)).alloc (.cells #[.int .i64 6] 3)) (.slice (some ⟨w15.heap.size + 1,0,none⟩) 1 1) [6]:=slc_block (k:=1) (n:=1) hk6 (by omega) rfl (by simp [maxLen])
 have G15:=hid (put7 (some ⟨g14,0,none⟩) (some ⟨w15.heap.size,0,none⟩) (some ⟨w15.heap.size + 1,0,none⟩) 2 1 1 _ _ _ (HF14.out.agree (Ag_b hl15 (fun b hb=>hb))) (fun b hb=>by have:=hl15.size;omega) hP15 hI15 (fun b hb=>by simpa using hb))
 have HL15b:=hid hl15
 clear hk15 hk15b hk6 hbk hP15 hI15 hl15
 refine G15.out.mono ?_
 rintro e w16 ⟨a16,c16,rfl,hF16,hb16⟩
 have hb16':=HL15b.out.trans (hb16.mono HL15b.out.size)
 have HL16:=hid hb16'
 have HB16:=hid (HB14.out.trans (hb16'.mono HB14.out.size))
 have HF16:=hid (hF16.wide (S':=fun b=>b < w16.heap.size) (fun b hb=>hb.2))
 have HN16:=hid ((hb16'.block w13.heap.size (by omega)).trans HN14.out)
 have hz16:=hb16'.size
 clear hF16 hb16 hb16' G15 HF14 HL15 HL15b
 go_wp2_with fail
 refine (One_any 7 w16).mono ?_
 rintro e w17 ⟨g17,rfl,hF17,hb17⟩
 have HL17:=hid hb17
 have hz17:=hb17.size
 have HF17:=hid (hF17.wide (S':=fun b=>b < w17.heap.size) (fun b hb=>hb.2))
 clear hF17 hb17
 go_wp2_with fail
 refine (One_any 7 w17).mono ?_
 rintro e w18 ⟨g18,rfl,hF18,hb18⟩
 have hz18:=hb18.size
 have hl18:=HL17.out.trans (hb18.mono hz17)
 have HB18:=hid (HB16.out.trans (hl18.mono HB16.out.size))
 have hsuf:=FSl.suf (m:=1) hF18 (by decide)
 have J18:=hid (join7 (some ⟨g17,0,none⟩) (some ⟨g18,0 + 1 * 3,none⟩) a16 2 1 c16 (fun b=>b < w18.heap.size) w18 ((HF17.out.agree (Ag_b hb18 (fun b hb=>hb))).wide (fun b hb=>by omega)) (hsuf.wide (fun b hb=>hb.2)) ((HF16.out.agree (Ag_b hl18 (fun b hb=>hb))).wide (fun b hb=>by omega)) (fun b hb=>hb) (HT.out.below HB18.out))
 have HL18:=hid hl18
 clear hF18 hb18 hl18 hsuf HF17 HF16 HL17
 go_wp2_with fail
 refine J18.out.mono ?_
 rintro e w19 ⟨aj,cj,aq,cq,rfl,hFj,hPj,hb19⟩
 have hl19:=HL18.out.trans (hb19.mono (by omega))
 have hz19:w16.heap.size ≤ w19.heap.size:=by have:=hl19.size;omega
 have HB19:=hid (HB16.out.trans (hl19.mono HB16.out.size))
 have hl16:=HL16.out.trans (hl19.mono hz16)
 have hl14:=HL14.out.trans (hl16.mono (by omega))
 have hl13:=HL13.out.trans (hl14.mono hz13)
 have hw14:=hl14.size
 have hC19:ChSl (fun b=>b < w19.heap.size) w19 (.slice a9 2 c9) difV:=LSl.wide (LSl.agree HC10.out (Ag_b hl13 (fun b hb=>by have:=hb.2;omega))) (fun b hb=>by have:=hb.2;omega)
 have hI19:Ints (fun b=>b < w19.heap.size) w19 (.slice an 2 cn) [5,7]:=(HI13.out.agree (Ag_b hl14 (fun b hb=>hb.2))).wide (fun b hb=>by have:=hb.2;omega)
 have hN19:=(hl19.block w13.heap.size (by omega)).trans HN16.out
 have n1:w19.cell? ⟨w13.heap.size,1,none⟩ = some (.slice an 2 cn):=cg_ hN19 (k:=1) rfl
 obtain ⟨aX,cX,heX,hc9,hc9m,hatC⟩:=hC19.at
 obtain ⟨rfl,rfl⟩:a9 = aX∧c9 = cX:=by cases heX;exact ⟨rfl,rfl⟩
 obtain ⟨gl,ol,cs0,rfl,hgl,⟨ap,cp,ao,co,ax,cx,rfl,hp0,ho0,hx0⟩,hcell0⟩:=hatC 0 (by decide)
 obtain ⟨gl',ol',cs1,he1,_,⟨ap1,cp1,ao1,co1,ax1,cx1,rfl,_,_,_⟩,hcell1⟩:=hatC 1 (by decide)
 obtain ⟨rfl,rfl⟩:gl = gl'∧ol = ol':=by cases he1;exact ⟨rfl,rfl⟩
 have l0:w19.cell? ⟨gl,ol,none⟩ = some (.slice ap 2 cp):=hcell0 0 _ rfl
 have l4:w19.cell? ⟨gl,ol + 4,none⟩ = some (.slice ax 2 cx):=hcell0 4 _ rfl
 have l7:w19.cell? ⟨gl,ol + 5 + 2,none⟩ = some (.bool false):=hcell1 2 _ rfl
 obtain ⟨aY,cY,heY,hcq,hcqm,hatP⟩:=hPj.at
 obtain ⟨rfl,rfl⟩:aq = aY∧cq = cY:=by cases heY;exact ⟨rfl,rfl⟩
 obtain ⟨gq,oq,cs2,rfl,hgq,⟨ar,cr,rfl,hpq⟩,hcellq⟩:=hatP 0 (by decide)
 have p0:w19.cell? ⟨gq,oq,none⟩ = some (.slice ar 2 cr):=hcellq 0 _ rfl
 have hX19:Ints (fun b=>b < w19.heap.size) w19 (.slice ax 2 cx) [5,8]:=hx0
 have hP19:Pth (fun b=>b < w19.heap.size) w19 (.slice ar 2 cr) [bed3,raked6]:=hpq.wide (fun b hb=>hb.2)
 have hJ19:FSl (fun b=>b < w19.heap.size) w19 (.slice aj 1 cj) oneS:=hFj.wide (fun b hb=>hb.2)
 have hgl':gl < w19.heap.size:=hgl
 have hgq':gq < w19.heap.size:=hgq.2
 have hn':w13.heap.size < w19.heap.size:=by omega
 have ALL:∀ W,Below w19.heap.size w19 W→(W.cell? ⟨w13.heap.size,1,none⟩ = some (.slice an 2 cn)∧W.cell? ⟨gl,ol,none⟩ = some (.slice ap 2 cp)∧W.cell? ⟨gl,ol + 4,none⟩ = some (.slice ax 2 cx)∧W.cell? ⟨gl,ol + 5 + 2,none⟩ = some (.bool false)∧W.cell? ⟨gq,oq,none⟩ = some (.slice ar 2 cr)) ∧
  Ints (fun b=>b < w19.heap.size) W (.slice an 2 cn) [5,7]∧Ints (fun b=>b < w19.heap.size) W (.slice ax 2 cx) [5,8]∧Pth (fun b=>b < w19.heap.size) W (.slice ar 2 cr) [bed3,raked6]∧FSl (fun b=>b < w19.heap.size) W (.slice aj 1 cj) oneS:=fun W hW=>
  ⟨⟨bc_ hW hn' n1,bc_ hW hgl' l0,bc_ hW hgl' l4,bc_ hW hgl' l7,bc_ hW hgq' p0⟩,hI19.agree (Ag_b hW (fun b hb=>hb)),hX19.agree (Ag_b hW (fun b hb=>hb)),hP19.agree (Ag_b hW (fun b hb=>hb)),hJ19.agree (Ag_b hW (fun b hb=>hb))⟩
 have HALL:=hid ALL
 unfold maxLen at hc9m hcqm
 clear ALL hJ19 hP19 hX19 p0 l0 l4 l7 n1 hcellq hcell0 hcell1 hatC hatP hpq hgq hgl he1 heX heY hp0 ho0 hx0 hC19 hI19 hN19 hl13 hl14 hl16 hl19 hb19 hFj hPj J18 HL18 HN16 HN14 HN13 HL16 HL14 HL13 HC10 HI13
 clear HB1 HB2 HB3 HB4 HB5 HB6 HB7 HB8 HB9 HB10 HB11 HB12 HB13 HB14 HB16 HB18
 go_wp2_with fail
 simp only [List.append_eq,List.cons_append,List.nil_append]
 refine (wpIn_wide (n:=9)).1 ?_
 refine region_held (fun w'=>w'.cell? ⟨w13.heap.size,1,none⟩ = some (.slice an 2 cn)∧w'.cell? ⟨gl,ol,none⟩ = some (.slice ap 2 cp)∧w'.cell? ⟨gl,ol + 4,none⟩ = some (.slice ax 2 cx)∧w'.cell? ⟨gl,ol + 5 + 2,none⟩ = some (.bool false)∧w'.cell? ⟨gq,oq,none⟩ = some (.slice ar 2 cr)) (by kernel_rfl) ?_
 have hS0:=(HALL.out w19.drew (Below.refl _ _).drew).1
 refine tkY 0 98 (.int .i64 0) rfl rfl hS0 (fun w' hs=>?_) ?_
 · go_simp
 refine tkY 1 99 (.bool true) rfl rfl hS0 (fun w' hs=>?_) ?_
 · go_simp
 refine tkY 2 100 (.bool true) rfl rfl hS0 (fun w' hs=>?_) ?_
 · go_simp
 refine tkY 3 101 (.int .i64 0) rfl rfl hS0 (fun w' hs=>?_) ?_
 · go_simp
 refine tkY 4 102 (.bool true) rfl rfl hS0 (fun w' hs=>?_) ?_
 · go_simp
 refine tkY 5 103 (.bool true) rfl rfl hS0 (fun w' hs=>?_) ?_
 · go_simp
 refine tkY 6 104 (.bool true) rfl rfl hS0 (fun w' hs=>?_) ?_
 · go_simp
 refine tkY 7 105 (.int .i64 0) rfl rfl hS0 (fun w' hs=>?_) ?_
 · go_simp
 refine tkY 8 106 (.bool true) rfl rfl hS0 (fun w' hs=>?_) ?_
 · go_simp
 refine tkY 9 107 (.bool true) rfl rfl hS0 (fun w' hs=>?_) ?_
 · go_simp
 refine tkY 10 108 (.bool true) rfl rfl hS0 (fun w' hs=>?_) ?_
 · go_simp
 refine tkY 11 109 (.int .i64 0) rfl rfl hS0 (fun w' hs=>?_) ?_
 · go_simp
 refine tkY 12 110 (.bool true) rfl rfl hS0 (fun w' hs=>?_) ?_
 · go_simp
 refine tkY 13 111 (.bool true) rfl rfl hS0 (fun w' hs=>?_) ?_
 · go_simp
 refine tkY 14 112 (.bool true) rfl rfl hS0 (fun w' hs=>?_) ?_
 · go_simp
 refine tkY 15 113 (.slice (some ⟨gl,ol,none⟩) 2 c9) rfl rfl hS0 (fun w' hs=>?_) ?_
 · go_simp
 refine tkY 16 114 (.int .i64 2) rfl rfl hS0 (fun w' hs=>?_) ?_
 · go_simp
 refine tkY 17 115 (.bool true) rfl rfl hS0 (fun w' hs=>?_) ?_
 · go_simp
 refine tkY 18 116 (.bool true) rfl rfl hS0 (fun w' hs=>?_) ?_
 · go_simp
 refine tkY 19 117 (.bool true) rfl rfl hS0 (fun w' hs=>?_) ?_
 · go_simp
 refine tkY 20 118 (.slice (some ⟨gl,ol,none⟩) 2 c9) rfl rfl hS0 (fun w' hs=>?_) ?_
 · go_simp
 refine tkY 21 119 (.pointer (some ⟨gl,ol,none⟩)) rfl rfl hS0 (fun w' hs=>?_) ?_
 · go_simp
 refine tkY 22 120 (.pointer (some ⟨gl,ol,none⟩)) rfl rfl hS0 (fun w' hs=>?_) ?_
 · go_simp
 refine tkY 23 121 (.slice ap 2 cp) rfl rfl hS0 (fun w' hs=>?_) ?_
 · obtain ⟨q0,q1,q2,q3,q4⟩:=hs
   go_simp
 refine tkY 24 122 (.int .i64 2) rfl rfl hS0 (fun w' hs=>?_) ?_
 · go_simp
 refine tkY 25 123 (.bool true) rfl rfl hS0 (fun w' hs=>?_) ?_
 · go_simp
 refine tkY 26 124 (.bool true) rfl rfl hS0 (fun w' hs=>?_) ?_
 · go_simp
 refine tkY 27 125 (.bool true) rfl rfl hS0 (fun w' hs=>?_) ?_
 · go_simp
 refine tkY 28 126 (.slice (some ⟨gl,ol,none⟩) 2 c9) rfl rfl hS0 (fun w' hs=>?_) ?_
 · go_simp
 refine tkY 29 127 (.pointer (some ⟨gl,ol,none⟩)) rfl rfl hS0 (fun w' hs=>?_) ?_
 · go_simp
 refine tkY 30 128 (.pointer (some ⟨gl,ol + 4,none⟩)) rfl rfl hS0 (fun w' hs=>?_) ?_
 · go_simp
 refine tkY 31 129 (.slice ax 2 cx) rfl rfl hS0 (fun w' hs=>?_) ?_
 · obtain ⟨q0,q1,q2,q3,q4⟩:=hs
   go_simp
 refine AnyH_one (i:=32) (by kernel_rfl) rfl (by kernel_rfl) (fun K hK=>?_)
 go_simp
 have hbA:Below w19.heap.size w19 (w19.drew.alloc (.cells #[.int .i64 5, .int .i64 8] 3)):=(Below.refl _ _).drew.alloc (nl_ _) _
 have hA:=HALL.out _ hbA
 have hkA:=heap_alloc_new w19.drew (.cells #[.int .i64 5, .int .i64 8] 3)
 have iA:Ints (fun b=>b < w19.heap.size + 1) (w19.drew.alloc (.cells #[.int .i64 5, .int .i64 8] 3)) (.slice (some ⟨w19.heap.size,0,none⟩) 2 2) [5,8]:=slc_block (k:=1) (n:=2) hkA (by simp) rfl (by simp [maxLen])
 have EA:=hid (eqInts_any [5,8] [5,8] ax (some ⟨w19.heap.size,0,none⟩) cx 2 (fun b=>b < w19.heap.size + 1) _ (hA.2.2.1.wide (fun b hb=>by omega)) iA (by decide) (by decide))
 rw [decide_eq_true rfl] at EA
 have HBA:=hid hbA
 refine hK _ _ ⟨hA.1,?_⟩
 clear hK hA hkA iA hbA
 refine AnyH_one (i:=33) (by kernel_rfl) rfl (by kernel_rfl) (fun K hK=>?_)
 go_simp
 refine ⟨trivial,(callsIn_wide.2 EA.out).mono ?_⟩
 rintro e w20 ⟨rfl,hb20⟩
 have hl20:=HBA.out.trans (hb20.mono (by simp))
 have hS20:=(HALL.out _ hl20).1
 have hz20:=hl20.size
 have HL20:=hid hl20
 refine hK _ _ ⟨hS20,?_⟩
 clear hK hb20 hl20 EA HBA
 refine tkY 34 132 (.bool true) rfl rfl hS20 (fun w' hs=>?_) ?_
 · go_simp
 refine tkY 35 133 (.bool true) rfl rfl hS20 (fun w' hs=>?_) ?_
 · go_simp
 refine tkY 36 134 (.slice (some ⟨gl,ol,none⟩) 2 c9) rfl rfl hS20 (fun w' hs=>?_) ?_
 · go_simp
 refine tkY 37 135 (.pointer (some ⟨gl,ol + 5,none⟩)) rfl rfl hS20 (fun w' hs=>?_) ?_
 · go_simp
 refine tkY 38 136 (.pointer (some ⟨gl,ol + 5 + 2,none⟩)) rfl rfl hS20 (fun w' hs=>?_) ?_
 · go_simp
 refine tkY 39 137 (.bool false) rfl rfl hS20 (fun w' hs=>?_) ?_
 · obtain ⟨q0,q1,q2,q3,q4⟩:=hs
   go_simp
 refine tkY 40 138 (.bool true) rfl rfl hS20 (fun w' hs=>?_) ?_
 · go_simp
 refine tkY 41 139 (.bool true) rfl rfl hS20 (fun w' hs=>?_) ?_
 · go_simp
 refine tkY 42 140 (.bool true) rfl rfl hS20 (fun w' hs=>?_) ?_
 · go_simp
 refine tkY 43 141 (.pointer (some ⟨w13.heap.size,1,none⟩)) rfl rfl hS20 (fun w' hs=>?_) ?_
 · go_simp
 refine tkY 44 142 (.slice an 2 cn) rfl rfl hS20 (fun w' hs=>?_) ?_
 · obtain ⟨q0,q1,q2,q3,q4⟩:=hs
   go_simp
 refine AnyH_one (i:=45) (by kernel_rfl) rfl (by kernel_rfl) (fun K hK=>?_)
 go_simp
 have hbA:Below w20.heap.size w20 (w20.alloc (.cells #[.int .i64 5, .int .i64 7] 3)):=(Below.refl _ _).alloc (nl_ _) _
 have hlA:=HL20.out.trans (hbA.mono hz20)
 have hA:=HALL.out _ hlA
 have hkA:=heap_alloc_new w20 (.cells #[.int .i64 5, .int .i64 7] 3)
 have iA:Ints (fun b=>b < w20.heap.size + 1) (w20.alloc (.cells #[.int .i64 5, .int .i64 7] 3)) (.slice (some ⟨w20.heap.size,0,none⟩) 2 2) [5,7]:=slc_block (k:=1) (n:=2) hkA (by simp) rfl (by simp [maxLen])
 have EA:=hid (eqInts_any [5,7] [5,7] an (some ⟨w20.heap.size,0,none⟩) cn 2 (fun b=>b < w20.heap.size + 1) _ (hA.2.1.wide (fun b hb=>by omega)) iA (by decide) (by decide))
 rw [decide_eq_true rfl] at EA
 have HLA:=hid hlA
 refine hK _ _ ⟨hA.1,?_⟩
 clear hK hA hkA iA hbA hlA
 refine AnyH_one (i:=46) (by kernel_rfl) rfl (by kernel_rfl) (fun K hK=>?_)
 go_simp
 refine ⟨trivial,(callsIn_wide.2 EA.out).mono ?_⟩
 rintro e w21 ⟨rfl,hb21⟩
 have hl21:=HLA.out.trans (hb21.mono (by simp;omega))
 have hS21:=(HALL.out _ hl21).1
 have hz21:=hl21.size
 have HL21:=hid hl21
 refine hK _ _ ⟨hS21,?_⟩
 clear hK hb21 hl21 EA HLA
 refine tkY 47 145 (.bool true) rfl rfl hS21 (fun w' hs=>?_) ?_
 · go_simp
 refine tkY 48 146 (.bool true) rfl rfl hS21 (fun w' hs=>?_) ?_
 · go_simp
 refine tkY 49 147 (.slice aj 1 cj) rfl rfl hS21 (fun w' hs=>?_) ?_
 · go_simp
 refine AnyH_one (i:=50) (by kernel_rfl) rfl (by kernel_rfl) (fun K hK=>?_)
 go_simp
 refine ⟨trivial,(callsIn_wide.2 (One_any 7 w21)).mono ?_⟩
 rintro e w22 ⟨g22,rfl,hF22,hb22⟩
 have hl22:=HL21.out.trans (hb22.mono hz21)
 have h22:=HALL.out _ hl22
 have hS22:=h22.1
 have hz22:=hl22.size
 have HL22:=hid hl22
 have hsuf:=FSl.suf (m:=1) hF22 (by decide)
 have E22:=hid ((alike_any 4).2 oneS oneS aj cj (some ⟨g22,0 + 1 * 3,none⟩) (2 - 1) (fun b=>b < w22.heap.size) w22 (by decide) (h22.2.2.2.2.wide (fun b hb=>by omega)) (hsuf.wide (fun b hb=>hb.2)) (fun b hb=>hb) (by decide) (by decide) (by simp [oneS,Fo.Sm,soldN,Fo.len]) (by simp [oneS,Fo.Sm,soldN,Fo.len]))
 rw [decide_eq_true rfl] at E22
 refine hK _ _ ⟨hS22,?_⟩
 clear hK hb22 hl22 hF22 hsuf h22
 refine tkY 51 149 (.slice (some ⟨g22,3,none⟩) 1 1) rfl rfl hS22 (fun w' hs=>?_) ?_
 · go_simp
 refine AnyH_one (i:=52) (by kernel_rfl) rfl (by kernel_rfl) (fun K hK=>?_)
 go_simp
 refine ⟨trivial,(callsIn_wide.2 E22.out).mono ?_⟩
 rintro e w23 ⟨rfl,hb23⟩
 have hl23:=HL22.out.trans (hb23.mono hz22)
 have h23:=HALL.out _ hl23
 have hS23:=h23.1
 have hz23:=hl23.size
 have HL23:=hid hl23
 have HP23:=hid h23.2.2.2.1
 refine hK _ _ ⟨hS23,?_⟩
 clear hK hb23 hl23 E22 h23
 refine tkY 53 151 (.bool true) rfl rfl hS23 (fun w' hs=>?_) ?_
 · go_simp
 refine tkY 54 152 (.bool true) rfl rfl hS23 (fun w' hs=>?_) ?_
 · go_simp
 refine tkY 55 153 (.slice (some ⟨gq,oq,none⟩) 1 cq) rfl rfl hS23 (fun w' hs=>?_) ?_
 · go_simp
 refine tkY 56 154 (.int .i64 1) rfl rfl hS23 (fun w' hs=>?_) ?_
 · go_simp
 refine tkY 57 155 (.bool true) rfl rfl hS23 (fun w' hs=>?_) ?_
 · go_simp
 refine tkY 58 156 (.bool true) rfl rfl hS23 (fun w' hs=>?_) ?_
 · go_simp
 refine tkY 59 157 (.bool true) rfl rfl hS23 (fun w' hs=>?_) ?_
 · go_simp
 refine tkY 60 158 (.slice (some ⟨gq,oq,none⟩) 1 cq) rfl rfl hS23 (fun w' hs=>?_) ?_
 · go_simp
 refine tkY 61 159 (.pointer (some ⟨gq,oq,none⟩)) rfl rfl hS23 (fun w' hs=>?_) ?_
 · go_simp
 refine tkY 62 160 (.slice ar 2 cr) rfl rfl hS23 (fun w' hs=>?_) ?_
 · obtain ⟨q0,q1,q2,q3,q4⟩:=hs
   go_simp
 have hSW:∀ W,Below w23.heap.size w23 W→(W.cell? ⟨w13.heap.size,1,none⟩ = some (.slice an 2 cn)∧W.cell? ⟨gl,ol,none⟩ = some (.slice ap 2 cp)∧W.cell? ⟨gl,ol + 4,none⟩ = some (.slice ax 2 cx)∧W.cell? ⟨gl,ol + 5 + 2,none⟩ = some (.bool false)∧W.cell? ⟨gq,oq,none⟩ = some (.slice ar 2 cr)):=fun W hW=>(HALL.out W (HL23.out.trans (hW.mono hz23))).1
 have HSW:=hid hSW
 clear hSW
 have hb0:Below w23.heap.size w23 w23:=Below.refl _ _
 refine AnyH_two (i:=63) (j:=65) (by kernel_rfl) rfl rfl (by kernel_rfl) (by kernel_rfl) (fun K hK=>?_) (fun K hK=>?_)
 · go_simp
   obtain ⟨w1,hw1⟩:∃ w1,w23.alloc (.cells #[.int .i64 3] 3) = w1:=⟨_,rfl⟩
   have hl1:Below w23.heap.size w23 w1:=by rw [← hw1];exact hb0.alloc (nl_ _) _
   have k1:w1.cell? ⟨w23.heap.size,0,none⟩ = some (.int .i64 3):=by rw [← hw1];exact cg_ (heap_alloc_new w23 _) (k:=0) rfl
   have z1:w1.heap.size = w23.heap.size + 1:=by rw [← hw1];simp
   have Z1:=hid z1
   have HL1:=hid hl1
   have K1:=hid k1
   rw [hw1]
   refine hK _ _ ⟨HSW.out _ hl1,?_⟩
   clear hK hw1 hl1 k1 z1
   refine AnyH_two (i:=64) (j:=65) (by kernel_rfl) rfl rfl (by kernel_rfl) (by kernel_rfl) (fun K hK=>?_) (fun K hK=>?_)
   · go_simp
     refine ⟨trivial,(callsIn_wide.2 (K_any _ 3 w23.heap.size 1 w1 K1.out (by have:=Z1.out;omega) (nl_ _))).mono ?_⟩
     rintro e w24 ⟨rfl,hb24⟩
     have hl24:=HL1.out.trans (hb24.mono HL1.out.size)
     have HL24:=hid hl24
     refine hK _ _ ⟨HSW.out _ hl24,?_⟩
     clear hK hb24 hl24
     refine AnyH_one (i:=65) (by kernel_rfl) rfl (by kernel_rfl) (fun K hK=>?_)
     go_simp
     have hlx:=HL24.out.alloc HL24.out.size (.cells #[.int .i64 6] 3)
     have HLX:=hid hlx
     have KX:=hid (cg_ (heap_alloc_new w24 (.cells #[.int .i64 6] 3)) (k:=0) (v := .int .i64 6) rfl)
     refine hK _ _ ⟨HSW.out _ hlx,?_⟩
     clear hK hlx
     refine AnyH_one (i:=66) (by kernel_rfl) rfl (by kernel_rfl) (fun K hK=>?_)
     go_simp
     refine ⟨trivial,(callsIn_wide.2 (K_any _ 6 w24.heap.size 1 _ KX.out (by simp) (nl_ _))).mono ?_⟩
     rintro e w25 ⟨rfl,hb25⟩
     have hl25:=HLX.out.trans (hb25.mono HLX.out.size)
     have HL25:=hid hl25
     refine hK _ _ ⟨HSW.out _ hl25,?_⟩
     clear hK hb25 hl25
     refine AnyH_one (i:=67) (by kernel_rfl) rfl (by kernel_rfl) (fun K hK=>?_)
     go_simp
     have hbK:Below w25.heap.size w25 (w25.alloc (.cells #[.string ⟨#[98,101,100]⟩, .bool true, .int .i64 3, .string ⟨#[114,97,107,101,100]⟩, .bool true, .int .i64 6] 71)):=(Below.refl _ _).alloc (nl_ _) _
     have hkK:=heap_alloc_new w25 (.cells #[.string ⟨#[98,101,100]⟩, .bool true, .int .i64 3, .string ⟨#[114,97,107,101,100]⟩, .bool true, .int .i64 6] 71)
     have hl26:=HL25.out.trans (hbK.mono HL25.out.size)
     have hz25:=HL25.out.size
     have pK:Pth (fun b=>b < w25.heap.size + 1) (w25.alloc (.cells #[.string ⟨#[98,101,100]⟩, .bool true, .int .i64 3, .string ⟨#[114,97,107,101,100]⟩, .bool true, .int .i64 6] 71)) (.slice (some ⟨w25.heap.size,0,none⟩) 2 2) [bed3,raked6]:=slc_block (k:=3) (n:=2) hkK (by simp) rfl (by simp [maxLen])
     have EK:=hid (eqKeys_any [bed3,raked6] [bed3,raked6] ar (some ⟨w25.heap.size,0,none⟩) cr 2 (fun b=>b < w25.heap.size + 1) _ ((HP23.out.agree (Ag_b hl26 (fun b hb=>by omega))).wide (fun b hb=>by omega)) pK (by decide) (by decide))
     rw [decide_eq_true rfl] at EK
     have HL26:=hid hl26
     refine hK _ _ ⟨HSW.out _ hl26,?_⟩
     clear hK hkK pK hbK hl26
     refine AnyH_one (i:=68) (by kernel_rfl) rfl (by kernel_rfl) (fun K hK=>?_)
     go_simp
     refine ⟨trivial,(callsIn_wide.2 EK.out).mono ?_⟩
     rintro e w27 ⟨rfl,hb27⟩
     have hl27:=HL26.out.trans (hb27.mono HL26.out.size)
     have hS27:=HSW.out _ hl27
     have HL27:=hid hl27
     refine hK _ _ ⟨hS27,?_⟩
     clear hK hb27 hl27 EK
     refine tkY 69 167 (.bool true) rfl rfl hS27 (fun w' hs=>?_) ?_
     · go_simp
     refine tkY 70 0 (.bool true) rfl rfl hS27 (fun w' hs=>?_) ?_
     · go_simp
     refine AnyH_done (by kernel_rfl) ?_
     go_simp
     clear hS27
     go_wp2_with fail
     go_ret
     have e1:=HB19.out.size
     exact ⟨rfl,HB19.out.trans ((HL23.out.trans (HL27.out.mono hz23)).mono e1)⟩
   · go_simp
     obtain ⟨w2,hw2⟩:∃ w2,w1.alloc (.cells #[.int .i64 6] 3) = w2:=⟨_,rfl⟩
     have hl2:Below w23.heap.size w23 w2:=by rw [← hw2];exact HL1.out.alloc HL1.out.size _
     have k2:w2.cell? ⟨w1.heap.size,0,none⟩ = some (.int .i64 6):=by rw [← hw2];exact cg_ (heap_alloc_new w1 _) (k:=0) rfl
     have z2:w2.heap.size = w1.heap.size + 1:=by rw [← hw2];simp
     have k3:w2.cell? ⟨w23.heap.size,0,none⟩ = some (.int .i64 3):=by rw [← hw2];exact bc_ ((Below.refl w1.heap.size _).alloc (nl_ _) _) (by have:=Z1.out;omega) K1.out
     have Z2:=hid z2
     have HL2:=hid hl2
     have K2:=hid k2
     have K3:=hid k3
     rw [hw2]
     refine hK _ _ ⟨HSW.out _ hl2,?_⟩
     clear hK hw2 hl2 k2 k3 z2
     refine AnyH_one (i:=64) (by kernel_rfl) rfl (by kernel_rfl) (fun K hK=>?_)
     go_simp
     refine ⟨trivial,(callsIn_wide.2 (K_any _ 3 w23.heap.size 1 w2 K3.out (by have:=Z1.out;have:=Z2.out;omega) (nl_ _))).mono ?_⟩
     rintro e w24 ⟨rfl,hb24⟩
     have hl24:=HL2.out.trans (hb24.mono HL2.out.size)
     have HL24:=hid hl24
     have z24:w1.heap.size < w24.heap.size:=by have:=Z2.out;have:=hb24.size;omega
     have KX:=hid (bc_ hb24 (by have:=Z2.out;omega) K2.out)
     refine hK _ _ ⟨HSW.out _ hl24,?_⟩
     clear hK hb24 hl24
     refine AnyH_one (i:=66) (by kernel_rfl) rfl (by kernel_rfl) (fun K hK=>?_)
     go_simp
     refine ⟨trivial,(callsIn_wide.2 (K_any _ 6 w1.heap.size 1 w24 KX.out z24 (nl_ _))).mono ?_⟩
     rintro e w25 ⟨rfl,hb25⟩
     have hl25:=HL24.out.trans (hb25.mono HL24.out.size)
     have HL25:=hid hl25
     refine hK _ _ ⟨HSW.out _ hl25,?_⟩
     clear hK hb25 hl25 z24
     refine AnyH_one (i:=67) (by kernel_rfl) rfl (by kernel_rfl) (fun K hK=>?_)
     go_simp
     have hbK:Below w25.heap.size w25 (w25.alloc (.cells #[.string ⟨#[98,101,100]⟩, .bool true, .int .i64 3, .string ⟨#[114,97,107,101,100]⟩, .bool true, .int .i64 6] 71)):=(Below.refl _ _).alloc (nl_ _) _
     have hkK:=heap_alloc_new w25 (.cells #[.string ⟨#[98,101,100]⟩, .bool true, .int .i64 3, .string ⟨#[114,97,107,101,100]⟩, .bool true, .int .i64 6] 71)
     have hl26:=HL25.out.trans (hbK.mono HL25.out.size)
     have hz25:=HL25.out.size
     have pK:Pth (fun b=>b < w25.heap.size + 1) (w25.alloc (.cells #[.string ⟨#[98,101,100]⟩, .bool true, .int .i64 3, .string ⟨#[114,97,107,101,100]⟩, .bool true, .int .i64 6] 71)) (.slice (some ⟨w25.heap.size,0,none⟩) 2 2) [bed3,raked6]:=slc_block (k:=3) (n:=2) hkK (by simp) rfl (by simp [maxLen])
     have EK:=hid (eqKeys_any [bed3,raked6] [bed3,raked6] ar (some ⟨w25.heap.size,0,none⟩) cr 2 (fun b=>b < w25.heap.size + 1) _ ((HP23.out.agree (Ag_b hl26 (fun b hb=>by omega))).wide (fun b hb=>by omega)) pK (by decide) (by decide))
     rw [decide_eq_true rfl] at EK
     have HL26:=hid hl26
     refine hK _ _ ⟨HSW.out _ hl26,?_⟩
     clear hK hkK pK hbK hl26
     refine AnyH_one (i:=68) (by kernel_rfl) rfl (by kernel_rfl) (fun K hK=>?_)
     go_simp
     refine ⟨trivial,(callsIn_wide.2 EK.out).mono ?_⟩
     rintro e w27 ⟨rfl,hb27⟩
     have hl27:=HL26.out.trans (hb27.mono HL26.out.size)
     have hS27:=HSW.out _ hl27
     have HL27:=hid hl27
     refine hK _ _ ⟨hS27,?_⟩
     clear hK hb27 hl27 EK
     refine tkY 69 167 (.bool true) rfl rfl hS27 (fun w' hs=>?_) ?_
     · go_simp
     refine tkY 70 0 (.bool true) rfl rfl hS27 (fun w' hs=>?_) ?_
     · go_simp
     refine AnyH_done (by kernel_rfl) ?_
     go_simp
     clear hS27
     go_wp2_with fail
     go_ret
     have e1:=HB19.out.size
     exact ⟨rfl,HB19.out.trans ((HL23.out.trans (HL27.out.mono hz23)).mono e1)⟩
 · go_simp
   obtain ⟨w1,hw1⟩:∃ w1,w23.alloc (.cells #[.int .i64 6] 3) = w1:=⟨_,rfl⟩
   have hl1:Below w23.heap.size w23 w1:=by rw [← hw1];exact hb0.alloc (nl_ _) _
   have k1:w1.cell? ⟨w23.heap.size,0,none⟩ = some (.int .i64 6):=by rw [← hw1];exact cg_ (heap_alloc_new w23 _) (k:=0) rfl
   have z1:w1.heap.size = w23.heap.size + 1:=by rw [← hw1];simp
   have Z1:=hid z1
   have HL1:=hid hl1
   have K1:=hid k1
   rw [hw1]
   refine hK _ _ ⟨HSW.out _ hl1,?_⟩
   clear hK hw1 hl1 k1 z1
   refine AnyH_one (i:=63) (by kernel_rfl) rfl (by kernel_rfl) (fun K hK=>?_)
   go_simp
   obtain ⟨w2,hw2⟩:∃ w2,w1.alloc (.cells #[.int .i64 3] 3) = w2:=⟨_,rfl⟩
   have hl2:Below w23.heap.size w23 w2:=by rw [← hw2];exact HL1.out.alloc HL1.out.size _
   have k2:w2.cell? ⟨w1.heap.size,0,none⟩ = some (.int .i64 3):=by rw [← hw2];exact cg_ (heap_alloc_new w1 _) (k:=0) rfl
   have z2:w2.heap.size = w1.heap.size + 1:=by rw [← hw2];simp
   have k3:w2.cell? ⟨w23.heap.size,0,none⟩ = some (.int .i64 6):=by rw [← hw2];exact bc_ ((Below.refl w1.heap.size _).alloc (nl_ _) _) (by have:=Z1.out;omega) K1.out
   have Z2:=hid z2
   have HL2:=hid hl2
   have K2:=hid k2
   have K3:=hid k3
   rw [hw2]
   refine hK _ _ ⟨HSW.out _ hl2,?_⟩
   clear hK hw2 hl2 k2 k3 z2
   refine AnyH_one (i:=64) (by kernel_rfl) rfl (by kernel_rfl) (fun K hK=>?_)
   go_simp
   refine ⟨trivial,(callsIn_wide.2 (K_any _ 3 w1.heap.size 1 w2 K2.out (by have:=Z2.out;omega) (nl_ _))).mono ?_⟩
   rintro e w24 ⟨rfl,hb24⟩
   have hl24:=HL2.out.trans (hb24.mono HL2.out.size)
   have HL24:=hid hl24
   have z24:w23.heap.size < w24.heap.size:=by have:=Z1.out;have:=Z2.out;have:=hb24.size;omega
   have KX:=hid (bc_ hb24 (by have:=Z1.out;have:=Z2.out;omega) K3.out)
   refine hK _ _ ⟨HSW.out _ hl24,?_⟩
   clear hK hb24 hl24
   refine AnyH_one (i:=66) (by kernel_rfl) rfl (by kernel_rfl) (fun K hK=>?_)
   go_simp
   refine ⟨trivial,(callsIn_wide.2 (K_any _ 6 w23.heap.size 1 w24 KX.out z24 (nl_ _))).mono ?_⟩
   rintro e w25 ⟨rfl,hb25⟩
   have hl25:=HL24.out.trans (hb25.mono HL24.out.size)
   have HL25:=hid hl25
   refine hK _ _ ⟨HSW.out _ hl25,?_⟩
   clear hK hb25 hl25 z24
   refine AnyH_one (i:=67) (by kernel_rfl) rfl (by kernel_rfl) (fun K hK=>?_)
   go_simp
   have hbK:Below w25.heap.size w25 (w25.alloc (.cells #[.string ⟨#[98,101,100]⟩, .bool true, .int .i64 3, .string ⟨#[114,97,107,101,100]⟩, .bool true, .int .i64 6] 71)):=(Below.refl _ _).alloc (nl_ _) _
   have hkK:=heap_alloc_new w25 (.cells #[.string ⟨#[98,101,100]⟩, .bool true, .int .i64 3, .string ⟨#[114,97,107,101,100]⟩, .bool true, .int .i64 6] 71)
   have hl26:=HL25.out.trans (hbK.mono HL25.out.size)
   have hz25:=HL25.out.size
   have pK:Pth (fun b=>b < w25.heap.size + 1) (w25.alloc (.cells #[.string ⟨#[98,101,100]⟩, .bool true, .int .i64 3, .string ⟨#[114,97,107,101,100]⟩, .bool true, .int .i64 6] 71)) (.slice (some ⟨w25.heap.size,0,none⟩) 2 2) [bed3,raked6]:=slc_block (k:=3) (n:=2) hkK (by simp) rfl (by simp [maxLen])
   have EK:=hid (eqKeys_any [bed3,raked6] [bed3,raked6] ar (some ⟨w25.heap.size,0,none⟩) cr 2 (fun b=>b < w25.heap.size + 1) _ ((HP23.out.agree (Ag_b hl26 (fun b hb=>by omega))).wide (fun b hb=>by omega)) pK (by decide) (by decide))
   rw [decide_eq_true rfl] at EK
   have HL26:=hid hl26
   refine hK _ _ ⟨HSW.out _ hl26,?_⟩
   clear hK hkK pK hbK hl26
   refine AnyH_one (i:=68) (by kernel_rfl) rfl (by kernel_rfl) (fun K hK=>?_)
   go_simp
   refine ⟨trivial,(callsIn_wide.2 EK.out).mono ?_⟩
   rintro e w27 ⟨rfl,hb27⟩
   have hl27:=HL26.out.trans (hb27.mono HL26.out.size)
   have hS27:=HSW.out _ hl27
   have HL27:=hid hl27
   refine hK _ _ ⟨hS27,?_⟩
   clear hK hb27 hl27 EK
   refine tkY 69 167 (.bool true) rfl rfl hS27 (fun w' hs=>?_) ?_
   · go_simp
   refine tkY 70 0 (.bool true) rfl rfl hS27 (fun w' hs=>?_) ?_
   · go_simp
   refine AnyH_done (by kernel_rfl) ?_
   go_simp
   clear hS27
   go_wp2_with fail
   go_ret
   have e1:=HB19.out.size
   exact ⟨rfl,HB19.out.trans ((HL23.out.trans (HL27.out.mono hz23)).mono e1)⟩
end Go.Proofs.LF
