/- Parts of the proof of a law of layer 11 (file): LfW125. The conditions stand in each theorem. -/
import Derived.Test.YtadkpjgpefcphaaGreatDoorProg
import Derived.Test.YtadkpjgpefcphaaGreatDoorTnac
import Derived.Test.YtadkpjgpefcphaaGreatDoorTnad
import Derived.Test.YtadkpjgpefcphaaGreatDoorTnag
import Derived.Test.YtadkpjgpefcphaaGreatDoorTnaj
import Derived.Test.YtadkpjgpefcphaaGreatDoorTnaq
import Derived.Test.YtadkpjgpefcphaaGreatDoorTnau
import Derived.Test.YtadkpjgpefcphaaGreatDoorTnaw
set_option linter.all false
set_option linter.unusedVariables false
set_option linter.unusedSimpArgs false
namespace Go.Proofs.LF
open Go.RowKit Go.Sort
set_option maxHeartbeats 4000000
set_option maxRecDepth 100000
attribute [local go_sem] bs_toList bs_size bs_get
attribute [local go_sem] bs_add
theorem okG_sm9:∀ {y:Fo} {d:Nat},OkG d y→y.cnt ≤ 1000→y.Sm
 | .nil,_,_,_=>trivial
 | .cons n l s r,d,⟨⟨_,h2,h3,_⟩,h5,_,h7⟩,hc=>by
   simp only [Fo.cnt] at hc
   have:=len_cnt s
   have:=badNm_len h2
   exact ⟨by omega,by omega,by omega,okG_sm9 h5 (by omega),okG_sm9 h7 (by omega)⟩
theorem bd_chk9 {z:Fo} (h:chkY z = 0):Bd z:=by
 have h1:=chk_cnt h
 have h2:=len_cnt z
 exact ⟨by omega,okG_sm9 (chk_okG h) (by omega),by omega⟩
theorem made30_c (W w1:World) (h:PAt W w1):Calls Tryz.prog 37 #[.pointer (some ⟨W.heap.size,0,none⟩), .int .i64 3] w1 fun e w'=>∃ y a c,e = .returned (.slice a y.len c)∧In w' (.slice a y.len c) y∧(OkF 0 y∧y.cnt ≤ 30)∧Below W.heap.size W w':=by
 obtain ⟨h1,h2,h3⟩:=h
 refine (Made_any0 3 W.heap.size _ w1 (by omega) (by omega) h1 (by omega) (fun q hq=>by omega)).mono ?_
 rintro e w' ⟨y,a,c,he,hF,ho,_,hc,_,hk⟩
 exact ⟨y,a,c,he,hF.wide fun b hb=>hb.2,⟨okF_down ho,hc⟩,h3.trans (Keep.below hk (by omega) (fun b hb=>by omega))⟩
theorem txt_len9 {y:Fo} (h:chkY y = 0):(txtL (nodesL [] y)).length ≤ 100000:=by
 rw [txD_txt]
 have:=txD_len y 0 (chk_okG h)
 have:=chk_cnt h
 simp only [List.length_nil]
 omega
theorem print_t (y:Fo) (a:Option Addr) (c:Nat) (W:World) (hy:In W (.slice a y.len c) y) (hb:Bd y) (ht:Pow W) (h:chkY y = 0) {t:List UInt8} (e:txtL (nodesL [] y) = t) :
 Calls Tryz.prog 22 #[.slice a y.len c] W fun e w'=>e = .returned (.tuple #[.string (bs t), .int .i64 0])∧Below W.heap.size W w':=by
 have:=Print_any y a c _ W hy (fun _ h=>h) hb.1 hb.2.1 hb.2.2 ht
 rwa [if_pos h,h,e] at this
theorem text_t (y:Fo) (a:Option Addr) (c:Nat) (W:World) (hy:In W (.slice a y.len c) y) (h:chkY y = 0) {t:List UInt8} (e:txtL (nodesL [] y) = t) :
 Calls Tryz.prog 79 #[.slice a y.len c, .int .i64 0] W fun e w'=>e = .returned (.string (bs t))∧Below W.heap.size W w':=by
 rw [← e,txD_txt]
 exact text_all (y.cnt + 1) y 0 a c _ W (Nat.lt_succ_self _) hy (fun _ h=>h) (chk_okG h) (by omega) (by have:=chk_cnt h;omega)
theorem cell_low {w:World} {b o:Nat} {v:Value} (h:w.cell? ⟨b,o,none⟩ = some v):b < w.heap.size:=by
 unfold World.cell? at h
 split at h
 · rename_i c t f hb
   exact (Array.getElem?_eq_some_iff.1 hb).1
 · cases h
theorem conv_back (W:World) (b c:Nat) (l:List UInt8) (hc:∀ j (hj:j < l.length),W.cell? ⟨b,j,none⟩ = some (.int .u8 (l[j].toNat:Int))):(convert 57 9 (.slice (some ⟨b,0,none⟩) l.length c)).run Tryz.prog W = .ok (.string (bs l)) W:=by
 refine run_convert_bytes_back _ 57 9 5 ⟨b,0,none⟩ c l Tryz.underlying57 Tryz.underlying5 Tryz.underlying9 fun j hj=>?_
 have e:(⟨b,0,none⟩:Addr).add j = ⟨b,j,none⟩:=by
  unfold Addr.add
  split
  · rename_i h;rw [h]
  · simp
 rw [e];exact hc j hj
theorem torn_ok {y:Fo} {t s:List UInt8} {L:List Fl} {ln col:Nat} (hy:chkY y = 0) (hs:txtL (nodesL [] y) = s) (h:prs t = (L,ln,col,0)):chkY (prsY t) = 0∧txtL (nodesL [] (prsY t)) = t∧(t == s) = decide (prsY t = y):=by
 obtain ⟨h1,h2,h3⟩:=prs_back t h
 have hY:prsY t = (treF 0 L).1:=by rw [prsY,h,if_pos rfl]
 rw [hY]
 refine ⟨h1,h2,?_⟩
 rw [Bool.eq_iff_iff,beq_iff_eq,decide_eq_true_eq]
 constructor
 · intro e
   have hp:=prs_txt hy
   rw [hs,← e,h] at hp
   have hL:L = flsL [] y:=by cases hp;rfl
   rw [hL,treF_flsL]
 · intro e
   rw [e] at h2
   rw [← h2,hs]
theorem count_set {t:List UInt8} {k:Nat} {x:UInt8}:(t.set k x).count 10 ≤ t.count 10 + 1:=by
 induction t generalizing k with
 | nil=>simp
 | cons a t ih=>
   cases k with
   | zero=>
     simp only [List.set_cons_zero,List.count_cons]
     split <;> split <;> omega
   | succ k=>
     have:=ih (k:=k)
     simp only [List.set_cons_succ,List.count_cons]
     omega
theorem count_lines:∀ (xs:List NdD),(∀ x ∈ xs,OkN x)→(txtL xs).count 10 = xs.length
 | [],_=>by simp [txtL]
 | x :: xs,h=>by
   have h1:txtL (x :: xs) = lineB x ++ txtL xs:=by simp [txtL]
   obtain ⟨A,hA,hn⟩:=line_form (h x (by simp))
   rw [h1,List.count_append,count_lines xs fun z hz=>h z (by simp [hz]),hA,List.count_append,List.count_eq_zero_of_not_mem hn]
   simp;omega
theorem torn_err {y:Fo} {s:List UInt8} {k:Nat} {x:UInt8} {L:List Fl} {ln col e:Nat} (hy:chkY y = 0) (hc:y.cnt ≤ 30) (hs:txtL (nodesL [] y) = s) (h:prs (s.set k x) = (L,ln,col,e)) (he:e ≠ 0) :
 (e = 11 ∨ e = 4)∧∃ p,(pcs (s.set k x))[ln]? = some p∧col ≤ p.length∧ln < (pcs (s.set k x)).length∧((prs (((pcs (s.set k x)).take ln).flatten ++ p.take col)).2.2.2 = 0∧col = 0 ∨ prs (((pcs (s.set k x)).take ln).flatten ++ p.take col) = ([],ln,col,11)):=by
 have hn:s.count 10 ≤ 30:=by
  rw [← hs,count_lines _ (ordG_ok y _ _ [] (chk_ord hy)),nodesL_length];exact hc
 obtain ⟨_,h2,p,h3,h4,h5,h6⟩:=prs_torn (s.set k x) (by have:=count_set (t:=s) (k:=k) (x:=x);omega) h he
 refine ⟨h2,p,h3,h4,h5,?_⟩
 rcases h6 with ⟨⟨L',h7⟩,h8⟩ | h7
 · left;exact ⟨by rw [h7],h8⟩
 · right;exact h7
theorem FileTorn_any (l:List Int) (pl x:Int) (i1:Option Addr) (k1:Nat) (w:World) (h1:ByIn w (.slice i1 l.length k1) l) (hpl:0 ≤ pl∧pl ≤ 65535) (hx:0 ≤ x∧x ≤ 255) (hm:∃ m,w.cell? ⟨0,0,none⟩ = some (.int .i64 m)) (ht:Pow w) :
 Calls Tryz.prog 16 #[.slice i1 l.length k1, .int .u16 pl, .int .u8 x] w fun e w'=>e = .returned (.bool true)∧Below w.heap.size w w':=by
 have HT:=hid ht
 have B1:=hid h1
 have BW:=hid (Below.refl w.heap.size w)
 have HM:=hid hm
 obtain ⟨hp0,hp1⟩:=hpl
 obtain ⟨hx0,hx1⟩:=hx
 clear ht h1 hm
 go_enter Tryz.func16,Tryz.ntmps16
 go_wp2_with fail
 refine (pile_c l i1 k1 w B1.out).mono ?_
 rintro e p1 ⟨rfl,hp⟩
 have HP:=hid hp
 clear hp
 clear B1
 go_wp2_with fail
 refine (made30_c w p1 HP.out).mono ?_
 rintro e w1 ⟨y,ay,cy,rfl,hF,ho,hb⟩
 replace BW:=hid (BW.out.trans (hb.mono BW.out.size))
 have Hy:=hid hF
 have cy30:=ho.2
 have CK:=hid (okF_few ho.1 (by omega))
 have BDy:=hid (okF_bd ho.1 (by omega))
 clear hF ho hb HP
 obtain ⟨s,hs⟩:∃ s,txtL (nodesL [] y) = s:=⟨_,rfl⟩
 have HS:=hid hs
 have sl:s.length ≤ 100000:=by rw [← hs];exact txt_len9 CK.out
 clear hs
 go_wp2_with fail
 refine (text_t y ay cy w1 Hy.out CK.out HS.out).mono ?_
 rintro e w2 ⟨rfl,hb⟩
 replace Hy:=hid (Hy.out.on hb)
 replace BW:=hid (BW.out.trans (hb.mono BW.out.size))
 clear hb
 have CH:=check_c y ay cy w2 Hy.out BDy.out
 rw [CK.out] at CH
 have CH:=hid CH
 go_wp2_with fail
 refine (CH.out).mono ?_
 rintro e w3 ⟨rfl,hb⟩
 replace Hy:=hid (Hy.out.on hb)
 replace BW:=hid (BW.out.trans (hb.mono BW.out.size))
 clear CH
 clear hb
 cases hse:s.isEmpty
 rotate_left
 · go_wp2_with fail
   refine (awake_any w3 (HT.out.below BW.out)).mono ?_
   rintro e z_ ⟨rfl,hb⟩
   replace Hy:=hid (Hy.out.on hb)
   replace BW:=hid (BW.out.trans (hb.mono BW.out.size))
   clear hb
   go_wp2_with fail
   go_ret
   exact ⟨rfl,BW.out⟩
 have hs0:s ≠ []:=fun e=>by rw [e] at hse;cases hse
 have hpos:0 < s.length:=List.length_pos_iff.2 hs0
 have hposi:(0:Int) < (s.length:Int):=by omega
 have hne0:¬ (s.length:Int) = 0:=by omega
 clear hs0
 obtain ⟨cb,W4,hcv,hb,hz4,hcap,hcells⟩:=conv_bytes w3 s
 obtain ⟨k,hk,ek⟩:∃ k:Nat,k < s.length∧Int.tmod pl (s.length:Int) = k:=⟨(pl % (s.length:Int)).toNat,by have:=Int.emod_lt_of_pos pl hposi;have:=Int.emod_nonneg pl hne0;omega,by rw [Int.tmod_eq_emod_of_nonneg hp0];have:=Int.emod_nonneg pl hne0;omega⟩
 have wd:IntKind.i64.wrap pl = pl:=by rw [IntKind.wrap_i64];omega
 have hki:(k:Int) < (s.length:Int):=by omega
 have hk0:(0:Int) ≤ (k:Int):=by omega
 have ck:=(hcells k hk).1
 have fk:=(hcells k hk).2
 obtain ⟨X,hX⟩:∃ X:UInt8,(X.toNat:Int) = x:=⟨UInt8.ofNat x.toNat,by rw [UInt8.toNat_ofNat'];omega⟩
 obtain ⟨bb,hbb⟩:∃ b,w3.heap.size = b:=⟨_,rfl⟩
 rw [hbb] at hcv ck fk hcells hz4
 obtain ⟨W5,hW5⟩:∃ W5,W4.setCell ⟨bb,k,none⟩ (.int .u8 x) = W5:=⟨_,rfl⟩
 have hb5:Below w3.heap.size w3 W5:=by rw [← hW5];exact Below.setCell hb (p:=⟨bb,k,none⟩) (by rw [hbb];exact nl_ _) _
 have hset:∀ j (hj:j < (s.set k X).length),W5.cell? ⟨bb,j,none⟩ = some (.int .u8 ((s.set k X)[j].toNat:Int)):=fun j hj=>by
  rw [List.length_set] at hj
  rw [List.getElem_set,← hW5]
  by_cases e:k = j
  · subst e
    rw [if_pos rfl,hX]
    exact World.cell?_setCell_same _ _ _ ck
  · rw [if_neg e]
    exact (World.cell?_setCell_other _ _ _ _ (fun h=>e (by cases h;rfl))).trans (hcells j hj).1
 obtain ⟨t,ht⟩:∃ t,s.set k X = t:=⟨_,rfl⟩
 have htl:t.length = s.length:=by rw [← ht,List.length_set]
 rw [ht] at hset
 have hcv2:=conv_back W5 bb cb t hset
 rw [htl] at hcv2
 have HTT:=hid ht
 have hb:=hb5
 clear hcells hb5 hset ht
 replace Hy:=hid (Hy.out.on hb)
 replace BW:=hid (BW.out.trans (hb.mono BW.out.size))
 clear hb
 go_upto_region 8 with fail
 clear hcv hcv2 ck fk ek wd hW5
 obtain ⟨L,ln,col,E,hprs⟩:∃ L ln col E,prs t = (L,ln,col,E):=⟨_,_,_,_,rfl⟩
 have PA:=Parse_any t W5 (by omega)
 have hYE:E ≠ 0→prsY t = .nil:=fun h=>by rw [prsY,hprs,if_neg h]
 rw [hprs] at PA
 have PA:=hid PA
 have HPRS:=hid hprs
 have HYE:=hid hYE
 clear hprs hYE
 go_wp2_with fail
 refine PA.out.mono ?_
 rintro e w6 ⟨aX,cX,rfl,hF,hb⟩
 replace Hy:=hid (Hy.out.on hb)
 replace BW:=hid (BW.out.trans (hb.mono BW.out.size))
 have HX:=hid (show In w6 _ _ from FSl.wide hF fun b hb=>hb.2)
 clear hF hb PA
 by_cases hE:E = 0
 · subst hE
   obtain ⟨q1,q2,q3⟩:=torn_ok CK.out HS.out HPRS.out
   obtain ⟨Y,hY⟩:∃ Y,prsY t = Y:=⟨_,rfl⟩
   rw [hY] at q1 q2 q3 HX
   simp only [hY]
   have BDY:Hid (Bd Y):=bd_chk9 q1
   have CY:=hid q1
   have TY:=hid q2
   have Q3:=hid q3
   clear q1 q2 q3 hY HYE HPRS
   go_wp2_with fail
   refine (print_t Y aX cX w6 HX.out BDY.out (HT.out.below BW.out) CY.out TY.out).mono ?_
   rintro e w7 ⟨rfl,hb⟩
   replace Hy:=hid (Hy.out.on hb)
   replace HX:=hid (HX.out.on hb)
   replace BW:=hid (BW.out.trans (hb.mono BW.out.size))
   clear hb
   have AL:=(alike_any (Y.cnt + 1)).2 Y y aX cX ay cy _ w7 (Nat.lt_succ_self _) HX.out Hy.out (fun _ h=>h) BDY.out.1 BDy.out.1 BDY.out.2.1 BDy.out.2.1
   rw [← Q3.out] at AL
   obtain ⟨q,hq⟩:∃ q,(t == s) = q:=⟨_,rfl⟩
   rw [hq] at AL
   have AL:=hid AL
   have hqq:(q == q) = true:=by simp
   clear Q3
   go_wp2_with fail
   refine (AL.out).mono ?_
   rintro e w8 ⟨rfl,hb⟩
   replace Hy:=hid (Hy.out.on hb)
   replace HX:=hid (HX.out.on hb)
   replace BW:=hid (BW.out.trans (hb.mono BW.out.size))
   clear AL
   clear hb
   go_wp2_with fail
   refine (awake_any w8 (HT.out.below BW.out)).mono ?_
   rintro e z_ ⟨rfl,hb⟩
   replace Hy:=hid (Hy.out.on hb)
   replace HX:=hid (HX.out.on hb)
   replace BW:=hid (BW.out.trans (hb.mono BW.out.size))
   clear hb
   go_wp2_with fail
   go_ret
   exact ⟨rfl,BW.out⟩
 rw [HYE.out hE] at HX
 simp only [HYE.out hE]
 clear HYE
 obtain ⟨t1,p,t2,t3,t4,t5⟩:=torn_err CK.out cy30 HS.out (by rw [HTT.out];exact HPRS.out) hE
 rw [HTT.out] at t2 t4 t5
 have T5:=hid t5
 clear t5 HPRS HTT
 have hE0:((E:Int) == 0) = false:=by simp;omega
 obtain ⟨m,hm⟩:=HM.out
 have h00:=cell_low hm
 have SA:=hid (SplitAfter_any t m w6 (bc_ BW.out h00 hm) (by omega))
 clear hm HM
 go_wp2_with fail
 refine SA.out.mono ?_
 rintro e w7 ⟨rfl,hw7⟩
 have hb:Below w6.heap.size w6 w7:=by rw [hw7];exact (Below.refl _ _).alloc (nl_ _) _
 have BLK:=hid (show w7.heap[w6.heap.size]? = some (.cells ((pcs t).map fun x=>Value.string (bs x)).toArray 9 (0,0)) by rw [hw7];exact heap_alloc_new _ _)
 obtain ⟨bp,hbp⟩:∃ b,w6.heap.size = b:=⟨_,rfl⟩
 rw [hbp] at BLK ⊢
 obtain ⟨P,hP⟩:∃ P,pcs t = P:=⟨_,rfl⟩
 have pfl:P.flatten = t:=by rw [← hP];exact pcs_flat t
 obtain ⟨_,e1,e2⟩:=splitB_pcs t
 have hPl:P.length ≤ 100001:=by rw [← hP];omega
 clear e1 e2
 rw [hP] at t2 t4 T5 BLK
 simp only [hP]
 replace Hy:=hid (Hy.out.on hb)
 replace HX:=hid (HX.out.on hb)
 replace BW:=hid (BW.out.trans (hb.mono BW.out.size))
 clear hb hw7 SA hbp hP
 have CELL:Hid (∀ W:World,W.heap[bp]? = some (.cells (P.map fun x:List UInt8=>Value.string (bs x)).toArray 9 (0,0))→∀ (j:Nat) z,P[j]? = some z→W.cell? ⟨bp,j,none⟩ = some (.string (bs z))):=fun W hW j z hz=>cg_ hW (by rw [List.getElem?_toArray,List.getElem?_map,hz];rfl)
 have cl:=CELL.out w7 BLK.out ln p t2
 have hl1:(ln:Int) < (P.length:Int):=by omega
 have hl0:(0:Int) ≤ (ln:Int):=by omega
 have hc1:(col:Int) ≤ (p.length:Int):=by omega
 have hc0:(0:Int) ≤ (col:Int):=by omega
 go_upto_region 13 with fail
 go_cut [123] from 90 to 122 (fun v wx=>v = .bool false∧wx = w7)
 case first=>
  rcases t1 with rfl | rfl
  · go_wp2_with fail
    go_meet
    case rel=>exact ⟨by simp [Fo.len];omega,rfl⟩
  · go_wp2_with fail
    go_meet
    case rel=>exact ⟨by simp [Fo.len];omega,rfl⟩
 case rest=>
  obtain ⟨rfl,hwc⟩:=hcut
  subst hwc
  obtain ⟨U,hU⟩:∃ U,(P.take ln).flatten ++ p.take col = U:=⟨_,rfl⟩
  rw [hU] at T5
  have lU:U.length ≤ 100000:=by
   have h1:(P.take ln).flatten.length + (P.drop ln).flatten.length = t.length:=by
    rw [← List.length_append,← List.flatten_append,List.take_append_drop,pfl]
   have h2:p.length ≤ (P.drop ln).flatten.length:=by
    have h3:P.drop ln = p :: P.drop (ln + 1):=by
     obtain ⟨hlt,hpe⟩:=List.getElem?_eq_some_iff.1 t2
     rw [List.drop_eq_getElem_cons hlt,hpe]
    rw [h3,List.flatten_cons,List.length_append];omega
   rw [← hU,List.length_append,List.length_take];omega
  have lF:(P.take ln).flatten.length ≤ 1000000:=by
   have h1:(P.take ln).flatten.length + (P.drop ln).flatten.length = t.length:=by
    rw [← List.length_append,← List.flatten_append,List.take_append_drop,pfl]
   omega
  have lT:(P.take ln).length = ln:=by rw [List.length_take];omega
  have HU:=hid hU
  have LF_:=hid lF
  have LT:=hid lT
  have hln:ln ≤ P.length:=by omega
  clear pfl hU lF lT
  go_upto_region 15 with fail
  go_cut [18,19,20,21] from 124 to 140 (fun v18 v19 v20 v21 wx=>∃ (aU:Option Addr) (cU:Nat),v18 = .slice aU (prsY U).len cU∧v19 = .int .i64 ((prs U).2.1:Nat)∧v20 = .int .i64 ((prs U).2.2.1:Nat)∧v21 = .int .i64 ((prs U).2.2.2:Nat)∧Hid (Below wc.heap.size wc wx))
  case first=>
   have BZ:=hid ((Below.refl wc.heap.size wc).drew)
   obtain ⟨W0,hW0⟩:∃ W0,wc.drew = W0:=⟨_,rfl⟩
   have hz0:wc.heap.size ≤ W0.heap.size:=by rw [← hW0];simp
   have hB0:W0.heap[bp]? = some (.cells (P.map fun x:List UInt8=>Value.string (bs x)).toArray 9 (0,0)):=by rw [← hW0];exact BLK.out
   rw [hW0] at BZ
   have hS0:=CELL.out W0 hB0 ln p t2
   have JC:=hid (show ∀ (j:Nat) z,(P.take ln)[j]? = some z→W0.cell? ⟨bp,j,none⟩ = some (.string (bs z)) from fun j z hz=>CELL.out W0 hB0 j z (by
    rw [List.getElem?_take] at hz
    split at hz
    · exact hz
    · cases hz))
   have hbp:bp < W0.heap.size:=(Array.getElem?_eq_some_iff.1 hB0).1
   have JN:=JoinS_any (P.take ln) bp P.length W0 JC.out hbp (by rw [LT.out];omega) (by rw [LT.out];omega) LF_.out
   rw [LT.out] at JN
   have JN:=hid JN
   have PA:=hid (fun W:World=>Parse_any U W lU)
   have hcat:bs (P.take ln).flatten ++ bs (p.take col) = bs U:=by rw [bs_add,HU.out]
   obtain ⟨FL,hFL⟩:∃ FL,(P.take ln).flatten = FL:=⟨_,rfl⟩
   obtain ⟨PC,hPC⟩:∃ PC,p.take col = PC:=⟨_,rfl⟩
   rw [hFL,hPC] at hcat
   rw [hFL] at JN
   have hlc:FL.length + PC.length ≤ 100000:=by rw [← hFL,← hPC,← List.length_append,HU.out];exact lU
   have HPC:=hid hPC
   clear hFL hPC hB0 JC
   refine (wpIn_wide (n:=9)).1 ?_
   refine region_held (fun w':World=>w'.cell? ⟨bp,ln,none⟩ = some (.string (bs p))) (by kernel_rfl) ?_
   rw [hW0]
   clear hW0
   refine tkY 0 125 (.slice (some ⟨bp,0,none⟩) P.length P.length) rfl rfl hS0 (fun w' hs=>?_) ?_
   · go_simp
   refine tkY 1 126 (.int .i64 ln) rfl rfl hS0 (fun w' hs=>?_) ?_
   · go_simp
   refine tkY 2 127 (.slice (some ⟨bp,0,none⟩) ln P.length) rfl rfl hS0 (fun w' hs=>?_) ?_
   · go_simp
   refine tkY 4 129 (.slice (some ⟨bp,0,none⟩) P.length P.length) rfl rfl hS0 (fun w' hs=>?_) ?_
   · go_simp
   refine tkY 5 130 (.int .i64 ln) rfl rfl hS0 (fun w' hs=>?_) ?_
   · go_simp
   refine tkY 6 131 (.pointer (some ⟨bp,ln,none⟩)) rfl rfl hS0 (fun w' hs=>?_) ?_
   · go_simp
   refine tkY 7 132 (.string (bs p)) rfl rfl hS0 (fun w' hs=>?_) ?_
   · go_simp
   refine tkY 8 133 (.int .i64 col) rfl rfl hS0 (fun w' hs=>?_) ?_
   · go_simp
   refine tkY 9 134 (.string (bs PC)) rfl rfl hS0 (fun w' hs=>?_) ?_
   · go_simp
     rw [← HPC.out]
     exact bs_inj' (by rw [Lib.extract_from_zero];simp [bs])
   refine AnyH_one (i:=3) (by kernel_rfl) rfl (by kernel_rfl) (fun K hK=>?_)
   go_simp
   refine ⟨trivial,(callsIn_wide.2 JN.out).mono ?_⟩
   rintro e W1 ⟨rfl,hb⟩
   have hS1:W1.cell? ⟨bp,ln,none⟩ = some (.string (bs p)):=bc_ hb hbp hS0
   replace BZ:=hid (BZ.out.trans (hb.mono hz0))
   have hz1:wc.heap.size ≤ W1.heap.size:=BZ.out.size
   have hbp1:bp < W1.heap.size:=Nat.lt_of_lt_of_le hbp hb.size
   refine hK _ _ ⟨hS1,?_⟩
   clear hK hb hS0 JN hz0 hbp
   refine tkY 10 135 (.string (bs U)) rfl rfl hS1 (fun w' hs=>?_) ?_
   · go_simp
     omega
   refine AnyH_one (i:=11) (by kernel_rfl) rfl (by kernel_rfl) (fun K hK=>?_)
   go_simp
   refine ⟨trivial,(callsIn_wide.2 (PA.out W1)).mono ?_⟩
   rintro e W2 ⟨aU,cU,rfl,hF,hb⟩
   have hS2:W2.cell? ⟨bp,ln,none⟩ = some (.string (bs p)):=bc_ hb hbp1 hS1
   replace BZ:=hid (BZ.out.trans (hb.mono hz1))
   refine hK _ _ ⟨hS2,?_⟩
   clear hK hb hF hS1 PA hz1 hbp1
   refine tkY 12 124 (.tuple #[.slice aU (prsY U).len cU, .int .i64 ((prs U).2.1:Nat), .int .i64 ((prs U).2.2.1:Nat), .int .i64 ((prs U).2.2.2:Nat)]) rfl rfl hS2 (fun w' hs=>?_) ?_
   · go_simp
   refine tkY 13 137 (.slice aU (prsY U).len cU) rfl rfl hS2 (fun w' hs=>?_) ?_
   · go_simp
   refine tkY 14 138 (.int .i64 ((prs U).2.1:Nat)) rfl rfl hS2 (fun w' hs=>?_) ?_
   · go_simp
   refine tkY 15 139 (.int .i64 ((prs U).2.2.1:Nat)) rfl rfl hS2 (fun w' hs=>?_) ?_
   · go_simp
   refine tkY 16 140 (.int .i64 ((prs U).2.2.2:Nat)) rfl rfl hS2 (fun w' hs=>?_) ?_
   · go_simp
   refine tkY 17 18 (.slice aU (prsY U).len cU) rfl rfl hS2 (fun w' hs=>?_) ?_
   · go_simp
   refine tkY 18 19 (.int .i64 ((prs U).2.1:Nat)) rfl rfl hS2 (fun w' hs=>?_) ?_
   · go_simp
   refine tkY 19 20 (.int .i64 ((prs U).2.2.1:Nat)) rfl rfl hS2 (fun w' hs=>?_) ?_
   · go_simp
   refine tkY 20 21 (.int .i64 ((prs U).2.2.2:Nat)) rfl rfl hS2 (fun w' hs=>?_) ?_
   · go_simp
   refine AnyH_done (by kernel_rfl) ?_
   go_simp
   go_wp2_with fail
   go_meet
   case rel=>exact ⟨aU,cU,rfl,rfl,rfl,rfl,BZ⟩
  case rest=>
   obtain ⟨aU,cU,rfl,rfl,rfl,rfl,hbc⟩:=hcut
   obtain ⟨wF,hwF⟩:∃ wF,wF = wc:=⟨_,rfl⟩
   subst hwF
   have hb:=hbc.out
   replace Hy:=hid (Hy.out.on hb)
   replace HX:=hid (HX.out.on hb)
   replace BW:=hid (BW.out.trans (hb.mono BW.out.size))
   clear hb hbc BLK CELL
   rcases T5.out with ⟨h1,h2⟩ | h1
   · rw [h1]
     subst h2
     go_wp2_with fail
     refine (awake_any wF (HT.out.below BW.out)).mono ?_
     rintro e z_ ⟨rfl,hb⟩
     replace Hy:=hid (Hy.out.on hb)
     replace HX:=hid (HX.out.on hb)
     replace BW:=hid (BW.out.trans (hb.mono BW.out.size))
     clear hb
     go_wp2_with fail
     go_ret
     exact ⟨rfl,BW.out⟩
   rw [h1]
   have e1:((11:Int) == 11) = true:=by decide
   have e2:((ln:Int) == ln) = true:=by simp
   have e3:((col:Int) == col) = true:=by simp
   go_wp2_with fail
   refine (awake_any wF (HT.out.below BW.out)).mono ?_
   rintro e z_ ⟨rfl,hb⟩
   replace Hy:=hid (Hy.out.on hb)
   replace HX:=hid (HX.out.on hb)
   replace BW:=hid (BW.out.trans (hb.mono BW.out.size))
   clear hb
   go_wp2_with fail
   go_ret
   exact ⟨rfl,BW.out⟩
end Go.Proofs.LF
