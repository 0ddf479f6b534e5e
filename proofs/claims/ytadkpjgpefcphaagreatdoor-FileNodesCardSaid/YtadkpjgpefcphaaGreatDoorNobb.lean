/- Parts of the proof of a law of layer 11 (file): LfW122. The conditions stand in each theorem. -/
import Derived.Test.YtadkpjgpefcphaaGreatDoorProg
import Derived.Test.YtadkpjgpefcphaaGreatDoorNoan
import Derived.Test.YtadkpjgpefcphaaGreatDoorNoaz
import Derived.Test.YtadkpjgpefcphaaGreatDoorNoba
set_option linter.all false
set_option linter.unusedVariables false
set_option linter.unusedSimpArgs false
namespace Go.Proofs.LF
open Go.RowKit Go.Sort
set_option maxHeartbeats 4000000
set_option maxRecDepth 100000
attribute [local go_sem] bs_toList bs_size bs_get
def posN' (n:Nat):Bool:=decide (0 < n)
theorem rput_facts {y:Fo} {p:List Ky} {n:List UInt8} {l:List Int} {s:Fo} (h0:chkY y = 0) (hb:(posN' p.length && !(rfd (flsL [] y) p).isSome) = false) :
 p.length ≤ 4∧putE y p n l s = (if 60 < ((drP (p ++ [kyOf n l]) (flsL [] y)).length:Int) + many (.cons n l s .nil) 60 then 2 else chkF p.length (.cons n l s .nil)) ∧
 (putE y p n l s = 0→chkY (putF n l s p y) = 0∧rputL y p n l s = flsL [] (putF n l s p y)∧putY y p n l s = treR 4 (rputL y p n l s) []):=by
 obtain ⟨h1,h2⟩:=rput_put y p n l s
 have hc:¬ (p ≠ []∧(rfd (flsL [] y) p).isSome = false):=by
  rintro ⟨h3,h4⟩
  rw [h4] at hb
  have:0 < p.length:=List.length_pos_iff.2 h3
  simp [posN',this] at hb
 refine ⟨?_,?_,fun h=>?_⟩
 · cases p with
   | nil=>simp
   | cons k r=>
     cases hx:(rfd (flsL [] y) (k :: r)).isSome with
     | false=>exact absurd ⟨by simp,hx⟩ hc
     | true=>
       obtain ⟨x,hx,hxp⟩:=List.mem_map.1 (rfd_iff.1 hx)
       rw [← hxp];exact fls4 h0 x hx
 · rw [← h1,rputE,if_neg (by simp [h0]),if_neg hc]
 · obtain ⟨h3,h4,h5⟩:=h2 h
   have hk:chkY (putF n l s p y) = 0:=by rw [okG_chk h4,if_pos h5]
   refine ⟨hk,h3,?_⟩
   rw [putY,if_pos h,h3]
   exact (treR_year (fls_srt hk) fun x hx=>fls4 hk x hx).symm
theorem rput_miss {y:Fo} {p:List Ky} {n:List UInt8} {l:List Int} {s:Fo} (h0:chkY y = 0) (hb:(posN' p.length && !(rfd (flsL [] y) p).isSome) = true):putE y p n l s = 1:=by
 rw [← (rput_put y p n l s).1,rputE,if_neg (by simp [h0]),if_pos]
 rw [Bool.and_eq_true,posN',decide_eq_true_eq] at hb
 exact ⟨List.length_pos_iff.1 hb.1,by simpa using hb.2⟩
theorem fls_plen:∀ (y:Fo) (u:List Ky),∀ x ∈ flsL u y,x.p.length ≤ u.length + y.cnt
 | .nil,u,x,h=>by simp [flsL_nil] at h
 | .cons n l s r,u,x,h=>by
   rw [flsL_cons] at h
   simp only [Fo.cnt]
   rcases List.mem_cons.1 h with rfl | h
   · simp;omega
   · rcases List.mem_append.1 h with h | h
     · have:=fls_plen s _ x h
       simp at this;omega
     · have:=fls_plen r _ x h
       omega
theorem putsR_snoc:∀ (m L:List Fl) (x:Fl),putsR L (m ++ [x]) = putR x (putsR L m)
 | [],_,_=>rfl
 | z :: m,L,x=>by rw [List.cons_append,putsR,putsR,putsR_snoc m]
theorem RefPut_any (y:Fo) (p:List Ky) (n:List UInt8) (l:List Int) (s:Fo) (ay ap an ab:Option Addr) (cy cp cn cb:Nat) (w:World) (hy:FSl (fun q=>q < w.heap.size) w (.slice ay y.len cy) y) (hp:Pth (fun q=>q < w.heap.size) w (.slice ap p.length cp) p)
 (hI:Ints (fun q=>q < w.heap.size) w (.slice an l.length cn) l) (hF:FSl (fun q=>q < w.heap.size) w (.slice ab s.len cb) s) (ly:y.len ≤ 1000∧y.Sm∧y.cnt ≤ 400) (lp:p.length ≤ 1000) (ln:n.length ≤ 1000∧l.length ≤ 1000∧s.len ≤ 1000∧s.Sm∧s.cnt ≤ 400) :
 Calls Tryz.prog 58 #[.slice ay y.len cy, .slice ap p.length cp, .agg #[.string (bs n), .slice an l.length cn, .slice ab s.len cb]] w fun e w'=>∃ a c,e = .returned (.tuple #[.slice a (putY y p n l s).len c, .int .i64 (putE y p n l s)])∧FSl (fun q=>q < w'.heap.size) w' (.slice a (putY y p n l s).len c) (putY y p n l s)∧Below w.heap.size w w':=by
 obtain ⟨j0,hj0,hy0,hy1,hy2⟩:=info_parts Tryz.info160
 have hb0:Below w.heap.size w (w.alloc (.cells #[.string (bs n), .slice an l.length cn, .slice ab s.len cb] 97)):=(Below.refl _ _).alloc (nl_ _) _
 have HN0:=hid (heap_alloc_new w (.cells #[.string (bs n), .slice an l.length cn, .slice ab s.len cb] 97))
 have CK:=hid (refCheck_any y ay cy _ _ (hy.on hb0) (fun _ h=>h) ly.1 ly.2.1)
 have HB0:=hid hb0
 have HY:=hid hy
 have HP:=hid hp
 have HI:=hid hI
 have HF:=hid hF
 have LN:=hid ln
 have LY:=hid ly
 clear hb0 hy hp hI hF ln
 by_cases h0:chkY y = 0
 rotate_left
 · have hE:putE y p n l s = chkY y:=by rw [putE,if_pos h0]
   have hY:putY y p n l s = .nil:=by rw [putY,if_neg (by rw [hE];exact h0)]
   rw [hE,hY]
   obtain ⟨E,hEE⟩:∃ E,chkY y = E:=⟨_,rfl⟩
   rw [hEE] at CK h0 ⊢
   have h0':(E != 0) = true:=by simpa using h0
   clear hE hY hEE ly
   go_enter Tryz.func58,Tryz.ntmps58
   go_wp2_with fail
   refine CK.out.mono ?_
   rintro e w1 ⟨rfl,hb⟩
   have HB:=hid (HB0.out.trans (hb.mono (by simp)))
   clear hb
   go_wp2_with fail
   refine bodyPost_ret (v := .tuple #[.slice none 0 0, .int .i64 E]) (by simp [results,Tryz.results58,go_sem]) rfl ?_
   exact ⟨none,0,rfl,⟨[],⟨rfl,none,0,rfl,nl_ _,by simp [maxLen],fun _=>rfl, .inl rfl⟩,rfl⟩,HB.out⟩
 have H0:=hid h0
 obtain ⟨ma,sa⟩:=fls_sml h0 ly.2.1
 have num:=fun x hx=>fls_num h0 x hx
 have four:=fun x hx=>fls4 h0 x hx
 have MISS:=hid (rput_miss (y:=y) (p:=p) (n:=n) (l:=l) (s:=s) h0)
 have GOOD:=hid (rput_facts (y:=y) (p:=p) (n:=n) (l:=l) (s:=s) h0)
 rw [h0] at CK
 obtain ⟨E,hE⟩:∃ E,putE y p n l s = E:=⟨_,rfl⟩
 rw [hE] at MISS GOOD
 have HE:=hid hE
 rw [hE]
 have L1:=fun w1 (h:Below w.heap.size w w1)=>Lines_at y ay cy w1 (HY.out.on h) ly
 have HRL:=hid (show rputL y p n l s = putsR (drP (p ++ [kyOf n l]) (flsL [] y)) (flsL p (.cons n l s .nil)) from rfl)
 have LA:=hid (show ∀ x ∈ flsL [] y,x.p.length ≤ 4∧x.l.length ≤ 900 from fun x hx=>⟨four x hx,num x hx⟩)
 obtain ⟨a,ha⟩:∃ a,flsL [] y = a:=⟨_,rfl⟩
 rw [ha] at MISS GOOD HRL LA sa ma
 simp only [ha] at L1
 have L1:=hid L1
 have SA:=hid sa
 clear hE h0 sa num four ly ha
 go_enter Tryz.func58,Tryz.ntmps58
 go_wp2_with fail
 refine CK.out.mono ?_
 rintro e w1 ⟨rfl,hb⟩
 have B1:=hid (HB0.out.trans (hb.mono (by simp)))
 have hz1:=hb.size
 simp only [World.size_alloc] at hz1
 have HN1:=hid ((hb.block w.heap.size (by simp)).trans HN0.out)
 clear hb CK HN0
 go_wp2_with fail
 refine (L1.out w1 B1.out).mono ?_
 rintro e w2 ⟨a2,c2,rfl,h2,hb2⟩
 have H2:=hid h2
 have hz2:=hb2.size
 have B2:=hid (B1.out.trans (hb2.mono (by omega)))
 have HN2:=hid ((hb2.block w.heap.size (by omega)).trans HN1.out)
 clear h2 hb2 L1 HN1
 go_upto_region 5 with fail
 obtain ⟨fo,hfo⟩:∃ fo,(rfd a p).isSome = fo:=⟨_,rfl⟩
 obtain ⟨bad,hbad⟩:∃ bad:Bool,(posN' p.length && !fo) = bad:=⟨_,rfl⟩
 rw [hfo,hbad] at MISS GOOD
 have HBAD:=hid hbad
 have HFO:=hid hfo
 clear hbad hfo
 go_cut [29] from 21 to 28 (fun v wx=>v = .bool bad∧Below w2.heap.size w2 wx)
 case first=>
  have hps1:∀ n:Nat,decide ((0:Int) < (n:Int)) = posN' n:=fun n=>by simp [posN']
  have hps2:∀ n:Nat,decide (0 < n) = posN' n:=fun n=>rfl
  obtain ⟨b0,hb0⟩:∃ b,posN' p.length = b:=⟨_,rfl⟩
  cases b0 with
  | false=>
    have HQ:=hid hb0
    go_wp2_with fail
    go_meet
    case rel=>
     have h1:=HBAD.out
     rw [HQ.out] at h1
     exact ⟨by rw [← h1];rfl,Below.refl _ _⟩
  | true=>
    have HQ:=hid hb0
    have FF:=Find_any a p a2 ap c2 cp _ w2 H2.out (HP.out.on B2.out) (fun _ h=>h) SA.out.big.1 (fun x hx=>(SA.out.big.2 x hx).1) lp
    rcases fi_cases a p with ⟨j,hj,f1,f2,f3⟩ | ⟨f1,f2⟩
    · rw [f1] at FF
      have h1:=HBAD.out
      have h3:=HFO.out
      rw [f2] at h3
      rw [HQ.out,← h3] at h1
      have H1:=hid h1
      have hj0:¬ (j:Int) < 0:=by omega
      have FF:=hid FF
      clear f1 f2 f3 h1 h3
      go_wp2_with fail
      refine FF.out.mono ?_
      rintro e w3 ⟨rfl,hb3⟩
      have HB3:=hid hb3
      clear hb3
      go_wp2_with fail
      go_meet
      case rel=>exact ⟨by rw [← H1.out];rfl,HB3.out⟩
    · rw [f1] at FF
      have h1:=HBAD.out
      have h3:=HFO.out
      rw [f2] at h3
      rw [HQ.out,← h3] at h1
      have H1:=hid h1
      have FF:=hid FF
      clear f1 f2 h1 h3
      go_wp2_with fail
      refine FF.out.mono ?_
      rintro e w3 ⟨rfl,hb3⟩
      have HB3:=hid hb3
      clear hb3
      go_wp2_with fail
      go_meet
      case rel=>exact ⟨by rw [← H1.out];rfl,HB3.out⟩
 case rest=>
  obtain ⟨rfl,hb3⟩:=hcut
  have hz3:=hb3.size
  have BC:=hid (B2.out.trans (hb3.mono (by omega)))
  have HC:=hid (H2.out.on hb3)
  have HNC:=hid ((hb3.block w.heap.size (by omega)).trans HN2.out)
  clear hb3 HN2 H2
  cases bad with
  | true=>
    have hE:=MISS.out rfl
    have HEE:=hid hE
    clear hE
    go_wp2_with fail
    refine bodyPost_ret (v := .tuple #[.slice none 0 0, .int .i64 1]) (by simp [results,Tryz.results58,go_sem]) rfl ?_
    have hY:putY y p n l s = .nil:=by rw [putY,HE.out,if_neg (by rw [HEE.out];decide)]
    rw [HEE.out,hY]
    exact ⟨none,0,rfl,⟨[],⟨rfl,none,0,rfl,nl_ _,by simp [maxLen],fun _=>rfl, .inl rfl⟩,rfl⟩,BC.out⟩
  | false=>
  obtain ⟨lp4,hEQ,hZ⟩:=GOOD.out rfl
  have HZ:=hid hZ
  have HEQ:=hid hEQ
  clear hZ hEQ MISS GOOD HBAD HFO
  have dd0:=cg_ HNC.out (k:=0) rfl
  have dd1:=cg_ HNC.out (k:=1) rfl
  have hsz:w.heap.size < wc.heap.size:=by omega
  have hlu:=len_keys p
  have hnone:=fun e:ap = none=>(SlC.caps HP.out).2.2 e
  go_wp2_with fail
  go_region_held3 (fun w'=>w'.cell? ⟨w.heap.size,0,none⟩ = some (.string (bs n))∧w'.cell? ⟨w.heap.size,1,none⟩ = some (.slice an l.length cn))
   (first
     | go_keep
     | (go_split_ands;exact ⟨grown_cell hgrow1 (by simp [Value.ownBlock];omega) (by assumption),grown_cell hgrow1 (by simp [Value.ownBlock];omega) (by assumption)⟩)
     | (go_split_ands;exact ⟨bc_ hb2 (by have:=hq1.out;omega) (by assumption),bc_ hb2 (by have:=hq1.out;omega) (by assumption)⟩)
     | (go_split_ands;exact ⟨grown_cell hgrow3 hne3 (by assumption),grown_cell hgrow3 hne3 (by assumption)⟩))
   (first
     | ((refine step_append_ao _ (by rfl) _ _ _ (by rfl) wc.heap.size 160 j0 _ 3 32 Tryz.underlying92 hj0 hy0 hy1 hy2 rfl (by omega) _ 0 [] (by rfl) (World.ownsRow.drew (owns_of_row (w := wc.alloc (.cells #[] 160)) (n := 0) (cap := 0) (cur := #[]) (nl_ _) (heap_alloc_new _ _) (by omega) (by unfold maxLen; omega) (by simp) (by simp))) ap p.length cp _ (by rfl) hlu hnone (SlC.news HP.out (Ag_b ((BC.out.alloc (Nat.le_of_lt hsz) _).drew) (fun _ h => h))) (one_keys p) (by unfold maxLen; omega) (by omega) (by simp) ?_)
        intro a1 c1 w1 hown1 hgrow1 hat1
        simp only [Nat.zero_add,List.nil_append] at hown1 hat1
        have hb1:Below wc.heap.size wc w1:=(((Below.refl _ _).alloc (nl_ _) _).drew).grown hgrow1 (by simp) (fun b hb=>by simp [Value.ownBlock] at hb;omega)
        have hq1:=hid (show w.heap.size < w1.heap.size by have:=hb1.size;omega))
     | (go_at_call 107;refine (KeyOf_any n l an cn (fun q=>q < w.heap.size) _ (HI.out.agree (Ag_b (BC.out.trans (hb1.mono (Nat.le_of_lt hsz))) (fun _ h=>h))) (fun b h=>by have:=hq1.out;omega)).mono ?_;rintro e w2 ⟨rfl,hb2⟩)
     | ((refine step_append_ao _ (by rfl) _ _ _ (by rfl) wc.heap.size 160 j0 _ 3 32 Tryz.underlying92 hj0 hy0 hy1 hy2 rfl (by omega) (.slice a1 p.length c1) p.length (p.flatMap Ky.cells) (by rfl) ((ob_ hown1 hb2 (nl_ _)).alloc _) (some ⟨w2.heap.size, 0, none⟩) 1 1 [.string (bs (kyOf n l).n), .bool (kyOf n l).h, .int .i64 (kyOf n l).x] (by rfl) (by rfl) (fun h => by cases h) (fun ad had => by cases had; exact World.news_of_block (cs := #[.string (bs (kyOf n l).n), .bool (kyOf n l).h, .int .i64 (kyOf n l).x]) (t := 160) (fr := (0, 0)) (heap_alloc_new _ _)) (by simp [Value.oneCell']) (by unfold maxLen; omega) (by omega) (by have := hb1.size; have := hb2.size; simp; omega) ?_)
        intro a3 c3 w3 hown3 hgrow3 hat3
        have hne3:(Value.slice a1 p.length c1).ownBlock ≠ some w.heap.size:=fun e=>by have:=(hown1.lt w.heap.size e).1;omega))
  have hz1':=hq1.out
  have hz2':=hb2.size
  have hb3:Below wc.heap.size wc w3:=((hb1.trans (hb2.mono hb1.size)).alloc (by have:=hb1.size;omega) _).grown hgrow3 (by have:=hb1.size;simp;omega) (fun b hb=>(hown1.lt b hb).1)
  have hz4:=hb3.size
  have hkp:(p ++ [kyOf n l]).length = p.length + 1:=by simp
  obtain ⟨q,hq⟩:∃ q,p ++ [kyOf n l] = q:=⟨_,rfl⟩
  have hp3:Pth (Rg wc.heap.size w3.heap.size) w3 (.slice a3 (p.length + 1) c3) q:=by
   have h:=SlC.of_owns hown3
   unfold Pth
   rw [← hq,hkp,show (p ++ [kyOf n l]).flatMap Ky.cells = p.flatMap Ky.cells ++ [.string (bs (kyOf n l).n), .bool (kyOf n l).h, .int .i64 (kyOf n l).x] by simp [Ky.cells]]
   exact h
  rw [hq] at hkp HEQ HRL
  rw [← hkp] at hp3
  have BD:=hid (BC.out.trans (hb3.mono (by omega)))
  have HD:=hid (HC.out.on hb3)
  have HND:=hid ((hb3.block w.heap.size (by omega)).trans HNC.out)
  have WO:=(without_any a q a2 a3 c2 c3 _ w3 HD.out (hp3.wide (S':=fun q=>q < w3.heap.size) fun b hb=>hb.2) (fun _ h=>h) ⟨by have:=SA.out.1;omega,SA.out.2⟩ (by omega))
  rw [hkp] at WO
  clear hkp hown1 hgrow1 hat1 hb1 hb2 hown3 hgrow3 hat3 hne3 hz1' hz2' hb3 hp3 hq hnone hlu HNC dd0 dd1
  go_wp2_with fail
  refine WO.mono ?_
  rintro e w4 ⟨a4,c4,rfl,hR,hb4⟩
  have hz5:=hb4.size
  have B4:=hid (BD.out.trans (hb4.mono (by omega)))
  have HN4:=hid ((hb4.block w.heap.size (by omega)).trans HND.out)
  have L4:=hid ((hR.lsl).wide (S':=fun q=>q < w4.heap.size) fun q hq=>by
   rcases hq with hq | hq
   · omega
   · exact hq.2)
  have LC:=hid (show ∀ x ∈ drP q a,x.p.length ≤ 4∧x.l.length ≤ 900 from fun x hx=>LA.out x (drP_mem.1 hx).1)
  have hlen:(drP q a).length ≤ a.length:=List.length_filter_le _ _
  obtain ⟨cur,hcur⟩:∃ cur,drP q a = cur:=⟨_,rfl⟩
  rw [hcur] at L4 LC hlen HEQ HRL
  simp only [hcur]
  have dd0:=cg_ HN4.out (k:=0) rfl
  have dd1:=cg_ HN4.out (k:=1) rfl
  have dd2:=cg_ HN4.out (k:=2) rfl
  have M0:=many_cnt (.cons n l s .nil) 60 (by omega)
  obtain ⟨mm,hmm⟩:∃ mm,many (.cons n l s .nil) 60 = mm:=⟨_,rfl⟩
  have hcn:(Fo.cons n l s .nil).cnt = 1 + s.cnt:=by simp only [Fo.cnt];omega
  have HCN:=hid hcn
  have m0:0 ≤ mm:=by rw [← hmm,M0];omega
  have m1:mm ≤ 61:=by rw [← hmm,M0];omega
  obtain ⟨x1,x2,x3,x4,x5⟩:=LN.out
  have SMN:Hid (Fo.cons n l s .nil).Sm:=⟨x1,x2,x3,x4,trivial⟩
  have hbA:Below w4.heap.size w4 (w4.alloc (.cells #[.string (bs n), .slice an l.length cn, .slice ab s.len cb] 97)):=(Below.refl _ _).alloc (nl_ _) _
  have NODE:Hid (∀ W,Below w.heap.size w W→∀ b,W.heap[b]? = some (.cells #[.string (bs n), .slice an l.length cn, .slice ab s.len cb] 97 (0,0))→FSl (fun q=>q < W.heap.size) W (.slice (some ⟨b,0,none⟩) 1 1) (.cons n l s .nil)):=fun W hW b hb=>
   (one_node hb (HI.out.agree (Ag_b hW (fun _ h=>h))) (HF.out.agree (Ag_b hW (fun _ h=>h)))).wide (fun q hq=>by
    rcases hq with hq | hq
    · have:=hW.size;omega
    · rw [hq];exact (Array.getElem?_eq_some_iff.1 hb).1)
  have BA:=B4.out.trans (hbA.mono (by omega))
  have MA:=many_any ((Fo.cons n l s .nil).cnt + 1) (.cons n l s .nil) 60 (some ⟨w4.heap.size,0,none⟩) 1 _ _ (Nat.lt_succ_self _) (by decide) (by decide) (NODE.out _ BA w4.heap.size (heap_alloc_new _ _)) (fun _ h=>h)
  rw [hmm] at MA HEQ
  have MA:=hid MA
  have B5:=hid BA
  have L5:=hid (L4.out.on hbA)
  have HN5:=hid ((hbA.block w.heap.size (by omega)).trans HN4.out)
  have hzA:=hbA.size
  have HBA:=hid hbA
  clear hbA BA hR hb4 hcur M0 hmm hcn
  go_wp2_with fail
  refine MA.out.mono ?_
  rintro e w5 ⟨rfl,rfl⟩
  have hcl:(cur.length:Int) ≤ 60:=by omega
  have hcl0:(0:Int) ≤ (cur.length:Int):=by omega
  by_cases hmany:60 < (cur.length:Int) + mm
  · have hE:=HEQ.out
    rw [if_pos hmany] at hE
    have HEE:=hid hE
    clear hE
    go_wp2_with fail
    refine bodyPost_ret (v := .tuple #[.slice none 0 0, .int .i64 2]) (by simp [results,Tryz.results58,go_sem]) rfl ?_
    have hY:putY y p n l s = .nil:=by rw [putY,HE.out,if_neg (by rw [HEE.out];decide)]
    rw [HEE.out,hY]
    exact ⟨none,0,rfl,⟨[],⟨rfl,none,0,rfl,nl_ _,by simp [maxLen],fun _=>rfl, .inl rfl⟩,rfl⟩,B5.out⟩
  have hE:=HEQ.out
  rw [if_neg hmany] at hE
  obtain ⟨w5,hw5⟩:∃ w5,w4.alloc (.cells #[.string (bs n), .slice an l.length cn, .slice ab s.len cb] 97) = w5:=⟨_,rfl⟩
  rw [hw5] at B5 L5 HN5 hzA HBA MA ⊢
  have e0:=cg_ HN5.out (k:=0) rfl
  have e1:=cg_ HN5.out (k:=1) rfl
  have e2:=cg_ HN5.out (k:=2) rfl
  have hb6:Below w5.heap.size w5 (w5.alloc (.cells #[.string (bs n), .slice an l.length cn, .slice ab s.len cb] 97)):=(Below.refl _ _).alloc (nl_ _) _
  have B6:=hid (B5.out.trans (hb6.mono (by omega)))
  have L6:=hid (L5.out.on hb6)
  have HN6:=hid ((hb6.block w.heap.size (by omega)).trans HN5.out)
  have hz6:=hb6.size
  have CHK:=check_any ((Fo.cons n l s .nil).cnt + 1) (.cons n l s .nil) p.length (some ⟨w5.heap.size,0,none⟩) 1 _ _ (Nat.lt_succ_self _) (by omega) (by omega) (NODE.out _ B6.out w5.heap.size (heap_alloc_new _ _)) (fun _ h=>h) (by simp [Fo.len]) SMN.out
  rw [← hE] at CHK
  have CHK:=hid CHK
  clear hE hb6 hw5
  go_wp2_with fail
  refine CHK.out.mono ?_
  rintro e w7 ⟨rfl,hb7⟩
  have hz7:=hb7.size
  have B7:=hid (B6.out.trans (hb7.mono (by omega)))
  have L7:=hid (L6.out.on hb7)
  have HN7:=hid ((hb7.block w.heap.size (by omega)).trans HN6.out)
  clear hb7 e0 e1 e2 dd0 dd1 dd2 CHK L6 L5
  by_cases hE0:E = 0
  rotate_left
  · have h0':(E != 0) = true:=by simpa using hE0
    go_wp2_with fail
    refine bodyPost_ret (v := .tuple #[.slice none 0 0, .int .i64 E]) (by simp [results,Tryz.results58,go_sem]) rfl ?_
    have hY:putY y p n l s = .nil:=by rw [putY,HE.out,if_neg hE0]
    rw [hY]
    exact ⟨none,0,rfl,⟨[],⟨rfl,none,0,rfl,nl_ _,by simp [maxLen],fun _=>rfl, .inl rfl⟩,rfl⟩,B7.out⟩
  subst hE0
  obtain ⟨f1,f2,f3⟩:=HZ.out rfl
  have HY2:=hid f3
  have HF1:=hid (show ∀ x ∈ rputL y p n l s,x.p.length ≤ 4∧x.l.length ≤ 900 from fun x hx=>by rw [f2] at hx;exact ⟨fls4 f1 x hx,fls_num f1 x hx⟩)
  have HF2:=hid (show (rputL y p n l s).length ≤ 60 by rw [f2];exact (fls_ok f1).2.2)
  clear f1 f2 f3 HZ HEQ
  have e0:=cg_ HN7.out (k:=0) rfl
  have e1:=cg_ HN7.out (k:=1) rfl
  have e2:=cg_ HN7.out (k:=2) rfl
  have hb8:Below w7.heap.size w7 (w7.alloc (.cells #[.string (bs n), .slice an l.length cn, .slice ab s.len cb] 97)):=(Below.refl _ _).alloc (nl_ _) _
  have B8:=hid (B7.out.trans (hb8.mono (by omega)))
  have L8:=hid (L7.out.on hb8)
  have hz8:=hb8.size
  have LI:=Lines_any ((Fo.cons n l s .nil).cnt + 1) (.cons n l s .nil) p (some ⟨w7.heap.size,0,none⟩) 1 ap cp _ _ (Nat.lt_succ_self _) (NODE.out _ B8.out w7.heap.size (heap_alloc_new _ _)) (HP.out.on B8.out) (fun _ h=>h) (by simp [Fo.len]) SMN.out (by rw [HCN.out];omega)
  rw [lines_fls] at LI
  have hml:(flsL p (.cons n l s .nil)).length ≤ 401:=by rw [flsL_length,HCN.out];omega
  have HMS:=hid (show ∀ x ∈ flsL p (.cons n l s .nil),x.p.length ≤ 1000 from fun x hx=>by
   have:=fls_plen _ p x hx
   rw [HCN.out] at this;omega)
  obtain ⟨more,hmore⟩:∃ more,flsL p (.cons n l s .nil) = more:=⟨_,rfl⟩
  rw [hmore] at LI hml HMS HRL
  have LI:=hid LI
  clear hb8 hmore
  go_wp2_with fail
  refine LI.out.mono ?_
  rintro e w9 ⟨a9,c9,rfl,h9,hb9⟩
  have hz9:=hb9.size
  have B9:=hid (B8.out.trans (hb9.mono (by omega)))
  have L9:=hid (L8.out.on hb9)
  have H9:=hid (h9.wide (S':=fun q=>q < w9.heap.size) fun q hq=>by
   rcases hq with hq | hq
   · omega
   · exact hq.2)
  clear h9 hb9 LI L8 L7
  obtain ⟨_,_,he,_,hmb,hbt⟩:=H9.out.at
  cases he
  unfold maxLen at hmb
  have HBT:=hid hbt
  clear hbt e0 e1 e2
  go_wp2_with fail
  go_loopw [9,13] (fun v iv wr=>∃ (k:Nat) (out:List Fl) (ao:Option Addr) (co:Nat),k ≤ more.length∧iv = .int .i64 k∧v = .slice ao out.length co∧out.length ≤ 60 + k∧Hid (LSl rdFl (fun q=>q < wr.heap.size) wr (.slice ao out.length co) out)∧Hid (∀ x ∈ out,x.p.length ≤ 1000)∧Hid (out = putsR cur (more.take k))∧Hid (Below w9.heap.size w9 wr)) (fun _ iv _=>more.length - (intOf iv).toNat)
  case atStart=>exact ⟨0,cur,a4,c4,by omega,rfl,rfl,by omega,L9.out,(fun x hx=>by have:=(LC.out x hx).1;omega),rfl,Below.refl _ _⟩
  case round=>
   obtain ⟨k,out,ao,co,hk,rfl,rfl,hol,hL,hX,hU,hB⟩:=hrel
   have hz:=hB.out.size
   have i1:(0:Int) ≤ (k:Int):=by omega
   by_cases hlt:k < more.length
   · have hlt':(k:Int) < (more.length:Int):=by omega
     obtain ⟨g,o,cs1,rfl,hg,⟨ax,cx,an,cn,rfl,hP,hI⟩,hcell⟩:=HBT.out k hlt
     have hmem:more[k] ∈ more:=List.getElem_mem hlt
     have htk:more.take (k + 1) = more.take k ++ [more[k]]:=List.take_succ_eq_append_getElem hlt
     obtain ⟨x,hx⟩:∃ x,more[k] = x:=⟨_,rfl⟩
     rw [hx] at hP hI hcell htk hmem
     have lx:=HMS.out x hmem
     have e0:=hcell 0 _ rfl
     have e1:=hcell 1 _ rfl
     rw [Nat.add_zero] at e0
     rw [← Nat.add_assoc] at e1
     have c0:=bc_ hB.out hg e0
     have c1:=bc_ hB.out hg e1
     have hu:=hU.out
     have hu2:putR x out = putsR cur (more.take (k + 1)):=by rw [htk,putsR_snoc,← hu]
     have HU2:=hid hu2
     have PU:=hid (putR_any out x ao ax an co cx cn _ wr hL.out (hP.on hB.out) ((hI.agree (Ag_b hB.out (fun _ h=>h))).wide (S':=fun q=>q < wr.heap.size) fun q hq=>Nat.lt_of_lt_of_le hq hB.out.size) (fun _ h=>h) (by omega) hX.out lx)
     have HLX:=hid lx
     clear hcell hP hI hmem hx htk hu hu2
     go_wp2_with fail
     refine PU.out.mono ?_
     rintro e wq ⟨v,rfl,hrow,hb2⟩
     obtain ⟨aq,cq,rfl,_,_⟩:=hrow.shape
     have hz2:=hb2.size
     have hL2:=hid ((hrow.lsl).wide (S':=fun q=>q < wq.heap.size) (fun q hq=>by
      rcases hq with h | h
      · omega
      · exact h.2))
     have hX2:Hid (∀ y ∈ putR x out,y.p.length ≤ 1000):=fun y hy=>by
      rcases putR_mem.1 hy with h | h
      · rw [h];exact HLX.out
      · exact hX.out y h
     have hpl:=hid (putR_length x out)
     clear hrow
     go_wp2_with fail
     go_roundw
     case rel=>exact ⟨k + 1,putR x out,aq,cq,by omega,by go_num,rfl,by have:=hpl.out;omega,hL2,hX2,HU2,hB.out.trans (hb2.mono hz)⟩
     case measure=>simp [intOf];omega
   · have hlt':¬ (k:Int) < (more.length:Int):=by omega
     obtain rfl:k = more.length:=by omega
     have hu:=hU.out
     rw [List.take_length,← HRL.out] at hu
     have B10:=hid (B9.out.trans (hB.out.mono (by omega)))
     obtain ⟨fin,hfin⟩:∃ fin,rputL y p n l s = fin:=⟨_,rfl⟩
     rw [hfin] at HF1 HF2 HY2 hu
     subst hu
     have TT:=hid (Tree_all out ao co (by have:=HF2.out;omega) (fun x hx=>by have:=HF1.out x hx;omega) 4 [] none 0 (by simp) (fun x hx=>by simpa using (HF1.out x hx).1) _ wr hL.out ⟨rfl,none,0,rfl,nl_ _,by simp [maxLen],fun _=>rfl, .inl rfl⟩ (fun _ h=>h))
     clear hfin
     go_wp2_with fail
     refine TT.out.mono ?_
     rintro e w5' ⟨a5,c5,rfl,hF5,hb5⟩
     have B11:=hid (B10.out.trans (hb5.mono B10.out.size))
     have HF5:=hid hF5
     clear hF5 hb5
     go_wp2_with fail
     refine bodyPost_ret (v := .tuple #[.slice a5 (treR 4 out []).len c5, .int .i64 0]) (by simp [results,Tryz.results58,go_sem]) rfl ?_
     rw [HY2.out]
     exact ⟨a5,c5,rfl,HF5.out.wide (fun q hq=>hq.2),B11.out⟩
end Go.Proofs.LF
