/- Parts of the proof of a law of layer 11 (file): LfW121, LfW120, LfW123. The conditions stand in each theorem. -/
import Derived.Test.YtadkpjgpefcphaaGreatDoorProg
import Derived.Test.YtadkpjgpefcphaaGreatDoorNoab
import Derived.Test.YtadkpjgpefcphaaGreatDoorNoac
import Derived.Test.YtadkpjgpefcphaaGreatDoorNoag
import Derived.Test.YtadkpjgpefcphaaGreatDoorNoal
import Derived.Test.YtadkpjgpefcphaaGreatDoorNoan
import Derived.Test.YtadkpjgpefcphaaGreatDoorNoaq
import Derived.Test.YtadkpjgpefcphaaGreatDoorNoaw
import Derived.Test.YtadkpjgpefcphaaGreatDoorNoax
import Derived.Test.YtadkpjgpefcphaaGreatDoorNoay
import Derived.Test.YtadkpjgpefcphaaGreatDoorNoaz
import Derived.Test.YtadkpjgpefcphaaGreatDoorNobb
import Derived.Test.YtadkpjgpefcphaaGreatDoorNobc
set_option linter.all false
set_option linter.unusedVariables false
set_option linter.unusedSimpArgs false
namespace Go.Proofs.LF
open Go.RowKit Go.Sort
set_option maxHeartbeats 4000000
set_option maxRecDepth 100000
attribute [local go_sem] bs_toList bs_size bs_get
theorem get_ref {y:Fo} {p:List Ky} (hy:chkY y = 0):(∀ n l s,atF y p = some (n,l,s)→rfd (flsL [] y) p = some ⟨p,l⟩∧lastM p = n∧treR 4 (flsL [] y) p = s∧p ≠ [])∧(atF y p = none→rfd (flsL [] y) p = none):=by
 have hs:=fls_srt hy
 refine ⟨fun n l s h=>?_,fun h=>?_⟩
 · obtain ⟨h1,h2,h3⟩:=at_fls p y [] n l s hs.nodup h
   rw [List.nil_append] at h1 h3
   refine ⟨rfd_mem hs h1,h2,treR_fls 4 s p _ (hgt_le s p 4 fun x hx=>?_) h3 ?_,fun e=>?_⟩
   · have hm:x ∈ flsL [] y:=by rw [← h3] at hx;exact (List.mem_filter.1 hx).1
     have:=fls4 hy x hm
     omega
   · rw [← h3]
     exact Srt.nodup (show Srt _ from List.Pairwise.sublist List.filter_sublist hs)
   · subst e
     cases y <;> cases h
 · by_cases hp:p = []
   · subst hp
     exact rfd_none_of fun x hx=>flsL_ne x hx
   · exact rfd_none_of fun x hx=>by simpa using at_none p y [] hp h hs.nodup x hx
theorem node_set97 {W:World} {b:Nat} {x y z x' y' z':Value} (h:W.heap[b]? = some (.cells #[x,y,z] 97 (0,0))):(((W.setCell ⟨b,0,none⟩ x').setCell ⟨b,1,none⟩ y').setCell ⟨b,2,none⟩ z').heap[b]? = some (.cells #[x',y',z'] 97 (0,0)):=by
 simp [World.setCell,Array.getElem?_modify,h]
theorem ret57 {tmps:Array Value} {W:World} {b:Nat} {x y z t5:Value} (h:W.heap[b]? = some (.cells #[x,y,z] 97 (0,0))) (h2:tmps.getD 4 undef = .pointer (some ⟨b,0,none⟩)) (h3:tmps.getD 5 undef = t5) :
 (results Tryz.f57 tmps).run Tryz.prog W = .ok (.tuple #[.agg #[x,y,z],t5]) W:=by
 have h0:=cg_ h (k:=0) rfl
 have h1:=cg_ h (k:=1) rfl
 have h4:=cg_ h (k:=2) rfl
 rw [results_cell_tmp rfl,h2,h3]
 simp [go_sem,h0,h1,h4]
def RGetR (y:Fo) (p:List Ky) (w:World) (e:Ending) (w':World):Prop:=
 ∃ n l s an cn ab cb,getN y p = (n,l,s)∧e = .returned (.tuple #[.agg #[.string (bs n), .slice an l.length cn, .slice ab s.len cb], .int .i64 (getE y p)]) ∧
  Ints (fun q=>q < w'.heap.size) w' (.slice an l.length cn) l∧FSl (fun q=>q < w'.heap.size) w' (.slice ab s.len cb) s∧Below w.heap.size w w'
theorem RGetR.bad {y:Fo} {p:List Ky} {w w':World} {x:Int} (hx:getE y p = x) (h0:x ≠ 0) (hb:Below w.heap.size w w'):RGetR y p w (.returned (.tuple #[.agg #[.string { data:=#[] }, .slice none 0 0, .slice none 0 0], .int .i64 x])) w':=by
 subst hx
 exact ⟨[],[], .nil,none,0,none,0,by simp [getN,h0],rfl,⟨rfl,none,0,rfl,nl_ _,by simp [maxLen],fun _=>rfl, .inl rfl⟩,⟨[],⟨rfl,none,0,rfl,nl_ _,by simp [maxLen],fun _=>rfl, .inl rfl⟩,rfl⟩,hb⟩
theorem RefGet_any (y:Fo) (p:List Ky) (ay ap:Option Addr) (cy cp:Nat) (w:World) (hy:FSl (fun q=>q < w.heap.size) w (.slice ay y.len cy) y) (hp:Pth (fun q=>q < w.heap.size) w (.slice ap p.length cp) p) (ly:y.len ≤ 1000∧y.Sm∧y.cnt ≤ 400) (lp:p.length ≤ 800) :
 Calls Tryz.prog 57 #[.slice ay y.len cy, .slice ap p.length cp] w (RGetR y p w):=by
 obtain ⟨i3,hi3,hq0,hq1,hq2⟩:=info_parts Tryz.info3
 have hb0:Below w.heap.size w (w.alloc (.cells #[.string { data:=#[] }, .slice none 0 0, .slice none 0 0] 97)):=(Below.refl _ _).alloc (nl_ _) _
 have hR0:=heap_alloc_new w (.cells #[.string { data:=#[] }, .slice none 0 0, .slice none 0 0] 97)
 obtain ⟨w0,hw0⟩:∃ w0,w.alloc (.cells #[.string { data:=#[] }, .slice none 0 0, .slice none 0 0] 97) = w0:=⟨_,rfl⟩
 rw [hw0] at hb0 hR0
 have HY:=hid (hy.on hb0)
 have HP:=hid (hp.on hb0)
 have HYw:=hid hy
 have HPw:=hid hp
 have HR0:=hid hR0
 have HB0:=hid hb0
 have HW0:=hid hw0
 have CK:=hid (refCheck_any y ay cy _ w0 HY.out (fun _ h=>h) ly.1 ly.2.1)
 have hz0:w.heap.size < w0.heap.size:=(Array.getElem?_eq_some_iff.1 hR0).1
 clear hy hp hb0 hR0 hw0
 by_cases h0:chkY y = 0
 rotate_left
 · have hE:getE y p = chkY y:=by rw [getE,if_pos h0]
   obtain ⟨E,hEE⟩:∃ E,chkY y = E:=⟨_,rfl⟩
   rw [hEE] at CK h0 hE
   have HE:=hid hE
   have h0':(E != 0) = true:=by simpa using h0
   clear hE hEE
   go_enter Tryz.func57,Tryz.ntmps57
   go_wp2_with (rw [HW0.out])
   try rw [HW0.out]
   refine CK.out.mono ?_
   rintro e w1 ⟨rfl,hb⟩
   have hR1:=(hb.block w.heap.size hz0).trans HR0.out
   have q0:=cg_ hR1 (k:=0) rfl
   have q1:=cg_ hR1 (k:=1) rfl
   have q2:=cg_ hR1 (k:=2) rfl
   have f0:=cells_frz hR1 (k:=0)
   have f1:=cells_frz hR1 (k:=1)
   have f2:=cells_frz hR1 (k:=2)
   have HB:=hid (HB0.out.trans (hb.mono (by omega)))
   clear hb
   go_wp2_with fail
   refine bodyPost_ret (v := .tuple #[.agg #[.string { data:=#[] }, .slice none 0 0, .slice none 0 0], .int .i64 E]) (ret57 (node_set97 hR1) rfl rfl) rfl ?_
   exact RGetR.bad HE.out h0 (below_set3 HB.out (nl_ _))
 obtain ⟨q1,q2⟩:=get_ref (p:=p) h0
 have L1:=fun w1 (h:Below w0.heap.size w0 w1)=>Lines_any (y.cnt + 1) y [] ay cy none 0 (fun q=>q < w.heap.size) w1 (Nat.lt_succ_self _) (HYw.out.agree (Ag_b (HB0.out.trans (h.mono (by omega))) fun _ h=>h)) ⟨rfl,none,0,rfl,nl_ _,by simp [maxLen],fun _=>rfl, .inl rfl⟩ (fun b hb=>by have:b < w.heap.size:=hb;have:=h.size;omega) ly.1 ly.2.1 (by simp;omega)
 simp only [lines_fls] at L1
 obtain ⟨ma,sa⟩:=fls_sml h0 ly.2.1
 have num:=fun x hx=>fls_num h0 x hx
 have four:=fun x hx=>fls4 h0 x hx
 rw [h0] at CK
 have gE:getE y p = if (atF y p).isSome then 0 else 1:=by rw [getE,if_neg (by rw [h0];simp)]
 generalize flsL [] y = a at *
 have HF:=hid (show ∀ x ∈ a,x.p.length ≤ 4∧x.l.length ≤ 900 from fun x hx=>⟨four x hx,num x hx⟩)
 have L1:=hid L1
 have SA:=hid sa
 have G1:=hid q1
 have G2:=hid q2
 have GE:=hid gE
 clear ly h0 q1 q2 gE sa num four
 go_enter Tryz.func57,Tryz.ntmps57
 go_wp2_with (rw [HW0.out])
 try rw [HW0.out]
 refine CK.out.mono ?_
 rintro e w1 ⟨rfl,hb⟩
 have B1:=hid hb
 clear hb CK
 go_wp2_with fail
 refine (L1.out w1 B1.out).mono ?_
 rintro e w2 ⟨a2,c2,rfl,h2,hb2⟩
 have hz12:=hb2.size
 have H2s:=hid h2
 have H2:=hid (h2.wide (S':=fun q=>q < w2.heap.size) fun q hq=>by
  have:=B1.out.size
  rcases hq with hq | hq
  · omega
  · exact hq.2)
 have B2:=hid (B1.out.trans (hb2.mono B1.out.size))
 clear h2 hb2 L1
 have FF:=Find_any a p a2 ap c2 cp _ w2 H2.out (HP.out.on B2.out) (fun _ h=>h) SA.out.big.1 (fun x hx=>(SA.out.big.2 x hx).1) (by omega)
 cases hat:atF y p with
 | none=>
   have hr:=G2.out hat
   have hE:getE y p = 1:=by rw [GE.out,hat];rfl
   rcases fi_cases a p with ⟨j,hj,f1,f2,f3⟩ | ⟨f1,f2⟩
   · rw [hr] at f2;cases f2
   rw [f1] at FF
   have FF:=hid FF
   have HE:=hid hE
   clear hat hr hE f1 f2
   go_wp2_with fail
   refine FF.out.mono ?_
   rintro e w3 ⟨rfl,hb3⟩
   have B3:=hid (B2.out.trans (hb3.mono B2.out.size))
   have hR1:=(B3.out.block w.heap.size hz0).trans HR0.out
   have q0:=cg_ hR1 (k:=0) rfl
   have q1:=cg_ hR1 (k:=1) rfl
   have q2:=cg_ hR1 (k:=2) rfl
   have f0:=cells_frz hR1 (k:=0)
   have f1:=cells_frz hR1 (k:=1)
   have f2:=cells_frz hR1 (k:=2)
   have HB:=hid (HB0.out.trans (B3.out.mono (by omega)))
   clear hb3
   go_wp2_with fail
   refine bodyPost_ret (v := .tuple #[.agg #[.string { data:=#[] }, .slice none 0 0, .slice none 0 0], .int .i64 1]) (ret57 (node_set97 hR1) rfl rfl) rfl ?_
   exact RGetR.bad HE.out (by omega) (below_set3 HB.out (nl_ _))
 | some z=>
   obtain ⟨n,l,s⟩:=z
   obtain ⟨g1,g2,g3,g4⟩:=G1.out n l s hat
   have hE:getE y p = 0:=by rw [GE.out,hat];rfl
   have hN:getN y p = (n,l,s):=by rw [getN,if_pos hE,hat];rfl
   rcases fi_cases a p with ⟨j,hj,f1,f2,f3⟩ | ⟨f1,f2⟩
   rotate_left
   · rw [g1] at f2;cases f2
   rw [g1] at f2
   have haj:a[j] = ⟨p,l⟩:=(Option.some.inj f2).symm
   rw [f1] at FF
   have FF:=hid FF
   have HE:=hid hE
   have HN:=hid hN
   have hj0:¬ (j:Int) < 0:=by omega
   have hj1:(0:Int) ≤ (j:Int):=by omega
   have hj2:(j:Int) < (a.length:Int):=by omega
   obtain ⟨_,_,he,_,hm2,hat2⟩:=H2s.out.at
   cases he
   unfold maxLen at hm2
   obtain ⟨g0,o0,cs,rfl,hg0,⟨ax,cx,an,cn,rfl,hP,hI⟩,hcl⟩:=hat2 j hj
   have c1:=hcl 1 _ rfl
   rw [haj] at hI c1
   rw [← Nat.add_assoc] at c1
   simp only at hI c1
   have hpos:0 < p.length:=List.length_pos_iff.2 g4
   have hbw2:Below w.heap.size w w2:=HB0.out.trans (B2.out.mono (by omega))
   have hgw:g0 ≠ w.heap.size:=fun e=>by
    have:=B1.out.size
    rcases hg0 with h | h
    · omega
    · have:=h.1;omega
   have hg2:g0 < w2.heap.size:=by
    have:=B1.out.size
    rcases hg0 with h | h
    · omega
    · exact h.2
   obtain ⟨gp,op,rfl,hgp,_,_,hpc⟩:=SlC.cells (HPw.out.agree (Ag_b hbw2 fun _ h=>h)) hpos
   have hgpw:gp ≠ w.heap.size:=fun e=>by have:gp < w.heap.size:=hgp;omega
   have hgp2:gp < w2.heap.size:=by have:gp < w.heap.size:=hgp;have:=hbw2.size;omega
   obtain ⟨m,hm⟩:∃ m,p.length = m + 1:=⟨p.length - 1,by omega⟩
   obtain ⟨k0,k1',k2'⟩:=key_cells (p:=p) (k:=m) (by omega)
   have e0:=hpc _ _ k0
   have hln:lastM p = p[m].n:=by
    unfold lastM
    rw [List.getLastD_eq_getLast?,List.getLast?_eq_getElem?,show p.length - 1 = m by omega,List.getElem?_eq_getElem (by omega)];rfl
   rw [← hln,g2] at e0
   have hsub:((p.length:Int) - 1) = (m:Int):=by omega
   have hmx:(m:Int) < (p.length:Int):=by omega
   have hm0:(0:Int) ≤ (m:Int):=by omega
   have HI:=hid (hI.wide (S':=fun q=>q < w2.heap.size) fun q hq=>by
    have:=B1.out.size
    rcases hq with hq | hq
    · omega
    · exact hq.2)
   have hnone:=fun e:an = none=>(SlC.caps hI).2.2 e
   have hli:(l.map (Value.int .i64)).length = l.length * 1:=by simp
   have hll:l.length ≤ 900:=by have:=(HF.out a[j] (List.getElem_mem hj)).2;rw [haj] at this;exact this
   have E0:=hid e0
   have C1:=hid c1
   have hla:=SA.out.1
   have TT:=fun (w9:World) (h:Below w2.heap.size w2 w9)=>Tree_all a (some ⟨g0,o0,none⟩) c2 (by omega) (fun x hx=>by have:=HF.out x hx;omega) 4 p (some ⟨gp,op,none⟩) cp (by omega) (fun x hx=>by have:=(HF.out x hx).1;omega) (fun q=>q < w9.heap.size) w9 (H2.out.on h) ((HP.out.on B2.out).on h) (fun _ h=>h)
   rw [g3] at TT
   have TT:=hid TT
   clear hat g1 g2 g3 g4 hE hN f1 f2 f3 haj hat2 hcl hP hI hpc hg0 hgp k0 k1' k2' e0 c1 hln hm hpos
   go_wp2_with fail
   refine FF.out.mono ?_
   rintro e w3 ⟨rfl,hb3⟩
   have hz3:=hb3.size
   have B23:=hid hb3
   have hz2:=B2.out.size
   have B3:=hid (B2.out.trans (hb3.mono hz2))
   have hR3:=hid ((B3.out.block w.heap.size hz0).trans HR0.out)
   have HI3:=hid (HI.out.agree (Ag_b hb3 fun _ h=>h))
   have hS0:w3.drew.cell? ⟨gp,op + m * 3,none⟩ = some (.string (bs n))∧w3.drew.cell? ⟨g0,o0 + j * 2 + 1,none⟩ = some (.slice an l.length cn):=⟨bc_ hb3.drew hgp2 E0.out,bc_ hb3.drew hg2 C1.out⟩
   have HS0:=hid hS0
   have hgp3:gp < w3.heap.size:=Nat.lt_of_lt_of_le hgp2 hz3
   have hg03:g0 < w3.heap.size:=Nat.lt_of_lt_of_le hg2 hz3
   clear hb3 FF hS0 E0 C1
   go_upto_region 8 with fail
   refine (wpIn_wide (n:=9)).1 ?_
   refine region_held (fun w':World=>w'.cell? ⟨gp,op + m * 3,none⟩ = some (.string (bs n))∧w'.cell? ⟨g0,o0 + j * 2 + 1,none⟩ = some (.slice an l.length cn)) (by kernel_rfl) ?_
   have hS0:=HS0.out
   refine tkY 0 23 (.slice (some ⟨gp,op,none⟩) p.length cp) rfl rfl hS0 (fun w' hs=>?_) ?_
   · go_simp
   refine tkY 1 24 (.slice (some ⟨gp,op,none⟩) p.length cp) rfl rfl hS0 (fun w' hs=>?_) ?_
   · go_simp
   refine tkY 2 25 (.int .i64 p.length) rfl rfl hS0 (fun w' hs=>?_) ?_
   · go_simp
   refine tkY 3 26 (.int .i64 m) rfl rfl hS0 (fun w' hs=>?_) ?_
   · go_simp
     exact IntWalk.i64_in _ (by omega)
   refine tkY 4 27 (.pointer (some ⟨gp,op + m * 3,none⟩)) rfl rfl hS0 (fun w' hs=>?_) ?_
   · go_simp
   refine tkY 5 28 (.pointer (some ⟨gp,op + m * 3,none⟩)) rfl rfl hS0 (fun w' hs=>?_) ?_
   · go_simp
   refine tkY 6 29 (.string (bs n)) rfl rfl hS0 (fun w' hs=>?_) ?_
   · obtain ⟨y0,y1⟩:=hs
     go_simp
   refine tkY 8 31 (.slice (some ⟨g0,o0,none⟩) a.length c2) rfl rfl hS0 (fun w' hs=>?_) ?_
   · go_simp
   refine tkY 9 32 (.int .i64 j) rfl rfl hS0 (fun w' hs=>?_) ?_
   · go_simp
   refine tkY 10 33 (.pointer (some ⟨g0,o0 + j * 2,none⟩)) rfl rfl hS0 (fun w' hs=>?_) ?_
   · go_simp
   refine tkY 11 34 (.pointer (some ⟨g0,o0 + j * 2 + 1,none⟩)) rfl rfl hS0 (fun w' hs=>?_) ?_
   · go_simp
   refine tkY 12 35 (.slice an l.length cn) rfl rfl hS0 (fun w' hs=>?_) ?_
   · obtain ⟨y0,y1⟩:=hs
     go_simp
   refine tkY 14 37 (.slice (some ⟨g0,o0,none⟩) a.length c2) rfl rfl hS0 (fun w' hs=>?_) ?_
   · go_simp
   refine tkY 15 38 (.slice (some ⟨gp,op,none⟩) p.length cp) rfl rfl hS0 (fun w' hs=>?_) ?_
   · go_simp
   refine AnyH_one (i:=7) (by kernel_rfl) rfl (by kernel_rfl) (fun K hK=>?_)
   go_simp
   have hba:Below w3.heap.size w3 (w3.drew.alloc (.cells #[] 3)):=(Below.refl _ _).drew.alloc (nl_ _) _
   refine hK _ _ ⟨⟨bc_ hba hgp3 hS0.1,bc_ hba hg03 hS0.2⟩,?_⟩
   clear hK
   obtain ⟨a4,c4,w4,hr4,hown4,hgrow4,hat4⟩:=run_append_ao (P:=Tryz.prog) (w3.drew.alloc (.cells #[] 3)) 66 66 w3.heap.size 3 i3 _ 1 8 Tryz.underlying66 hi3 hq0 hq1 hq2 rfl (by omega) (.slice (some ⟨w3.heap.size,0,none⟩) 0 0) 0 [] (owns_of_row (w:=w3.drew.alloc (.cells #[] 3)) (n:=0) (cap:=0) (cur:=#[]) (nl_ _) (heap_alloc_new w3.drew _) (by omega) (by unfold maxLen;omega) (by simp) (by simp)) an l.length cn (l.map (Value.int .i64)) hli hnone (SlC.news HI.out (Ag_b (B23.out.trans (hba.mono hz3)) fun _ h=>h)) (one_ints l) (by unfold maxLen;omega) (by omega) (by simp)
   simp only [Nat.zero_add,List.nil_append] at hr4 hown4 hat4
   have hb4:Below w3.heap.size w3 w4:=hba.grown hgrow4 (by simp) (fun b hb=>by simp [Value.ownBlock] at hb;omega)
   have hz4:=hb4.size
   have hS3:w4.cell? ⟨gp,op + m * 3,none⟩ = some (.string (bs n))∧w4.cell? ⟨g0,o0 + j * 2 + 1,none⟩ = some (.slice an l.length cn):=⟨bc_ hb4 hgp3 hS0.1,bc_ hb4 hg03 hS0.2⟩
   refine AnyH_one (i:=13) (by kernel_rfl) rfl (by kernel_rfl) (fun K hK=>?_)
   refine wpIn_value (fun _=>trivial) rfl (exec_append rfl rfl rfl hr4) ?_
   refine hK _ _ ⟨hS3,?_⟩
   clear hK hr4
   refine AnyH_one (i:=16) (by kernel_rfl) rfl (by kernel_rfl) (fun K hK=>?_)
   go_simp
   have HT:=TT.out w4 (B23.out.trans (hb4.mono hz3))
   refine ⟨trivial,(callsIn_wide.2 HT).mono ?_⟩
   rintro e w5 ⟨a5,c5,rfl,hF5,hb5⟩
   have hz5:=hb5.size
   have hS4:w5.cell? ⟨gp,op + m * 3,none⟩ = some (.string (bs n))∧w5.cell? ⟨g0,o0 + j * 2 + 1,none⟩ = some (.slice an l.length cn):=⟨bc_ hb5 (by omega) hS3.1,bc_ hb5 (by omega) hS3.2⟩
   have HF5:=hid hF5
   have HI5:=hid (SlC.of_owns hown4)
   have HI6:=hid (SlC.agree HI5.out (Ag_b hb5 fun b hb=>hb.2))
   have B35:=hid (hb4.trans (hb5.mono hz4))
   have hR5:=hid ((B35.out.block w.heap.size (by omega)).trans hR3.out)
   refine hK _ _ ⟨hS4,?_⟩
   clear hK hF5 HT hown4 hgrow4 hat4 hba hb4 hb5
   refine tkY 17 40 (.agg #[.string (bs n), .slice a4 l.length c4, .slice a5 s.len c5]) rfl rfl hS4 (fun w' hs=>?_) ?_
   · go_simp
   have e0:=cg_ hR5.out (k:=0) rfl
   have e1:=cg_ hR5.out (k:=1) rfl
   have e2:=cg_ hR5.out (k:=2) rfl
   have p0:=cells_frz hR5.out (k:=0)
   have p1:=cells_frz hR5.out (k:=1)
   have p2:=cells_frz hR5.out (k:=2)
   refine AnyH_one (i:=18) (by kernel_rfl) rfl (by kernel_rfl) (fun K hK=>?_)
   go_simp
   have hne:∀ b,b ≠ w.heap.size→(((w5.setCell ⟨w.heap.size,0,none⟩ (.string (bs n))).setCell ⟨w.heap.size,1,none⟩ (.slice a4 l.length c4)).setCell ⟨w.heap.size,2,none⟩ (.slice a5 s.len c5)).heap[b]? = w5.heap[b]?:=fun b hn=>by
    rw [Below.heap_setCell _ _ _ _ hn,Below.heap_setCell _ _ _ _ hn,Below.heap_setCell _ _ _ _ hn]
   have hB6:Below w.heap.size w (((w5.setCell ⟨w.heap.size,0,none⟩ (.string (bs n))).setCell ⟨w.heap.size,1,none⟩ (.slice a4 l.length c4)).setCell ⟨w.heap.size,2,none⟩ (.slice a5 s.len c5)):=below_set3 (HB0.out.trans (((B3.out.trans (B35.out.mono (by have:=B3.out.size;omega)))).mono (by omega))) (nl_ _)
   have hR6:=node_set97 (x' := .string (bs n)) (y' := .slice a4 l.length c4) (z' := .slice a5 s.len c5) hR5.out
   have hz6:(((w5.setCell ⟨w.heap.size,0,none⟩ (.string (bs n))).setCell ⟨w.heap.size,1,none⟩ (.slice a4 l.length c4)).setCell ⟨w.heap.size,2,none⟩ (.slice a5 s.len c5)).heap.size = w5.heap.size:=by simp [World.setCell]
   obtain ⟨w6,hw6⟩:∃ w6,(((w5.setCell ⟨w.heap.size,0,none⟩ (.string (bs n))).setCell ⟨w.heap.size,1,none⟩ (.slice a4 l.length c4)).setCell ⟨w.heap.size,2,none⟩ (.slice a5 s.len c5)) = w6:=⟨_,rfl⟩
   rw [hw6] at hne hB6 hR6 hz6 ⊢
   have hS5:w6.cell? ⟨gp,op + m * 3,none⟩ = some (.string (bs n))∧w6.cell? ⟨g0,o0 + j * 2 + 1,none⟩ = some (.slice an l.length cn):=⟨(show Agree (fun b=>b ≠ w.heap.size) w5 w6 from hne).cell hgpw hS4.1,(show Agree (fun b=>b ≠ w.heap.size) w5 w6 from hne).cell hgw hS4.2⟩
   have hzb:=B3.out.size
   have RI:=hid (Ints.wide (S':=fun q=>q < w6.heap.size) (Ints.agree (show Ints (Rg w3.heap.size w4.heap.size) w5 (.slice a4 l.length c4) l from HI6.out) (fun q hq=>hne q (by have:=hq.1;omega))) fun q hq=>by have:=hq.2;omega)
   have RF:=hid ((HF5.out.agree (fun q hq=>hne q (by have:=hq.1;omega))).wide (S':=fun q=>q < w6.heap.size) fun q hq=>by have:=hq.2;omega)
   have HB6:=hid hB6
   have HR6:=hid hR6
   refine hK _ _ ⟨hS5,?_⟩
   clear hK hS0 hS3 hS4 hne hB6 hR6 hw6
   refine tkY 19 5 (.int .i64 0) rfl rfl hS5 (fun w' hs=>?_) ?_
   · go_simp
   refine AnyH_done (by kernel_rfl) ?_
   go_simp
   clear hS5
   go_wp2_with fail
   refine bodyPost_ret (v := .tuple #[.agg #[.string (bs n), .slice a4 l.length c4, .slice a5 s.len c5], .int .i64 0]) (ret57 HR6.out rfl rfl) rfl ?_
   exact ⟨n,l,s,a4,c4,a5,c5,HN.out,by rw [HE.out],RI.out,RF.out,HB6.out⟩
end Go.Proofs.LF
namespace Go.Proofs.LF
open Go.RowKit Go.Sort
set_option maxHeartbeats 4000000
set_option maxRecDepth 100000
attribute [local go_sem] bs_toList bs_size bs_get
theorem Named_any (y:Fo) (nm:List UInt8) (ay:Option Addr) (cy:Nat) (w:World) (hy:FSl (fun q=>q < w.heap.size) w (.slice ay y.len cy) y) (ly:y.len ≤ 1000∧y.Sm∧y.cnt ≤ 400) (h0:chkY y = 0) :
 Calls Tryz.prog 61 #[.slice ay y.len cy, .string (bs nm)] w fun e w'=>∃ a c,e = .returned (.slice a (nmM nm ((flsL [] y).map Fl.p)).length c)∧PaSl (fun q=>q < w'.heap.size) w' (.slice a (nmM nm ((flsL [] y).map Fl.p)).length c) (nmM nm ((flsL [] y).map Fl.p))∧Below w.heap.size w w':=by
 obtain ⟨i0,hi0,hz0,hz1,hz2⟩:=info_parts Tryz.info92
 have L1:=Lines_at y ay cy w hy ly
 obtain ⟨ma,sa⟩:=fls_sml h0 ly.2.1
 have hne:∀ x ∈ flsL [] y,x.p ≠ []:=fun x hx=>flsL_ne x hx
 generalize flsL [] y = fs at *
 have L1:=hid L1
 have SA:=hid sa
 have HNE:=hid hne
 clear hy ly h0 sa hne
 go_enter Tryz.func61,Tryz.ntmps61
 go_wp2_with fail
 refine L1.out.mono ?_
 rintro e w1 ⟨a1,c1,rfl,h1,hb1⟩
 have B1:=hid hb1
 obtain ⟨_,_,he,_,hm1,hat⟩:=h1.at
 cases he
 have HAT:=hid hat
 unfold maxLen at hm1
 clear h1 hb1 hat L1
 go_wp2_with fail
 go_loopw [5,7] (fun v i wr=>∃ k:Nat,k ≤ fs.length∧i = .int .i64 k∧Hid (RowS rdPa 92 (fun q=>q < w1.heap.size) w1.heap.size wr v (nmM nm ((fs.take k).map Fl.p)))∧Hid (Below w1.heap.size w1 wr)) (fun _ i _=>fs.length - (intOf i).toNat)
 case atStart=>exact ⟨0,by omega,rfl,RowS.nil _,Below.refl _ _⟩
 case round=>
  obtain ⟨k,hk,rfl,HR,HB⟩:=hrel
  have hzr:=HB.out.size
  obtain ⟨vo,hvo⟩:∃ vo,vo = u5:=⟨_,rfl⟩
  subst hvo
  by_cases hlt:k < fs.length
  · have hlt':(k:Int) < (fs.length:Int):=by omega
    obtain ⟨g,o,cs,rfl,hg,⟨ap,cp,an,cn,rfl,hP,_⟩,hcl⟩:=HAT.out k hlt
    have hag:=Ag_b (S:=fun q=>q < w1.heap.size) HB.out (fun _ h=>h)
    have c0:=hag.cell hg (hcl 0 _ rfl)
    rw [Nat.add_zero] at c0
    have htk:(fs.take (k + 1)).map Fl.p = (fs.take k).map Fl.p ++ [fs[k].p]:=by
     rw [List.take_succ_eq_append_getElem hlt,List.map_append];rfl
    have hne:=HNE.out fs[k] (List.getElem_mem hlt)
    have hsm:=SA.out.2 fs[k] (List.getElem_mem hlt)
    obtain ⟨x,hx⟩:∃ x,fs[k] = x:=⟨_,rfl⟩
    rw [hx] at c0 htk hP hne hsm
    have hsn:=nmM_snoc nm ((fs.take k).map Fl.p) x.p
    rw [← htk] at hsn
    have hpos:0 < x.p.length:=by
     cases h:x.p with
     | nil=>exact absurd h hne
     | cons _ _=>simp
    obtain ⟨g',o',rfl,hg',_,_,hpc⟩:=SlC.cells hP hpos
    obtain ⟨m,hm⟩:∃ m,x.p.length = m + 1:=⟨x.p.length - 1,by omega⟩
    obtain ⟨k0,k1',k2'⟩:=key_cells (p:=x.p) (k:=m) (by omega)
    have e0:=hag.cell hg' (hpc _ _ k0)
    have hln:lastM x.p = x.p[m].n:=by
     unfold lastM
     rw [List.getLastD_eq_getLast?,List.getLast?_eq_getElem?,show x.p.length - 1 = m by omega,List.getElem?_eq_getElem (by omega)];rfl
    obtain ⟨nn,hnn⟩:∃ nn,x.p[m].n = nn:=⟨_,rfl⟩
    rw [hnn] at e0 hln
    rw [hln] at hsn
    have HSN:=hid hsn
    have HPW:=hid (hP.agree hag)
    have hsub:((x.p.length:Int) - 1) = (m:Int):=by omega
    have hmx:(m:Int) < (x.p.length:Int):=by omega
    have hm0:(0:Int) ≤ (m:Int):=by omega
    have hmw:IntKind.i64.wrap ((x.p.length:Int) - 1) = (m:Int):=by rw [hsub];exact IntWalk.i64_in _ (by have:=hsm.1;omega)
    have hrl:(nmM nm ((fs.take k).map Fl.p)).length ≤ k:=by
     refine Nat.le_trans (List.length_filter_le _ _) ?_
     rw [List.length_map,List.length_take];omega
    obtain ⟨acc,hacc⟩:∃ acc,nmM nm ((fs.take k).map Fl.p) = acc:=⟨_,rfl⟩
    rw [hacc] at HR hrl HSN
    have hS0:wr.drew.cell? ⟨g,o + k * 2,none⟩ = some (.slice (some ⟨g',o',none⟩) x.p.length cp)∧wr.drew.cell? ⟨g',o' + m * 3,none⟩ = some (.string (bs nn)):=⟨c0,e0⟩
    have HS0:=hid hS0
    have CW:=hid c0
    clear hcl hpc k0 k1' k2' hP hx htk hsn hln hnn hm hne hacc c0 e0 hS0 hpos hag
    go_upto_region 6 with fail
    refine (wpIn_wide (n:=9)).1 ?_
    refine region_held (fun w':World=>w'.cell? ⟨g,o + k * 2,none⟩ = some (.slice (some ⟨g',o',none⟩) x.p.length cp)∧w'.cell? ⟨g',o' + m * 3,none⟩ = some (.string (bs nn))) (by kernel_rfl) ?_
    have hS1:=HS0.out
    refine tkY 0 16 (.slice (some ⟨g,o,none⟩) fs.length c1) rfl rfl hS1 (fun w' hs=>?_) ?_
    · go_simp
    refine tkY 1 17 (.int .i64 k) rfl rfl hS1 (fun w' hs=>?_) ?_
    · go_simp
    refine tkY 2 18 (.pointer (some ⟨g,o + k * 2,none⟩)) rfl rfl hS1 (fun w' hs=>?_) ?_
    · go_simp
    refine tkY 3 19 (.pointer (some ⟨g,o + k * 2,none⟩)) rfl rfl hS1 (fun w' hs=>?_) ?_
    · go_simp
    refine tkY 4 20 (.slice (some ⟨g',o',none⟩) x.p.length cp) rfl rfl hS1 (fun w' hs=>?_) ?_
    · obtain ⟨y0,y1⟩:=hs
      go_simp
    refine tkY 5 21 (.slice (some ⟨g,o,none⟩) fs.length c1) rfl rfl hS1 (fun w' hs=>?_) ?_
    · go_simp
    refine tkY 6 22 (.int .i64 k) rfl rfl hS1 (fun w' hs=>?_) ?_
    · go_simp
    refine tkY 7 23 (.pointer (some ⟨g,o + k * 2,none⟩)) rfl rfl hS1 (fun w' hs=>?_) ?_
    · go_simp
    refine tkY 8 24 (.pointer (some ⟨g,o + k * 2,none⟩)) rfl rfl hS1 (fun w' hs=>?_) ?_
    · go_simp
    refine tkY 9 25 (.slice (some ⟨g',o',none⟩) x.p.length cp) rfl rfl hS1 (fun w' hs=>?_) ?_
    · obtain ⟨y0,y1⟩:=hs
      go_simp
    refine tkY 10 26 (.int .i64 x.p.length) rfl rfl hS1 (fun w' hs=>?_) ?_
    · go_simp
    refine tkY 11 27 (.int .i64 m) rfl rfl hS1 (fun w' hs=>?_) ?_
    · go_simp
      exact IntWalk.i64_in _ (by have:=hsm.1;omega)
    refine tkY 12 28 (.pointer (some ⟨g',o' + m * 3,none⟩)) rfl rfl hS1 (fun w' hs=>?_) ?_
    · go_simp
    refine tkY 13 29 (.pointer (some ⟨g',o' + m * 3,none⟩)) rfl rfl hS1 (fun w' hs=>?_) ?_
    · go_simp
    refine tkY 14 30 (.string (bs nn)) rfl rfl hS1 (fun w' hs=>?_) ?_
    · obtain ⟨y0,y1⟩:=hs
      go_simp
    refine tkY 15 31 (.string (bs nm)) rfl rfl hS1 (fun w' hs=>?_) ?_
    · go_simp
    by_cases heq:nn = nm
    · subst heq
      refine tkY 16 32 (.bool true) rfl rfl hS1 (fun w' hs=>?_) ?_
      · go_simp
      refine AnyH_done (by kernel_rfl) ?_
      go_simp
      clear hS1
      have HAC:=hid (show nmM nn ((fs.take (k + 1)).map Fl.p) = acc ++ [x.p] by rw [HSN.out,if_pos rfl])
      have c0:=CW.out
      have HRD:=hid (HR.out.below (by exact fun q hq=>by omega) (Below.refl _ _).drew)
      have HBD:=hid (HB.out.drew)
      have HPD:=hid (HPW.out.agree (fun _ _=>rfl:Agree (fun q=>q < w1.heap.size) wr wr.drew))
      have hzd:wr.drew.heap.size = wr.heap.size:=rfl
      go_wp2_with (at_builtin;(refine (wpList_push (r:=rdPa) (e:=92) (S:=fun q=>q < w1.heap.size) (lo:=w1.heap.size) rfl _ _ _ rfl i0 _ 24 Tryz.underlying45 hi0 hz0 hz1 hz2 rfl (by omega) rfl (RowS.below HRD.out (by exact fun q hq=>by omega) ((Below.refl _ _).alloc (nl_ _) _)) (fun _ h=>h) ?_ x.p [.slice (some ⟨g',o',none⟩) x.p.length cp] wr.drew.heap.size rfl ?_ (by have hag:=Ag_b (S:=fun q=>q < w1.heap.size) ((Below.refl wr.drew.heap.size wr.drew).alloc (nl_ _) (.cells #[.slice (some ⟨g',o',none⟩) x.p.length cp] 92)) (fun q hq=>by omega);exact ⟨_,_,rfl,HPD.out.agree hag⟩) ?_ ?_ ?_);(simp;omega);exact heap_alloc_new _ _;(unfold maxLen;omega);omega;intro VN WN HRn HGn HTn HLn);have BN:=hid (HLn _ (HBD.out.alloc (by omega) _));have RN:=hid HRn;clear HRn HGn HTn HLn)
      go_roundw
      case rel=>exact ⟨k + 1,by omega,by go_num,by rw [HAC.out];exact RN,BN⟩
      case measure=>simp [intOf];omega
    · have hb2:(nn == nm) = false:=by simp [heq]
      refine tkY 16 32 (.bool false) rfl rfl hS1 (fun w' hs=>?_) ?_
      · go_simp
      refine AnyH_done (by kernel_rfl) ?_
      go_simp
      clear hS1
      have HAC:=hid (show nmM nm ((fs.take (k + 1)).map Fl.p) = acc by rw [HSN.out,if_neg heq,List.append_nil])
      clear hb2 heq
      go_wp2_with fail
      go_roundw
      case rel=>exact ⟨k + 1,by omega,by go_num,by rw [HAC.out];exact HR.out.below (by exact fun q hq=>by omega) (Below.refl _ _).drew,HB.out.drew⟩
      case measure=>simp [intOf];omega
  · obtain rfl:k = fs.length:=by omega
    have hlt':¬ (fs.length:Int) < (fs.length:Int):=by omega
    rw [List.take_length] at HR
    obtain ⟨av,cv,rfl,_,_⟩:=HR.out.shape
    have LF:=hid (HR.out.lsl.wide (S':=fun q=>q < wr.heap.size) fun b hb=>by
     rcases hb with h | h
     · omega
     · exact h.2)
    have BW:=hid (B1.out.trans (HB.out.mono B1.out.size))
    go_wp2_with fail
    go_ret
    exact ⟨av,cv,rfl,LF.out,BW.out⟩
end Go.Proofs.LF
namespace Go.Proofs.LF
open Go.RowKit Go.Sort
set_option maxHeartbeats 4000000
set_option maxRecDepth 100000
attribute [local go_sem] bs_toList bs_size bs_get
theorem blk_on8 {w w':World} {b:Nat} {o:Obj} (h:w.heap[b]? = some o) (hb:Below w.heap.size w w'):w'.heap[b]? = some o:=(hb.block b (Array.getElem?_eq_some_iff.1 h).1).trans h
theorem one_node_u {S:Nat→Prop} {w:World} {b:Nat} {n:List UInt8} {l:List Int} {s:Fo} {vn vs:Value} {t:TypeId} (hb:w.heap[b]? = some (.cells #[.string (bs n),vn,vs] t (0,0))) (hS:S b) (h1:IntU S w vn l) (h2:FSlU S w vs s):FSlU S w (.slice (some ⟨b,0,none⟩) 1 1) (.cons n l s .nil):=
 (one_node hb h1 h2).wide fun q hq=>by
  rcases hq with hq | rfl
  · exact hq
  · exact ⟨hS,_,_,hb⟩
theorem one_in {w:World} {b:Nat} {n:List UInt8} {l:List Int} {s:Fo} {vn vs:Value} {t:TypeId} (hb:w.heap[b]? = some (.cells #[.string (bs n),vn,vs] t (0,0))) (h1:IsIn w vn l) (h2:In w vs s):In w (.slice (some ⟨b,0,none⟩) 1 1) (.cons n l s .nil):=
 (one_node hb h1 h2).wide fun q hq=>by
  rcases hq with hq | rfl
  · exact hq
  · exact (Array.getElem?_eq_some_iff.1 hb).1
theorem one_at {w:World} {a:Option Addr} {c:Nat} {n:List UInt8} {l:List Int} {s:Fo} (h:In w (.slice a 1 c) (.cons n l s .nil)):∃ g o an cn ab cb,a = some ⟨g,o,none⟩∧g < w.heap.size∧w.cell? ⟨g,o,none⟩ = some (.string (bs n))∧w.cell? ⟨g,o + 1,none⟩ = some (.slice an l.length cn)∧w.cell? ⟨g,o + 2,none⟩ = some (.slice ab s.len cb)∧IsIn w (.slice an l.length cn) l∧In w (.slice ab s.len cb) s:=by
 obtain ⟨a',c',he,_,_,hat⟩:=FSl.at h
 obtain ⟨g,o,n',l',s',r',an,cn,ab,cb,h1,hg,hd,m0,m1,m2,hI,hF⟩:=hat 0 (by simp [Fo.len])
 simp only [Fo.drop,Fo.cons.injEq] at hd
 obtain ⟨rfl,rfl,rfl,rfl⟩:=hd
 simp only [Nat.zero_mul,Nat.add_zero] at m0 m1 m2
 cases he
 exact ⟨g,o,an,cn,ab,cb,h1,hg,m0,m1,m2,hI,hF⟩
theorem atF_cnt {n:List UInt8} {l:List Int} {s:Fo}:∀ {p:List Ky} {y:Fo},atF y p = some (n,l,s)→s.cnt < y.cnt
 | [],y,h=>by cases y <;> cases h
 | k :: r,y,h=>by
   have e:atF y (k :: r) = match fstK k y with | none=>none | some x=>if r = [] then some x else atF x.2.2 r:=by cases y <;> rfl
   rw [e] at h
   cases hk:fstK k y with
   | none=>rw [hk] at h;cases h
   | some x=>
     rw [hk] at h
     obtain ⟨n',l',s'⟩:=x
     simp only at h
     have h2:=fstK_cnt hk
     split at h
     · cases h;exact h2
     · have:=atF_cnt h;omega
theorem getN_sm {y:Fo} {p:List Ky} {n:List UInt8} {l:List Int} {s:Fo} (hs:y.Sm) (hc:y.cnt ≤ 80) (h:getN y p = (n,l,s)):n.length ≤ 1000∧l.length ≤ 1000∧s.len ≤ 1000∧s.Sm∧s.cnt ≤ 80:=by
 rw [getN] at h
 have h0:(n,l,s) = (([]:List UInt8),([]:List Int),Fo.nil)→n.length ≤ 1000∧l.length ≤ 1000∧s.len ≤ 1000∧s.Sm∧s.cnt ≤ 80:=fun e=>by
  cases e;exact ⟨by simp,by simp,by simp [Fo.len],trivial,by simp [Fo.cnt]⟩
 split at h
 · cases hx:atF y p with
   | none=>rw [hx] at h;exact h0 h.symm
   | some x=>
     rw [hx] at h
     simp only [Option.getD_some] at h
     subst h
     obtain ⟨a1,a2,a3,a4⟩:=atF_sm hs hx
     exact ⟨a1,a2,a3,a4,by have:=atF_cnt hx;omega⟩
 · exact h0 h.symm
theorem putY_sm {y:Fo} {p:List Ky} {n:List UInt8} {l:List Int} {s:Fo} (hy:y.Sm) (ln:n.length ≤ 1000∧l.length ≤ 1000∧s.Sm):(putY y p n l s).Sm∧(putY y p n l s).len ≤ 60:=by
 unfold putY
 split
 · rename_i h
   unfold putE at h
   by_cases h1:chkY y = 0
   · rw [if_neg (by simp [h1])] at h
     obtain ⟨_,h⟩:=ite_zero (by decide) h
     obtain ⟨_,h⟩:=ite_zero (by decide) h
     have hc:(putF n l s p y).cnt ≤ 60:=by
      unfold chkY at h
      split at h
      · assumption
      · omega
     exact ⟨(putF_nm ln.1 ln.2.1 ln.2.2.nm p y hy.nm).sm (by omega),by have:=Fo.len_le_cnt (putF n l s p y);omega⟩
   · rw [if_pos h1] at h;exact absurd h h1
 · exact ⟨trivial,by simp [Fo.len]⟩
theorem dropY_sm {y:Fo} {q:List Ky} (hy:y.Sm):(dropY y q).Sm∧(dropY y q).len ≤ 60:=by
 unfold dropY
 split
 · rename_i h
   have hc:chkY y = 0:=by
    by_cases h1:chkY y = 0
    · exact h1
    · rw [dropE,if_pos h1] at h;exact absurd h h1
   obtain ⟨hm,hs⟩:=fls_sml hc hy
   have hlen:(drP q (flsL [] y)).length ≤ 60:=by have:=List.length_filter_le (fun f:Fl=>!(decide (q.length ≤ f.p.length) && decide (f.p.take q.length = q))) (flsL [] y);simp only [drP];omega
   obtain ⟨a,b⟩:=treF_smc (drP q (flsL [] y)).length 0 (drP q (flsL [] y)) (nl_ _) (by omega) fun x hx=>by
    have h1:=(fls_ok hc).1 x (drP_mem.1 hx).1
    exact ⟨h1.2.2,h1.2.1⟩
   exact ⟨a,by omega⟩
 · exact ⟨trivial,by simp [Fo.len]⟩
theorem FileNodes_any (y:Fo) (p:List Ky) (n:List UInt8) (l:List Int) (s:Fo) (nm:List UInt8) (ay ap an ab:Option Addr) (cy cp cn cb:Nat) (w:World) (hy:In w (.slice ay y.len cy) y) (hp:PtIn w (.slice ap p.length cp) p) (hI:IsIn w (.slice an l.length cn) l) (hF:In w (.slice ab s.len cb) s) (ht:Pow w) :
 Calls Tryz.prog 8 #[.slice ay y.len cy, .slice ap p.length cp, .agg #[.string (bs n), .slice an l.length cn, .slice ab s.len cb], .string (bs nm)] w fun e w'=>e = .returned (.bool true)∧Below w.heap.size w w':=by
 have HT:=hid ht
 have hb0:Below w.heap.size w (w.alloc (.cells #[.string (bs n), .slice an l.length cn, .slice ab s.len cb] 85)):=(Below.refl _ _).alloc (nl_ _) _
 have BND:=hid (heap_alloc_new w (.cells #[.string (bs n), .slice an l.length cn, .slice ab s.len cb] 85))
 obtain ⟨w0,hw0⟩:∃ w0,w.alloc (.cells #[.string (bs n), .slice an l.length cn, .slice ab s.len cb] 85) = w0:=⟨_,rfl⟩
 obtain ⟨bn,hbn⟩:∃ b,w.heap.size = b:=⟨_,rfl⟩
 have hz0:w0.heap.size = bn + 1:=by rw [← hw0,← hbn];simp
 rw [hw0] at hb0 BND
 rw [hbn] at BND
 have HY:=hid (hy.on hb0)
 have HP:=hid (hp.on hb0)
 have HI:=hid (hI.on hb0)
 have HF:=hid (hF.on hb0)
 have BW:=hid hb0
 clear ht hy hp hI hF hb0
 obtain ⟨bad,hbad⟩:∃ bad:Bool,(decide (80 < cntG 0 0 y) || (decide (80 < cntG 0 0 (.cons n l s .nil)) || (decide (8 < p.length) || p.any wideK))) = bad:=⟨_,rfl⟩
 have HBAD:=hid hbad
 clear hbad
 go_enter Tryz.func8,Tryz.ntmps8
 go_upto_region 1 with fail
 try rw [hw0]
 try simp only [hbn]
 clear hw0
 go_cut [38] from 23 to 37 (fun v wx=>v = .bool bad∧Hid (Below w0.heap.size w0 wx))
 case first=>
  have BZ:=hid (Below.refl w0.heap.size w0)
  go_wp2_with fail
  refine (deep_any y ay cy _ w0 HY.out (fun _ h=>h)).mono ?_
  rintro e w1 ⟨rfl,hb⟩
  replace HY:=hid (HY.out.on hb)
  replace HP:=hid (HP.out.on hb)
  replace HI:=hid (HI.out.on hb)
  replace HF:=hid (HF.out.on hb)
  replace BZ:=hid (BZ.out.trans (hb.mono BZ.out.size))
  have BND1:=hid (blk_on8 BND.out hb)
  obtain ⟨bx,hbx⟩:∃ b,decide (80 < cntG 0 0 y) = b:=⟨_,rfl⟩
  rw [hbx] at HBAD ⊢
  clear hb
  cases bx
  rotate_left
  · have h1:=HBAD.out
    simp only [Bool.true_or,Bool.false_or] at h1
    have H1:=hid h1
    clear h1
    go_wp2_with fail
    go_meet
    case rel=>exact ⟨by rw [← H1.out],BZ.out⟩
  have q0:=cg_ BND1.out (k:=0) (v := .string (bs n)) rfl
  have q1:=cg_ BND1.out (k:=1) (v := .slice an l.length cn) rfl
  have q2:=cg_ BND1.out (k:=2) (v := .slice ab s.len cb) rfl
  have hb:Below w1.heap.size w1 (w1.alloc (.cells #[.string (bs n), .slice an l.length cn, .slice ab s.len cb] 85)):=(Below.refl _ _).alloc (nl_ _) _
  have bnew:=heap_alloc_new w1 (.cells #[.string (bs n), .slice an l.length cn, .slice ab s.len cb] 85)
  obtain ⟨w2,hw2⟩:∃ w2,w1.alloc (.cells #[.string (bs n), .slice an l.length cn, .slice ab s.len cb] 85) = w2:=⟨_,rfl⟩
  rw [hw2] at hb bnew
  replace HY:=hid (HY.out.on hb)
  replace HP:=hid (HP.out.on hb)
  replace HI:=hid (HI.out.on hb)
  replace HF:=hid (HF.out.on hb)
  replace BZ:=hid (BZ.out.trans (hb.mono BZ.out.size))
  clear hb
  have DN:=hid (deep_any (.cons n l s .nil) (some ⟨w1.heap.size,0,none⟩) 1 _ w2 (one_in bnew HI.out HF.out) (fun _ h=>h))
  clear bnew
  go_wp2_with fail
  try rw [hw2]
  refine DN.out.mono ?_
  rintro e w3 ⟨rfl,hb⟩
  replace HY:=hid (HY.out.on hb)
  replace HP:=hid (HP.out.on hb)
  replace HI:=hid (HI.out.on hb)
  replace HF:=hid (HF.out.on hb)
  replace BZ:=hid (BZ.out.trans (hb.mono BZ.out.size))
  clear hb DN hw2
  obtain ⟨bx,hbx2⟩:∃ b,decide (80 < cntG 0 0 (.cons n l s .nil)) = b:=⟨_,rfl⟩
  rw [hbx2] at HBAD ⊢
  cases bx
  rotate_left
  · have h1:=HBAD.out
    simp only [Bool.true_or,Bool.false_or] at h1
    have H1:=hid h1
    clear h1
    go_wp2_with fail
    go_meet
    case rel=>exact ⟨by rw [← H1.out],BZ.out⟩
  by_cases h8:8 < p.length
  · have h8':(8:Int) < (p.length:Int):=by omega
    have h1:=HBAD.out
    simp only [Bool.false_or,decide_eq_true h8,Bool.true_or] at h1
    have H1:=hid h1
    clear h1
    go_wp2_with fail
    go_meet
    case rel=>exact ⟨by rw [← H1.out],BZ.out⟩
  have h8':¬ (8:Int) < (p.length:Int):=by omega
  have h1:=HBAD.out
  simp only [Bool.false_or,decide_eq_false h8] at h1
  have H1:=hid h1
  clear h1
  have WP:=hid (wideP enters54 wide54 p ap cp _ w3 HP.out (fun _ h=>h) (by omega))
  go_wp2_with fail
  refine WP.out.mono ?_
  rintro e w4 ⟨rfl,hb⟩
  replace HY:=hid (HY.out.on hb)
  replace HP:=hid (HP.out.on hb)
  replace HI:=hid (HI.out.on hb)
  replace HF:=hid (HF.out.on hb)
  replace BZ:=hid (BZ.out.trans (hb.mono BZ.out.size))
  clear hb
  rw [H1.out]
  go_wp2_with fail
  go_meet
  case rel=>exact ⟨by simp;omega,BZ.out⟩
 case rest=>
  obtain ⟨rfl,hbc⟩:=hcut
  obtain ⟨w1,hw1⟩:∃ w1,w1 = wc:=⟨_,rfl⟩
  subst hw1
  have hb:=hbc.out
  replace BND:=hid (blk_on8 BND.out hb)
  have hzz:=hb.size
  replace HY:=hid (HY.out.on hb)
  replace HP:=hid (HP.out.on hb)
  replace HI:=hid (HI.out.on hb)
  replace HF:=hid (HF.out.on hb)
  replace BW:=hid (BW.out.trans (hb.mono BW.out.size))
  clear hb hbc
  cases bad
  rotate_left
  · go_wp2_with fail
    refine (awake_any w1 (HT.out.below BW.out)).mono ?_
    rintro e z_ ⟨rfl,hb⟩
    replace HY:=hid (HY.out.on hb)
    replace HP:=hid (HP.out.on hb)
    replace HI:=hid (HI.out.on hb)
    replace HF:=hid (HF.out.on hb)
    replace BW:=hid (BW.out.trans (hb.mono BW.out.size))
    clear hb
    go_wp2_with fail
    go_ret
    exact ⟨rfl,BW.out⟩
  have hB:=HBAD.out
  simp only [Bool.or_eq_false_iff,decide_eq_false_iff_not] at hB
  obtain ⟨hd1,hd2,hd3,hd4⟩:=hB
  obtain ⟨ny,smy,leny⟩:=deep_no hd1
  obtain ⟨nn,smn,lenn⟩:=deep_no hd2
  have SMY:=hid smy
  obtain ⟨ln1,ln2,ln3,ln4,_⟩:=smn
  have SMN:Hid (Fo.cons n l s .nil).Sm:=⟨ln1,ln2,ln3,ln4,trivial⟩
  have LN:=hid (And.intro ln1 (And.intro ln2 (And.intro ln3 ln4)))
  have ns:1 + s.cnt ≤ 80:=by simp only [Fo.cnt] at nn;omega
  have lp:p.length ≤ 8:=by omega
  clear HBAD hd1 hd2 hd3 hd4 smy nn lenn ln4
  have hbn1:bn < w1.heap.size:=by omega
  go_upto_region 3 with fail
  go_cut [9,10,11,12,13] from 40 to 50 (fun v9 v10 v11 v12 v13 wx=>∃ oy ky tx kx mp km o1 k1 qp kq,v9 = .slice oy y.len ky∧v10 = .slice tx y.len kx∧v11 = .slice mp p.length km∧v12 = .slice o1 1 k1∧v13 = .slice qp p.length kq∧Hid (In wx (.slice oy y.len ky) y)∧Hid (In wx (.slice tx y.len kx) y)∧Hid (PtIn wx (.slice mp p.length km) p)∧Hid (In wx (.slice o1 1 k1) (.cons n l s .nil))∧Hid (PtIn wx (.slice qp p.length kq) p)∧Hid (Below w1.heap.size w1 wx))
  case first=>
   clear BW HT
   have hb:Below w1.heap.size w1 w1.drew:=(Below.refl _ w1).drew
   have BZ:=hid hb
   obtain ⟨W0,hW0⟩:∃ W0,w1.drew = W0:=⟨_,rfl⟩
   rw [hW0] at hb BZ
   replace BND:=hid (blk_on8 BND.out hb)
   replace HY:=hid (HY.out.on hb)
   replace HP:=hid (HP.out.on hb)
   replace HI:=hid (HI.out.on hb)
   replace HF:=hid (HF.out.on hb)
   clear hb
   have q0:=cg_ BND.out (k:=0) (v := .string (bs n)) rfl
   have q1:=cg_ BND.out (k:=1) (v := .slice an l.length cn) rfl
   have q2:=cg_ BND.out (k:=2) (v := .slice ab s.len cb) rfl
   have hS0:W0.cell? ⟨bn,0,none⟩ = some (.string (bs n))∧W0.cell? ⟨bn,1,none⟩ = some (.slice an l.length cn)∧W0.cell? ⟨bn,2,none⟩ = some (.slice ab s.len cb):=⟨q0,q1,q2⟩
   clear q0 q1 q2
   have SC:=hid (fun (W:World) (h:W.heap[bn]? = some (.cells #[.string (bs n), .slice an l.length cn, .slice ab s.len cb] 85 (0,0)))=>show W.cell? ⟨bn,0,none⟩ = some (.string (bs n))∧W.cell? ⟨bn,1,none⟩ = some (.slice an l.length cn)∧W.cell? ⟨bn,2,none⟩ = some (.slice ab s.len cb) from ⟨cg_ h (k:=0) rfl,cg_ h (k:=1) rfl,cg_ h (k:=2) rfl⟩)
   refine (wpIn_wide (n:=9)).1 ?_
   refine region_held (fun w':World=>w'.cell? ⟨bn,0,none⟩ = some (.string (bs n))∧w'.cell? ⟨bn,1,none⟩ = some (.slice an l.length cn)∧w'.cell? ⟨bn,2,none⟩ = some (.slice ab s.len cb)) (by kernel_rfl) ?_
   rw [hW0]
   clear hW0
   refine tkY 0 40 (.slice ay y.len cy) rfl rfl hS0 (fun w' hs=>?_) ?_
   · go_simp
   refine tkY 2 42 (.slice ay y.len cy) rfl rfl hS0 (fun w' hs=>?_) ?_
   · go_simp
   refine tkY 4 44 (.slice ap p.length cp) rfl rfl hS0 (fun w' hs=>?_) ?_
   · go_simp
   refine tkY 6 46 (.agg #[.string (bs n), .slice an l.length cn, .slice ab s.len cb]) rfl rfl hS0 (fun w' hs=>?_) ?_
   · obtain ⟨q0,q1,q2⟩:=hs
     go_simp
   refine tkY 9 49 (.slice ap p.length cp) rfl rfl hS0 (fun w' hs=>?_) ?_
   · go_simp
   clear hS0
   refine AnyH_two (i:=1) (j:=7) (by kernel_rfl) rfl rfl (by kernel_rfl) (by kernel_rfl) (fun K hK=>?_) (fun K hK=>?_)
   · go_simp
     refine ⟨trivial,(callsIn_wide.2 (Own_any (y.cnt + 1) y ay cy _ W0 (Nat.lt_succ_self _) HY.out (fun _ h=>h) (by omega) SMY.out)).mono ?_⟩
     rintro e W1 ⟨oy,ky,rfl,h,hb⟩
     replace HY:=hid (HY.out.on hb)
     replace HP:=hid (HP.out.on hb)
     replace HI:=hid (HI.out.on hb)
     replace HF:=hid (HF.out.on hb)
     replace BND:=hid (blk_on8 BND.out hb)
     replace BZ:=hid (BZ.out.trans (hb.mono BZ.out.size))
     have HO:=hid (show FSl (fun q=>q < W1.heap.size) W1 (.slice oy y.len ky) y from h.wide fun q hq=>hq.2)
     refine hK _ _ ⟨SC.out _ BND.out,?_⟩
     clear hK hb h
     refine AnyH_two (i:=3) (j:=7) (by kernel_rfl) rfl rfl (by kernel_rfl) (by kernel_rfl) (fun K hK=>?_) (fun K hK=>?_)
     · go_simp
       refine ⟨trivial,(callsIn_wide.2 (theirs_any (y.cnt + 1) y ay cy _ W1 (Nat.lt_succ_self _) HY.out (fun _ h=>h) (by omega) SMY.out)).mono ?_⟩
       rintro e W2 ⟨tx,kx,rfl,h,hb⟩
       replace HY:=hid (HY.out.on hb)
       replace HP:=hid (HP.out.on hb)
       replace HI:=hid (HI.out.on hb)
       replace HF:=hid (HF.out.on hb)
       replace BND:=hid (blk_on8 BND.out hb)
       replace HO:=hid (HO.out.on hb)
       replace BZ:=hid (BZ.out.trans (hb.mono BZ.out.size))
       have HX:=hid (show FSl (fun q=>q < W2.heap.size) W2 (.slice tx y.len kx) y from h.wide fun q hq=>hq.2)
       refine hK _ _ ⟨SC.out _ BND.out,?_⟩
       clear hK hb h
       refine AnyH_two (i:=5) (j:=7) (by kernel_rfl) rfl rfl (by kernel_rfl) (by kernel_rfl) (fun K hK=>?_) (fun K hK=>?_)
       · go_simp
         refine ⟨trivial,(callsIn_wide.2 (dupK_c p ap cp _ W2 HP.out (fun _ h=>h) (by omega))).mono ?_⟩
         rintro e W3 ⟨mp,km,rfl,h,hb⟩
         replace HY:=hid (HY.out.on hb)
         replace HP:=hid (HP.out.on hb)
         replace HI:=hid (HI.out.on hb)
         replace HF:=hid (HF.out.on hb)
         replace BND:=hid (blk_on8 BND.out hb)
         replace HO:=hid (HO.out.on hb)
         replace HX:=hid (HX.out.on hb)
         replace BZ:=hid (BZ.out.trans (hb.mono BZ.out.size))
         have HM:=hid (show Pth (fun q=>q < W3.heap.size) W3 (.slice mp p.length km) p from h.wide fun q hq=>hq.2)
         refine hK _ _ ⟨SC.out _ BND.out,?_⟩
         clear hK hb h
         refine AnyH_one (i:=7) (by kernel_rfl) rfl (by kernel_rfl) (fun K hK=>?_)
         go_simp
         have hb:=(Below.refl W3.heap.size W3).alloc (nl_ _) (.cells #[.string (bs n), .slice an l.length cn, .slice ab s.len cb] 85)
         have hblk:=heap_alloc_new W3 (.cells #[.string (bs n), .slice an l.length cn, .slice ab s.len cb] 85)
         obtain ⟨bk,hbk⟩:∃ b,W3.heap.size = b:=⟨_,rfl⟩
         obtain ⟨W4,hnew⟩:∃ w',W3.alloc (.cells #[.string (bs n), .slice an l.length cn, .slice ab s.len cb] 85) = w':=⟨_,rfl⟩
         rw [hnew] at hb hblk ⊢
         rw [hbk] at hblk ⊢
         replace HY:=hid (HY.out.on hb)
         replace HP:=hid (HP.out.on hb)
         replace HI:=hid (HI.out.on hb)
         replace HF:=hid (HF.out.on hb)
         replace BND:=hid (blk_on8 BND.out hb)
         replace HM:=hid (HM.out.on hb)
         replace HO:=hid (HO.out.on hb)
         replace HX:=hid (HX.out.on hb)
         replace BZ:=hid (BZ.out.trans (hb.mono BZ.out.size))
         have BK:=hid hblk
         refine hK _ _ ⟨SC.out _ BND.out,?_⟩
         clear hK hb hblk hbk hnew
         refine AnyH_one (i:=8) (by kernel_rfl) rfl (by kernel_rfl) (fun K hK=>?_)
         go_simp
         refine ⟨trivial,(callsIn_wide.2 (Own_any (1 + s.cnt + 1) (.cons n l s .nil) (some ⟨bk,0,none⟩) 1 _ W4 (by simp only [Fo.cnt];omega) (one_in BK.out HI.out HF.out) (fun _ h=>h) (by simp [Fo.len]) SMN.out)).mono ?_⟩
         rintro e W5 ⟨o1,k1,rfl,h,hb⟩
         replace HY:=hid (HY.out.on hb)
         replace HP:=hid (HP.out.on hb)
         replace HI:=hid (HI.out.on hb)
         replace HF:=hid (HF.out.on hb)
         replace BND:=hid (blk_on8 BND.out hb)
         replace BK:=hid (blk_on8 BK.out hb)
         replace HM:=hid (HM.out.on hb)
         replace HO:=hid (HO.out.on hb)
         replace HX:=hid (HX.out.on hb)
         replace BZ:=hid (BZ.out.trans (hb.mono BZ.out.size))
         have H1:=hid (show FSl (fun q=>q < W5.heap.size) W5 (.slice o1 1 k1) (.cons n l s .nil) from h.wide fun q hq=>hq.2)
         refine hK _ _ ⟨SC.out _ BND.out,?_⟩
         clear hK hb h
         clear BK
         refine AnyH_one (i:=10) (by kernel_rfl) rfl (by kernel_rfl) (fun K hK=>?_)
         go_simp
         refine ⟨trivial,(callsIn_wide.2 (path_any p ap cp _ W5 HP.out (fun _ h=>h) (by omega))).mono ?_⟩
         rintro e W6 ⟨qp,kq,rfl,h,hb⟩
         replace HY:=hid (HY.out.on hb)
         replace HP:=hid (HP.out.on hb)
         replace HI:=hid (HI.out.on hb)
         replace HF:=hid (HF.out.on hb)
         replace BND:=hid (blk_on8 BND.out hb)
         replace H1:=hid (H1.out.on hb)
         replace HM:=hid (HM.out.on hb)
         replace HO:=hid (HO.out.on hb)
         replace HX:=hid (HX.out.on hb)
         replace BZ:=hid (BZ.out.trans (hb.mono BZ.out.size))
         have HQ:=hid (show Pth (fun q=>q < W6.heap.size) W6 (.slice qp p.length kq) p from h.wide fun q hq=>hq.2)
         refine hK _ _ ⟨SC.out _ BND.out,?_⟩
         clear hK hb h
         have hS9:=SC.out _ BND.out
         refine tkY 11 9 (.slice oy y.len ky) rfl rfl hS9 (fun w' hs=>?_) ?_
         · go_simp
         refine tkY 12 10 (.slice tx y.len kx) rfl rfl hS9 (fun w' hs=>?_) ?_
         · go_simp
         refine tkY 13 11 (.slice mp p.length km) rfl rfl hS9 (fun w' hs=>?_) ?_
         · go_simp
         refine tkY 14 12 (.slice o1 1 k1) rfl rfl hS9 (fun w' hs=>?_) ?_
         · go_simp
           try rfl
         refine tkY 15 13 (.slice qp p.length kq) rfl rfl hS9 (fun w' hs=>?_) ?_
         · go_simp
         clear hS9
         refine AnyH_done (by kernel_rfl) ?_
         go_simp
         go_wp2_with fail
         go_meet
         case rel=>exact ⟨oy,ky,tx,kx,mp,km,o1,k1,qp,kq,rfl,rfl,rfl,rfl,rfl,HO,HX,HM,H1,HQ,BZ⟩
       · go_simp
         have hb:=(Below.refl W2.heap.size W2).alloc (nl_ _) (.cells #[.string (bs n), .slice an l.length cn, .slice ab s.len cb] 85)
         have hblk:=heap_alloc_new W2 (.cells #[.string (bs n), .slice an l.length cn, .slice ab s.len cb] 85)
         obtain ⟨bk,hbk⟩:∃ b,W2.heap.size = b:=⟨_,rfl⟩
         obtain ⟨W7,hnew⟩:∃ w',W2.alloc (.cells #[.string (bs n), .slice an l.length cn, .slice ab s.len cb] 85) = w':=⟨_,rfl⟩
         rw [hnew] at hb hblk ⊢
         rw [hbk] at hblk ⊢
         replace HY:=hid (HY.out.on hb)
         replace HP:=hid (HP.out.on hb)
         replace HI:=hid (HI.out.on hb)
         replace HF:=hid (HF.out.on hb)
         replace BND:=hid (blk_on8 BND.out hb)
         replace HO:=hid (HO.out.on hb)
         replace HX:=hid (HX.out.on hb)
         replace BZ:=hid (BZ.out.trans (hb.mono BZ.out.size))
         have BK:=hid hblk
         refine hK _ _ ⟨SC.out _ BND.out,?_⟩
         clear hK hb hblk hbk hnew
         refine AnyH_one (i:=5) (by kernel_rfl) rfl (by kernel_rfl) (fun K hK=>?_)
         go_simp
         refine ⟨trivial,(callsIn_wide.2 (dupK_c p ap cp _ W7 HP.out (fun _ h=>h) (by omega))).mono ?_⟩
         rintro e W8 ⟨mp,km,rfl,h,hb⟩
         replace HY:=hid (HY.out.on hb)
         replace HP:=hid (HP.out.on hb)
         replace HI:=hid (HI.out.on hb)
         replace HF:=hid (HF.out.on hb)
         replace BND:=hid (blk_on8 BND.out hb)
         replace BK:=hid (blk_on8 BK.out hb)
         replace HO:=hid (HO.out.on hb)
         replace HX:=hid (HX.out.on hb)
         replace BZ:=hid (BZ.out.trans (hb.mono BZ.out.size))
         have HM:=hid (show Pth (fun q=>q < W8.heap.size) W8 (.slice mp p.length km) p from h.wide fun q hq=>hq.2)
         refine hK _ _ ⟨SC.out _ BND.out,?_⟩
         clear hK hb h
         refine AnyH_one (i:=8) (by kernel_rfl) rfl (by kernel_rfl) (fun K hK=>?_)
         go_simp
         refine ⟨trivial,(callsIn_wide.2 (Own_any (1 + s.cnt + 1) (.cons n l s .nil) (some ⟨bk,0,none⟩) 1 _ W8 (by simp only [Fo.cnt];omega) (one_in BK.out HI.out HF.out) (fun _ h=>h) (by simp [Fo.len]) SMN.out)).mono ?_⟩
         rintro e W9 ⟨o1,k1,rfl,h,hb⟩
         replace HY:=hid (HY.out.on hb)
         replace HP:=hid (HP.out.on hb)
         replace HI:=hid (HI.out.on hb)
         replace HF:=hid (HF.out.on hb)
         replace BND:=hid (blk_on8 BND.out hb)
         replace BK:=hid (blk_on8 BK.out hb)
         replace HM:=hid (HM.out.on hb)
         replace HO:=hid (HO.out.on hb)
         replace HX:=hid (HX.out.on hb)
         replace BZ:=hid (BZ.out.trans (hb.mono BZ.out.size))
         have H1:=hid (show FSl (fun q=>q < W9.heap.size) W9 (.slice o1 1 k1) (.cons n l s .nil) from h.wide fun q hq=>hq.2)
         refine hK _ _ ⟨SC.out _ BND.out,?_⟩
         clear hK hb h
         clear BK
         refine AnyH_one (i:=10) (by kernel_rfl) rfl (by kernel_rfl) (fun K hK=>?_)
         go_simp
         refine ⟨trivial,(callsIn_wide.2 (path_any p ap cp _ W9 HP.out (fun _ h=>h) (by omega))).mono ?_⟩
         rintro e W10 ⟨qp,kq,rfl,h,hb⟩
         replace HY:=hid (HY.out.on hb)
         replace HP:=hid (HP.out.on hb)
         replace HI:=hid (HI.out.on hb)
         replace HF:=hid (HF.out.on hb)
         replace BND:=hid (blk_on8 BND.out hb)
         replace H1:=hid (H1.out.on hb)
         replace HM:=hid (HM.out.on hb)
         replace HO:=hid (HO.out.on hb)
         replace HX:=hid (HX.out.on hb)
         replace BZ:=hid (BZ.out.trans (hb.mono BZ.out.size))
         have HQ:=hid (show Pth (fun q=>q < W10.heap.size) W10 (.slice qp p.length kq) p from h.wide fun q hq=>hq.2)
         refine hK _ _ ⟨SC.out _ BND.out,?_⟩
         clear hK hb h
         have hS9:=SC.out _ BND.out
         refine tkY 11 9 (.slice oy y.len ky) rfl rfl hS9 (fun w' hs=>?_) ?_
         · go_simp
         refine tkY 12 10 (.slice tx y.len kx) rfl rfl hS9 (fun w' hs=>?_) ?_
         · go_simp
         refine tkY 13 11 (.slice mp p.length km) rfl rfl hS9 (fun w' hs=>?_) ?_
         · go_simp
         refine tkY 14 12 (.slice o1 1 k1) rfl rfl hS9 (fun w' hs=>?_) ?_
         · go_simp
           try rfl
         refine tkY 15 13 (.slice qp p.length kq) rfl rfl hS9 (fun w' hs=>?_) ?_
         · go_simp
         clear hS9
         refine AnyH_done (by kernel_rfl) ?_
         go_simp
         go_wp2_with fail
         go_meet
         case rel=>exact ⟨oy,ky,tx,kx,mp,km,o1,k1,qp,kq,rfl,rfl,rfl,rfl,rfl,HO,HX,HM,H1,HQ,BZ⟩
     · go_simp
       have hb:=(Below.refl W1.heap.size W1).alloc (nl_ _) (.cells #[.string (bs n), .slice an l.length cn, .slice ab s.len cb] 85)
       have hblk:=heap_alloc_new W1 (.cells #[.string (bs n), .slice an l.length cn, .slice ab s.len cb] 85)
       obtain ⟨bk,hbk⟩:∃ b,W1.heap.size = b:=⟨_,rfl⟩
       obtain ⟨W11,hnew⟩:∃ w',W1.alloc (.cells #[.string (bs n), .slice an l.length cn, .slice ab s.len cb] 85) = w':=⟨_,rfl⟩
       rw [hnew] at hb hblk ⊢
       rw [hbk] at hblk ⊢
       replace HY:=hid (HY.out.on hb)
       replace HP:=hid (HP.out.on hb)
       replace HI:=hid (HI.out.on hb)
       replace HF:=hid (HF.out.on hb)
       replace BND:=hid (blk_on8 BND.out hb)
       replace HO:=hid (HO.out.on hb)
       replace BZ:=hid (BZ.out.trans (hb.mono BZ.out.size))
       have BK:=hid hblk
       refine hK _ _ ⟨SC.out _ BND.out,?_⟩
       clear hK hb hblk hbk hnew
       refine AnyH_one (i:=3) (by kernel_rfl) rfl (by kernel_rfl) (fun K hK=>?_)
       go_simp
       refine ⟨trivial,(callsIn_wide.2 (theirs_any (y.cnt + 1) y ay cy _ W11 (Nat.lt_succ_self _) HY.out (fun _ h=>h) (by omega) SMY.out)).mono ?_⟩
       rintro e W12 ⟨tx,kx,rfl,h,hb⟩
       replace HY:=hid (HY.out.on hb)
       replace HP:=hid (HP.out.on hb)
       replace HI:=hid (HI.out.on hb)
       replace HF:=hid (HF.out.on hb)
       replace BND:=hid (blk_on8 BND.out hb)
       replace BK:=hid (blk_on8 BK.out hb)
       replace HO:=hid (HO.out.on hb)
       replace BZ:=hid (BZ.out.trans (hb.mono BZ.out.size))
       have HX:=hid (show FSl (fun q=>q < W12.heap.size) W12 (.slice tx y.len kx) y from h.wide fun q hq=>hq.2)
       refine hK _ _ ⟨SC.out _ BND.out,?_⟩
       clear hK hb h
       refine AnyH_one (i:=5) (by kernel_rfl) rfl (by kernel_rfl) (fun K hK=>?_)
       go_simp
       refine ⟨trivial,(callsIn_wide.2 (dupK_c p ap cp _ W12 HP.out (fun _ h=>h) (by omega))).mono ?_⟩
       rintro e W13 ⟨mp,km,rfl,h,hb⟩
       replace HY:=hid (HY.out.on hb)
       replace HP:=hid (HP.out.on hb)
       replace HI:=hid (HI.out.on hb)
       replace HF:=hid (HF.out.on hb)
       replace BND:=hid (blk_on8 BND.out hb)
       replace BK:=hid (blk_on8 BK.out hb)
       replace HO:=hid (HO.out.on hb)
       replace HX:=hid (HX.out.on hb)
       replace BZ:=hid (BZ.out.trans (hb.mono BZ.out.size))
       have HM:=hid (show Pth (fun q=>q < W13.heap.size) W13 (.slice mp p.length km) p from h.wide fun q hq=>hq.2)
       refine hK _ _ ⟨SC.out _ BND.out,?_⟩
       clear hK hb h
       refine AnyH_one (i:=8) (by kernel_rfl) rfl (by kernel_rfl) (fun K hK=>?_)
       go_simp
       refine ⟨trivial,(callsIn_wide.2 (Own_any (1 + s.cnt + 1) (.cons n l s .nil) (some ⟨bk,0,none⟩) 1 _ W13 (by simp only [Fo.cnt];omega) (one_in BK.out HI.out HF.out) (fun _ h=>h) (by simp [Fo.len]) SMN.out)).mono ?_⟩
       rintro e W14 ⟨o1,k1,rfl,h,hb⟩
       replace HY:=hid (HY.out.on hb)
       replace HP:=hid (HP.out.on hb)
       replace HI:=hid (HI.out.on hb)
       replace HF:=hid (HF.out.on hb)
       replace BND:=hid (blk_on8 BND.out hb)
       replace BK:=hid (blk_on8 BK.out hb)
       replace HM:=hid (HM.out.on hb)
       replace HO:=hid (HO.out.on hb)
       replace HX:=hid (HX.out.on hb)
       replace BZ:=hid (BZ.out.trans (hb.mono BZ.out.size))
       have H1:=hid (show FSl (fun q=>q < W14.heap.size) W14 (.slice o1 1 k1) (.cons n l s .nil) from h.wide fun q hq=>hq.2)
       refine hK _ _ ⟨SC.out _ BND.out,?_⟩
       clear hK hb h
       clear BK
       refine AnyH_one (i:=10) (by kernel_rfl) rfl (by kernel_rfl) (fun K hK=>?_)
       go_simp
       refine ⟨trivial,(callsIn_wide.2 (path_any p ap cp _ W14 HP.out (fun _ h=>h) (by omega))).mono ?_⟩
       rintro e W15 ⟨qp,kq,rfl,h,hb⟩
       replace HY:=hid (HY.out.on hb)
       replace HP:=hid (HP.out.on hb)
       replace HI:=hid (HI.out.on hb)
       replace HF:=hid (HF.out.on hb)
       replace BND:=hid (blk_on8 BND.out hb)
       replace H1:=hid (H1.out.on hb)
       replace HM:=hid (HM.out.on hb)
       replace HO:=hid (HO.out.on hb)
       replace HX:=hid (HX.out.on hb)
       replace BZ:=hid (BZ.out.trans (hb.mono BZ.out.size))
       have HQ:=hid (show Pth (fun q=>q < W15.heap.size) W15 (.slice qp p.length kq) p from h.wide fun q hq=>hq.2)
       refine hK _ _ ⟨SC.out _ BND.out,?_⟩
       clear hK hb h
       have hS9:=SC.out _ BND.out
       refine tkY 11 9 (.slice oy y.len ky) rfl rfl hS9 (fun w' hs=>?_) ?_
       · go_simp
       refine tkY 12 10 (.slice tx y.len kx) rfl rfl hS9 (fun w' hs=>?_) ?_
       · go_simp
       refine tkY 13 11 (.slice mp p.length km) rfl rfl hS9 (fun w' hs=>?_) ?_
       · go_simp
       refine tkY 14 12 (.slice o1 1 k1) rfl rfl hS9 (fun w' hs=>?_) ?_
       · go_simp
         try rfl
       refine tkY 15 13 (.slice qp p.length kq) rfl rfl hS9 (fun w' hs=>?_) ?_
       · go_simp
       clear hS9
       refine AnyH_done (by kernel_rfl) ?_
       go_simp
       go_wp2_with fail
       go_meet
       case rel=>exact ⟨oy,ky,tx,kx,mp,km,o1,k1,qp,kq,rfl,rfl,rfl,rfl,rfl,HO,HX,HM,H1,HQ,BZ⟩
   · go_simp
     have hb:=(Below.refl W0.heap.size W0).alloc (nl_ _) (.cells #[.string (bs n), .slice an l.length cn, .slice ab s.len cb] 85)
     have hblk:=heap_alloc_new W0 (.cells #[.string (bs n), .slice an l.length cn, .slice ab s.len cb] 85)
     obtain ⟨bk,hbk⟩:∃ b,W0.heap.size = b:=⟨_,rfl⟩
     obtain ⟨W16,hnew⟩:∃ w',W0.alloc (.cells #[.string (bs n), .slice an l.length cn, .slice ab s.len cb] 85) = w':=⟨_,rfl⟩
     rw [hnew] at hb hblk ⊢
     rw [hbk] at hblk ⊢
     replace HY:=hid (HY.out.on hb)
     replace HP:=hid (HP.out.on hb)
     replace HI:=hid (HI.out.on hb)
     replace HF:=hid (HF.out.on hb)
     replace BND:=hid (blk_on8 BND.out hb)
     replace BZ:=hid (BZ.out.trans (hb.mono BZ.out.size))
     have BK:=hid hblk
     refine hK _ _ ⟨SC.out _ BND.out,?_⟩
     clear hK hb hblk hbk hnew
     refine AnyH_one (i:=1) (by kernel_rfl) rfl (by kernel_rfl) (fun K hK=>?_)
     go_simp
     refine ⟨trivial,(callsIn_wide.2 (Own_any (y.cnt + 1) y ay cy _ W16 (Nat.lt_succ_self _) HY.out (fun _ h=>h) (by omega) SMY.out)).mono ?_⟩
     rintro e W17 ⟨oy,ky,rfl,h,hb⟩
     replace HY:=hid (HY.out.on hb)
     replace HP:=hid (HP.out.on hb)
     replace HI:=hid (HI.out.on hb)
     replace HF:=hid (HF.out.on hb)
     replace BND:=hid (blk_on8 BND.out hb)
     replace BK:=hid (blk_on8 BK.out hb)
     replace BZ:=hid (BZ.out.trans (hb.mono BZ.out.size))
     have HO:=hid (show FSl (fun q=>q < W17.heap.size) W17 (.slice oy y.len ky) y from h.wide fun q hq=>hq.2)
     refine hK _ _ ⟨SC.out _ BND.out,?_⟩
     clear hK hb h
     refine AnyH_one (i:=3) (by kernel_rfl) rfl (by kernel_rfl) (fun K hK=>?_)
     go_simp
     refine ⟨trivial,(callsIn_wide.2 (theirs_any (y.cnt + 1) y ay cy _ W17 (Nat.lt_succ_self _) HY.out (fun _ h=>h) (by omega) SMY.out)).mono ?_⟩
     rintro e W18 ⟨tx,kx,rfl,h,hb⟩
     replace HY:=hid (HY.out.on hb)
     replace HP:=hid (HP.out.on hb)
     replace HI:=hid (HI.out.on hb)
     replace HF:=hid (HF.out.on hb)
     replace BND:=hid (blk_on8 BND.out hb)
     replace BK:=hid (blk_on8 BK.out hb)
     replace HO:=hid (HO.out.on hb)
     replace BZ:=hid (BZ.out.trans (hb.mono BZ.out.size))
     have HX:=hid (show FSl (fun q=>q < W18.heap.size) W18 (.slice tx y.len kx) y from h.wide fun q hq=>hq.2)
     refine hK _ _ ⟨SC.out _ BND.out,?_⟩
     clear hK hb h
     refine AnyH_one (i:=5) (by kernel_rfl) rfl (by kernel_rfl) (fun K hK=>?_)
     go_simp
     refine ⟨trivial,(callsIn_wide.2 (dupK_c p ap cp _ W18 HP.out (fun _ h=>h) (by omega))).mono ?_⟩
     rintro e W19 ⟨mp,km,rfl,h,hb⟩
     replace HY:=hid (HY.out.on hb)
     replace HP:=hid (HP.out.on hb)
     replace HI:=hid (HI.out.on hb)
     replace HF:=hid (HF.out.on hb)
     replace BND:=hid (blk_on8 BND.out hb)
     replace BK:=hid (blk_on8 BK.out hb)
     replace HO:=hid (HO.out.on hb)
     replace HX:=hid (HX.out.on hb)
     replace BZ:=hid (BZ.out.trans (hb.mono BZ.out.size))
     have HM:=hid (show Pth (fun q=>q < W19.heap.size) W19 (.slice mp p.length km) p from h.wide fun q hq=>hq.2)
     refine hK _ _ ⟨SC.out _ BND.out,?_⟩
     clear hK hb h
     refine AnyH_one (i:=8) (by kernel_rfl) rfl (by kernel_rfl) (fun K hK=>?_)
     go_simp
     refine ⟨trivial,(callsIn_wide.2 (Own_any (1 + s.cnt + 1) (.cons n l s .nil) (some ⟨bk,0,none⟩) 1 _ W19 (by simp only [Fo.cnt];omega) (one_in BK.out HI.out HF.out) (fun _ h=>h) (by simp [Fo.len]) SMN.out)).mono ?_⟩
     rintro e W20 ⟨o1,k1,rfl,h,hb⟩
     replace HY:=hid (HY.out.on hb)
     replace HP:=hid (HP.out.on hb)
     replace HI:=hid (HI.out.on hb)
     replace HF:=hid (HF.out.on hb)
     replace BND:=hid (blk_on8 BND.out hb)
     replace BK:=hid (blk_on8 BK.out hb)
     replace HM:=hid (HM.out.on hb)
     replace HO:=hid (HO.out.on hb)
     replace HX:=hid (HX.out.on hb)
     replace BZ:=hid (BZ.out.trans (hb.mono BZ.out.size))
     have H1:=hid (show FSl (fun q=>q < W20.heap.size) W20 (.slice o1 1 k1) (.cons n l s .nil) from h.wide fun q hq=>hq.2)
     refine hK _ _ ⟨SC.out _ BND.out,?_⟩
     clear hK hb h
     clear BK
     refine AnyH_one (i:=10) (by kernel_rfl) rfl (by kernel_rfl) (fun K hK=>?_)
     go_simp
     refine ⟨trivial,(callsIn_wide.2 (path_any p ap cp _ W20 HP.out (fun _ h=>h) (by omega))).mono ?_⟩
     rintro e W21 ⟨qp,kq,rfl,h,hb⟩
     replace HY:=hid (HY.out.on hb)
     replace HP:=hid (HP.out.on hb)
     replace HI:=hid (HI.out.on hb)
     replace HF:=hid (HF.out.on hb)
     replace BND:=hid (blk_on8 BND.out hb)
     replace H1:=hid (H1.out.on hb)
     replace HM:=hid (HM.out.on hb)
     replace HO:=hid (HO.out.on hb)
     replace HX:=hid (HX.out.on hb)
     replace BZ:=hid (BZ.out.trans (hb.mono BZ.out.size))
     have HQ:=hid (show Pth (fun q=>q < W21.heap.size) W21 (.slice qp p.length kq) p from h.wide fun q hq=>hq.2)
     refine hK _ _ ⟨SC.out _ BND.out,?_⟩
     clear hK hb h
     have hS9:=SC.out _ BND.out
     refine tkY 11 9 (.slice oy y.len ky) rfl rfl hS9 (fun w' hs=>?_) ?_
     · go_simp
     refine tkY 12 10 (.slice tx y.len kx) rfl rfl hS9 (fun w' hs=>?_) ?_
     · go_simp
     refine tkY 13 11 (.slice mp p.length km) rfl rfl hS9 (fun w' hs=>?_) ?_
     · go_simp
     refine tkY 14 12 (.slice o1 1 k1) rfl rfl hS9 (fun w' hs=>?_) ?_
     · go_simp
       try rfl
     refine tkY 15 13 (.slice qp p.length kq) rfl rfl hS9 (fun w' hs=>?_) ?_
     · go_simp
     clear hS9
     refine AnyH_done (by kernel_rfl) ?_
     go_simp
     go_wp2_with fail
     go_meet
     case rel=>exact ⟨oy,ky,tx,kx,mp,km,o1,k1,qp,kq,rfl,rfl,rfl,rfl,rfl,HO,HX,HM,H1,HQ,BZ⟩
  case rest=>
   obtain ⟨oy,ky,tx,kx,mp,km,o1,k1,qp,kq,rfl,rfl,rfl,rfl,rfl,HO,HX,HM,H1,HQ,hbc⟩:=hcut
   obtain ⟨wD,hwD⟩:∃ wD,wD = wc:=⟨_,rfl⟩
   subst hwD
   have hb:=hbc.out
   replace BND:=hid (blk_on8 BND.out hb)
   replace HY:=hid (HY.out.on hb)
   replace HP:=hid (HP.out.on hb)
   replace HI:=hid (HI.out.on hb)
   replace HF:=hid (HF.out.on hb)
   replace BW:=hid (BW.out.trans (hb.mono BW.out.size))
   clear hb hbc
   obtain ⟨g1,o1',an1,cn1,ab1,cb1,rfl,hg1,m0,m1,m2,hI1,hF1⟩:=one_at H1.out
   have C1:=hid (And.intro m0 (And.intro m1 m2))
   have HI1:=hid hI1
   have HF1:=hid hF1
   clear m0 m1 m2 hI1 hF1
   obtain ⟨E,hE⟩:∃ E,getE y p = E:=⟨_,rfl⟩
   have nee:(E != E) = false:=by simp
   have GU:=Get_u y p oy mp ky km _ _ wD HO.out (fun _ h=>h) HM.out (fun _ h=>h) (by omega) SMY.out (by omega) (by omega)
   have RG:=fun (W:World) (h:Below wD.heap.size wD W)=>RefGet_any y p tx qp kx kq W (HX.out.on h) (HQ.out.on h) ⟨by omega,SMY.out,by omega⟩ (by omega)
   unfold GetU at GU
   unfold RGetR at RG
   simp only [hE] at GU RG
   have GU:=hid GU
   have RG:=hid RG
   clear hE
   have BD:=hid (Below.refl wD.heap.size wD)
   go_wp2_with fail
   refine (GU.out).mono ?_
   rintro e v1 ⟨n1,l1,s1,ag,cg,bg,dg,hN,rfl,hI1,hF1,hb⟩
   have BD:=hid (BD.out.trans (hb.mono BD.out.size))
   have hN2:=getN_sm SMY.out ny hN
   have IU:=hid hI1
   have FU:=hid hF1
   have HN:=hid hN
   have LG:=hid hN2
   have hz1:=hb.size
   clear hI1 hF1 hb hN hN2 GU
   go_upto_region 5 with fail
   have hb:Below v1.heap.size v1 (v1.alloc (.cells #[.string (bs n1), .slice ag l1.length cg, .slice bg s1.len dg] 85)):=(Below.refl _ _).alloc (nl_ _) _
   have BG:=heap_alloc_new v1 (.cells #[.string (bs n1), .slice ag l1.length cg, .slice bg s1.len dg] 85)
   obtain ⟨v2,hv2⟩:∃ w',v1.alloc (.cells #[.string (bs n1), .slice ag l1.length cg, .slice bg s1.len dg] 85) = w':=⟨_,rfl⟩
   rw [hv2] at hb BG
   have hz_v2:=hb.size
   have BD:=hid (BD.out.trans (hb.mono BD.out.size))
   try rw [hv2]
   have BG:=hid BG
   have IU:=hid (IntU.agree IU.out (Ag_b hb (fun _ h=>h.2)))
   have FU:=hid (FSlU.agree FU.out (Ag_b hb (fun _ h=>h.2)))
   clear hb hv2
   go_wp2_with fail
   refine (RG.out v2 BD.out).mono ?_
   rintro e v3 ⟨n2,l2,s2,ah,ch,bh,dh,hN,rfl,hI2,hF2,hb⟩
   have BD:=hid (BD.out.trans (hb.mono BD.out.size))
   rw [HN.out] at hN
   obtain ⟨rfl,rfl,rfl⟩:n1 = n2∧l1 = l2∧s1 = s2:=by cases hN;exact ⟨rfl,rfl,rfl⟩
   have IH:=hid (show IsIn v3 _ _ from hI2)
   have FH:=hid (show In v3 _ _ from hF2)
   have BG:=hid (blk_on8 BG.out hb)
   have hz3:=hb.size
   have IU:=hid (IntU.agree IU.out (Ag_b hb (fun _ h=>by have:=h.2;omega)))
   have FU:=hid (FSlU.agree FU.out (Ag_b hb (fun _ h=>by have:=h.2;omega)))
   clear hI2 hF2 hb hN RG
   go_upto_region 6 with fail
   have hb:Below v3.heap.size v3 (v3.alloc (.cells #[.string (bs n1), .slice ah l1.length ch, .slice bh s1.len dh] 97)):=(Below.refl _ _).alloc (nl_ _) _
   have BH:=heap_alloc_new v3 (.cells #[.string (bs n1), .slice ah l1.length ch, .slice bh s1.len dh] 97)
   obtain ⟨v4,hv4⟩:∃ w',v3.alloc (.cells #[.string (bs n1), .slice ah l1.length ch, .slice bh s1.len dh] 97) = w':=⟨_,rfl⟩
   rw [hv4] at hb BH
   have hz_v4:=hb.size
   have BD:=hid (BD.out.trans (hb.mono BD.out.size))
   try rw [hv4]
   have BH:=hid BH
   have IH:=hid (IH.out.on hb)
   have FH:=hid (FH.out.on hb)
   have BG:=hid (blk_on8 BG.out hb)
   have IU:=hid (IntU.agree IU.out (Ag_b hb (fun _ h=>by have:=h.2;omega)))
   have FU:=hid (FSlU.agree FU.out (Ag_b hb (fun _ h=>by have:=h.2;omega)))
   clear hb hv4
   have g0:=cg_ BG.out (k:=0) (v := .string (bs n1)) rfl
   have g1_:=cg_ BG.out (k:=1) (v := .slice ag l1.length cg) rfl
   have g2:=cg_ BG.out (k:=2) (v := .slice bg s1.len dg) rfl
   have h0:=cg_ BH.out (k:=0) (v := .string (bs n1)) rfl
   have h1:=cg_ BH.out (k:=1) (v := .slice ah l1.length ch) rfl
   have h2:=cg_ BH.out (k:=2) (v := .slice bh s1.len dh) rfl
   have hb:Below v4.heap.size v4 (v4.alloc (.cells #[.string (bs n1), .slice ag l1.length cg, .slice bg s1.len dg] 85)):=(Below.refl _ _).alloc (nl_ _) _
   have BA:=heap_alloc_new v4 (.cells #[.string (bs n1), .slice ag l1.length cg, .slice bg s1.len dg] 85)
   obtain ⟨v5,hv5⟩:∃ w',v4.alloc (.cells #[.string (bs n1), .slice ag l1.length cg, .slice bg s1.len dg] 85) = w':=⟨_,rfl⟩
   rw [hv5] at hb BA
   have hz_v5:=hb.size
   have BD:=hid (BD.out.trans (hb.mono BD.out.size))
   have BA:=hid BA
   have BH:=hid (blk_on8 BH.out hb)
   have IH:=hid (IH.out.on hb)
   have FH:=hid (FH.out.on hb)
   have BG:=hid (blk_on8 BG.out hb)
   have IU:=hid (IntU.agree IU.out (Ag_b hb (fun _ h=>by have:=h.2;omega)))
   have FU:=hid (FSlU.agree FU.out (Ag_b hb (fun _ h=>by have:=h.2;omega)))
   clear hb
   have i0:=cg_ BH.out (k:=0) (v := .string (bs n1)) rfl
   have i1:=cg_ BH.out (k:=1) (v := .slice ah l1.length ch) rfl
   have i2:=cg_ BH.out (k:=2) (v := .slice bh s1.len dh) rfl
   have hb:Below v5.heap.size v5 (v5.alloc (.cells #[.string (bs n1), .slice ah l1.length ch, .slice bh s1.len dh] 97)):=(Below.refl _ _).alloc (nl_ _) _
   have BB:=heap_alloc_new v5 (.cells #[.string (bs n1), .slice ah l1.length ch, .slice bh s1.len dh] 97)
   obtain ⟨v6,hv6⟩:∃ w',v5.alloc (.cells #[.string (bs n1), .slice ah l1.length ch, .slice bh s1.len dh] 97) = w':=⟨_,rfl⟩
   rw [hv6] at hb BB
   have hz_v6:=hb.size
   have BD:=hid (BD.out.trans (hb.mono BD.out.size))
   have BB:=hid BB
   have BA:=hid (blk_on8 BA.out hb)
   have IH:=hid (IH.out.on hb)
   have FH:=hid (FH.out.on hb)
   have BG:=hid (blk_on8 BG.out hb)
   have IU:=hid (IntU.agree IU.out (Ag_b hb (fun _ h=>by have:=h.2;omega)))
   have FU:=hid (FSlU.agree FU.out (Ag_b hb (fun _ h=>by have:=h.2;omega)))
   clear hb
   have SN:=hid ((sameNodes_any (1 + s1.cnt + 1)).2 (.cons n1 l1 s1 .nil) (.cons n1 l1 s1 .nil) (some ⟨v4.heap.size,0,none⟩) 1 (some ⟨v5.heap.size,0,none⟩) 1 (fun q=>q < v6.heap.size) v6 (by simp only [Fo.cnt];omega) (one_in BA.out (Ints.wide IU.out fun q hq=>by have:=hq.1.2;omega) (FSl.wide FU.out fun q hq=>by have:=hq.1.2;omega)) (one_in BB.out IH.out FH.out) (fun _ h=>h) (by simp [Fo.len]) (by simp [Fo.len]) ⟨LG.out.1,LG.out.2.1,LG.out.2.2.1,LG.out.2.2.2.1,trivial⟩ ⟨LG.out.1,LG.out.2.1,LG.out.2.2.1,LG.out.2.2.2.1,trivial⟩)
   rw [decide_eq_true (show Fo.cons n1 l1 s1 .nil = Fo.cons n1 l1 s1 .nil from rfl)] at SN
   go_wp2_with fail
   try rw [hv5]
   try rw [hv6]
   refine SN.out.mono ?_
   rintro e v7 ⟨rfl,hb⟩
   have BD:=hid (BD.out.trans (hb.mono BD.out.size))
   have hz7:=hb.size
   have BG:=hid (blk_on8 BG.out hb)
   have IU:=hid (IntU.agree IU.out (Ag_b hb (fun _ h=>by have:=h.2;omega)))
   have FU:=hid (FSlU.agree FU.out (Ag_b hb (fun _ h=>by have:=h.2;omega)))
   clear hb SN BA BB IH FH BH hv5 hv6 g0 g1_ g2 h0 h1 h2 i0 i1 i2
   go_upto_region 8 with fail
   have g0:=cg_ BG.out (k:=0) (v := .string (bs n1)) rfl
   have g1_:=cg_ BG.out (k:=1) (v := .slice ag l1.length cg) rfl
   have g2:=cg_ BG.out (k:=2) (v := .slice bg s1.len dg) rfl
   have hb:Below v7.heap.size v7 (v7.alloc (.cells #[.string (bs n1), .slice ag l1.length cg, .slice bg s1.len dg] 85)):=(Below.refl _ _).alloc (nl_ _) _
   have BA:=heap_alloc_new v7 (.cells #[.string (bs n1), .slice ag l1.length cg, .slice bg s1.len dg] 85)
   obtain ⟨v8,hv8⟩:∃ w',v7.alloc (.cells #[.string (bs n1), .slice ag l1.length cg, .slice bg s1.len dg] 85) = w':=⟨_,rfl⟩
   rw [hv8] at hb BA
   have hz_v8:=hb.size
   have BD:=hid (BD.out.trans (hb.mono BD.out.size))
   have BA:=hid BA
   have BG:=hid (blk_on8 BG.out hb)
   have IU:=hid (IntU.agree IU.out (Ag_b hb (fun _ h=>by have:=h.2;omega)))
   have FU:=hid (FSlU.agree FU.out (Ag_b hb (fun _ h=>by have:=h.2;omega)))
   clear hb
   have SCR:=hid (scribble_any (1 + s1.cnt + 1) (.cons n1 l1 s1 .nil) (some ⟨v7.heap.size,0,none⟩) 1 (fun b=>wD.heap.size ≤ b) wD.heap.size v8 (by simp only [Fo.cnt];omega) (one_node_u BA.out (by have:=BD.out.size;omega) (IntU.wide IU.out fun q hq=>hq.1) (FSlU.wide FU.out fun q hq=>hq.1)) (fun _ h=>h) BD.out.size)
   go_wp2_with fail
   try rw [hv8]
   refine SCR.out.mono ?_
   rintro e wE ⟨rfl,_,hs⟩
   have hb:=BD.out.trans hs
   replace BND:=hid (blk_on8 BND.out hb)
   replace C1:=hid (And.intro (bc_ hb hg1 C1.out.1) (And.intro (bc_ hb hg1 C1.out.2.1) (bc_ hb hg1 C1.out.2.2)))
   replace hg1:=Nat.lt_of_lt_of_le hg1 hb.size
   replace HY:=hid (HY.out.on hb)
   replace HP:=hid (HP.out.on hb)
   replace HI:=hid (HI.out.on hb)
   replace HF:=hid (HF.out.on hb)
   replace HO:=hid (HO.out.on hb)
   replace HX:=hid (HX.out.on hb)
   replace HM:=hid (HM.out.on hb)
   replace H1:=hid (H1.out.on hb)
   replace HQ:=hid (HQ.out.on hb)
   replace HI1:=hid (HI1.out.on hb)
   replace HF1:=hid (HF1.out.on hb)
   replace BW:=hid (BW.out.trans (hb.mono BW.out.size))
   clear hb hs SCR BA IU FU BG BD HN LG hv8 hz_v2 hz_v4 hz_v5 hz_v6 hz_v8 hz1 hz3 hz7 g0 g1_ g2 nee
   obtain ⟨E2,hE⟩:∃ E,putE y p n l s = E:=⟨_,rfl⟩
   obtain ⟨Y2,hY⟩:∃ Y,putY y p n l s = Y:=⟨_,rfl⟩
   have nee:(E2 != E2) = false:=by simp
   have SMP:=putY_sm (y:=y) (p:=p) (n:=n) (l:=l) (s:=s) SMY.out ⟨LN.out.1,LN.out.2.1,LN.out.2.2.2⟩
   have GU:=Put_any y p n l s oy mp an1 ab1 ky km cn1 cb1 _ _ _ wE HO.out (fun _ h=>h) HM.out (fun _ h=>h) HI1.out HF1.out (fun _ h=>h) (by omega) SMY.out (by omega) (by omega) LN.out.1 LN.out.2.1 LN.out.2.2.1 LN.out.2.2.2 (by omega)
   unfold PutE at GU
   rw [hE,hY] at GU
   rw [hY] at SMP
   have SMP:=hid SMP
   have GU:=hid GU
   have HE2:=hid (And.intro hE hY)
   clear hE hY
   obtain ⟨c0,c1,c2⟩:=C1.out
   have BD:=hid (Below.refl wE.heap.size wE)
   go_wp2_with fail
   refine (GU.out).mono ?_
   rintro e v1 ⟨aP,cP,rfl,hP,hb⟩
   have BD:=hid (BD.out.trans (hb.mono BD.out.size))
   have FU:=hid (FOw.fslu hP)
   have hz1:=hb.size
   have BND1:=hid (blk_on8 BND.out hb)
   clear hb hP GU c0 c1 c2
   go_upto_region 10 with fail
   have q0:=cg_ BND1.out (k:=0) (v := .string (bs n)) rfl
   have q1:=cg_ BND1.out (k:=1) (v := .slice an l.length cn) rfl
   have q2:=cg_ BND1.out (k:=2) (v := .slice ab s.len cb) rfl
   have hb:Below v1.heap.size v1 (v1.alloc (.cells #[.string (bs n), .slice an l.length cn, .slice ab s.len cb] 85)):=(Below.refl _ _).alloc (nl_ _) _
   have BA:=heap_alloc_new v1 (.cells #[.string (bs n), .slice an l.length cn, .slice ab s.len cb] 85)
   obtain ⟨v2,hv2⟩:∃ w',v1.alloc (.cells #[.string (bs n), .slice an l.length cn, .slice ab s.len cb] 85) = w':=⟨_,rfl⟩
   rw [hv2] at hb BA
   have hz_v2:=hb.size
   have BD:=hid (BD.out.trans (hb.mono BD.out.size))
   have FU:=hid (FSlU.agree FU.out (Ag_b hb (fun _ h=>h.2)))
   have TH:=hid (theirs_any (1 + s.cnt + 1) (.cons n l s .nil) (some ⟨v1.heap.size,0,none⟩) 1 _ v2 (by simp only [Fo.cnt];omega) (one_in BA (HI.out.on BD.out) (HF.out.on BD.out)) (fun _ h=>h) (by simp [Fo.len]) SMN.out)
   clear hb BA
   go_wp2_with fail
   try rw [hv2]
   refine TH.out.mono ?_
   rintro e v3 ⟨aT,cT,rfl,hT,hb⟩
   have hl1:(Fo.cons n l s .nil).len = 1:=rfl
   rw [hl1]
   have BD:=hid (BD.out.trans (hb.mono BD.out.size))
   have hz3:=hb.size
   have FU:=hid (FSlU.agree FU.out (Ag_b hb (fun _ h=>by have:=h.2;omega)))
   obtain ⟨g2,o2,an2,cn2,ab2,cb2,e2,_,m0,m1,m2,hI2,hF2⟩:=one_at (w:=v3) (a:=aT) (c:=cT) (FSl.wide hT fun q hq=>hq.2)
   subst e2
   have RP:=RefPut_any y p n l s tx qp an2 ab2 kx kq cn2 cb2 v3 (HX.out.on BD.out) (HQ.out.on BD.out) hI2 hF2 ⟨by omega,SMY.out,by omega⟩ (by omega) ⟨LN.out.1,LN.out.2.1,LN.out.2.2.1,LN.out.2.2.2,by omega⟩
   rw [HE2.out.1,HE2.out.2] at RP
   have RP:=hid RP
   clear hb hT hI2 hF2 TH hv2 q0 q1 q2 BND1
   go_wp2_with fail
   refine (RP.out).mono ?_
   rintro e v4 ⟨aR,cR,rfl,hR,hb⟩
   have BD:=hid (BD.out.trans (hb.mono BD.out.size))
   have FU:=hid (FSlU.agree FU.out (Ag_b hb (fun _ h=>by have:=h.2;omega)))
   have hz4:=hb.size
   have SN:=hid ((sameNodes_any (Y2.cnt + 1)).2 Y2 Y2 aP cP aR cR (fun q=>q < v4.heap.size) v4 (Nat.lt_succ_self _) (FSl.wide FU.out fun q hq=>by have:=hq.1.2;omega) hR (fun _ h=>h) (by have:=SMP.out.2;omega) (by have:=SMP.out.2;omega) SMP.out.1 SMP.out.1)
   rw [decide_eq_true (show Y2 = Y2 from rfl)] at SN
   clear hb hR m0 m1 m2 hl1 RP
   go_wp2_with fail
   refine (SN.out).mono ?_
   rintro e v5 ⟨rfl,hb⟩
   have BD:=hid (BD.out.trans (hb.mono BD.out.size))
   have FU:=hid (FSlU.agree FU.out (Ag_b hb (fun _ h=>by have:=h.2;omega)))
   have SCR:=hid (scribble_any (Y2.cnt + 1) Y2 aP cP (fun b=>wE.heap.size ≤ b) wE.heap.size v5 (Nat.lt_succ_self _) (FSlU.wide FU.out fun q hq=>hq.1) (fun _ h=>h) BD.out.size)
   clear hb SN
   go_wp2_with fail
   refine SCR.out.mono ?_
   rintro e wF ⟨rfl,_,hs⟩
   have hb:=BD.out.trans hs
   replace BND:=hid (blk_on8 BND.out hb)
   clear HI1 HF1 C1 hg1
   replace HY:=hid (HY.out.on hb)
   replace HP:=hid (HP.out.on hb)
   replace HI:=hid (HI.out.on hb)
   replace HF:=hid (HF.out.on hb)
   replace HO:=hid (HO.out.on hb)
   replace HX:=hid (HX.out.on hb)
   replace HM:=hid (HM.out.on hb)
   replace H1:=hid (H1.out.on hb)
   replace HQ:=hid (HQ.out.on hb)
   replace BW:=hid (BW.out.trans (hb.mono BW.out.size))
   clear hb hs SCR FU BD HE2 SMP hz_v2 hz1 hz3 hz4 nee
   obtain ⟨E3,hE⟩:∃ E,dropE y p = E:=⟨_,rfl⟩
   obtain ⟨Y3,hY⟩:∃ Y,dropY y p = Y:=⟨_,rfl⟩
   have nee:(E3 != E3) = false:=by simp
   have SMP:=dropY_sm (y:=y) (q:=p) SMY.out
   have GU:=Drop_u y p oy mp ky km _ _ wF HO.out (fun _ h=>h) HM.out (fun _ h=>h) (by omega) SMY.out (by omega) (by omega)
   have RP:=fun (W:World) (h:Below wF.heap.size wF W)=>RefDrop_any y p tx qp kx kq W (HX.out.on h) (HQ.out.on h) ⟨by omega,SMY.out,by omega⟩ (by omega)
   unfold DropU at GU
   rw [hE,hY] at GU
   simp only [hE,hY] at RP
   rw [hY] at SMP
   have SMP:=hid SMP
   have GU:=hid GU
   have RP:=hid RP
   clear hE hY
   have BD:=hid (Below.refl wF.heap.size wF)
   go_wp2_with fail
   refine (GU.out).mono ?_
   rintro e v1 ⟨aP,cP,rfl,hP,hb⟩
   have BD:=hid (BD.out.trans (hb.mono BD.out.size))
   have FU:=hid hP
   have hz1:=hb.size
   clear hb hP GU
   go_wp2_with fail
   refine (RP.out v1 BD.out).mono ?_
   rintro e v4 ⟨aR,cR,rfl,hR,hb⟩
   have BD:=hid (BD.out.trans (hb.mono BD.out.size))
   have FU:=hid (FSlU.agree FU.out (Ag_b hb (fun _ h=>by have:=h.2;omega)))
   have hz4:=hb.size
   have SN:=hid ((sameNodes_any (Y3.cnt + 1)).2 Y3 Y3 aP cP aR cR (fun q=>q < v4.heap.size) v4 (Nat.lt_succ_self _) (FSl.wide FU.out fun q hq=>by have:=hq.1.2;omega) hR (fun _ h=>h) (by have:=SMP.out.2;omega) (by have:=SMP.out.2;omega) SMP.out.1 SMP.out.1)
   rw [decide_eq_true (show Y3 = Y3 from rfl)] at SN
   clear hb hR RP
   go_wp2_with fail
   refine (SN.out).mono ?_
   rintro e v5 ⟨rfl,hb⟩
   have BD:=hid (BD.out.trans (hb.mono BD.out.size))
   have FU:=hid (FSlU.agree FU.out (Ag_b hb (fun _ h=>by have:=h.2;omega)))
   have SCR:=hid (scribble_any (Y3.cnt + 1) Y3 aP cP (fun b=>wF.heap.size ≤ b) wF.heap.size v5 (Nat.lt_succ_self _) (FSlU.wide FU.out fun q hq=>hq.1) (fun _ h=>h) BD.out.size)
   clear hb SN
   go_wp2_with fail
   refine SCR.out.mono ?_
   rintro e wG ⟨rfl,_,hs⟩
   have hb:=BD.out.trans hs
   replace BND:=hid (blk_on8 BND.out hb)
   replace HY:=hid (HY.out.on hb)
   replace HP:=hid (HP.out.on hb)
   replace HI:=hid (HI.out.on hb)
   replace HF:=hid (HF.out.on hb)
   replace HO:=hid (HO.out.on hb)
   replace HX:=hid (HX.out.on hb)
   replace HM:=hid (HM.out.on hb)
   replace H1:=hid (H1.out.on hb)
   replace HQ:=hid (HQ.out.on hb)
   replace BW:=hid (BW.out.trans (hb.mono BW.out.size))
   clear hb hs SCR FU BD SMP hz1 hz4 nee
   have CKF:=hid (show chkY y = 0→(flsL [] y).length ≤ 60∧SmL (flsL [] y) from fun h=>fls_sml h SMY.out)
   have RC:=refCheck_any y tx kx _ wG HX.out (fun _ h=>h) (by omega) SMY.out
   have NA:=fun (W:World) (h:In W (.slice tx y.len kx) y) (h0:chkY y = 0)=>Named_any y nm tx kx W h ⟨by omega,SMY.out,by omega⟩ h0
   have FI:=fun (W:World) (h:In W (.slice oy y.len ky) y)=>Find60_any y nm oy ky _ W h (fun _ h=>h) (by omega) SMY.out (by omega)
   unfold FindR findE findL at FI
   obtain ⟨E4,hE⟩:∃ E,chkY y = E:=⟨_,rfl⟩
   simp only [hE] at RC NA FI CKF
   have nee:(E4 != E4) = false:=by simp
   have RC:=hid RC
   have NA:=hid NA
   have FI:=hid FI
   clear hE
   go_wp2_with fail
   refine (RC.out).mono ?_
   rintro e x1 ⟨rfl,hb⟩
   replace HY:=hid (HY.out.on hb)
   replace HP:=hid (HP.out.on hb)
   replace HI:=hid (HI.out.on hb)
   replace HF:=hid (HF.out.on hb)
   replace HO:=hid (HO.out.on hb)
   replace HX:=hid (HX.out.on hb)
   replace HM:=hid (HM.out.on hb)
   replace H1:=hid (H1.out.on hb)
   replace HQ:=hid (HQ.out.on hb)
   replace BW:=hid (BW.out.trans (hb.mono BW.out.size))
   replace BND:=hid (blk_on8 BND.out hb)
   clear RC
   clear hb
   go_wp2_with fail
   refine (FI.out x1 HO.out).mono ?_
   rintro e x2 ⟨aL,cL,rfl,hL,hb⟩
   replace BND:=hid (blk_on8 BND.out hb)
   replace HY:=hid (HY.out.on hb)
   replace HP:=hid (HP.out.on hb)
   replace HI:=hid (HI.out.on hb)
   replace HF:=hid (HF.out.on hb)
   replace HO:=hid (HO.out.on hb)
   replace HX:=hid (HX.out.on hb)
   replace HM:=hid (HM.out.on hb)
   replace H1:=hid (H1.out.on hb)
   replace HQ:=hid (HQ.out.on hb)
   replace BW:=hid (BW.out.trans (hb.mono BW.out.size))
   have hL:=(show PaSl (fun q=>q < x2.heap.size) x2 _ _ from hL.wide fun q hq=>hq.2)
   obtain ⟨FL,hFL⟩:∃ FL,(if E4 = 0 then nmF nm ((flsL [] y).map Fl.p) else []) = FL:=⟨_,rfl⟩
   rw [hFL] at hL ⊢
   have HL:=hid hL
   have HFL:=hid hFL
   clear hb hL FI hFL
   go_upto_region 21 with fail
   go_cut [162] from 139 to 161 (fun v wx=>v = .bool false∧Hid (Below x2.heap.size x2 wx))
   case first=>
    by_cases h0:E4 = 0
    rotate_left
    · have h1:(E4 != 0) = true:=by simpa using h0
      have h2:(E4 == 0) = false:=by simpa using h0
      have e1:=HFL.out
      rw [if_neg h0] at e1
      subst e1
      clear HFL
      go_wp2_with fail
      go_meet
      case rel=>exact ⟨rfl,Below.refl _ _⟩
    · subst h0
      have e1:=HFL.out
      rw [if_pos rfl] at e1
      subst e1
      clear HFL
      have NM:=hid (NA.out x2 HX.out rfl)
      have CF:=hid (CKF.out rfl)
      clear NA CKF
      go_wp2_with fail
      refine NM.out.mono ?_
      rintro e x3 ⟨aW,cW,rfl,hW,hb⟩
      have B3:=hid hb
      have HL3:=hid (HL.out.on hb)
      have SP:=hid (samePaths_any (nmF nm ((flsL [] y).map Fl.p)) (nmF nm ((flsL [] y).map Fl.p)) aL aW cL cW _ x3 HL3.out hW (fun _ h=>h) (by have h1:=CF.out.1;have h2:=List.length_filter_le (fun q:List Ky=>decide (lastN q = nm)) ((flsL [] y).map Fl.p);rw [List.length_map] at h2;unfold nmF;omega) (by have h1:=CF.out.1;have h2:=List.length_filter_le (fun q:List Ky=>decide (lastN q = nm)) ((flsL [] y).map Fl.p);rw [List.length_map] at h2;unfold nmF;omega) (fun q hq=>by obtain ⟨x,hx,rfl⟩:=List.mem_map.1 (List.mem_filter.1 hq).1;exact (CF.out.2.2 x hx).1) (fun q hq=>by obtain ⟨x,hx,rfl⟩:=List.mem_map.1 (List.mem_filter.1 hq).1;exact (CF.out.2.2 x hx).1))
      rw [decide_eq_true (show nmF nm ((flsL [] y).map Fl.p) = nmF nm ((flsL [] y).map Fl.p) from rfl)] at SP
      clear hb hW NM
      go_wp2_with fail
      refine SP.out.mono ?_
      rintro e x4 ⟨rfl,hb⟩
      have B4:=hid (B3.out.trans (hb.mono B3.out.size))
      clear hb
      go_wp2_with fail
      go_meet
      case rel=>exact ⟨rfl,B4.out⟩
   case rest=>
    obtain ⟨rfl,hbc⟩:=hcut
    obtain ⟨x5,hx5⟩:∃ x5,x5 = wc:=⟨_,rfl⟩
    subst hx5
    have hb:=hbc.out
    replace BND:=hid (blk_on8 BND.out hb)
    replace HY:=hid (HY.out.on hb)
    replace HP:=hid (HP.out.on hb)
    replace HI:=hid (HI.out.on hb)
    replace HF:=hid (HF.out.on hb)
    replace HO:=hid (HO.out.on hb)
    replace HX:=hid (HX.out.on hb)
    replace HM:=hid (HM.out.on hb)
    replace H1:=hid (H1.out.on hb)
    replace HQ:=hid (HQ.out.on hb)
    replace BW:=hid (BW.out.trans (hb.mono BW.out.size))
    clear hb hbc HL HFL NA CKF nee
    go_wp2_with fail
    refine ((alike_any (y.cnt + 1)).2 y y oy ky ay cy _ x5 (Nat.lt_succ_self _) HO.out HY.out (fun _ h=>h) (by omega) (by omega) SMY.out SMY.out).mono ?_
    rintro e x6 ⟨rfl,hb⟩
    replace HY:=hid (HY.out.on hb)
    replace HP:=hid (HP.out.on hb)
    replace HI:=hid (HI.out.on hb)
    replace HF:=hid (HF.out.on hb)
    replace HO:=hid (HO.out.on hb)
    replace HX:=hid (HX.out.on hb)
    replace HM:=hid (HM.out.on hb)
    replace H1:=hid (H1.out.on hb)
    replace HQ:=hid (HQ.out.on hb)
    replace BW:=hid (BW.out.trans (hb.mono BW.out.size))
    rw [decide_eq_true (show y = y from rfl)]
    replace BND:=hid (blk_on8 BND.out hb)
    clear hb
    have q0:=cg_ BND.out (k:=0) (v := .string (bs n)) rfl
    have q1:=cg_ BND.out (k:=1) (v := .slice an l.length cn) rfl
    have q2:=cg_ BND.out (k:=2) (v := .slice ab s.len cb) rfl
    have hb:Below x6.heap.size x6 (x6.alloc (.cells #[.string (bs n), .slice an l.length cn, .slice ab s.len cb] 85)):=(Below.refl _ _).alloc (nl_ _) _
    have BA:=hid (heap_alloc_new x6 (.cells #[.string (bs n), .slice an l.length cn, .slice ab s.len cb] 85))
    obtain ⟨x7,hx7⟩:∃ w',x6.alloc (.cells #[.string (bs n), .slice an l.length cn, .slice ab s.len cb] 85) = w':=⟨_,rfl⟩
    rw [hx7] at hb BA
    replace HY:=hid (HY.out.on hb)
    replace HP:=hid (HP.out.on hb)
    replace HI:=hid (HI.out.on hb)
    replace HF:=hid (HF.out.on hb)
    replace HO:=hid (HO.out.on hb)
    replace HX:=hid (HX.out.on hb)
    replace HM:=hid (HM.out.on hb)
    replace H1:=hid (H1.out.on hb)
    replace HQ:=hid (HQ.out.on hb)
    replace BW:=hid (BW.out.trans (hb.mono BW.out.size))
    clear hb
    have AL:=hid ((alike_any (1 + s.cnt + 1)).2 (.cons n l s .nil) (.cons n l s .nil) (some ⟨g1,o1',none⟩) k1 (some ⟨x6.heap.size,0,none⟩) 1 _ x7 (by simp only [Fo.cnt];omega) H1.out (one_in BA.out HI.out HF.out) (fun _ h=>h) (by simp [Fo.len]) (by simp [Fo.len]) SMN.out SMN.out)
    rw [decide_eq_true (show Fo.cons n l s .nil = Fo.cons n l s .nil from rfl)] at AL
    go_wp2_with fail
    try rw [hx7]
    refine AL.out.mono ?_
    rintro e x8 ⟨rfl,hb⟩
    replace HY:=hid (HY.out.on hb)
    replace HP:=hid (HP.out.on hb)
    replace HI:=hid (HI.out.on hb)
    replace HF:=hid (HF.out.on hb)
    replace HO:=hid (HO.out.on hb)
    replace HX:=hid (HX.out.on hb)
    replace HM:=hid (HM.out.on hb)
    replace H1:=hid (H1.out.on hb)
    replace HQ:=hid (HQ.out.on hb)
    replace BW:=hid (BW.out.trans (hb.mono BW.out.size))
    clear hb hx7 BA AL q0 q1 q2
    go_wp2_with fail
    refine (eqKeys_any p p mp ap km cp _ x8 HM.out HP.out (by omega) (by omega)).mono ?_
    rintro e x9 ⟨rfl,hb⟩
    replace HY:=hid (HY.out.on hb)
    replace HP:=hid (HP.out.on hb)
    replace HI:=hid (HI.out.on hb)
    replace HF:=hid (HF.out.on hb)
    replace HO:=hid (HO.out.on hb)
    replace HX:=hid (HX.out.on hb)
    replace HM:=hid (HM.out.on hb)
    replace H1:=hid (H1.out.on hb)
    replace HQ:=hid (HQ.out.on hb)
    replace BW:=hid (BW.out.trans (hb.mono BW.out.size))
    rw [decide_eq_true (show p = p from rfl)]
    clear hb
    go_wp2_with fail
    refine (awake_any x9 (HT.out.below BW.out)).mono ?_
    rintro e z_ ⟨rfl,hb⟩
    replace HY:=hid (HY.out.on hb)
    replace HP:=hid (HP.out.on hb)
    replace HI:=hid (HI.out.on hb)
    replace HF:=hid (HF.out.on hb)
    replace HO:=hid (HO.out.on hb)
    replace HX:=hid (HX.out.on hb)
    replace HM:=hid (HM.out.on hb)
    replace H1:=hid (H1.out.on hb)
    replace HQ:=hid (HQ.out.on hb)
    replace BW:=hid (BW.out.trans (hb.mono BW.out.size))
    clear hb
    go_wp2_with fail
    go_ret
    exact ⟨rfl,BW.out⟩
end Go.Proofs.LF
