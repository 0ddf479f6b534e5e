/- Parts of the proof of a law of layer 11 (file): LfW119. The conditions stand in each theorem. -/
import Derived.Test.YtadkpjgpefcphaaGreatDoorProg
import Derived.Test.YtadkpjgpefcphaaGreatDoorNoay
import Derived.Test.YtadkpjgpefcphaaGreatDoorNoaz
import Derived.Test.YtadkpjgpefcphaaGreatDoorNoba
set_option linter.all false
set_option linter.unusedVariables false
set_option linter.unusedSimpArgs false
namespace Go.Proofs.LF
open Go.RowKit Go.Sort
set_option maxHeartbeats 4000000
set_option maxRecDepth 100000
attribute [local go_sem] bs_toList bs_size bs_get
theorem drop_ref {y:Fo} {q:List Ky} (hy:chkY y = 0):dropE y q = (if (rfd (flsL [] y) q).isSome then 0 else 1)∧((rfd (flsL [] y) q).isSome = true→dropY y q = treR 4 (drP q (flsL [] y)) []):=by
 refine ⟨by rw [dropE,if_neg (by rw [hy];simp),fnd_rfd (fls_srt hy)],fun h=>?_⟩
 obtain ⟨h1,h2,h3,h4⟩:=drop_is hy (rfd_iff.1 h)
 rw [h2,← h4]
 refine (treR_year ?_ fun x hx=>?_).symm
 · rw [h4];exact (fls_srt hy).sublist List.filter_sublist
 · rw [h4] at hx
   exact fls4 hy x (drP_mem.1 hx).1
theorem RefDrop_any (y:Fo) (q:List Ky) (ay aq:Option Addr) (cy cq:Nat) (w:World) (hy:FSl (fun q=>q < w.heap.size) w (.slice ay y.len cy) y) (hq:Pth (fun q=>q < w.heap.size) w (.slice aq q.length cq) q) (ly:y.len ≤ 1000∧y.Sm∧y.cnt ≤ 400) (lq:q.length ≤ 1000) :
 Calls Tryz.prog 59 #[.slice ay y.len cy, .slice aq q.length cq] w fun e w'=>∃ a c,e = .returned (.tuple #[.slice a (dropY y q).len c, .int .i64 (dropE y q)])∧FSl (fun q=>q < w'.heap.size) w' (.slice a (dropY y q).len c) (dropY y q)∧Below w.heap.size w w':=by
 have CK:=hid (refCheck_any y ay cy _ w hy (fun _ h=>h) ly.1 ly.2.1)
 by_cases h0:chkY y = 0
 rotate_left
 · have hE:dropE y q = chkY y:=by rw [dropE,if_pos h0]
   have hY:dropY y q = .nil:=by rw [dropY,if_neg (by rw [hE];exact h0)]
   rw [hE,hY]
   obtain ⟨E,hEE⟩:∃ E,chkY y = E:=⟨_,rfl⟩
   rw [hEE] at CK h0 ⊢
   have h0':(E != 0) = true:=by simpa using h0
   clear hE hY hEE hy hq ly
   go_enter Tryz.func59,Tryz.ntmps59
   go_wp2_with fail
   refine CK.out.mono ?_
   rintro e w1 ⟨rfl,hb⟩
   have HB:=hid hb
   clear hb
   go_wp2_with fail
   refine bodyPost_ret (v := .tuple #[.slice none 0 0, .int .i64 E]) (by simp [results,Tryz.results59,go_sem]) rfl ?_
   exact ⟨none,0,rfl,⟨[],⟨rfl,none,0,rfl,nl_ _,by simp [maxLen],fun _=>rfl, .inl rfl⟩,rfl⟩,HB.out⟩
 obtain ⟨q1,q2⟩:=drop_ref (q:=q) h0
 have L1:=fun w1 (h:Below w.heap.size w w1)=>Lines_at y ay cy w1 (hy.on h) ly
 obtain ⟨ma,sa⟩:=fls_sml h0 ly.2.1
 have num:=fun x hx=>fls_num h0 x hx
 have four:=fun x hx=>fls4 h0 x hx
 rw [h0] at CK
 obtain ⟨E,hE⟩:∃ E,dropE y q = E:=⟨_,rfl⟩
 have q3:=q1
 rw [hE] at q3 ⊢
 generalize flsL [] y = a at *
 have E0:=hid (show (rfd a q).isSome = true→E = 0 from fun h=>by rw [q3,h];rfl)
 have E1:=hid (show (rfd a q).isSome = false→E = 1 from fun h=>by rw [q3,h];rfl)
 have HF:=hid (show ∀ x ∈ a,x.p.length ≤ 4∧x.l.length ≤ 900 from fun x hx=>⟨four x hx,num x hx⟩)
 have L1:=hid L1
 have SA:=hid sa
 have HQ:=hid hq
 have Q2:=hid q2
 have Q3:=hid (show (rfd a q).isSome = false→dropY y q = .nil from fun h=>by rw [dropY,if_neg (by rw [q1,h];simp)])
 clear hy hq ly h0 q1 q2 q3 hE sa num four
 go_enter Tryz.func59,Tryz.ntmps59
 go_wp2_with fail
 refine CK.out.mono ?_
 rintro e w1 ⟨rfl,hb⟩
 have B1:=hid hb
 clear hb CK
 go_wp2_with fail
 refine (L1.out w1 B1.out).mono ?_
 rintro e w2 ⟨a2,c2,rfl,h2,hb2⟩
 have H2:=hid h2
 have B2:=hid (B1.out.trans (hb2.mono B1.out.size))
 clear h2 hb2 L1
 have FF:=Find_any a q a2 aq c2 cq _ w2 H2.out (HQ.out.on B2.out) (fun _ h=>h) SA.out.big.1 (fun x hx=>(SA.out.big.2 x hx).1) lq
 rcases fi_cases a q with ⟨j,hj,f1,f2,f3⟩ | ⟨f1,f2⟩
 · rw [f1] at FF
   have hs:(rfd a q).isSome = true:=by rw [f2];rfl
   have hY:=Q2.out hs
   have HSH:=hid hs
   have HYH:=hid hY
   have hj0:¬ (j:Int) < 0:=by omega
   have FF:=hid FF
   clear f1 f2 f3 hs hY
   go_wp2_with fail
   refine FF.out.mono ?_
   rintro e w3 ⟨rfl,hb3⟩
   have B3:=hid (B2.out.trans (hb3.mono B2.out.size))
   have H3:=hid (H2.out.on hb3)
   clear hb3 FF
   go_wp2_with fail
   refine (without_any a q a2 aq c2 cq _ w3 H3.out (HQ.out.on B3.out) (fun _ h=>h) ⟨by have:=SA.out.1;omega,SA.out.2⟩ lq).mono ?_
   rintro e w4 ⟨a4,c4,rfl,hR,hb4⟩
   have hz4:=hb4.size
   have B4:=hid (B3.out.trans (hb4.mono B3.out.size))
   have L4:=hid ((hR.lsl).wide (S':=fun q=>q < w4.heap.size) fun q hq=>by
    rcases hq with hq | hq
    · omega
    · exact hq.2)
   have hsub:∀ x ∈ drP q a,x ∈ a:=fun x hx=>(drP_mem.1 hx).1
   have hlen:(drP q a).length ≤ a.length:=List.length_filter_le _ _
   obtain ⟨cur,hcur⟩:∃ cur,drP q a = cur:=⟨_,rfl⟩
   rw [hcur] at L4 hsub hlen HYH
   simp only [hcur]
   have hla:=SA.out.1
   have TT:=hid (Tree_all cur a4 c4 (by omega) (fun x hx=>by have:=HF.out x (hsub x hx);omega) 4 [] none 0 (by simp) (fun x hx=>by have:=(HF.out x (hsub x hx)).1;simpa using this) (fun q=>q < w4.heap.size) w4 L4.out ⟨rfl,none,0,rfl,nl_ _,by simp [maxLen],fun _=>rfl, .inl rfl⟩ (fun _ h=>h))
   clear hR hb4 hsub hcur
   go_wp2_with fail
   refine TT.out.mono ?_
   rintro e w5 ⟨a5,c5,rfl,hF5,hb5⟩
   have B5:=hid (B4.out.trans (hb5.mono B4.out.size))
   have HF5:=hid hF5
   clear hF5 hb5
   go_wp2_with fail
   refine bodyPost_ret (v := .tuple #[.slice a5 (treR 4 cur []).len c5, .int .i64 0]) (by simp [results,Tryz.results59,go_sem]) rfl ?_
   rw [E0.out HSH.out,HYH.out]
   exact ⟨a5,c5,rfl,HF5.out.wide (fun q hq=>hq.2),B5.out⟩
 · rw [f1] at FF
   have hs:(rfd a q).isSome = false:=by rw [f2];rfl
   have hY:=Q3.out hs
   have HSH:=hid hs
   have HYH:=hid hY
   have FF:=hid FF
   clear f1 f2 hs hY
   go_wp2_with fail
   refine FF.out.mono ?_
   rintro e w3 ⟨rfl,hb3⟩
   have B3:=hid (B2.out.trans (hb3.mono B2.out.size))
   clear hb3
   go_wp2_with fail
   refine bodyPost_ret (v := .tuple #[.slice none 0 0, .int .i64 1]) (by simp [results,Tryz.results59,go_sem]) rfl ?_
   rw [E1.out HSH.out,HYH.out]
   exact ⟨none,0,rfl,⟨[],⟨rfl,none,0,rfl,nl_ _,by simp [maxLen],fun _=>rfl, .inl rfl⟩,rfl⟩,B3.out⟩
end Go.Proofs.LF
