/- Parts of the proof of a law of layer 11 (file): LbT7. The conditions stand in each theorem. -/
import Derived.Test.YtffjknkcogmnbaaGreatDoorProg
import Derived.Test.YtffjknkcogmnbaaGreatDoorTybp
set_option linter.all false
set_option linter.unusedVariables false
set_option linter.unusedSimpArgs false
namespace Go.Proofs.LB
open Go.RowKit Go.Sort Go.Proofs.LF Go.Proofs.LS
set_option maxHeartbeats 4000000
set_option maxRecDepth 100000
attribute [local go_sem] q1_ q2_ q8_
theorem yT_ (b:Nat) (S:Nat→Prop) (w:World) (h:Hp b S w) (hS:∀ q,S q→q < w.heap.size) :
 Calls Tryz.prog 5 #[.pointer (some ⟨b,0,none⟩), .int .i64 30, .int .i64 4] w fun e w'=>∃ (room first uns:Int) (ms:List Mo) (rs:List Int) (am:Option Addr) (cm:Nat) (at_:Option Addr) (ct:Nat) (vc:Value),e = .returned (.tuple #[.agg (z7_ room first uns (.slice am ms.length cm) (.slice none 0 0)), .slice at_ rs.length ct,vc])∧(2 ≤ room∧room ≤ 30)∧(0 ≤ first∧first ≤ room)∧(0 ≤ uns∧uns ≤ 4)∧(1 ≤ ms.length∧ms.length ≤ 4)∧(∀ x ∈ ms,OkMo room x)∧RealL room [] ms rs∧(∀ n,rs[0]? = some n→first - uns ≤ n∧n ≤ first + uns)∧w'.ownsRow w.heap.size 79 6 (.slice am ms.length cm) ms.length (ms.flatMap fun x=>(moC x).toList)∧w'.ownsRow w.heap.size 3 1 (.slice at_ rs.length ct) rs.length (rs.map (Value.int .i64))∧Hp b S w'∧Keep (· = b) w w':=by
 have hbl:=hp_lt h
 obtain ⟨w0,hw0⟩:∃ w0,w.alloc (.cells zBed 26) = w0:=⟨_,rfl⟩
 have hb0:Below w.heap.size w w0:=by rw [← hw0];exact (Below.refl _ _).alloc (nl_ _) _
 have hn0:w0.heap[w.heap.size]? = some (.cells zBed 26 (0,0)):=by rw [← hw0];exact ha_ _ _
 have hz0:w0.heap.size = w.heap.size + 1:=by rw [← hw0];simp
 have H0:=qI_ h hS (Keep.of_below (O:=fun _=>False) hb0) (fun e=>e) (fun _ _ e=>e)
 have F1:=hid (zk_ b S w0 2 30 (by omega) (by omega) (by omega) H0)
 have K0:=hid (Keep.of_below (O:=(· = b)) hb0)
 have N0:=hid hn0
 have HS:=hid hS
 obtain ⟨q,hq⟩:∃ q,w.heap.size = q:=⟨_,rfl⟩
 have HQ:=hid hq
 rw [hq] at N0 hbl hz0
 clear h hS hb0 hn0 H0
 go_enter Tryz.func5,Tryz.ntmps5
 go_upto_region 1 with fail
 rw [show w.alloc (.cells #[.int .i64 0, .int .i64 0, .int .i64 0, .slice none 0 0, .slice none 0 0] 26) = w0 from hw0]
 try simp only [hq]
 clear hw0 hq
 go_wp2_with fail
 refine F1.out.mono ?_
 rintro e w1 ⟨room,rfl,hroom,hp1,hk1⟩
 have K1:=hid (K0.out.trans hk1)
 have U1:=hid (qD_ b S w1 4 (by omega) hp1)
 have N1:=hid ((hk1.block q (by omega) (by omega)).trans N0.out)
 have hz1:=hk1.size
 clear F1 K0 N0 hp1 hk1
 go_wp2_with fail
 refine U1.out.mono ?_
 rintro e w2 ⟨uns,rfl,huns,hp2,hk2⟩
 have K2:=hid (K1.out.trans hk2)
 have N2:=hid ((hk2.block q (by omega) (by omega)).trans N1.out)
 have hz2:=hk2.size
 obtain ⟨w3,hw3⟩:∃ w3,w2.alloc (.cells #[.int .i64 room, .int .i64 0, .int .i64 uns, .slice none 0 0, .slice none 0 0] 26) = w3:=⟨_,rfl⟩
 have hb3:Below w2.heap.size w2 w3:=by rw [← hw3];exact (Below.refl _ _).alloc (nl_ _) _
 have hn3:w3.heap[w2.heap.size]? = some (.cells #[.int .i64 room, .int .i64 0, .int .i64 uns, .slice none 0 0, .slice none 0 0] 26 (0,0)):=by rw [← hw3];exact ha_ _ _
 have hz3:w3.heap.size = w2.heap.size + 1:=by rw [← hw3];simp
 have hS2:∀ q',S q'→q' < w2.heap.size:=fun q' h=>by have:=HS.out q' h;have:=HQ.out;omega
 have H3:=hid (qI_ hp2 hS2 (Keep.of_below (O:=fun _=>False) hb3) (fun e=>e) (fun _ _ e=>e))
 obtain ⟨rn,hrn⟩:∃ rn:Nat,room = (rn:Int):=⟨room.toNat,by omega⟩
 subst hrn
 have U2:=hid (qD_ b S w3 rn (by omega) H3.out)
 have K3:=hid (K2.out.trans (Keep.of_below hb3))
 obtain ⟨b9,hb9⟩:∃ b,w2.heap.size = b:=⟨_,rfl⟩
 rw [hb9] at hn3
 have N3:=hid (q0_ N2.out hb3)
 have C3:=hid hn3
 have c0:=cg_ hn3 (k:=0) (v := .int .i64 rn) rfl
 have hq9:q < b9:=by omega
 have hb9l:b9 < w3.heap.size:=by omega
 have HW3:=hid hw3
 clear U1 K1 N1 hp2 hk2 K2 N2 hb3 hn3 hw3 c0
 go_upto_region 2 with fail
 rw [HW3.out]
 have c0:=cg_ C3.out (k:=0) (v := .int .i64 rn) rfl
 clear HW3 hb9
 go_wp2_with fail
 refine U2.out.mono ?_
 rintro e w4 ⟨fi,rfl,hfi,hp4,hk4⟩
 have K4:=hid (K3.out.trans hk4)
 have N4:=hid ((hk4.block q (by omega) (by omega)).trans N3.out)
 have C4:=hid ((hk4.block b9 (by omega) (by omega)).trans C3.out)
 have hz4:=hk4.size
 have d1:=cg_ C4.out (k:=1) (v := .int .i64 0) rfl
 have f1:=q5_ C4.out (k:=1)
 have H4:=hid hp4
 clear U2 K3 N3 C3 H3 hp4 hk4 c0
 go_upto_region 3 with fail
 obtain ⟨w5,hw5⟩:∃ y,(w4.setCell ⟨b9,1,none⟩ (.int .i64 (fi:Int))).drew = y:=⟨_,rfl⟩
 have hbk5:∀ k,k ≠ b9→w5.heap[k]? = w4.heap[k]?:=fun k hk=>by rw [← hw5];exact Below.heap_setCell _ _ _ _ (by simpa using hk)
 have C5:=hid (show w5.heap[b9]? = some (.cells #[.int .i64 rn, .int .i64 fi, .int .i64 uns, .slice none 0 0, .slice none 0 0] 26 (0,0)) by
  rw [← hw5];exact (qe_ C4.out).trans (by rfl))
 have N5:=hid ((hbk5 q (by omega)).trans N4.out)
 have hz5:w5.heap.size = w4.heap.size:=by rw [← hw5];simp [World.setCell]
 have KK5:Keep (· = b9) w4 w5:=by rw [← hw5];exact (Keep.setCell (O:=(· = b9)) (A:=w4) (p:=⟨b9,1,none⟩) (v := .int .i64 (fi:Int)) rfl).trans (Keep.of_below ((Below.refl _ _).drew))
 have hS4:∀ q',S q'→q' < q:=fun q' h=>by have:=HS.out q' h;have:=HQ.out;omega
 have H5:=hid (qI_ H4.out (fun q' h=>by have:=hS4 q' h;omega) KK5 (by omega) (fun q' h=>by have:=hS4 q' h;omega))
 have K5:=hid (K4.out.thenO KK5 fun j hj => .inr (by have:=HQ.out;omega))
 have SC:=hid (fun (V:World) (h:V.heap[b9]? = some (.cells #[.int .i64 rn, .int .i64 fi, .int .i64 uns, .slice none 0 0, .slice none 0 0] 26 (0,0)))=>show V.cell? ⟨b9,0,none⟩ = some (.int .i64 rn)∧V.cell? ⟨b9,1,none⟩ = some (.int .i64 fi)∧V.cell? ⟨b9,2,none⟩ = some (.int .i64 uns) from ⟨cg_ h (k:=0) rfl,cg_ h (k:=1) rfl,cg_ h (k:=2) rfl⟩)
 have hS0:=SC.out w5 C5.out
 have F5:=hid (zk_ b S w5 (-(uns:Int)) uns (by omega) (by omega) (by omega) H5.out)
 have hneg:IntKind.i64.wrap (-(uns:Int)) = -(uns:Int):=IntWalk.i64_in _ (by omega)
 clear N4 C4 H4 K4 KK5 d1 f1
 refine (wpIn_wide (n:=9)).1 ?_
 refine q6_ (fun V:World=>V.cell? ⟨b9,0,none⟩ = some (.int .i64 rn)∧V.cell? ⟨b9,1,none⟩ = some (.int .i64 fi)∧V.cell? ⟨b9,2,none⟩ = some (.int .i64 uns)) (by kernel_rfl) ?_
 rw [hw5]
 clear hw5 hbk5
 refine tkZ 0 26 (.pointer (some ⟨b9,0,none⟩)) rfl rfl hS0 ?_
 refine tkZ 1 27 (.int .i64 rn) rfl rfl hS0 ?_
 refine tkZ 2 28 (.pointer (some ⟨b9,1,none⟩)) rfl rfl hS0 ?_
 refine tkZ 3 29 (.int .i64 fi) rfl rfl hS0 ?_
 refine tkZ 4 30 (.pointer (some ⟨b,0,none⟩)) rfl rfl hS0 ?_
 refine tkZ 5 31 (.pointer (some ⟨b9,2,none⟩)) rfl rfl hS0 ?_
 refine tkZ 6 32 (.int .i64 uns) rfl rfl hS0 ?_
 refine tkZ 7 33 (.int .i64 (-(uns:Int))) rfl rfl hS0 ?_
 refine tkZ 8 34 (.pointer (some ⟨b9,2,none⟩)) rfl rfl hS0 ?_
 refine tkZ 9 35 (.int .i64 uns) rfl rfl hS0 ?_
 refine aHO 10 rfl fun K hK=>?_
 go_simp
 refine ⟨trivial,(callsIn_wide.2 F5.out).mono ?_⟩
 rintro e w6 ⟨df,rfl,hdf,hp6,hk6⟩
 have C6:=hid ((hk6.block b9 (by omega) (by omega)).trans C5.out)
 have N6:=hid ((hk6.block q (by omega) (by omega)).trans N5.out)
 have K6:=hid (K5.out.trans hk6)
 have H6:=hid hp6
 have hz6:=hk6.size
 have hS1:=SC.out w6 C6.out
 refine hK _ _ ⟨hS1,?_⟩
 clear hK hS0 C5 N5 K5 H5 F5 hp6 hk6
 have hadd:IntKind.i64.wrap ((fi:Int) + df) = (fi:Int) + df:=IntWalk.i64_in _ (by omega)
 refine tkZ 11 37 (.int .i64 ((fi:Int) + df)) rfl rfl hS1 ?_
 refine tkZ 12 38 (.int .i64 (max 0 ((fi:Int) + df))) rfl rfl hS1 ?_
 refine tkZ 13 39 (.int .i64 (min (rn:Int) (max 0 ((fi:Int) + df)))) rfl rfl hS1 ?_
 refine aHO 14 rfl fun K hK=>?_
 go_simp
 refine hK _ _ ⟨hS1,?_⟩
 clear hK hS1
 refine q7_ (by kernel_rfl) ?_
 go_simp
 obtain ⟨n0,hn0⟩:∃ n:Int,min (rn:Int) (max 0 ((fi:Int) + df)) = n:=⟨_,rfl⟩
 have hn0b:0 ≤ n0∧n0 ≤ (rn:Int)∧(fi:Int) - uns ≤ n0∧n0 ≤ (fi:Int) + uns:=by rw [← hn0];omega
 rw [hn0]
 clear hn0 hadd hneg
 have U6:=hid (zk_ b S (w6.alloc (.cells #[.int .i64 n0] 3)) 1 4 (by omega) (by omega) (by omega) (qI_ H6.out (fun q' h=>by have:=hS4 q' h;omega) (Keep.of_below (O:=fun _=>False) ((Below.refl _ _).alloc (nl_ _) _)) (fun e=>e) (fun _ _ e=>e)))
 have hsl:(w6.alloc (.cells #[.int .i64 n0] 3)).heap[w6.heap.size]? = some (.cells #[.int .i64 n0] 3 (0,0)):=ha_ _ _
 have hbe:Below w6.heap.size w6 (w6.alloc (.cells #[.int .i64 n0] 3)):=(Below.refl _ _).alloc (nl_ _) _
 have M6:=hid (show MdS b S q b9 w rn fi uns [] [n0] (.slice none 0 0) (.slice (some ⟨w6.heap.size,0,none⟩) 1 1) (.slice none 0 0) [] (w6.alloc (.cells #[.int .i64 n0] 3)) from by
  refine ⟨qI_ H6.out (fun q' h=>by have:=hS4 q' h;omega) (Keep.of_below (O:=fun _=>False) hbe) (fun e=>e) (fun _ _ e=>e),K6.out.trans (Keep.of_below hbe),q0_ N6.out hbe,q0_ C6.out hbe,World.ownsRow_nil _ _ _ _,qu_ (cur:=#[.int .i64 n0]) (by omega) hsl (nl_ _) (by simp [maxLen]) rfl rfl,World.ownsRow_nil _ _ _ _,(fun g h=>by cases h),(fun g h e=>by cases e)⟩)
 clear C6 N6 K6 H6 hsl hbe
 go_wp2_with fail
 refine U6.out.mono ?_
 rintro e w7 ⟨kk,rfl,hkk,hp7,hk7⟩
 obtain ⟨kn,rfl⟩:∃ kn:Nat,kk = (kn:Int):=⟨kk.toNat,by omega⟩
 have M7:=hid (M6.out.keep hk7 hp7 ⟨by omega,hq9⟩)
 have hR0:=hid (RealL.one (room:=(rn:Int)) (n:=n0) ⟨hn0b.1,hn0b.2.1⟩)
 obtain ⟨bt,hbt⟩:∃ x,w6.heap.size = x:=⟨_,rfl⟩
 rw [hbt] at M7
 simp only [hbt]
 have hz7:=hk7.size
 have hw7q:q < w7.heap.size:=(ge_ M7.out.c6).1
 clear U6 M6 hp7 hk7 hbt SC
 go_wp2_with fail
 go_loopw [10,11,12,45] (fun vn vt vc vi wr=>∃ (i:Nat) (n:Int) (ms:List Mo) (rs:List Int) (vm:Value) (cs:List Value),i ≤ kn∧vi = .int .i64 i∧vn = .int .i64 n∧ms.length = i∧Hid (rs[i]? = some n∧rs[0]? = some n0∧RealL rn [] ms rs∧∀ x ∈ ms,OkMo rn x)∧(0 ≤ n∧n ≤ (rn:Int))∧Hid (MdS b S q b9 w rn fi uns ms rs vm vt vc cs wr)) (fun _ _ _ vi _=>kn - (intOf vi).toNat)
 case atStart=>exact ⟨0,n0,[],[n0],_,_,by omega,rfl,rfl,rfl,hid ⟨rfl,rfl,hR0.out,fun x hx=>by cases hx⟩,⟨hn0b.1,hn0b.2.1⟩,M7.out⟩
 case round=>
  clear M7 hz7 hw7q
  obtain ⟨i,n,ms,rs,vm,cs,hi,rfl,rfl,hml,HR,hnb,HM⟩:=hrel
  by_cases hlt:i < kn
  · have hlt':(i:Int) < (kn:Int):=by omega
    have hwq:q < wr.heap.size:=(ge_ HM.out.c6).1
    have V1:=hid (qD_ b S wr 60 (by omega) HM.out.hp)
    go_wp2_with fail
    refine V1.out.mono ?_
    rintro e x1 ⟨gg,rfl,hgg,hp1,hk1⟩
    have M1:=hid (HM.out.keep hk1 hp1 ⟨by omega,hq9⟩)
    have V2:=hid (qD_ b S x1 6 (by omega) hp1)
    have hzz1:=hk1.size
    clear V1 HM hp1 hk1
    go_wp2_with fail
    refine V2.out.mono ?_
    rintro e x2 ⟨sl,rfl,hsl,hp2,hk2⟩
    have M2:=hid (M1.out.keep hk2 hp2 ⟨by omega,hq9⟩)
    have V3:=hid (qD_ b S x2 4 (by omega) hp2)
    have hzz2:=hk2.size
    clear V2 M1 hp2 hk2
    go_wp2_with fail
    refine V3.out.mono ?_
    rintro e x3 ⟨tl,rfl,htl,hp3,hk3⟩
    have M3:=hid (M2.out.keep hk3 hp3 ⟨by omega,hq9⟩)
    have hzz3:=hk3.size
    clear V3 M2 hp3 hk3
    go_upto_region 9 with fail
    obtain ⟨bm,hbm⟩:∃ x,x3.heap.size = x:=⟨_,rfl⟩
    have hv3:vm.ownBlock ≠ some bm∧u11.ownBlock ≠ some bm∧u12.ownBlock ≠ some bm:=⟨fun e=>by have:=(M3.out.o1.lt bm e).2;omega,fun e=>by have:=(M3.out.o2.lt bm e).2;omega,fun e=>by have:=(M3.out.o3.lt bm e).2;omega⟩
    have hb9m:b9 < bm:=by rw [← hbm];exact (ge_ M3.out.c9).1
    obtain ⟨x4,hx4⟩:∃ y,(x3.alloc (.cells #[.int .i64 gg, .int .i64 0, .int .i64 sl, .int .i64 0, .int .i64 tl, .int .i64 0] 79)).drew = y:=⟨_,rfl⟩
    have hb4:Below x3.heap.size x3 x4:=by rw [← hx4];exact ((Below.refl _ _).alloc (nl_ _) _).drew
    have hn4:x4.heap[bm]? = some (.cells #[.int .i64 gg, .int .i64 0, .int .i64 sl, .int .i64 0, .int .i64 tl, .int .i64 0] 79 (0,0)):=by rw [← hx4,← hbm];exact ha_ x3 _
    have M4:=hid (M3.out.below hb4 (fun q' h=>by have:=hS4 q' h;omega) ⟨by omega,hq9⟩)
    have hz4':=hb4.size
    have SM:=hid (fun (V:World) (c3 c5:Value) (h:V.heap[bm]? = some (.cells #[.int .i64 gg, .int .i64 0, .int .i64 sl,c3, .int .i64 tl,c5] 79 (0,0)))=>show V.cell? ⟨bm,2,none⟩ = some (.int .i64 sl)∧V.cell? ⟨bm,4,none⟩ = some (.int .i64 tl) from ⟨cg_ h (k:=2) rfl,cg_ h (k:=4) rfl⟩)
    have N4:=hid hn4
    have hS0:=SM.out x4 _ _ hn4
    have V4:=hid (qD_ b S x4 8 (by omega) M4.out.hp)
    clear M3 hb4 hn4
    try simp only [hbm]
    refine (wpIn_wide (n:=9)).1 ?_
    refine q6_ (fun V:World=>V.cell? ⟨bm,2,none⟩ = some (.int .i64 sl)∧V.cell? ⟨bm,4,none⟩ = some (.int .i64 tl)) (by kernel_rfl) ?_
    rw [hx4]
    clear hx4 hbm
    refine tkZ 0 56 (.pointer (some ⟨bm,2,none⟩)) rfl rfl hS0 ?_
    refine tkZ 1 57 (.pointer (some ⟨bm,2,none⟩)) rfl rfl hS0 ?_
    refine tkZ 2 58 (.int .i64 sl) rfl rfl hS0 ?_
    refine tkZ 3 59 (.pointer (some ⟨b,0,none⟩)) rfl rfl hS0 ?_
    refine tkZ 6 62 (.pointer (some ⟨bm,4,none⟩)) rfl rfl hS0 ?_
    refine tkZ 7 63 (.pointer (some ⟨bm,4,none⟩)) rfl rfl hS0 ?_
    refine tkZ 8 64 (.int .i64 tl) rfl rfl hS0 ?_
    refine tkZ 9 65 (.pointer (some ⟨b,0,none⟩)) rfl rfl hS0 ?_
    refine aHO 4 rfl fun K hK=>?_
    go_simp
    refine ⟨trivial,(callsIn_wide.2 V4.out).mono ?_⟩
    rintro e x5 ⟨ds,rfl,hds,hp5,hk5⟩
    have M5:=hid (M4.out.keep hk5 hp5 ⟨by omega,hq9⟩)
    have hl4:=(ge_ N4.out).1
    have N5:=hid ((hk5.block bm hl4 (by omega)).trans N4.out)
    have hz5':=hk5.size
    have hS1:=SM.out x5 _ _ N5.out
    have V5:=hid (qD_ b S x5 8 (by omega) hp5)
    refine hK _ _ ⟨hS1,?_⟩
    clear hK hS0 V4 M4 N4 hp5 hk5
    have had1:IntKind.i64.wrap ((sl:Int) + (ds:Int)) = (sl:Int) + (ds:Int):=IntWalk.i64_in _ (by omega)
    refine tkZ 5 61 (.int .i64 ((sl:Int) + (ds:Int))) rfl rfl hS1 ?_
    refine tkZ 12 68 (.pointer (some ⟨bm,2,none⟩)) rfl rfl hS1 ?_
    refine tkZ 13 69 (.pointer (some ⟨bm,3,none⟩)) rfl rfl hS1 ?_
    refine aHO 10 rfl fun K hK=>?_
    go_simp
    refine ⟨trivial,(callsIn_wide.2 V5.out).mono ?_⟩
    rintro e x6 ⟨dt,rfl,hdt,hp6,hk6⟩
    have M6:=hid (M5.out.keep hk6 hp6 ⟨by omega,hq9⟩)
    have hl5:=(ge_ N5.out).1
    have N6:=hid ((hk6.block bm hl5 (by omega)).trans N5.out)
    have hz6':=hk6.size
    have hS2:=SM.out x6 _ _ N6.out
    refine hK _ _ ⟨hS2,?_⟩
    clear hK hS1 V5 M5 N5 hp6 hk6
    have had2:IntKind.i64.wrap ((tl:Int) + (dt:Int)) = (tl:Int) + (dt:Int):=IntWalk.i64_in _ (by omega)
    refine tkZ 11 67 (.int .i64 ((tl:Int) + (dt:Int))) rfl rfl hS2 ?_
    refine aHO 14 rfl fun K hK=>?_
    have z3:=cg_ N6.out (k:=3) (v := .int .i64 0) rfl
    have f3:=q5_ N6.out (k:=3)
    go_simp
    obtain ⟨x7,hx7⟩:∃ y,x6.setCell ⟨bm,3,none⟩ (.int .i64 ((sl:Int) + (ds:Int))) = y:=⟨_,rfl⟩
    have N7:=hid (show x7.heap[bm]? = some (.cells #[.int .i64 gg, .int .i64 0, .int .i64 sl, .int .i64 ((sl:Int) + (ds:Int)), .int .i64 tl, .int .i64 0] 79 (0,0)) by rw [← hx7];exact (qe_ N6.out).trans (by rfl))
    have M7:=hid (M6.out.side (W':=x7) (by rw [← hx7];exact Keep.setCell (O:=(· = bm)) (p:=⟨bm,3,none⟩) rfl) hS4 ⟨hbl,hq9,hb9m⟩ (by have:=HQ.out;omega) hv3)
    rw [hx7]
    have hS3:=SM.out x7 _ _ N7.out
    refine hK _ _ ⟨hS3,?_⟩
    clear hK hS2 hx7 M6 N6 z3 f3
    refine tkZ 15 70 (.pointer (some ⟨bm,4,none⟩)) rfl rfl hS3 ?_
    refine tkZ 16 71 (.pointer (some ⟨bm,5,none⟩)) rfl rfl hS3 ?_
    refine aHO 17 rfl fun K hK=>?_
    have z5:=cg_ N7.out (k:=5) (v := .int .i64 0) rfl
    have f5:=q5_ N7.out (k:=5)
    go_simp
    obtain ⟨x8,hx8⟩:∃ y,x7.setCell ⟨bm,5,none⟩ (.int .i64 ((tl:Int) + (dt:Int))) = y:=⟨_,rfl⟩
    have N8:=hid (show x8.heap[bm]? = some (.cells #[.int .i64 gg, .int .i64 0, .int .i64 sl, .int .i64 ((sl:Int) + (ds:Int)), .int .i64 tl, .int .i64 ((tl:Int) + (dt:Int))] 79 (0,0)) by rw [← hx8];exact (qe_ N7.out).trans (by rfl))
    have M8:=hid (M7.out.side (W':=x8) (by rw [← hx8];exact Keep.setCell (O:=(· = bm)) (p:=⟨bm,5,none⟩) rfl) hS4 ⟨hbl,hq9,hb9m⟩ (by have:=HQ.out;omega) hv3)
    rw [hx8]
    have hS5:=SM.out x8 _ _ N8.out
    refine hK _ _ ⟨hS5,?_⟩
    clear hK hS3 hS5 hx8 M7 N7 z5 f5 SM
    refine q7_ (by kernel_rfl) ?_
    go_simp
    have SM:=hid (fun (V:World) (h:V.heap[bm]? = some (.cells #[.int .i64 gg, .int .i64 0, .int .i64 sl, .int .i64 ((sl:Int) + (ds:Int)), .int .i64 tl, .int .i64 ((tl:Int) + (dt:Int))] 79 (0,0)))=>show V.cell? ⟨bm,2,none⟩ = some (.int .i64 sl)∧V.cell? ⟨bm,3,none⟩ = some (.int .i64 ((sl:Int) + (ds:Int)))∧V.cell? ⟨bm,4,none⟩ = some (.int .i64 tl)∧V.cell? ⟨bm,5,none⟩ = some (.int .i64 ((tl:Int) + (dt:Int))) from ⟨cg_ h (k:=2) rfl,cg_ h (k:=3) rfl,cg_ h (k:=4) rfl,cg_ h (k:=5) rfl⟩)
    go_upto_region 10 with fail
    go_cut [14] from 72 to 88 (fun vx wx=>∃ (bc:Nat) (sc tc:Int),vx = .pointer (some ⟨bc,0,none⟩)∧((sl:Int) ≤ sc∧sc ≤ (sl:Int) + (ds:Int))∧((tl:Int) ≤ tc∧tc ≤ (tl:Int) + (dt:Int))∧bm < bc∧(vm.ownBlock ≠ some bc∧u11.ownBlock ≠ some bc∧u12.ownBlock ≠ some bc)∧Hid (MdS b S q b9 w rn fi uns ms rs vm u11 u12 cs wx)∧Hid (wx.heap[bm]? = some (.cells #[.int .i64 gg, .int .i64 0, .int .i64 sl, .int .i64 ((sl:Int) + (ds:Int)), .int .i64 tl, .int .i64 ((tl:Int) + (dt:Int))] 79 (0,0)))∧Hid (wx.heap[bc]? = some (.cells #[.int .i64 sc, .int .i64 tc] 81 (0,0))))
    case first=>
     refine (wpIn_wide (n:=9)).1 ?_
     refine q6_ (fun V:World=>V.cell? ⟨bm,2,none⟩ = some (.int .i64 sl)∧V.cell? ⟨bm,3,none⟩ = some (.int .i64 ((sl:Int) + (ds:Int)))∧V.cell? ⟨bm,4,none⟩ = some (.int .i64 tl)∧V.cell? ⟨bm,5,none⟩ = some (.int .i64 ((tl:Int) + (dt:Int)))) (by kernel_rfl) ?_
     obtain ⟨W0,hW0⟩:∃ y,x8.drew = y:=⟨_,rfl⟩
     have hb0:Below x8.heap.size x8 W0:=by rw [← hW0];exact (Below.refl _ _).drew
     replace M8:=hid (M8.out.below hb0 (fun q' h=>by have:=hS4 q' h;have:=(ge_ M8.out.c6).1;omega) ⟨hbl,hq9⟩)
     replace N8:=hid (q0_ N8.out hb0)
     have hS0:=SM.out W0 N8.out
     rw [hW0]
     clear hW0 hb0
     refine tkZ 0 72 (.pointer (some ⟨b,0,none⟩)) rfl rfl hS0 ?_
     refine tkZ 1 73 (.pointer (some ⟨bm,2,none⟩)) rfl rfl hS0 ?_
     refine tkZ 2 74 (.pointer (some ⟨bm,2,none⟩)) rfl rfl hS0 ?_
     refine tkZ 3 75 (.int .i64 sl) rfl rfl hS0 ?_
     refine tkZ 4 76 (.pointer (some ⟨bm,2,none⟩)) rfl rfl hS0 ?_
     refine tkZ 5 77 (.pointer (some ⟨bm,3,none⟩)) rfl rfl hS0 ?_
     refine tkZ 6 78 (.int .i64 ((sl:Int) + (ds:Int))) rfl rfl hS0 ?_
     refine tkZ 8 80 (.pointer (some ⟨b,0,none⟩)) rfl rfl hS0 ?_
     refine tkZ 9 81 (.pointer (some ⟨bm,4,none⟩)) rfl rfl hS0 ?_
     refine tkZ 10 82 (.pointer (some ⟨bm,4,none⟩)) rfl rfl hS0 ?_
     refine tkZ 11 83 (.int .i64 tl) rfl rfl hS0 ?_
     refine tkZ 12 84 (.pointer (some ⟨bm,4,none⟩)) rfl rfl hS0 ?_
     refine tkZ 13 85 (.pointer (some ⟨bm,5,none⟩)) rfl rfl hS0 ?_
     refine tkZ 14 86 (.int .i64 ((tl:Int) + (dt:Int))) rfl rfl hS0 ?_
     clear hS0
     refine kW_ (i:=7) (j:=17) (by kernel_rfl) rfl rfl (by kernel_rfl) (by kernel_rfl) (fun K hK=>?_) (fun K hK=>?_)
     · have V:=hid (zk_ b S W0 (sl:Int) ((sl:Int) + (ds:Int)) (by omega) (by omega) (by omega) M8.out.hp)
       go_simp
       refine ⟨trivial,(callsIn_wide.2 V.out).mono ?_⟩
       rintro e W1 ⟨sc,rfl,hsc,hp,hk⟩
       have Mx1:=hid (M8.out.keep hk hp ⟨hbl,hq9⟩)
       have hlm:=(ge_ N8.out).1
       have Nx1:=hid ((hk.block bm hlm (by omega)).trans N8.out)
       have hSn:=SM.out W1 Nx1.out
       refine hK _ _ ⟨hSn,?_⟩
       clear hK V M8 N8  hp hk hlm
       clear hSn
       refine kW_ (i:=15) (j:=17) (by kernel_rfl) rfl rfl (by kernel_rfl) (by kernel_rfl) (fun K hK=>?_) (fun K hK=>?_)
       · have V:=hid (zk_ b S W1 (tl:Int) ((tl:Int) + (dt:Int)) (by omega) (by omega) (by omega) Mx1.out.hp)
         go_simp
         refine ⟨trivial,(callsIn_wide.2 V.out).mono ?_⟩
         rintro e W2 ⟨tc,rfl,htc,hp,hk⟩
         have Mx2:=hid (Mx1.out.keep hk hp ⟨hbl,hq9⟩)
         have hlm:=(ge_ Nx1.out).1
         have Nx2:=hid ((hk.block bm hlm (by omega)).trans Nx1.out)
         have hSn:=SM.out W2 Nx2.out
         refine hK _ _ ⟨hSn,?_⟩
         clear hK V Mx1 Nx1  hp hk hlm
         refine tkY 16 88 (.agg #[.int .i64 sc, .int .i64 tc]) rfl rfl hSn (fun w' hs=>?_) ?_
         · go_simp
         clear hSn
         refine aHO 17 rfl fun K hK=>?_
         go_simp
         obtain ⟨W3,hnew⟩:∃ y,W2.alloc (.cells #[.int .i64 0, .int .i64 0] 81) = y:=⟨_,rfl⟩
         have hb:Below W2.heap.size W2 W3:=by rw [← hnew];exact (Below.refl _ _).alloc (nl_ _) _
         have hn:W3.heap[W2.heap.size]? = some (.cells #[.int .i64 0, .int .i64 0] 81 (0,0)):=by rw [← hnew];exact ha_ _ _
         have hlm:=(ge_ Nx2.out).1
         obtain ⟨bc,hbc⟩:∃ b,W2.heap.size = b:=⟨_,rfl⟩
         have hbcm:bm < bc:=by omega
         have hvc:vm.ownBlock ≠ some bc∧u11.ownBlock ≠ some bc∧u12.ownBlock ≠ some bc:=⟨fun e=>by have:=(Mx2.out.o1.lt bc e).2;omega,fun e=>by have:=(Mx2.out.o2.lt bc e).2;omega,fun e=>by have:=(Mx2.out.o3.lt bc e).2;omega⟩
         have Mx3:=hid (Mx2.out.below hb (fun q' h=>by have:=hS4 q' h;have:=(ge_ Mx2.out.c6).1;omega) ⟨hbl,hq9⟩)
         have Nx3:=hid (q0_ Nx2.out hb)
         rw [hbc] at hn
         have Bx3:=hid hn
         rw [hnew]
         try simp only [hbc]
         refine hK _ _ ⟨SM.out W3 Nx3.out,?_⟩
         clear hK Mx2 Nx2 hb hn hlm hbc hnew
         refine aHO 18 rfl fun K hK=>?_
         have z0:=cg_ Bx3.out (k:=0) (v := .int .i64 0) rfl
         have z1:=cg_ Bx3.out (k:=1) (v := .int .i64 0) rfl
         have f0:=q5_ Bx3.out (k:=0)
         have f1:=q5_ Bx3.out (k:=1)
         go_simp
         obtain ⟨W4,hnew⟩:∃ y,(W3.setCell ⟨bc,0,none⟩ (.int .i64 sc)).setCell ⟨bc,1,none⟩ (.int .i64 tc) = y:=⟨_,rfl⟩
         have hkb:Keep (· = bc) W3 W4:=by rw [← hnew];exact (Keep.setCell (O:=(· = bc)) (A:=W3) (p:=⟨bc,0,none⟩) rfl).trans (Keep.setCell (p:=⟨bc,1,none⟩) rfl)
         have Bx4:=hid (show W4.heap[bc]? = some (.cells #[.int .i64 sc, .int .i64 tc] 81 (0,0)) by rw [← hnew];exact (qe_ (qe_ Bx3.out)).trans (by rfl))
         have hlm:=(ge_ Nx3.out).1
         have Mx4:=hid (Mx3.out.side (bm:=bc) hkb hS4 ⟨hbl,hq9,by omega⟩ (by have:=HQ.out;omega) hvc)
         have Nx4:=hid ((hkb.block bm hlm (by omega)).trans Nx3.out)
         rw [hnew]
         refine hK _ _ ⟨SM.out W4 Nx4.out,?_⟩
         clear hK Mx3 Nx3 Bx3 z0 z1 f0 f1 hkb hnew hlm
         refine q7_ (by kernel_rfl) ?_
         go_simp
         go_wp2_with fail
         go_meet
         case rel=>exact ⟨bc,sc,tc,rfl,hsc,htc,hbcm,hvc,Mx4,Nx4,Bx4⟩
       · go_simp
         obtain ⟨W5,hnew⟩:∃ y,W1.alloc (.cells #[.int .i64 0, .int .i64 0] 81) = y:=⟨_,rfl⟩
         have hb:Below W1.heap.size W1 W5:=by rw [← hnew];exact (Below.refl _ _).alloc (nl_ _) _
         have hn:W5.heap[W1.heap.size]? = some (.cells #[.int .i64 0, .int .i64 0] 81 (0,0)):=by rw [← hnew];exact ha_ _ _
         have hlm:=(ge_ Nx1.out).1
         obtain ⟨bc,hbc⟩:∃ b,W1.heap.size = b:=⟨_,rfl⟩
         have hbcm:bm < bc:=by omega
         have hvc:vm.ownBlock ≠ some bc∧u11.ownBlock ≠ some bc∧u12.ownBlock ≠ some bc:=⟨fun e=>by have:=(Mx1.out.o1.lt bc e).2;omega,fun e=>by have:=(Mx1.out.o2.lt bc e).2;omega,fun e=>by have:=(Mx1.out.o3.lt bc e).2;omega⟩
         have Mx5:=hid (Mx1.out.below hb (fun q' h=>by have:=hS4 q' h;have:=(ge_ Mx1.out.c6).1;omega) ⟨hbl,hq9⟩)
         have Nx5:=hid (q0_ Nx1.out hb)
         rw [hbc] at hn
         have Bx5:=hid hn
         rw [hnew]
         try simp only [hbc]
         refine hK _ _ ⟨SM.out W5 Nx5.out,?_⟩
         clear hK Mx1 Nx1 hb hn hlm hbc hnew
         refine aHO 15 rfl fun K hK=>?_
         have V:=hid (zk_ b S W5 (tl:Int) ((tl:Int) + (dt:Int)) (by omega) (by omega) (by omega) Mx5.out.hp)
         go_simp
         refine ⟨trivial,(callsIn_wide.2 V.out).mono ?_⟩
         rintro e W6 ⟨tc,rfl,htc,hp,hk⟩
         have Mx6:=hid (Mx5.out.keep hk hp ⟨hbl,hq9⟩)
         have hlm:=(ge_ Nx5.out).1
         have Nx6:=hid ((hk.block bm hlm (by omega)).trans Nx5.out)
         have hlc:=(ge_ Bx5.out).1
         have Bx6:=hid ((hk.block bc hlc (by omega)).trans Bx5.out)
         have hSn:=SM.out W6 Nx6.out
         refine hK _ _ ⟨hSn,?_⟩
         clear hK V Mx5 Nx5 Bx5 hp hk hlm hlc
         refine tkY 16 88 (.agg #[.int .i64 sc, .int .i64 tc]) rfl rfl hSn (fun w' hs=>?_) ?_
         · go_simp
         clear hSn
         refine aHO 18 rfl fun K hK=>?_
         have z0:=cg_ Bx6.out (k:=0) (v := .int .i64 0) rfl
         have z1:=cg_ Bx6.out (k:=1) (v := .int .i64 0) rfl
         have f0:=q5_ Bx6.out (k:=0)
         have f1:=q5_ Bx6.out (k:=1)
         go_simp
         obtain ⟨W7,hnew⟩:∃ y,(W6.setCell ⟨bc,0,none⟩ (.int .i64 sc)).setCell ⟨bc,1,none⟩ (.int .i64 tc) = y:=⟨_,rfl⟩
         have hkb:Keep (· = bc) W6 W7:=by rw [← hnew];exact (Keep.setCell (O:=(· = bc)) (A:=W6) (p:=⟨bc,0,none⟩) rfl).trans (Keep.setCell (p:=⟨bc,1,none⟩) rfl)
         have Bx7:=hid (show W7.heap[bc]? = some (.cells #[.int .i64 sc, .int .i64 tc] 81 (0,0)) by rw [← hnew];exact (qe_ (qe_ Bx6.out)).trans (by rfl))
         have hlm:=(ge_ Nx6.out).1
         have Mx7:=hid (Mx6.out.side (bm:=bc) hkb hS4 ⟨hbl,hq9,by omega⟩ (by have:=HQ.out;omega) hvc)
         have Nx7:=hid ((hkb.block bm hlm (by omega)).trans Nx6.out)
         rw [hnew]
         refine hK _ _ ⟨SM.out W7 Nx7.out,?_⟩
         clear hK Mx6 Nx6 Bx6 z0 z1 f0 f1 hkb hnew hlm
         refine q7_ (by kernel_rfl) ?_
         go_simp
         go_wp2_with fail
         go_meet
         case rel=>exact ⟨bc,sc,tc,rfl,hsc,htc,hbcm,hvc,Mx7,Nx7,Bx7⟩
     · go_simp
       obtain ⟨W8,hnew⟩:∃ y,W0.alloc (.cells #[.int .i64 0, .int .i64 0] 81) = y:=⟨_,rfl⟩
       have hb:Below W0.heap.size W0 W8:=by rw [← hnew];exact (Below.refl _ _).alloc (nl_ _) _
       have hn:W8.heap[W0.heap.size]? = some (.cells #[.int .i64 0, .int .i64 0] 81 (0,0)):=by rw [← hnew];exact ha_ _ _
       have hlm:=(ge_ N8.out).1
       obtain ⟨bc,hbc⟩:∃ b,W0.heap.size = b:=⟨_,rfl⟩
       have hbcm:bm < bc:=by omega
       have hvc:vm.ownBlock ≠ some bc∧u11.ownBlock ≠ some bc∧u12.ownBlock ≠ some bc:=⟨fun e=>by have:=(M8.out.o1.lt bc e).2;omega,fun e=>by have:=(M8.out.o2.lt bc e).2;omega,fun e=>by have:=(M8.out.o3.lt bc e).2;omega⟩
       have Mx8:=hid (M8.out.below hb (fun q' h=>by have:=hS4 q' h;have:=(ge_ M8.out.c6).1;omega) ⟨hbl,hq9⟩)
       have Nx8:=hid (q0_ N8.out hb)
       rw [hbc] at hn
       have Bx8:=hid hn
       rw [hnew]
       try simp only [hbc]
       refine hK _ _ ⟨SM.out W8 Nx8.out,?_⟩
       clear hK M8 N8 hb hn hlm hbc hnew
       refine aHO 7 rfl fun K hK=>?_
       have V:=hid (zk_ b S W8 (sl:Int) ((sl:Int) + (ds:Int)) (by omega) (by omega) (by omega) Mx8.out.hp)
       go_simp
       refine ⟨trivial,(callsIn_wide.2 V.out).mono ?_⟩
       rintro e W9 ⟨sc,rfl,hsc,hp,hk⟩
       have Mx9:=hid (Mx8.out.keep hk hp ⟨hbl,hq9⟩)
       have hlm:=(ge_ Nx8.out).1
       have Nx9:=hid ((hk.block bm hlm (by omega)).trans Nx8.out)
       have hlc:=(ge_ Bx8.out).1
       have Bx9:=hid ((hk.block bc hlc (by omega)).trans Bx8.out)
       have hSn:=SM.out W9 Nx9.out
       refine hK _ _ ⟨hSn,?_⟩
       clear hK V Mx8 Nx8 Bx8 hp hk hlm hlc
       clear hSn
       refine aHO 15 rfl fun K hK=>?_
       have V:=hid (zk_ b S W9 (tl:Int) ((tl:Int) + (dt:Int)) (by omega) (by omega) (by omega) Mx9.out.hp)
       go_simp
       refine ⟨trivial,(callsIn_wide.2 V.out).mono ?_⟩
       rintro e W10 ⟨tc,rfl,htc,hp,hk⟩
       have Mx10:=hid (Mx9.out.keep hk hp ⟨hbl,hq9⟩)
       have hlm:=(ge_ Nx9.out).1
       have Nx10:=hid ((hk.block bm hlm (by omega)).trans Nx9.out)
       have hlc:=(ge_ Bx9.out).1
       have Bx10:=hid ((hk.block bc hlc (by omega)).trans Bx9.out)
       have hSn:=SM.out W10 Nx10.out
       refine hK _ _ ⟨hSn,?_⟩
       clear hK V Mx9 Nx9 Bx9 hp hk hlm hlc
       refine tkY 16 88 (.agg #[.int .i64 sc, .int .i64 tc]) rfl rfl hSn (fun w' hs=>?_) ?_
       · go_simp
       clear hSn
       refine aHO 18 rfl fun K hK=>?_
       have z0:=cg_ Bx10.out (k:=0) (v := .int .i64 0) rfl
       have z1:=cg_ Bx10.out (k:=1) (v := .int .i64 0) rfl
       have f0:=q5_ Bx10.out (k:=0)
       have f1:=q5_ Bx10.out (k:=1)
       go_simp
       obtain ⟨W11,hnew⟩:∃ y,(W10.setCell ⟨bc,0,none⟩ (.int .i64 sc)).setCell ⟨bc,1,none⟩ (.int .i64 tc) = y:=⟨_,rfl⟩
       have hkb:Keep (· = bc) W10 W11:=by rw [← hnew];exact (Keep.setCell (O:=(· = bc)) (A:=W10) (p:=⟨bc,0,none⟩) rfl).trans (Keep.setCell (p:=⟨bc,1,none⟩) rfl)
       have Bx11:=hid (show W11.heap[bc]? = some (.cells #[.int .i64 sc, .int .i64 tc] 81 (0,0)) by rw [← hnew];exact (qe_ (qe_ Bx10.out)).trans (by rfl))
       have hlm:=(ge_ Nx10.out).1
       have Mx11:=hid (Mx10.out.side (bm:=bc) hkb hS4 ⟨hbl,hq9,by omega⟩ (by have:=HQ.out;omega) hvc)
       have Nx11:=hid ((hkb.block bm hlm (by omega)).trans Nx10.out)
       rw [hnew]
       refine hK _ _ ⟨SM.out W11 Nx11.out,?_⟩
       clear hK Mx10 Nx10 Bx10 z0 z1 f0 f1 hkb hnew hlm
       refine q7_ (by kernel_rfl) ?_
       go_simp
       go_wp2_with fail
       go_meet
       case rel=>exact ⟨bc,sc,tc,rfl,hsc,htc,hbcm,hvc,Mx11,Nx11,Bx11⟩
    case rest=>
     obtain ⟨bc,sc,tc,rfl,hsc,htc,hbcm,hvc,M9,N9,B9⟩:=hcut
     obtain ⟨x9,hx9⟩:∃ v,v = wc:=⟨_,rfl⟩
     subst hx9
     clear SM
     have LI:=hid (fun W=>lies_any rn fi uns vm (.slice none 0 0) (⟨gg,0,sl,(sl:Int) + (ds:Int),tl,(tl:Int) + (dt:Int)⟩:Mo) n sc tc W (by omega) (by omega) (by show 0 ≤ (gg:Int)∧(gg:Int) ≤ 100;omega) (by omega) (by omega))
     have a0:=cg_ M9.out.c9 (k:=0) (v := .int .i64 rn) rfl
     have a1:=cg_ M9.out.c9 (k:=1) (v := .int .i64 fi) rfl
     have a2:=cg_ M9.out.c9 (k:=2) (v := .int .i64 uns) rfl
     have a3:=cg_ M9.out.c9 (k:=3) (v:=vm) rfl
     have a4:=cg_ M9.out.c9 (k:=4) (v := .slice none 0 0) rfl
     have m0:=cg_ N9.out (k:=0) (v := .int .i64 gg) rfl
     have m1:=cg_ N9.out (k:=1) (v := .int .i64 0) rfl
     have m2:=cg_ N9.out (k:=2) (v := .int .i64 sl) rfl
     have m3:=cg_ N9.out (k:=3) (v := .int .i64 ((sl:Int) + (ds:Int))) rfl
     have m4:=cg_ N9.out (k:=4) (v := .int .i64 tl) rfl
     have m5:=cg_ N9.out (k:=5) (v := .int .i64 ((tl:Int) + (dt:Int))) rfl
     have s0:=cg_ B9.out (k:=0) (v := .int .i64 sc) rfl
     have s1:=cg_ B9.out (k:=1) (v := .int .i64 tc) rfl
     go_wp2_with fail
     refine (LI.out x9).mono ?_
     rintro e x10 ⟨rfl,hb10⟩
     have M10:=hid (M9.out.below hb10 (fun q' h=>by have:=hS4 q' h;have:=(ge_ M9.out.c6).1;omega) ⟨hbl,hq9⟩)
     have N10:=hid (q0_ N9.out hb10)
     have B10:=hid (q0_ B9.out hb10)
     have hgrb:=grs_bd (room:=(rn:Int)) (g:=(gg:Int)) (n:=n) (s:=sc) (t:=tc) (by omega) (by omega)
     obtain ⟨gr,hgr⟩:∃ z,grs (rn:Int) (gg:Int) n sc tc = z:=⟨_,rfl⟩
     rw [hgr] at hgrb
     obtain ⟨gn,rfl⟩:∃ gn:Nat,gr = (gn:Int):=⟨gr.toNat,by omega⟩
     have HGR:=hid hgr
     obtain ⟨mk,hmk⟩:∃ mk:Nat,min (gn:Int) 5 = (mk:Int):=⟨min gn 5,by omega⟩
     have hmk5:mk ≤ 5∧mk ≤ gn:=by omega
     have U9:=hid (qD_ b S x10 mk (by omega) M10.out.hp)
     rw [hgr]
     clear LI M9 N9 B9 a0 a1 a2 a3 a4 m0 m1 m2 m3 m4 m5 s0 s1 hb10
     go_wp2_with fail
     refine U9.out.mono ?_
     rintro e x11 ⟨rk,rfl,hrk,hp11,hk11⟩
     have M11:=hid (M10.out.keep hk11 hp11 ⟨hbl,hq9⟩)
     have hlm10:=(ge_ N10.out).1
     have hlc10:=(ge_ B10.out).1
     have N11:=hid ((hk11.block bm hlm10 (by omega)).trans N10.out)
     have B11:=hid ((hk11.block bc hlc10 (by omega)).trans B10.out)
     have m1:=cg_ N11.out (k:=1) (v := .int .i64 0) rfl
     have f1:=q5_ N11.out (k:=1)
     clear U9 M10 N10 B10 hp11 hk11 hlm10 hlc10 hmk
     go_upto_region 13 with fail
     obtain ⟨x12,hx12⟩:∃ y,x11.setCell ⟨bm,1,none⟩ (.int .i64 (rk:Int)) = y:=⟨_,rfl⟩
     have hkb:Keep (· = bm) x11 x12:=by rw [← hx12];exact Keep.setCell (O:=(· = bm)) (p:=⟨bm,1,none⟩) rfl
     have hlc11:=(ge_ B11.out).1
     have N12:=hid (show x12.heap[bm]? = some (.cells #[.int .i64 gg, .int .i64 rk, .int .i64 sl, .int .i64 ((sl:Int) + (ds:Int)), .int .i64 tl, .int .i64 ((tl:Int) + (dt:Int))] 79 (0,0)) by rw [← hx12];exact (qe_ N11.out).trans (by rfl))
     have M12:=hid (M11.out.side hkb hS4 ⟨hbl,hq9,hb9m⟩ (by have:=HQ.out;omega) hv3)
     have B12:=hid ((hkb.block bc hlc11 (by omega)).trans B11.out)
     rw [hx12]
     clear M11 N11 B11 hkb hlc11 hx12 m1 f1
     have m1:=cg_ N12.out (k:=1) (v := .int .i64 (rk:Int)) rfl
     have hsu:IntKind.i64.wrap ((gn:Int) - (rk:Int)) = (gn:Int) - (rk:Int):=IntWalk.i64_in _ (by omega)
     go_upto_region 14 with fail
     obtain ⟨kx,hkx⟩:∃ z:Int,(gn:Int) - (rk:Int) = z:=⟨_,rfl⟩
     rw [hkx] at hsu
     try rw [hkx]
     have HKX:=hid hkx
     clear hsu m1
     have HML:=hid hml
     have HRL:=hid HR.out.2.2.1.len
     have hlb:ms.length ≤ 900∧rs.length ≤ 900:=by have:=HRL.out;omega
     clear hml
     have T0:=hid M12.out.t
     obtain ⟨am,cm,rfl,_,_⟩:=owns_shape T0.out.o1
     obtain ⟨at_,ct,rfl,_,_⟩:=owns_shape T0.out.o2
     obtain ⟨ac,cc,rfl,_,_⟩:=owns_shape T0.out.o3
     have Z:=hid (show StR b S q b9 w rn fi uns (.slice am ms.length cm) bm bc #[.int .i64 gg, .int .i64 rk, .int .i64 sl, .int .i64 ((sl:Int) + (ds:Int)), .int .i64 tl, .int .i64 ((tl:Int) + (dt:Int))] #[.int .i64 kx] #[.int .i64 sc, .int .i64 tc] none none none ms.length rs.length ms.length (ms.flatMap fun x=>(moC x).toList) (rs.map (Value.int .i64)) cs (.slice am ms.length cm) (.slice at_ rs.length ct) (.slice ac ms.length cc) x12 from ⟨⟨hS4,⟨hbl,hq9⟩,by have:=HQ.out;omega⟩,T0.out,⟨N12.out,hv3.1,hv3.2.1,hv3.2.2⟩,⟨B12.out,hvc.1,hvc.2.1,hvc.2.2⟩,trivial,trivial,trivial⟩)
     have SG:=hid (fun (V:World) (lx:Array Bool) (h1:Unl lx 14→V.cell? ⟨b9,3,none⟩ = some (.slice am ms.length cm)) (h2:V.heap[bm]? = some (.cells #[.int .i64 gg, .int .i64 rk, .int .i64 sl, .int .i64 ((sl:Int) + (ds:Int)), .int .i64 tl, .int .i64 ((tl:Int) + (dt:Int))] 79 (0,0))) (h3:V.heap[bc]? = some (.cells #[.int .i64 sc, .int .i64 tc] 81 (0,0)))=>show (Unl lx 14→V.cell? ⟨b9,3,none⟩ = some (.slice am ms.length cm))∧V.cell? ⟨bm,0,none⟩ = some (.int .i64 gg)∧V.cell? ⟨bm,1,none⟩ = some (.int .i64 rk)∧V.cell? ⟨bm,2,none⟩ = some (.int .i64 sl)∧V.cell? ⟨bm,3,none⟩ = some (.int .i64 ((sl:Int) + (ds:Int)))∧V.cell? ⟨bm,4,none⟩ = some (.int .i64 tl)∧V.cell? ⟨bm,5,none⟩ = some (.int .i64 ((tl:Int) + (dt:Int)))∧V.cell? ⟨bc,0,none⟩ = some (.int .i64 sc)∧V.cell? ⟨bc,1,none⟩ = some (.int .i64 tc) from ⟨h1,cg_ h2 (k:=0) rfl,cg_ h2 (k:=1) rfl,cg_ h2 (k:=2) rfl,cg_ h2 (k:=3) rfl,cg_ h2 (k:=4) rfl,cg_ h2 (k:=5) rfl,cg_ h3 (k:=0) rfl,cg_ h3 (k:=1) rfl⟩)
     clear M12 N12 B12 T0
     have SZ:=hid (fun (lx:Array Bool) {d1 d2 d3:Option (Option Nat)} {n1 n2 n3:Nat} {l1 l2 l3:List Value} {v1 v2 v3:Value} {V:World} (z:StR b S q b9 w rn fi uns (.slice am ms.length cm) bm bc #[.int .i64 gg, .int .i64 rk, .int .i64 sl, .int .i64 ((sl:Int) + (ds:Int)), .int .i64 tl, .int .i64 ((tl:Int) + (dt:Int))] #[.int .i64 kx] #[.int .i64 sc, .int .i64 tc] d1 d2 d3 n1 n2 n3 l1 l2 l3 v1 v2 v3 V)=>SG.out V lx (fun _=>cg_ z.t.c9 (k:=3) rfl) z.m.h z.c.h)
     have CL:=hid (show ((ms ++ [(⟨gg,rk,sl,(sl:Int) + (ds:Int),tl,(tl:Int) + (dt:Int)⟩:Mo)]).length = i + 1∧((rs ++ [kx])[i + 1]? = some kx∧(rs ++ [kx])[0]? = some n0∧RealL rn [] (ms ++ [(⟨gg,rk,sl,(sl:Int) + (ds:Int),tl,(tl:Int) + (dt:Int)⟩:Mo)]) (rs ++ [kx])∧∀ x ∈ ms ++ [(⟨gg,rk,sl,(sl:Int) + (ds:Int),tl,(tl:Int) + (dt:Int)⟩:Mo)],OkMo rn x)∧(0 ≤ kx∧kx ≤ (rn:Int))) from by
      obtain ⟨r1,r2,r3,r4⟩:=HR.out
      have hml:=HML.out
      have hrl:=HRL.out
      have hkx:=HKX.out
      have hgr:=HGR.out
      have hkb:0 ≤ kx∧kx ≤ (rn:Int):=by omega
      have hmo:grs (rn:Int) (gg:Int) n sl ((tl:Int) + (dt:Int)) ≤ grs (rn:Int) (gg:Int) n sc tc∧grs (rn:Int) (gg:Int) n sc tc ≤ grs (rn:Int) (gg:Int) n ((sl:Int) + (ds:Int)) tl:=grs_mono hsc htc
      refine ⟨by simp [hml],⟨?_,?_,?_,?_⟩,hkb⟩
      · rw [← hml,← hrl];simp
      · rw [List.getElem?_append_left (by omega)];exact r2
      · refine RealL.snoc r3 (by rw [hml];exact r1) hkb ?_ ?_
        · show max 0 (grs (rn:Int) (gg:Int) n sl ((tl:Int) + (dt:Int)) - rk) ≤ kx;omega
        · show kx ≤ grs (rn:Int) (gg:Int) n ((sl:Int) + (ds:Int)) tl - rk;omega
      · intro y hy
        rcases List.mem_append.1 hy with h | h
        · exact r4 y h
        · obtain rfl:y = (⟨gg,rk,sl,(sl:Int) + (ds:Int),tl,(tl:Int) + (dt:Int)⟩:Mo):=by simpa using h
          exact ⟨by show 0 ≤ (gg:Int)∧(gg:Int) ≤ 100;omega,by show 0 ≤ (rk:Int)∧(rk:Int) ≤ rn;omega,by show 0 ≤ (sl:Int)∧(sl:Int) ≤ (sl:Int) + (ds:Int)∧(sl:Int) + (ds:Int) ≤ 60;omega,by show 0 ≤ (tl:Int)∧(tl:Int) ≤ (tl:Int) + (dt:Int)∧(tl:Int) + (dt:Int) ≤ 60;omega⟩)
     have hin:IntKind.i64.wrap ((i:Int) + 1) = (i:Int) + 1:=IntWalk.i64_in _ (by omega)
     have HI1:=hid (show i + 1 ≤ kn by omega)
     refine wp_then ?_
     generalize hQ0:(fun (a:Act) (w:World)=>Exit.inBlock 1 _ Exit.normal a w) = K0
     go_cut [11,12] from 103 to 116 (fun vx vy wx=>∃ (vz:Value) (cz:List Value),Hid (MdS b S q b9 w rn fi uns (ms ++ [(⟨gg,rk,sl,(sl:Int) + (ds:Int),tl,(tl:Int) + (dt:Int)⟩:Mo)]) (rs ++ [kx]) vz vx vy cz wx))
     case first=>
      refine (wpIn_wide (n:=9)).1 ?_
      refine ys_ (fun (lx:Array Bool) (V:World)=>(Unl lx 14→V.cell? ⟨b9,3,none⟩ = some (.slice am ms.length cm))∧V.cell? ⟨bm,0,none⟩ = some (.int .i64 gg)∧V.cell? ⟨bm,1,none⟩ = some (.int .i64 rk)∧V.cell? ⟨bm,2,none⟩ = some (.int .i64 sl)∧V.cell? ⟨bm,3,none⟩ = some (.int .i64 ((sl:Int) + (ds:Int)))∧V.cell? ⟨bm,4,none⟩ = some (.int .i64 tl)∧V.cell? ⟨bm,5,none⟩ = some (.int .i64 ((tl:Int) + (dt:Int)))∧V.cell? ⟨bc,0,none⟩ = some (.int .i64 sc)∧V.cell? ⟨bc,1,none⟩ = some (.int .i64 tc)) (by kernel_rfl) ?_
      obtain ⟨W0,hW0⟩:∃ y,x12.drew = y:=⟨_,rfl⟩
      replace Z:=hid (Z.out.below (W':=W0) (by rw [← hW0];exact (Below.refl _ _).drew))
      have hS0:=fun lx=>SG.out W0 lx (fun _=>cg_ Z.out.t.c9 (k:=3) rfl) Z.out.m.h Z.out.c.h
      rw [hW0]
      clear hW0
      refine tkV 0 103 (.pointer (some ⟨b9,3,none⟩)) (fun _ _=>by simp only [qr_ (show 0 ≠ 14 by decide)]) rfl rfl (hS0 _) ?_
      refine tkG 1 104 (.slice am ms.length cm) (fun _ _=>by simp only [qr_ (show 1 ≠ 14 by decide)]) rfl rfl (hS0 _) (fun w' hs=>?_) ?_
      · obtain ⟨lx,hlx,hrx,q3,m0,m1,m2,m3,m4,m5,s0,s1⟩:=hs
        have q4:=q3 (xl_ hlx (k:=14) rfl (by kernel_rfl) (kS_ hrx))
        go_simp
      refine tkV 2 105 (.agg #[.int .i64 gg, .int .i64 rk, .int .i64 sl, .int .i64 ((sl:Int) + (ds:Int)), .int .i64 tl, .int .i64 ((tl:Int) + (dt:Int))]) (fun _ _=>by simp only [qr_ (show 2 ≠ 14 by decide)]) rfl rfl (hS0 _) ?_
      refine tkV 5 108 (.slice at_ rs.length ct) (fun _ _=>by simp only [qr_ (show 5 ≠ 14 by decide)]) rfl rfl (hS0 _) ?_
      refine tkV 6 109 (.int .i64 kx) (fun _ _=>by simp only [qr_ (show 6 ≠ 14 by decide)]) rfl rfl (hS0 _) ?_
      refine tkV 9 112 (.slice ac ms.length cc) (fun _ _=>by simp only [qr_ (show 9 ≠ 14 by decide)]) rfl rfl (hS0 _) ?_
      refine tkV 10 113 (.agg #[.int .i64 sc, .int .i64 tc]) (fun _ _=>by simp only [qr_ (show 10 ≠ 14 by decide)]) rfl rfl (hS0 _) ?_
      clear hS0
      refine vG_ (i:=3) (j:=7) (k:=11) (by kernel_rfl) rfl rfl rfl (by kernel_rfl) (by kernel_rfl) (by kernel_rfl) (fun K hK=>?a12) (fun K hK=>?b12) (fun K hK=>?c12)
      case' a12=>
       go_simp
       obtain ⟨d1,W1,e1,e2,Z⟩:=Z.out.al1
       rw [e2]
       simp only [e1]
       have Z:=hid Z
       refine hK _ _ ⟨SZ.out _ Z.out,?_⟩
       clear hK e1 e2
       refine vG_ (i:=4) (j:=7) (k:=11) (by kernel_rfl) rfl rfl rfl (by kernel_rfl) (by kernel_rfl) (by kernel_rfl) (fun K hK=>?a13) (fun K hK=>?b13) (fun K hK=>?c13)
       case' a13=>
        obtain ⟨a1,c1,X1,hr,Z⟩:=Z.out.ap1 ⟨rfl,rfl⟩ (by omega)
        have Z:=hid Z
        refine wa_ rfl rfl rfl hr ?_
        refine hK _ _ ⟨SZ.out _ Z.out,?_⟩
        clear hK hr
        refine tkV 13 116 (.pointer (some ⟨b9,3,none⟩)) (fun _ _=>by simp only [qr_ (show 13 ≠ 14 by decide)]) rfl rfl (SZ.out _ Z.out) ?_
        refine qZ_ (i:=7) (j:=11) (by kernel_rfl) rfl rfl (by kernel_rfl) (by kernel_rfl) (fun K hK=>?a14) (fun K hK=>?b14)
        case' a14=>
         go_simp
         obtain ⟨d2,W2,e1,e2,Z⟩:=Z.out.al2
         rw [e2]
         simp only [e1]
         have Z:=hid Z
         refine hK _ _ ⟨SZ.out _ Z.out,?_⟩
         clear hK e1 e2
         refine qZ_ (i:=8) (j:=11) (by kernel_rfl) rfl rfl (by kernel_rfl) (by kernel_rfl) (fun K hK=>?a15) (fun K hK=>?b15)
         case' a15=>
          obtain ⟨a2,c2,X2,hr,Z⟩:=Z.out.ap2 ⟨rfl,rfl⟩ (by omega)
          have Z:=hid Z
          refine wa_ rfl rfl rfl hr ?_
          refine hK _ _ ⟨SZ.out _ Z.out,?_⟩
          clear hK hr
          refine aGO 11 rfl fun K hK=>?_
          go_simp
          obtain ⟨d3,W3,e1,e2,Z⟩:=Z.out.al3
          rw [e2]
          simp only [e1]
          have Z:=hid Z
          refine hK _ _ ⟨SZ.out _ Z.out,?_⟩
          clear hK e1 e2
          refine aGO 12 rfl fun K hK=>?_
          obtain ⟨a3,c3,X3,hr,Z⟩:=Z.out.ap3 ⟨rfl,rfl⟩ (by omega)
          have Z:=hid Z
          refine wa_ rfl rfl rfl hr ?_
          refine hK _ _ ⟨SZ.out _ Z.out,?_⟩
          clear hK hr
         case' b15=>
          go_simp
          obtain ⟨d3,W3,e1,e2,Z⟩:=Z.out.al3
          rw [e2]
          simp only [e1]
          have Z:=hid Z
          refine hK _ _ ⟨SZ.out _ Z.out,?_⟩
          clear hK e1 e2
          refine aGO 8 rfl fun K hK=>?_
          obtain ⟨a2,c2,X2,hr,Z⟩:=Z.out.ap2 ⟨rfl,rfl⟩ (by omega)
          have Z:=hid Z
          refine wa_ rfl rfl rfl hr ?_
          refine hK _ _ ⟨SZ.out _ Z.out,?_⟩
          clear hK hr
          refine aGO 12 rfl fun K hK=>?_
          obtain ⟨a3,c3,X3,hr,Z⟩:=Z.out.ap3 ⟨rfl,rfl⟩ (by omega)
          have Z:=hid Z
          refine wa_ rfl rfl rfl hr ?_
          refine hK _ _ ⟨SZ.out _ Z.out,?_⟩
          clear hK hr
        case' b14=>
         go_simp
         obtain ⟨d3,W3,e1,e2,Z⟩:=Z.out.al3
         rw [e2]
         simp only [e1]
         have Z:=hid Z
         refine hK _ _ ⟨SZ.out _ Z.out,?_⟩
         clear hK e1 e2
         refine aGO 7 rfl fun K hK=>?_
         go_simp
         obtain ⟨d2,W2,e1,e2,Z⟩:=Z.out.al2
         rw [e2]
         simp only [e1]
         have Z:=hid Z
         refine hK _ _ ⟨SZ.out _ Z.out,?_⟩
         clear hK e1 e2
         refine aGO 8 rfl fun K hK=>?_
         obtain ⟨a2,c2,X2,hr,Z⟩:=Z.out.ap2 ⟨rfl,rfl⟩ (by omega)
         have Z:=hid Z
         refine wa_ rfl rfl rfl hr ?_
         refine hK _ _ ⟨SZ.out _ Z.out,?_⟩
         clear hK hr
         refine aGO 12 rfl fun K hK=>?_
         obtain ⟨a3,c3,X3,hr,Z⟩:=Z.out.ap3 ⟨rfl,rfl⟩ (by omega)
         have Z:=hid Z
         refine wa_ rfl rfl rfl hr ?_
         refine hK _ _ ⟨SZ.out _ Z.out,?_⟩
         clear hK hr
       case' b13=>
        go_simp
        obtain ⟨d2,W2,e1,e2,Z⟩:=Z.out.al2
        rw [e2]
        simp only [e1]
        have Z:=hid Z
        refine hK _ _ ⟨SZ.out _ Z.out,?_⟩
        clear hK e1 e2
        refine qZ_ (i:=4) (j:=11) (by kernel_rfl) rfl rfl (by kernel_rfl) (by kernel_rfl) (fun K hK=>?a16) (fun K hK=>?b16)
        case' a16=>
         obtain ⟨a1,c1,X1,hr,Z⟩:=Z.out.ap1 ⟨rfl,rfl⟩ (by omega)
         have Z:=hid Z
         refine wa_ rfl rfl rfl hr ?_
         refine hK _ _ ⟨SZ.out _ Z.out,?_⟩
         clear hK hr
         refine tkV 13 116 (.pointer (some ⟨b9,3,none⟩)) (fun _ _=>by simp only [qr_ (show 13 ≠ 14 by decide)]) rfl rfl (SZ.out _ Z.out) ?_
         refine qZ_ (i:=8) (j:=11) (by kernel_rfl) rfl rfl (by kernel_rfl) (by kernel_rfl) (fun K hK=>?a17) (fun K hK=>?b17)
         case' a17=>
          obtain ⟨a2,c2,X2,hr,Z⟩:=Z.out.ap2 ⟨rfl,rfl⟩ (by omega)
          have Z:=hid Z
          refine wa_ rfl rfl rfl hr ?_
          refine hK _ _ ⟨SZ.out _ Z.out,?_⟩
          clear hK hr
          refine aGO 11 rfl fun K hK=>?_
          go_simp
          obtain ⟨d3,W3,e1,e2,Z⟩:=Z.out.al3
          rw [e2]
          simp only [e1]
          have Z:=hid Z
          refine hK _ _ ⟨SZ.out _ Z.out,?_⟩
          clear hK e1 e2
          refine aGO 12 rfl fun K hK=>?_
          obtain ⟨a3,c3,X3,hr,Z⟩:=Z.out.ap3 ⟨rfl,rfl⟩ (by omega)
          have Z:=hid Z
          refine wa_ rfl rfl rfl hr ?_
          refine hK _ _ ⟨SZ.out _ Z.out,?_⟩
          clear hK hr
         case' b17=>
          go_simp
          obtain ⟨d3,W3,e1,e2,Z⟩:=Z.out.al3
          rw [e2]
          simp only [e1]
          have Z:=hid Z
          refine hK _ _ ⟨SZ.out _ Z.out,?_⟩
          clear hK e1 e2
          refine aGO 8 rfl fun K hK=>?_
          obtain ⟨a2,c2,X2,hr,Z⟩:=Z.out.ap2 ⟨rfl,rfl⟩ (by omega)
          have Z:=hid Z
          refine wa_ rfl rfl rfl hr ?_
          refine hK _ _ ⟨SZ.out _ Z.out,?_⟩
          clear hK hr
          refine aGO 12 rfl fun K hK=>?_
          obtain ⟨a3,c3,X3,hr,Z⟩:=Z.out.ap3 ⟨rfl,rfl⟩ (by omega)
          have Z:=hid Z
          refine wa_ rfl rfl rfl hr ?_
          refine hK _ _ ⟨SZ.out _ Z.out,?_⟩
          clear hK hr
        case' b16=>
         go_simp
         obtain ⟨d3,W3,e1,e2,Z⟩:=Z.out.al3
         rw [e2]
         simp only [e1]
         have Z:=hid Z
         refine hK _ _ ⟨SZ.out _ Z.out,?_⟩
         clear hK e1 e2
         refine aGO 4 rfl fun K hK=>?_
         obtain ⟨a1,c1,X1,hr,Z⟩:=Z.out.ap1 ⟨rfl,rfl⟩ (by omega)
         have Z:=hid Z
         refine wa_ rfl rfl rfl hr ?_
         refine hK _ _ ⟨SZ.out _ Z.out,?_⟩
         clear hK hr
         refine tkV 13 116 (.pointer (some ⟨b9,3,none⟩)) (fun _ _=>by simp only [qr_ (show 13 ≠ 14 by decide)]) rfl rfl (SZ.out _ Z.out) ?_
         refine aGO 8 rfl fun K hK=>?_
         obtain ⟨a2,c2,X2,hr,Z⟩:=Z.out.ap2 ⟨rfl,rfl⟩ (by omega)
         have Z:=hid Z
         refine wa_ rfl rfl rfl hr ?_
         refine hK _ _ ⟨SZ.out _ Z.out,?_⟩
         clear hK hr
         refine aGO 12 rfl fun K hK=>?_
         obtain ⟨a3,c3,X3,hr,Z⟩:=Z.out.ap3 ⟨rfl,rfl⟩ (by omega)
         have Z:=hid Z
         refine wa_ rfl rfl rfl hr ?_
         refine hK _ _ ⟨SZ.out _ Z.out,?_⟩
         clear hK hr
       case' c13=>
        go_simp
        obtain ⟨d3,W3,e1,e2,Z⟩:=Z.out.al3
        rw [e2]
        simp only [e1]
        have Z:=hid Z
        refine hK _ _ ⟨SZ.out _ Z.out,?_⟩
        clear hK e1 e2
        refine qZ_ (i:=4) (j:=7) (by kernel_rfl) rfl rfl (by kernel_rfl) (by kernel_rfl) (fun K hK=>?a18) (fun K hK=>?b18)
        case' a18=>
         obtain ⟨a1,c1,X1,hr,Z⟩:=Z.out.ap1 ⟨rfl,rfl⟩ (by omega)
         have Z:=hid Z
         refine wa_ rfl rfl rfl hr ?_
         refine hK _ _ ⟨SZ.out _ Z.out,?_⟩
         clear hK hr
         refine tkV 13 116 (.pointer (some ⟨b9,3,none⟩)) (fun _ _=>by simp only [qr_ (show 13 ≠ 14 by decide)]) rfl rfl (SZ.out _ Z.out) ?_
         refine aGO 7 rfl fun K hK=>?_
         go_simp
         obtain ⟨d2,W2,e1,e2,Z⟩:=Z.out.al2
         rw [e2]
         simp only [e1]
         have Z:=hid Z
         refine hK _ _ ⟨SZ.out _ Z.out,?_⟩
         clear hK e1 e2
         refine aGO 8 rfl fun K hK=>?_
         obtain ⟨a2,c2,X2,hr,Z⟩:=Z.out.ap2 ⟨rfl,rfl⟩ (by omega)
         have Z:=hid Z
         refine wa_ rfl rfl rfl hr ?_
         refine hK _ _ ⟨SZ.out _ Z.out,?_⟩
         clear hK hr
         refine aGO 12 rfl fun K hK=>?_
         obtain ⟨a3,c3,X3,hr,Z⟩:=Z.out.ap3 ⟨rfl,rfl⟩ (by omega)
         have Z:=hid Z
         refine wa_ rfl rfl rfl hr ?_
         refine hK _ _ ⟨SZ.out _ Z.out,?_⟩
         clear hK hr
        case' b18=>
         go_simp
         obtain ⟨d2,W2,e1,e2,Z⟩:=Z.out.al2
         rw [e2]
         simp only [e1]
         have Z:=hid Z
         refine hK _ _ ⟨SZ.out _ Z.out,?_⟩
         clear hK e1 e2
         refine aGO 4 rfl fun K hK=>?_
         obtain ⟨a1,c1,X1,hr,Z⟩:=Z.out.ap1 ⟨rfl,rfl⟩ (by omega)
         have Z:=hid Z
         refine wa_ rfl rfl rfl hr ?_
         refine hK _ _ ⟨SZ.out _ Z.out,?_⟩
         clear hK hr
         refine tkV 13 116 (.pointer (some ⟨b9,3,none⟩)) (fun _ _=>by simp only [qr_ (show 13 ≠ 14 by decide)]) rfl rfl (SZ.out _ Z.out) ?_
         refine aGO 8 rfl fun K hK=>?_
         obtain ⟨a2,c2,X2,hr,Z⟩:=Z.out.ap2 ⟨rfl,rfl⟩ (by omega)
         have Z:=hid Z
         refine wa_ rfl rfl rfl hr ?_
         refine hK _ _ ⟨SZ.out _ Z.out,?_⟩
         clear hK hr
         refine aGO 12 rfl fun K hK=>?_
         obtain ⟨a3,c3,X3,hr,Z⟩:=Z.out.ap3 ⟨rfl,rfl⟩ (by omega)
         have Z:=hid Z
         refine wa_ rfl rfl rfl hr ?_
         refine hK _ _ ⟨SZ.out _ Z.out,?_⟩
         clear hK hr
      case' b12=>
       go_simp
       obtain ⟨d2,W2,e1,e2,Z⟩:=Z.out.al2
       rw [e2]
       simp only [e1]
       have Z:=hid Z
       refine hK _ _ ⟨SZ.out _ Z.out,?_⟩
       clear hK e1 e2
       refine qZ_ (i:=3) (j:=11) (by kernel_rfl) rfl rfl (by kernel_rfl) (by kernel_rfl) (fun K hK=>?a19) (fun K hK=>?b19)
       case' a19=>
        go_simp
        obtain ⟨d1,W1,e1,e2,Z⟩:=Z.out.al1
        rw [e2]
        simp only [e1]
        have Z:=hid Z
        refine hK _ _ ⟨SZ.out _ Z.out,?_⟩
        clear hK e1 e2
        refine qZ_ (i:=4) (j:=11) (by kernel_rfl) rfl rfl (by kernel_rfl) (by kernel_rfl) (fun K hK=>?a20) (fun K hK=>?b20)
        case' a20=>
         obtain ⟨a1,c1,X1,hr,Z⟩:=Z.out.ap1 ⟨rfl,rfl⟩ (by omega)
         have Z:=hid Z
         refine wa_ rfl rfl rfl hr ?_
         refine hK _ _ ⟨SZ.out _ Z.out,?_⟩
         clear hK hr
         refine tkV 13 116 (.pointer (some ⟨b9,3,none⟩)) (fun _ _=>by simp only [qr_ (show 13 ≠ 14 by decide)]) rfl rfl (SZ.out _ Z.out) ?_
         refine qZ_ (i:=8) (j:=11) (by kernel_rfl) rfl rfl (by kernel_rfl) (by kernel_rfl) (fun K hK=>?a21) (fun K hK=>?b21)
         case' a21=>
          obtain ⟨a2,c2,X2,hr,Z⟩:=Z.out.ap2 ⟨rfl,rfl⟩ (by omega)
          have Z:=hid Z
          refine wa_ rfl rfl rfl hr ?_
          refine hK _ _ ⟨SZ.out _ Z.out,?_⟩
          clear hK hr
          refine aGO 11 rfl fun K hK=>?_
          go_simp
          obtain ⟨d3,W3,e1,e2,Z⟩:=Z.out.al3
          rw [e2]
          simp only [e1]
          have Z:=hid Z
          refine hK _ _ ⟨SZ.out _ Z.out,?_⟩
          clear hK e1 e2
          refine aGO 12 rfl fun K hK=>?_
          obtain ⟨a3,c3,X3,hr,Z⟩:=Z.out.ap3 ⟨rfl,rfl⟩ (by omega)
          have Z:=hid Z
          refine wa_ rfl rfl rfl hr ?_
          refine hK _ _ ⟨SZ.out _ Z.out,?_⟩
          clear hK hr
         case' b21=>
          go_simp
          obtain ⟨d3,W3,e1,e2,Z⟩:=Z.out.al3
          rw [e2]
          simp only [e1]
          have Z:=hid Z
          refine hK _ _ ⟨SZ.out _ Z.out,?_⟩
          clear hK e1 e2
          refine aGO 8 rfl fun K hK=>?_
          obtain ⟨a2,c2,X2,hr,Z⟩:=Z.out.ap2 ⟨rfl,rfl⟩ (by omega)
          have Z:=hid Z
          refine wa_ rfl rfl rfl hr ?_
          refine hK _ _ ⟨SZ.out _ Z.out,?_⟩
          clear hK hr
          refine aGO 12 rfl fun K hK=>?_
          obtain ⟨a3,c3,X3,hr,Z⟩:=Z.out.ap3 ⟨rfl,rfl⟩ (by omega)
          have Z:=hid Z
          refine wa_ rfl rfl rfl hr ?_
          refine hK _ _ ⟨SZ.out _ Z.out,?_⟩
          clear hK hr
        case' b20=>
         go_simp
         obtain ⟨d3,W3,e1,e2,Z⟩:=Z.out.al3
         rw [e2]
         simp only [e1]
         have Z:=hid Z
         refine hK _ _ ⟨SZ.out _ Z.out,?_⟩
         clear hK e1 e2
         refine aGO 4 rfl fun K hK=>?_
         obtain ⟨a1,c1,X1,hr,Z⟩:=Z.out.ap1 ⟨rfl,rfl⟩ (by omega)
         have Z:=hid Z
         refine wa_ rfl rfl rfl hr ?_
         refine hK _ _ ⟨SZ.out _ Z.out,?_⟩
         clear hK hr
         refine tkV 13 116 (.pointer (some ⟨b9,3,none⟩)) (fun _ _=>by simp only [qr_ (show 13 ≠ 14 by decide)]) rfl rfl (SZ.out _ Z.out) ?_
         refine aGO 8 rfl fun K hK=>?_
         obtain ⟨a2,c2,X2,hr,Z⟩:=Z.out.ap2 ⟨rfl,rfl⟩ (by omega)
         have Z:=hid Z
         refine wa_ rfl rfl rfl hr ?_
         refine hK _ _ ⟨SZ.out _ Z.out,?_⟩
         clear hK hr
         refine aGO 12 rfl fun K hK=>?_
         obtain ⟨a3,c3,X3,hr,Z⟩:=Z.out.ap3 ⟨rfl,rfl⟩ (by omega)
         have Z:=hid Z
         refine wa_ rfl rfl rfl hr ?_
         refine hK _ _ ⟨SZ.out _ Z.out,?_⟩
         clear hK hr
       case' b19=>
        go_simp
        obtain ⟨d3,W3,e1,e2,Z⟩:=Z.out.al3
        rw [e2]
        simp only [e1]
        have Z:=hid Z
        refine hK _ _ ⟨SZ.out _ Z.out,?_⟩
        clear hK e1 e2
        refine aGO 3 rfl fun K hK=>?_
        go_simp
        obtain ⟨d1,W1,e1,e2,Z⟩:=Z.out.al1
        rw [e2]
        simp only [e1]
        have Z:=hid Z
        refine hK _ _ ⟨SZ.out _ Z.out,?_⟩
        clear hK e1 e2
        refine aGO 4 rfl fun K hK=>?_
        obtain ⟨a1,c1,X1,hr,Z⟩:=Z.out.ap1 ⟨rfl,rfl⟩ (by omega)
        have Z:=hid Z
        refine wa_ rfl rfl rfl hr ?_
        refine hK _ _ ⟨SZ.out _ Z.out,?_⟩
        clear hK hr
        refine tkV 13 116 (.pointer (some ⟨b9,3,none⟩)) (fun _ _=>by simp only [qr_ (show 13 ≠ 14 by decide)]) rfl rfl (SZ.out _ Z.out) ?_
        refine aGO 8 rfl fun K hK=>?_
        obtain ⟨a2,c2,X2,hr,Z⟩:=Z.out.ap2 ⟨rfl,rfl⟩ (by omega)
        have Z:=hid Z
        refine wa_ rfl rfl rfl hr ?_
        refine hK _ _ ⟨SZ.out _ Z.out,?_⟩
        clear hK hr
        refine aGO 12 rfl fun K hK=>?_
        obtain ⟨a3,c3,X3,hr,Z⟩:=Z.out.ap3 ⟨rfl,rfl⟩ (by omega)
        have Z:=hid Z
        refine wa_ rfl rfl rfl hr ?_
        refine hK _ _ ⟨SZ.out _ Z.out,?_⟩
        clear hK hr
      case' c12=>
       go_simp
       obtain ⟨d3,W3,e1,e2,Z⟩:=Z.out.al3
       rw [e2]
       simp only [e1]
       have Z:=hid Z
       refine hK _ _ ⟨SZ.out _ Z.out,?_⟩
       clear hK e1 e2
       refine qZ_ (i:=3) (j:=7) (by kernel_rfl) rfl rfl (by kernel_rfl) (by kernel_rfl) (fun K hK=>?a22) (fun K hK=>?b22)
       case' a22=>
        go_simp
        obtain ⟨d1,W1,e1,e2,Z⟩:=Z.out.al1
        rw [e2]
        simp only [e1]
        have Z:=hid Z
        refine hK _ _ ⟨SZ.out _ Z.out,?_⟩
        clear hK e1 e2
        refine qZ_ (i:=4) (j:=7) (by kernel_rfl) rfl rfl (by kernel_rfl) (by kernel_rfl) (fun K hK=>?a23) (fun K hK=>?b23)
        case' a23=>
         obtain ⟨a1,c1,X1,hr,Z⟩:=Z.out.ap1 ⟨rfl,rfl⟩ (by omega)
         have Z:=hid Z
         refine wa_ rfl rfl rfl hr ?_
         refine hK _ _ ⟨SZ.out _ Z.out,?_⟩
         clear hK hr
         refine tkV 13 116 (.pointer (some ⟨b9,3,none⟩)) (fun _ _=>by simp only [qr_ (show 13 ≠ 14 by decide)]) rfl rfl (SZ.out _ Z.out) ?_
         refine aGO 7 rfl fun K hK=>?_
         go_simp
         obtain ⟨d2,W2,e1,e2,Z⟩:=Z.out.al2
         rw [e2]
         simp only [e1]
         have Z:=hid Z
         refine hK _ _ ⟨SZ.out _ Z.out,?_⟩
         clear hK e1 e2
         refine aGO 8 rfl fun K hK=>?_
         obtain ⟨a2,c2,X2,hr,Z⟩:=Z.out.ap2 ⟨rfl,rfl⟩ (by omega)
         have Z:=hid Z
         refine wa_ rfl rfl rfl hr ?_
         refine hK _ _ ⟨SZ.out _ Z.out,?_⟩
         clear hK hr
         refine aGO 12 rfl fun K hK=>?_
         obtain ⟨a3,c3,X3,hr,Z⟩:=Z.out.ap3 ⟨rfl,rfl⟩ (by omega)
         have Z:=hid Z
         refine wa_ rfl rfl rfl hr ?_
         refine hK _ _ ⟨SZ.out _ Z.out,?_⟩
         clear hK hr
        case' b23=>
         go_simp
         obtain ⟨d2,W2,e1,e2,Z⟩:=Z.out.al2
         rw [e2]
         simp only [e1]
         have Z:=hid Z
         refine hK _ _ ⟨SZ.out _ Z.out,?_⟩
         clear hK e1 e2
         refine aGO 4 rfl fun K hK=>?_
         obtain ⟨a1,c1,X1,hr,Z⟩:=Z.out.ap1 ⟨rfl,rfl⟩ (by omega)
         have Z:=hid Z
         refine wa_ rfl rfl rfl hr ?_
         refine hK _ _ ⟨SZ.out _ Z.out,?_⟩
         clear hK hr
         refine tkV 13 116 (.pointer (some ⟨b9,3,none⟩)) (fun _ _=>by simp only [qr_ (show 13 ≠ 14 by decide)]) rfl rfl (SZ.out _ Z.out) ?_
         refine aGO 8 rfl fun K hK=>?_
         obtain ⟨a2,c2,X2,hr,Z⟩:=Z.out.ap2 ⟨rfl,rfl⟩ (by omega)
         have Z:=hid Z
         refine wa_ rfl rfl rfl hr ?_
         refine hK _ _ ⟨SZ.out _ Z.out,?_⟩
         clear hK hr
         refine aGO 12 rfl fun K hK=>?_
         obtain ⟨a3,c3,X3,hr,Z⟩:=Z.out.ap3 ⟨rfl,rfl⟩ (by omega)
         have Z:=hid Z
         refine wa_ rfl rfl rfl hr ?_
         refine hK _ _ ⟨SZ.out _ Z.out,?_⟩
         clear hK hr
       case' b22=>
        go_simp
        obtain ⟨d2,W2,e1,e2,Z⟩:=Z.out.al2
        rw [e2]
        simp only [e1]
        have Z:=hid Z
        refine hK _ _ ⟨SZ.out _ Z.out,?_⟩
        clear hK e1 e2
        refine aGO 3 rfl fun K hK=>?_
        go_simp
        obtain ⟨d1,W1,e1,e2,Z⟩:=Z.out.al1
        rw [e2]
        simp only [e1]
        have Z:=hid Z
        refine hK _ _ ⟨SZ.out _ Z.out,?_⟩
        clear hK e1 e2
        refine aGO 4 rfl fun K hK=>?_
        obtain ⟨a1,c1,X1,hr,Z⟩:=Z.out.ap1 ⟨rfl,rfl⟩ (by omega)
        have Z:=hid Z
        refine wa_ rfl rfl rfl hr ?_
        refine hK _ _ ⟨SZ.out _ Z.out,?_⟩
        clear hK hr
        refine tkV 13 116 (.pointer (some ⟨b9,3,none⟩)) (fun _ _=>by simp only [qr_ (show 13 ≠ 14 by decide)]) rfl rfl (SZ.out _ Z.out) ?_
        refine aGO 8 rfl fun K hK=>?_
        obtain ⟨a2,c2,X2,hr,Z⟩:=Z.out.ap2 ⟨rfl,rfl⟩ (by omega)
        have Z:=hid Z
        refine wa_ rfl rfl rfl hr ?_
        refine hK _ _ ⟨SZ.out _ Z.out,?_⟩
        clear hK hr
        refine aGO 12 rfl fun K hK=>?_
        obtain ⟨a3,c3,X3,hr,Z⟩:=Z.out.ap3 ⟨rfl,rfl⟩ (by omega)
        have Z:=hid Z
        refine wa_ rfl rfl rfl hr ?_
        refine hK _ _ ⟨SZ.out _ Z.out,?_⟩
        clear hK hr
      all_goals
       refine aGO 14 rfl fun K hK=>?_
       have z3:=cg_ Z.out.t.c9 (k:=3) (v := .slice am ms.length cm) rfl
       have f3:=q5_ Z.out.t.c9 (k:=3)
       go_simp
       obtain ⟨W9,hW9,ZT,ZS⟩:=Z.out.done (by omega)
       rw [hW9]
       have hS9:=fun (lx:Array Bool) (h:¬ Unl lx 14)=>SG.out W9 lx (fun h2=>absurd h2 h) ZS.1 ZS.2
       have ZT:=hid ZT
       refine hK _ _ ⟨hS9 _ (fun h=>by cases h),?_⟩
       clear hK Z z3 f3 hW9 ZS
       refine aGO 15 rfl fun K hK=>?_
       go_simp
       refine hK _ _ ⟨hS9 _ (fun h=>by cases h),?_⟩
       clear hK
       refine aGO 16 rfl fun K hK=>?_
       go_simp
       refine hK _ _ ⟨hS9 _ (fun h=>by cases h),?_⟩
       clear hK hS9
       refine xG_ (by kernel_rfl) ?_
       go_simp
       go_wp2_with fail
       go_meet
       case rel=>exact ⟨_,_,hid (mds_of ZT.out (by simp) (by simp [moC]) (by simp))⟩
     case rest=>
      obtain ⟨vz,cz,M13⟩:=hcut
      obtain ⟨x13,hx13⟩:∃ v,v = wc:=⟨_,rfl⟩
      subst hx13
      subst hQ0
      go_simp
      go_wp2_with fail
      go_roundw
      case rel=>exact ⟨i + 1,kx,ms ++ [(⟨gg,rk,sl,(sl:Int) + (ds:Int),tl,(tl:Int) + (dt:Int)⟩:Mo)],rs ++ [kx],_,_,HI1.out,by go_num,rfl,CL.out.1,hid CL.out.2.1,CL.out.2.2,M13⟩
      case measure=>simp [intOf];omega
  · have hik:i = kn:=by omega
    have HK:=hid hik
    have hnI:¬ (i:Int) < (kn:Int):=by omega
    have HML:=hid hml
    clear hik hml
    obtain ⟨am,cm,rfl,_,_⟩:=owns_shape HM.out.o1
    obtain ⟨at_,ct,rfl,_,_⟩:=owns_shape HM.out.o2
    have q0:=cg_ HM.out.c9 (k:=0) (v := .int .i64 rn) rfl
    have q1:=cg_ HM.out.c9 (k:=1) (v := .int .i64 fi) rfl
    have q2:=cg_ HM.out.c9 (k:=2) (v := .int .i64 uns) rfl
    have q3:=cg_ HM.out.c9 (k:=3) (v := .slice am ms.length cm) rfl
    have q4:=cg_ HM.out.c9 (k:=4) (v := .slice none 0 0) rfl
    have p0:=cg_ HM.out.c6 (k:=0) (v := .int .i64 0) rfl
    have p1:=cg_ HM.out.c6 (k:=1) (v := .int .i64 0) rfl
    have p2:=cg_ HM.out.c6 (k:=2) (v := .int .i64 0) rfl
    have p3:=cg_ HM.out.c6 (k:=3) (v := .slice none 0 0) rfl
    have p4:=cg_ HM.out.c6 (k:=4) (v := .slice none 0 0) rfl
    have g0:=q5_ HM.out.c6 (k:=0)
    have g1:=q5_ HM.out.c6 (k:=1)
    have g2:=q5_ HM.out.c6 (k:=2)
    have g3:=q5_ HM.out.c6 (k:=3)
    have g4:=q5_ HM.out.c6 (k:=4)
    go_wp2_with fail
    obtain ⟨w9,hw9⟩:∃ y,((((wr.setCell ⟨q,0,none⟩ (.int .i64 rn)).setCell ⟨q,1,none⟩ (.int .i64 fi)).setCell ⟨q,2,none⟩ (.int .i64 uns)).setCell ⟨q,3,none⟩ (.slice am ms.length cm)).setCell ⟨q,4,none⟩ (.slice none 0 0) = y:=⟨_,rfl⟩
    have h9:w9.heap[q]? = some (.cells #[.int .i64 rn, .int .i64 fi, .int .i64 uns, .slice am ms.length cm, .slice none 0 0] 26 (0,0)):=by
     rw [← hw9]
     exact (qe_ (qe_ (qe_ (qe_ (qe_ HM.out.c6))))).trans (by rfl)
    have hne:∀ k,k ≠ q→w9.heap[k]? = wr.heap[k]?:=fun k hk=>by rw [← hw9];exact (Below.heap_setCell _ _ _ _ hk).trans ((Below.heap_setCell _ _ _ _ hk).trans ((Below.heap_setCell _ _ _ _ hk).trans ((Below.heap_setCell _ _ _ _ hk).trans (Below.heap_setCell _ _ _ _ hk))))
    have hqw:w.heap.size ≤ q:=by have:=HQ.out;omega
    have hk9:Keep (· = b) w w9:=by rw [← hw9];exact ((((HM.out.kp.setNew (p:=⟨q,0,none⟩) hqw).setNew (p:=⟨q,1,none⟩) hqw).setNew (p:=⟨q,2,none⟩) hqw).setNew (p:=⟨q,3,none⟩) hqw).setNew (p:=⟨q,4,none⟩) hqw
    have hkq:Keep (· = q) wr w9:=by rw [← hw9];exact ((((Keep.setCell (O:=(· = q)) (A:=wr) (p:=⟨q,0,none⟩) rfl).trans (Keep.setCell (p:=⟨q,1,none⟩) rfl)).trans (Keep.setCell (p:=⟨q,2,none⟩) rfl)).trans (Keep.setCell (p:=⟨q,3,none⟩) rfl)).trans (Keep.setCell (p:=⟨q,4,none⟩) rfl)
    have hwq:q < wr.heap.size:=(ge_ HM.out.c6).1
    have hp9:=qI_ HM.out.hp (fun q' h=>by have:=hS4 q' h;omega) hkq (by omega) (fun q' h=>by have:=hS4 q' h;omega)
    rw [hw9]
    refine bodyPost_ret (ret26 rfl h9 rfl rfl rfl) rfl ?_
    obtain ⟨r1,r2,r3,r4⟩:=HR.out
    have hik:=HK.out
    have hml:=HML.out
    refine ⟨rn,fi,uns,ms,rs,am,cm,at_,ct,⟨_,rfl⟩,hroom,⟨by omega,by omega⟩,⟨by omega,by omega⟩,⟨by omega,by omega⟩,r4,r3,fun m hm=>?_,?_,?_,hp9,hk9⟩
    · rw [r2] at hm
      obtain rfl:n0 = m:=by simpa using hm
      exact ⟨hn0b.2.2.1,hn0b.2.2.2⟩
    · rw [HQ.out]
      exact qF_ (q3_ HM.out.o1 fun g hg=>hne g (by have:=(HM.out.o1.lt g hg).1;omega)) (fun g hg=>by have:=(HM.out.o1.lt g hg).1;omega)
    · rw [HQ.out]
      exact qF_ (q3_ HM.out.o2 fun g hg=>hne g (by have:=(HM.out.o2.lt g hg).1;omega)) (fun g hg=>by have:=(HM.out.o2.lt g hg).1;omega)
end Go.Proofs.LB