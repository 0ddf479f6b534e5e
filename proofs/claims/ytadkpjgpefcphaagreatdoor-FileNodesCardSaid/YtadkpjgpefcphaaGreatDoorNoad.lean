/- Parts of the proof of a law of layer 11 (file): LfW8, LfW9. The conditions stand in each theorem. -/
import Derived.Laws.EntriesVeiled
import Derived.Test.YtadkpjgpefcphaaGreatDoorProg
import Derived.Test.YtadkpjgpefcphaaGreatDoorNoab
import Derived.Test.YtadkpjgpefcphaaGreatDoorNoac
set_option linter.all false
set_option linter.unusedVariables false
set_option linter.unusedSimpArgs false
namespace Go.Proofs.LF
open Go.RowKit
set_option maxHeartbeats 20000000
set_option maxRecDepth 100000
attribute [local go_sem] bs_toList bs_size bs_get Oper.semAt_some
structure NdV where
 up:List Ky
 ua:Option Addr
 uc:Nat
 n:List UInt8
 l:List Int
 an:Option Addr
 cn:Nat
 s:Fo
 ab:Option Addr
 cb:Nat
def NdV.dat (x:NdV):NdD:=⟨x.up,x.n,x.l,x.s⟩
def NdV.encs (x:NdV):Array Value:=#[.slice x.ua x.up.length x.uc, .agg #[.string (bs x.n), .slice x.an x.l.length x.cn, .slice x.ab x.s.len x.cb]]
def NdV.E (S:Nat→Prop) (W:World) (x:NdV):Prop:=
 Pth S W (.slice x.ua x.up.length x.uc) x.up∧Ints S W (.slice x.an x.l.length x.cn) x.l∧FSl S W (.slice x.ab x.s.len x.cb) x.s ∧
 x.n.length ≤ 1000∧x.l.length ≤ 1000∧x.s.len ≤ 1000∧x.s.Sm∧x.up.length ≤ 900
def PushR (J Jx:List NdD→(Nat→Prop)→World→Prop) (pre xs:List NdD) (O:Nat→Prop) (W:World) (e:Ending) (W':World):Prop:=
 (e = .returned (.bool true)∧∃ O',J (pre ++ xs) O' W'∧Keep O W W'∧(∀ b,O' b→O b ∨ W.heap.size ≤ b)∧(∀ b,O' b→b < W'.heap.size)) ∨
 (e = .returned (.bool false)∧∃ q O',q <+: xs∧Jx (pre ++ q) O' W'∧Keep O W W')
theorem push_any (G:List NdD→Prop) (l Yb Db:Nat) (J Jx:List NdD→(Nat→Prop)→World→Prop)
 (hJ:∀ pre O A B,J pre O A→Below A.heap.size A B→J pre O B)
 (hY:∀ m pre x O W1,J pre O W1→G (pre ++ [x.dat])→NdV.E (fun b=>b < W1.heap.size∧¬ O b) W1 x→YieldAt Fence.wide m Tryz.prog l (NdV.encs x) W1 fun e W'=>
   (e = .returned (.bool true)∧∃ O',J (pre ++ [x.dat]) O' W'∧Keep O W1 W'∧(∀ b,O' b→O b ∨ W1.heap.size ≤ b)∧(∀ b,O' b→b < W'.heap.size)) ∨
   (e = .returned (.bool false)∧∃ O',Jx (pre ++ [x.dat]) O' W'∧Keep O W1 W')) (m:Nat) :
 ∀ (n:Nat) (y:Fo) (up:List Ky) (ua:Option Addr) (uc:Nat) (a:Option Addr) (c:Nat) (pre:List NdD) (S O:Nat→Prop) (W:World),y.cnt < m→J pre O W →
  W.cell? ⟨Yb,0,none⟩ = some (.func (.yield l) #[] #[])→W.cell? ⟨Db,0,none⟩ = some (.func (.func 179) #[] #[.pointer (some ⟨Yb,0,none⟩), .pointer (some ⟨Db,0,none⟩)]) →
  (Yb < W.heap.size∧¬ O Yb)→(Db < W.heap.size∧¬ O Db)→Pth S W (.slice ua up.length uc) up→FSl S W (.slice a y.len c) y→(∀ b,S b→b < W.heap.size∧¬ O b)→(∀ b,O b→b < W.heap.size) →
  y.len ≤ 1000→y.Sm→up.length + y.cnt ≤ 900→(∀ q,q <+: nodesL up y→G (pre ++ q)) →
  CallsIn Fence.wide n Tryz.prog 179 #[.slice ua up.length uc, .slice a y.len c, .pointer (some ⟨Yb,0,none⟩), .pointer (some ⟨Db,0,none⟩)] W (PushR J Jx pre (nodesL up y) O W):=by
 induction m with
 | zero=>intro _ y _ _ _ _ _ _ _ _ _ h;omega
 | succ m ih=>
 intro n y up ua uc a c pre S O W hcnt hJ0 hyc hdc hyb hdb hup hv hS hO hlen hsm hdep hGn
 have HG:=hid hGn
 clear hGn
 obtain ⟨_,_,he,hc,hm,hat⟩:=hv.at
 cases he
 have IH:=hid ih
 have HY:=hid hY
 have HJ:=hid hJ
 have HS:=hid hS
 have HO:=hid hO
 clear ih hY hJ hS hO
 unfold maxLen at hm
 refine callsIn_of_wp Tryz.func179 rfl trivial ?_ rfl
 simp only [Tryz.ntmps179,List.size_toArray,List.length_cons,List.length_nil,Nat.reduceAdd,Nat.reduceSub,Array.replicate_succ,Array.replicate_zero,List.push_toArray,List.append_toArray,List.nil_append,List.cons_append]
 gi_wp2_with fail
 gi_loopw [11] (fun i wr=>∃ (k:Nat) (Ok:Nat→Prop),k ≤ y.len∧i = .int .i64 k∧Hid (J (pre ++ nodesL up (y.take k)) Ok wr)∧Hid (Keep O W wr)∧Hid (∀ b,Ok b→O b ∨ W.heap.size ≤ b)∧Hid (∀ b,Ok b→b < wr.heap.size)) (fun i _=>y.len - (intOf i).toNat)
 case atStart=>exact ⟨0,O,by omega,rfl,by simpa [Hid,Fo.take,nodesL] using hJ0,Keep.refl _ _,fun b h => .inl h,HO.out⟩
 case round=>
  obtain ⟨k,Ok,hk,rfl,HJk,HK,HOk,HOz⟩:=hrel
  have HAT:=hid hat
  clear hat
  by_cases hlt:k < y.len
  · obtain ⟨g,o,nm,l',s,r,an,cn,ab,cb,rfl,hg1,hd,hc0,hc1,hc2,hI,hF⟩:=HAT.out k hlt
    have ha:Agree S W wr:=HK.out.agree HS.out
    have c0:=ha.cell hg1 hc0
    have c1:=ha.cell hg1 hc1
    have c2:=ha.cell hg1 hc2
    have yc:=HK.out.cell hyb.1 hyb.2 hyc
    have dc:=HK.out.cell hdb.1 hdb.2 hdc
    obtain ⟨s1,s2,s3,s4,_⟩:nm.length ≤ 1000∧l'.length ≤ 1000∧s.len ≤ 1000∧s.Sm∧r.Sm:=by have:=hsm.drop (i:=k);rwa [hd] at this
    have s5:=Fo.cnt_at hd
    have HD:=hid hd
    clear hc0 hc1 hc2 hd
    gi_wp2_with fail
    have hbel:Below wr.heap.size wr (wr.alloc (.cells #[.string (bs nm), .slice an l'.length cn, .slice ab s.len cb] 85)).drew:=((Below.refl _ _).alloc (nl_ _) _).drew
    have HJ1:=hid (HJ.out _ _ _ _ HJk.out hbel)
    have HK1:Hid (Keep O W (wr.alloc (.cells #[.string (bs nm), .slice an l'.length cn, .slice ab s.len cb] 85)).drew):=HK.out.trans (Keep.of_below hbel)
    have hSx:∀ b,S b→b < wr.heap.size∧¬ Ok b:=fun b hb=>by
     have h1:=HS.out b hb
     have h2:=HK.out.size
     refine ⟨by omega,fun h=>?_⟩
     rcases HOk.out b h with h3 | h3
     · exact h1.2 h3
     · omega
    have hE0:NdV.E (fun b=>b < (wr.alloc (.cells #[.string (bs nm), .slice an l'.length cn, .slice ab s.len cb] 85)).drew.heap.size∧¬ Ok b) (wr.alloc (.cells #[.string (bs nm), .slice an l'.length cn, .slice ab s.len cb] 85)).drew ⟨up,ua,uc,nm,l',an,cn,s,ab,cb⟩:=by
     have hw:∀ b,S b→b < (wr.alloc (.cells #[.string (bs nm), .slice an l'.length cn, .slice ab s.len cb] 85)).drew.heap.size∧¬ Ok b:=fun b hb=>⟨by have:=(hSx b hb).1;simp;omega,(hSx b hb).2⟩
     have ha1:Agree S W (wr.alloc (.cells #[.string (bs nm), .slice an l'.length cn, .slice ab s.len cb] 85)).drew:=HK1.out.agree HS.out
     exact ⟨(hup.agree ha1).wide hw,(hI.agree ha1).wide hw,(hF.agree ha1).wide hw,s1,s2,s3,s4,by simp only;omega⟩
    have hg0:G (pre ++ nodesL up (y.take k) ++ [NdV.dat ⟨up,ua,uc,nm,l',an,cn,s,ab,cb⟩]):=by
     rw [List.append_assoc]
     refine HG.out _ (List.IsPrefix.trans ?_ (nodesL_pre (k:=k + 1)))
     rw [nodesL_take HD.out]
     exact ⟨nodesL (up ++ [kyOf nm l']) s,by simp [NdV.dat]⟩
    have hyr:=HY.out (n - 1) _ ⟨up,ua,uc,nm,l',an,cn,s,ab,cb⟩ Ok _ HJ1.out hg0 hE0
    clear hg0
    refine region_held (fun w'=>w'.cell? ⟨Yb,0,none⟩ = some (.func (.yield l) #[] #[])∧w'.cell? ⟨Db,0,none⟩ = some (.func (.func 179) #[] #[.pointer (some ⟨Yb,0,none⟩), .pointer (some ⟨Db,0,none⟩)]) ∧
     w'.cell? ⟨wr.heap.size,0,none⟩ = some (.string (bs nm))∧w'.cell? ⟨wr.heap.size,1,none⟩ = some (.slice an l'.length cn)∧w'.cell? ⟨wr.heap.size,2,none⟩ = some (.slice ab s.len cb)) (by kernel_rfl) ?_
    have hS0:(fun w':World=>w'.cell? ⟨Yb,0,none⟩ = some (.func (.yield l) #[] #[])∧w'.cell? ⟨Db,0,none⟩ = some (.func (.func 179) #[] #[.pointer (some ⟨Yb,0,none⟩), .pointer (some ⟨Db,0,none⟩)]) ∧
     w'.cell? ⟨wr.heap.size,0,none⟩ = some (.string (bs nm))∧w'.cell? ⟨wr.heap.size,1,none⟩ = some (.slice an l'.length cn)∧w'.cell? ⟨wr.heap.size,2,none⟩ = some (.slice ab s.len cb)) (wr.alloc (.cells #[.string (bs nm), .slice an l'.length cn, .slice ab s.len cb] 85)).drew:=
     ⟨bc_ hbel (by have:=HK.out.size;omega) yc,bc_ hbel (by have:=HK.out.size;omega) dc,by simp,by simp,by simp⟩
    refine AnyH_takeD (fun _=>trivial) (by kernel_rfl) 0 15 (.func (.yield l) #[] #[]) rfl rfl (by kernel_rfl) (by kernel_rfl) (by kernel_rfl) (fun _ _ _ h=>h) (.inl ⟨by rfl,fun w' hs=>?_⟩) hS0 ?_
    · obtain ⟨q0,q1,q2,q3,q4⟩:=hs
      go_simp
    refine AnyH_takeD (fun _=>trivial) (by kernel_rfl) 1 16 (.slice ua up.length uc) rfl rfl (by kernel_rfl) (by kernel_rfl) (by kernel_rfl) (fun _ _ _ h=>h) (.inl ⟨by rfl,fun w' hs=>?_⟩) hS0 ?_
    · go_simp
    refine AnyH_takeD (fun _=>trivial) (by kernel_rfl) 2 17 (.agg #[.string (bs nm), .slice an l'.length cn, .slice ab s.len cb]) rfl rfl (by kernel_rfl) (by kernel_rfl) (by kernel_rfl) (fun _ _ _ h=>h) (.inl ⟨by rfl,fun w' hs=>?_⟩) hS0 ?_
    · obtain ⟨q0,q1,q2,q3,q4⟩:=hs
      go_simp
    refine AnyH_one (i:=3) (by kernel_rfl) rfl (by rfl) (fun K hK=>?_)
    obtain ⟨fn,tmps,assign,body,hy,hR⟩:=hyr
    dsimp only [NdV.encs] at hy
    go_simp
    refine ⟨fun h=>(by cases h),hR.mono ?_⟩
    have hYo:¬ Ok Yb:=fun h=>by rcases HOk.out _ h with h | h;exact hyb.2 h;omega
    have hDo:¬ Ok Db:=fun h=>by rcases HOk.out _ h with h | h;exact hdb.2 h;omega
    have hBo:¬ Ok wr.heap.size:=fun h=>by have:=HOz.out _ h;omega
    have hz0:=HK.out.size
    have hSk:∀ W3,Keep Ok (wr.alloc (.cells #[.string (bs nm), .slice an l'.length cn, .slice ab s.len cb] 85)).drew W3→(fun w':World=>w'.cell? ⟨Yb,0,none⟩ = some (.func (.yield l) #[] #[])∧w'.cell? ⟨Db,0,none⟩ = some (.func (.func 179) #[] #[.pointer (some ⟨Yb,0,none⟩), .pointer (some ⟨Db,0,none⟩)]) ∧
     w'.cell? ⟨wr.heap.size,0,none⟩ = some (.string (bs nm))∧w'.cell? ⟨wr.heap.size,1,none⟩ = some (.slice an l'.length cn)∧w'.cell? ⟨wr.heap.size,2,none⟩ = some (.slice ab s.len cb)) W3:=fun W3 h3=>
     ⟨h3.cell (by simp;omega) hYo hS0.1,h3.cell (by simp;omega) hDo hS0.2.1,h3.cell (by simp) hBo hS0.2.2.1,h3.cell (by simp) hBo hS0.2.2.2.1,h3.cell (by simp) hBo hS0.2.2.2.2⟩
    have hkO:∀ W3,Keep Ok (wr.alloc (.cells #[.string (bs nm), .slice an l'.length cn, .slice ab s.len cb] 85)).drew W3→Keep O W W3:=fun W3 h3=>
     ⟨h3.os.trans HK1.out.os,h3.tape.trans HK1.out.tape,h3.output.trans HK1.out.output,Nat.le_trans HK1.out.size h3.size,fun b hb ho=>(h3.block b (by have:=HK1.out.size;omega) (fun h=>by rcases HOk.out _ h with h | h;exact ho h;omega)).trans (HK1.out.block b hb ho)⟩
    rintro e W3 (⟨rfl,O1,hJ3,hk3,ho3,hz3⟩ | ⟨rfl,O1,hx3,hk3⟩)
    · have hS3:=hSk W3 hk3
      have hkW3:=hkO W3 hk3
      refine hK _ _ ⟨hS3,?_⟩
      refine AnyH_takeD (fun _=>trivial) (by kernel_rfl) 4 19 (.bool false) rfl rfl (by kernel_rfl) (by kernel_rfl) (by kernel_rfl) (fun _ _ _ h=>h) (.inl ⟨by rfl,fun w' hs=>?_⟩) hS3 ?_
      · go_simp
      refine AnyH_takeD (fun _=>trivial) (by kernel_rfl) 5 20 (.bool false) rfl rfl (by kernel_rfl) (by kernel_rfl) (by kernel_rfl) (fun _ _ _ h=>h) (.inl ⟨by rfl,fun w' hs=>?_⟩) hS3 ?_
      · go_simp
      refine AnyH_takeD (fun _=>trivial) (by kernel_rfl) 6 21 (.func (.func 179) #[] #[.pointer (some ⟨Yb,0,none⟩), .pointer (some ⟨Db,0,none⟩)]) rfl rfl (by kernel_rfl) (by kernel_rfl) (by kernel_rfl) (fun _ _ _ h=>h) (.inl ⟨by rfl,fun w' hs=>?_⟩) hS3 ?_
      · obtain ⟨q0,q1,q2,q3,q4⟩:=hs
        go_simp
      refine AnyH_takeD (fun _=>trivial) (by kernel_rfl) 7 22 (.slice ua up.length uc) rfl rfl (by kernel_rfl) (by kernel_rfl) (by kernel_rfl) (fun _ _ _ h=>h) (.inl ⟨by rfl,fun w' hs=>?_⟩) hS3 ?_
      · go_simp
      refine AnyH_takeD (fun _=>trivial) (by kernel_rfl) 8 23 (.agg #[.string (bs nm), .slice an l'.length cn, .slice ab s.len cb]) rfl rfl (by kernel_rfl) (by kernel_rfl) (by kernel_rfl) (fun _ _ _ h=>h) (.inl ⟨by rfl,fun w' hs=>?_⟩) hS3 ?_
      · obtain ⟨q0,q1,q2,q3,q4⟩:=hs
        go_simp
      refine AnyH_takeD (fun _=>trivial) (by kernel_rfl) 11 26 (.pointer (some ⟨wr.heap.size,2,none⟩)) rfl rfl (by kernel_rfl) (by kernel_rfl) (by kernel_rfl) (fun _ _ _ h=>h) (.inl ⟨by rfl,fun w' hs=>?_⟩) hS3 ?_
      · go_simp
      refine AnyH_takeD (fun _=>trivial) (by kernel_rfl) 12 27 (.slice ab s.len cb) rfl rfl (by kernel_rfl) (by kernel_rfl) (by kernel_rfl) (fun _ _ _ h=>h) (.inl ⟨by rfl,fun w' hs=>?_⟩) hS3 ?_
      · obtain ⟨q0,q1,q2,q3,q4⟩:=hs
        go_simp
      refine AnyH_one (i:=9) (by kernel_rfl) rfl (by rfl) (fun K hK=>?_)
      go_simp
      have hz3':=hk3.size
      simp at hz3'
      have haW3:Agree S W W3:=hkW3.agree HS.out
      refine ⟨trivial,fun h=>(by cases h),(callsIn_wide.2 (key_any nm l' an cn _ S _ (hI.agree haW3) (fun b hb=>by have:=(hSx b hb).1;omega) ab s.len cb rfl)).mono ?_⟩
      rintro e W4 ⟨rfl,hb4⟩
      have hz4:=hb4.size
      have hS4:=hSk W4 (hk3.trans (Keep.of_below hb4))
      have hkW4:=hkO W4 (hk3.trans (Keep.of_below hb4))
      have hJ4:=HJ.out _ _ _ _ hJ3 hb4
      refine hK _ _ ⟨hS4,?_⟩
      refine AnyH_one (i:=10) (by kernel_rfl) rfl (by rfl) (fun K hK=>?_)
      go_simp
      have haW4:Agree S W W4:=hkW4.agree HS.out
      refine ⟨trivial,fun h=>(by cases h),(callsIn_wide.2 (with_any up (kyOf nm l') ua uc S _ (hup.agree haW4) (fun b hb=>by have:=(hSx b hb).1;omega) (by omega))).mono ?_⟩
      rintro e W5 ⟨a5,c5,rfl,hp5,hb5⟩
      have hz5:=hb5.size
      have hS5:=hSk W5 ((hk3.trans (Keep.of_below hb4)).trans (Keep.of_below hb5))
      have hkW5:=hkO W5 ((hk3.trans (Keep.of_below hb4)).trans (Keep.of_below hb5))
      have hJ5:=HJ.out _ _ _ _ hJ4 hb5
      refine hK _ _ ⟨hS5,?_⟩
      refine AnyH_one (i:=13) (by kernel_rfl) rfl (by rfl) (fun K hK=>?_)
      have hD1:(pre ++ nodesL up (y.take k) ++ [NdV.dat ⟨up,ua,uc,nm,l',an,cn,s,ab,cb⟩]) ++ nodesL (up ++ [kyOf nm l']) s = pre ++ nodesL up (y.take (k + 1)):=by
       rw [nodesL_take HD.out];simp [NdV.dat]
      have hO15:∀ b,O1 b→b < W3.heap.size∧(Ok b ∨ wr.heap.size < b):=fun b hb=>⟨hz3 b hb,(ho3 b hb).imp id (fun h=>by simp at h;omega)⟩
      have hY1:¬ O1 Yb:=fun h=>by rcases (hO15 _ h).2 with h | h;exact hYo h;omega
      have hD1':¬ O1 Db:=fun h=>by rcases (hO15 _ h).2 with h | h;exact hDo h;omega
      have hB1:¬ O1 wr.heap.size:=fun h=>by rcases (hO15 _ h).2 with h | h;exact hBo h;omega
      have hOk1:∀ b,O1 b→O b ∨ W.heap.size ≤ b:=fun b hb=>by rcases (hO15 b hb).2 with h | h;exact HOk.out b h;exact .inr (by omega)
      have hcall:=IH.out (n - 1) s (up ++ [kyOf nm l']) a5 c5 ab cb _ (fun b=>b < W5.heap.size∧¬ O1 b) O1 W5 (by omega) hJ5 hS5.1 hS5.2.1 ⟨by omega,hY1⟩ ⟨by omega,hD1'⟩
       (by rw [List.length_append];exact hp5.wide fun b hb=>⟨hb.2,fun h=>by have:=(hO15 b h).1;have:=hb.1;omega⟩)
       ((hF.agree (hkW5.agree HS.out)).wide fun b hb=>⟨by have:=(hSx b hb).1;omega,fun h=>by rcases (hO15 b h).2 with h | h;exact (hSx b hb).2 h;have:=(hSx b hb).1;omega⟩)
       (fun b hb=>hb) (fun b hb=>by have:=(hO15 b hb).1;omega) s3 s4 (by rw [List.length_append];simp;omega)
       (fun q hq=>by
         rw [List.append_assoc,List.append_assoc]
         refine HG.out _ (List.IsPrefix.trans ?_ (nodesL_pre (k:=k + 1)))
         rw [nodesL_take HD.out]
         obtain ⟨t,ht⟩:=hq
         exact ⟨t,by rw [← ht];simp [NdV.dat]⟩)
      rw [List.length_append] at hcall
      simp only [List.length_cons,List.length_nil,Nat.zero_add] at hcall
      go_simp
      refine ⟨trivial,fun h=>(by cases h),hcall.mono ?_⟩
      have hS6:∀ W6,Keep O1 W5 W6→(fun w':World=>w'.cell? ⟨Yb,0,none⟩ = some (.func (.yield l) #[] #[])∧w'.cell? ⟨Db,0,none⟩ = some (.func (.func 179) #[] #[.pointer (some ⟨Yb,0,none⟩), .pointer (some ⟨Db,0,none⟩)]) ∧
       w'.cell? ⟨wr.heap.size,0,none⟩ = some (.string (bs nm))∧w'.cell? ⟨wr.heap.size,1,none⟩ = some (.slice an l'.length cn)∧w'.cell? ⟨wr.heap.size,2,none⟩ = some (.slice ab s.len cb)) W6:=fun W6 h6=>
       ⟨h6.cell (by omega) hY1 hS5.1,h6.cell (by omega) hD1' hS5.2.1,h6.cell (by omega) hB1 hS5.2.2.1,h6.cell (by omega) hB1 hS5.2.2.2.1,h6.cell (by omega) hB1 hS5.2.2.2.2⟩
      have hkW6:∀ W6,Keep O1 W5 W6→Keep O W W6:=fun W6 h6=>
       ⟨h6.os.trans hkW5.os,h6.tape.trans hkW5.tape,h6.output.trans hkW5.output,Nat.le_trans hkW5.size h6.size,fun b hb ho=>(h6.block b (by have:=hkW5.size;omega) (fun h=>by rcases hOk1 b h with h | h;exact ho h;omega)).trans (hkW5.block b hb ho)⟩
      rintro e W6 (⟨rfl,O2,hJ6,hk6,ho6,hz6⟩ | ⟨rfl,q,O2,hq,hx6,hk6⟩)
      · have hS6':=hS6 W6 hk6
        have hkW6':=hid (hkW6 W6 hk6)
        have hz6':=hk6.size
        refine hK _ _ ⟨hS6',?_⟩
        refine AnyH_takeD (fun _=>trivial) (by kernel_rfl) 14 29 (.bool false) rfl rfl (by kernel_rfl) (by kernel_rfl) (by kernel_rfl) (fun _ _ _ h=>h) (.inl ⟨by rfl,fun w' hs=>?_⟩) hS6' ?_
        · go_simp
        refine AnyH_takeD (fun _=>trivial) (by kernel_rfl) 15 30 (.bool false) rfl rfl (by kernel_rfl) (by kernel_rfl) (by kernel_rfl) (fun _ _ _ h=>h) (.inl ⟨by rfl,fun w' hs=>?_⟩) hS6' ?_
        · go_simp
        refine AnyH_done (by kernel_rfl) ?_
        have HJ6:=hid (hD1 ▸ hJ6)
        have HO6:Hid (∀ b,O2 b→O b ∨ W.heap.size ≤ b):=fun b hb=>by rcases ho6 b hb with h | h;exact hOk1 b h;exact .inr (by omega)
        have HZ6:=hid hz6
        clear hz6 ho6 hJ6 hD1 hcall hS5 hS4 hS3 hSk hkO hS0 hOk1 hO15 hSx hJ5 hJ4 hJ3 hz3 ho3 hE0
        gi_wp2_with fail
        go_roundw
        case rel=>exact ⟨k + 1,O2,by omega,by go_num,HJ6,hkW6',HO6,HZ6⟩
        case measure=>simp [intOf];omega
      · have hS6':=hS6 W6 hk6
        have hkW6':=hid (hkW6 W6 hk6)
        refine hK _ _ ⟨hS6',?_⟩
        refine AnyH_takeD (fun _=>trivial) (by kernel_rfl) 14 29 (.bool true) rfl rfl (by kernel_rfl) (by kernel_rfl) (by kernel_rfl) (fun _ _ _ h=>h) (.inl ⟨by rfl,fun w' hs=>?_⟩) hS6' ?_
        · go_simp
        refine AnyH_takeD (fun _=>trivial) (by kernel_rfl) 15 30 (.bool true) rfl rfl (by kernel_rfl) (by kernel_rfl) (by kernel_rfl) (fun _ _ _ h=>h) (.inl ⟨by rfl,fun w' hs=>?_⟩) hS6' ?_
        · go_simp
        refine AnyH_done (by kernel_rfl) ?_
        have hpre:(nodesL up (y.take k) ++ (⟨up,nm,l',s⟩ :: q)) <+: nodesL up y:=by
         refine List.IsPrefix.trans ?_ (nodesL_pre (k:=k + 1))
         rw [nodesL_take HD.out]
         obtain ⟨t,ht⟩:=hq
         exact ⟨t,by rw [← ht];simp⟩
        have HX:Hid (∃ q' O',q' <+: nodesL up y∧Jx (pre ++ q') O' W6∧Keep O W W6):=⟨_,O2,hpre,by simpa [NdV.dat] using hx6,hkW6'.out⟩
        clear hx6 hD1 hcall hS5 hS4 hS3 hSk hkO hS0 hOk1 hO15 hSx hJ5 hJ4 hJ3 hz3 ho3 hE0 hpre
        gi_wp2_with fail
        go_ret
        exact .inr ⟨rfl,HX.out⟩
    · have hS3:=hSk W3 hk3
      have hkW3:=hkO W3 hk3
      refine hK _ _ ⟨hS3,?_⟩
      refine AnyH_takeD (fun _=>trivial) (by kernel_rfl) 4 19 (.bool true) rfl rfl (by kernel_rfl) (by kernel_rfl) (by kernel_rfl) (fun _ _ _ h=>h) (.inl ⟨by rfl,fun w' hs=>?_⟩) hS3 ?_
      · go_simp
      refine AnyH_takeD (fun _=>trivial) (by kernel_rfl) 5 20 (.bool true) rfl rfl (by kernel_rfl) (by kernel_rfl) (by kernel_rfl) (fun _ _ _ h=>h) (.inl ⟨by rfl,fun w' hs=>?_⟩) hS3 ?_
      · go_simp
      refine AnyH_takeD (fun _=>trivial) (by kernel_rfl) 6 21 (undef) rfl rfl (by kernel_rfl) (by kernel_rfl) (by kernel_rfl) (fun _ _ _ h=>h) (.inr ⟨by kernel_rfl,rfl⟩) hS3 ?_
      refine AnyH_takeD (fun _=>trivial) (by kernel_rfl) 7 22 (undef) rfl rfl (by kernel_rfl) (by kernel_rfl) (by kernel_rfl) (fun _ _ _ h=>h) (.inr ⟨by kernel_rfl,rfl⟩) hS3 ?_
      refine AnyH_takeD (fun _=>trivial) (by kernel_rfl) 8 23 (undef) rfl rfl (by kernel_rfl) (by kernel_rfl) (by kernel_rfl) (fun _ _ _ h=>h) (.inr ⟨by kernel_rfl,rfl⟩) hS3 ?_
      refine AnyH_takeD (fun _=>trivial) (by kernel_rfl) 9 24 (undef) rfl rfl (by kernel_rfl) (by kernel_rfl) (by kernel_rfl) (fun _ _ _ h=>h) (.inr ⟨by kernel_rfl,rfl⟩) hS3 ?_
      refine AnyH_takeD (fun _=>trivial) (by kernel_rfl) 10 25 (undef) rfl rfl (by kernel_rfl) (by kernel_rfl) (by kernel_rfl) (fun _ _ _ h=>h) (.inr ⟨by kernel_rfl,rfl⟩) hS3 ?_
      refine AnyH_takeD (fun _=>trivial) (by kernel_rfl) 11 26 (undef) rfl rfl (by kernel_rfl) (by kernel_rfl) (by kernel_rfl) (fun _ _ _ h=>h) (.inr ⟨by kernel_rfl,rfl⟩) hS3 ?_
      refine AnyH_takeD (fun _=>trivial) (by kernel_rfl) 12 27 (undef) rfl rfl (by kernel_rfl) (by kernel_rfl) (by kernel_rfl) (fun _ _ _ h=>h) (.inr ⟨by kernel_rfl,rfl⟩) hS3 ?_
      refine AnyH_takeD (fun _=>trivial) (by kernel_rfl) 13 28 (undef) rfl rfl (by kernel_rfl) (by kernel_rfl) (by kernel_rfl) (fun _ _ _ h=>h) (.inr ⟨by kernel_rfl,rfl⟩) hS3 ?_
      refine AnyH_takeD (fun _=>trivial) (by kernel_rfl) 14 29 (undef) rfl rfl (by kernel_rfl) (by kernel_rfl) (by kernel_rfl) (fun _ _ _ h=>h) (.inr ⟨by kernel_rfl,rfl⟩) hS3 ?_
      refine AnyH_takeD (fun _=>trivial) (by kernel_rfl) 15 30 (.bool true) rfl rfl (by kernel_rfl) (by kernel_rfl) (by kernel_rfl) (fun _ _ _ h=>h) (.inl ⟨by rfl,fun w' hs=>?_⟩) hS3 ?_
      · go_simp
      refine AnyH_done (by kernel_rfl) ?_
      have hpre:(nodesL up (y.take k) ++ [⟨up,nm,l',s⟩]) <+: nodesL up y:=by
       refine List.IsPrefix.trans ?_ (nodesL_pre (k:=k + 1))
       rw [nodesL_take HD.out]
       exact ⟨nodesL (up ++ [kyOf nm l']) s,by simp⟩
      have HX:Hid (∃ q' O',q' <+: nodesL up y∧Jx (pre ++ q') O' W3∧Keep O W W3):=⟨_,O1,hpre,by simpa [NdV.dat] using hx3,hkW3⟩
      clear hx3 hS3 hSk hkO hS0 hSx hE0 hpre
      simp only [Act.put,List.setIfInBounds_toArray,List.set_cons_succ,List.set_cons_zero]
      gi_wp2_with fail
      go_ret
      exact .inr ⟨rfl,HX.out⟩
  · gi_wp2_with fail
    go_ret
    obtain rfl:k = y.len:=by omega
    exact .inl ⟨rfl,Ok,by have:=HJk.out;rwa [Fo.take_len] at this,HK.out,HOk.out,HOz.out⟩
end Go.Proofs.LF
namespace Go.Proofs.LF
open Go.RowKit
set_option maxHeartbeats 4000000
set_option maxRecDepth 100000
attribute [local go_sem] bs_toList bs_size bs_get Oper.semAt_some
theorem seq1_any (G:List NdD→Prop) (l B1 B2:Nat) (J Jx:List NdD→(Nat→Prop)→World→Prop)
 (hJ:∀ pre O A B,J pre O A→Below A.heap.size A B→J pre O B)
 (hY:∀ m pre x O W1,J pre O W1→G (pre ++ [x.dat])→NdV.E (fun b=>b < W1.heap.size∧¬ O b) W1 x→YieldAt Fence.wide m Tryz.prog l (NdV.encs x) W1 fun e W'=>
   (e = .returned (.bool true)∧∃ O',J (pre ++ [x.dat]) O' W'∧Keep O W1 W'∧(∀ b,O' b→O b ∨ W1.heap.size ≤ b)∧(∀ b,O' b→b < W'.heap.size)) ∨
   (e = .returned (.bool false)∧∃ O',Jx (pre ++ [x.dat]) O' W'∧Keep O W1 W'))
 (n:Nat) (y:Fo) (up:List Ky) (ua:Option Addr) (uc:Nat) (a:Option Addr) (c:Nat) (S O:Nat→Prop) (W:World) (hJ0:J [] O W)
  (h1:W.cell? ⟨B1,0,none⟩ = some (.slice ua up.length uc)) (h2:W.cell? ⟨B2,0,none⟩ = some (.slice a y.len c))
  (hB1:B1 < W.heap.size) (hB2:B2 < W.heap.size) (hup:Pth S W (.slice ua up.length uc) up) (hv:FSl S W (.slice a y.len c) y) (hS:∀ b,S b→b < W.heap.size∧¬ O b) (hO:∀ b,O b→b < W.heap.size)
  (hlen:y.len ≤ 1000) (hsm:y.Sm) (hdep:up.length + y.cnt ≤ 900) (hG:∀ q,q <+: nodesL up y→G q) :
  CallsIn Fence.wide n Tryz.prog 178 #[.func (.yield l) #[] #[], .pointer (some ⟨B1,0,none⟩), .pointer (some ⟨B2,0,none⟩)] W fun e W'=>(∃ v,e = .returned v)∧((∃ O',J (nodesL up y) O' W') ∨ (∃ pre O',pre <+: nodesL up y∧Jx pre O' W')):=by
 have hb:Below W.heap.size W ((W.alloc (.cells #[.func (.yield l) #[] #[]] 247)).alloc (.cells #[.func (.func 179) #[] #[.pointer (some ⟨W.heap.size,0,none⟩), .pointer (some ⟨W.heap.size + 1,0,none⟩)]] 248)):=((Below.refl _ _).alloc (nl_ _) _).alloc (by simp) _
 have hp:=push_any G l W.heap.size (W.heap.size + 1) J Jx hJ hY (y.cnt + 1) (n - 1) y up ua uc a c [] S O _ (by omega) (hJ _ _ _ _ hJ0 hb) (bc_ ((Below.refl _ _).alloc (nl_ _) _) (by simp) (by simp)) (by simp) ⟨by simp;omega,fun h=>by have:=hO _ h;omega⟩ ⟨by simp,fun h=>by have:=hO _ h;omega⟩
  (hup.agree (Ag_b hb fun b h=>(hS b h).1)) (hv.agree (Ag_b hb fun b h=>(hS b h).1)) (fun b h=>⟨by have:=(hS b h).1;simp;omega,(hS b h).2⟩) (fun b h=>by have:=hO b h;simp;omega) hlen hsm hdep (fun q hq=>by simpa using hG q hq)
 have HP:=hid hp
 clear hp hJ hY hJ0 hS hO
 refine callsIn_of_wp Tryz.func178 rfl trivial ?_ rfl
 simp only [Tryz.ntmps178,List.size_toArray,List.length_cons,List.length_nil,Nat.reduceAdd,Nat.reduceSub,Array.replicate_succ,Array.replicate_zero,List.push_toArray,List.append_toArray,List.nil_append,List.cons_append]
 gi_wp2_with (first | ((try refine ⟨trivial,fun h=>(by cases h),?_⟩);gi_at_call 179;refine HP.out.mono ?_;rintro e W6 (⟨rfl,O2,hJ6,hk6,_⟩ | ⟨rfl,q,O2,hq,hx6,hk6⟩)))
 · go_end0
   exact ⟨⟨_,rfl⟩, .inl ⟨O2,by simpa using hJ6⟩⟩
 · go_end0
   exact ⟨⟨_,rfl⟩, .inr ⟨q,O2,hq,by simpa using hx6⟩⟩
theorem nodes_any (ua:Option Addr) (un uc:Nat) (a:Option Addr) (yn c:Nat) (w:World) :
 Calls Tryz.prog 88 #[.slice ua un uc, .slice a yn c] w fun e w'=>e = .returned (.func (.func 178) #[] #[.pointer (some ⟨w.heap.size,0,none⟩), .pointer (some ⟨w.heap.size + 1,0,none⟩)])∧w' = (w.alloc (.cells #[.slice ua un uc] 65)).alloc (.cells #[.slice a yn c] 22):=by
 go_enter Tryz.func88,Tryz.ntmps88
 go_wp2
 go_ret
 exact ⟨rfl,rfl⟩
theorem nodes_seq (B1 B2:Nat) (y:Fo) (up:List Ky) (ua:Option Addr) (uc:Nat) (a:Option Addr) (c:Nat) (S:Nat→Prop) (w:World)
 (h1:w.cell? ⟨B1,0,none⟩ = some (.slice ua up.length uc)) (h2:w.cell? ⟨B2,0,none⟩ = some (.slice a y.len c))
 (hB1:B1 < w.heap.size) (hB2:B2 < w.heap.size) (hup:Pth S w (.slice ua up.length uc) up) (hv:FSl S w (.slice a y.len c) y) (hS:∀ b,S b→b < w.heap.size)
 (hlen:y.len ≤ 1000) (hsm:y.Sm) (hdep:up.length + y.cnt ≤ 900) :
 SeqI Tryz.prog 178 #[.pointer (some ⟨B1,0,none⟩), .pointer (some ⟨B2,0,none⟩)] NdV.dat NdV.encs NdV.E (nodesL up y) w (fun b=>S b ∨ b = B1 ∨ b = B2):=by
 intro l J Jx O W hb hT hO hJ _ hY h0 n
 have hz:=hb.size
 exact seq1_any (· <+: nodesL up y) l B1 B2 J Jx hJ hY n y up ua uc a c S O W h0 (bc_ hb hB1 h1) (bc_ hb hB2 h2) (by omega) (by omega) (hup.agree (Ag_b hb hS)) (hv.agree (Ag_b hb hS)) (fun b h=>⟨by have:=hS b h;omega,hT b (.inl h)⟩) hO hlen hsm hdep (fun _ h=>h)
theorem NdV.E_agree {S:Nat→Prop} {w w':World} {x:NdV} (h:NdV.E S w x) (ha:Agree S w w'):NdV.E S w' x:=⟨h.1.agree ha,h.2.1.agree ha,h.2.2.1.agree ha,h.2.2.2⟩
theorem NdV.E_wide {S S':Nat→Prop} {w:World} {x:NdV} (h:NdV.E S w x) (hs:∀ b,S b→S' b):NdV.E S' w x:=⟨h.1.wide hs,h.2.1.wide hs,h.2.2.1.wide hs,h.2.2.2⟩
theorem enters178:∀ (args:Array Value) (W:World),(callFunc 178 args).run Tryz.prog W = .ok (.enter 178 args) W:=by
 intro args W
 simp [go_sem]
theorem box_cell {W:World} {B:Nat} {v:Value} {t:TypeId} (h:W.heap[B]? = some (.cells #[v] t (0,0))):W.cell? ⟨B,0,none⟩ = some v∧W.frozen? ⟨B,0,none⟩ = false:=by
 constructor <;> simp [World.cell?,World.frozen?,h]
theorem box_set {W:World} {B:Nat} {v u:Value} {t:TypeId} (h:W.heap[B]? = some (.cells #[v] t (0,0))):(W.setCell ⟨B,0,none⟩ u).heap[B]? = some (.cells #[u] t (0,0)):=by
 simp [World.setCell,Array.getElem?_modify,h]
theorem box_new (W:World) (v:Value) (t:TypeId):(W.alloc (.cells #[v] t)).heap[W.heap.size]? = some (.cells #[v] t (0,0)):=World.alloc_heap_new W _
theorem box_alloc {W:World} {B:Nat} {x:Obj} (o:Obj) (h:W.heap[B]? = some x):(W.alloc o).heap[B]? = some x:=
 (Below.heap_alloc W o B (Array.getElem?_eq_some_iff.1 h).1).trans h
theorem below_putObj {B D:Nat} {w W:World} {o:Obj} (h:Below B w W) (hD:B ≤ D):Below B w (W.putObj D o):=
 ⟨h.os,h.tape,h.output,by have:=h.size;simpa using this,fun k hk=>(World.putObj_heap_other (by omega)).trans (h.block k hk)⟩
theorem few_any (y:Fo) (a:Option Addr) (c:Nat) (S:Nat→Prop) (w:World) (hv:FSl S w (.slice a y.len c) y) (hS:∀ b,S b→b < w.heap.size) (hlen:y.len ≤ 1000) (hsm:y.Sm) (hcnt:y.cnt ≤ 900) :
 Calls Tryz.prog 94 #[.slice a y.len c] w fun e w'=>e = .returned (.bool (decide (y.cnt ≤ 60)))∧Below w.heap.size w w':=by
 refine (callsIn_wide (n:=9)).1 ?_
 refine callsIn_of_wp_marks Tryz.func94 rfl trivial ?_ rfl
 simp only [Tryz.ntmps94,List.size_toArray,List.length_cons,List.length_nil,Nat.reduceAdd,Nat.reduceSub,Array.replicate_succ,Array.replicate_zero,List.push_toArray,List.append_toArray,List.nil_append,List.cons_append]
 gi_wp2_with (first | (refine ⟨trivial,?_⟩;gi_at_call 88;refine (callsIn_wide.2 (nodes_any _ _ _ _ _ _ _)).mono ?_;rintro e w' ⟨rfl,rfl⟩) | (gi_at_call 88;refine (callsIn_wide.2 (nodes_any _ _ _ _ _ _ _)).mono ?_;rintro e w' ⟨rfl,rfl⟩))
 obtain ⟨W0,hW0⟩:∃ W0,((((w.alloc (.cells #[.bool false] 4)).alloc (.cells #[.int .i64 0] 3)).alloc (.cells #[.slice none 0 0] 65)).alloc (.cells #[.slice a y.len c] 22)) = W0:=⟨_,rfl⟩
 have hz:W0.heap.size = w.heap.size + 4:=by rw [← hW0];simp
 have hb0:W0.heap[w.heap.size]? = some (.cells #[.bool false] 4 (0,0)):=by rw [← hW0];exact box_alloc _ (box_alloc _ (box_alloc _ (box_new _ _ _)))
 have hb1:W0.heap[w.heap.size + 1]? = some (.cells #[.int .i64 0] 3 (0,0)):=by rw [← hW0];have:=box_alloc (.cells #[.slice a y.len c] 22) (box_alloc (.cells #[.slice none 0 0] 65) (box_new (w.alloc (.cells #[.bool false] 4)) (.int .i64 0) 3));simpa using this
 have hb2:W0.cell? ⟨w.heap.size + 1 + 1,0,none⟩ = some (.slice none 0 0):=by rw [← hW0];have:=(box_cell (box_alloc (.cells #[.slice a y.len c] 22) (box_new ((w.alloc (.cells #[.bool false] 4)).alloc (.cells #[.int .i64 0] 3)) (.slice none 0 0) 65))).1;simpa using this
 have hb3:W0.cell? ⟨w.heap.size + 1 + 1 + 1,0,none⟩ = some (.slice a y.len c):=by rw [← hW0];have:=(box_cell (box_new (((w.alloc (.cells #[.bool false] 4)).alloc (.cells #[.int .i64 0] 3)).alloc (.cells #[.slice none 0 0] 65)) (.slice a y.len c) 22)).1;simpa using this
 have hbel:Below w.heap.size w W0:=by rw [← hW0];exact ((((Below.refl _ _).alloc (nl_ _) _).alloc (by simp) _).alloc (by simp;omega) _).alloc (by simp;omega) _
 rw [hW0]
 clear hW0
 refine range_law (n:=9) (gf:=178) (lb:=#[.pointer (some ⟨w.heap.size + 1 + 1,0,none⟩), .pointer (some ⟨w.heap.size + 1 + 1 + 1,0,none⟩)]) rfl enters178
  (nodes_seq (w.heap.size + 1 + 1) (w.heap.size + 1 + 1 + 1) y [] none 0 a c S W0 hb2 hb3 (by omega) (by omega) ⟨rfl,none,0,rfl,nl_ _,by simp [maxLen],fun _=>rfl, .inl rfl⟩ (hv.agree (Ag_b hbel hS)) (fun b h=>by have:=hS b h;omega) hlen hsm (by simpa using hcnt))
  NdV.E_agree NdV.E_wide (fun _=>rfl)
  (fun pre O W=>O = (fun b=>b = w.heap.size ∨ b = w.heap.size + 1)∧W.heap[w.heap.size]? = some (.cells #[.bool false] 4 (0,0))∧W.heap[w.heap.size + 1]? = some (.cells #[.int .i64 (pre.length:Int)] 3 (0,0))∧pre.length ≤ 60∧Below w.heap.size w W)
  (fun cd pre O W=>cd = .ret∧O = (fun b=>b = w.heap.size ∨ b = w.heap.size + 1)∧W.heap[w.heap.size]? = some (.cells #[.bool false] 4 (0,0))∧60 < pre.length∧Below w.heap.size w W)
  ?dep ?depx (fun b=>b = w.heap.size ∨ b = w.heap.size + 1) ?o0 ?ot ⟨rfl,hb0,hb1,by simp,hbel⟩
  (fun x _ a₁ _=>a₁ = { tmps:=#[.slice a y.len c,undef, .pointer (some ⟨w.heap.size,0,none⟩), .pointer (some ⟨w.heap.size + 1,0,none⟩), .slice a y.len c, .func (.func 178) #[] #[.pointer (some ⟨w.heap.size + 1 + 1,0,none⟩), .pointer (some ⟨w.heap.size + 1 + 1 + 1,0,none⟩)], .slice x.ua x.up.length x.uc, .agg #[.string (bs x.n), .slice x.an x.l.length x.cn, .slice x.ab x.s.len x.cb],undef,undef,undef,undef],defers:=[] })
  (fun _ _ _ _ _ h _=>h) ?assign ?body ?done ?stop
 case dep=>
  rintro pre O A B ⟨rfl,h1,h2,h3,h4⟩ e1 e2 e3 e4 hh
  have hA:=h4.size
  have l1:=(Array.getElem?_eq_some_iff.1 h1).1
  have l2:=(Array.getElem?_eq_some_iff.1 h2).1
  exact ⟨rfl,(hh _ l1 (.inl (.inl rfl))).trans h1,(hh _ l2 (.inl (.inr rfl))).trans h2,h3,e1.trans h4.os,e2.trans h4.tape,e3.trans h4.output,by omega,fun k hk=>(hh k (by omega) (.inr (by omega))).trans (h4.block k hk)⟩
 case depx=>
  rintro cd pre O A B ⟨rfl,rfl,h1,h3,h4⟩ e1 e2 e3 e4 hh
  have hA:=h4.size
  have l1:=(Array.getElem?_eq_some_iff.1 h1).1
  exact ⟨rfl,rfl,(hh _ l1 (.inl (.inl rfl))).trans h1,h3,e1.trans h4.os,e2.trans h4.tape,e3.trans h4.output,by omega,fun k hk=>(hh k (by omega) (.inr (by omega))).trans (h4.block k hk)⟩
 case o0=>
  intro b hb
  refine ⟨by omega,fun h=>?_⟩
  rcases h with h | h | h
  · have:=hS b h;omega
  · omega
  · omega
 case ot=>
  intro b h
  rcases h with h | h | h
  · have:=hS b h;omega
  · omega
  · omega
 case assign=>
  intro l m x S' W K hE hK
  gi_wp2
  exact hK _ _ (Below.refl _ _) (by simp [NdV.encs])
 case body=>
  rintro l m pre x O lo a₁ W - ⟨rfl,h1,h2,h3,hB⟩ hlo hlo2 hOlo hE rfl
  obtain ⟨c1,f1⟩:=box_cell h1
  obtain ⟨c2,f2⟩:=box_cell h2
  by_cases hlt:60 < (pre.length:Int) + 1
  · gi_wp2
    have hz1:W.heap.size ≤ ((W.setCell ⟨w.heap.size + 1,0,none⟩ (.int .i64 ((pre.length:Int) + 1))).setCell ⟨w.heap.size,0,none⟩ (.bool false)).heap.size:=by simp [World.setCell]
    refine ⟨_,⟨rfl,rfl,?_,by simp;omega,(hB.setCell (p:=⟨w.heap.size + 1,0,none⟩) (by simp) _).setCell (p:=⟨w.heap.size,0,none⟩) (nl_ _) _⟩,(Keep.setCell (O:=fun b=>b = w.heap.size ∨ b = w.heap.size + 1) (p:=⟨w.heap.size + 1,0,none⟩) (.inr rfl)).trans (Keep.setCell (p:=⟨w.heap.size,0,none⟩) (.inl rfl)),fun b hb => .inl hb⟩
    exact box_set ((Below.heap_setCell _ _ _ _ (by simp)).trans h1)
  · gi_wp2
    refine ⟨_,⟨rfl,(Below.heap_setCell _ _ _ _ (by simp)).trans h1,?_,by simp;omega,hB.setCell (p:=⟨w.heap.size + 1,0,none⟩) (by simp) _⟩,Keep.setCell (O:=fun b=>b = w.heap.size ∨ b = w.heap.size + 1) (p:=⟨w.heap.size + 1,0,none⟩) (.inr rfl),fun b hb => .inl hb,fun b hb=>?_⟩
    · have:=box_set (u := .int .i64 ((pre.length:Int) + 1)) h2
      rw [List.length_append,List.length_singleton]
      exact this
    · have:=hOlo b hb
      simp [World.setCell];omega
 case done=>
  rintro D O W ⟨rfl,h1,h2,h3,hB⟩ hD hK
  obtain ⟨c1,f1⟩:=box_cell h1
  gi_wp2
  refine ⟨by simp, .inl ⟨_,_,rfl,run_takeDeferred ((Below.heap_setCell _ _ _ _ (by simp;omega)).trans hK),?_⟩⟩
  have hbx:((W.setCell ⟨w.heap.size,0,none⟩ (.bool true)).putObj D (.deferred none)).heap[w.heap.size]? = some (.cells #[.bool true] 4 (0,0)):=(World.putObj_heap_other (by omega)).trans (box_set h1)
  have hc:=(box_cell hbx).1
  refine ⟨.bool true,by simp [results,Tryz.results94,go_sem,hc],ret_bool ?_,below_putObj (hB.setCell (p:=⟨w.heap.size,0,none⟩) (nl_ _) _) (by omega)⟩
  rw [nodesL_length] at h3
  simpa using h3
 case stop=>
  rintro D cd pre O W hp ⟨rfl,rfl,h1,h3,hB⟩ hD hK
  gi_wp2
  refine ⟨by simp, .inl ⟨_,_,rfl,run_takeDeferred hK,?_⟩⟩
  have hbx:(W.putObj D (.deferred none)).heap[w.heap.size]? = some (.cells #[.bool false] 4 (0,0)):=(World.putObj_heap_other (by omega)).trans h1
  have hc:=(box_cell hbx).1
  refine ⟨.bool false,by simp [results,Tryz.results94,go_sem,hc],ret_bool ?_,below_putObj hB (by omega)⟩
  have:=hp.length_le
  rw [nodesL_length] at this
  symm
  rw [decide_eq_false_iff_not];omega
def chkY (y:Fo):Int:=if y.cnt ≤ 60 then ordF 0 y else 2
theorem Check_any (y:Fo) (a:Option Addr) (c:Nat) (S:Nat→Prop) (w:World) (hv:FSl S w (.slice a y.len c) y) (hS:∀ b,S b→b < w.heap.size) (hlen:y.len ≤ 1000) (hsm:y.Sm) (hcnt:y.cnt ≤ 900) :
 Calls Tryz.prog 23 #[.slice a y.len c] w fun e w'=>e = .returned (.int .i64 (chkY y))∧Below w.heap.size w w':=by
 by_cases h60:y.cnt ≤ 60
 · have hd:decide (y.cnt ≤ 60) = true:=decide_eq_true h60
   go_enter Tryz.func23,Tryz.ntmps23
   go_wp2_with fail
   refine (few_any y a c S w hv hS hlen hsm hcnt).mono ?_
   rintro e w1 ⟨rfl,hb1⟩
   have hz:=hb1.size
   go_wp2_with fail
   refine (ordered_any (y.cnt + 1) y 0 a c S w1 (by omega) (by omega) (by omega) (hv.agree (Ag_b hb1 hS)) (fun b h=>by have:=hS b h;omega) hlen hsm).mono ?_
   rintro e w2 ⟨rfl,hb2⟩
   go_wp2_with fail
   go_ret
   exact ⟨ret_int (by simp [chkY,h60]),hb1.trans (hb2.mono hz)⟩
 · have hd:decide (y.cnt ≤ 60) = false:=decide_eq_false h60
   go_enter Tryz.func23,Tryz.ntmps23
   go_wp2_with fail
   refine (few_any y a c S w hv hS hlen hsm hcnt).mono ?_
   rintro e w1 ⟨rfl,hb1⟩
   go_wp2_with fail
   go_ret
   exact ⟨ret_int (by simp [chkY,h60]),hb1⟩
end Go.Proofs.LF
