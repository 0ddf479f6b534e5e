/- Parts of the proof of a law of layer 11 (file): LfYaf. The conditions stand in each theorem. -/
import Derived.Lib.AppendIntMem
import Derived.Sort.Grow
import Derived.Test.YtffjknkcogmnbaaGreatDoorProg
import Derived.Test.YtffjknkcogmnbaaGreatDoorSpaa
import Derived.Test.YtffjknkcogmnbaaGreatDoorSpag
set_option linter.all false
set_option linter.unusedVariables false
set_option linter.unusedSimpArgs false
set_option linter.all false
set_option linter.unusedVariables false
set_option linter.unusedSimpArgs false
namespace Go.Proofs.LF
open Go.RowKit Go.Sort
set_option maxHeartbeats 4000000
set_option maxRecDepth 100000
attribute [local go_sem] q1_ q2_ q6_
def Pow (w : World) : Prop := Lib.TabIs Tryz.prog w "internal/strconv.uint64pow10" .u64 Lib.pow10Tab
theorem Pow.below {w w':World} (h:Pow w) (hb:Below w.heap.size w w'):Pow w':=Lib.tabBelow_of_tabIs h w' hb
theorem wm_ (w:World) (k:Nat) (os:Array Obj):Below w.heap.size w (grow (w.drewN k) os):=
 ⟨rfl,rfl,rfl,by simp [grow,World.drewN],fun b hb=>by
   simp only [grow]
   rw [Array.getElem?_append_left (by simpa [World.drewN] using hb)]
   rfl⟩
theorem xg_ (n:Int) (h0 : -9223372036854775808 ≤ n) (h1:n ≤ 9223372036854775807) (w:World) (ht:Pow w) :
 Calls Tryz.prog 42 #[.int .i64 n] w fun e w'=>e = .returned (.string (bs (Lib.itoa n)))∧Below w.heap.size w w':=by
 refine (Tryz.strconv_Itoa n h0 h1 w ht).mono ?_
 rintro e w' ⟨rfl,k,os,rfl⟩
 exact ⟨rfl,wm_ _ _ _⟩
theorem wi_ (bk o c:Nat) (xs:List (List UInt8)) (w:World) (hcells:∀ (j:Nat) x,xs[j]? = some x→w.cell? ⟨bk,o + j,none⟩ = some (.string (bs x))) (hbk:bk < w.heap.size) (hN:xs.length ≤ 100000) (hcap:xs.length ≤ c) (hlen:(Lib.join xs [32]).length ≤ 100000000) :
 Calls Tryz.prog 44 #[.slice (some ⟨bk,o,none⟩) xs.length c] w fun e w'=>e = .returned (.string (bs (Lib.join xs [32])))∧Below w.heap.size w w':=by
 have hm:(xs.map bs).map (·.data.toList) = xs:=by
  rw [List.map_map]
  have:(fun s:ByteArray=>s.data.toList) ∘ bs = id:=by funext x;simp [xA_]
  rw [this,List.map_id]
 have hj:=Tryz.strings_Join bk o c (xs.map bs) ⟨#[32]⟩ w (fun j x hx=>by
  rw [List.getElem?_map,Option.map_eq_some_iff] at hx
  obtain ⟨z,hz,rfl⟩:=hx
  exact hcells j z hz) hbk (by rw [List.length_map];omega) (by rw [List.length_map];exact hcap) (by rw [hm];show (Lib.join xs [32]).length ≤ _;omega)
 rw [hm,List.length_map] at hj
 have HJ:=hid hj
 clear hj hm
 go_enter Tryz.func44,Tryz.ntmps44
 go_wp2_with fail
 refine HJ.out.mono ?_
 rintro e w1 ⟨rfl,hb1⟩
 go_wp2_with fail
 go_ret
 exact ⟨rfl,hb1⟩
theorem Tryz.info9:(Tryz.prog.info? 9).map (fun i=>(i.zero,i.size,i.bytes)) = some (some (.string ByteArray.empty),1,16):=by kernel_rfl
theorem xN_ (a b:List UInt8):bs a ++ bs b = bs (a ++ b):=by
 simp [bs,ByteArray.ext_iff]
theorem bs_ten (a:List UInt8):bs a ++ (⟨#[10]⟩:ByteArray) = bs (a ++ [10]):=xN_ a [10]
attribute [local go_sem] bs_ten
def wo_ (l:List (List UInt8)):List Value:=l.map fun s => .string (bs s)
theorem strsV_one (l:List (List UInt8)) (s:List UInt8):wo_ (l ++ [s]) = wo_ l ++ [.string (bs s)]:=by simp [wo_]
theorem Keep.thenO {O O':Nat→Prop} {A B C:World} (h:Keep O A B) (k:Keep O' B C) (ho:∀ j,O' j→O j ∨ A.heap.size ≤ j):Keep O A C:=
 ⟨k.os.trans h.os,k.tape.trans h.tape,k.output.trans h.output,Nat.le_trans h.size k.size,fun b hb hn=>(k.block b (Nat.lt_of_lt_of_le hb h.size) (fun h'=>by rcases ho b h' with h' | h';exact hn h';omega)).trans (h.block b hb hn)⟩
theorem Bld.below {b:Nat} {v:Value} {l:List UInt8} {W W':World} (h:Bld b v l W) (hb:Below W.heap.size W W'):Bld b v l W':=h.agree fun k hk=>hb.block k (kc_.lt h k hk)
theorem jE_ {n:List UInt8} {l:List Int} {k:Nat} (h:k < l.length):z0_ n (l.take (k + 1)) = z0_ n (l.take k) ++ [Lib.itoa l[k]]:=by
 rw [List.take_succ_eq_append_getElem h,z0_,List.map_append];rfl
theorem xS_ (y:Fo) (a:Option Addr) (c:Nat) (S:Nat→Prop) (w:World) (hv:FSl S w (.slice a y.len c) y) (hS:∀ b,S b→b < w.heap.size) (hlen:y.len ≤ 1000) (hsm:y.Sm) (hcnt:y.cnt ≤ 900) (ht:Pow w) :
 Calls Tryz.prog 10 #[.slice a y.len c] w fun e w'=>e = .returned (.tuple #[.string (bs (if qz_ y = 0 then kN_ (qa_ [] y) else [])), .int .i64 (qz_ y)])∧Below w.heap.size w w':=by
 refine (callsIn_wide (n:=9)).1 ?_
 refine callsIn_of_wp_marks Tryz.func10 rfl trivial ?_ rfl
 simp only [Tryz.ntmps10,List.size_toArray,List.length_cons,List.length_nil,Nat.reduceAdd,Nat.reduceSub,Array.replicate_succ,Array.replicate_zero,List.push_toArray,List.append_toArray,List.nil_append,List.cons_append]
 have HC:=hid (za_ y a c S w hv hS hlen hsm hcnt)
 obtain ⟨i9,hi9,hz91,hz92,hz93⟩:=info_parts Tryz.info9
 by_cases h0:qz_ y = 0
 · have h0':(qz_ y != 0) = false:=by simpa using h0
   have H0:=hid h0
   clear h0
   gi_wp2_with fail
   refine ⟨trivial,?_⟩
   gi_at_call 39
   refine (callsIn_wide.2 HC.out).mono ?_
   rintro e w1 ⟨rfl,hb1⟩
   gi_wp2_with fail
   refine ⟨trivial,?_⟩
   gi_at_call 40
   refine (callsIn_wide.2 (kj_ _ _ _ _ _ _ _)).mono ?_
   rintro e w' ⟨rfl,rfl⟩
   gi_wp2_with fail
   obtain ⟨W0,hW0⟩:∃ W0,(((w1.alloc (.cells #[.pointer none, .slice none 0 0] 113)).alloc (.cells #[.slice none 0 0] 92)).alloc (.cells #[.slice a y.len c] 38)) = W0:=⟨_,rfl⟩
   have hz:W0.heap.size = w1.heap.size + 3:=by rw [← hW0];simp
   have hz1:=hb1.size
   have hb0:W0.heap[w1.heap.size]? = some (.cells #[.pointer none, .slice none 0 0] 113 (0,0)):=by rw [← hW0];exact qc_ _ (qc_ _ (World.alloc_heap_new _ _))
   have hb2:W0.cell? ⟨w1.heap.size + 1,0,none⟩ = some (.slice none 0 0):=by rw [← hW0];have:=(qE_ (qc_ (.cells #[.slice a y.len c] 38) (zL_ (w1.alloc (.cells #[.pointer none, .slice none 0 0] 113)) (.slice none 0 0) 92))).1;simpa using this
   have hb3:W0.cell? ⟨w1.heap.size + 1 + 1,0,none⟩ = some (.slice a y.len c):=by rw [← hW0];have:=(qE_ (zL_ ((w1.alloc (.cells #[.pointer none, .slice none 0 0] 113)).alloc (.cells #[.slice none 0 0] 92)) (.slice a y.len c) 38)).1;simpa using this
   have hbel:Below w.heap.size w W0:=by rw [← hW0];exact ((hb1.alloc hz1 _).alloc (by simp;omega) _).alloc (by simp;omega) _
   rw [hW0]
   clear hW0
   refine kh_ (n:=9) (gf:=87) (lb:=#[.pointer (some ⟨w1.heap.size + 1,0,none⟩), .pointer (some ⟨w1.heap.size + 1 + 1,0,none⟩)]) rfl vN_
    (vr_ (w1.heap.size + 1) (w1.heap.size + 1 + 1) y [] none 0 a c S W0 hb2 hb3 (by omega) (by omega) ⟨rfl,none,0,rfl,nl_ _,by simp [maxLen],fun _=>rfl, .inl rfl⟩ (hv.agree (q9_ hbel hS)) (fun b h=>by have:=hS b h;omega) hlen hsm (by simpa using hcnt))
    NdV.E_agree NdV.E_wide (fun _=>rfl)
    (fun pre O W=>∃ v,O = kc_ w1.heap.size v∧Bld w1.heap.size v (kN_ pre) W∧Below w.heap.size w W)
    (fun cd pre O W=>False)
    ?dep ?depx (kc_ w1.heap.size (.slice none 0 0)) ?o0 ?ot ⟨_,rfl,⟨_, .inl rfl,hb0,World.ownsRow_nil _ _ _ _,by simp [Value.ownBlock]⟩,hbel⟩
    (fun x lo a₁ A=>∃ B,lo ≤ B∧A.heap[B]? = some (.cells #[.string (bs x.n), .slice x.an x.l.length x.cn, .slice x.ab x.s.len x.cb] 109 (0,0))∧a₁ = { tmps:=#[.slice a y.len c,undef, .string ⟨#[]⟩, .int .i64 0, .int .i64 (qz_ y), .pointer (some ⟨w1.heap.size,0,none⟩), .slice x.ua x.up.length x.uc, .pointer (some ⟨B,0,none⟩),undef,undef,undef, .slice a y.len c, .int .i64 (qz_ y), .int .i64 (qz_ y), .bool false,undef, .slice a y.len c, .func (.func 87) #[] #[.pointer (some ⟨w1.heap.size + 1,0,none⟩), .pointer (some ⟨w1.heap.size + 1 + 1,0,none⟩)], .slice x.ua x.up.length x.uc, .agg #[.string (bs x.n), .slice x.an x.l.length x.cn, .slice x.ab x.s.len x.cb],undef,undef,undef,undef,undef,undef,undef,undef,undef,undef,undef,undef,undef,undef,undef,undef,undef,undef,undef,undef,undef,undef,undef,undef,undef,undef,undef],defers:=[] })
    ?a1 ?assign ?body ?done ?stop
   case dep=>
    rintro pre O A B ⟨v,rfl,h1,h4⟩ e1 e2 e3 e4 hh
    have hA:=h4.size
    refine ⟨v,rfl,h1.agree fun k hk=>hh k (kc_.lt h1 k hk) (.inl hk),e1.trans h4.os,e2.trans h4.tape,e3.trans h4.output,by omega,fun k hk=>(hh k (by omega) (.inr (by omega))).trans (h4.block k hk)⟩
   case depx=>rintro cd pre O A B h;exact h.elim
   case o0=>
    rintro b (rfl | hb)
    · refine ⟨by omega,fun h=>?_⟩
      rcases h with h | h | h
      · have:=hS _ h;omega
      · omega
      · omega
    · simp [Value.ownBlock] at hb
   case ot=>
    intro b h
    rcases h with h | h | h
    · have:=hS b h;omega
    · omega
    · omega
   case a1=>
    rintro x lo a₁ A B ⟨k,h1,h2,h3⟩ hh
    exact ⟨k,h1,(hh k h1).trans h2,h3⟩
   case assign=>
    intro l m x S' W K hE hK
    refine Eq.mpr (congrArg (fun T=>Code.wpIn (Fence.wide.inRound l) m Tryz.prog _ _ { tmps:=T,defers:=[] } W) (?_:_ = #[.slice a y.len c,undef, .string ⟨#[]⟩, .int .i64 0, .int .i64 (qz_ y), .pointer (some ⟨w1.heap.size,0,none⟩),undef,undef,undef,undef,undef, .slice a y.len c, .int .i64 (qz_ y), .int .i64 (qz_ y), .bool false,undef, .slice a y.len c, .func (.func 87) #[] #[.pointer (some ⟨w1.heap.size + 1,0,none⟩), .pointer (some ⟨w1.heap.size + 1 + 1,0,none⟩)], .slice x.ua x.up.length x.uc, .agg #[.string (bs x.n), .slice x.an x.l.length x.cn, .slice x.ab x.s.len x.cb],undef,undef,undef,undef,undef,undef,undef,undef,undef,undef,undef,undef,undef,undef,undef,undef,undef,undef,undef,undef,undef,undef,undef,undef,undef,undef,undef])) ?_
    · simp [NdV.encs]
    gi_wp2_with (rw [Oper.semAt_eq _ _ _ (fun c h=>by cases h)];go_simp;try go_bits)
    refine hK _ _ ((Below.refl _ _).alloc (nl_ _) _) ⟨W.heap.size,nl_ _,ha_ _ _,?_⟩
    rfl
   case body=>
    rintro l m pre x O lo a₁ W hpx ⟨v,rfl,hbl,hB⟩ hlo hlo2 hOlo hE ⟨B,hBlo,hBc,rfl⟩
    have hE':=hid hE
    obtain ⟨hup,hI,hF,n1,n2,n3,n4,n5⟩:=hE
    have hx:x.dat ∈ qa_ [] y:=hpx.subset (by simp)
    have hord:zD_ geK 0 none y = 0:=by
     have:=H0.out
     simp only [qz_,ordF] at this
     split at this
     · exact this
     · omega
    have hok:=kC_ y _ _ [] hord
    have hox:=hok _ hx
    have hpl:(kN_ pre).length ≤ 930 * pre.length:=jL_ pre fun z hz=>by
     have hz2:=hpx.subset (List.mem_append_left _ hz)
     have:=zF_ y [] z hz2
     exact ⟨hok z hz2,by simp at this;omega⟩
    have hpl2:pre.length ≤ 900:=by
     have:=hpx.length_le
     rw [qr_] at this
     simp at this;omega
    have HP:=hid (show (kN_ pre).length ≤ 837000 by omega)
    have HX:=hid hox
    have hu9:x.up.length ≤ 900:=n5
    clear hok hord hx hpl hpl2 hox
    have hBlt:=(ge_ hBc).1
    have hBO:¬ kc_ w1.heap.size v B:=fun h=>by have:=hOlo _ h;omega
    have HO:=hid hOlo
    have HB:=hid hB
    have HBL:=hid hbl
    have hIc:=hid hI
    clear hOlo hB hup hI hF hE' n1 n3 n4 n5
    gi_wp2_with (rw [Oper.semAt_eq _ _ _ (fun c h=>by cases h)];go_simp;try go_bits)
    gi_loopw [22] (fun i wr=>∃ (k:Nat) (v':Value),k ≤ x.up.length∧i = .int .i64 k∧Hid (Bld w1.heap.size v' (kN_ pre ++ List.replicate k 32) wr)∧Hid (Keep (kc_ w1.heap.size v) W wr)∧Hid (∀ j,kc_ w1.heap.size v' j→kc_ w1.heap.size v j ∨ W.heap.size ≤ j)) (fun i _=>x.up.length - (intOf i).toNat)
    case atStart=>exact ⟨0,v,by omega,rfl,by simpa [Hid] using HBL.out,Keep.refl _ _,fun j h => .inl h⟩
    case round=>
     obtain ⟨k,v',hk,rfl,hb',hkp,hj⟩:=hrel
     by_cases hlt:k < x.up.length
     · gi_wp2_with (first | ((first | refine ⟨trivial,fun h=>(by cases h),?_⟩ | refine ⟨trivial,?_⟩ | skip);gi_at_call 41;refine (CallsIn.inRound l (callsIn_wide.2 (xm_ w1.heap.size v' _ 32 wr hb'.out (by have:=HP.out;simp;omega)))).mono ?_;rintro e w2 ⟨rfl,v2,hb2,hkp2,hj2⟩) | (rw [Oper.semAt_eq _ _ _ (fun c h=>by cases h)];go_simp;try go_bits))
       have hz2:=hkp.out.size
       gi_wp2_with (rw [Oper.semAt_eq _ _ _ (fun c h=>by cases h)];go_simp;try go_bits)
       go_roundw
       case rel=>
        refine ⟨k + 1,v2,by omega,by go_num,?_,?_,?_⟩
        · rw [List.replicate_succ'];simpa [Hid] using hb2
        · exact hkp.out.thenO hkp2 hj.out
        · intro j hj3
          rcases hj2 j hj3 with h | h
          · exact hj.out j h
          · exact .inr (by omega)
       case measure=>simp [intOf];omega
     · obtain rfl:k = x.up.length:=by omega
       have hz3:=hkp.out.size
       have hBc2:wr.heap[B]? = some (.cells #[.string (bs x.n), .slice x.an x.l.length x.cn, .slice x.ab x.s.len x.cb] 109 (0,0)):=(hkp.out.block B hBlt hBO).trans hBc
       have c0:wr.cell? ⟨B,0,none⟩ = some (.string (bs x.n)):=by simp [World.cell?,hBc2]
       have c1:(wr.alloc (.cells #[.string (bs x.n)] 9)).cell? ⟨B,1,none⟩ = some (.slice x.an x.l.length x.cn):=bc_ ((Below.refl _ _).alloc (nl_ _) _) (by omega) (by simp [World.cell?,hBc2])
       have hIr:Hid (qF_ (fun b=>b < lo∧¬kc_ w1.heap.size v b) wr (.slice x.an x.l.length x.cn) x.l):=hIc.out.agree (hkp.out.agree fun b hb=>⟨by omega,hb.2⟩)
       have HBW:Hid (Below w.heap.size w wr):=HB.out.trans (hkp.out.below (by have:=HB.out.size;omega) fun b hb ho=>by have:=kc_.ge HBL.out b ho;omega)
       clear hBc2 hIc
       obtain ⟨wA,rfl⟩:∃ wA,wA = wr:=⟨_,rfl⟩
       gi_wp2_with (rw [Oper.semAt_eq _ _ _ (fun c h=>by cases h)];go_simp;try go_bits)
       gi_loopw [8,32] (fun wv i w3=>∃ (k:Nat),k ≤ x.l.length∧i = .int .i64 k∧Hid (w3.ownsRow wA.heap.size 9 1 wv (k + 1) (wo_ (z0_ x.n (x.l.take k))))∧Hid (Below wA.heap.size wA w3)) (fun _ i _=>x.l.length - (intOf i).toNat)
       case atStart=>
        refine ⟨0,by omega,rfl,?_,(Below.refl _ _).alloc (nl_ _) _⟩
        exact qB_ (cur:=#[.string (bs x.n)]) (nl_ _) (ha_ _ _) (by omega) (by unfold maxLen;omega) (by simp) (by simp [wo_,z0_])
       case round=>
        obtain ⟨k,hk,rfl,hown,hbw⟩:=hrel
        by_cases hlt2:k < x.l.length
        · obtain ⟨g,o,he,hSg,_,_,hcell⟩:=SlC.cells hIr.out (by omega)
          have hcc:=(q9_ hbw.out (fun b hb=>by have:=hb.1;omega:∀ b,(b < lo∧¬kc_ w1.heap.size v b)→b < _)).cell hSg (hcell k (.int .i64 x.l[k]) (by simp [hlt2]))
          have hb01:=kl_ HX.out.2.2 x.l[k] (by show x.l[k] ∈ x.l;simp)
          have HPW:Hid (Pow wr):=(ht.below (HBW.out.trans (hbw.out.mono (by have:=HBW.out.size;omega))))
          clear hcell
          have i1:(0:Int) ≤ (k:Int):=by omega
          have i2:(k:Int) < (x.l.length:Int):=by omega
          rw [he]
          gi_wp2_with (first
           | (rw [Oper.semAt_eq _ _ _ (fun c h=>by cases h)];go_simp;try go_bits)
           | ((first | refine ⟨trivial,fun h=>(by cases h),?_⟩ | refine ⟨trivial,?_⟩ | skip);gi_at_call 42;refine (CallsIn.inRound l (callsIn_wide.2 (xg_ _ (by omega) (by omega) _ HPW.out))).mono ?_;rintro e w4 ⟨rfl,hb4⟩)
           | (gi_at_builtin;refine wpListIn_append_own _ rfl _ _ 120 rfl _ 9 i9 _ 1 16 Tryz.underlying120 hi9 hz91 hz92 hz93 rfl (by omega) _ _ _ rfl ((ob_ hown.out hb4 (nl_ _)).alloc _) ⟨w4.heap.size,0,none⟩ 1 1 [.string (bs (Lib.itoa x.l[k]))] rfl rfl (World.news_of_block (cs:=#[.string (bs (Lib.itoa x.l[k]))]) (t:=9) (fr:=(0,0)) (ha_ _ _)) (by simp [Value.oneCell']) (by unfold maxLen;omega) (by omega) (by have:=hb4.size;have:=hbw.out.size;simp;omega) ?_;intro v5 w5 hown5 hgrow5 hnil5)
           | (rw [Oper.semAt_eq _ _ _ (fun c h=>by cases h)];go_simp;try go_bits))
          go_roundw
          case rel=>
           refine ⟨k + 1,by omega,by go_num,?_,?_⟩
           · rw [jE_ hlt2,strsV_one];exact hown5
           · exact hbw.out.trans ((((Below.refl _ _).trans (hb4.mono hbw.out.size)).alloc (by have:=hb4.size;have:=hbw.out.size;omega) _).grown hgrow5 (by have:=hb4.size;have:=hbw.out.size;simp;omega) (fun k hk=>(hown.out.lt k hk).1))
          case measure=>simp [intOf];omega
        · obtain rfl:k = x.l.length:=by omega
          obtain ⟨g2,cap2,rfl,hg2,hg2b⟩:=hown.out.form (by omega)
          have hcells:=hown.out.cells (g:=g2) rfl
          have hcapx:x.l.length + 1 ≤ cap2:=by
           rcases hown.out.2 with ⟨h,_⟩ | ⟨g',cap',cur,hv,hb,hg,hr,_⟩
           · cases h
           · cases hv;exact hr
          have hjl:(ze_ x.dat).length ≤ 930:=jV_ HX.out hu9
          have hjn:=wi_ g2 0 cap2 (z0_ x.n x.l) wr (fun j s hs=>by
           have:=hcells j (.string (bs s)) (by rw [List.take_length,wo_,List.getElem?_map,hs];rfl)
           rw [Nat.zero_add];simpa [Addr.add_lit] using this) hg2b (by simp [z0_];omega) (by simp [z0_];omega) (by simp only [ze_,List.length_append] at hjl;have e1:x.dat.n = x.n:=rfl;have e2:x.dat.l = x.l:=rfl;rw [e1,e2] at hjl;omega)
          rw [show (z0_ x.n x.l).length = x.l.length + 1 by simp [z0_]] at hjn
          have HJN:=hid hjn
          have hwl:(Lib.join (z0_ x.n x.l) [32] ++ [10]).length ≤ 930:=by
           simp only [ze_,List.length_append] at hjl ⊢;have e1:x.dat.n = x.n:=rfl;have e2:x.dat.l = x.l:=rfl;rw [e1,e2] at hjl;omega
          have HWL:=hid hwl
          have hng:¬ 9223372036854775807 < (Lib.join (z0_ x.n x.l) [32]).length + 1:=by simp only [List.length_append,List.length_singleton] at hwl;omega
          have hbA:=hb'.out.below hbw.out
          have HBA:=hid hbA
          clear hjn hcells hjl hwl hbA hIr
          gi_wp2_with (first | (rw [Oper.semAt_eq _ _ _ (fun c h=>by cases h)];go_simp;try go_bits) | ((first | refine ⟨trivial,fun h=>(by cases h),?_⟩ | refine ⟨trivial,?_⟩ | skip);gi_at_call 44;refine (CallsIn.inRound l (callsIn_wide.2 HJN.out)).mono ?_;rintro e w5 ⟨rfl,hb5⟩))
          refine ⟨trivial,fun h=>(by cases h),?_⟩
          refine (CallsIn.inRound l (callsIn_wide.2 (qN_ w1.heap.size v' _ (Lib.join (z0_ x.n x.l) [32] ++ [10]) w5 (HBA.out.below hb5) (by have:=HP.out;simp;omega) (by have:=HWL.out;omega)))).mono ?_
          rintro e w6 ⟨rfl,v6,hb6,hk6,hj6⟩
          gi_wp2_with (rw [Oper.semAt_eq _ _ _ (fun c h=>by cases h)];go_simp;try go_bits)
          have hz7:=hbw.out.size
          have hz8:=hb5.size
          have hkW:Keep (kc_ w1.heap.size v) W w6:=((hkp.out.thenO (O':=fun _=>False) (Keep.of_below hbw.out) (fun _ h=>h.elim)).thenO (O':=fun _=>False) (Keep.of_below hb5) (fun _ h=>h.elim)).thenO hk6 hj.out
          refine ⟨_,⟨v6,rfl,?_,?_⟩,hkW,?_,?_⟩
          · have e:kN_ (pre ++ [x.dat]) = (kN_ pre ++ List.replicate x.up.length 32) ++ (Lib.join (z0_ x.n x.l) [32] ++ [10]):=by
             rw [txtL_one,ze_,List.append_assoc];rfl
            rw [e];exact hb6
          · exact HB.out.trans (hkW.below (by have:=HB.out.size;omega) fun b hb ho=>by have:=kc_.ge HBL.out b ho;omega)
          · intro b hb
            rcases hj6 b hb with h | h
            · exact hj.out b h
            · exact .inr (by omega)
          · exact kc_.lt hb6
   case done=>
    rintro D O W ⟨v,rfl,hbl,hB⟩ hD hK
    gi_wp2_with fail
    refine ⟨trivial,?_⟩
    gi_at_call 45
    refine (callsIn_wide.2 (Tryz.Builder_String_any_k _ _ _ _ (Lib.IsBuilderF.of hbl.is) (Nat.le_of_lt hbl.lt))).mono ?_
    rintro e W2 ⟨rfl,_,hbw,hok⟩
    have hK2:=hok _ _ hK (by simp;omega) (by intro c fz h;cases h)
    have hbw2:Below w.heap.size W W2:=hbw.mono hz1
    clear hbw hok
    gi_wp2_with fail
    refine ⟨by simp, .inl ⟨_,_,rfl,run_takeDeferred hK2,?_⟩⟩
    exact ⟨.tuple #[.string (bs (kN_ (qa_ [] y))), .int .i64 0],by simp [results,Tryz.results10,go_sem,bs],by simp,z3_ (hB.trans hbw2) (by omega)⟩
   case stop=>rintro D cd pre O W hp h;exact h.elim
 · have h0':(qz_ y != 0) = true:=by simpa using h0
   have H0:=hid h0
   clear h0
   gi_wp2_with fail
   refine ⟨trivial,?_⟩
   gi_at_call 39
   refine (callsIn_wide.2 HC.out).mono ?_
   rintro e w1 ⟨rfl,hb1⟩
   gi_wp2_with fail
   exact ⟨.tuple #[.string (bs []), .int .i64 (qz_ y)],by simp [results,Tryz.results10,go_sem,bs],rfl,hb1⟩
end Go.Proofs.LF