/- Parts of the proof of a law of layer 11 (file): LfYal, LfYam. The conditions stand in each theorem. -/
import Derived.Shelf.SlSortCmp.NoneTotal
import Derived.Shelf.SlSortCmp.Whole1
import Derived.Test.YtffjknkcogmnbaaGreatDoorProg
import Derived.Test.YtffjknkcogmnbaaGreatDoorTyaa
import Derived.Test.YtffjknkcogmnbaaGreatDoorTyac
import Derived.Test.YtffjknkcogmnbaaGreatDoorTyae
import Derived.Test.YtffjknkcogmnbaaGreatDoorTyah
import Derived.Test.YtffjknkcogmnbaaGreatDoorTyai
import Derived.Test.YtffjknkcogmnbaaGreatDoorTyak
import Derived.Test.YtffjknkcogmnbaaGreatDoorTyal
import Derived.Test.YtffjknkcogmnbaaGreatDoorTyam
import Derived.Test.YtffjknkcogmnbaaGreatDoorTyan
set_option linter.all false
set_option linter.unusedVariables false
set_option linter.unusedSimpArgs false
set_option linter.all false
set_option linter.unusedVariables false
set_option linter.unusedSimpArgs false
namespace Go.Proofs.LF
open Go.RowKit Go.Sort
set_option maxHeartbeats 4000000
set_option maxRecDepth 100000
attribute [local go_sem] q1_ q2_ q8_
abbrev PthU (S:Nat→Prop) (w:World) (v:Value) (p:List Ky):Prop:=Pth (US S w) w v p
theorem PthU.agree {S:Nat→Prop} {w w':World} {v:Value} {p:List Ky} (h:PthU S w v p) (ha:qg_ S w w'):PthU S w' v p:=(Pth.agree h (US.agree ha).1).wide (US.agree ha).2
theorem PthU.wide {S S':Nat→Prop} {w:World} {v:Value} {p:List Ky} (h:PthU S w v p) (hs:∀ b,S b→S' b):PthU S' w v p:=Pth.wide h (US.wide hs)
theorem zJ_ {p:List Ky} {k:Nat} (h:k < p.length):(p.flatMap Ky.cells)[k * 3]? = some (.string (bs p[k].n))∧(p.flatMap Ky.cells)[k * 3 + 1]? = some (.bool p[k].h)∧(p.flatMap Ky.cells)[k * 3 + 2]? = some (.int .i64 p[k].x):=by
 have e:p.flatMap Ky.cells = (p.take k).flatMap Ky.cells ++ (Ky.cells p[k] ++ (p.drop (k + 1)).flatMap Ky.cells):=by
  conv=>lhs;rw [← List.take_append_drop k p,List.drop_eq_getElem_cons h]
  rw [List.flatMap_append,List.flatMap_cons]
 have hl:((p.take k).flatMap Ky.cells).length = k * 3:=by rw [zx_,List.length_take];congr 1;omega
 rw [e]
 refine ⟨?_,?_,?_⟩ <;> rw [List.getElem?_append_right (by omega),hl] <;> simp [Ky.cells]
theorem xS_ (p q:List Ky) (ap aq:Option Addr) (cp cq:Nat) (S:Nat→Prop) (w:World) (hp:Pth S w (.slice ap p.length cp) p) (hq:Pth S w (.slice aq q.length cq) q) (hS:∀ b,S b→b < w.heap.size) (lp:p.length ≤ 1000) (lq:q.length ≤ 1000) :
 Calls Tryz.prog 80 #[.slice ap p.length cp, .slice aq q.length cq, .func (.func 81) #[] #[]] w fun e w'=>e = .returned (.int .i64 (cmpP p q))∧Below w.heap.size w w':=by
 go_enter Tryz.func80,Tryz.ntmps80
 go_wp2_with fail
 go_loopw [13] (fun i wr=>∃ k:Nat,k ≤ p.length∧k ≤ q.length∧i = .int .i64 k∧Hid (cmpP p q = cmpP (p.drop k) (q.drop k))∧Below w.heap.size w wr) (fun i _=>p.length - (intOf i).toNat)
 case atStart=>exact ⟨0,by omega,by omega,rfl,by simp [Hid],Below.refl _ _⟩
 case round=>
  obtain ⟨k,hk,hk2,rfl,hN,hB⟩:=hrel
  have hsz:=hB.size
  by_cases hA:k < p.length
  · obtain ⟨g,o,rfl,hg,_,_,hcell⟩:=SlC.cells hp (by omega)
    obtain ⟨k0,k1,k2⟩:=zJ_ hA
    have ha:=qc_ hB hS
    have c0:=ha.cell hg (hcell _ _ k0)
    have c1:=ha.cell hg (hcell _ _ k1)
    have c2:=ha.cell hg (hcell _ _ k2)
    rw [← Nat.add_assoc] at c1 c2
    by_cases hB2:k < q.length
    · have a2:¬ (q.length:Int) ≤ (k:Int):=by omega
      have a3:(k:Int) < (q.length:Int):=by omega
      obtain ⟨g',o',rfl,hg',_,_,hcell'⟩:=SlC.cells hq (by omega)
      obtain ⟨k0',k1',k2'⟩:=zJ_ hB2
      have hbx:Below w.heap.size w (wr.alloc (.cells #[.string (bs p[k].n), .bool p[k].h, .int .i64 p[k].x] 96)):=hB.alloc hsz _
      have hax:=qc_ hbx hS
      have d0:=hax.cell hg' (hcell' _ _ k0')
      have d1:=hax.cell hg' (hcell' _ _ k1')
      have d2:=hax.cell hg' (hcell' _ _ k2')
      rw [← Nat.add_assoc] at d1 d2
      have hd:cmpP (p.drop k) (q.drop k) = if byK p[k] q[k] ≠ 0 then byK p[k] q[k] else cmpP (p.drop (k + 1)) (q.drop (k + 1)):=by
       rw [List.drop_eq_getElem_cons hA,List.drop_eq_getElem_cons hB2];rfl
      have HD:=hid hd
      have HBX:=hid hbx
      clear hcell k0 k1 k2 hcell' k0' k1' k2' hd hbx hax
      go_wp2_with fail
      refine (xB_ p[k] q[k] _).mono ?_
      rintro e w2 ⟨rfl,hb2⟩
      have hz2:=HBX.out.size
      have HB2:=hid (HBX.out.trans ((((Below.refl _ _).alloc (nl_ _) _).trans (hb2.mono (by simp))).mono hz2))
      clear hz2 hb2
      by_cases he:byK p[k] q[k] = 0
      · have he':(byK p[k] q[k] != 0) = false:=by simpa using he
        have HE:=hid he
        clear he
        go_wp2_with fail
        go_roundw
        case rel=>exact ⟨k + 1,by omega,by omega,by go_num,by rw [Hid,hN.out,HD.out,if_neg (by simpa using HE.out)],HB2.out⟩
        case measure=>simp [intOf];omega
      · have he':(byK p[k] q[k] != 0) = true:=by simpa using he
        have HE:=hid he
        clear he
        go_wp2_with fail
        go_ret
        exact ⟨qd_ (by rw [hN.out,HD.out,if_pos (by simpa using HE.out)]),HB2.out⟩
    · have a2:(q.length:Int) ≤ (k:Int):=by omega
      have hd:cmpP (p.drop k) (q.drop k) = 1:=by
       rw [List.drop_eq_getElem_cons hA,List.drop_eq_nil_of_le (by omega:q.length ≤ k)];rfl
      clear hcell k0 k1 k2
      go_wp2_with fail
      go_ret
      exact ⟨qd_ (by rw [hN.out,hd]),hB.alloc hsz _⟩
  · have hA':¬ (k:Int) < (p.length:Int):=by omega
    obtain rfl:k = p.length:=by omega
    by_cases hB2:p.length < q.length
    · have a2:(p.length:Int) < (q.length:Int):=by omega
      have hd:cmpP (p.drop p.length) (q.drop p.length) = -1:=by
       rw [List.drop_eq_getElem_cons hB2,List.drop_length];rfl
      go_wp2_with fail
      go_ret
      exact ⟨qd_ (by rw [hN.out,hd]),hB⟩
    · have a2:¬ (p.length:Int) < (q.length:Int):=by omega
      have hd:cmpP (p.drop p.length) (q.drop p.length) = 0:=by
       rw [List.drop_length,List.drop_eq_nil_of_le (by omega)];rfl
      go_wp2_with fail
      go_ret
      exact ⟨qd_ (by rw [hN.out,hd]),hB⟩
theorem kw_ (p q:List Ky) (ap aq:Option Addr) (cp cq:Nat) (S:Nat→Prop) (w:World) (hp:Pth S w (.slice ap p.length cp) p) (hq:Pth S w (.slice aq q.length cq) q) (hS:∀ b,S b→b < w.heap.size) (lp:p.length ≤ 1000) (lq:q.length ≤ 1000) :
 Calls Tryz.prog 36 #[.slice ap p.length cp, .slice aq q.length cq] w fun e w'=>e = .returned (.int .i64 (cmpP p q))∧Below w.heap.size w w':=by
 have H:=hid (xS_ p q ap aq cp cq S w hp hq hS lp lq)
 go_enter Tryz.func36,Tryz.ntmps36
 go_wp2_with fail
 refine H.out.mono ?_
 rintro e w1 ⟨rfl,hb1⟩
 go_wp2_with fail
 go_ret
 exact ⟨rfl,hb1⟩
end Go.Proofs.LF
namespace Go.Proofs.LF
theorem km_ {p:UInt8→Bool}:∀ {a b:List UInt8} {m:Nat},(∀ c ∈ a,p c = true)→a.length ≤ m→(a.length = m ∨ ∀ c,b.head? = some c→p c = false)→qC_ p m (a ++ b) = a.length
 | [],b,0,_,_,_=>by simp [qC_]
 | [],[],m + 1,_,_,_=>by simp [qC_]
 | [],c :: b,m + 1,_,_,h=>by
   have h:=h.resolve_left (by simp) c rfl
   simp [qC_,h]
 | c :: a,b,0,_,h,_=>by simp at h
 | c :: a,b,m + 1,h1,h2,h3=>by
   have hc:=h1 c (by simp)
   simp only [List.length_cons] at h2 h3
   simp only [List.cons_append,qC_,hc,if_true,List.length_cons]
   rw [km_ (fun d hd=>h1 d (by simp [hd])) (by omega) (h3.imp (fun h=>by omega) id)]
theorem jU_:∀ (m u:Nat),u < m→0 < u→∃ c r,Lib.decDigits u = c :: r∧c ≠ 48
 | 0,_,h,_=>by omega
 | m + 1,u,h,h0=>by
   rw [Lib.decDigits]
   by_cases hu:u < 10
   · rw [dif_pos hu]
     refine ⟨_,[],rfl,fun e=>?_⟩
     have:=congrArg UInt8.toNat e
     rw [UInt8.toNat_ofNat'] at this
     simp at this
     omega
   · rw [dif_neg hu]
     obtain ⟨c,r,h1,h2⟩:=jU_ m (u / 10) (by omega) (by omega)
     rw [h1]
     exact ⟨c,_,rfl,h2⟩
theorem itoa_rd {x:Int} (h0:0 ≤ x) (h1:x ≤ 9999) (T:List UInt8) (hT:∀ c,T.head? = some c→qH_ c = false):qC_ qH_ (zp_ (Lib.itoa x ++ T)) (Lib.itoa x ++ T) = (Lib.itoa x).length∧(Lib.itoa x).length ≠ 0∧(xU_ (Lib.itoa x):Int) = x:=by
 have hx:Lib.itoa x = Lib.decDigits x.toNat:=by unfold Lib.itoa;rw [if_neg (by omega)]
 obtain ⟨d1,d2⟩:=kT_ (x.toNat + 1) x.toNat (by omega)
 have hl:=ke_ h0 h1
 rw [hx] at hl ⊢
 by_cases hz:x.toNat = 0
 · rw [hz] at d1 d2 hl ⊢
   have e:Lib.decDigits 0 = [48]:=by rw [Lib.decDigits];rfl
   rw [e] at d1 d2 ⊢
   refine ⟨?_,by simp,by rw [d1];omega⟩
   rw [show zp_ ([48] ++ T) = 1 by simp [zp_]]
   exact km_ (a:=[48]) d2 (by simp) (.inl rfl)
 · obtain ⟨c,r,e,hc⟩:=jU_ (x.toNat + 1) x.toNat (by omega) (by omega)
   refine ⟨?_,by rw [e];simp,by rw [d1];omega⟩
   have hm:zp_ (Lib.decDigits x.toNat ++ T) = 4:=by
    rw [zp_,if_neg (by rw [e];simpa using hc)]
   rw [hm]
   exact km_ d2 hl (.inr hT)
theorem vJ_ {rest:List UInt8}:∀ (l:List Int) (m:Nat),(∀ x ∈ l,0 ≤ x∧x ≤ 9999)→l.length ≤ m→qo_ m ((l.map fun i=>32 :: Lib.itoa i).flatten ++ 10 :: rest) = (l,(l.map fun i=>32 :: Lib.itoa i).flatten.length,true)
 | [],0,_,_=>by simp [qo_]
 | [],m + 1,_,_=>by simp [qo_,qC_,qt_]
 | x :: l,0,_,h=>by simp at h
 | x :: l,m + 1,h,hl=>by
   have hx:=h x (by simp)
   have ih:=vJ_ (rest:=rest) l m (fun z hz=>h z (by simp [hz])) (by simpa using hl)
   simp only [List.map_cons,List.flatten_cons,List.append_assoc,List.cons_append]
   obtain ⟨T,hT⟩:∃ T,(l.map fun i=>32 :: Lib.itoa i).flatten ++ 10 :: rest = T:=⟨_,rfl⟩
   rw [hT] at ih ⊢
   have hTd:∀ c,T.head? = some c→qH_ c = false:=by
    intro c hc
    rw [← hT] at hc
    cases l with
    | nil=>simp at hc;subst hc;decide
    | cons z l=>simp at hc;subst hc;decide
   obtain ⟨i1,i2,i3⟩:=itoa_rd hx.1 hx.2 T hTd
   have hb:qC_ qt_ 1 (32 :: (Lib.itoa x ++ T)) ≠ 0:=by simp [qC_,qt_]
   rw [qo_]
   simp only [List.drop_succ_cons,List.drop_zero]
   rw [if_neg hb,i1,if_neg i2,List.take_left,List.drop_left,ih,i3]
   simp only [List.length_cons,List.length_append,Prod.mk.injEq,and_true,true_and]
   omega
theorem jJ_ {n:List UInt8} (h:zI_ n = false):∀ c ∈ n,qM_ c = true:=by
 intro c hc
 simp only [zI_,Bool.or_eq_false_iff,List.any_eq_false,Bool.or_eq_true,decide_eq_true_eq,not_or] at h
 have:=h.1.1 c hc
 simp only [qM_,inB,Bool.and_eq_true,decide_eq_true_eq]
 omega
theorem yR_ {x:NdD} (hx:OkN x) {dp:Nat} (hd:x.up.length ≤ dp) (rest:List UInt8):rdLine dp (zi_ x ++ rest) = (x.up.length,x.n,x.l,(zi_ x).length - 1,true):=by
 obtain ⟨h1,h2,h3⟩:=hx
 have hl:=vo_ h1
 have hs:=jJ_ h1
 have hn:=kl_ h3
 have e:zi_ x ++ rest = List.replicate x.up.length 32 ++ (x.n ++ ((x.l.map fun i=>32 :: Lib.itoa i).flatten ++ 10 :: rest)):=by
  simp [zi_,kC_]
 have hlen:(zi_ x).length - 1 = x.up.length + x.n.length + (x.l.map fun i=>32 :: Lib.itoa i).flatten.length:=by
  simp [zi_,kC_];omega
 obtain ⟨T,hT⟩:∃ T,(x.l.map fun i=>32 :: Lib.itoa i).flatten ++ 10 :: rest = T:=⟨_,rfl⟩
 have hnb:∀ c,(x.n ++ T).head? = some c→qt_ c = false:=by
  intro c hc
  cases hxn:x.n with
  | nil=>rw [hxn] at hl;simp at hl
  | cons a r=>
    rw [hxn] at hc
    simp at hc
    subst hc
    have:=hs a (by rw [hxn];simp)
    simp only [qM_,inB,Bool.and_eq_true,decide_eq_true_eq] at this
    simp only [qt_,beq_eq_false_iff_ne]
    rintro rfl
    simp at this
 have hTs:∀ c,T.head? = some c→qM_ c = false:=by
  intro c hc
  rw [← hT] at hc
  cases hxl:x.l with
  | nil=>rw [hxl] at hc;simp at hc;subst hc;decide
  | cons z l=>rw [hxl] at hc;simp at hc;subst hc;decide
 have a1:qC_ qt_ dp (List.replicate x.up.length 32 ++ (x.n ++ T)) = x.up.length:=by
  have:=km_ (p:=qt_) (a:=List.replicate x.up.length 32) (b:=x.n ++ T) (m:=dp) (fun c hc=>by rw [List.eq_of_mem_replicate hc];decide) (by simpa using hd) (.inr hnb)
  simpa using this
 have a2:qC_ qM_ 8 (x.n ++ T) = x.n.length:=km_ hs hl.2 (.inr hTs)
 have a3:=vJ_ (rest:=rest) x.l 4 hn h2
 rw [hT] at a3
 rw [e,hT,rdLine,hlen]
 dsimp only
 have hdr:(List.replicate x.up.length (32:UInt8) ++ (x.n ++ T)).drop x.up.length = x.n ++ T:=by
  rw [List.drop_left' (by simp)]
 rw [a1,hdr,a2,if_neg (by omega),List.take_left,List.drop_left,a3]
 have:((x.n ++ T).drop (x.n.length + (x.l.map fun i=>32 :: Lib.itoa i).flatten.length)).head? = some 10:=by
  rw [← List.drop_drop,List.drop_left,← hT,List.drop_left];rfl
 dsimp only
 rw [this]
 simp
end Go.Proofs.LF
namespace Go.Proofs.LF
open Go.RowKit Go.Sort
set_option maxHeartbeats 4000000
set_option maxRecDepth 100000
attribute [local go_sem] q1_ q2_ q8_
def keyD (y:Fo) (i:Nat):Ky:=(keyAt y i).getD ky0
def fndN (y:Fo) (k:Ky):Nat:=bsF (fun h=>decide (byK (keyD y h) k < 0)) 0 y.len
end Go.Proofs.LF
namespace Go.Proofs.LF
open Go.RowKit
end Go.Proofs.LF
namespace Go.Proofs.LF
open Go.RowKit Go.Sort
set_option maxHeartbeats 4000000
set_option maxRecDepth 100000
attribute [local go_sem] q1_ q2_ q8_
theorem bs_sl (c:UInt8) (a:List UInt8):(⟨#[c]⟩:ByteArray) ++ bs a = bs (c :: a):=xW_ [c] a
attribute [local go_sem] bs_sl
theorem bs_47 (a:List UInt8):({ data:=#[47] }:ByteArray) ++ bs a = bs (47 :: a):=xW_ [47] a
attribute [local go_sem] bs_47
theorem bs_58 (a:List UInt8):({ data:=#[58] }:ByteArray) ++ bs a = bs (58 :: a):=xW_ [58] a
theorem bs_63 (a:List UInt8):({ data:=#[63] }:ByteArray) ++ bs a = bs (63 :: a):=xW_ [63] a
attribute [local go_sem] bs_58 bs_63
def OkK (k:Ky):Prop:=k.n.length ≤ 1000∧0 ≤ k.x∧k.x ≤ 9999
theorem sptK_len {k:Ky} (h:OkK k):(yq_ k).length ≤ 1006:=by
 have h1:=ke_ h.2.1 h.2.2
 simp only [yq_,List.length_append,List.length_cons]
 have:=h.1
 split
 · simp;omega
 · split
   · simp;omega
   · simp;omega
theorem yi_ {p:List Ky}:(∀ k ∈ p,OkK k)→(sptL p).length ≤ 1006 * p.length:=by
 induction p with
 | nil=>intro _;simp [sptL]
 | cons k p ih=>
   intro h
   have h1:=sptK_len (h k (by simp))
   have h2:=ih fun z hz=>h z (by simp [hz])
   simp only [sptL,List.map_cons,List.flatten_cons,List.length_append,List.length_cons] at *
   omega
theorem sptL_take {p:List Ky} {k:Nat} (h:k < p.length):sptL (p.take (k + 1)) = sptL (p.take k) ++ yq_ p[k]:=by
 unfold sptL
 rw [List.take_succ_eq_append_getElem h,List.map_append,List.flatten_append];simp only [List.map_cons,List.map_nil,List.flatten_cons,List.flatten_nil,List.append_nil]
theorem spelt_any (p:List Ky) (a:Option Addr) (c:Nat) (S:Nat→Prop) (w:World) (hv:Pth S w (.slice a p.length c) p) (hS:∀ b,S b→b < w.heap.size) (hlen:p.length ≤ 1000) (hok:∀ k ∈ p,OkK k) (ht:Pow w) :
 Calls Tryz.prog 76 #[.slice a p.length c] w fun e w'=>e = .returned (.string (bs (sptL p)))∧Below w.heap.size w w':=by
 have HV:=hid hv
 have HOK:=hid hok
 have HT:=hid ht
 have HS:=hid hS
 have hb0:Bld w.heap.size (.slice none 0 0) [] (w.alloc (.cells #[.pointer none, .slice none 0 0] 113)):=⟨_, .inl rfl,ha_ _ _,World.ownsRow_nil _ _ _ _,by simp [Value.ownBlock]⟩
 have HB0:=hid hb0
 clear hv hok ht hS hb0
 go_enter Tryz.func76,Tryz.ntmps76
 go_wp2_with fail
 go_loopw [8] (fun i wr=>∃ (k:Nat) (v:Value),k ≤ p.length∧i = .int .i64 k∧Hid (Bld w.heap.size v (sptL (p.take k)) wr)∧Hid (Below w.heap.size w wr)) (fun i _=>p.length - (intOf i).toNat)
 case atStart=>exact ⟨0, .slice none 0 0,by omega,rfl,by simpa [Hid,sptL] using HB0.out,(Below.refl _ _).alloc (nl_ _) _⟩
 case round=>
  obtain ⟨k,v,hk,rfl,hb,hB⟩:=hrel
  have hsz:=hB.out.size
  by_cases hlt:k < p.length
  · have hlt':(k:Int) < (p.length:Int):=by omega
    obtain ⟨g,o,rfl,hg,_,_,hcell⟩:=SlC.cells HV.out (by omega)
    obtain ⟨k0,k1,k2⟩:=zJ_ hlt
    have ha:=qc_ hB.out HS.out
    have c0:=ha.cell hg (hcell _ _ k0)
    have c1:=ha.cell hg (hcell _ _ k1)
    have c2:=ha.cell hg (hcell _ _ k2)
    rw [← Nat.add_assoc] at c1 c2
    have hkk:=HOK.out p[k] (List.getElem_mem hlt)
    have hspl:(sptL (p.take k)).length ≤ 1006 * 1000:=by
     have h1:=yi_ (p:=p.take k) fun z hz=>HOK.out z (List.mem_of_mem_take hz)
     rw [List.length_take] at h1
     have:min k p.length ≤ 1000:=by omega
     omega
    have hgen:=sptL_take hlt
    have hK:=hid (show yq_ p[k] = 47 :: p[k].n ++ (if p[k].h then 58 :: Lib.itoa p[k].x else if p[k].x ≠ 0 then 63 :: Lib.itoa p[k].x else []) from rfl)
    obtain ⟨ky,hky⟩:∃ ky,p[k] = ky:=⟨_,rfl⟩
    rw [hky] at c0 c1 c2 hkk hgen hK
    have HG:=hid hgen
    have HKK:=hid hkk
    have HSP:=hid hspl
    have hng:¬ 9223372036854775807 < 1 + ky.n.length:=by have:=hkk.1;omega
    have hbw:Bld w.heap.size v (sptL (p.take k)) (wr.alloc (.cells #[.string (bs ky.n), .bool ky.h, .int .i64 ky.x] 96)):=hb.out.below ((Below.refl _ _).alloc (nl_ _) _)
    have HBW:=hid hbw
    clear hcell k0 k1 k2 hky hgen hkk hspl hbw ha
    go_wp2_with fail
    refine (qQ_ w.heap.size v _ (47 :: ky.n) _ HBW.out (by have:=HSP.out;omega) (by have:=HKK.out.1;simp;omega)).mono ?_
    rintro e w2 ⟨rfl,v2,hb2,hk2,hj2⟩
    have hBlo:∀ b,k6_ w.heap.size v b→b < wr.heap.size:=fun b hb'=>k6_.lt hb.out b hb'
    have hblk:w2.heap[wr.heap.size]? = some (.cells #[.string (bs ky.n), .bool ky.h, .int .i64 ky.x] 96 (0,0)):=(hk2.block _ (by simp) (fun h=>by have:=hBlo _ h;omega)).trans (ha_ _ _)
    have e1:=cg_ hblk (k:=1) rfl
    have e2:=cg_ hblk (k:=2) rfl
    have HBL:=hid hblk
    have hbel2:Below w.heap.size w w2:=(hB.out.alloc hsz _).trans (hk2.below (by simp;omega) (fun b hb' ho=>by
     rcases ho with rfl | ho
     · omega
     · have:=(k6_.ge hb.out b (.inr ho));omega))
    have HB2:=hid hbel2
    have HBD:=hid hb2
    have hz2:=hk2.size
    simp only [World.size_alloc] at hz2
    have HKK2:=hid (show (47 :: ky.n).length ≤ 1001 by have:=HKK.out.1;simp;omega)
    clear hbel2 hb2 hblk hk2 hj2
    by_cases hh:ky.h = true
    · have hlast:yq_ ky = 47 :: ky.n ++ 58 :: Lib.itoa ky.x:=by rw [hK.out,if_pos hh]
      have HL:=hid hlast
      clear hlast
      go_wp2_with fail
      refine (xv_ ky.x (by have:=HKK.out.2.1;omega) (by have:=HKK.out.2.2;omega) _ (HT.out.below HB2.out)).mono ?_
      rintro e w3 ⟨rfl,hb3⟩
      have hil:=ke_ HKK.out.2.1 HKK.out.2.2
      have hng2:¬ 9223372036854775807 < 1 + (Lib.itoa ky.x).length:=by omega
      have HBD3:=hid (HBD.out.below hb3)
      have HB3:=hid (HB2.out.trans (hb3.mono (by omega)))
      go_wp2_with fail
      refine (qQ_ w.heap.size v2 _ (58 :: Lib.itoa ky.x) _ HBD3.out (by have h1:=HSP.out;have h2:=HKK2.out;simp only [List.length_append];omega) (by simp;omega)).mono ?_
      rintro e w4 ⟨rfl,v4,hb4,hk4,hj4⟩
      have hbel4:Below w.heap.size w w4:=HB3.out.trans (hk4.below (by have:=HB3.out.size;omega) (fun b hb' ho=>by
       have:=k6_.ge HBD3.out b ho;omega))
      go_wp2_with fail
      go_roundw
      case rel=>exact ⟨k + 1,v4,by omega,by go_num,by rw [Hid,HG.out,HL.out];simpa using hb4,hbel4⟩
      case measure=>simp [intOf];omega
    · have hh':ky.h = false:=by simpa using hh
      by_cases hx:ky.x = 0
      · have hlast:yq_ ky = 47 :: ky.n:=by rw [hK.out,if_neg hh,if_neg (by simpa using hx),List.append_nil]
        have HL:=hid hlast
        have hx':(ky.x != 0) = false:=by simpa using hx
        have HX:=hid hx
        clear hlast hx
        go_wp2_with fail
        go_roundw
        case rel=>exact ⟨k + 1,v2,by omega,by go_num,by rw [Hid,HG.out,HL.out];exact HBD.out,HB2.out⟩
        case measure=>simp [intOf];omega
      · have hlast:yq_ ky = 47 :: ky.n ++ 63 :: Lib.itoa ky.x:=by rw [hK.out,if_neg hh,if_pos hx]
        have HL:=hid hlast
        have hx':(ky.x != 0) = true:=by simpa using hx
        have HX:=hid hx
        clear hlast hx
        go_wp2_with fail
        refine (xv_ ky.x (by have:=HKK.out.2.1;omega) (by have:=HKK.out.2.2;omega) _ (HT.out.below HB2.out)).mono ?_
        rintro e w3 ⟨rfl,hb3⟩
        have hil:=ke_ HKK.out.2.1 HKK.out.2.2
        have hng2:¬ 9223372036854775807 < 1 + (Lib.itoa ky.x).length:=by omega
        have HBD3:=hid (HBD.out.below hb3)
        have HB3:=hid (HB2.out.trans (hb3.mono (by omega)))
        go_wp2_with fail
        refine (qQ_ w.heap.size v2 _ (63 :: Lib.itoa ky.x) _ HBD3.out (by have h1:=HSP.out;have h2:=HKK2.out;simp only [List.length_append];omega) (by simp;omega)).mono ?_
        rintro e w4 ⟨rfl,v4,hb4,hk4,hj4⟩
        have hbel4:Below w.heap.size w w4:=HB3.out.trans (hk4.below (by have:=HB3.out.size;omega) (fun b hb' ho=>by
         have:=k6_.ge HBD3.out b ho;omega))
        go_wp2_with fail
        go_roundw
        case rel=>exact ⟨k + 1,v4,by omega,by go_num,by rw [Hid,HG.out,HL.out];simpa using hb4,hbel4⟩
        case measure=>simp [intOf];omega
  · obtain rfl:k = p.length:=by omega
    have hlt':¬ (p.length:Int) < (p.length:Int):=by omega
    go_wp2_with fail
    refine (Tryz.Builder_String_any_k _ _ _ _ (Lib.IsBuilderF.of hb.out.is) (Nat.le_of_lt hb.out.lt)).mono ?_
    rintro e W2 ⟨rfl,_,hbw,_⟩
    have HBW:=hid hbw
    clear hbw
    go_wp2_with fail
    go_ret
    exact ⟨rfl,hB.out.trans HBW.out⟩
def Grw (w w':World):Prop:=∃ q os,w' = grow (w.drewN q) os
theorem Grw.refl (w:World):Grw w w:=⟨0,#[],by simp [World.drewN]⟩
theorem Grw.alloc {w w':World} (h:Grw w w') (o:Obj):Grw w (w'.alloc o):=by
 obtain ⟨q,os,rfl⟩:=h
 exact ⟨q,os ++ #[o],by rw [alloc_eq_grow,grow_grow]⟩
theorem Grw.trans {a b c:World} (h:Grw a b) (k:Grw b c):Grw a c:=by
 obtain ⟨q,os,rfl⟩:=h
 obtain ⟨r,os',rfl⟩:=k
 refine ⟨q + r,os ++ os',?_⟩
 show grow (grow ((a.drewN q).drewN r) os) os' = _
 rw [grow_grow]
 congr 1
 simp [World.drewN,Nat.add_assoc]
theorem Grw.below {w w':World} (h:Grw w w'):Below w.heap.size w w':=by
 obtain ⟨q,os,rfl⟩:=h
 exact ⟨rfl,rfl,rfl,by simp [grow,World.drewN],fun b hb=>by
  show (w.heap ++ os)[b]? = _
  rw [Array.getElem?_append_left hb]⟩
theorem byKey_g (a b:Ky) (w:World) :
 Calls Tryz.prog 81 #[.agg #[.string (bs a.n), .bool a.h, .int .i64 a.x], .agg #[.string (bs b.n), .bool b.h, .int .i64 b.x]] w fun e w'=>e = .returned (.int .i64 (byK a b))∧Grw w w':=by
 obtain ⟨an,ah,ax⟩:=a
 obtain ⟨bn,bh,bx⟩:=b
 by_cases h:an = bn
 · have h':(an == bn) = true:=by simp [h]
   cases ah <;> cases bh
   all_goals
    go_enter Tryz.func81,Tryz.ntmps81
    go_wp2_with (first | (go_at_call 126;refine (kO_ _ _ _).mono ?_;rintro e w' ⟨rfl,rfl⟩) | (go_at_call 127;refine (kN_ _ _ _).mono ?_;rintro e w' ⟨rfl,rfl⟩))
    go_ret
    exact ⟨qd_ (by simp [byK,h]),((Grw.refl _).alloc _).alloc _⟩
 · have h':(an == bn) = false:=by simp [h]
   go_enter Tryz.func81,Tryz.ntmps81
   go_wp2_with (first | (go_at_call 126;refine (kO_ _ _ _).mono ?_;rintro e w' ⟨rfl,rfl⟩) | (go_at_call 127;refine (kN_ _ _ _).mono ?_;rintro e w' ⟨rfl,rfl⟩))
   go_ret
   exact ⟨qd_ (by simp [byK,h]),((Grw.refl _).alloc _).alloc _⟩
theorem w8_ (p q:List Ky) (ap aq:Option Addr) (cp cq:Nat) (S:Nat→Prop) (w:World) (hp:Pth S w (.slice ap p.length cp) p) (hq:Pth S w (.slice aq q.length cq) q) (hS:∀ b,S b→b < w.heap.size) (lp:p.length ≤ 1000) (lq:q.length ≤ 1000) :
 Calls Tryz.prog 80 #[.slice ap p.length cp, .slice aq q.length cq, .func (.func 81) #[] #[]] w fun e w'=>e = .returned (.int .i64 (cmpP p q))∧Grw w w':=by
 go_enter Tryz.func80,Tryz.ntmps80
 go_wp2_with fail
 go_loopw [13] (fun i wr=>∃ k:Nat,k ≤ p.length∧k ≤ q.length∧i = .int .i64 k∧Hid (cmpP p q = cmpP (p.drop k) (q.drop k))∧Grw w wr) (fun i _=>p.length - (intOf i).toNat)
 case atStart=>exact ⟨0,by omega,by omega,rfl,by simp [Hid],Grw.refl _⟩
 case round=>
  obtain ⟨k,hk,hk2,rfl,hN,hB⟩:=hrel
  have hBG:=hB
  replace hB:=hB.below
  have hsz:=hB.size
  by_cases hA:k < p.length
  · obtain ⟨g,o,rfl,hg,_,_,hcell⟩:=SlC.cells hp (by omega)
    obtain ⟨k0,k1,k2⟩:=zJ_ hA
    have ha:=qc_ hB hS
    have c0:=ha.cell hg (hcell _ _ k0)
    have c1:=ha.cell hg (hcell _ _ k1)
    have c2:=ha.cell hg (hcell _ _ k2)
    rw [← Nat.add_assoc] at c1 c2
    by_cases hB2:k < q.length
    · have a2:¬ (q.length:Int) ≤ (k:Int):=by omega
      have a3:(k:Int) < (q.length:Int):=by omega
      obtain ⟨g',o',rfl,hg',_,_,hcell'⟩:=SlC.cells hq (by omega)
      obtain ⟨k0',k1',k2'⟩:=zJ_ hB2
      have hbx:Below w.heap.size w (wr.alloc (.cells #[.string (bs p[k].n), .bool p[k].h, .int .i64 p[k].x] 96)):=hB.alloc hsz _
      have hax:=qc_ hbx hS
      have d0:=hax.cell hg' (hcell' _ _ k0')
      have d1:=hax.cell hg' (hcell' _ _ k1')
      have d2:=hax.cell hg' (hcell' _ _ k2')
      rw [← Nat.add_assoc] at d1 d2
      have hd:cmpP (p.drop k) (q.drop k) = if byK p[k] q[k] ≠ 0 then byK p[k] q[k] else cmpP (p.drop (k + 1)) (q.drop (k + 1)):=by
       rw [List.drop_eq_getElem_cons hA,List.drop_eq_getElem_cons hB2];rfl
      have HD:=hid hd
      have HBX:=hid hbx
      clear hcell k0 k1 k2 hcell' k0' k1' k2' hd hbx hax
      go_wp2_with fail
      refine (byKey_g p[k] q[k] _).mono ?_
      rintro e w2 ⟨rfl,hb2⟩
      have HB2:=hid (((hBG.alloc _).alloc _).trans hb2)
      clear hb2
      by_cases he:byK p[k] q[k] = 0
      · have he':(byK p[k] q[k] != 0) = false:=by simpa using he
        have HE:=hid he
        clear he
        go_wp2_with fail
        go_roundw
        case rel=>exact ⟨k + 1,by omega,by omega,by go_num,by rw [Hid,hN.out,HD.out,if_neg (by simpa using HE.out)],HB2.out⟩
        case measure=>simp [intOf];omega
      · have he':(byK p[k] q[k] != 0) = true:=by simpa using he
        have HE:=hid he
        clear he
        go_wp2_with fail
        go_ret
        exact ⟨qd_ (by rw [hN.out,HD.out,if_pos (by simpa using HE.out)]),HB2.out⟩
    · have a2:(q.length:Int) ≤ (k:Int):=by omega
      have hd:cmpP (p.drop k) (q.drop k) = 1:=by
       rw [List.drop_eq_getElem_cons hA,List.drop_eq_nil_of_le (by omega:q.length ≤ k)];rfl
      clear hcell k0 k1 k2
      go_wp2_with fail
      go_ret
      exact ⟨qd_ (by rw [hN.out,hd]),hBG.alloc _⟩
  · have hA':¬ (k:Int) < (p.length:Int):=by omega
    obtain rfl:k = p.length:=by omega
    by_cases hB2:p.length < q.length
    · have a2:(p.length:Int) < (q.length:Int):=by omega
      have hd:cmpP (p.drop p.length) (q.drop p.length) = -1:=by
       rw [List.drop_eq_getElem_cons hB2,List.drop_length];rfl
      go_wp2_with fail
      go_ret
      exact ⟨qd_ (by rw [hN.out,hd]),hBG⟩
    · have a2:¬ (p.length:Int) < (q.length:Int):=by omega
      have hd:cmpP (p.drop p.length) (q.drop p.length) = 0:=by
       rw [List.drop_length,List.drop_eq_nil_of_le (by omega)];rfl
      go_wp2_with fail
      go_ret
      exact ⟨qd_ (by rw [hN.out,hd]),hBG⟩
theorem byPath_g (p q:List Ky) (ap aq:Option Addr) (cp cq:Nat) (S:Nat→Prop) (w:World) (hp:Pth S w (.slice ap p.length cp) p) (hq:Pth S w (.slice aq q.length cq) q) (hS:∀ b,S b→b < w.heap.size) (lp:p.length ≤ 1000) (lq:q.length ≤ 1000) :
 Calls Tryz.prog 36 #[.slice ap p.length cp, .slice aq q.length cq] w fun e w'=>e = .returned (.int .i64 (cmpP p q))∧Grw w w':=by
 have H:=hid (w8_ p q ap aq cp cq S w hp hq hS lp lq)
 go_enter Tryz.func36,Tryz.ntmps36
 go_wp2_with fail
 refine H.out.mono ?_
 rintro e w1 ⟨rfl,hb1⟩
 go_wp2_with fail
 go_ret
 exact ⟨rfl,hb1⟩
theorem late_any (p q:List Ky) (ap aq al:Option Addr) (cp cq nl cl F:Nat) (S:Nat→Prop) (w:World) (hp:Pth S w (.slice ap p.length cp) p) (hq:Pth S w (.slice aq q.length cq) q) (hS:∀ b,S b→b < w.heap.size) (lp:p.length ≤ 1000) (lq:q.length ≤ 1000)
 (hF:F < w.heap.size) (hc:w.cell? ⟨F,0,none⟩ = some (.slice aq q.length cq)) :
 Calls Tryz.prog 48 #[.agg #[.slice ap p.length cp, .slice al nl cl], .pointer (some ⟨F,0,none⟩)] w fun e w'=>e = .returned (.bool (decide (0 ≤ cmpP p q)))∧Below w.heap.size w w':=by
 have hb:Below w.heap.size w (w.alloc (.cells #[.slice ap p.length cp, .slice al nl cl] 98)):=(Below.refl _ _).alloc (nl_ _) _
 have hc':=bc_ hb hF hc
 have ha:=qc_ hb hS
 have H:=hid (kw_ p q ap aq cp cq S _ (hp.agree ha) (hq.agree ha) (fun b h=>by have:=hS b h;simp;omega) lp lq)
 have HB:=hid hb
 clear hb ha hp hq
 go_enter Tryz.func48,Tryz.ntmps48
 go_wp2_with fail
 refine H.out.mono ?_
 rintro e w1 ⟨rfl,hb1⟩
 have HB1:=hid (HB.out.trans (hb1.mono HB.out.size))
 clear hb1
 by_cases h:0 ≤ cmpP p q
 · go_wp2_with fail
   go_ret
   exact ⟨qj_ (by simp [h]),HB1.out⟩
 · go_wp2_with fail
   go_ret
   exact ⟨qj_ (by simp [h]),HB1.out⟩
end Go.Proofs.LF
namespace Go.Proofs.LF
open Go.RowKit
variable {P:Program}
def heldE (v:Value):Option (DataW Value × List MemPlace):=some (.held v,[])
def jV_ (P:Program) (k:TypeId) (b n:Nat) (f:List UInt8→Option Value) (w:World):Prop:=
 ∃ D:DataW Value,w.ownsMap P k heldE b n D∧∀ s:List UInt8,Maps.has D (.string s) = (f s).isSome∧∀ v,f s = some v→∀ z,D.atKey (.string s) z = .held v
theorem jV_.made (k:TypeId) (w:World):jV_ P k w.heap.size 0 (fun _=>none) (w.alloc (.map #[] 0)):=
 ⟨_,World.ownsMap_made _ _ _ _,fun s=>⟨by simp [Maps.has],fun v h=>by cases h⟩⟩
theorem jV_.kept {k:TypeId} {b n:Nat} {f:List UInt8→Option Value} {w w':World} (h:jV_ P k b n f w) (hb:w'.heap[b]? = w.heap[b]?):jV_ P k b n f w':=by
 obtain ⟨D,⟨es,clock,h1,h2⟩,h3⟩:=h
 exact ⟨D,⟨es,clock,hb.trans h1,h2⟩,h3⟩
theorem jV_.lt {k:TypeId} {b n:Nat} {f:List UInt8→Option Value} {w:World} (h:jV_ P k b n f w):b < w.heap.size:=let ⟨_,h1,_⟩:=h;h1.lt
theorem jV_.look {t k e:TypeId} {b n:Nat} {f:List UInt8→Option Value} {w:World} (h:jV_ P k b n f w) (ht:P.underlying t = some (.map k e)) (hk:P.underlying k = some .string) {z:Value} (hz:(zeroValue e).run P w = .ok z w)
 (s:List UInt8) (hs:s.length ≤ maxLen):(Instr.lookup t (.map (some b)) (.string (bs s)) true).run P w = .ok (.tuple #[(f s).getD z, .bool (f s).isSome]) w:=by
 obtain ⟨D,h1,h2⟩:=h
 obtain ⟨v,ps,hrun,hv⟩:=h1.look_ok (Maps.string_keyed hk) ht hz (zd := .held z) (zp:=[]) rfl (keyS hk s hs)
 obtain ⟨h3,h4⟩:=h2 s
 rw [hrun,h3]
 simp only [heldE,Option.some.injEq,Prod.mk.injEq] at hv
 cases hf:f s with
 | none=>
   rw [hf] at h3
   rw [Maps.atKey_of_not_has h3] at hv
   have:v = z:=by simpa using hv.1
   rw [this];rfl
 | some u=>
   rw [h4 u hf] at hv
   have:v = u:=by simpa using hv.1
   rw [this];rfl
theorem jV_.put {t k e:TypeId} {b n:Nat} {f:List UInt8→Option Value} {w:World} (h:jV_ P k b n f w) (ht:P.underlying t = some (.map k e)) (hk:P.underlying k = some .string)
 (s:List UInt8) (hs:s.length ≤ maxLen) (hn:n < maxLen) (v:Value):∃ w',(Instr.mapUpdate t (.map (some b)) (.string (bs s)) v).run P w = .ok () w'∧jV_ P k b (n + 1) (fun q=>if q = s then some v else f q) w'∧w.grownBy w' (some b):=by
 obtain ⟨D,h1,h2⟩:=h
 obtain ⟨w',hrun,h3,h4⟩:=h1.update (Maps.string_keyed hk) ht hn (keyS hk s hs) (val:=v) (d := .held v) (ps:=[]) rfl
 refine ⟨w',hrun,⟨_,h3,fun q=>?_⟩,h4⟩
 by_cases hq:q = s
 · subst hq
   refine ⟨by rw [Maps.has_put_same h1.isMap (by trivial)];simp,fun u hu z=>?_⟩
   simp only [if_true,Option.some.injEq] at hu
   subst hu
   rw [Maps.atKey_put_same h1.isMap (by trivial)]
 · obtain ⟨h5,h6⟩:=h2 q
   refine ⟨by rw [Maps.has_put_other (by simpa using hq),h5];simp only [if_neg hq],fun u hu z=>?_⟩
   simp only [if_neg hq] at hu
   rw [Maps.atKey_put_other (by simpa using hq),h6 u hu]
def ChV (S:Nat→Prop) (w:World) (c:Ch) (v:Value):Prop:=
 ∃ ap cp ao co an cn,v = .agg #[.slice ap c.p.length cp, .bool c.had, .bool c.has, .slice ao c.old.length co, .slice an c.new.length cn]∧PthU S w (.slice ap c.p.length cp) c.p∧IntU S w (.slice ao c.old.length co) c.old∧IntU S w (.slice an c.new.length cn) c.new
theorem ChV.agree {S:Nat→Prop} {w w':World} {c:Ch} {v:Value} (h:ChV S w c v) (ha:qg_ S w w'):ChV S w' c v:=
 let ⟨ap,cp,ao,co,an,cn,e,h1,h2,h3⟩:=h;⟨ap,cp,ao,co,an,cn,e,PthU.agree h1 ha,IntU.agree h2 ha,IntU.agree h3 ha⟩
theorem ChV.wide {S S':Nat→Prop} {w:World} {c:Ch} {v:Value} (h:ChV S w c v) (hs:∀ b,S b→S' b):ChV S' w c v:=
 let ⟨ap,cp,ao,co,an,cn,e,h1,h2,h3⟩:=h;⟨ap,cp,ao,co,an,cn,e,PthU.wide h1 hs,IntU.wide h2 hs,IntU.wide h3 hs⟩
def jl_ (P:Program) (k:TypeId) (q:Ch→List UInt8) (S:Nat→Prop) (b n:Nat) (L:List Ch) (w:World):Prop:=
 ∃ f,jV_ P k b n f w∧(∀ c ∈ L,∃ v,f (q c) = some v∧ChV S w c v)∧∀ s,(∀ c ∈ L,q c ≠ s)→f s = none
variable {k:TypeId} {q:Ch→List UInt8} {S:Nat→Prop} {b n:Nat} {L:List Ch} {w:World}
theorem jl_.made (w:World):jl_ P k q S w.heap.size 0 [] (w.alloc (.map #[] 0)):=⟨_,jV_.made k w,by simp,fun _ _=>rfl⟩
theorem jl_.kept {w':World} (h:jl_ P k q S b n L w) (hb:w'.heap[b]? = w.heap[b]?) (ha:qg_ S w w'):jl_ P k q S b n L w':=
 let ⟨f,h1,h2,h3⟩:=h;⟨f,h1.kept hb,fun c hc=>let ⟨v,h4,h5⟩:=h2 c hc;⟨v,h4,h5.agree ha⟩,h3⟩
theorem jl_.wide {S':Nat→Prop} (h:jl_ P k q S b n L w) (hs:∀ b,S b→S' b):jl_ P k q S' b n L w:=
 let ⟨f,h1,h2,h3⟩:=h;⟨f,h1,fun c hc=>let ⟨v,h4,h5⟩:=h2 c hc;⟨v,h4,h5.wide hs⟩,h3⟩
theorem jl_.lt (h:jl_ P k q S b n L w):b < w.heap.size:=let ⟨_,h1,_⟩:=h;h1.lt
theorem jl_.put {t e:TypeId} (h:jl_ P k q S b n L w) (ht:P.underlying t = some (.map k e)) (hk:P.underlying k = some .string) (c:Ch) (v:Value) (hv:ChV S w c v) (hs:(q c).length ≤ maxLen) (hn:n < maxLen) (hq:∀ d ∈ L,q d ≠ q c) (hS:∀ x,S x→x < w.heap.size∧x ≠ b) :
 ∃ w',(Instr.mapUpdate t (.map (some b)) (.string (bs (q c))) v).run P w = .ok () w'∧jl_ P k q S b (n + 1) (L ++ [c]) w'∧w.grownBy w' (some b):=by
 obtain ⟨f,h1,h2,h3⟩:=h
 obtain ⟨w',hr,h4,h5⟩:=h1.put ht hk (q c) hs hn v
 have ha:qg_ S w w':=qg_.grown h5 fun x hx=>⟨(hS x hx).1,fun e=>(hS x hx).2 (Option.some.inj e).symm⟩
 refine ⟨w',hr,⟨_,h4,fun d hd=>?_,fun s hs'=>?_⟩,h5⟩
 · rcases List.mem_append.1 hd with hd | hd
   · obtain ⟨u,h6,h7⟩:=h2 d hd
     exact ⟨u,by rw [if_neg (hq d hd)];exact h6,h7.agree ha⟩
   · simp only [List.mem_singleton] at hd
     subst hd
     exact ⟨v,by simp,hv.agree ha⟩
 · have:s ≠ q c:=fun e=>hs' c (by simp) e.symm
   simp only [if_neg this]
   exact h3 s fun d hd=>hs' d (by simp [hd])
theorem jl_.hit {t e:TypeId} (h:jl_ P k q S b n L w) (ht:P.underlying t = some (.map k e)) (hk:P.underlying k = some .string) {z:Value} (hz:(zeroValue e).run P w = .ok z w) (s:List UInt8) (hs:s.length ≤ maxLen) {c:Ch} (hc:c ∈ L) (hq:q c = s) :
 ∃ v,(Instr.lookup t (.map (some b)) (.string (bs s)) true).run P w = .ok (.tuple #[v, .bool true]) w∧ChV S w c v:=by
 obtain ⟨f,h1,h2,h3⟩:=h
 obtain ⟨v,h4,h5⟩:=h2 c hc
 have:=h1.look ht hk hz s hs
 rw [← hq,h4] at this
 rw [← hq]
 exact ⟨v,this,h5⟩
end Go.Proofs.LF
namespace Go.Proofs
def Tryz.laysSort_ren:Go.Shelf.Ren:=⟨fun | 6=>37 | 15=>83 | 14=>82 | 28=>136 | 29=>137 | 20=>128 | 21=>129 | 22=>130 | 23=>131 | 24=>132 | 25=>133 | 26=>134 | 27=>135 | 46=>169 | 47=>170 | 48=>171 | 49=>172 | 50=>173 | 57=>205 | n=>n,fun | 22=>39 | 24=>92 | 25=>104 | 3=>3 | 39=>178 | 0=>0 | 53=>83 | 55=>259 | 4=>4 | 46=>252 | 45=>251 | 50=>182 | 5=>5 | 9=>9 | 66=>286 | 70=>290 | 76=>314 | 77=>315 | n=>n,fun | n=>n⟩
theorem Tryz.laysSort:Go.Proofs.SlLaysF.n6 Tryz.prog Tryz.laysSort_ren:={
 mixed:=by kernel_rfl
 f6:=⟨Tryz.f37.name,by decide,Tryz.func37.trans (congrArg some (by kernel_rfl))⟩
 f14:=⟨Tryz.f82.name,by decide,Tryz.func82.trans (congrArg some (by kernel_rfl))⟩
 f15:=Tryz.func83.trans (congrArg some (by kernel_rfl))
 f20:=⟨Tryz.f128.name,by decide,Tryz.func128.trans (congrArg some (by kernel_rfl))⟩
 f21:=⟨Tryz.f129.name,by decide,Tryz.func129.trans (congrArg some (by kernel_rfl))⟩
 f22:=⟨Tryz.f130.name,by decide,Tryz.func130.trans (congrArg some (by kernel_rfl))⟩
 f23:=⟨Tryz.f131.name,by decide,Tryz.func131.trans (congrArg some (by kernel_rfl))⟩
 f24:=⟨Tryz.f132.name,by decide,Tryz.func132.trans (congrArg some (by kernel_rfl))⟩
 f25:=⟨Tryz.f133.name,by decide,Tryz.func133.trans (congrArg some (by kernel_rfl))⟩
 f26:=⟨Tryz.f134.name,by decide,Tryz.func134.trans (congrArg some (by kernel_rfl))⟩
 f27:=⟨Tryz.f135.name,by decide,Tryz.func135.trans (congrArg some (by kernel_rfl))⟩
 f28:=Tryz.func136.trans (congrArg some (by kernel_rfl))
 f29:=Tryz.func137.trans (congrArg some (by kernel_rfl))
 f46:=⟨Tryz.f169.name,by decide,Tryz.func169.trans (congrArg some (by kernel_rfl))⟩
 f47:=Tryz.func170.trans (congrArg some (by kernel_rfl))
 f48:=Tryz.func171.trans (congrArg some (by kernel_rfl))
 f49:=⟨Tryz.f172.name,by decide,Tryz.func172.trans (congrArg some (by kernel_rfl))⟩
 f50:=⟨Tryz.f173.name,by decide,Tryz.func173.trans (congrArg some (by kernel_rfl))⟩
 f57:=⟨Tryz.f205.name,by decide,Tryz.func205.trans (congrArg some (by kernel_rfl))⟩
 t0:=Tryz.underlying0
 a0:=Tryz.isAgg0
 z0:=Tryz.sizeOf0
 v0:=Tryz.zeroValue0
 t3:=Tryz.underlying3
 a3:=Tryz.isAgg3
 z3:=Tryz.sizeOf3
 v3:=Tryz.zeroValue3
 t4:=Tryz.underlying4
 a4:=Tryz.isAgg4
 z4:=Tryz.sizeOf4
 v4:=Tryz.zeroValue4
 t5:=Tryz.underlying5
 a5:=Tryz.isAgg5
 z5:=Tryz.sizeOf5
 v5:=Tryz.zeroValue5
 t9:=Tryz.underlying9
 a9:=Tryz.isAgg9
 z9:=Tryz.sizeOf9
 v9:=Tryz.zeroValue9
 t22:=Tryz.underlying39
 a22:=Tryz.isAgg39
 z22:=Tryz.sizeOf39
 v22:=Tryz.zeroValue39
 a24:=Tryz.isAgg92
 z24:=Tryz.sizeOf92
 t25:=Tryz.underlying104
 a25:=Tryz.isAgg104
 z25:=Tryz.sizeOf104
 v25:=Tryz.zeroValue104
 t39:=Tryz.underlying178
 a39:=Tryz.isAgg178
 z39:=Tryz.sizeOf178
 v39:=Tryz.zeroValue178
 t45:=Tryz.underlying251
 a45:=Tryz.isAgg251
 z45:=Tryz.sizeOf251
 v45:=Tryz.zeroValue251
 t46:=Tryz.underlying252
 a46:=Tryz.isAgg252
 z46:=Tryz.sizeOf252
 v46:=Tryz.zeroValue252
 t50:=Tryz.underlying182
 a50:=Tryz.isAgg182
 z50:=Tryz.sizeOf182
 v50:=Tryz.zeroValue182
 t53:=Tryz.underlying83
 a53:=Tryz.isAgg83
 z53:=Tryz.sizeOf83
 v53:=Tryz.zeroValue83
 t55:=Tryz.underlying259
 a55:=Tryz.isAgg259
 z55:=Tryz.sizeOf259
 v55:=Tryz.zeroValue259
 t66:=Tryz.underlying286
 a66:=Tryz.isAgg286
 z66:=Tryz.sizeOf286
 v66:=Tryz.zeroValue286
 t70:=Tryz.underlying290
 a70:=Tryz.isAgg290
 z70:=Tryz.sizeOf290
 v70:=Tryz.zeroValue290
 t76:=Tryz.underlying314
 a76:=Tryz.isAgg314
 z76:=Tryz.sizeOf314
 v76:=Tryz.zeroValue314
 t77:=Tryz.underlying315
 a77:=Tryz.isAgg315
 z77:=Tryz.sizeOf315
 v77:=Tryz.zeroValue315 }
namespace LF
open Go.RowKit Go.Sort
set_option maxHeartbeats 4000000
set_option maxRecDepth 100000
structure PV where
 v:Value
 p:List Ky
 deriving Inhabited
theorem swoP {α:Type} (f:α→List Ky):SWO (ltOf (fun x y:α=>cmpP (f x) (f y))) where
 irrefl x:=by simp [ltOf,qi_.refl]
 trans x y z h1 h2:=by simp only [ltOf,decide_eq_true_eq] at *;exact qi_.trans h1 h2
 ntrans x y z h1 h2:=by
  simp only [ltOf,decide_eq_false_iff_not] at *
  intro h
  rcases Int.lt_trichotomy (cmpP (f x) (f y)) 0 with h3 | h3 | h3
  · exact h1 h3
  · rw [qi_.eq h3] at h;exact h2 h
  · have h4:=qi_.flop h3
    exact h2 (qi_.trans h4 h)
theorem vr_ {α:Type} [Inhabited α] {enc:α→Value} {w:World} {g n b:Nat} {os:Array Obj} {d:Array α} (hb:b < w.heap.size) (hne:b ≠ g):(sortWorld enc w g 0 n d os).heap[b]? = w.heap[b]?:=by
 unfold sortWorld
 rw [heap_grow_old _ _ (by simpa using hb)]
 have:g ≠ b:=fun e=>hne e.symm
 simp [putRow,mapBlock,Sort.ahead,Array.getElem?_modify,this]
theorem v2_ {α:Type} [Inhabited α] {enc:α→Value} {w:World} {g n:Nat} {os:Array Obj} (d:Array α):w.grownBy (sortWorld enc w g 0 n d os) (some g):=
 ⟨rfl,rfl,rfl,by unfold sortWorld;simp,fun k hk hne=>vr_ hk (fun e=>hne (by rw [e]))⟩
theorem sortW_row {α:Type} [Inhabited α] {enc:α→Value} {w:World} {g n:Nat} {os:Array Obj} {d:Array α} {cur:Array Value} {e:TypeId} (hb:w.heap[g]? = some (.cells cur e (0,0))):(sortWorld enc w g 0 n d os).heap[g]? = some (.cells (putCells enc 0 d cur) e (0,0)):=by
 have hg:g < w.heap.size:=(ge_ hb).1
 unfold sortWorld
 rw [heap_grow_old _ _ (by simpa using hg)]
 simp [putRow,mapBlock,Sort.ahead,Array.getElem?_modify,hb,onCells]
theorem take_putC {α:Type} [Inhabited α] (enc:α→Value) (cur:Array Value) (d:Array α) (h:d.size ≤ cur.size):(putCells enc 0 d cur).toList.take d.size = d.toList.map enc:=by
 apply List.ext_getElem?
 intro j
 by_cases hj:j < d.size
 · rw [List.getElem?_take_of_lt hj,Array.getElem?_toList]
   simp [putCells,hj,show j < cur.size by omega]
 · rw [List.getElem?_take_eq_none (by omega),List.getElem?_eq_none (by simp;omega)]
abbrev PVs (M:Nat→Prop) (w:World):={ x:PV // (∃ a c,x.v = .slice a x.p.length c)∧Pth M w x.v x.p∧x.p.length ≤ 1000 }
theorem pvs_of {M:Nat→Prop} {w:World}:∀ {ps:List (List Ky)} {cs:List Value},LCs kM_ M w ps cs→(∀ p ∈ ps,p.length ≤ 1000)→∃ ds:List (PVs M w),ds.map (·.1.v) = cs∧ds.map (·.1.p) = ps
 | [],_,h,_=>⟨[],by rw [show _ = [] from h];rfl,rfl⟩
 | p :: ps,_,⟨c,es,h1,⟨ap,cp,h2,h3⟩,h4⟩,hl=>by
   obtain ⟨ds,hd1,hd2⟩:=pvs_of h4 (fun q hq=>hl q (by simp [hq]))
   exact ⟨⟨⟨.slice ap p.length cp,p⟩,⟨ap,cp,rfl⟩,h3,hl p (by simp)⟩ :: ds,by rw [h1,h2,← hd1];rfl,by simp [hd2]⟩
theorem pvs_to {M:Nat→Prop} {w:World}:∀ (ds:List (PVs M w)),LCs kM_ M w (ds.map (·.1.p)) (ds.map (·.1.v))
 | []=>rfl
 | x :: ds=>by
   obtain ⟨a,c,h⟩:=x.2.1
   refine ⟨[x.1.v],ds.map (·.1.v),rfl,⟨a,c,by rw [h],?_⟩,pvs_to ds⟩
   have:=x.2.2.1
   rwa [h] at this
theorem enters103 (args:Array Value) (w:World):(callFunc 36 args).run Tryz.prog w = .ok (.enter 36 args) w:=by simp [go_sem]
theorem yr_ (ps:List (List Ky)) (v:Value) (B:Nat) (cs:List Value) (M:Nat→Prop) (w:World) (hown:w.ownsRow B 92 1 v ps.length cs) (hlc:LCs kM_ M w ps cs) (hM:∀ b,M b→b < w.heap.size∧v.ownBlock ≠ some b) (hps:∀ p ∈ ps,p.length ≤ 1000) (hl:ps.length ≤ 100000) :
 Calls Tryz.prog 37 #[v, .func (.func 36) #[] #[]] w fun e w'=>e = .returned (.tuple #[])∧∃ cs',w'.ownsRow B 92 1 v ps.length cs'∧LCs kM_ M w' (xw_ ps) cs'∧w.grownBy w' v.ownBlock:=by
 by_cases h0:ps.length = 0
 · obtain rfl:=List.eq_nil_of_length_eq_zero h0
   obtain ⟨a,c,rfl,_,_⟩:=owns_shape hown
   refine (AnyF.slices_SortFunc_none (L:={ Tryz.laysSort with }) a c (.func (.func 36) #[] #[]) w).mono ?_
   rintro e w' ⟨rfl,rfl⟩
   exact ⟨rfl,cs,hown,by simpa [xw_] using hlc,World.grownBy.refl _ _⟩
 · obtain ⟨h1,⟨rfl,h2⟩ | ⟨g,cap,cur,rfl,hbg,hgg,hn,hcap,hsz,htk⟩⟩:=hown
   · exact absurd h2 h0
   · obtain ⟨ds,hd1,hd2⟩:=pvs_of hlc hps
     have hdl:ds.length = ps.length:=by rw [← hd2];simp
     have hgl:g < w.heap.size:=(ge_ hgg).1
     haveI:Inhabited (PVs M w):=⟨ds[0]'(by omega)⟩
     have hMg:∀ b,M b→b ≠ g:=fun b hb e=>(hM b hb).2 (by simp [Value.ownBlock,e])
     have hH:Holds (fun x:PVs M w=>x.1.v) w g 0 ds.toArray:=by
      intro j hj
      have hj':j < ds.length:=by simpa using hj
      have e1:cs[j]? = some (ds[j]).1.v:=by rw [← hd1];simp [hj']
      rw [← htk,Nat.mul_one,List.getElem?_take] at e1
      rw [if_pos (by omega)] at e1
      refine ⟨?_,by simp [World.frozen?,hgg]⟩
      simp only [World.cell?,hgg,Nat.zero_add]
      rw [← Array.getElem?_toList,e1]
      simp [hj']
     have hag:∀ m os (dk:Array (PVs M w)),qg_ M w (sortWorld (fun x:PVs M w=>x.1.v) w g 0 m dk os):=fun m os dk b hb=>vr_ (hM b hb).1 (hMg b hb)
     have hcmp:CmpLays1 Tryz.prog 36 #[] (fun x:PVs M w=>x.1.v) (fun x y=>cmpP x.1.p y.1.p) g 0 ds.toArray.size w:=by
      intro m os dk hs x y
      obtain ⟨ax,cx,hx⟩:=x.2.1
      obtain ⟨ay,cy,hy⟩:=y.2.1
      have hpx:=x.2.2.1
      have hpy:=y.2.2.1
      have:=byPath_g x.1.p y.1.p ax ay cx cy M (sortWorld (fun x:PVs M w=>x.1.v) w g 0 m dk os) ((by rw [← hx];exact hpx.agree (hag m os dk))) ((by rw [← hy];exact hpy.agree (hag m os dk))) (fun b hb=>by have h9:=(v2_ (enc:=fun x:PVs M w=>x.1.v) (w:=w) (g:=g) (n:=m) (os:=os) dk).size;have:=(hM b hb).1;omega) x.2.2.2 y.2.2.2
      simp only [hx,hy]
      simpa [Grw] using this
     have hcon:=Any.slices_SortFunc Tryz.laysSort (fun x:PVs M w=>x.1.v) (fun x=>by obtain ⟨a,c,h⟩:=x.2.1;show x.1.v.oneCell' = true;rw [h];rfl) (fun x y=>cmpP x.1.p y.1.p) (swoP fun x:PVs M w=>x.1.p) 36 #[] g 0 cap ds.toArray w enters103 hcmp hH hgl (by simp;omega)
     have e1:ds.toArray.size = ps.length:=by simpa using hdl
     rw [e1] at hcon
     refine hcon.mono ?_
     rintro e w' ⟨rfl,d',n,os,⟨hp1,_,hp3⟩,hs,rfl⟩
     have hps':(d'.toList.map (·.1.p)).Perm ps:=by
      have h3:d'.toList.Perm ds:=by
       have:=hp3
       rw [← e1] at this
       rw [Array.extract_eq_self_of_le (by omega),Array.extract_eq_self_of_le (by omega)] at this
       simpa using this
      rw [← hd2]
      exact h3.map _
     have hd's:d'.size = ps.length:=by rw [hp1,e1]
     have hsorted:(d'.toList.map (·.1.p)).Pairwise (fun a b=>cmpP a b ≤ 0):=by
      rw [List.pairwise_map,List.pairwise_iff_getElem]
      intro i j hi hj hij
      have hi':i < d'.size:=by simpa using hi
      have hj':j < d'.size:=by simpa using hj
      have:=hs i j (Nat.zero_le _) hij (by omega)
      simp only [ltOf,decide_eq_false_iff_not] at this
      rw [getElem!_pos d' j hj',getElem!_pos d' i hi'] at this
      simp only [Array.getElem_toList]
      rcases Int.lt_trichotomy (cmpP d'[i].1.p d'[j].1.p) 0 with h | h | h
      · omega
      · omega
      · exact absurd (qi_.flop h) this
     have hsrt:=srtP_of hps' hsorted
     refine ⟨rfl,d'.toList.map (·.1.v),⟨by simp [hd's], .inr ⟨g,cap,_,rfl,hbg,sortW_row hgg,hn,hcap,by simp [putCells,hsz],?_⟩⟩,?_,v2_ d'⟩
     · rw [Nat.mul_one,← hd's]
       exact take_putC _ _ _ (by omega)
     · rw [← hsrt]
       exact (pvs_to d'.toList).agree (hag n os d')
end LF
end Go.Proofs
namespace Go.Proofs.LF
open Go.RowKit Go.Sort
set_option maxHeartbeats 4000000
set_option maxRecDepth 100000
attribute [local go_sem] q1_ q2_ q8_
theorem cmpFl_any (p q:List Ky) (ap aq al:Option Addr) (cp cq nl cl:Nat) (S:Nat→Prop) (w:World) (hp:Pth S w (.slice ap p.length cp) p) (hq:Pth S w (.slice aq q.length cq) q) (hS:∀ b,S b→b < w.heap.size) (lp:p.length ≤ 1000) (lq:q.length ≤ 1000) :
 Calls Tryz.prog 78 #[.agg #[.slice ap p.length cp, .slice al nl cl], .slice aq q.length cq] w fun e w'=>e = .returned (.int .i64 (cmpP p q))∧Below w.heap.size w w':=by
 have hb:Below w.heap.size w (w.alloc (.cells #[.slice ap p.length cp, .slice al nl cl] 98)):=(Below.refl _ _).alloc (nl_ _) _
 have ha:=qc_ hb hS
 have H:=hid (kw_ p q ap aq cp cq S _ (hp.agree ha) (hq.agree ha) (fun b h=>by have:=hS b h;simp;omega) lp lq)
 have HB:=hid hb
 clear hb ha hp hq
 go_enter Tryz.func78,Tryz.ntmps78
 go_wp2_with fail
 refine H.out.mono ?_
 rintro e w1 ⟨rfl,hb1⟩
 have HB1:=hid (HB.out.trans (hb1.mono HB.out.size))
 go_wp2_with fail
 go_ret
 exact ⟨rfl,HB1.out⟩
theorem jD_ (l:List Fl) (p:List Ky) (al ap:Option Addr) (cl cp:Nat) (S T:Nat→Prop) (w:World) (hv:FlSl S w (.slice al l.length cl) l) (hS:∀ b,S b→b < w.heap.size) (hp:Pth T w (.slice ap p.length cp) p) (hT:∀ b,T b→b < w.heap.size)
 (hl:l.length ≤ 1000) (hsm:SmF l) (lp:p.length ≤ 1000) :
 Calls Tryz.prog 77 #[.slice al l.length cl, .slice ap p.length cp, .func (.func 78) #[] #[]] w fun e w'=>e = .returned (.tuple #[.int .i64 (fndI l p), .bool (decide (fndI l p < l.length) && decide (cmpP (l.getD (fndI l p) fl0).p p = 0))])∧Below w.heap.size w w':=by
 obtain ⟨a',c',he,hc,hcm,hat⟩:=hv.at
 obtain ⟨rfl,rfl⟩:al = a'∧cl = c':=by cases he;exact ⟨rfl,rfl⟩
 have HAT:=hid hat
 have HS:=hid hS
 have HT:=hid hT
 have HP:=hid hp
 have HSM:=hid hsm
 clear hat hS hT hp hsm he hv
 unfold maxLen at hcm
 have hcall:∀ (i:Nat) (hi:i < l.length) (W:World),Below w.heap.size w W→∃ g o ap2 cp2 an cn,al = some ⟨g,o,none⟩∧W.cell? ⟨g,o + i * 2,none⟩ = some (.slice ap2 l[i].p.length cp2)∧W.cell? ⟨g,o + i * 2 + 1,none⟩ = some (.slice an l[i].l.length cn) ∧
  Hid (Calls Tryz.prog 78 #[.agg #[.slice ap2 l[i].p.length cp2, .slice an l[i].l.length cn], .slice ap p.length cp] W fun e w'=>e = .returned (.int .i64 (cmpP l[i].p p))∧Below W.heap.size W w'):=by
  intro i hi W hB
  obtain ⟨g,o,cs1,rfl,hg,⟨ap2,cp2,an,cn,rfl,hP,hI⟩,hcell⟩:=HAT.out i hi
  have ha:qg_ S w W:=qc_ hB HS.out
  have c0:=ha.cell hg (hcell 0 _ rfl)
  have c1:=ha.cell hg (hcell 1 _ rfl)
  rw [Nat.add_zero] at c0
  rw [← Nat.add_assoc] at c1
  exact ⟨g,o,ap2,cp2,an,cn,rfl,c0,c1,cmpFl_any l[i].p p ap2 ap an cp2 cp _ cn (fun b=>S b ∨ T b) W ((hP.agree ha).wide fun b hb => .inl hb) ((HP.out.agree (qc_ hB HT.out)).wide fun b hb => .inr hb)
   (fun b hb=>by have:=hB.size;rcases hb with hb | hb;have:=HS.out b hb;omega;have:=HT.out b hb;omega) (HSM.out _ (List.getElem_mem hi)).1 lp⟩
 have HC:=hid hcall
 clear hcall
 go_enter Tryz.func77,Tryz.ntmps77
 go_wp2_with fail
 go_loopw [9,10] (fun vi vj wr=>∃ i j:Nat,vi = .int .i64 i∧vj = .int .i64 j∧i ≤ j∧j ≤ l.length∧Hid (fndI l p = bsF (fun h=>decide (cmpP (l.getD h fl0).p p < 0)) i j)∧Below w.heap.size w wr) (fun vi vj _=>(intOf vj).toNat - (intOf vi).toNat)
 case atStart=>exact ⟨0,l.length,rfl,rfl,Nat.zero_le _,nl_ _,rfl,Below.refl _ _⟩
 case round=>
  obtain ⟨i,j,rfl,rfl,hij,hjl,hF,hB⟩:=hrel
  have hsz:=hB.size
  by_cases hlt:i < j
  · have hlt':(i:Int) < (j:Int):=by omega
    obtain ⟨h,hh⟩:∃ h,(i + j) / 2 = h:=⟨_,rfl⟩
    have hhi:((i:Int) + (j:Int)) / 2 = (h:Int):=by omega
    have hhl:h < l.length:=by omega
    have hb1:i ≤ h:=by omega
    have hb2:h < j:=by omega
    have hhl':(h:Int) < (l.length:Int):=by omega
    have hh0:(0:Int) ≤ (h:Int):=by omega
    obtain ⟨g,o,ap2,cp2,an,cn,rfl,c0,c1,H⟩:=HC.out h hhl wr hB
    have hF2:=hF.out
    rw [bsF_go hlt,hh] at hF2
    have hg:l.getD h fl0 = l[h]:=by simp [List.getD_eq_getElem?_getD,hhl]
    simp only [hg,decide_eq_true_eq] at hF2
    have HF:=hid hF2
    clear hF2 hg hh
    go_wp2_with fail
    refine H.out.mono ?_
    rintro e w2 ⟨rfl,hb3⟩
    have HB:=hid (hB.trans (hb3.mono hsz))
    clear hb3
    by_cases hneg:cmpP l[h].p p < 0
    · have hF3:=HF.out
      rw [if_pos hneg] at hF3
      have HF3:=hid hF3
      clear hF3
      go_wp2_with fail
      go_roundw
      case rel=>exact ⟨h + 1,j,by go_num,rfl,by omega,hjl,HF3.out,HB.out⟩
      case measure=>simp [intOf];omega
    · have hF3:=HF.out
      rw [if_neg hneg] at hF3
      have HF3:=hid hF3
      clear hF3
      go_wp2_with fail
      go_roundw
      case rel=>exact ⟨i,h,rfl,rfl,hb1,by omega,HF3.out,HB.out⟩
      case measure=>simp [intOf];omega
  · obtain rfl:i = j:=by omega
    have hlt':¬ (i:Int) < (i:Int):=by omega
    by_cases hil:i < l.length
    · have hil':(i:Int) < (l.length:Int):=by omega
      obtain ⟨g,o,ap2,cp2,an,cn,rfl,c0,c1,H⟩:=HC.out i hil wr hB
      have hF2:=hF.out
      rw [kP_ (by omega)] at hF2
      have HF:=hid hF2
      clear hF2
      go_wp2_with fail
      refine H.out.mono ?_
      rintro e w2 ⟨rfl,hb3⟩
      have HB:=hid (hB.trans (hb3.mono hsz))
      clear hb3
      have hfin:(decide (fndI l p < l.length) && decide (cmpP (l.getD (fndI l p) fl0).p p = 0)) = decide (cmpP l[i].p p = 0):=by
       rw [HF.out];simp [hil,List.getD_eq_getElem?_getD]
      have HFI:=hid hfin
      clear hfin
      by_cases hz:cmpP l[i].p p = 0
      · have hz':(cmpP l[i].p p == 0) = true:=by simp [hz]
        have hzd:decide (cmpP l[i].p p = 0) = true:=by simp [hz]
        have HZ:=hid hzd
        clear hz hzd
        go_wp2_with fail
        go_ret2
        exact ⟨by rw [HFI.out,HZ.out,HF.out];simp,HB.out⟩
      · have hz':(cmpP l[i].p p == 0) = false:=by simp [hz]
        have hzd:decide (cmpP l[i].p p = 0) = false:=by simp [hz]
        have HZ:=hid hzd
        clear hz hzd
        go_wp2_with fail
        go_ret2
        exact ⟨by rw [HFI.out,HZ.out,HF.out];simp,HB.out⟩
    · have hil':¬ (i:Int) < (l.length:Int):=by omega
      have hF2:=hF.out
      rw [kP_ (by omega)] at hF2
      have HF:=hid hF2
      clear hF2
      have hfin:(decide (fndI l p < l.length) && decide (cmpP (l.getD (fndI l p) fl0).p p = 0)) = false:=by
       rw [HF.out];simp [hil]
      have HFI:=hid hfin
      clear hfin
      go_wp2_with fail
      go_ret2
      exact ⟨by have h1:=HF.out;have h2:=HFI.out;rw [h1] at h2 ⊢;simp [hil],hB⟩
def RunR (p:UInt8→Bool) (R:Nat) (t:List UInt8) (i most:Nat) (vs:List Value) (w:World) (e:Ending) (w':World):Prop:=
 ∃ s:List UInt8,e = .returned (.string (bs s))∧Hid (s = (t.drop i).take (qC_ p most (t.drop i)))∧Hid (s.length = qC_ p most (t.drop i))∧Hid (s.length ≤ most∧i + s.length ≤ t.length)∧Hid (Rdr R t (i + s.length) vs w')∧Hid (Keep (· = R) w w')
theorem RunR.of {p:UInt8→Bool} {R:Nat} {t:List UInt8} {i most:Nat} {vs:List Value} {w:World} {e:Ending} {w':World} (hi:i ≤ t.length)
 (h:e = .returned (.string (bs ((t.drop i).take (qC_ p most (t.drop i)))))∧Rdr R t (i + qC_ p most (t.drop i)) vs w'∧Keep (· = R) w w'):RunR p R t i most vs w e w':=by
 have hl:=v7_ (p:=p) (m:=most) (l:=t.drop i)
 have hs:((t.drop i).take (qC_ p most (t.drop i))).length = qC_ p most (t.drop i):=by rw [List.length_take];omega
 rw [List.length_drop] at hl
 exact ⟨_,h.1,rfl,hs,by rw [Hid,hs];omega,by rw [Hid,hs];exact h.2.1,h.2.2⟩
theorem vV_ (R:Nat) (t:List UInt8) (i most:Nat) (vs:List Value) (w:World) (hr:Rdr R t i vs w) (ht:t.length ≤ 100000) (hi:i ≤ t.length) (hm:most ≤ 1000) :
 Calls Tryz.prog 94 #[.pointer (some ⟨R,0,none⟩), .func (.func 144) #[] #[], .int .i64 most] w (RunR qt_ R t i most vs w):=
 (runA_any 144 enters225 qt_ R t i most vs w hr ht hi hm fun c W=>jO_ c W).mono fun _ _ h=>RunR.of hi h
theorem yW_ (R:Nat) (t:List UInt8) (i most:Nat) (vs:List Value) (w:World) (hr:Rdr R t i vs w) (ht:t.length ≤ 100000) (hi:i ≤ t.length) (hm:most ≤ 1000) :
 Calls Tryz.prog 94 #[.pointer (some ⟨R,0,none⟩), .func (.func 97) #[.agg #[.int .u8 97, .int .u8 122]] #[], .int .i64 most] w (RunR qM_ R t i most vs w):=
 (y3_ 97 122 qM_ R t i most vs w hr ht hi hm fun c W=>has_any 97 122 c.toNat W).mono fun _ _ h=>RunR.of hi h
theorem yV_ (R:Nat) (t:List UInt8) (i most:Nat) (vs:List Value) (w:World) (hr:Rdr R t i vs w) (ht:t.length ≤ 100000) (hi:i ≤ t.length) (hm:most ≤ 1000) :
 Calls Tryz.prog 94 #[.pointer (some ⟨R,0,none⟩), .func (.func 97) #[.agg #[.int .u8 48, .int .u8 57]] #[], .int .i64 most] w (RunR qH_ R t i most vs w):=
 (y3_ 48 57 qH_ R t i most vs w hr ht hi hm fun c W=>has_any 48 57 c.toNat W).mono fun _ _ h=>RunR.of hi h
def getE (y:Fo) (p:List Ky):Int:=if qS_ y ≠ 0 then qS_ y else if (atF y p).isSome then 0 else 1
def getN (y:Fo) (p:List Ky):List UInt8 × List Int × Fo:=if getE y p = 0 then (atF y p).getD ([],[], .nil) else ([],[], .nil)
def GetU (y:Fo) (p:List Ky) (w:World) (e:Ending) (w':World):Prop:=
 ∃ n l s an cn ab cb,getN y p = (n,l,s)∧e = .returned (.tuple #[.agg #[.string (bs n), .slice an l.length cn, .slice ab s.len cb], .int .i64 (getE y p)]) ∧
  IntU (Rg w.heap.size w'.heap.size) w' (.slice an l.length cn) l∧FSlU (Rg w.heap.size w'.heap.size) w' (.slice ab s.len cb) s∧Below w.heap.size w w'
theorem GetU.bad {y:Fo} {p:List Ky} {w w':World} {x:Int} (hx:getE y p = x) (h0:x ≠ 0) (hb:Below w.heap.size w w'):GetU y p w (.returned (.tuple #[.agg #[.string { data:=#[] }, .slice none 0 0, .slice none 0 0], .int .i64 x])) w':=by
 subst hx
 exact ⟨[],[], .nil,none,0,none,0,by simp [getN,h0],rfl,⟨rfl,_,0,rfl,nl_ _,by simp [maxLen],fun _=>rfl, .inl rfl⟩,⟨[],⟨rfl,_,0,rfl,nl_ _,by simp [maxLen],fun _=>rfl, .inl rfl⟩,rfl⟩,hb⟩
end Go.Proofs.LF
set_option linter.all false
set_option linter.unusedVariables false
set_option linter.unusedSimpArgs false
namespace Go.Proofs.LF
open Go.RowKit Go.Sort
set_option maxHeartbeats 4000000
set_option maxRecDepth 100000
attribute [local go_sem] q1_ q2_ q8_
theorem xr_ {P:Program} {w:World} {ops:Array Oper} {rest:List Oper} {o:Oper} {a:Act} {Q:Exit→Act→World→Prop} (hg:o.guard = none)
 (m x v:Operand) (t:TypeId) (hop:o.op = Op.mapUpdate t m x v)
 (k e:TypeId) (ht:P.underlying t = some (.map k e)) (hk:P.underlying k = some .string) (he:P.underlying e = some .bool) (b n:Nat) (l:List (List UInt8))
 (hm:a.eval m = .map (some b)) (h:vD_ P k e b n l w) (hn:n < maxLen) (s:List UInt8) (hs:s.length ≤ maxLen) (hx:a.eval x = .string (bs s)) (hv:a.eval v = .bool true)
 (hK:∀ w',vD_ P k e b (n + 1) (s :: l) w'→w.grownBy w' (some b)→wpList P ops Q rest (a.put o.dst undef) w'):wpList P ops Q (o :: rest) a w:=
 wpList_plain hg fun _ hK'=>wp_setPut m x v t hop k e ht hk he b n l hm h hn s hs hx hv fun w' h1 h2=>hK' _ _ (hK w' h1 h2)
theorem Tryz.info65':(Tryz.prog.info? 92).map (fun i=>(i.zero,i.size,i.bytes)) = some (some (.slice none 0 0),1,24):=by kernel_rfl
theorem paths_any (ls:List (List Fl)) (a:Option Addr) (c:Nat) (S:Nat→Prop) (w:World) (hv:LSl rdLs S w (.slice a ls.length c) ls) (hS:∀ b,S b→b < w.heap.size) (hl:ls.length ≤ 1000) (hn:(ls.map List.length).sum ≤ 1000)
 (hok:∀ x ∈ ls.flatten,x.p.length ≤ 1000∧∀ k ∈ x.p,OkK k) (ht:Pow w) :
 Calls Tryz.prog 29 #[.slice a ls.length c] w fun e w'=>∃ a' c',e = .returned (.slice a' (pthsF ls).length c')∧PaSl (fun b=>S b ∨ Rg w.heap.size w'.heap.size b) w' (.slice a' (pthsF ls).length c') (pthsF ls)∧Below w.heap.size w w':=by
 have hmm:=@run_makeMap Tryz.prog
 obtain ⟨i0,hi0,hz0,hz1,hz2⟩:=info_parts Tryz.info65'
 have hb1:Below w.heap.size w (w.alloc (.map #[] 0)):=(Below.refl _ _).alloc (nl_ _) _
 have HC:=hid (wd_ ls a c S _ (hv.agree (qc_ hb1 hS)) (fun b hb=>by have:=hS b hb;simp;omega) hl (by omega))
 have HSM:=hid (vD_.made (P:=Tryz.prog) 9 4 w)
 have HB1:=hid hb1
 have HT:=hid ht
 have HS:=hid hS
 have HOK:=hid hok
 have HNN:=hid hn
 clear hv hS hok hb1 ht hn
 go_enter Tryz.func29,Tryz.ntmps29
 go_wp2_with fail
 refine HC.out.mono ?_
 rintro e w1 ⟨ac,cc,rfl,hF1,hb2⟩
 obtain ⟨all,hall⟩:∃ all,ls.flatten = all:=⟨_,rfl⟩
 have hlen1:all.length ≤ 1000:=by rw [← hall,List.length_flatten];exact HNN.out
 rw [hall] at hF1 ⊢
 have hpf:pthsF ls = xw_ (ddP [] (all.map Fl.p)):=by rw [pthsF,hall]
 have hokA:∀ x ∈ all,x.p.length ≤ 1000∧∀ k ∈ x.p,OkK k:=by rw [← hall];exact HOK.out
 obtain ⟨S1,hS1⟩:∃ S1:Nat→Prop,S1 = fun b=>S b ∨ Rg (w.alloc (.map #[] 0)).heap.size w1.heap.size b:=⟨_,rfl⟩
 rw [← hS1] at hF1
 have hz1':=hb2.size
 simp only [World.size_alloc] at hz1'
 have hS1lt:∀ b,S1 b→b < w1.heap.size∧b ≠ w.heap.size∧(S b ∨ w.heap.size < b):=fun b hb=>by
  rw [hS1] at hb
  rcases hb with hb | hb
  · have:=HS.out b hb;exact ⟨by omega,by omega, .inl hb⟩
  · have h1:=hb.1;have h2:=hb.2;simp only [World.size_alloc] at h1;exact ⟨h2,by omega, .inr (by omega)⟩
 obtain ⟨a',c',he,hc,hcm,hat⟩:=hF1.at
 obtain ⟨rfl,rfl⟩:ac = a'∧cc = c':=by cases he;exact ⟨rfl,rfl⟩
 have HAT:=hid hat
 have HSM1:=hid (HSM.out.kept (hb2.block w.heap.size (by simp)))
 have HB2:=hid (HB1.out.trans (hb2.mono (by simp)))
 have HS1:=hid hS1lt
 have HOKA:=hid hokA
 have HPF:=hid hpf
 have HSE:=hid hS1
 have HZ1:=hid hz1'
 unfold maxLen at hcm
 clear hat he hF1 hb2 hS1lt hokA hpf hS1 hall hz1'
 go_wp2_with fail
 go_loopw [3,12] (fun v i wr=>∃ (k:Nat) (acc:List (List Ky)) (cs:List Value) (l:List (List UInt8)),k ≤ all.length∧acc.length ≤ k∧i = .int .i64 k∧Hid (ddP [] (all.map Fl.p) = ddP acc ((all.map Fl.p).drop k)) ∧
  wr.ownsRow w1.heap.size 92 1 v acc.length cs∧Hid (LCs kM_ S1 wr acc cs)∧Hid (vD_ Tryz.prog 9 4 w.heap.size acc.length l wr)∧Hid (∀ s,s ∈ l ↔ s ∈ acc.map sptL)∧Hid (∀ p ∈ acc,p.length ≤ 1000)∧Hid (Below w.heap.size w wr)∧Hid (∀ b,b < w1.heap.size→b ≠ w.heap.size→wr.heap[b]? = w1.heap[b]?)∧w1.heap.size ≤ wr.heap.size) (fun _ i _=>all.length - (intOf i).toNat)
 case atStart=>exact ⟨0,[],[],[],by omega,by simp,rfl,rfl,World.ownsRow_nil _ _ _ _,rfl,HSM1.out,(fun s=>by simp),(fun p hp=>by cases hp),HB2.out,(fun _ _ _=>rfl),nl_ _⟩
 case round=>
  obtain ⟨k,acc,cs,l,hk,hacc,rfl,hD,hown,hlc,hsm,hmem,hap,hB,hkp,hzr⟩:=hrel
  by_cases hlt:k < all.length
  · have hlt':(k:Int) < (all.length:Int):=by omega
    obtain ⟨g,o,cs1,rfl,hg,⟨ap,cp,an,cn,rfl,hP,hI⟩,hcell⟩:=HAT.out k hlt
    have hg1:=HS1.out g hg
    have c0:=(World.cell?_of_block (w:=w1) (w':=wr) (a:=⟨g,o + (k * 2 + 0),none⟩) (hkp.out g hg1.1 hg1.2.1)).trans (hcell 0 _ rfl)
    have c1:=(World.cell?_of_block (w:=w1) (w':=wr) (a:=⟨g,o + (k * 2 + 1),none⟩) (hkp.out g hg1.1 hg1.2.1)).trans (hcell 1 _ rfl)
    rw [Nat.add_zero] at c0
    rw [← Nat.add_assoc] at c1
    have hagr:qg_ S1 w1 wr:=fun b hb=>hkp.out b (HS1.out b hb).1 (HS1.out b hb).2.1
    have hokk:=HOKA.out all[k] (List.getElem_mem hlt)
    have hdrop:(all.map Fl.p).drop k = all[k].p :: (all.map Fl.p).drop (k + 1):=by
     rw [List.drop_eq_getElem_cons (by simpa using hlt)];simp
    obtain ⟨x,hx⟩:∃ x,all[k] = x:=⟨_,rfl⟩
    rw [hx] at c0 c1 hP hI hokk hdrop
    have hW:Below w.heap.size w (wr.alloc (.cells #[.slice ap x.p.length cp, .slice an x.l.length cn] 98)):=hB.out.alloc (by have:=HZ1.out;omega) _
    have hspl:=spelt_any x.p ap cp S1 (wr.alloc (.cells #[.slice ap x.p.length cp, .slice an x.l.length cn] 98)) ((hP.agree hagr).agree (fun b hb=>heap_alloc_old _ _ (by have:=(HS1.out b hb).1;omega))) (fun b hb=>by have:=(HS1.out b hb).1;simp;omega) hokk.1 hokk.2 (HT.out.below hW)
    have hsl:=yi_ hokk.2
    have HSPL:=hid hspl
    have HW:=hid hW
    have HDR:=hid hdrop
    have HOK:=hid hokk
    have HPp:=hid (hP.agree hagr)
    have HX:=hid hx
    have hsl2:(sptL x.p).length ≤ 1006000:=by have:=hokk.1;omega
    clear hcell hspl hW hdrop hokk hP hI hx hagr hsl
    go_wp2_with fail
    refine HSPL.out.mono ?_
    rintro e w3 ⟨rfl,hb3⟩
    have hz3:=hb3.size
    simp only [World.size_alloc] at hz3
    have hml:w.heap.size < wr.heap.size:=by have:=HZ1.out;omega
    have hsm3:Hid (vD_ Tryz.prog 9 4 w.heap.size acc.length l w3):=hsm.out.kept ((hb3.block _ (by simp;omega)).trans (heap_alloc_old _ _ hml))
    have hf3:=(hb3.block wr.heap.size (by simp)).trans (ha_ _ _)
    have m0:=cg_ hf3 (k:=0) rfl
    have ow3:w3.ownsRow w1.heap.size 92 1 u3 acc.length cs:=ob_ (hown.alloc _) hb3 (nl_ _)
    have HB3:=hid (HW.out.trans (hb3.mono (by simp;omega)))
    have HK3:Hid (∀ b,b < wr.heap.size→w3.heap[b]? = wr.heap[b]?):=fun b hb=>(hb3.block b (by simp;omega)).trans (heap_alloc_old _ _ hb)
    have HF3:=hid hf3
    have hzb:(zeroValue 4).run Tryz.prog w3 = .ok (.bool false) w3:=Tryz.zeroValue4 w3
    have HZB:=hid hzb
    clear hf3 hb3 hzb
    obtain ⟨sp,hsp⟩:∃ sp,sptL x.p = sp:=⟨_,rfl⟩
    rw [hsp] at hsl2 ⊢
    have HSP:=hid hsp
    clear hsp
    have hss:sp.length ≤ maxLen:=by unfold maxLen;omega
    by_cases hmt:sp ∈ l
    · have hdm:decide (sp ∈ l) = true:=by simp [hmt]
      have hdd:Hid (ddP [] (all.map Fl.p) = ddP acc ((all.map Fl.p).drop (k + 1))):=by
       rw [Hid,hD.out,HDR.out]
       simp only [ddP]
       rw [if_pos (by rw [HSP.out];exact (hmem.out sp).1 hmt)]
      clear hmt
      go_wp2_with (at_lookup;refine zY_ rfl _ _ 179 rfl 9 4 Tryz.underlying179 Tryz.underlying9 Tryz.underlying4 HZB.out w.heap.size acc.length l rfl hsm3.out sp hss rfl ?_)
      have hag3:qg_ S1 wr w3:=fun b hb=>HK3.out b (by have:=(HS1.out b hb).1;omega)
      have hkp3:Hid (∀ b,b < w1.heap.size→b ≠ w.heap.size→w3.heap[b]? = w1.heap[b]?):=fun b h1 h2=>(HK3.out b (by omega)).trans (hkp.out b h1 h2)
      go_roundw
      case rel=>exact ⟨k + 1,acc,cs,l,by omega,by omega,by go_num,hdd,ow3,hlc.out.agree hag3,hsm3,hmem,hap,HB3,hkp3,by omega⟩
      case measure=>simp [intOf];omega
    · have hdm:decide (sp ∈ l) = false:=by simp [hmt]
      have hdd:Hid (ddP [] (all.map Fl.p) = ddP (acc ++ [x.p]) ((all.map Fl.p).drop (k + 1))):=by
       rw [Hid,hD.out,HDR.out]
       simp only [ddP]
       rw [if_neg (by rw [HSP.out];exact fun e=>hmt ((hmem.out sp).2 e))]
      clear hmt
      have hag3:qg_ S1 wr w3:=fun b hb=>HK3.out b (by have:=(HS1.out b hb).1;omega)
      have HAG3:=hid hag3
      clear hag3
      have hlen3:acc.length ≤ 1000:=by omega
      have hb13:w1.heap.size ≤ w3.heap.size:=by omega
      go_wp2_with (first
       | (at_lookup;refine zY_ rfl _ _ 179 rfl 9 4 Tryz.underlying179 Tryz.underlying9 Tryz.underlying4 HZB.out w.heap.size acc.length l rfl hsm3.out sp hss rfl ?_)
       | (at_builtin;refine (q9_ _ rfl _ _ _ rfl w1.heap.size 92 i0 _ 1 24 Tryz.underlying39 hi0 hz0 hz1 hz2 rfl (by omega) u3 acc.length cs rfl (ow3.alloc _) (some ⟨w3.heap.size,0,none⟩) 1 1 [.slice ap x.p.length cp] rfl rfl (fun h=>by cases h) (fun ad had=>by cases had;exact World.news_of_block (cs:=#[.slice ap x.p.length cp]) (t:=92) (fr:=(0,0)) (ha_ _ _)) (by simp [Value.oneCell']) (by unfold maxLen;omega) (by omega) (by simp;omega) ?_);intro a4 c4 w4 hown4 hgrow4 hat4;have hsm4:=hid (hsm3.out.kept ((hgrow4.block w.heap.size (by simp;omega) (fun e=>by have:=(ow3.lt _ e.symm).1;have:=HZ1.out;omega)).trans (heap_alloc_old _ _ (by omega)))))
       | (at_mapUpdate;refine xr_ rfl _ _ _ 179 rfl 9 4 Tryz.underlying179 Tryz.underlying9 Tryz.underlying4 w.heap.size acc.length l rfl hsm4.out (by unfold maxLen;omega) sp hss rfl rfl ?_;intro w5 hsm5 hgrow5))
      have hwl:w.heap.size < w1.heap.size:=by have:=HZ1.out;omega
      have hfar:∀ b,b < w3.heap.size→b ≠ w.heap.size→u3.ownBlock ≠ some b→w5.heap[b]? = w3.heap[b]?:=fun b h1 h2 h3=>by
       have hg4:=hgrow4.size
       simp only [World.size_alloc] at hg4
       exact (hgrow5.block b (by omega) (fun e=>h2 (Option.some.inj e))).trans ((hgrow4.block b (by simp;omega) (fun e=>h3 e.symm)).trans (heap_alloc_old _ _ h1))
      have hul:∀ b,u3.ownBlock = some b→w1.heap.size ≤ b:=fun b hb=>(ow3.lt b hb).1
      have hag5:qg_ S1 w3 w5:=fun b hb=>by
       have h1:=HS1.out b hb
       exact hfar b (by omega) h1.2.1 (fun e=>by have:=hul b e;omega)
      have hkp5:Hid (∀ b,b < w1.heap.size→b ≠ w.heap.size→w5.heap[b]? = w1.heap[b]?):=fun b h1 h2=>(hfar b (by omega) h2 (fun e=>by have:=hul b e;omega)).trans ((HK3.out b (by omega)).trans (hkp.out b h1 h2))
      have how5:w5.ownsRow w1.heap.size 92 1 (.slice a4 (acc.length + 1) c4) (acc.length + 1) (cs ++ [.slice ap x.p.length cp]):=q3_ hown4 fun g hg=>by
       have h1:=hown4.lt g hg
       exact hgrow5.block g h1.2 (fun e=>by have:=Option.some.inj e;omega)
      have hlc5:LCs kM_ S1 w5 (acc ++ [x.p]) (cs ++ [.slice ap x.p.length cp]):=((hlc.out.agree HAG3.out).agree hag5).app (LCs.single ⟨ap,cp,rfl,(HPp.out.agree HAG3.out).agree hag5⟩)
      have hmem5:Hid (∀ s,s ∈ sp :: l ↔ s ∈ (acc ++ [x.p]).map sptL):=fun s=>by
       rw [List.map_append,List.mem_append,List.mem_cons,hmem.out s,← HSP.out]
       simp only [List.map_cons,List.map_nil,List.mem_singleton]
       exact Or.comm
      have hap5:Hid (∀ p ∈ acc ++ [x.p],p.length ≤ 1000):=fun p hp=>by
       rcases List.mem_append.1 hp with h | h
       · exact hap.out p h
       · simp only [List.mem_singleton] at h;rw [h];exact HOK.out.1
      have hsz4:=hgrow4.size
      simp only [World.size_alloc] at hsz4
      have hB5:Hid (Below w.heap.size w w5):=((HB3.out.alloc HB3.out.size _).grown hgrow4 (by have:=HB3.out.size;simp;omega) (fun k hk=>by have:=hul k hk;omega)).grown hgrow5 (by have:=HB3.out.size;omega) (fun k hk=>by rw [Option.some.inj hk];exact nl_ _)
      have hz5:=hgrow5.size
      go_roundw
      case rel=>exact ⟨k + 1,acc ++ [x.p],cs ++ [.slice ap x.p.length cp],sp :: l,by omega,by simp;omega,by go_num,hdd,by simpa using how5,hid hlc5,by simpa [Hid] using hsm5,hmem5,hap5,hB5,hkp5,by omega⟩
      case measure=>simp [intOf];omega
  · obtain rfl:k = all.length:=by omega
    have hlt':¬ (all.length:Int) < (all.length:Int):=by omega
    have hdn:ddP [] (all.map Fl.p) = acc:=by
     rw [hD.out,List.drop_eq_nil_of_le (by simp)];rfl
    have HDN:=hid hdn
    clear hdn
    go_wp2_with fail
    refine (yr_ acc _ w1.heap.size cs S1 wr hown hlc.out (fun b hb=>by
     have h1:=(HS1.out b hb).1
     exact ⟨by omega,fun e=>by have:=(hown.lt b e).1;omega⟩) hap.out (by omega)).mono ?_
    rintro e w6 ⟨rfl,cs6,hown6,hlc6,hgrow6⟩
    have HB6:=hid (hB.out.grown hgrow6 (by have:=HZ1.out;omega) (fun k hk=>by have:=(hown.lt k hk).1;have:=HZ1.out;omega))
    go_wp2_with fail
    go_ret
    obtain ⟨a9,c9,rfl,_,_⟩:=owns_shape hown6
    have hlen:(xw_ acc).length = acc.length:=(z1_ acc).length_eq
    rw [HPF.out,HDN.out,hlen]
    have hz6:=hgrow6.size
    refine ⟨a9,c9,by simp,⟨cs6,?_,?_⟩,HB6.out⟩
    · rw [hlen]
      exact (SlC.of_owns hown6).wide fun b hb => .inr ⟨by have:=hb.1;have:=HZ1.out;omega,hb.2⟩
    · refine hlc6.wide fun b hb=>?_
      have h1:=HS1.out b hb
      rcases h1.2.2 with h | h
      · exact .inl h
      · exact .inr ⟨by omega,by omega⟩
end Go.Proofs.LF
namespace Go.Proofs.LF
open Go.RowKit Go.Sort
set_option maxHeartbeats 4000000
set_option maxRecDepth 100000
theorem yf_ {tmps:Array Value} {W:World} {b:Nat} {x y t3:Value} (h:W.heap[b]? = some (.cells #[x,y] 98 (0,0))) (h2:tmps.getD 2 undef = .pointer (some ⟨b,0,none⟩)) (h3:tmps.getD 3 undef = t3) :
 (results Tryz.f46 tmps).run Tryz.prog W = .ok (.tuple #[.agg #[x,y],t3]) W:=by
 have h0:=cg_ h (k:=0) rfl
 have h1:=cg_ h (k:=1) rfl
 rw [results_cell_tmp rfl,h2,h3]
 simp [go_sem,h0,h1]
theorem ko_ {W:World} {b:Nat} {x y x' y':Value} (h:W.heap[b]? = some (.cells #[x,y] 98 (0,0))):((W.setCell ⟨b,0,none⟩ x').setCell ⟨b,1,none⟩ y').heap[b]? = some (.cells #[x',y'] 98 (0,0)):=by
 simp [World.setCell,Array.getElem?_modify,h]
theorem ju_ {m:Nat} {s:List UInt8} (h:qC_ qt_ 1 s = 0):qo_ m s = ([],0,true):=by
 cases m <;> simp [qo_,h]
theorem yZ_ {m:Nat} {s:List UInt8} (h:qC_ qt_ 1 s ≠ 0) (h2:qC_ qH_ (zp_ (s.drop 1)) (s.drop 1) = 0):qo_ (m + 1) s = ([],1,false):=by
 simp only [qo_,h,h2,if_false,if_true]
theorem rdNums_go {m n:Nat} {s:List UInt8} (h:qC_ qt_ 1 s ≠ 0) (h2:n = qC_ qH_ (zp_ (s.drop 1)) (s.drop 1)) (h3:n ≠ 0):qo_ (m + 1) s = (((xU_ ((s.drop 1).take n):Nat):Int) :: (qo_ m (s.drop (1 + n))).1,1 + n + (qo_ m (s.drop (1 + n))).2.1,(qo_ m (s.drop (1 + n))).2.2):=by
 subst h2
 simp only [qo_,h,h3,if_false,List.drop_drop]
theorem nxt_eq {t:List UInt8} {q:Nat} {c:UInt8} (h0:c ≠ 0):nxt t q = (c.toNat:Int) ↔ (t.drop q).head? = some c:=by
 unfold nxt
 split
 · rename_i h
   rw [List.drop_eq_getElem_cons h,List.head?_cons,Option.some.injEq]
   constructor
   · intro e
     exact UInt8.toNat_inj.1 (by omega)
   · intro e;rw [e]
 · rename_i h
   rw [List.drop_eq_nil_of_le (by omega)]
   simp only [List.head?_nil,reduceCtorEq,iff_false]
   intro e
   exact h0 (UInt8.toNat_inj.1 (by simp;omega))
theorem yY_ (R:Nat) (t:List UInt8) (i:Nat) (vs:List Value) (w:World) (hr:Rdr R t i vs w) (ht:t.length ≤ 100000) (hi:i ≤ t.length) {M:Nat} (hm:zp_ (t.drop i) = M) :
 Calls Tryz.prog 94 #[.pointer (some ⟨R,0,none⟩), .func (.func 97) #[.agg #[.int .u8 48, .int .u8 57]] #[], .int .i64 M] w (RunR qH_ R t i (zp_ (t.drop i)) vs w):=by
 have h4:zp_ (t.drop i) ≤ 4:=by unfold zp_;split <;> omega
 subst hm
 exact yV_ R t i _ vs w hr ht hi (by omega)
theorem mostD_le (s:List UInt8):zp_ s ≤ 4:=by unfold zp_;split <;> omega
theorem run_all {p:UInt8→Bool}:∀ {m:Nat} {s:List UInt8},∀ c ∈ s.take (qC_ p m s),p c = true
 | 0,s,c,h=>by simp [qC_] at h
 | _ + 1,[],c,h=>by simp [qC_] at h
 | m + 1,d :: r,c,h=>by
   simp only [qC_] at h
   split at h
   · rename_i hd
     rw [List.take_succ_cons] at h
     rcases List.mem_cons.1 h with rfl | h
     · exact hd
     · exact run_all c h
   · simp at h
theorem w7_ {B:Nat} {w11 w12:World} {o:Obj} {cs:Array Value} {nv:Value} {k:Nat} {xs:List Value} (h:w11.heap[B]? = some (.cells cs 109 (0,0))) (ho:w11.ownsRow (B + 1) 3 1 nv k xs) (hg:(w11.alloc o).grownBy w12 nv.ownBlock):Hid (w12.heap[B]? = some (.cells cs 109 (0,0))):=by
 have hlt:=(ge_ h).1
 exact (hg.block B (by simp;omega) (fun e=>by have:=(ho.lt B e.symm).1;omega)).trans ((heap_alloc_old _ _ hlt).trans h)
theorem Keep.grownNew {O:Nat→Prop} {A B C:World} {row:Option Nat} (h:Keep O A B) (hg:B.grownBy C row) (hr:∀ b,row = some b→A.heap.size ≤ b):Keep O A C:=
 ⟨hg.os.trans h.os,hg.tape.trans h.tape,hg.output.trans h.output,Nat.le_trans h.size hg.size,fun b hb ho=>(hg.block b (Nat.lt_of_lt_of_le hb h.size) (fun e=>by have:=hr b e.symm;omega)).trans (h.block b hb ho)⟩
theorem Rdr.setFar {R b k:Nat} {t:List UInt8} {i:Nat} {vs:List Value} {w:World} {u:Value} (h:Rdr R t i vs w) (hb:R ≠ b):Rdr R t i vs (w.setCell ⟨b,k,none⟩ u):=(Below.heap_setCell _ _ _ _ hb).trans h
theorem Rdr.alloc {R:Nat} {t:List UInt8} {i:Nat} {vs:List Value} {w:World} (h:Rdr R t i vs w) (o:Obj):Rdr R t i vs (w.alloc o):=(heap_alloc_old _ _ h.lt).trans h
theorem keys_set {kys:List Ky} {d:Nat} {k:Ky} {fd:Value} (hk:kys.length = 4) (hd:d ≤ 3):(((kys.flatMap Ky.cells ++ [fd]).set (d * 3) (.string (bs k.n))).set (d * 3 + 1) (.bool k.h)).set (d * 3 + 2) (.int .i64 k.x) = (kys.set d k).flatMap Ky.cells ++ [fd]:=by
 match kys,hk with
 | [a,b,c,e],_=>
   match d,hd with
   | 0,_=>rfl
   | 1,_=>rfl
   | 2,_=>rfl
   | 3,_=>rfl
theorem keys_at {kys:List Ky} {d:Nat} {fd:Value} (hk:kys.length = 4) (hd:d ≤ 3):∃ a b c,(kys.flatMap Ky.cells ++ [fd])[d * 3]? = some a∧(kys.flatMap Ky.cells ++ [fd])[d * 3 + 1]? = some b∧(kys.flatMap Ky.cells ++ [fd])[d * 3 + 2]? = some c:=by
 match kys,hk with
 | [a,b,c,e],_=>
   match d,hd with
   | 0,_=>exact ⟨_,_,_,rfl,rfl,rfl⟩
   | 1,_=>exact ⟨_,_,_,rfl,rfl,rfl⟩
   | 2,_=>exact ⟨_,_,_,rfl,rfl,rfl⟩
   | 3,_=>exact ⟨_,_,_,rfl,rfl,rfl⟩
theorem rdr_key {R d:Nat} {t:List UInt8} {i:Nat} {a b c k:Value} {ks:List Value} {w:World} (h:Rdr R t i (a :: b :: c :: ks) w) (hk:ks[d * 3]? = some k):w.cell? ⟨R,5 + d * 3,none⟩ = some k:=by
 have:=h.cV (j:=d * 3 + 3) (v:=k) (by simpa using hk)
 rwa [show 5 + d * 3 = d * 3 + 3 + 2 by omega]
theorem rdr_key1 {R d:Nat} {t:List UInt8} {i:Nat} {a b c k:Value} {ks:List Value} {w:World} (h:Rdr R t i (a :: b :: c :: ks) w) (hk:ks[d * 3 + 1]? = some k):w.cell? ⟨R,5 + d * 3 + 1,none⟩ = some k:=by
 have:=h.cV (j:=d * 3 + 1 + 3) (v:=k) (by simpa using hk)
 rwa [show 5 + d * 3 + 1 = d * 3 + 1 + 3 + 2 by omega]
theorem rdr_key2 {R d:Nat} {t:List UInt8} {i:Nat} {a b c k:Value} {ks:List Value} {w:World} (h:Rdr R t i (a :: b :: c :: ks) w) (hk:ks[d * 3 + 2]? = some k):w.cell? ⟨R,5 + d * 3 + 2,none⟩ = some k:=by
 have:=h.cV (j:=d * 3 + 2 + 3) (v:=k) (by simpa using hk)
 rwa [show 5 + d * 3 + 2 = d * 3 + 2 + 3 + 2 by omega]
theorem rdr_last {R d:Nat} {t:List UInt8} {i:Nat} {a b c:Value} {kys:List Ky} {fd:Value} {w:World} (h:Rdr R t i (a :: b :: c :: (kys.flatMap Ky.cells ++ [fd])) w) (hk:kys.length = 4) (hd:d ≤ 3) (k:Ky) (c':Value) :
 Rdr R t i (a :: b :: c' :: ((kys.set d k).flatMap Ky.cells ++ [fd])) ((((w.setCell ⟨R,5 + d * 3,none⟩ (.string (bs k.n))).setCell ⟨R,5 + d * 3 + 1,none⟩ (.bool k.h)).setCell ⟨R,5 + d * 3 + 2,none⟩ (.int .i64 k.x)).setCell ⟨R,4,none⟩ c'):=by
 have h1:=(((h.setV (3 + d * 3) (.string (bs k.n))).setV (3 + d * 3 + 1) (.bool k.h)).setV (3 + d * 3 + 2) (.int .i64 k.x)).setV 2 c'
 rw [show 3 + d * 3 + 2 + 2 = 5 + d * 3 + 2 by omega,show 3 + d * 3 + 1 + 2 = 5 + d * 3 + 1 by omega,show 3 + d * 3 + 2 = 5 + d * 3 by omega] at h1
 have e:((((a :: b :: c :: (kys.flatMap Ky.cells ++ [fd])).set (3 + d * 3) (.string (bs k.n))).set (3 + d * 3 + 1) (.bool k.h)).set (5 + d * 3) (.int .i64 k.x)).set 2 c' = a :: b :: c' :: ((kys.set d k).flatMap Ky.cells ++ [fd]):=by
  rw [← keys_set hk hd,show 3 + d * 3 = d * 3 + 1 + 1 + 1 by omega,show 5 + d * 3 = d * 3 + 2 + 1 + 1 + 1 by omega]
  simp only [List.set_cons_succ,List.set_cons_zero]
 rw [e] at h1
 exact h1
theorem rdr_path {R d:Nat} {t:List UInt8} {i:Nat} {a b c:Value} {kys:List Ky} {fd:Value} {w:World} (h:Rdr R t i (a :: b :: c :: (kys.flatMap Ky.cells ++ [fd])) w) (hk:kys.length = 4) (hd:d ≤ 3) :
 Pth (· = R) w (.slice (some ⟨R,5,none⟩) (kys.take (d + 1)).length 4) (kys.take (d + 1)):=by
 have hl:(kys.take (d + 1)).length = d + 1:=by rw [List.length_take];omega
 refine ⟨zx_ _,some ⟨R,5,none⟩,4,rfl,by omega,by simp [maxLen],(fun e=>by cases e), .inr ⟨R,5,rfl,rfl,fun j u hj=>?_⟩⟩
 have hj2:(kys.flatMap Ky.cells ++ [fd])[j]? = some u:=by
  have h3:=(List.getElem?_eq_some_iff.1 hj).1
  have e:kys.flatMap Ky.cells = (kys.take (d + 1)).flatMap Ky.cells ++ (kys.drop (d + 1)).flatMap Ky.cells:=by
   rw [← List.flatMap_append,List.take_append_drop]
  rw [e,List.append_assoc,List.getElem?_append_left h3]
  exact hj
 have:=h.cV (j:=j + 3) (v:=u) (by simpa using hj2)
 rwa [show 5 + j = j + 3 + 2 by omega]
theorem jB_ (p:List Ky) (a:Option Addr) (n:Nat) (hn:p.length = n) (c:Nat) (hlen:n ≤ 1000) (S:Nat→Prop) (w:World) (hv:Pth S w (.slice a p.length c) p) (hS:∀ b,S b→b < w.heap.size) :
 Calls Tryz.prog 31 #[.slice a n c] w fun e w'=>∃ a' c',e = .returned (.slice a' n c')∧Pth (Rg w.heap.size w'.heap.size) w' (.slice a' n c') p∧Below w.heap.size w w':=by
 subst hn
 exact kr_ p a c S w hv hS hlen
def ReadR (R:Nat) (t:List UInt8) (i ln dp:Nat) (kys:List Ky) (fd:Value) (w:World) (e:Ending) (w':World):Prop:=
 ((rdLine dp (t.drop i)).2.2.2.2 = false∧e = .returned (.tuple #[.agg #[.slice none 0 0, .slice none 0 0], .bool false]) ∧
   (∃ vs,Rdr R t (i + (rdLine dp (t.drop i)).2.2.2.1) (.int .i64 ln :: .int .i64 i :: vs) w')∧Keep (· = R) w w') ∨
 ((rdLine dp (t.drop i)).2.2.2.2 = true∧∃ ap cp an cn,e = .returned (.tuple #[.agg #[.slice ap ((rdLine dp (t.drop i)).1 + 1) cp, .slice an (rdLine dp (t.drop i)).2.2.1.length cn], .bool true]) ∧
   Pth (Rg w.heap.size w'.heap.size) w' (.slice ap ((rdLine dp (t.drop i)).1 + 1) cp) ((kys.set (rdLine dp (t.drop i)).1 (qn_ (rdLine dp (t.drop i)).2.1 (rdLine dp (t.drop i)).2.2.1)).take ((rdLine dp (t.drop i)).1 + 1)) ∧
   zh_ (Rg w.heap.size w'.heap.size) w' (.slice an (rdLine dp (t.drop i)).2.2.1.length cn) (rdLine dp (t.drop i)).2.2.1 ∧
   Rdr R t (i + (rdLine dp (t.drop i)).2.2.2.1) (.int .i64 ln :: .int .i64 i :: .int .i64 (min ((rdLine dp (t.drop i)).1 + 1) 3:Nat) :: ((kys.set (rdLine dp (t.drop i)).1 (qn_ (rdLine dp (t.drop i)).2.1 (rdLine dp (t.drop i)).2.2.1)).flatMap Ky.cells ++ [fd])) w'∧Keep (· = R) w w')
theorem rdLine_no {dp d:Nat} {s:List UInt8} (h1:d = qC_ qt_ dp s) (h2:qC_ qM_ 8 (s.drop d) = 0):rdLine dp s = (d,[],[],d,false):=by
 subst h1
 simp only [rdLine]
 rw [if_pos h2]
theorem rdLine_of {dp d k:Nat} {s:List UInt8} {r:List Int × Nat × Bool} (h1:d = qC_ qt_ dp s) (h2:k = qC_ qM_ 8 (s.drop d)) (h3:k ≠ 0) (h4:qo_ 4 (s.drop (d + k)) = r):rdLine dp s = (d,(s.drop d).take k,r.1,d + k + r.2.1,r.2.2 && ((s.drop (d + (k + r.2.1))).head? == some 10)):=by
 subst h1;subst h2;subst h4
 simp only [rdLine]
 rw [if_neg h3]
 simp only [List.drop_drop]
def putN (n:List UInt8) (l:List Int) (s:Fo) (y:Fo):Fo:=
 if fndN y (qn_ n l) < y.len∧byK (keyD y (fndN y (qn_ n l))) (qn_ n l) = 0 then y.setN (fndN y (qn_ n l)) n l s else y.insN (fndN y (qn_ n l)) n l s
def modK (k:Ky) (f:Fo→Fo):Fo→Fo
 | .nil => .nil
 | .cons n l s r=>if qn_ n l = k then .cons n l (f s) r else .cons n l s (modK k f r)
def putF (n:List UInt8) (l:List Int) (s:Fo):List Ky→Fo→Fo
 | [],y=>putN n l s y
 | k :: r,y=>modK k (putF n l s r) y
theorem Fo.Sm.app:∀ {y z:Fo},y.Sm→z.Sm→(y.app z).Sm
 | .nil,_,_,h=>h
 | .cons _ _ _ _,_,⟨h1,h2,h3,h4,h5⟩,h=>⟨h1,h2,h3,h4,h5.app h⟩
theorem Fo.Sm.take:∀ {i:Nat} {y:Fo},y.Sm→(y.take i).Sm
 | 0,_,_=>trivial
 | _ + 1, .nil,_=>trivial
 | i + 1, .cons _ _ _ _,⟨h1,h2,h3,h4,h5⟩=>⟨h1,h2,h3,h4,Fo.Sm.take (i:=i) h5⟩
theorem Fo.len_le_cnt:∀ (y:Fo),y.len ≤ y.cnt
 | .nil=>nl_ _
 | .cons n l s r=>by have:=Fo.len_le_cnt r;simp only [Fo.len,Fo.cnt];omega
def Fo.Nm:Fo→Prop
 | .nil=>True
 | .cons n l s r=>n.length ≤ 1000∧l.length ≤ 1000∧s.Nm∧r.Nm
theorem Fo.Sm.nm:∀ {y:Fo},y.Sm→y.Nm
 | .nil,_=>trivial
 | .cons _ _ _ _,⟨h1,h2,_,h4,h5⟩=>⟨h1,h2,h4.nm,h5.nm⟩
theorem Fo.Nm.sm:∀ {y:Fo},y.Nm→y.cnt ≤ 1000→y.Sm
 | .nil,_,_=>trivial
 | .cons n l s r,⟨h1,h2,h4,h5⟩,hc=>by
   simp only [Fo.cnt] at hc
   have:=Fo.len_le_cnt s
   exact ⟨h1,h2,by omega,h4.sm (by omega),h5.sm (by omega)⟩
theorem Fo.Nm.app:∀ {y z:Fo},y.Nm→z.Nm→(y.app z).Nm
 | .nil,_,_,h=>h
 | .cons _ _ _ _,_,⟨h1,h2,h4,h5⟩,h=>⟨h1,h2,h4,h5.app h⟩
theorem Fo.Nm.take:∀ {i:Nat} {y:Fo},y.Nm→(y.take i).Nm
 | 0,_,_=>trivial
 | _ + 1, .nil,_=>trivial
 | i + 1, .cons _ _ _ _,⟨h1,h2,h4,h5⟩=>⟨h1,h2,h4,Fo.Nm.take (i:=i) h5⟩
theorem Fo.Nm.drop:∀ {i:Nat} {y:Fo},y.Nm→(y.drop i).Nm
 | 0,_,h=>h
 | _ + 1, .nil,h=>h
 | i + 1, .cons _ _ _ r,⟨_,_,_,h⟩=>Fo.Nm.drop (i:=i) (y:=r) h
def putE (y:Fo) (p:List Ky) (n:List UInt8) (l:List Int) (s:Fo):Int:=
 if qS_ y ≠ 0 then qS_ y else if (atF y p).isNone∧p ≠ [] then 1 else if 60 < 1 + s.cnt then 2 else qS_ (putF n l s p y)
def putY (y:Fo) (p:List Ky) (n:List UInt8) (l:List Int) (s:Fo):Fo:=if putE y p n l s = 0 then putF n l s p y else .nil
end Go.Proofs.LF