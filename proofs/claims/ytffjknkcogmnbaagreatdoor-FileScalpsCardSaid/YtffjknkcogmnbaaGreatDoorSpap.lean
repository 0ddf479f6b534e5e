/- Parts of the proof of a law of layer 11 (file): LfYal. The conditions stand in each theorem. -/
import Derived.Shelf.SlSortCmp.NoneTotal
import Derived.Shelf.SlSortCmp.Whole1
import Derived.Test.YtffjknkcogmnbaaGreatDoorProg
import Derived.Test.YtffjknkcogmnbaaGreatDoorSpaa
import Derived.Test.YtffjknkcogmnbaaGreatDoorSpac
import Derived.Test.YtffjknkcogmnbaaGreatDoorSpae
import Derived.Test.YtffjknkcogmnbaaGreatDoorSpah
import Derived.Test.YtffjknkcogmnbaaGreatDoorSpai
import Derived.Test.YtffjknkcogmnbaaGreatDoorSpak
import Derived.Test.YtffjknkcogmnbaaGreatDoorSpal
import Derived.Test.YtffjknkcogmnbaaGreatDoorSpan
import Derived.Test.YtffjknkcogmnbaaGreatDoorSpao
set_option linter.all false
set_option linter.unusedVariables false
set_option linter.unusedSimpArgs false
set_option linter.all false
set_option linter.unusedVariables false
set_option linter.unusedSimpArgs false
namespace Go.Proofs.LF
open Go.RowKit Go.Sort
set_option maxHeartbeats 4000000
set_option maxRecDepth 100000
attribute [local go_sem] q1_ q2_ q6_
abbrev PthU (S:Nat→Prop) (w:World) (v:Value) (p:List Ky):Prop:=Pth (US S w) w v p
theorem PthU.agree {S:Nat→Prop} {w w':World} {v:Value} {p:List Ky} (h:PthU S w v p) (ha:qd_ S w w'):PthU S w' v p:=(Pth.agree h (US.agree ha).1).wide (US.agree ha).2
theorem PthU.wide {S S':Nat→Prop} {w:World} {v:Value} {p:List Ky} (h:PthU S w v p) (hs:∀ b,S b→S' b):PthU S' w v p:=Pth.wide h (US.wide hs)
theorem Stable.pthu (v:Value) (p:List Ky):Stable (fun S w=>PthU S w v p):=⟨fun h=>PthU.agree h,fun h=>PthU.wide h⟩
theorem cloneK_u (p:List Ky) (a:Option Addr) (c:Nat) (S:Nat→Prop) (w:World) (hv:Pth S w (.slice a p.length c) p) (hS:∀ b,S b→b < w.heap.size) (hlen:p.length ≤ 1000) :
 Calls Tryz.prog 31 #[.slice a p.length c] w fun e w'=>∃ a' c',e = .returned (.slice a' p.length c')∧PthU (Rg w.heap.size w'.heap.size) w' (.slice a' p.length c') p∧Below w.heap.size w w':=by
 obtain ⟨j0,hj0,hy0,hy1,hy2⟩:=info_parts Tryz.info71'
 have hcaps:=SlC.caps hv
 have hlk:=zm_ p
 have q65:∀ (w:World) (a:Option Addr) (n c:Nat),(binOp .eql 92 (.slice a n c) (.slice none 0 0)).run Tryz.prog w = .ok (.bool a.isNone) w:=fun w a n c=>Lib.run_eql_slice_nil w 92 96 a n c 0 0 Tryz.underlying92
 cases a with
 | none=>
   obtain ⟨h0,rfl⟩:=hcaps.2.2 rfl
   obtain rfl:p = []:=List.eq_nil_of_length_eq_zero h0
   simp only [List.length_nil]
   go_enter Tryz.func31,Tryz.ntmps31
   go_wp2_with fail
   go_ret
   exact ⟨none,0,rfl,⟨rfl,none,0,rfl,nl_ _,by simp [maxLen],fun _=>rfl, .inl rfl⟩,Below.refl _ _⟩
 | some ad=>
   have hbel:Below w.heap.size w (w.alloc (.cells #[] 96)):=(Below.refl _ _).alloc (nl_ _) _
   have hnews:=SlC.news hv (q9_ hbel hS)
   have how:(w.alloc (.cells #[] 96)).ownsRow w.heap.size 96 3 (.slice (some ⟨w.heap.size,0,none⟩) 0 0) 0 []:=qB_ (n:=0) (cap:=0) (cur:=#[]) (nl_ _) (ha_ _ _) (by omega) (by unfold maxLen;omega) (by simp) (by simp)
   have HB:=hid hbel
   clear hbel hv
   go_enter Tryz.func31,Tryz.ntmps31
   go_wp2_with (at_builtin;go_loud (refine q5_ _ rfl _ _ _ rfl w.heap.size 96 j0 _ 3 32 Tryz.underlying92 hj0 hy0 hy1 hy2 rfl (by omega) _ 0 [] rfl how (some ad) p.length c _ rfl hlk (fun h=>by cases h) hnews (xr_ p) (by unfold maxLen;omega) (by omega) (by simp) ?_);intro a1 c1 w1 hown1 hgrow1 hat1)
   simp only [Nat.zero_add,List.nil_append] at hown1
   go_ret
   refine ⟨a1,c1,by simp,SlC.of_owns_u hown1,HB.out.grown hgrow1 (by simp) (fun b hb=>by cases hb;exact nl_ _)⟩
theorem qO_ {p:List Ky} {k:Nat} (h:k < p.length):(p.flatMap Ky.cells)[k * 3]? = some (.string (bs p[k].n))∧(p.flatMap Ky.cells)[k * 3 + 1]? = some (.bool p[k].h)∧(p.flatMap Ky.cells)[k * 3 + 2]? = some (.int .i64 p[k].x):=by
 have e:p.flatMap Ky.cells = (p.take k).flatMap Ky.cells ++ (Ky.cells p[k] ++ (p.drop (k + 1)).flatMap Ky.cells):=by
  conv=>lhs;rw [← List.take_append_drop k p,List.drop_eq_getElem_cons h]
  rw [List.flatMap_append,List.flatMap_cons]
 have hl:((p.take k).flatMap Ky.cells).length = k * 3:=by rw [zm_,List.length_take];congr 1;omega
 rw [e]
 refine ⟨?_,?_,?_⟩ <;> rw [List.getElem?_append_right (by omega),hl] <;> simp [Ky.cells]
theorem xZ_ (p q:List Ky) (ap aq:Option Addr) (cp cq:Nat) (S:Nat→Prop) (w:World) (hp:Pth S w (.slice ap p.length cp) p) (hq:Pth S w (.slice aq q.length cq) q) (hS:∀ b,S b→b < w.heap.size) (lp:p.length ≤ 1000) (lq:q.length ≤ 1000) :
 Calls Tryz.prog 80 #[.slice ap p.length cp, .slice aq q.length cq, .func (.func 81) #[] #[]] w fun e w'=>e = .returned (.int .i64 (cmpP p q))∧Below w.heap.size w w':=by
 go_enter Tryz.func80,Tryz.ntmps80
 go_wp2_with fail
 go_loopw [13] (fun i wr=>∃ k:Nat,k ≤ p.length∧k ≤ q.length∧i = .int .i64 k∧Hid (cmpP p q = cmpP (p.drop k) (q.drop k))∧Below w.heap.size w wr) (fun i _=>p.length - (intOf i).toNat)
 case atStart=>exact ⟨0,by omega,by omega,rfl,by simp [Hid],Below.refl _ _⟩
 case round=>
  obtain ⟨k,hk,hk2,rfl,hN,hB⟩:=hrel
  have hsz:=hB.size
  by_cases hA:k < p.length
  · obtain ⟨g,o,rfl,hg,_,_,hcell⟩:=SlC.cells hp (by omega)
    obtain ⟨k0,k1,k2⟩:=qO_ hA
    have ha:=q9_ hB hS
    have c0:=ha.cell hg (hcell _ _ k0)
    have c1:=ha.cell hg (hcell _ _ k1)
    have c2:=ha.cell hg (hcell _ _ k2)
    rw [← Nat.add_assoc] at c1 c2
    by_cases hB2:k < q.length
    · have a2:¬ (q.length:Int) ≤ (k:Int):=by omega
      have a3:(k:Int) < (q.length:Int):=by omega
      obtain ⟨g',o',rfl,hg',_,_,hcell'⟩:=SlC.cells hq (by omega)
      obtain ⟨k0',k1',k2'⟩:=qO_ hB2
      have hbx:Below w.heap.size w (wr.alloc (.cells #[.string (bs p[k].n), .bool p[k].h, .int .i64 p[k].x] 96)):=hB.alloc hsz _
      have hax:=q9_ hbx hS
      have d0:=hax.cell hg' (hcell' _ _ k0')
      have d1:=hax.cell hg' (hcell' _ _ k1')
      have d2:=hax.cell hg' (hcell' _ _ k2')
      rw [← Nat.add_assoc] at d1 d2
      have hd:cmpP (p.drop k) (q.drop k) = if byK p[k] q[k] ≠ 0 then byK p[k] q[k] else cmpP (p.drop (k + 1)) (q.drop (k + 1)):=by
       rw [List.drop_eq_getElem_cons hA,List.drop_eq_getElem_cons hB2];rfl
      have HD:=hid hd
      have HBX:=hid hbx
      clear hcell k0 k1 k2 hcell' k0' k1' k2' hd hbx hax
      go_wp2_with fail
      refine (vl_ p[k] q[k] _).mono ?_
      rintro e w2 ⟨rfl,hb2⟩
      have hz2:=HBX.out.size
      have HB2:=hid (HBX.out.trans ((((Below.refl _ _).alloc (nl_ _) _).trans (hb2.mono (by simp))).mono hz2))
      clear hz2 hb2
      by_cases he:byK p[k] q[k] = 0
      · have he':(byK p[k] q[k] != 0) = false:=by simpa using he
        have HE:=hid he
        clear he
        go_wp2_with fail
        go_roundw
        case rel=>exact ⟨k + 1,by omega,by omega,by go_num,by rw [Hid,hN.out,HD.out,if_neg (by simpa using HE.out)],HB2.out⟩
        case measure=>simp [intOf];omega
      · have he':(byK p[k] q[k] != 0) = true:=by simpa using he
        have HE:=hid he
        clear he
        go_wp2_with fail
        go_ret
        exact ⟨qe_ (by rw [hN.out,HD.out,if_pos (by simpa using HE.out)]),HB2.out⟩
    · have a2:(q.length:Int) ≤ (k:Int):=by omega
      have hd:cmpP (p.drop k) (q.drop k) = 1:=by
       rw [List.drop_eq_getElem_cons hA,List.drop_eq_nil_of_le (by omega:q.length ≤ k)];rfl
      clear hcell k0 k1 k2
      go_wp2_with fail
      go_ret
      exact ⟨qe_ (by rw [hN.out,hd]),hB.alloc hsz _⟩
  · have hA':¬ (k:Int) < (p.length:Int):=by omega
    obtain rfl:k = p.length:=by omega
    by_cases hB2:p.length < q.length
    · have a2:(p.length:Int) < (q.length:Int):=by omega
      have hd:cmpP (p.drop p.length) (q.drop p.length) = -1:=by
       rw [List.drop_eq_getElem_cons hB2,List.drop_length];rfl
      go_wp2_with fail
      go_ret
      exact ⟨qe_ (by rw [hN.out,hd]),hB⟩
    · have a2:¬ (p.length:Int) < (q.length:Int):=by omega
      have hd:cmpP (p.drop p.length) (q.drop p.length) = 0:=by
       rw [List.drop_length,List.drop_eq_nil_of_le (by omega)];rfl
      go_wp2_with fail
      go_ret
      exact ⟨qe_ (by rw [hN.out,hd]),hB⟩
theorem kE_ (p q:List Ky) (ap aq:Option Addr) (cp cq:Nat) (S:Nat→Prop) (w:World) (hp:Pth S w (.slice ap p.length cp) p) (hq:Pth S w (.slice aq q.length cq) q) (hS:∀ b,S b→b < w.heap.size) (lp:p.length ≤ 1000) (lq:q.length ≤ 1000) :
 Calls Tryz.prog 36 #[.slice ap p.length cp, .slice aq q.length cq] w fun e w'=>e = .returned (.int .i64 (cmpP p q))∧Below w.heap.size w w':=by
 have H:=hid (xZ_ p q ap aq cp cq S w hp hq hS lp lq)
 go_enter Tryz.func36,Tryz.ntmps36
 go_wp2_with fail
 refine H.out.mono ?_
 rintro e w1 ⟨rfl,hb1⟩
 go_wp2_with fail
 go_ret
 exact ⟨rfl,hb1⟩
end Go.Proofs.LF
namespace Go.Proofs.LF
theorem ke_ {p:UInt8→Bool}:∀ {a b:List UInt8} {m:Nat},(∀ c ∈ a,p c = true)→a.length ≤ m→(a.length = m ∨ ∀ c,b.head? = some c→p c = false)→qD_ p m (a ++ b) = a.length
 | [],b,0,_,_,_=>by simp [qD_]
 | [],[],m + 1,_,_,_=>by simp [qD_]
 | [],c :: b,m + 1,_,_,h=>by
   have h:=h.resolve_left (by simp) c rfl
   simp [qD_,h]
 | c :: a,b,0,_,h,_=>by simp at h
 | c :: a,b,m + 1,h1,h2,h3=>by
   have hc:=h1 c (by simp)
   simp only [List.length_cons] at h2 h3
   simp only [List.cons_append,qD_,hc,if_true,List.length_cons]
   rw [ke_ (fun d hd=>h1 d (by simp [hd])) (by omega) (h3.imp (fun h=>by omega) id)]
theorem yb_:∀ (m u:Nat),u < m→0 < u→∃ c r,Lib.decDigits u = c :: r∧c ≠ 48
 | 0,_,h,_=>by omega
 | m + 1,u,h,h0=>by
   rw [Lib.decDigits]
   by_cases hu:u < 10
   · rw [dif_pos hu]
     refine ⟨_,[],rfl,fun e=>?_⟩
     have:=congrArg UInt8.toNat e
     rw [UInt8.toNat_ofNat'] at this
     simp at this
     omega
   · rw [dif_neg hu]
     obtain ⟨c,r,h1,h2⟩:=yb_ m (u / 10) (by omega) (by omega)
     rw [h1]
     exact ⟨c,_,rfl,h2⟩
theorem itoa_rd {x:Int} (h0:0 ≤ x) (h1:x ≤ 9999) (T:List UInt8) (hT:∀ c,T.head? = some c→qG_ c = false):qD_ qG_ (zo_ (Lib.itoa x ++ T)) (Lib.itoa x ++ T) = (Lib.itoa x).length∧(Lib.itoa x).length ≠ 0∧(j4_ (Lib.itoa x):Int) = x:=by
 have hx:Lib.itoa x = Lib.decDigits x.toNat:=by unfold Lib.itoa;rw [if_neg (by omega)]
 obtain ⟨d1,d2⟩:=vb_ (x.toNat + 1) x.toNat (by omega)
 have hl:=kr_ h0 h1
 rw [hx] at hl ⊢
 by_cases hz:x.toNat = 0
 · rw [hz] at d1 d2 hl ⊢
   have e:Lib.decDigits 0 = [48]:=by rw [Lib.decDigits];rfl
   rw [e] at d1 d2 ⊢
   refine ⟨?_,by simp,by rw [d1];omega⟩
   rw [show zo_ ([48] ++ T) = 1 by simp [zo_]]
   exact ke_ (a:=[48]) d2 (by simp) (.inl rfl)
 · obtain ⟨c,r,e,hc⟩:=yb_ (x.toNat + 1) x.toNat (by omega) (by omega)
   refine ⟨?_,by rw [e];simp,by rw [d1];omega⟩
   have hm:zo_ (Lib.decDigits x.toNat ++ T) = 4:=by
    rw [zo_,if_neg (by rw [e];simpa using hc)]
   rw [hm]
   exact ke_ d2 hl (.inr hT)
theorem x6_ {rest:List UInt8}:∀ (l:List Int) (m:Nat),(∀ x ∈ l,0 ≤ x∧x ≤ 9999)→l.length ≤ m→qq_ m ((l.map fun i=>32 :: Lib.itoa i).flatten ++ 10 :: rest) = (l,(l.map fun i=>32 :: Lib.itoa i).flatten.length,true)
 | [],0,_,_=>by simp [qq_]
 | [],m + 1,_,_=>by simp [qq_,qD_,qw_]
 | x :: l,0,_,h=>by simp at h
 | x :: l,m + 1,h,hl=>by
   have hx:=h x (by simp)
   have ih:=x6_ (rest:=rest) l m (fun z hz=>h z (by simp [hz])) (by simpa using hl)
   simp only [List.map_cons,List.flatten_cons,List.append_assoc,List.cons_append]
   obtain ⟨T,hT⟩:∃ T,(l.map fun i=>32 :: Lib.itoa i).flatten ++ 10 :: rest = T:=⟨_,rfl⟩
   rw [hT] at ih ⊢
   have hTd:∀ c,T.head? = some c→qG_ c = false:=by
    intro c hc
    rw [← hT] at hc
    cases l with
    | nil=>simp at hc;subst hc;decide
    | cons z l=>simp at hc;subst hc;decide
   obtain ⟨i1,i2,i3⟩:=itoa_rd hx.1 hx.2 T hTd
   have hb:qD_ qw_ 1 (32 :: (Lib.itoa x ++ T)) ≠ 0:=by simp [qD_,qw_]
   rw [qq_]
   simp only [List.drop_succ_cons,List.drop_zero]
   rw [if_neg hb,i1,if_neg i2,List.take_left,List.drop_left,ih,i3]
   simp only [List.length_cons,List.length_append,Prod.mk.injEq,and_true,true_and]
   omega
theorem jG_ {n:List UInt8} (h:zN_ n = false):∀ c ∈ n,qK_ c = true:=by
 intro c hc
 simp only [zN_,Bool.or_eq_false_iff,List.any_eq_false,Bool.or_eq_true,decide_eq_true_eq,not_or] at h
 have:=h.1.1 c hc
 simp only [qK_,inB,Bool.and_eq_true,decide_eq_true_eq]
 omega
theorem wn_ {x:NdD} (hx:OkN x) {dp:Nat} (hd:x.up.length ≤ dp) (rest:List UInt8):rdLine dp (ze_ x ++ rest) = (x.up.length,x.n,x.l,(ze_ x).length - 1,true):=by
 obtain ⟨h1,h2,h3⟩:=hx
 have hl:=vE_ h1
 have hs:=jG_ h1
 have hn:=kl_ h3
 have e:ze_ x ++ rest = List.replicate x.up.length 32 ++ (x.n ++ ((x.l.map fun i=>32 :: Lib.itoa i).flatten ++ 10 :: rest)):=by
  simp [ze_,kO_]
 have hlen:(ze_ x).length - 1 = x.up.length + x.n.length + (x.l.map fun i=>32 :: Lib.itoa i).flatten.length:=by
  simp [ze_,kO_];omega
 obtain ⟨T,hT⟩:∃ T,(x.l.map fun i=>32 :: Lib.itoa i).flatten ++ 10 :: rest = T:=⟨_,rfl⟩
 have hnb:∀ c,(x.n ++ T).head? = some c→qw_ c = false:=by
  intro c hc
  cases hxn:x.n with
  | nil=>rw [hxn] at hl;simp at hl
  | cons a r=>
    rw [hxn] at hc
    simp at hc
    subst hc
    have:=hs a (by rw [hxn];simp)
    simp only [qK_,inB,Bool.and_eq_true,decide_eq_true_eq] at this
    simp only [qw_,beq_eq_false_iff_ne]
    rintro rfl
    simp at this
 have hTs:∀ c,T.head? = some c→qK_ c = false:=by
  intro c hc
  rw [← hT] at hc
  cases hxl:x.l with
  | nil=>rw [hxl] at hc;simp at hc;subst hc;decide
  | cons z l=>rw [hxl] at hc;simp at hc;subst hc;decide
 have a1:qD_ qw_ dp (List.replicate x.up.length 32 ++ (x.n ++ T)) = x.up.length:=by
  have:=ke_ (p:=qw_) (a:=List.replicate x.up.length 32) (b:=x.n ++ T) (m:=dp) (fun c hc=>by rw [List.eq_of_mem_replicate hc];decide) (by simpa using hd) (.inr hnb)
  simpa using this
 have a2:qD_ qK_ 8 (x.n ++ T) = x.n.length:=ke_ hs hl.2 (.inr hTs)
 have a3:=x6_ (rest:=rest) x.l 4 hn h2
 rw [hT] at a3
 rw [e,hT,rdLine,hlen]
 dsimp only
 have hdr:(List.replicate x.up.length (32:UInt8) ++ (x.n ++ T)).drop x.up.length = x.n ++ T:=by
  rw [List.drop_left' (by simp)]
 rw [a1,hdr,a2,if_neg (by omega),List.take_left,List.drop_left,a3]
 have:((x.n ++ T).drop (x.n.length + (x.l.map fun i=>32 :: Lib.itoa i).flatten.length)).head? = some 10:=by
  rw [← List.drop_drop,List.drop_left,← hT,List.drop_left];rfl
 dsimp only
 rw [this]
 simp
end Go.Proofs.LF
namespace Go.Proofs.LF
open Go.RowKit Go.Sort
set_option maxHeartbeats 4000000
set_option maxRecDepth 100000
attribute [local go_sem] q1_ q2_ q6_
theorem cmpKN_any (n:List UInt8) (l:List Int) (an ab:Option Addr) (cn sl cb:Nat) (k:Ky) (S:Nat→Prop) (w:World) (hl:qF_ S w (.slice an l.length cn) l) (hS:∀ b,S b→b < w.heap.size) :
 Calls Tryz.prog 165 #[.agg #[.string (bs n), .slice an l.length cn, .slice ab sl cb], .agg #[.string (bs k.n), .bool k.h, .int .i64 k.x]] w fun e w'=>e = .returned (.int .i64 (byK (kyOf n l) k))∧Below w.heap.size w w':=by
 obtain ⟨W,hW⟩:∃ W,W = (w.alloc (.cells #[.string (bs n), .slice an l.length cn, .slice ab sl cb] 109)).alloc (.cells #[.string (bs k.n), .bool k.h, .int .i64 k.x] 96):=⟨_,rfl⟩
 have hb:Below w.heap.size w W:=by rw [hW];exact ((Below.refl _ _).alloc (nl_ _) _).alloc (by simp) _
 have hWs:W.heap.size = w.heap.size + 1 + 1:=by rw [hW];simp
 have HB:=hid hb
 have HWS:=hid hWs
 have HL:=hid (hl.agree (q9_ hb hS))
 have HS:=hid hS
 clear hl hS hb hWs
 obtain ⟨kk,hkk⟩:∃ kk,kyOf n l = kk:=⟨_,rfl⟩
 have HKK:=hid hkk
 rw [hkk]
 clear hkk
 subst hW
 go_enter Tryz.func165,Tryz.ntmps165
 go_wp2_with fail
 go_region_held3 (fun w'=>w'.cell? ⟨w.heap.size,0,none⟩ = some (.string (bs n))∧w'.cell? ⟨w.heap.size,1,none⟩ = some (.slice an l.length cn)∧w'.cell? ⟨w.heap.size,2,none⟩ = some (.slice ab sl cb)∧w'.cell? ⟨w.heap.size + 1,0,none⟩ = some (.string (bs k.n))∧w'.cell? ⟨w.heap.size + 1,1,none⟩ = some (.bool k.h)∧w'.cell? ⟨w.heap.size + 1,2,none⟩ = some (.int .i64 k.x))
  (first
    | (go_split_ands
       with_reducible refine ⟨bc_ hb1 ?_ ?_,bc_ hb1 ?_ ?_,bc_ hb1 ?_ ?_,bc_ hb1 ?_ ?_,bc_ hb1 ?_ ?_,bc_ hb1 ?_ ?_⟩
       all_goals (first | (with_reducible assumption) | (simp;done) | (simp;omega)))
    | (go_split_ands
       with_reducible refine ⟨bc_ hb2 ?_ ?_,bc_ hb2 ?_ ?_,bc_ hb2 ?_ ?_,bc_ hb2 ?_ ?_,bc_ hb2 ?_ ?_,bc_ hb2 ?_ ?_⟩
       all_goals (first | (with_reducible assumption) | (have:=hb1.size;simp at this ⊢;omega)))
    | go_keep)
  (first
    | (go_at_call 90; refine (zC_ n l an cn (.slice ab sl cb) S _ (HL.out.agree (q9_ (Below.refl _ _).drew (fun b hb => by have := HS.out b hb; have := HWS.out; omega))) (fun b hb => by have := HS.out b hb; simp; omega) ab sl cb rfl).mono ?_
       rintro e w1 ⟨rfl,hb1⟩
       rw [HKK.out])
    | (go_at_call 81; refine (vl_ kk k _).mono ?_
       rintro e w2 ⟨rfl,hb2⟩))
 go_wp2_with fail
 go_ret
 exact ⟨rfl,HB.out.drew.trans ((hb1.mono (show w.heap.size ≤ _ by simp;omega)).trans (hb2.mono (show w.heap.size ≤ _ by have:=hb1.size;simp at this;omega)))⟩
def keyD (y:Fo) (i:Nat):Ky:=(zf_ y i).getD ky0
def fndN (y:Fo) (k:Ky):Nat:=bsF (fun h=>decide (byK (keyD y h) k < 0)) 0 y.len
theorem xT_ (y:Fo) (k:Ky) (al:Option Addr) (cl:Nat) (S:Nat→Prop) (w:World) (hv:FSl S w (.slice al y.len cl) y) (hS:∀ b,S b→b < w.heap.size) (hl:y.len ≤ 1000) :
 Calls Tryz.prog 164 #[.slice al y.len cl, .agg #[.string (bs k.n), .bool k.h, .int .i64 k.x], .func (.func 165) #[] #[]] w fun e w'=>e = .returned (.tuple #[.int .i64 (fndN y k), .bool (decide (fndN y k < y.len) && decide (byK (keyD y (fndN y k)) k = 0))])∧Below w.heap.size w w':=by
 obtain ⟨a',c',he,hc,hcm,hat⟩:=hv.at
 obtain ⟨rfl,rfl⟩:al = a'∧cl = c':=by cases he;exact ⟨rfl,rfl⟩
 have HAT:=hid hat
 have HS:=hid hS
 clear hat hS he hv
 unfold maxLen at hcm
 have hcall:∀ (i:Nat) (hi:i < y.len),∃ g o n l s an cn ab cb,al = some ⟨g,o,none⟩∧keyD y i = kyOf n l∧g < w.heap.size∧∀ W,Below w.heap.size w W→W.cell? ⟨g,o + i * 3,none⟩ = some (.string (bs n))∧W.cell? ⟨g,o + i * 3 + 1,none⟩ = some (.slice an l.length cn)∧W.cell? ⟨g,o + i * 3 + 2,none⟩ = some (.slice ab (Fo.len s) cb) ∧
  Hid (Calls Tryz.prog 165 #[.agg #[.string (bs n), .slice an l.length cn, .slice ab (Fo.len s) cb], .agg #[.string (bs k.n), .bool k.h, .int .i64 k.x]] W fun e w'=>e = .returned (.int .i64 (byK (kyOf n l) k))∧Below W.heap.size W w'):=by
  intro i hi
  obtain ⟨g,o,n,l,s,r,an,cn,ab,cb,rfl,hg,hd,m0,m1,m2,hI,hF⟩:=HAT.out i hi
  refine ⟨g,o,n,l,s,an,cn,ab,cb,rfl,by simp [keyD,zf_,hd],HS.out g hg,fun W hB=>?_⟩
  have ha:qd_ S w W:=q9_ hB HS.out
  refine ⟨ha.cell hg m0,ha.cell hg m1,ha.cell hg m2,cmpKN_any n l an ab cn s.len cb k S W (hI.agree ha) (fun b hb=>by have:=hB.size;have:=HS.out b hb;omega)⟩
 have HC:=hid hcall
 clear hcall HAT
 have hb0:Below w.heap.size w (w.alloc (.cells #[.string (bs k.n), .bool k.h, .int .i64 k.x] 96)):=(Below.refl _ _).alloc (nl_ _) _
 have HB0:=hid hb0
 have HN0:=hid (ha_ w (.cells #[.string (bs k.n), .bool k.h, .int .i64 k.x] 96))
 clear hb0
 go_enter Tryz.func164,Tryz.ntmps164
 go_wp2_with fail
 go_loopw [9,10] (fun vi vj wr=>∃ i j:Nat,vi = .int .i64 i∧vj = .int .i64 j∧i ≤ j∧j ≤ y.len∧Hid (fndN y k = bsF (fun h=>decide (byK (keyD y h) k < 0)) i j)∧Hid (wr.heap[w.heap.size]? = some (.cells #[.string (bs k.n), .bool k.h, .int .i64 k.x] 96 (0,0)))∧Below w.heap.size w wr) (fun vi vj _=>(intOf vj).toNat - (intOf vi).toNat)
 case atStart=>exact ⟨0,y.len,rfl,rfl,Nat.zero_le _,nl_ _,rfl,HN0.out,HB0.out⟩
 case round=>
  obtain ⟨i,j,rfl,rfl,hij,hjl,hF,hK,hB⟩:=hrel
  have hsz:=hB.size
  have hszK:w.heap.size < wr.heap.size:=(ge_ hK.out).1
  have e0:=cg_ hK.out (k:=0) rfl
  have e1:=cg_ hK.out (k:=1) rfl
  have e2:=cg_ hK.out (k:=2) rfl
  by_cases hlt:i < j
  · have hlt':(i:Int) < (j:Int):=by omega
    obtain ⟨h,hh⟩:∃ h,(i + j) / 2 = h:=⟨_,rfl⟩
    have hhi:((i:Int) + (j:Int)) / 2 = (h:Int):=by omega
    have hhl:h < y.len:=by omega
    have hbi:i ≤ h:=by omega
    have hbj:h < j:=by omega
    have hhl':(h:Int) < (y.len:Int):=by omega
    have hh0:(0:Int) ≤ (h:Int):=by omega
    obtain ⟨g,o,n,l,s,an,cn,ab,cb,rfl,hkd,hgl,H9⟩:=HC.out h hhl
    obtain ⟨c0,c1,c2,_⟩:=H9 wr hB
    have H:=hid ((H9 wr.drew hB.drew).2.2.2.out)
    clear H9
    have hF2:=hF.out
    rw [yu_ hlt,hh] at hF2
    simp only [hkd,decide_eq_true_eq] at hF2
    have HF:=hid hF2
    clear hF2 hh hkd
    go_wp2_with fail
    go_region_held3 (fun w'=>w'.cell? ⟨g,o + h * 3,none⟩ = some (.string (bs n))∧w'.cell? ⟨g,o + h * 3 + 1,none⟩ = some (.slice an l.length cn)∧w'.cell? ⟨g,o + h * 3 + 2,none⟩ = some (.slice ab s.len cb)∧w'.cell? ⟨w.heap.size,0,none⟩ = some (.string (bs k.n))∧w'.cell? ⟨w.heap.size,1,none⟩ = some (.bool k.h)∧w'.cell? ⟨w.heap.size,2,none⟩ = some (.int .i64 k.x))
     (first
       | (go_split_ands
          with_reducible refine ⟨bc_ hb3 ?_ ?_,bc_ hb3 ?_ ?_,bc_ hb3 ?_ ?_,bc_ hb3 ?_ ?_,bc_ hb3 ?_ ?_,bc_ hb3 ?_ ?_⟩
          all_goals (first | (with_reducible assumption) | (simp;done) | (simp;omega)))
       | go_keep)
     (first
       | (go_at_call 165; refine H.out.mono ?_
          rintro e w2 ⟨rfl,hb3⟩))
    have HB:=hid (hB.drew.trans (hb3.mono (show w.heap.size ≤ _ by simpa using hsz)))
    have HK2:=hid ((hb3.block w.heap.size hszK).trans hK.out)
    clear hb3
    by_cases hneg:byK (kyOf n l) k < 0
    · have hF3:=HF.out
      rw [if_pos hneg] at hF3
      have HF3:=hid hF3
      clear hF3
      go_wp2_with fail
      go_roundw
      case rel=>exact ⟨h + 1,j,by go_num,rfl,by omega,hjl,HF3.out,HK2.out,HB.out⟩
      case measure=>simp [intOf];omega
    · have hF3:=HF.out
      rw [if_neg hneg] at hF3
      have HF3:=hid hF3
      clear hF3
      go_wp2_with fail
      go_roundw
      case rel=>exact ⟨i,h,rfl,rfl,hbi,by omega,HF3.out,HK2.out,HB.out⟩
      case measure=>simp [intOf];omega
  · obtain rfl:i = j:=by omega
    have hlt':¬ (i:Int) < (i:Int):=by omega
    have hF2:=hF.out
    clear hF2
    by_cases hil:i < y.len
    · have hil':(i:Int) < (y.len:Int):=by omega
      obtain ⟨g,o,n,l,s,an,cn,ab,cb,rfl,hkd,hgl,H9⟩:=HC.out i hil
      obtain ⟨c0,c1,c2,_⟩:=H9 wr hB
      have H:=hid ((H9 wr.drew hB.drew).2.2.2.out)
      clear H9
      go_wp2_with fail
      go_region_held3 (fun w'=>w'.cell? ⟨g,o + i * 3,none⟩ = some (.string (bs n))∧w'.cell? ⟨g,o + i * 3 + 1,none⟩ = some (.slice an l.length cn)∧w'.cell? ⟨g,o + i * 3 + 2,none⟩ = some (.slice ab s.len cb)∧w'.cell? ⟨w.heap.size,0,none⟩ = some (.string (bs k.n))∧w'.cell? ⟨w.heap.size,1,none⟩ = some (.bool k.h)∧w'.cell? ⟨w.heap.size,2,none⟩ = some (.int .i64 k.x))
       (first
         | (go_split_ands
            with_reducible refine ⟨bc_ hb3 ?_ ?_,bc_ hb3 ?_ ?_,bc_ hb3 ?_ ?_,bc_ hb3 ?_ ?_,bc_ hb3 ?_ ?_,bc_ hb3 ?_ ?_⟩
            all_goals (first | (with_reducible assumption) | (simp;done) | (simp;omega)))
         | go_keep)
       (first
         | (go_at_call 165; refine H.out.mono ?_
            rintro e w2 ⟨rfl,hb3⟩))
      have HB:=hid (hB.drew.trans (hb3.mono (show w.heap.size ≤ _ by simpa using hsz)))
      clear hb3
      go_wp2_with fail
      go_ret2
      have hF2:=hF.out
      rw [zk_ (by omega)] at hF2
      exact ⟨by rw [hF2,hkd];simp [hil];rfl,HB.out⟩
    · obtain rfl:i = y.len:=by omega
      go_wp2_with fail
      go_quiet (fail)
      have HB3:=hid (qm_ hB nq)
      go_wp2_with fail
      go_ret2
      have hF2:=hF.out
      rw [zk_ (by omega)] at hF2
      exact ⟨by rw [hF2];simp,HB3.out⟩
end Go.Proofs.LF
namespace Go.Proofs.LF
open Go.RowKit
def ws_:Rd Ch 5 where
 R S w x cs:=rdCh.R (US S w) w x cs
 len:=fun h=>rdCh.len h
 one:=fun h=>rdCh.one h
 agree:=fun {S w w' x cs} h ha=>rdCh.wide (rdCh.agree h (US.agree ha).1) (US.agree ha).2
 wide:=fun h hs=>rdCh.wide h (US.wide hs)
theorem lcs_chU {S:Nat→Prop} {w:World}:∀ {xs:List Ch} {cs:List Value},LCs ws_ S w xs cs→LCs rdCh (US S w) w xs cs
 | [],_,h=>h
 | _ :: _,_,⟨c,ds,h1,h2,h3⟩=>⟨c,ds,h1,h2,lcs_chU h3⟩
end Go.Proofs.LF
namespace Go.Proofs.LF
open Go.RowKit Go.Sort
set_option maxHeartbeats 4000000
set_option maxRecDepth 100000
attribute [local go_sem] q1_ q2_ q6_
theorem bs_sl (c:UInt8) (a:List UInt8):(⟨#[c]⟩:ByteArray) ++ bs a = bs (c :: a):=xN_ [c] a
attribute [local go_sem] bs_sl
theorem bs_47 (a:List UInt8):({ data:=#[47] }:ByteArray) ++ bs a = bs (47 :: a):=xN_ [47] a
attribute [local go_sem] bs_47
theorem bs_58 (a:List UInt8):({ data:=#[58] }:ByteArray) ++ bs a = bs (58 :: a):=xN_ [58] a
theorem bs_63 (a:List UInt8):({ data:=#[63] }:ByteArray) ++ bs a = bs (63 :: a):=xN_ [63] a
attribute [local go_sem] bs_58 bs_63
def OkK (k:Ky):Prop:=k.n.length ≤ 1000∧0 ≤ k.x∧k.x ≤ 9999
theorem sptK_len {k:Ky} (h:OkK k):(yr_ k).length ≤ 1006:=by
 have h1:=kr_ h.2.1 h.2.2
 simp only [yr_,List.length_append,List.length_cons]
 have:=h.1
 split
 · simp;omega
 · split
   · simp;omega
   · simp;omega
theorem yQ_ {p:List Ky}:(∀ k ∈ p,OkK k)→(sptL p).length ≤ 1006 * p.length:=by
 induction p with
 | nil=>intro _;simp [sptL]
 | cons k p ih=>
   intro h
   have h1:=sptK_len (h k (by simp))
   have h2:=ih fun z hz=>h z (by simp [hz])
   simp only [sptL,List.map_cons,List.flatten_cons,List.length_append,List.length_cons] at *
   omega
theorem sptL_take {p:List Ky} {k:Nat} (h:k < p.length):sptL (p.take (k + 1)) = sptL (p.take k) ++ yr_ p[k]:=by
 unfold sptL
 rw [List.take_succ_eq_append_getElem h,List.map_append,List.flatten_append];simp only [List.map_cons,List.map_nil,List.flatten_cons,List.flatten_nil,List.append_nil]
theorem spelt_any (p:List Ky) (a:Option Addr) (c:Nat) (S:Nat→Prop) (w:World) (hv:Pth S w (.slice a p.length c) p) (hS:∀ b,S b→b < w.heap.size) (hlen:p.length ≤ 1000) (hok:∀ k ∈ p,OkK k) (ht:Pow w) :
 Calls Tryz.prog 76 #[.slice a p.length c] w fun e w'=>e = .returned (.string (bs (sptL p)))∧Below w.heap.size w w':=by
 have HV:=hid hv
 have HOK:=hid hok
 have HT:=hid ht
 have HS:=hid hS
 have hb0:Bld w.heap.size (.slice none 0 0) [] (w.alloc (.cells #[.pointer none, .slice none 0 0] 113)):=⟨_, .inl rfl,ha_ _ _,World.ownsRow_nil _ _ _ _,by simp [Value.ownBlock]⟩
 have HB0:=hid hb0
 clear hv hok ht hS hb0
 go_enter Tryz.func76,Tryz.ntmps76
 go_wp2_with fail
 go_loopw [8] (fun i wr=>∃ (k:Nat) (v:Value),k ≤ p.length∧i = .int .i64 k∧Hid (Bld w.heap.size v (sptL (p.take k)) wr)∧Hid (Below w.heap.size w wr)) (fun i _=>p.length - (intOf i).toNat)
 case atStart=>exact ⟨0, .slice none 0 0,by omega,rfl,by simpa [Hid,sptL] using HB0.out,(Below.refl _ _).alloc (nl_ _) _⟩
 case round=>
  obtain ⟨k,v,hk,rfl,hb,hB⟩:=hrel
  have hsz:=hB.out.size
  by_cases hlt:k < p.length
  · have hlt':(k:Int) < (p.length:Int):=by omega
    obtain ⟨g,o,rfl,hg,_,_,hcell⟩:=SlC.cells HV.out (by omega)
    obtain ⟨k0,k1,k2⟩:=qO_ hlt
    have ha:=q9_ hB.out HS.out
    have c0:=ha.cell hg (hcell _ _ k0)
    have c1:=ha.cell hg (hcell _ _ k1)
    have c2:=ha.cell hg (hcell _ _ k2)
    rw [← Nat.add_assoc] at c1 c2
    have hkk:=HOK.out p[k] (List.getElem_mem hlt)
    have hspl:(sptL (p.take k)).length ≤ 1006 * 1000:=by
     have h1:=yQ_ (p:=p.take k) fun z hz=>HOK.out z (List.mem_of_mem_take hz)
     rw [List.length_take] at h1
     have:min k p.length ≤ 1000:=by omega
     omega
    have hgen:=sptL_take hlt
    have hK:=hid (show yr_ p[k] = 47 :: p[k].n ++ (if p[k].h then 58 :: Lib.itoa p[k].x else if p[k].x ≠ 0 then 63 :: Lib.itoa p[k].x else []) from rfl)
    obtain ⟨ky,hky⟩:∃ ky,p[k] = ky:=⟨_,rfl⟩
    rw [hky] at c0 c1 c2 hkk hgen hK
    have HG:=hid hgen
    have HKK:=hid hkk
    have HSP:=hid hspl
    have hng:¬ 9223372036854775807 < 1 + ky.n.length:=by have:=hkk.1;omega
    have hbw:Bld w.heap.size v (sptL (p.take k)) (wr.alloc (.cells #[.string (bs ky.n), .bool ky.h, .int .i64 ky.x] 96)):=hb.out.below ((Below.refl _ _).alloc (nl_ _) _)
    have HBW:=hid hbw
    clear hcell k0 k1 k2 hky hgen hkk hspl hbw ha
    go_wp2_with fail
    refine (qN_ w.heap.size v _ (47 :: ky.n) _ HBW.out (by have:=HSP.out;omega) (by have:=HKK.out.1;simp;omega)).mono ?_
    rintro e w2 ⟨rfl,v2,hb2,hk2,hj2⟩
    have hBlo:∀ b,kc_ w.heap.size v b→b < wr.heap.size:=fun b hb'=>kc_.lt hb.out b hb'
    have hblk:w2.heap[wr.heap.size]? = some (.cells #[.string (bs ky.n), .bool ky.h, .int .i64 ky.x] 96 (0,0)):=(hk2.block _ (by simp) (fun h=>by have:=hBlo _ h;omega)).trans (ha_ _ _)
    have e1:=cg_ hblk (k:=1) rfl
    have e2:=cg_ hblk (k:=2) rfl
    have HBL:=hid hblk
    have hbel2:Below w.heap.size w w2:=(hB.out.alloc hsz _).trans (hk2.below (by simp;omega) (fun b hb' ho=>by
     rcases ho with rfl | ho
     · omega
     · have:=(kc_.ge hb.out b (.inr ho));omega))
    have HB2:=hid hbel2
    have HBD:=hid hb2
    have hz2:=hk2.size
    simp only [World.size_alloc] at hz2
    have HKK2:=hid (show (47 :: ky.n).length ≤ 1001 by have:=HKK.out.1;simp;omega)
    clear hbel2 hb2 hblk hk2 hj2
    by_cases hh:ky.h = true
    · have hlast:yr_ ky = 47 :: ky.n ++ 58 :: Lib.itoa ky.x:=by rw [hK.out,if_pos hh]
      have HL:=hid hlast
      clear hlast
      go_wp2_with fail
      refine (xg_ ky.x (by have:=HKK.out.2.1;omega) (by have:=HKK.out.2.2;omega) _ (HT.out.below HB2.out)).mono ?_
      rintro e w3 ⟨rfl,hb3⟩
      have hil:=kr_ HKK.out.2.1 HKK.out.2.2
      have hng2:¬ 9223372036854775807 < 1 + (Lib.itoa ky.x).length:=by omega
      have HBD3:=hid (HBD.out.below hb3)
      have HB3:=hid (HB2.out.trans (hb3.mono (by omega)))
      go_wp2_with fail
      refine (qN_ w.heap.size v2 _ (58 :: Lib.itoa ky.x) _ HBD3.out (by have h1:=HSP.out;have h2:=HKK2.out;simp only [List.length_append];omega) (by simp;omega)).mono ?_
      rintro e w4 ⟨rfl,v4,hb4,hk4,hj4⟩
      have hbel4:Below w.heap.size w w4:=HB3.out.trans (hk4.below (by have:=HB3.out.size;omega) (fun b hb' ho=>by
       have:=kc_.ge HBD3.out b ho;omega))
      go_wp2_with fail
      go_roundw
      case rel=>exact ⟨k + 1,v4,by omega,by go_num,by rw [Hid,HG.out,HL.out];simpa using hb4,hbel4⟩
      case measure=>simp [intOf];omega
    · have hh':ky.h = false:=by simpa using hh
      by_cases hx:ky.x = 0
      · have hlast:yr_ ky = 47 :: ky.n:=by rw [hK.out,if_neg hh,if_neg (by simpa using hx),List.append_nil]
        have HL:=hid hlast
        have hx':(ky.x != 0) = false:=by simpa using hx
        have HX:=hid hx
        clear hlast hx
        go_wp2_with fail
        go_roundw
        case rel=>exact ⟨k + 1,v2,by omega,by go_num,by rw [Hid,HG.out,HL.out];exact HBD.out,HB2.out⟩
        case measure=>simp [intOf];omega
      · have hlast:yr_ ky = 47 :: ky.n ++ 63 :: Lib.itoa ky.x:=by rw [hK.out,if_neg hh,if_pos hx]
        have HL:=hid hlast
        have hx':(ky.x != 0) = true:=by simpa using hx
        have HX:=hid hx
        clear hlast hx
        go_wp2_with fail
        refine (xg_ ky.x (by have:=HKK.out.2.1;omega) (by have:=HKK.out.2.2;omega) _ (HT.out.below HB2.out)).mono ?_
        rintro e w3 ⟨rfl,hb3⟩
        have hil:=kr_ HKK.out.2.1 HKK.out.2.2
        have hng2:¬ 9223372036854775807 < 1 + (Lib.itoa ky.x).length:=by omega
        have HBD3:=hid (HBD.out.below hb3)
        have HB3:=hid (HB2.out.trans (hb3.mono (by omega)))
        go_wp2_with fail
        refine (qN_ w.heap.size v2 _ (63 :: Lib.itoa ky.x) _ HBD3.out (by have h1:=HSP.out;have h2:=HKK2.out;simp only [List.length_append];omega) (by simp;omega)).mono ?_
        rintro e w4 ⟨rfl,v4,hb4,hk4,hj4⟩
        have hbel4:Below w.heap.size w w4:=HB3.out.trans (hk4.below (by have:=HB3.out.size;omega) (fun b hb' ho=>by
         have:=kc_.ge HBD3.out b ho;omega))
        go_wp2_with fail
        go_roundw
        case rel=>exact ⟨k + 1,v4,by omega,by go_num,by rw [Hid,HG.out,HL.out];simpa using hb4,hbel4⟩
        case measure=>simp [intOf];omega
  · obtain rfl:k = p.length:=by omega
    have hlt':¬ (p.length:Int) < (p.length:Int):=by omega
    go_wp2_with fail
    refine (Tryz.Builder_String_any_k _ _ _ _ (Lib.IsBuilderF.of hb.out.is) (Nat.le_of_lt hb.out.lt)).mono ?_
    rintro e W2 ⟨rfl,_,hbw,_⟩
    have HBW:=hid hbw
    clear hbw
    go_wp2_with fail
    go_ret
    exact ⟨rfl,hB.out.trans HBW.out⟩
def Grw (w w':World):Prop:=∃ q os,w' = grow (w.drewN q) os
theorem Grw.refl (w:World):Grw w w:=⟨0,#[],by simp [World.drewN]⟩
theorem Grw.alloc {w w':World} (h:Grw w w') (o:Obj):Grw w (w'.alloc o):=by
 obtain ⟨q,os,rfl⟩:=h
 exact ⟨q,os ++ #[o],by rw [alloc_eq_grow,grow_grow]⟩
theorem Grw.trans {a b c:World} (h:Grw a b) (k:Grw b c):Grw a c:=by
 obtain ⟨q,os,rfl⟩:=h
 obtain ⟨r,os',rfl⟩:=k
 refine ⟨q + r,os ++ os',?_⟩
 show grow (grow ((a.drewN q).drewN r) os) os' = _
 rw [grow_grow]
 congr 1
 simp [World.drewN,Nat.add_assoc]
theorem Grw.below {w w':World} (h:Grw w w'):Below w.heap.size w w':=by
 obtain ⟨q,os,rfl⟩:=h
 exact ⟨rfl,rfl,rfl,by simp [grow,World.drewN],fun b hb=>by
  show (w.heap ++ os)[b]? = _
  rw [Array.getElem?_append_left hb]⟩
theorem byKey_g (a b:Ky) (w:World) :
 Calls Tryz.prog 81 #[.agg #[.string (bs a.n), .bool a.h, .int .i64 a.x], .agg #[.string (bs b.n), .bool b.h, .int .i64 b.x]] w fun e w'=>e = .returned (.int .i64 (byK a b))∧Grw w w':=by
 obtain ⟨an,ah,ax⟩:=a
 obtain ⟨bn,bh,bx⟩:=b
 by_cases h:an = bn
 · have h':(an == bn) = true:=by simp [h]
   cases ah <;> cases bh
   all_goals
    go_enter Tryz.func81,Tryz.ntmps81
    go_wp2_with (first | (go_at_call 126;refine (v8_ _ _ _).mono ?_;rintro e w' ⟨rfl,rfl⟩) | (go_at_call 127;refine (vf_ _ _ _).mono ?_;rintro e w' ⟨rfl,rfl⟩))
    go_ret
    exact ⟨qe_ (by simp [byK,h]),((Grw.refl _).alloc _).alloc _⟩
 · have h':(an == bn) = false:=by simp [h]
   go_enter Tryz.func81,Tryz.ntmps81
   go_wp2_with (first | (go_at_call 126;refine (v8_ _ _ _).mono ?_;rintro e w' ⟨rfl,rfl⟩) | (go_at_call 127;refine (vf_ _ _ _).mono ?_;rintro e w' ⟨rfl,rfl⟩))
   go_ret
   exact ⟨qe_ (by simp [byK,h]),((Grw.refl _).alloc _).alloc _⟩
theorem wh_ (p q:List Ky) (ap aq:Option Addr) (cp cq:Nat) (S:Nat→Prop) (w:World) (hp:Pth S w (.slice ap p.length cp) p) (hq:Pth S w (.slice aq q.length cq) q) (hS:∀ b,S b→b < w.heap.size) (lp:p.length ≤ 1000) (lq:q.length ≤ 1000) :
 Calls Tryz.prog 80 #[.slice ap p.length cp, .slice aq q.length cq, .func (.func 81) #[] #[]] w fun e w'=>e = .returned (.int .i64 (cmpP p q))∧Grw w w':=by
 go_enter Tryz.func80,Tryz.ntmps80
 go_wp2_with fail
 go_loopw [13] (fun i wr=>∃ k:Nat,k ≤ p.length∧k ≤ q.length∧i = .int .i64 k∧Hid (cmpP p q = cmpP (p.drop k) (q.drop k))∧Grw w wr) (fun i _=>p.length - (intOf i).toNat)
 case atStart=>exact ⟨0,by omega,by omega,rfl,by simp [Hid],Grw.refl _⟩
 case round=>
  obtain ⟨k,hk,hk2,rfl,hN,hB⟩:=hrel
  have hBG:=hB
  replace hB:=hB.below
  have hsz:=hB.size
  by_cases hA:k < p.length
  · obtain ⟨g,o,rfl,hg,_,_,hcell⟩:=SlC.cells hp (by omega)
    obtain ⟨k0,k1,k2⟩:=qO_ hA
    have ha:=q9_ hB hS
    have c0:=ha.cell hg (hcell _ _ k0)
    have c1:=ha.cell hg (hcell _ _ k1)
    have c2:=ha.cell hg (hcell _ _ k2)
    rw [← Nat.add_assoc] at c1 c2
    by_cases hB2:k < q.length
    · have a2:¬ (q.length:Int) ≤ (k:Int):=by omega
      have a3:(k:Int) < (q.length:Int):=by omega
      obtain ⟨g',o',rfl,hg',_,_,hcell'⟩:=SlC.cells hq (by omega)
      obtain ⟨k0',k1',k2'⟩:=qO_ hB2
      have hbx:Below w.heap.size w (wr.alloc (.cells #[.string (bs p[k].n), .bool p[k].h, .int .i64 p[k].x] 96)):=hB.alloc hsz _
      have hax:=q9_ hbx hS
      have d0:=hax.cell hg' (hcell' _ _ k0')
      have d1:=hax.cell hg' (hcell' _ _ k1')
      have d2:=hax.cell hg' (hcell' _ _ k2')
      rw [← Nat.add_assoc] at d1 d2
      have hd:cmpP (p.drop k) (q.drop k) = if byK p[k] q[k] ≠ 0 then byK p[k] q[k] else cmpP (p.drop (k + 1)) (q.drop (k + 1)):=by
       rw [List.drop_eq_getElem_cons hA,List.drop_eq_getElem_cons hB2];rfl
      have HD:=hid hd
      have HBX:=hid hbx
      clear hcell k0 k1 k2 hcell' k0' k1' k2' hd hbx hax
      go_wp2_with fail
      refine (byKey_g p[k] q[k] _).mono ?_
      rintro e w2 ⟨rfl,hb2⟩
      have HB2:=hid (((hBG.alloc _).alloc _).trans hb2)
      clear hb2
      by_cases he:byK p[k] q[k] = 0
      · have he':(byK p[k] q[k] != 0) = false:=by simpa using he
        have HE:=hid he
        clear he
        go_wp2_with fail
        go_roundw
        case rel=>exact ⟨k + 1,by omega,by omega,by go_num,by rw [Hid,hN.out,HD.out,if_neg (by simpa using HE.out)],HB2.out⟩
        case measure=>simp [intOf];omega
      · have he':(byK p[k] q[k] != 0) = true:=by simpa using he
        have HE:=hid he
        clear he
        go_wp2_with fail
        go_ret
        exact ⟨qe_ (by rw [hN.out,HD.out,if_pos (by simpa using HE.out)]),HB2.out⟩
    · have a2:(q.length:Int) ≤ (k:Int):=by omega
      have hd:cmpP (p.drop k) (q.drop k) = 1:=by
       rw [List.drop_eq_getElem_cons hA,List.drop_eq_nil_of_le (by omega:q.length ≤ k)];rfl
      clear hcell k0 k1 k2
      go_wp2_with fail
      go_ret
      exact ⟨qe_ (by rw [hN.out,hd]),hBG.alloc _⟩
  · have hA':¬ (k:Int) < (p.length:Int):=by omega
    obtain rfl:k = p.length:=by omega
    by_cases hB2:p.length < q.length
    · have a2:(p.length:Int) < (q.length:Int):=by omega
      have hd:cmpP (p.drop p.length) (q.drop p.length) = -1:=by
       rw [List.drop_eq_getElem_cons hB2,List.drop_length];rfl
      go_wp2_with fail
      go_ret
      exact ⟨qe_ (by rw [hN.out,hd]),hBG⟩
    · have a2:¬ (p.length:Int) < (q.length:Int):=by omega
      have hd:cmpP (p.drop p.length) (q.drop p.length) = 0:=by
       rw [List.drop_length,List.drop_eq_nil_of_le (by omega)];rfl
      go_wp2_with fail
      go_ret
      exact ⟨qe_ (by rw [hN.out,hd]),hBG⟩
theorem byPath_g (p q:List Ky) (ap aq:Option Addr) (cp cq:Nat) (S:Nat→Prop) (w:World) (hp:Pth S w (.slice ap p.length cp) p) (hq:Pth S w (.slice aq q.length cq) q) (hS:∀ b,S b→b < w.heap.size) (lp:p.length ≤ 1000) (lq:q.length ≤ 1000) :
 Calls Tryz.prog 36 #[.slice ap p.length cp, .slice aq q.length cq] w fun e w'=>e = .returned (.int .i64 (cmpP p q))∧Grw w w':=by
 have H:=hid (wh_ p q ap aq cp cq S w hp hq hS lp lq)
 go_enter Tryz.func36,Tryz.ntmps36
 go_wp2_with fail
 refine H.out.mono ?_
 rintro e w1 ⟨rfl,hb1⟩
 go_wp2_with fail
 go_ret
 exact ⟨rfl,hb1⟩
theorem late_any (p q:List Ky) (ap aq al:Option Addr) (cp cq nl cl F:Nat) (S:Nat→Prop) (w:World) (hp:Pth S w (.slice ap p.length cp) p) (hq:Pth S w (.slice aq q.length cq) q) (hS:∀ b,S b→b < w.heap.size) (lp:p.length ≤ 1000) (lq:q.length ≤ 1000)
 (hF:F < w.heap.size) (hc:w.cell? ⟨F,0,none⟩ = some (.slice aq q.length cq)) :
 Calls Tryz.prog 48 #[.agg #[.slice ap p.length cp, .slice al nl cl], .pointer (some ⟨F,0,none⟩)] w fun e w'=>e = .returned (.bool (decide (0 ≤ cmpP p q)))∧Below w.heap.size w w':=by
 have hb:Below w.heap.size w (w.alloc (.cells #[.slice ap p.length cp, .slice al nl cl] 98)):=(Below.refl _ _).alloc (nl_ _) _
 have hc':=bc_ hb hF hc
 have ha:=q9_ hb hS
 have H:=hid (kE_ p q ap aq cp cq S _ (hp.agree ha) (hq.agree ha) (fun b h=>by have:=hS b h;simp;omega) lp lq)
 have HB:=hid hb
 clear hb ha hp hq
 go_enter Tryz.func48,Tryz.ntmps48
 go_wp2_with fail
 refine H.out.mono ?_
 rintro e w1 ⟨rfl,hb1⟩
 have HB1:=hid (HB.out.trans (hb1.mono HB.out.size))
 clear hb1
 by_cases h:0 ≤ cmpP p q
 · go_wp2_with fail
   go_ret
   exact ⟨qf_ (by simp [h]),HB1.out⟩
 · go_wp2_with fail
   go_ret
   exact ⟨qf_ (by simp [h]),HB1.out⟩
theorem x7_ (p:Nat→Bool) (n:Nat):(idxN p n = -1∧∀ i,i < n→p i = false) ∨ ∃ i,i < n∧idxN p n = (i:Int)∧p i = true∧∀ j,j < i→p j = false:=by
 unfold idxN
 cases h:(List.range n).find? p with
 | none=>
   left
   rw [List.find?_eq_none] at h
   exact ⟨rfl,fun i hi=>by have:=h i (by simpa using hi);simpa using this⟩
 | some k=>
   right
   rw [List.find?_range_eq_some] at h
   exact ⟨k,by simpa using h.2.1,rfl,h.1,fun j hj=>by have:=h.2.2 j hj;simpa using this⟩
theorem xM_ {k:Ky} {y:Fo} (h:∀ j,j < y.len→zf_ y j ≠ some k):j7_ k y = none:=by
 rw [ki_ (i:=y.len) h,Fo.drop_len];rfl
theorem ret132 {tmps:Array Value} {W:World} {b:Nat} {x y z t5:Value} (h:W.heap[b]? = some (.cells #[x,y,z] 109 (0,0))) (h2:tmps.getD 4 undef = .pointer (some ⟨b,0,none⟩)) (h3:tmps.getD 5 undef = t5) :
 (results Tryz.f120 tmps).run Tryz.prog W = .ok (.tuple #[.agg #[x,y,z],t5]) W:=by
 have h0:=cg_ h (k:=0) rfl
 have h1:=cg_ h (k:=1) rfl
 have h4:=cg_ h (k:=2) rfl
 rw [results_cell_tmp rfl,h2,h3]
 simp [go_sem,h0,h1,h4]
theorem zY_ {W:World} {b:Nat} {x y z x' y' z':Value} (h:W.heap[b]? = some (.cells #[x,y,z] 109 (0,0))):(((W.setCell ⟨b,0,none⟩ x').setCell ⟨b,1,none⟩ y').setCell ⟨b,2,none⟩ z').heap[b]? = some (.cells #[x',y',z'] 109 (0,0)):=by
 simp [World.setCell,Array.getElem?_modify,h]
def AtR (y:Fo) (p:List Ky) (S:Nat→Prop) (w:World) (e:Ending) (w':World):Prop:=
 ∃ n l s an cn ab cb,(atF y p).getD ([],[], .nil) = (n,l,s)∧e = .returned (.tuple #[.agg #[.string (bs n), .slice an l.length cn, .slice ab s.len cb], .bool (atF y p).isSome]) ∧
  qF_ S w' (.slice an l.length cn) l∧FSl S w' (.slice ab s.len cb) s∧Below w.heap.size w w'
theorem at_any (y:Fo) (p:List Ky) (ay ap:Option Addr) (cy cp:Nat) (S T:Nat→Prop) (w:World) (hv:FSl S w (.slice ay y.len cy) y) (hS:∀ b,S b→b < w.heap.size) (hp:Pth T w (.slice ap p.length cp) p) (hT:∀ b,T b→b < w.heap.size)
 (hlen:y.len ≤ 1000) (hsm:y.Sm) (lp:p.length ≤ 1000) :
 Calls Tryz.prog 120 #[.slice ay y.len cy, .slice ap p.length cp] w (AtR y p S w):=by
 have hb0:Below w.heap.size w (w.alloc (.cells #[.string { data:=#[] }, .slice none 0 0, .slice none 0 0] 109)):=(Below.refl _ _).alloc (nl_ _) _
 have HB0:=hid hb0
 have HV:=hid hv
 have HP:=hid hp
 have HS:=hid hS
 have HT:=hid hT
 have HSM:=hid hsm
 clear hb0 hv hp hS hT hsm
 go_enter Tryz.func120,Tryz.ntmps120
 go_wp2_with fail
 go_loopw [0,11] (fun v i wr=>∃ (k:Nat) (yk:Fo) (ak:Option Addr) (ck:Nat),k ≤ p.length∧i = .int .i64 k∧v = .slice ak yk.len ck∧Hid (FSl S w (.slice ak yk.len ck) yk)∧yk.len ≤ 1000∧Hid yk.Sm∧Hid ((k < p.length ∨ k = 0)∧atF y p = atF yk (p.drop k))∧Hid (wr.heap[w.heap.size]? = some (.cells #[.string { data:=#[] }, .slice none 0 0, .slice none 0 0] 109 (0,0)))∧Below w.heap.size w wr) (fun _ i _=>p.length - (intOf i).toNat)
 case atStart=>exact ⟨0,y,ay,cy,Nat.zero_le _,rfl,rfl,HV.out,hlen,HSM.out,⟨.inr rfl,rfl⟩,ha_ _ _,HB0.out⟩
 case round=>
  obtain ⟨k,yk,ak,ck,hk,rfl,rfl,hF,hl,hsm,hA,hres,hB⟩:=hrel
  have hsz:=hB.size
  have r0:=cg_ hres.out (k:=0) rfl
  have r1:=cg_ hres.out (k:=1) rfl
  have r2:=cg_ hres.out (k:=2) rfl
  have f0:=cells_frz hres.out (k:=0)
  have f1:=cells_frz hres.out (k:=1)
  have f2:=cells_frz hres.out (k:=2)
  by_cases hlt:k < p.length
  · have hlt':(k:Int) < (p.length:Int):=by omega
    obtain ⟨g,o,rfl,hg,_,_,hcell⟩:=SlC.cells HP.out (by omega)
    obtain ⟨k0,k1,k2⟩:=qO_ hlt
    have ha:=q9_ hB HT.out
    have c0:=ha.cell hg (hcell _ _ k0)
    have c1:=ha.cell hg (hcell _ _ k1)
    have c2:=ha.cell hg (hcell _ _ k2)
    rw [← Nat.add_assoc] at c1 c2
    have hdr:p.drop k = p[k] :: p.drop (k + 1):=List.drop_eq_getElem_cons hlt
    obtain ⟨ky,hky⟩:∃ ky,p[k] = ky:=⟨_,rfl⟩
    rw [hky] at c0 c1 c2 hdr
    have hBa:Below w.heap.size w (wr.alloc (.cells #[.string (bs ky.n), .bool ky.h, .int .i64 ky.x] 96)):=hB.alloc hsz _
    obtain ⟨cs,hcs1,hcs2⟩:=hF.out
    have hagA:=q9_ hBa HS.out
    have hnew:=ha_ wr (.cells #[.string (bs ky.n), .bool ky.h, .int .i64 ky.x] 96)
    have HI:=hid (yd_ 163 vm_ (fun i=>decide (zf_ yk i = some ky)) [.pointer (some ⟨wr.heap.size,0,none⟩)] yk.len ak ck cs S _ (hcs1.agree hagA) (fun b hb=>by have:=HS.out b hb;simp;omega) (by omega)
     (isK_node (hcs1.agree hagA) (hcs2.agree hagA) (fun b hb=>by have:=HS.out b hb;simp;omega) (by simp) (cg_ hnew (k:=0) rfl) (cg_ hnew (k:=1) rfl) (cg_ hnew (k:=2) rfl)))
    have HBA:=hid hBa
    have HDR:=hid hdr
    clear hcell k0 k1 k2 hky hdr hBa hcs1 hcs2 hagA hnew ha
    go_wp2_with fail
    refine HI.out.mono ?_
    rintro e w2 ⟨rfl,hb2⟩
    have hB2:=HBA.out.trans (hb2.mono (by simp;omega))
    have hwl:w.heap.size < wr.heap.size:=(ge_ hres.out).1
    have hres2:Hid (w2.heap[w.heap.size]? = some (.cells #[.string { data:=#[] }, .slice none 0 0, .slice none 0 0] 109 (0,0))):=(hb2.block _ (by simp;omega)).trans ((heap_alloc_old _ _ (by omega)).trans hres.out)
    have e0:=cg_ hres2.out (k:=0) rfl
    have e1:=cg_ hres2.out (k:=1) rfl
    have e2:=cg_ hres2.out (k:=2) rfl
    have q0:=cells_frz hres2.out (k:=0)
    have q1:=cells_frz hres2.out (k:=1)
    have q2:=cells_frz hres2.out (k:=2)
    have HB2:=hid hB2
    have hA2:=hA.out.2
    rw [HDR.out] at hA2
    clear hb2 hB2
    rcases x7_ (fun i=>decide (zf_ yk i = some ky)) yk.len with ⟨hi,hall⟩ | ⟨i,hil,hi,hki,hbef⟩
    · rw [hi]
      have hfn:j7_ ky yk = none:=xM_ fun j hj=>by have:=hall j hj;simpa using this
      have hnone:atF y p = none:=by
       rw [hA2]
       simp only [atF,hfn]
      have HN:=hid hnone
      clear hnone hall hi hfn hA2
      go_wp2_with fail
      refine bodyPost_ret (v := .tuple #[.agg #[.string { data:=#[] }, .slice none 0 0, .slice none 0 0], .bool false]) (ret132 (zY_ hres2.out) rfl rfl) rfl ?_
      refine ⟨[],[], .nil,none,0,none,0,by rw [HN.out];rfl,by rw [HN.out];rfl,⟨rfl,none,0,rfl,nl_ _,by simp [maxLen],fun _=>rfl, .inl rfl⟩,⟨[],⟨rfl,none,0,rfl,nl_ _,by simp [maxLen],fun _=>rfl, .inl rfl⟩,rfl⟩,?_⟩
      exact Below.setCell (Below.setCell (Below.setCell HB2.out (p:=⟨w.heap.size,0,none⟩) (nl_ _) _) (p:=⟨w.heap.size,1,none⟩) (nl_ _) _) (p:=⟨w.heap.size,2,none⟩) (nl_ _) _
    · rw [hi]
      obtain ⟨a9,c9,he9,hc9,hm9,hat9⟩:=hF.out.at
      obtain ⟨rfl,rfl⟩:ak = a9∧ck = c9:=by cases he9;exact ⟨rfl,rfl⟩
      obtain ⟨g2,o2,n,l,s,r,an,cn,ab,cb,rfl,hg2,hd,m0,m1,m2,hI,hFs⟩:=hat9 i hil
      have hag2:qd_ S w w2:=q9_ HB2.out HS.out
      have n0:=hag2.cell hg2 m0
      have n1:=hag2.cell hg2 m1
      have n2:=hag2.cell hg2 m2
      have hkn:kyOf n l = ky:=by
       have:decide (zf_ yk i = some ky) = true:=hki
       simp [zf_,hd] at this
       exact this
      have hfn:j7_ ky yk = some (n,l,s):=by
       rw [ki_ (i:=i) (fun j hj=>by have:=hbef j hj;simpa using this),hd]
       simp [j7_,hkn]
      obtain ⟨s1,s2,s3,s4,_⟩:n.length ≤ 1000∧l.length ≤ 1000∧s.len ≤ 1000∧s.Sm∧r.Sm:=by have:=hsm.out.drop (i:=i);rwa [hd] at this
      have hil':(i:Int) < (yk.len:Int):=by omega
      have hi0:(0:Int) ≤ (i:Int):=by omega
      have HI2:=hid hI
      have HF2:=hid hFs
      have HAG:=hid hag2
      unfold maxLen at hm9
      clear hi he9 hat9 m0 m1 m2 hd hki hbef hI hFs hag2 hkn
      by_cases hlast:k + 1 = p.length
      · have hl':((k:Int) == (p.length:Int) - 1) = true:=by simp;omega
        have hat':atF y p = some (n,l,s):=by
         rw [hA2,List.drop_eq_nil_of_le (by omega)]
         simp only [atF,hfn,if_true]
        have HAT:=hid hat'
        clear hat' hA2 hfn
        have hfar:=HI2.out.agree HAG.out
        have hff:=HF2.out.agree HAG.out
        have hst:∀ x y z,qd_ S w2 (((w2.setCell ⟨w.heap.size,0,none⟩ x).setCell ⟨w.heap.size,1,none⟩ y).setCell ⟨w.heap.size,2,none⟩ z):=fun x y z b hb=>by
         have hlt:=HS.out b hb
         have hB3:=Below.setCell (Below.setCell (Below.setCell (Below.refl w.heap.size w2) (p:=⟨w.heap.size,0,none⟩) (nl_ _) x) (p:=⟨w.heap.size,1,none⟩) (nl_ _) y) (p:=⟨w.heap.size,2,none⟩) (nl_ _) z
         exact hB3.block b hlt
        have HIF:=hid (hfar.agree (hst (.string (bs n)) (.slice an l.length cn) (.slice ab s.len cb)))
        have HFF:=hid (hff.agree (hst (.string (bs n)) (.slice an l.length cn) (.slice ab s.len cb)))
        clear hfar hff hst
        go_wp2_with fail
        refine bodyPost_ret (v := .tuple #[.agg #[.string (bs n), .slice an l.length cn, .slice ab s.len cb], .bool true]) (ret132 (zY_ hres2.out) rfl rfl) rfl ?_
        refine ⟨n,l,s,an,cn,ab,cb,by rw [HAT.out];rfl,by rw [HAT.out];rfl,HIF.out,HFF.out,?_⟩
        exact Below.setCell (Below.setCell (Below.setCell HB2.out (p:=⟨w.heap.size,0,none⟩) (nl_ _) _) (p:=⟨w.heap.size,1,none⟩) (nl_ _) _) (p:=⟨w.heap.size,2,none⟩) (nl_ _) _
      · have hl':((k:Int) == (p.length:Int) - 1) = false:=by simp;omega
        have hne:p.drop (k + 1) ≠ []:=fun e=>by have:=congrArg List.length e;rw [List.length_drop] at this;simp at this;omega
        have hat':atF y p = atF s (p.drop (k + 1)):=by
         rw [hA2]
         simp only [atF,hfn,hne,if_false]
        have HAT:=hid hat'
        clear hat' hA2 hfn hne
        go_wp2_with fail
        go_roundw
        case rel=>exact ⟨k + 1,s,ab,cb,by omega,by go_num,rfl,HF2.out,s3,hid s4,⟨.inl (by omega),HAT.out⟩,hres2,HB2.out⟩
        case measure=>simp [intOf];omega
  · have hlt':¬ (k:Int) < (p.length:Int):=by omega
    obtain rfl:k = p.length:=by omega
    have hnone:atF y p = none:=by
     rcases hA.out.1 with h | h
     · omega
     · have:p = []:=List.eq_nil_of_length_eq_zero h
       rw [this];cases y <;> rfl
    have HN:=hid hnone
    clear hnone
    go_wp2_with fail
    refine bodyPost_ret (v := .tuple #[.agg #[.string { data:=#[] }, .slice none 0 0, .slice none 0 0], .bool false]) (ret132 (zY_ hres.out) rfl rfl) rfl ?_
    refine ⟨[],[], .nil,none,0,none,0,by rw [HN.out];rfl,by rw [HN.out];rfl,⟨rfl,none,0,rfl,nl_ _,by simp [maxLen],fun _=>rfl, .inl rfl⟩,⟨[],⟨rfl,none,0,rfl,nl_ _,by simp [maxLen],fun _=>rfl, .inl rfl⟩,rfl⟩,?_⟩
    exact Below.setCell (Below.setCell (Below.setCell hB (p:=⟨w.heap.size,0,none⟩) (nl_ _) _) (p:=⟨w.heap.size,1,none⟩) (nl_ _) _) (p:=⟨w.heap.size,2,none⟩) (nl_ _) _
end Go.Proofs.LF
namespace Go.Proofs.LF
open Go.RowKit
variable {P:Program}
variable {k:TypeId} {q:Ch→List UInt8} {S:Nat→Prop} {b n:Nat} {L:List Ch} {w:World}
end Go.Proofs.LF
namespace Go.Proofs
def Tryz.laysSort_ren:Go.Shelf.Ren:=⟨fun | 6=>37 | 15=>83 | 14=>82 | 28=>136 | 29=>137 | 20=>128 | 21=>129 | 22=>130 | 23=>131 | 24=>132 | 25=>133 | 26=>134 | 27=>135 | 46=>169 | 47=>170 | 48=>171 | 49=>172 | 50=>173 | 57=>205 | n=>n,fun | 22=>39 | 24=>92 | 25=>104 | 3=>3 | 39=>178 | 0=>0 | 53=>83 | 55=>259 | 4=>4 | 46=>252 | 45=>251 | 50=>182 | 5=>5 | 9=>9 | 66=>286 | 70=>290 | 76=>314 | 77=>315 | n=>n,fun | n=>n⟩
theorem Tryz.laysSort:Go.Proofs.SlLaysF.n6 Tryz.prog Tryz.laysSort_ren:={
 mixed:=by kernel_rfl
 f6:=⟨Tryz.f37.name,by decide,Tryz.func37.trans (congrArg some (by kernel_rfl))⟩
 f14:=⟨Tryz.f82.name,by decide,Tryz.func82.trans (congrArg some (by kernel_rfl))⟩
 f15:=Tryz.func83.trans (congrArg some (by kernel_rfl))
 f20:=⟨Tryz.f128.name,by decide,Tryz.func128.trans (congrArg some (by kernel_rfl))⟩
 f21:=⟨Tryz.f129.name,by decide,Tryz.func129.trans (congrArg some (by kernel_rfl))⟩
 f22:=⟨Tryz.f130.name,by decide,Tryz.func130.trans (congrArg some (by kernel_rfl))⟩
 f23:=⟨Tryz.f131.name,by decide,Tryz.func131.trans (congrArg some (by kernel_rfl))⟩
 f24:=⟨Tryz.f132.name,by decide,Tryz.func132.trans (congrArg some (by kernel_rfl))⟩
 f25:=⟨Tryz.f133.name,by decide,Tryz.func133.trans (congrArg some (by kernel_rfl))⟩
 f26:=⟨Tryz.f134.name,by decide,Tryz.func134.trans (congrArg some (by kernel_rfl))⟩
 f27:=⟨Tryz.f135.name,by decide,Tryz.func135.trans (congrArg some (by kernel_rfl))⟩
 f28:=Tryz.func136.trans (congrArg some (by kernel_rfl))
 f29:=Tryz.func137.trans (congrArg some (by kernel_rfl))
 f46:=⟨Tryz.f169.name,by decide,Tryz.func169.trans (congrArg some (by kernel_rfl))⟩
 f47:=Tryz.func170.trans (congrArg some (by kernel_rfl))
 f48:=Tryz.func171.trans (congrArg some (by kernel_rfl))
 f49:=⟨Tryz.f172.name,by decide,Tryz.func172.trans (congrArg some (by kernel_rfl))⟩
 f50:=⟨Tryz.f173.name,by decide,Tryz.func173.trans (congrArg some (by kernel_rfl))⟩
 f57:=⟨Tryz.f205.name,by decide,Tryz.func205.trans (congrArg some (by kernel_rfl))⟩
 t0:=Tryz.underlying0
 a0:=Tryz.isAgg0
 z0:=Tryz.sizeOf0
 v0:=Tryz.zeroValue0
 t3:=Tryz.underlying3
 a3:=Tryz.isAgg3
 z3:=Tryz.sizeOf3
 v3:=Tryz.zeroValue3
 t4:=Tryz.underlying4
 a4:=Tryz.isAgg4
 z4:=Tryz.sizeOf4
 v4:=Tryz.zeroValue4
 t5:=Tryz.underlying5
 a5:=Tryz.isAgg5
 z5:=Tryz.sizeOf5
 v5:=Tryz.zeroValue5
 t9:=Tryz.underlying9
 a9:=Tryz.isAgg9
 z9:=Tryz.sizeOf9
 v9:=Tryz.zeroValue9
 t22:=Tryz.underlying39
 a22:=Tryz.isAgg39
 z22:=Tryz.sizeOf39
 v22:=Tryz.zeroValue39
 a24:=Tryz.isAgg92
 z24:=Tryz.sizeOf92
 t25:=Tryz.underlying104
 a25:=Tryz.isAgg104
 z25:=Tryz.sizeOf104
 v25:=Tryz.zeroValue104
 t39:=Tryz.underlying178
 a39:=Tryz.isAgg178
 z39:=Tryz.sizeOf178
 v39:=Tryz.zeroValue178
 t45:=Tryz.underlying251
 a45:=Tryz.isAgg251
 z45:=Tryz.sizeOf251
 v45:=Tryz.zeroValue251
 t46:=Tryz.underlying252
 a46:=Tryz.isAgg252
 z46:=Tryz.sizeOf252
 v46:=Tryz.zeroValue252
 t50:=Tryz.underlying182
 a50:=Tryz.isAgg182
 z50:=Tryz.sizeOf182
 v50:=Tryz.zeroValue182
 t53:=Tryz.underlying83
 a53:=Tryz.isAgg83
 z53:=Tryz.sizeOf83
 v53:=Tryz.zeroValue83
 t55:=Tryz.underlying259
 a55:=Tryz.isAgg259
 z55:=Tryz.sizeOf259
 v55:=Tryz.zeroValue259
 t66:=Tryz.underlying286
 a66:=Tryz.isAgg286
 z66:=Tryz.sizeOf286
 v66:=Tryz.zeroValue286
 t70:=Tryz.underlying290
 a70:=Tryz.isAgg290
 z70:=Tryz.sizeOf290
 v70:=Tryz.zeroValue290
 t76:=Tryz.underlying314
 a76:=Tryz.isAgg314
 z76:=Tryz.sizeOf314
 v76:=Tryz.zeroValue314
 t77:=Tryz.underlying315
 a77:=Tryz.isAgg315
 z77:=Tryz.sizeOf315
 v77:=Tryz.zeroValue315 }
namespace LF
open Go.RowKit Go.Sort
set_option maxHeartbeats 4000000
set_option maxRecDepth 100000
structure PV where
 v:Value
 p:List Ky
 deriving Inhabited
theorem swoP {α:Type} (f:α→List Ky):SWO (ltOf (fun x y:α=>cmpP (f x) (f y))) where
 irrefl x:=by simp [ltOf,qj_.refl]
 trans x y z h1 h2:=by simp only [ltOf,decide_eq_true_eq] at *;exact qj_.trans h1 h2
 ntrans x y z h1 h2:=by
  simp only [ltOf,decide_eq_false_iff_not] at *
  intro h
  rcases Int.lt_trichotomy (cmpP (f x) (f y)) 0 with h3 | h3 | h3
  · exact h1 h3
  · rw [qj_.eq h3] at h;exact h2 h
  · have h4:=qj_.flop h3
    exact h2 (qj_.trans h4 h)
theorem vu_ {α:Type} [Inhabited α] {enc:α→Value} {w:World} {g n b:Nat} {os:Array Obj} {d:Array α} (hb:b < w.heap.size) (hne:b ≠ g):(sortWorld enc w g 0 n d os).heap[b]? = w.heap[b]?:=by
 unfold sortWorld
 rw [heap_grow_old _ _ (by simpa using hb)]
 have:g ≠ b:=fun e=>hne e.symm
 simp [putRow,mapBlock,Sort.ahead,Array.getElem?_modify,this]
theorem vA_ {α:Type} [Inhabited α] {enc:α→Value} {w:World} {g n:Nat} {os:Array Obj} (d:Array α):w.grownBy (sortWorld enc w g 0 n d os) (some g):=
 ⟨rfl,rfl,rfl,by unfold sortWorld;simp,fun k hk hne=>vu_ hk (fun e=>hne (by rw [e]))⟩
theorem sortW_row {α:Type} [Inhabited α] {enc:α→Value} {w:World} {g n:Nat} {os:Array Obj} {d:Array α} {cur:Array Value} {e:TypeId} (hb:w.heap[g]? = some (.cells cur e (0,0))):(sortWorld enc w g 0 n d os).heap[g]? = some (.cells (putCells enc 0 d cur) e (0,0)):=by
 have hg:g < w.heap.size:=(ge_ hb).1
 unfold sortWorld
 rw [heap_grow_old _ _ (by simpa using hg)]
 simp [putRow,mapBlock,Sort.ahead,Array.getElem?_modify,hb,onCells]
theorem take_putC {α:Type} [Inhabited α] (enc:α→Value) (cur:Array Value) (d:Array α) (h:d.size ≤ cur.size):(putCells enc 0 d cur).toList.take d.size = d.toList.map enc:=by
 apply List.ext_getElem?
 intro j
 by_cases hj:j < d.size
 · rw [List.getElem?_take_of_lt hj,Array.getElem?_toList]
   simp [putCells,hj,show j < cur.size by omega]
 · rw [List.getElem?_take_eq_none (by omega),List.getElem?_eq_none (by simp;omega)]
abbrev PVs (M:Nat→Prop) (w:World):={ x:PV // (∃ a c,x.v = .slice a x.p.length c)∧Pth M w x.v x.p∧x.p.length ≤ 1000 }
theorem pvs_of {M:Nat→Prop} {w:World}:∀ {ps:List (List Ky)} {cs:List Value},LCs vP_ M w ps cs→(∀ p ∈ ps,p.length ≤ 1000)→∃ ds:List (PVs M w),ds.map (·.1.v) = cs∧ds.map (·.1.p) = ps
 | [],_,h,_=>⟨[],by rw [show _ = [] from h];rfl,rfl⟩
 | p :: ps,_,⟨c,es,h1,⟨ap,cp,h2,h3⟩,h4⟩,hl=>by
   obtain ⟨ds,hd1,hd2⟩:=pvs_of h4 (fun q hq=>hl q (by simp [hq]))
   exact ⟨⟨⟨.slice ap p.length cp,p⟩,⟨ap,cp,rfl⟩,h3,hl p (by simp)⟩ :: ds,by rw [h1,h2,← hd1];rfl,by simp [hd2]⟩
theorem pvs_to {M:Nat→Prop} {w:World}:∀ (ds:List (PVs M w)),LCs vP_ M w (ds.map (·.1.p)) (ds.map (·.1.v))
 | []=>rfl
 | x :: ds=>by
   obtain ⟨a,c,h⟩:=x.2.1
   refine ⟨[x.1.v],ds.map (·.1.v),rfl,⟨a,c,by rw [h],?_⟩,pvs_to ds⟩
   have:=x.2.2.1
   rwa [h] at this
theorem enters103 (args:Array Value) (w:World):(callFunc 36 args).run Tryz.prog w = .ok (.enter 36 args) w:=by simp [go_sem]
theorem yo_ (ps:List (List Ky)) (v:Value) (B:Nat) (cs:List Value) (M:Nat→Prop) (w:World) (hown:w.ownsRow B 92 1 v ps.length cs) (hlc:LCs vP_ M w ps cs) (hM:∀ b,M b→b < w.heap.size∧v.ownBlock ≠ some b) (hps:∀ p ∈ ps,p.length ≤ 1000) (hl:ps.length ≤ 100000) :
 Calls Tryz.prog 37 #[v, .func (.func 36) #[] #[]] w fun e w'=>e = .returned (.tuple #[])∧∃ cs',w'.ownsRow B 92 1 v ps.length cs'∧LCs vP_ M w' (j9_ ps) cs'∧w.grownBy w' v.ownBlock:=by
 by_cases h0:ps.length = 0
 · obtain rfl:=List.eq_nil_of_length_eq_zero h0
   obtain ⟨a,c,rfl,_,_⟩:=owns_shape hown
   refine (AnyF.slices_SortFunc_none (L:={ Tryz.laysSort with }) a c (.func (.func 36) #[] #[]) w).mono ?_
   rintro e w' ⟨rfl,rfl⟩
   exact ⟨rfl,cs,hown,by simpa [j9_] using hlc,World.grownBy.refl _ _⟩
 · obtain ⟨h1,⟨rfl,h2⟩ | ⟨g,cap,cur,rfl,hbg,hgg,hn,hcap,hsz,htk⟩⟩:=hown
   · exact absurd h2 h0
   · obtain ⟨ds,hd1,hd2⟩:=pvs_of hlc hps
     have hdl:ds.length = ps.length:=by rw [← hd2];simp
     have hgl:g < w.heap.size:=(ge_ hgg).1
     haveI:Inhabited (PVs M w):=⟨ds[0]'(by omega)⟩
     have hMg:∀ b,M b→b ≠ g:=fun b hb e=>(hM b hb).2 (by simp [Value.ownBlock,e])
     have hH:Holds (fun x:PVs M w=>x.1.v) w g 0 ds.toArray:=by
      intro j hj
      have hj':j < ds.length:=by simpa using hj
      have e1:cs[j]? = some (ds[j]).1.v:=by rw [← hd1];simp [hj']
      rw [← htk,Nat.mul_one,List.getElem?_take] at e1
      rw [if_pos (by omega)] at e1
      refine ⟨?_,by simp [World.frozen?,hgg]⟩
      simp only [World.cell?,hgg,Nat.zero_add]
      rw [← Array.getElem?_toList,e1]
      simp [hj']
     have hag:∀ m os (dk:Array (PVs M w)),qd_ M w (sortWorld (fun x:PVs M w=>x.1.v) w g 0 m dk os):=fun m os dk b hb=>vu_ (hM b hb).1 (hMg b hb)
     have hcmp:CmpLays1 Tryz.prog 36 #[] (fun x:PVs M w=>x.1.v) (fun x y=>cmpP x.1.p y.1.p) g 0 ds.toArray.size w:=by
      intro m os dk hs x y
      obtain ⟨ax,cx,hx⟩:=x.2.1
      obtain ⟨ay,cy,hy⟩:=y.2.1
      have hpx:=x.2.2.1
      have hpy:=y.2.2.1
      have:=byPath_g x.1.p y.1.p ax ay cx cy M (sortWorld (fun x:PVs M w=>x.1.v) w g 0 m dk os) ((by rw [← hx];exact hpx.agree (hag m os dk))) ((by rw [← hy];exact hpy.agree (hag m os dk))) (fun b hb=>by have h9:=(vA_ (enc:=fun x:PVs M w=>x.1.v) (w:=w) (g:=g) (n:=m) (os:=os) dk).size;have:=(hM b hb).1;omega) x.2.2.2 y.2.2.2
      simp only [hx,hy]
      simpa [Grw] using this
     have hcon:=Any.slices_SortFunc Tryz.laysSort (fun x:PVs M w=>x.1.v) (fun x=>by obtain ⟨a,c,h⟩:=x.2.1;show x.1.v.oneCell' = true;rw [h];rfl) (fun x y=>cmpP x.1.p y.1.p) (swoP fun x:PVs M w=>x.1.p) 36 #[] g 0 cap ds.toArray w enters103 hcmp hH hgl (by simp;omega)
     have e1:ds.toArray.size = ps.length:=by simpa using hdl
     rw [e1] at hcon
     refine hcon.mono ?_
     rintro e w' ⟨rfl,d',n,os,⟨hp1,_,hp3⟩,hs,rfl⟩
     have hps':(d'.toList.map (·.1.p)).Perm ps:=by
      have h3:d'.toList.Perm ds:=by
       have:=hp3
       rw [← e1] at this
       rw [Array.extract_eq_self_of_le (by omega),Array.extract_eq_self_of_le (by omega)] at this
       simpa using this
      rw [← hd2]
      exact h3.map _
     have hd's:d'.size = ps.length:=by rw [hp1,e1]
     have hsorted:(d'.toList.map (·.1.p)).Pairwise (fun a b=>cmpP a b ≤ 0):=by
      rw [List.pairwise_map,List.pairwise_iff_getElem]
      intro i j hi hj hij
      have hi':i < d'.size:=by simpa using hi
      have hj':j < d'.size:=by simpa using hj
      have:=hs i j (Nat.zero_le _) hij (by omega)
      simp only [ltOf,decide_eq_false_iff_not] at this
      rw [getElem!_pos d' j hj',getElem!_pos d' i hi'] at this
      simp only [Array.getElem_toList]
      rcases Int.lt_trichotomy (cmpP d'[i].1.p d'[j].1.p) 0 with h | h | h
      · omega
      · omega
      · exact absurd (qj_.flop h) this
     have hsrt:=srtP_of hps' hsorted
     refine ⟨rfl,d'.toList.map (·.1.v),⟨by simp [hd's], .inr ⟨g,cap,_,rfl,hbg,sortW_row hgg,hn,hcap,by simp [putCells,hsz],?_⟩⟩,?_,vA_ d'⟩
     · rw [Nat.mul_one,← hd's]
       exact take_putC _ _ _ (by omega)
     · rw [← hsrt]
       exact (pvs_to d'.toList).agree (hag n os d')
end LF
end Go.Proofs
namespace Go.Proofs.LF
open Go.RowKit Go.Sort
set_option maxHeartbeats 4000000
set_option maxRecDepth 100000
attribute [local go_sem] q1_ q2_ q6_
theorem cmpFl_any (p q:List Ky) (ap aq al:Option Addr) (cp cq nl cl:Nat) (S:Nat→Prop) (w:World) (hp:Pth S w (.slice ap p.length cp) p) (hq:Pth S w (.slice aq q.length cq) q) (hS:∀ b,S b→b < w.heap.size) (lp:p.length ≤ 1000) (lq:q.length ≤ 1000) :
 Calls Tryz.prog 78 #[.agg #[.slice ap p.length cp, .slice al nl cl], .slice aq q.length cq] w fun e w'=>e = .returned (.int .i64 (cmpP p q))∧Below w.heap.size w w':=by
 have hb:Below w.heap.size w (w.alloc (.cells #[.slice ap p.length cp, .slice al nl cl] 98)):=(Below.refl _ _).alloc (nl_ _) _
 have ha:=q9_ hb hS
 have H:=hid (kE_ p q ap aq cp cq S _ (hp.agree ha) (hq.agree ha) (fun b h=>by have:=hS b h;simp;omega) lp lq)
 have HB:=hid hb
 clear hb ha hp hq
 go_enter Tryz.func78,Tryz.ntmps78
 go_wp2_with fail
 refine H.out.mono ?_
 rintro e w1 ⟨rfl,hb1⟩
 have HB1:=hid (HB.out.trans (hb1.mono HB.out.size))
 go_wp2_with fail
 go_ret
 exact ⟨rfl,HB1.out⟩
theorem jk_ (l:List Fl) (p:List Ky) (al ap:Option Addr) (cl cp:Nat) (S T:Nat→Prop) (w:World) (hv:FlSl S w (.slice al l.length cl) l) (hS:∀ b,S b→b < w.heap.size) (hp:Pth T w (.slice ap p.length cp) p) (hT:∀ b,T b→b < w.heap.size)
 (hl:l.length ≤ 1000) (hsm:SmF l) (lp:p.length ≤ 1000) :
 Calls Tryz.prog 77 #[.slice al l.length cl, .slice ap p.length cp, .func (.func 78) #[] #[]] w fun e w'=>e = .returned (.tuple #[.int .i64 (fndI l p), .bool (decide (fndI l p < l.length) && decide (cmpP (l.getD (fndI l p) fl0).p p = 0))])∧Below w.heap.size w w':=by
 obtain ⟨a',c',he,hc,hcm,hat⟩:=hv.at
 obtain ⟨rfl,rfl⟩:al = a'∧cl = c':=by cases he;exact ⟨rfl,rfl⟩
 have HAT:=hid hat
 have HS:=hid hS
 have HT:=hid hT
 have HP:=hid hp
 have HSM:=hid hsm
 clear hat hS hT hp hsm he hv
 unfold maxLen at hcm
 have hcall:∀ (i:Nat) (hi:i < l.length) (W:World),Below w.heap.size w W→∃ g o ap2 cp2 an cn,al = some ⟨g,o,none⟩∧W.cell? ⟨g,o + i * 2,none⟩ = some (.slice ap2 l[i].p.length cp2)∧W.cell? ⟨g,o + i * 2 + 1,none⟩ = some (.slice an l[i].l.length cn) ∧
  Hid (Calls Tryz.prog 78 #[.agg #[.slice ap2 l[i].p.length cp2, .slice an l[i].l.length cn], .slice ap p.length cp] W fun e w'=>e = .returned (.int .i64 (cmpP l[i].p p))∧Below W.heap.size W w'):=by
  intro i hi W hB
  obtain ⟨g,o,cs1,rfl,hg,⟨ap2,cp2,an,cn,rfl,hP,hI⟩,hcell⟩:=HAT.out i hi
  have ha:qd_ S w W:=q9_ hB HS.out
  have c0:=ha.cell hg (hcell 0 _ rfl)
  have c1:=ha.cell hg (hcell 1 _ rfl)
  rw [Nat.add_zero] at c0
  rw [← Nat.add_assoc] at c1
  exact ⟨g,o,ap2,cp2,an,cn,rfl,c0,c1,cmpFl_any l[i].p p ap2 ap an cp2 cp _ cn (fun b=>S b ∨ T b) W ((hP.agree ha).wide fun b hb => .inl hb) ((HP.out.agree (q9_ hB HT.out)).wide fun b hb => .inr hb)
   (fun b hb=>by have:=hB.size;rcases hb with hb | hb;have:=HS.out b hb;omega;have:=HT.out b hb;omega) (HSM.out _ (List.getElem_mem hi)).1 lp⟩
 have HC:=hid hcall
 clear hcall
 go_enter Tryz.func77,Tryz.ntmps77
 go_wp2_with fail
 go_loopw [9,10] (fun vi vj wr=>∃ i j:Nat,vi = .int .i64 i∧vj = .int .i64 j∧i ≤ j∧j ≤ l.length∧Hid (fndI l p = bsF (fun h=>decide (cmpP (l.getD h fl0).p p < 0)) i j)∧Below w.heap.size w wr) (fun vi vj _=>(intOf vj).toNat - (intOf vi).toNat)
 case atStart=>exact ⟨0,l.length,rfl,rfl,Nat.zero_le _,nl_ _,rfl,Below.refl _ _⟩
 case round=>
  obtain ⟨i,j,rfl,rfl,hij,hjl,hF,hB⟩:=hrel
  have hsz:=hB.size
  by_cases hlt:i < j
  · have hlt':(i:Int) < (j:Int):=by omega
    obtain ⟨h,hh⟩:∃ h,(i + j) / 2 = h:=⟨_,rfl⟩
    have hhi:((i:Int) + (j:Int)) / 2 = (h:Int):=by omega
    have hhl:h < l.length:=by omega
    have hb1:i ≤ h:=by omega
    have hb2:h < j:=by omega
    have hhl':(h:Int) < (l.length:Int):=by omega
    have hh0:(0:Int) ≤ (h:Int):=by omega
    obtain ⟨g,o,ap2,cp2,an,cn,rfl,c0,c1,H⟩:=HC.out h hhl wr hB
    have hF2:=hF.out
    rw [yu_ hlt,hh] at hF2
    have hg:l.getD h fl0 = l[h]:=by simp [List.getD_eq_getElem?_getD,hhl]
    simp only [hg,decide_eq_true_eq] at hF2
    have HF:=hid hF2
    clear hF2 hg hh
    go_wp2_with fail
    refine H.out.mono ?_
    rintro e w2 ⟨rfl,hb3⟩
    have HB:=hid (hB.trans (hb3.mono hsz))
    clear hb3
    by_cases hneg:cmpP l[h].p p < 0
    · have hF3:=HF.out
      rw [if_pos hneg] at hF3
      have HF3:=hid hF3
      clear hF3
      go_wp2_with fail
      go_roundw
      case rel=>exact ⟨h + 1,j,by go_num,rfl,by omega,hjl,HF3.out,HB.out⟩
      case measure=>simp [intOf];omega
    · have hF3:=HF.out
      rw [if_neg hneg] at hF3
      have HF3:=hid hF3
      clear hF3
      go_wp2_with fail
      go_roundw
      case rel=>exact ⟨i,h,rfl,rfl,hb1,by omega,HF3.out,HB.out⟩
      case measure=>simp [intOf];omega
  · obtain rfl:i = j:=by omega
    have hlt':¬ (i:Int) < (i:Int):=by omega
    by_cases hil:i < l.length
    · have hil':(i:Int) < (l.length:Int):=by omega
      obtain ⟨g,o,ap2,cp2,an,cn,rfl,c0,c1,H⟩:=HC.out i hil wr hB
      have hF2:=hF.out
      rw [zk_ (by omega)] at hF2
      have HF:=hid hF2
      clear hF2
      go_wp2_with fail
      refine H.out.mono ?_
      rintro e w2 ⟨rfl,hb3⟩
      have HB:=hid (hB.trans (hb3.mono hsz))
      clear hb3
      have hfin:(decide (fndI l p < l.length) && decide (cmpP (l.getD (fndI l p) fl0).p p = 0)) = decide (cmpP l[i].p p = 0):=by
       rw [HF.out];simp [hil,List.getD_eq_getElem?_getD]
      have HFI:=hid hfin
      clear hfin
      by_cases hz:cmpP l[i].p p = 0
      · have hz':(cmpP l[i].p p == 0) = true:=by simp [hz]
        have hzd:decide (cmpP l[i].p p = 0) = true:=by simp [hz]
        have HZ:=hid hzd
        clear hz hzd
        go_wp2_with fail
        go_ret2
        exact ⟨by rw [HFI.out,HZ.out,HF.out];simp,HB.out⟩
      · have hz':(cmpP l[i].p p == 0) = false:=by simp [hz]
        have hzd:decide (cmpP l[i].p p = 0) = false:=by simp [hz]
        have HZ:=hid hzd
        clear hz hzd
        go_wp2_with fail
        go_ret2
        exact ⟨by rw [HFI.out,HZ.out,HF.out];simp,HB.out⟩
    · have hil':¬ (i:Int) < (l.length:Int):=by omega
      have hF2:=hF.out
      rw [zk_ (by omega)] at hF2
      have HF:=hid hF2
      clear hF2
      have hfin:(decide (fndI l p < l.length) && decide (cmpP (l.getD (fndI l p) fl0).p p = 0)) = false:=by
       rw [HF.out];simp [hil]
      have HFI:=hid hfin
      clear hfin
      go_wp2_with fail
      go_ret2
      exact ⟨by have h1:=HF.out;have h2:=HFI.out;rw [h1] at h2 ⊢;simp [hil],hB⟩
def RunR (p:UInt8→Bool) (R:Nat) (t:List UInt8) (i most:Nat) (vs:List Value) (w:World) (e:Ending) (w':World):Prop:=
 ∃ s:List UInt8,e = .returned (.string (bs s))∧Hid (s = (t.drop i).take (qD_ p most (t.drop i)))∧Hid (s.length = qD_ p most (t.drop i))∧Hid (s.length ≤ most∧i + s.length ≤ t.length)∧Hid (Rdr R t (i + s.length) vs w')∧Hid (Keep (· = R) w w')
theorem RunR.of {p:UInt8→Bool} {R:Nat} {t:List UInt8} {i most:Nat} {vs:List Value} {w:World} {e:Ending} {w':World} (hi:i ≤ t.length)
 (h:e = .returned (.string (bs ((t.drop i).take (qD_ p most (t.drop i)))))∧Rdr R t (i + qD_ p most (t.drop i)) vs w'∧Keep (· = R) w w'):RunR p R t i most vs w e w':=by
 have hl:=vo_ (p:=p) (m:=most) (l:=t.drop i)
 have hs:((t.drop i).take (qD_ p most (t.drop i))).length = qD_ p most (t.drop i):=by rw [List.length_take];omega
 rw [List.length_drop] at hl
 exact ⟨_,h.1,rfl,hs,by rw [Hid,hs];omega,by rw [Hid,hs];exact h.2.1,h.2.2⟩
theorem x1_ (R:Nat) (t:List UInt8) (i most:Nat) (vs:List Value) (w:World) (hr:Rdr R t i vs w) (ht:t.length ≤ 100000) (hi:i ≤ t.length) (hm:most ≤ 1000) :
 Calls Tryz.prog 94 #[.pointer (some ⟨R,0,none⟩), .func (.func 144) #[] #[], .int .i64 most] w (RunR qw_ R t i most vs w):=
 (runA_any 144 enters225 qw_ R t i most vs w hr ht hi hm fun c W=>jn_ c W).mono fun _ _ h=>RunR.of hi h
theorem w3_ (R:Nat) (t:List UInt8) (i most:Nat) (vs:List Value) (w:World) (hr:Rdr R t i vs w) (ht:t.length ≤ 100000) (hi:i ≤ t.length) (hm:most ≤ 1000) :
 Calls Tryz.prog 94 #[.pointer (some ⟨R,0,none⟩), .func (.func 97) #[.agg #[.int .u8 97, .int .u8 122]] #[], .int .i64 most] w (RunR qK_ R t i most vs w):=
 (yN_ 97 122 qK_ R t i most vs w hr ht hi hm fun c W=>has_any 97 122 c.toNat W).mono fun _ _ h=>RunR.of hi h
theorem wl_ (R:Nat) (t:List UInt8) (i most:Nat) (vs:List Value) (w:World) (hr:Rdr R t i vs w) (ht:t.length ≤ 100000) (hi:i ≤ t.length) (hm:most ≤ 1000) :
 Calls Tryz.prog 94 #[.pointer (some ⟨R,0,none⟩), .func (.func 97) #[.agg #[.int .u8 48, .int .u8 57]] #[], .int .i64 most] w (RunR qG_ R t i most vs w):=
 (yN_ 48 57 qG_ R t i most vs w hr ht hi hm fun c W=>has_any 48 57 c.toNat W).mono fun _ _ h=>RunR.of hi h
theorem jH_ {k:Ky} {n:List UInt8} {l:List Int} {s:Fo}:∀ {y:Fo},y.Sm→j7_ k y = some (n,l,s)→n.length ≤ 1000∧l.length ≤ 1000∧s.len ≤ 1000∧s.Sm
 | .nil,_,h=>by cases h
 | .cons n' l' s' r,⟨h1,h2,h3,h4,h5⟩,h=>by
   simp only [j7_] at h
   split at h
   · cases h;exact ⟨h1,h2,h3,h4⟩
   · exact jH_ h5 h
theorem atF_sm {n:List UInt8} {l:List Int} {s:Fo}:∀ {p:List Ky} {y:Fo},y.Sm→atF y p = some (n,l,s)→n.length ≤ 1000∧l.length ≤ 1000∧s.len ≤ 1000∧s.Sm
 | [],y,_,h=>by cases y <;> cases h
 | k :: r,y,hy,h=>by
   have e:atF y (k :: r) = match j7_ k y with | none=>none | some x=>if r = [] then some x else atF x.2.2 r:=by cases y <;> rfl
   rw [e] at h
   cases hk:j7_ k y with
   | none=>rw [hk] at h;cases h
   | some x=>
     rw [hk] at h
     obtain ⟨n',l',s'⟩:=x
     simp only at h
     split at h
     · cases h;exact jH_ hy hk
     · exact atF_sm (jH_ hy hk).2.2.2 h
theorem xi_ {S:Nat→Prop} {w:World} {b:Nat} {n:List UInt8} {l:List Int} {s:Fo} {vn vs:Value} {t:TypeId} {fr:Nat × Nat} (hb:w.heap[b]? = some (.cells #[.string (bs n),vn,vs] t fr)) (h1:qF_ S w vn l) (h2:FSl S w vs s) :
 FSl (fun x=>S x ∨ x = b) w (.slice (some ⟨b,0,none⟩) 1 1) (.cons n l s .nil):=by
 obtain ⟨ds,h3,h4⟩:=h2
 refine ⟨[.string (bs n),vn,vs],⟨by rfl,some ⟨b,0,none⟩,1,rfl,nl_ _,by simp [maxLen],(fun h=>by cases h), .inr ⟨b,0,rfl, .inr rfl,fun j u hj=>?_⟩⟩,vn,vs,[],rfl,h1.wide (fun _ h => .inl h),⟨ds,h3.wide (fun _ h => .inl h),h4.wide (fun _ h => .inl h)⟩,rfl⟩
 rw [Nat.zero_add]
 simp only [World.cell?,hb]
 simpa using hj
def getE (y:Fo) (p:List Ky):Int:=if qz_ y ≠ 0 then qz_ y else if (atF y p).isSome then 0 else 1
def getN (y:Fo) (p:List Ky):List UInt8 × List Int × Fo:=if getE y p = 0 then (atF y p).getD ([],[], .nil) else ([],[], .nil)
theorem ret56 {tmps:Array Value} {W:World} {b:Nat} {x y z t5:Value} (h:W.heap[b]? = some (.cells #[x,y,z] 109 (0,0))) (h2:tmps.getD 4 undef = .pointer (some ⟨b,0,none⟩)) (h3:tmps.getD 5 undef = t5) :
 (results Tryz.f71 tmps).run Tryz.prog W = .ok (.tuple #[.agg #[x,y,z],t5]) W:=by
 have h0:=cg_ h (k:=0) rfl
 have h1:=cg_ h (k:=1) rfl
 have h4:=cg_ h (k:=2) rfl
 rw [results_cell_tmp rfl,h2,h3]
 simp [go_sem,h0,h1,h4]
theorem kU_ {lo b:Nat} {w W:World} {x y z:Value} (h:Below lo w W) (hb:lo ≤ b):Below lo w (((W.setCell ⟨b,0,none⟩ x).setCell ⟨b,1,none⟩ y).setCell ⟨b,2,none⟩ z):=
 Below.setCell (Below.setCell (Below.setCell h (p:=⟨b,0,none⟩) hb _) (p:=⟨b,1,none⟩) hb _) (p:=⟨b,2,none⟩) hb _
def GetR (y:Fo) (p:List Ky) (w:World) (e:Ending) (w':World):Prop:=
 ∃ n l s an cn ab cb,getN y p = (n,l,s)∧e = .returned (.tuple #[.agg #[.string (bs n), .slice an l.length cn, .slice ab s.len cb], .int .i64 (getE y p)]) ∧
  qF_ (Rg w.heap.size w'.heap.size) w' (.slice an l.length cn) l∧FSl (Rg w.heap.size w'.heap.size) w' (.slice ab s.len cb) s∧Below w.heap.size w w'
def GetU (y:Fo) (p:List Ky) (w:World) (e:Ending) (w':World):Prop:=
 ∃ n l s an cn ab cb,getN y p = (n,l,s)∧e = .returned (.tuple #[.agg #[.string (bs n), .slice an l.length cn, .slice ab s.len cb], .int .i64 (getE y p)]) ∧
  IntU (Rg w.heap.size w'.heap.size) w' (.slice an l.length cn) l∧FSlU (Rg w.heap.size w'.heap.size) w' (.slice ab s.len cb) s∧Below w.heap.size w w'
theorem GetU.getR {y:Fo} {p:List Ky} {w w':World} {e:Ending} (h:GetU y p w e w'):GetR y p w e w':=
 let ⟨n,l,s,an,cn,ab,cb,h1,h2,h3,h4,h5⟩:=h
 ⟨n,l,s,an,cn,ab,cb,h1,h2,qF_.wide h3 (fun _ hb=>hb.1),FSlU.fsl h4,h5⟩
theorem GetU.bad {y:Fo} {p:List Ky} {w w':World} {x:Int} (hx:getE y p = x) (h0:x ≠ 0) (hb:Below w.heap.size w w'):GetU y p w (.returned (.tuple #[.agg #[.string { data:=#[] }, .slice none 0 0, .slice none 0 0], .int .i64 x])) w':=by
 subst hx
 exact ⟨[],[], .nil,none,0,none,0,by simp [getN,h0],rfl,⟨rfl,_,0,rfl,nl_ _,by simp [maxLen],fun _=>rfl, .inl rfl⟩,⟨[],⟨rfl,_,0,rfl,nl_ _,by simp [maxLen],fun _=>rfl, .inl rfl⟩,rfl⟩,hb⟩
theorem own_one (n:List UInt8) (l:List Int) (s:Fo) (vn vs:Value) (b:Nat) (t:TypeId) (fr:Nat × Nat) (S:Nat→Prop) (W:World) (hb:W.heap[b]? = some (.cells #[.string (bs n),vn,vs] t fr)) (h1:qF_ S W vn l) (h2:FSl S W vs s)
 (hS:∀ b,S b→b < W.heap.size) (s1:n.length ≤ 1000) (s2:l.length ≤ 1000) (s3:s.len ≤ 1000) (s4:s.Sm) :
 Calls Tryz.prog 121 #[.slice (some ⟨b,0,none⟩) 1 1] W fun e w'=>∃ g o c an cn ab cb,e = .returned (.slice (some ⟨g,o,none⟩) 1 c)∧1 ≤ c∧W.heap.size ≤ g∧w'.cell? ⟨g,o,none⟩ = some (.string (bs n))∧w'.cell? ⟨g,o + 1,none⟩ = some (.slice an l.length cn)∧w'.cell? ⟨g,o + 2,none⟩ = some (.slice ab s.len cb) ∧
  IntU (Rg W.heap.size w'.heap.size) w' (.slice an l.length cn) l∧FSlU (Rg W.heap.size w'.heap.size) w' (.slice ab s.len cb) s∧Below W.heap.size W w':=by
 have hlt:b < W.heap.size:=(ge_ hb).1
 refine (jC_ _ (.cons n l s .nil) (some ⟨b,0,none⟩) 1 (fun x=>S x ∨ x = b) W (Nat.lt_succ_self _) (xi_ hb h1 h2) (fun x hx=>hx.elim (hS x) (fun h=>by omega)) (by simp [Fo.len]) ⟨s1,s2,s3,s4,trivial⟩).mono ?_
 rintro e w' ⟨a,c,rfl,hF,hbel⟩
 obtain ⟨a',c',he,hc1,_,hat⟩:=FSl.at hF.fslu
 cases he
 obtain ⟨g,o,n',l',s',r',an,cn,ab,cb,rfl,hg,hd,m0,m1,m2,hI,hFs⟩:=hat 0 (by simp [Fo.len])
 simp only [Fo.drop,Fo.cons.injEq] at hd
 obtain ⟨rfl,rfl,rfl,rfl⟩:=hd
 simp only [Nat.zero_mul,Nat.add_zero] at m0 m1 m2
 exact ⟨g,o,c,an,cn,ab,cb,rfl,hc1,hg.1.1,m0,m1,m2,hI,hFs,hbel⟩
theorem Get_u (y:Fo) (p:List Ky) (ay ap:Option Addr) (cy cp:Nat) (S T:Nat→Prop) (w:World) (hv:FSl S w (.slice ay y.len cy) y) (hS:∀ b,S b→b < w.heap.size) (hp:Pth T w (.slice ap p.length cp) p) (hT:∀ b,T b→b < w.heap.size)
 (hlen:y.len ≤ 1000) (hsm:y.Sm) (hcnt:y.cnt ≤ 900) (lp:p.length ≤ 1000) :
 Calls Tryz.prog 71 #[.slice ay y.len cy, .slice ap p.length cp] w (GetU y p w):=by
 have hb0:Below w.heap.size w (w.alloc (.cells #[.string { data:=#[] }, .slice none 0 0, .slice none 0 0] 109)):=(Below.refl _ _).alloc (nl_ _) _
 have hR0:=hid (ha_ w (.cells #[.string { data:=#[] }, .slice none 0 0, .slice none 0 0] 109))
 have HC:=hid (za_ y ay cy S _ (hv.agree (q9_ hb0 hS)) (fun b hb=>by have:=hS b hb;simp;omega) hlen hsm hcnt)
 have HB0:=hid hb0
 have HV:=hid hv
 have HP:=hid hp
 have HS:=hid hS
 have HT:=hid hT
 have HSM:=hid hsm
 clear hb0 hv hp hS hT hsm
 by_cases hc:qz_ y = 0
 · go_enter Tryz.func71,Tryz.ntmps71
   go_wp2_with fail
   refine HC.out.mono ?_
   rintro e w1 ⟨rfl,hb1⟩
   have hB1:=HB0.out.trans (hb1.mono (by simp))
   have hR1:=hid ((hb1.block w.heap.size (by simp)).trans hR0.out)
   have hsz1:=hb1.size
   simp only [World.size_alloc] at hsz1
   have HA:=hid (at_any y p ay ap cy cp S T w1 (HV.out.agree (q9_ hB1 HS.out)) (fun b hb=>by have:=HS.out b hb;omega) (HP.out.agree (q9_ hB1 HT.out)) (fun b hb=>by have:=HT.out b hb;omega) hlen HSM.out lp)
   rw [hc]
   have HB1:=hid hB1
   clear hb1 hB1
   go_wp2_with fail
   refine HA.out.mono ?_
   rintro e w2 ⟨n,l,s,an,cn,ab,cb,hat,rfl,hI,hF,hb2⟩
   have hB2:=HB1.out.trans (hb2.mono (by omega))
   have hR2:=hid ((hb2.block w.heap.size (by omega)).trans hR1.out)
   have hsz2:=hb2.size
   have q0:=cg_ hR2.out (k:=0) rfl
   have q1:=cg_ hR2.out (k:=1) rfl
   have q2:=cg_ hR2.out (k:=2) rfl
   have f0:=cells_frz hR2.out (k:=0)
   have f1:=cells_frz hR2.out (k:=1)
   have f2:=cells_frz hR2.out (k:=2)
   have hlt2:w.heap.size < w2.heap.size:=by omega
   have hne2:w.heap.size ≠ w2.heap.size:=by omega
   have HI:=hid hI
   have HF:=hid hF
   have HB2:=hid hB2
   clear hI hF hb2 hB2
   cases hat':atF y p with
   | none=>
     have hE:=hid (show getE y p = 1 by simp [getE,hc,hat'])
     clear hat
     go_wp2_with fail
     refine bodyPost_ret (v := .tuple #[.agg #[.string { data:=#[] }, .slice none 0 0, .slice none 0 0], .int .i64 1]) (ret56 ((heap_alloc_old _ _ (by simpa using hlt2)).trans (zY_ hR2.out)) rfl rfl) rfl ?_
     exact GetU.bad hE.out (by decide) ((kU_ HB2.out (nl_ _)).alloc (by simp;omega) _)
   | some x=>
     have hE:=hid (show getE y p = 0 by simp [getE,hc,hat'])
     obtain rfl:x = (n,l,s):=by rw [hat'] at hat;exact hat
     have hG:=hid (show getN y p = (n,l,s) by simp [getN,hE.out,hat'])
     obtain ⟨s1,s2,s3,s4⟩:=atF_sm HSM.out hat'
     clear hat hat'
     go_wp2_with fail
     have hBw:Below w.heap.size w ((w2.alloc (.cells #[.string (bs n), .slice an l.length cn, .slice ab s.len cb] 109)).alloc (.cells #[.string (bs n), .slice an l.length cn, .slice ab s.len cb] 109)):=(HB2.out.alloc (by omega) _).alloc (by simp;omega) _
     have hag:qd_ S w2 ((w2.alloc (.cells #[.string (bs n), .slice an l.length cn, .slice ab s.len cb] 109)).alloc (.cells #[.string (bs n), .slice an l.length cn, .slice ab s.len cb] 109)):=q9_ (((Below.refl w2.heap.size w2).alloc (nl_ _) _).alloc (by simp) _) (fun b hb=>by have:=HS.out b hb;omega)
     have hnb:=ha_ (w2.alloc (.cells #[.string (bs n), .slice an l.length cn, .slice ab s.len cb] 109)) (.cells #[.string (bs n), .slice an l.length cn, .slice ab s.len cb] 109)
     rw [World.size_alloc] at hnb
     refine (own_one n l s _ _ _ _ _ S _ hnb (HI.out.agree hag) (HF.out.agree hag) (fun b hb=>by have:=HS.out b hb;simp;omega) s1 s2 s3 s4).mono ?_
     rintro e w3 ⟨g3,o3,c3,an3,cn3,ab3,cb3,rfl,hc3,hg3,m0,m1,m2,hI3,hF3,hb3⟩
     have hB3:=hBw.trans (hb3.mono (by simp;omega))
     have hR3:w3.heap[w.heap.size]? = _:=(hb3.block w.heap.size (by simp;omega)).trans ((heap_alloc_old _ _ (by simp;omega)).trans ((heap_alloc_old _ _ (by omega)).trans hR2.out))
     have e0:=cg_ hR3 (k:=0) rfl
     have e1:=cg_ hR3 (k:=1) rfl
     have e2:=cg_ hR3 (k:=2) rfl
     have p0:=cells_frz hR3 (k:=0)
     have p1:=cells_frz hR3 (k:=1)
     have p2:=cells_frz hR3 (k:=2)
     have hst:qd_ (Rg ((w2.alloc (.cells #[.string (bs n), .slice an l.length cn, .slice ab s.len cb] 109)).alloc (.cells #[.string (bs n), .slice an l.length cn, .slice ab s.len cb] 109)).heap.size w3.heap.size) w3 (((w3.setCell ⟨w.heap.size,0,none⟩ (.string (bs n))).setCell ⟨w.heap.size,1,none⟩ (.slice an3 l.length cn3)).setCell ⟨w.heap.size,2,none⟩ (.slice ab3 s.len cb3)):=fun b hb=>by
      have h1:=hb.1
      simp only [World.size_alloc] at h1
      have hn:b ≠ w.heap.size:=by omega
      rw [Below.heap_setCell _ _ _ _ hn,Below.heap_setCell _ _ _ _ hn,Below.heap_setCell _ _ _ _ hn]
     have HI3:=hid (IntU.agree hI3 hst)
     have HF3:=hid (FSlU.agree hF3 hst)
     have hR3':=hid hR3
     have HB3:=hid hB3
     clear hI3 hF3 hst hR3 hBw hag hnb hB3
     go_wp2_with fail
     refine bodyPost_ret (v := .tuple #[.agg #[.string (bs n), .slice an3 l.length cn3, .slice ab3 s.len cb3], .int .i64 0]) (ret56 (zY_ hR3'.out) rfl rfl) rfl ?_
     refine ⟨n,l,s,an3,cn3,ab3,cb3,hG.out,by rw [hE.out],?_,?_,kU_ HB3.out (nl_ _)⟩
     · exact IntU.wide HI3.out (fun b hb=>⟨by have:=hb.1;simp at this;omega,by simpa using hb.2⟩)
     · exact FSlU.wide HF3.out (fun b hb=>⟨by have:=hb.1;simp at this;omega,by simpa using hb.2⟩)
 · go_enter Tryz.func71,Tryz.ntmps71
   go_wp2_with fail
   refine HC.out.mono ?_
   rintro e w1 ⟨rfl,hb1⟩
   have hB1:=HB0.out.trans (hb1.mono (by simp))
   have hR1:=(hb1.block w.heap.size (by simp)).trans hR0.out
   have q0:=cg_ hR1 (k:=0) rfl
   have q1:=cg_ hR1 (k:=1) rfl
   have q2:=cg_ hR1 (k:=2) rfl
   have f0:=cells_frz hR1 (k:=0)
   have f1:=cells_frz hR1 (k:=1)
   have f2:=cells_frz hR1 (k:=2)
   have hsz1:=hb1.size
   simp only [World.size_alloc] at hsz1
   have hb:(qz_ y == 0) = false:=by simpa using hc
   go_wp2_with fail
   refine bodyPost_ret (v := .tuple #[.agg #[.string { data:=#[] }, .slice none 0 0, .slice none 0 0], .int .i64 (qz_ y)]) (ret56 (zY_ hR1) rfl rfl) rfl ?_
   exact GetU.bad (by simp [getE,hc]) hc (kU_ hB1 (nl_ _))
theorem Get_any (y:Fo) (p:List Ky) (ay ap:Option Addr) (cy cp:Nat) (S T:Nat→Prop) (w:World) (hv:FSl S w (.slice ay y.len cy) y) (hS:∀ b,S b→b < w.heap.size) (hp:Pth T w (.slice ap p.length cp) p) (hT:∀ b,T b→b < w.heap.size)
 (hlen:y.len ≤ 1000) (hsm:y.Sm) (hcnt:y.cnt ≤ 900) (lp:p.length ≤ 1000) :
 Calls Tryz.prog 71 #[.slice ay y.len cy, .slice ap p.length cp] w (GetR y p w):=
 (Get_u y p ay ap cy cp S T w hv hS hp hT hlen hsm hcnt lp).mono fun _ _ h=>h.getR
end Go.Proofs.LF