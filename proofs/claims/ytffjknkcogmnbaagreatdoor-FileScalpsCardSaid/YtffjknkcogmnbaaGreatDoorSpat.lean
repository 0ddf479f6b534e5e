/- Parts of the proof of a law of layer 11 (file): LfYap. The conditions stand in each theorem. -/
import Derived.Test.YtffjknkcogmnbaaGreatDoorProg
import Derived.Test.YtffjknkcogmnbaaGreatDoorSpac
import Derived.Test.YtffjknkcogmnbaaGreatDoorSpal
import Derived.Test.YtffjknkcogmnbaaGreatDoorSpan
import Derived.Test.YtffjknkcogmnbaaGreatDoorSpap
import Derived.Test.YtffjknkcogmnbaaGreatDoorSpar
set_option linter.all false
set_option linter.unusedVariables false
set_option linter.unusedSimpArgs false
set_option linter.all false
set_option linter.unusedVariables false
set_option linter.unusedSimpArgs false
namespace Go.Proofs.LF
open Go.RowKit Go.Sort
set_option maxHeartbeats 4000000
set_option maxRecDepth 100000
attribute [local go_sem] q1_ q2_ q6_
theorem enters102:z5_ 48:=fun args W=>by first | exact Tryz.func102_enters args W | rfl
theorem flat_elem {S:Nat→Prop} {w:World} {fs:List Fl} {ds:List Value} (h:LCs xn_ S w fs ds) {i:Nat} (hi:i < fs.length):∃ ap cp an cn,qJ_ 2 ds i = .agg #[.slice ap fs[i].p.length cp, .slice an fs[i].l.length cn]∧Pth S w (.slice ap fs[i].p.length cp) fs[i].p∧qF_ S w (.slice an fs[i].l.length cn) fs[i].l:=by
 have h':=h.drop (i:=i)
 rw [List.drop_eq_getElem_cons hi] at h'
 obtain ⟨cs,es,he,⟨ap,cp,an,cn,rfl,hp,hn⟩,_⟩:=h'
 refine ⟨ap,cp,an,cn,?_,hp,hn⟩
 have e0:ds[i * 2]? = some (.slice ap fs[i].p.length cp):=by
  have:=congrArg (fun l=>l[0]?) he
  simpa [List.getElem?_drop] using this
 have e1:ds[i * 2 + 1]? = some (.slice an fs[i].l.length cn):=by
  have:=congrArg (fun l=>l[1]?) he
  simpa [List.getElem?_drop] using this
 simp [qJ_,List.range_succ,List.getD_eq_getElem?_getD,e0,e1]
theorem lateIdx (fs:List Fl) (al:Option Addr) (cl:Nat) (p:List Ky) (ap:Option Addr) (cp F:Nat) (S T:Nat→Prop) (w:World) (hv:FlSl S w (.slice al fs.length cl) fs) (hS:∀ b,S b→b < w.heap.size) (hp:Pth T w (.slice ap p.length cp) p) (hT:∀ b,T b→b < w.heap.size)
 (hF:F < w.heap.size) (hc:w.cell? ⟨F,0,none⟩ = some (.slice ap p.length cp)) (hl:fs.length ≤ 1000) (hsm:SmF fs) (lp:p.length ≤ 1000) :
 Calls Tryz.prog 47 #[.slice al fs.length cl, .func (.func 48) #[] #[.pointer (some ⟨F,0,none⟩)]] w fun e w'=>e = .returned (.int .i64 (idxN (fun i=>decide (0 ≤ cmpP (fs.getD i fl0).p p)) fs.length))∧Below w.heap.size w w':=by
 obtain ⟨ds,h1,h2⟩:=hv
 refine idx_flat 48 enters102 (fun i=>decide (0 ≤ cmpP (fs.getD i fl0).p p)) [.pointer (some ⟨F,0,none⟩)] fs.length al cl ds S w h1 hS (by omega) fun i hi W hW=>?_
 obtain ⟨ap',cp',an',cn',he,hp',_⟩:=flat_elem h2 hi
 have hg:fs.getD i fl0 = fs[i]:=by simp [List.getD_eq_getElem?_getD,hi]
 rw [he,hg]
 exact late_any fs[i].p p ap' ap an' cp' cp _ cn' F (fun b=>S b ∨ T b) W ((hp'.agree (q9_ hW hS)).wide fun b hb => .inl hb) ((hp.agree (q9_ hW hT)).wide fun b hb => .inr hb) (fun b hb=>by have:=hW.size;rcases hb with hb | hb;have:=hS b hb;omega;have:=hT b hb;omega) (hsm _ (List.getElem_mem hi)).1 lp (by have:=hW.size;omega) (bc_ hW hF hc)
def lnAt (R:Nat) (w:World):Nat:=match w.cell? ⟨R,2,none⟩ with | some (.int _ z)=>z.toNat | _=>0
def yc_ (t:List UInt8):Fo:=if (prs t).2.2.2 = 0 then (treF 0 (prs t).1).1 else .nil
theorem Tryz.info171':(Tryz.prog.info? 98).map (fun i=>(i.zero,i.size,i.bytes)) = some (some (.agg #[.slice none 0 0, .slice none 0 0]),2,48):=by kernel_rfl
theorem prsG_end {t:List UInt8} {f i ln dp:Nat} {ks:List Ky} {fs:List Fl} (h:¬ i < t.length):xz_ t (f + 1) i ln dp ks fs = (fs,0,0,0):=by simp [xz_,h]
theorem prsG_many {t:List UInt8} {f i ln dp:Nat} {ks:List Ky} {fs:List Fl} (h:i < t.length) (h2:60 ≤ ln):xz_ t (f + 1) i ln dp ks fs = ([],ln,0,2):=by simp [xz_,h,h2]
theorem prsG_form {t:List UInt8} {f i ln dp:Nat} {ks:List Ky} {fs:List Fl} (h:i < t.length) (h2:¬ 60 ≤ ln) (h3:(rdLine dp (t.drop i)).2.2.2.2 = false):xz_ t (f + 1) i ln dp ks fs = ([],ln,(rdLine dp (t.drop i)).2.2.2.1,11):=by simp [xz_,h,h2,h3]
theorem wc_ {t:List UInt8} {f i ln dp:Nat} {ks:List Ky} {fs:List Fl} (h:i < t.length) (h2:¬ 60 ≤ ln) (h3:(rdLine dp (t.drop i)).2.2.2.2 = true) (h4:fs.any (fun x=>decide (0 ≤ cmpP x.p ((ks.set (rdLine dp (t.drop i)).1 (kyOf (rdLine dp (t.drop i)).2.1 (rdLine dp (t.drop i)).2.2.1)).take ((rdLine dp (t.drop i)).1 + 1)))) = true) :
 xz_ t (f + 1) i ln dp ks fs = ([],ln,(rdLine dp (t.drop i)).1,4):=by simp only [xz_,h,h2,h3,h4,if_true,if_false,Bool.true_eq_false]
theorem prsG_go {t:List UInt8} {f i ln dp:Nat} {ks:List Ky} {fs:List Fl} (h:i < t.length) (h2:¬ 60 ≤ ln) (h3:(rdLine dp (t.drop i)).2.2.2.2 = true) (h4:fs.any (fun x=>decide (0 ≤ cmpP x.p ((ks.set (rdLine dp (t.drop i)).1 (kyOf (rdLine dp (t.drop i)).2.1 (rdLine dp (t.drop i)).2.2.1)).take ((rdLine dp (t.drop i)).1 + 1)))) = false) :
 xz_ t (f + 1) i ln dp ks fs = xz_ t f (i + (rdLine dp (t.drop i)).2.2.2.1 + 1) (ln + 1) (min ((rdLine dp (t.drop i)).1 + 1) 3) (ks.set (rdLine dp (t.drop i)).1 (kyOf (rdLine dp (t.drop i)).2.1 (rdLine dp (t.drop i)).2.2.1)) (fs ++ [⟨(ks.set (rdLine dp (t.drop i)).1 (kyOf (rdLine dp (t.drop i)).2.1 (rdLine dp (t.drop i)).2.2.1)).take ((rdLine dp (t.drop i)).1 + 1),(rdLine dp (t.drop i)).2.2.1⟩]):=by
 simp only [xz_,h,h2,h3,h4,if_true,if_false,Bool.true_eq_false,Bool.false_eq_true]
theorem lateIdx' (fs:List Fl) (al:Option Addr) (cl:Nat) (p:List Ky) (m:Nat) (hm:p.length = m) (ap:Option Addr) (cp F:Nat) (S T:Nat→Prop) (w:World) (hv:FlSl S w (.slice al fs.length cl) fs) (hS:∀ b,S b→b < w.heap.size) (hp:Pth T w (.slice ap m cp) p) (hT:∀ b,T b→b < w.heap.size)
 (hF:F < w.heap.size) (hc:w.cell? ⟨F,0,none⟩ = some (.slice ap m cp)) (hl:fs.length ≤ 1000) (hsm:SmF fs) (lp:m ≤ 1000) :
 Calls Tryz.prog 47 #[.slice al fs.length cl, .func (.func 48) #[] #[.pointer (some ⟨F,0,none⟩)]] w fun e w'=>e = .returned (.int .i64 (idxN (fun i=>decide (0 ≤ cmpP (fs.getD i fl0).p p)) fs.length))∧Below w.heap.size w w':=by
 subst hm
 exact lateIdx fs al cl p ap cp F S T w hv hS hp hT hF hc hl hsm lp
theorem lateAny (fs:List Fl) (p:List Ky):decide (0 ≤ idxN (fun i=>decide (0 ≤ cmpP (fs.getD i fl0).p p)) fs.length) = fs.any (fun x=>decide (0 ≤ cmpP x.p p)):=by
 rw [kn_]
 exact vg_ _ _ fs (fun i hi=>by simp [List.getD_eq_getElem?_getD,hi])
theorem zR_ {ks:List Ky} {fv:Value} (h:ks.length = 4):(ks.flatMap Ky.cells ++ [fv])[12]? = some fv:=by
 have hl:=zm_ ks
 rw [List.getElem?_append_right (by omega),hl,h];rfl
theorem found_set {a b c f v:Value} {ks:List Ky} (h:ks.length = 4):(a :: b :: c :: (ks.flatMap Ky.cells ++ [f])).set 15 v = a :: b :: c :: (ks.flatMap Ky.cells ++ [v]):=by
 match ks,h with
 | [p,q,r,s],_=>rfl
theorem errRet {t:List UInt8} {w w':World} {e:Ending} {l c k:Nat} (h:prs t = ([],l,c,k)) (hk:k ≠ 0) (he:e = .returned (.tuple #[.slice none 0 0, .int .i64 (l:Nat), .int .i64 (c:Nat), .int .i64 (k:Nat)])) (hb:Below w.heap.size w w') :
 ∃ a c,e = .returned (.tuple #[.slice a (yc_ t).len c, .int .i64 ((prs t).2.1:Nat), .int .i64 ((prs t).2.2.1:Nat), .int .i64 ((prs t).2.2.2:Nat)])∧FSl (Rg w.heap.size w'.heap.size) w' (.slice a (yc_ t).len c) (yc_ t)∧Below w.heap.size w w':=by
 have hy:yc_ t = .nil:=by rw [yc_,h,if_neg hk]
 rw [hy,h]
 exact ⟨none,0,he,⟨[],⟨rfl,none,0,rfl,nl_ _,by simp [maxLen],fun _=>rfl, .inl rfl⟩,rfl⟩,hb⟩
def PRel (t:List UInt8) (R:Nat) (w:World) (m:Nat) (wx:World):Prop:=∃ (i2 st2 dp2:Nat) (ks2:List Ky) (fs2:List Fl) (fv2:Value) (cs2:List Value),i2 ≤ t.length∧dp2 ≤ 3∧ks2.length = 4∧fs2.length = m + 1∧m < 60∧Hid (prs t = xz_ t (61 - m) i2 (m + 1) dp2 ks2 fs2) ∧
 Hid (Rdr R t i2 (.int .i64 m :: .int .i64 (st2:Int) :: .int .i64 dp2 :: (ks2.flatMap Ky.cells ++ [fv2])) wx)∧wx.ownsRow (R + 1) 98 2 fv2 fs2.length cs2∧LCs xn_ (Rx (R + 1) wx.heap.size fv2) wx fs2 cs2∧Hid (SmF fs2)∧Hid (∀ k ∈ ks2,k.n.length ≤ 1000)∧Hid (Below w.heap.size w wx)
theorem parse_rel {R i n d:Nat} {t nm:List UInt8} {w wr w2 w3 w4:World} {af ap an a4:Option Addr} {cf cp cn c4:Nat} {cs:List Value} {ks ks':List Ky} {fs:List Fl} {nums:List Int}
 (hlt:i < t.length) (hnn:n < t.length - i) (h60:fs.length < 60) (hRw:w.heap.size = R) (hRlt:R < wr.heap.size)
 (hown:wr.ownsRow (R + 1) 98 2 (.slice af fs.length cf) fs.length cs) (hlc:LCs xn_ (Rx (R + 1) wr.heap.size (.slice af fs.length cf)) wr fs cs) (hsm:SmF fs) (hkn:∀ k ∈ ks,k.n.length ≤ 1000) (hk4':ks'.length = 4) (HLP:(ks'.take (d + 1)).length = d + 1) (HKS:ks.set d (kyOf nm nums) = ks')
 (hnm8:nm.length ≤ 8) (hnl4:nums.length ≤ 4) (hd3:d ≤ 3) (HK2:Keep (· = R) wr w2) (HB23:Below w2.heap.size w2 w3) (HB3:Below w.heap.size w w3) (HP2:Pth (Rg wr.heap.size w2.heap.size) w2 (.slice ap (d + 1) cp) (ks'.take (d + 1))) (HI2:qF_ (Rg wr.heap.size w2.heap.size) w2 (.slice an nums.length cn) nums)
 (HE:prs t = xz_ t (61 - fs.length) (i + n + 1) (fs.length + 1) (min (d + 1) 3) ks' (fs ++ [⟨ks'.take (d + 1),nums⟩]))
 (hown4:w4.ownsRow (R + 1) 98 2 (.slice a4 (fs.length + 1) c4) (fs.length + 1) (cs ++ [.slice ap (d + 1) cp, .slice an nums.length cn])) (hgrow4:(w3.alloc (.cells #[.slice ap (d + 1) cp, .slice an nums.length cn] 98)).grownBy w4 (Value.slice af fs.length cf).ownBlock)
 (hat4:∀ g,(Value.slice a4 (fs.length + 1) c4).ownBlock = some g→(Value.slice af fs.length cf).ownBlock = some g ∨ g = (w3.alloc (.cells #[.slice ap (d + 1) cp, .slice an nums.length cn] 98)).heap.size)
 (HR4:Rdr R t (i + n) (.int .i64 fs.length :: .int .i64 i :: .int .i64 (min (d + 1) 3:Nat) :: (ks'.flatMap Ky.cells ++ [.slice af fs.length cf])) w4) :
 PRel t R w fs.length ((w4.setCell ⟨R,17,none⟩ (.slice a4 (fs.length + 1) c4)).setCell ⟨R,1,none⟩ (.int .i64 ((i:Int) + (n:Int) + 1))):=by
 obtain ⟨g4,cap4,he4,hg4,hlt4⟩:=hown4.form (by omega)
 cases he4
 have hkW:Keep (· = R) wr (w3.alloc (.cells #[.slice ap (d + 1) cp, .slice an nums.length cn] 98)):=(HK2.trans (Keep.of_below HB23)).alloc _
 have st:StepK (· = R) (R + 1) wr _ w4 (.slice af fs.length cf) g4:=⟨hkW,fun b hb=>by omega,hgrow4,by omega,fun b hb=>hown.lt b hb,hat4 g4 rfl,hlt4⟩
 have hv':(Value.slice (some ⟨g4,0,none⟩) (fs.length + 1) c4).ownBlock = some g4:=rfl
 have m1:=st.stay (Stable.lcs _ _) hv' hlc
 have h23:=HB23.size
 have hagr:qd_ (Rg wr.heap.size w2.heap.size) w2 (w3.alloc (.cells #[.slice ap (d + 1) cp, .slice an nums.length cn] 98)):=fun b hb=>(heap_alloc_old _ _ (by have:=hb.2;omega)).trans (HB23.block b hb.2)
 have m2:=st.lift (Stable.pth _ _) hv' HP2 (nl_ _) (by simp;omega) hagr
 have m3:=st.lift (Stable.ints _ _) hv' HI2 (nl_ _) (by simp;omega) hagr
 have hfar:qd_ (Rx (R + 1) w4.heap.size (.slice (some ⟨g4,0,none⟩) (fs.length + 1) c4)) w4 ((w4.setCell ⟨R,17,none⟩ (.slice (some ⟨g4,0,none⟩) (fs.length + 1) c4)).setCell ⟨R,1,none⟩ (.int .i64 ((i:Int) + (n:Int) + 1))):=fun b hb=>by
  have h1:b ≠ R:=by have:=hb.1;omega
  rw [Below.heap_setCell _ _ _ _ h1,Below.heap_setCell _ _ _ _ h1]
 have hlp:=HLP
 have hkk:∀ k ∈ ks',k.n.length ≤ 1000:=by
  intro k hk
  rw [← HKS] at hk
  rcases List.mem_or_eq_of_mem_set hk with hk | rfl
  · exact hkn k hk
  · rw [kyOf_n];omega
 refine ⟨i + n + 1,i,min (d + 1) 3,ks',fs ++ [⟨ks'.take (d + 1),nums⟩], .slice (some ⟨g4,0,none⟩) (fs.length + 1) c4,cs ++ [.slice ap (d + 1) cp, .slice an nums.length cn],by omega,by omega,hk4',by simp,by omega,hid HE,?_,?_,?_,?_,hid hkk,?_⟩
 · have h1:=(HR4.setV 15 (.slice (some ⟨g4,0,none⟩) (fs.length + 1) c4)).set1 (i + n + 1)
   rw [found_set hk4'] at h1
   exact hid (by simpa using h1)
 · rw [show (fs ++ [(⟨ks'.take (d + 1),nums⟩:Fl)]).length = fs.length + 1 by simp]
   exact owns_agree hown4 fun g hg=>by
    have h1:g ≠ R:=by have:=(hown4.lt g hg).1;omega
    rw [Below.heap_setCell _ _ _ _ h1,Below.heap_setCell _ _ _ _ h1]
 · have m4:LCs xn_ (Rx (R + 1) w4.heap.size (.slice (some ⟨g4,0,none⟩) (fs.length + 1) c4)) w4 (fs ++ [⟨ks'.take (d + 1),nums⟩]) (cs ++ [.slice ap (d + 1) cp, .slice an nums.length cn]):=
    m1.app (LCs.single ⟨ap,cp,an,cn,by rw [hlp],by rw [hlp];exact m2,m3⟩)
   have:=m4.agree hfar
   simpa [World.setCell] using this
 · intro x hx
   rcases List.mem_append.1 hx with hx | hx
   · exact hsm x hx
   · simp only [List.mem_singleton] at hx
     subst hx
     exact ⟨by simp only;omega,by simp only;omega,fun k hk=>hkk k (List.mem_of_mem_take hk)⟩
 · have h1:=HB3
   exact Below.setCell (Below.setCell ((h1.alloc h1.size _).grown hgrow4 (by have:=h1.size;simp;omega) (fun k hk=>by have:=(hown.lt k hk).1;omega)) (p:=⟨R,17,none⟩) (by simp;omega) _) (p:=⟨R,1,none⟩) (by simp;omega) _
theorem vj_ (t:List UInt8) (w:World) (ht:t.length ≤ 100000) :
 Calls Tryz.prog 11 #[.string (bs t)] w fun e w'=>∃ a c,e = .returned (.tuple #[.slice a (yc_ t).len c, .int .i64 ((prs t).2.1:Nat), .int .i64 ((prs t).2.2.1:Nat), .int .i64 ((prs t).2.2.2:Nat)]) ∧
  FSl (Rg w.heap.size w'.heap.size) w' (.slice a (yc_ t).len c) (yc_ t)∧Below w.heap.size w w':=by
 obtain ⟨i0,hi0,hz0,hz1,hz2⟩:=info_parts Tryz.info171'
 obtain ⟨R,hR⟩:∃ R,w.heap.size = R:=⟨_,rfl⟩
 obtain ⟨W1,hW1⟩:∃ W1,w.alloc (.cells #[.string (bs t), .int .i64 0, .int .i64 0, .int .i64 0, .int .i64 0, .string { data:=#[] }, .bool false, .int .i64 0, .string { data:=#[] }, .bool false, .int .i64 0, .string { data:=#[] }, .bool false, .int .i64 0, .string { data:=#[] }, .bool false, .int .i64 0, .slice none 0 0] 131) = W1:=⟨_,rfl⟩
 have hr1:Rdr R t 0 (.int .i64 (0:Nat) :: .int .i64 (0:Nat) :: .int .i64 (0:Nat) :: ([ky0,ky0,ky0,ky0].flatMap Ky.cells ++ [.slice none 0 0])) W1:=by
  rw [← hW1,← hR];exact ha_ _ _
 have hb1:Below w.heap.size w W1:=by rw [← hW1];exact (Below.refl _ _).alloc (nl_ _) _
 have hz1':W1.heap.size = R + 1:=by rw [← hW1,← hR];simp
 have HR1:=hid hr1
 have HB1:=hid hb1
 have HZ1:=hid hz1'
 have HR:=hid hR
 clear hr1 hb1 hz1'
 go_enter Tryz.func11,Tryz.ntmps11
 go_wp2_with fail
 go_loopw [] (fun wr=>∃ (i ln st dp:Nat) (ks:List Ky) (fs:List Fl) (fv:Value) (cs:List Value),i ≤ t.length∧ln ≤ 60∧dp ≤ 3∧ks.length = 4∧fs.length = ln∧Hid (prs t = xz_ t (62 - ln) i ln dp ks fs) ∧
  Hid (Rdr R t i (.int .i64 ln :: .int .i64 (st:Int) :: .int .i64 dp :: (ks.flatMap Ky.cells ++ [fv])) wr)∧wr.ownsRow (R + 1) 98 2 fv ln cs∧LCs xn_ (Rx (R + 1) wr.heap.size fv) wr fs cs∧Hid (SmF fs)∧Hid (∀ k ∈ ks,k.n.length ≤ 1000)∧Hid (Below w.heap.size w wr)) (fun wr=>61 - lnAt R wr)
 case atStart=>exact ⟨0,0,0,0,[ky0,ky0,ky0,ky0],[], .slice none 0 0,[],Nat.zero_le _,by omega,by omega,rfl,rfl,rfl,HR1.out,World.ownsRow_nil _ _ _ _,rfl,(fun x hx=>by cases hx),(fun k hk=>by simp [ky0] at hk;subst hk;simp),HB1.out⟩
 case round=>
  obtain ⟨i,ln,st,dp,ks,fs,fv,cs,hit,hln,hdp,hk4,rfl,hP,hr,hown,hlc,hsm,hkn,hB⟩:=hrel
  have c0:=hr.out.c0
  have c1:=hr.out.c1
  have c2:wr.cell? ⟨R,2,none⟩ = some (.int .i64 (fs.length:Int)):=hr.out.cV (j:=0) rfl
  obtain ⟨af,cf,rfl,_,_⟩:=owns_shape hown
  have c17:wr.cell? ⟨R,17,none⟩ = some (.slice af fs.length cf):=hr.out.cV (j:=15) (by simpa using zR_ hk4)
  have hRlt:=hr.out.lt
  have hRw:=HR.out
  have hFS:FlSl (Rg (R + 1) wr.heap.size) wr (.slice af fs.length cf) fs:=⟨cs,SlC.of_owns hown,hlc.wide fun b hb=>⟨hb.1,hb.2.1⟩⟩
  have HFS:=hid hFS
  clear hFS
  by_cases hlt:i < t.length
  · have hlt':(i:Int) < (t.length:Int):=by omega
    go_upto_block 1 with fail
    go_cut [7,8,9,10] from 15 to 96 (fun _ _ _ _ wx=>PRel t R w fs.length wx)
    case first=>
     by_cases hmany:60 ≤ fs.length
     · have hm':(60:Int) ≤ (fs.length:Int):=by omega
       have hend:=prsG_many (f:=61 - fs.length) (dp:=dp) (ks:=ks) (fs:=fs) hlt hmany
       rw [show 61 - fs.length + 1 = 62 - fs.length by omega,← hP.out] at hend
       have HE:=hid hend
       clear hend
       go_wp2_with fail
       go_quiet (fail)
       go_wp2_with fail
       exact bodyPost_ret (v := .tuple #[.slice none 0 0, .int .i64 (fs.length:Nat), .int .i64 ((0:Nat):Int), .int .i64 ((2:Nat):Int)]) (by simp [results,Tryz.results11,go_sem]) rfl (errRet HE.out (by decide) rfl (qm_ hB.out _))
     · have hm':¬ (60:Int) ≤ (fs.length:Int):=by omega
       go_wp2_with fail
       refine (read_any R t i fs.length st dp ks (.slice af fs.length cf) wr hr.out ht hit hdp hk4).mono ?_
       rintro e w2 hread
       have hrl:=rdLine_le dp (t.drop i)
       obtain ⟨⟨d,nm,nums,n,ok⟩,hrd⟩:∃ r,rdLine dp (t.drop i) = r:=⟨_,rfl⟩
       simp only [ReadR,hrd] at hread hrl
       rw [List.length_drop] at hrl
       obtain ⟨hdd,hnt,hnl4,hnm8,hnn⟩:=hrl
       rcases hread with ⟨rfl,rfl,⟨vs,hr2⟩,hk2⟩ | ⟨rfl,ap,cp,an,cn,rfl,hP2,hI2,hr2,hk2⟩
       · have hend:=prsG_form (t:=t) (i:=i) (ln:=fs.length) (dp:=dp) (f:=61 - fs.length) (ks:=ks) (fs:=fs) hlt hmany (by rw [hrd])
         rw [show 61 - fs.length + 1 = 62 - fs.length by omega,← hP.out,hrd] at hend
         have HE:=hid hend
         have c1:w2.cell? ⟨R,1,none⟩ = some (.int .i64 ((i + n:Nat):Int)):=hr2.c1
         have c2:w2.cell? ⟨R,2,none⟩ = some (.int .i64 (fs.length:Int)):=hr2.cV (j:=0) rfl
         have c3:w2.cell? ⟨R,3,none⟩ = some (.int .i64 (i:Int)):=hr2.cV (j:=1) rfl
         have hRlt2:=hr2.lt
         have HB2:=hid (hB.out.trans (Keep.below (n:=w.heap.size) hk2 (by omega) (fun b hb=>by omega)))
         clear hend hr2 c0 hrd
         go_wp2_with fail
         go_quiet (fail)
         go_wp2_with fail
         exact bodyPost_ret (v := .tuple #[.slice none 0 0, .int .i64 (fs.length:Nat), .int .i64 (n:Nat), .int .i64 ((11:Nat):Int)]) (by simp [results,Tryz.results11,go_sem];try omega) rfl (errRet HE.out (by decide) rfl (qm_ (HB2.out.alloc HB2.out.size _) _))
       · have hnq:n < t.length - i:=hnn (by simp)
         have hd3:d ≤ 3:=by omega
         have hk4':(ks.set d (kyOf nm nums)).length = 4:=by simpa using hk4
         obtain ⟨ks',hks'⟩:∃ ks',ks.set d (kyOf nm nums) = ks':=⟨_,rfl⟩
         rw [hks'] at hP2 hr2 hk4'
         have hlp:(ks'.take (d + 1)).length = d + 1:=by rw [List.length_take];omega
         have HLP:=hid hlp
         have HKS:=hid hks'
         have HRD:=hid hrd
         have c1:w2.cell? ⟨R,1,none⟩ = some (.int .i64 ((i + n:Nat):Int)):=hr2.c1
         have c2:w2.cell? ⟨R,2,none⟩ = some (.int .i64 (fs.length:Int)):=hr2.cV (j:=0) rfl
         have c17:w2.cell? ⟨R,17,none⟩ = some (.slice af fs.length cf):=hr2.cV (j:=15) (by simpa using zR_ hk4')
         have hRlt2:=hr2.lt
         have hzz2:=hk2.size
         have HB2:=hid (hB.out.trans (Keep.below (n:=w.heap.size) hk2 (by omega) (fun b hb=>by omega)))
         have HFS2:=hid (LSl.agree HFS.out (w':=w2) (hk2.agree fun b hb=>⟨hb.2,fun e=>by have:=hb.1;omega⟩))
         have HP2:=hid hP2
         have HI2:=hid hI2
         have HR2:=hid hr2
         have HK2:=hid hk2
         have i0':(0:Int) ≤ (d:Int):=by omega
         clear c0 hrd hks' hlp hP2 hI2 hr2 hk2
         go_wp2_with fail
         refine (lateIdx' fs af cf (ks'.take (d + 1)) (d + 1) HLP.out ap cp w2.heap.size _ _ _ (LSl.agree HFS2.out (q9_ ((Below.refl _ _).alloc (nl_ _) _) fun b hb=>by have:=hb.2;omega)) (fun b hb=>by have:=hb.2;simp;omega) (Pth.agree HP2.out (q9_ ((Below.refl _ _).alloc (nl_ _) _) fun b hb=>hb.2)) (fun b hb=>by have:=hb.2;simp;omega) (by simp) (cg_ (ha_ _ _) (k:=0) rfl) (by omega) hsm.out (by omega)).mono ?_
         rintro e w3 ⟨rfl,hb3⟩
         have hany:=lateAny fs (ks'.take (d + 1))
         obtain ⟨x,hx⟩:∃ x,idxN (fun i=>decide (0 ≤ cmpP (fs.getD i fl0).p (ks'.take (d + 1)))) fs.length = x:=⟨_,rfl⟩
         rw [hx] at hany ⊢
         clear hx
         have hb23:Below w2.heap.size w2 w3:=((Below.refl _ _).alloc (nl_ _) _).trans (hb3.mono (by simp))
         have HB3:=hid (HB2.out.trans (hb23.mono HB2.out.size))
         have HB23:=hid hb23
         clear hb23
         have HR3:=hid ((HR2.out.alloc (.cells #[.slice ap (d + 1) cp, .slice an nums.length cn] 98)).below hb3)
         have c1:w3.cell? ⟨R,1,none⟩ = some (.int .i64 ((i + n:Nat):Int)):=HR3.out.c1
         have c2:w3.cell? ⟨R,2,none⟩ = some (.int .i64 (fs.length:Int)):=HR3.out.cV (j:=0) rfl
         have hF3:w3.heap[w2.heap.size]? = some (.cells #[.slice ap (d + 1) cp, .slice an nums.length cn] 98 (0,0)):=(hb3.block _ (by simp)).trans (ha_ _ _)
         by_cases hge:0 ≤ x
         · have hany':fs.any (fun x=>decide (0 ≤ cmpP x.p (ks'.take (d + 1)))) = true:=by rw [← hany];simp [hge]
           have hend:=wc_ (t:=t) (i:=i) (ln:=fs.length) (dp:=dp) (f:=61 - fs.length) (ks:=ks) (fs:=fs) hlt hmany (by rw [HRD.out]) (by rw [HRD.out];simp only;rw [HKS.out];exact hany')
           rw [show 61 - fs.length + 1 = 62 - fs.length by omega,← hP.out,HRD.out] at hend
           have HE:=hid hend
           clear hend hany hany' hF3
           go_wp2_with fail
           go_quiet (fail)
           go_wp2_with fail
           exact bodyPost_ret (v := .tuple #[.slice none 0 0, .int .i64 (fs.length:Nat), .int .i64 (d:Nat), .int .i64 ((4:Nat):Int)]) (by simp [results,Tryz.results11,go_sem];try omega) rfl (errRet HE.out (by decide) rfl (qm_ HB3.out _))
         · have hany':fs.any (fun x=>decide (0 ≤ cmpP x.p (ks'.take (d + 1)))) = false:=by rw [← hany];simp [hge]
           have hend:=prsG_go (t:=t) (i:=i) (ln:=fs.length) (dp:=dp) (f:=61 - fs.length) (ks:=ks) (fs:=fs) hlt hmany (by rw [HRD.out]) (by rw [HRD.out];simp only;rw [HKS.out];exact hany')
           rw [show 61 - fs.length + 1 = 62 - fs.length by omega,← hP.out,HRD.out] at hend
           simp only [HKS.out] at hend
           have HE:=hid hend
           clear hend hany hany'
           have c17':w3.cell? ⟨R,17,none⟩ = some (.slice af fs.length cf):=HR3.out.cV (j:=15) (by simpa using zR_ hk4')
           have m0:=cg_ hF3 (k:=0) rfl
           have m1:=cg_ hF3 (k:=1) rfl
           have HF3:=hid hF3
           have hFlt:w2.heap.size < w3.heap.size:=(ge_ hF3).1
           have hRF:w2.heap.size ≠ R:=by omega
           have hRlt3:=HR3.out.lt
           have hneF:(Value.slice af fs.length cf).ownBlock ≠ some w2.heap.size:=fun e=>by have:=(hown.lt _ e).2;omega
           have how3:w3.ownsRow (R + 1) 98 2 (.slice af fs.length cf) fs.length cs:=owns_agree hown fun g hg=>by
            have h1:=hown.lt g hg
            exact (HB23.out.block g (by omega)).trans (HK2.out.block g h1.2 (by omega))
           have HOW:=hid how3
           have iw:IntKind.i64.wrap ((i:Int) + (n:Int) + 1) = (i:Int) + (n:Int) + 1:=by simp [IntKind.wrap,IntKind.bits,IntKind.signed];omega
           clear hF3 c17 how3
           go_wp2_with fail
           refine (wpIn_wide (n:=9)).1 ?_
           refine yF_ (fun (lx:Array Bool) (w':World)=>Unl lx 17→w'.cell? ⟨R,17,none⟩ = some (.slice af fs.length cf)∧w'.cell? ⟨R,1,none⟩ = some (.int .i64 ((i + n:Nat):Int))∧w'.cell? ⟨w2.heap.size,0,none⟩ = some (.slice ap (d + 1) cp)∧w'.cell? ⟨w2.heap.size,1,none⟩ = some (.slice an nums.length cn)) (by kernel_rfl) ?_
           have hS0:∀ lx,(fun (lx:Array Bool) (w':World)=>Unl lx 17→w'.cell? ⟨R,17,none⟩ = some (.slice af fs.length cf)∧w'.cell? ⟨R,1,none⟩ = some (.int .i64 ((i + n:Nat):Int))∧w'.cell? ⟨w2.heap.size,0,none⟩ = some (.slice ap (d + 1) cp)∧w'.cell? ⟨w2.heap.size,1,none⟩ = some (.slice an nums.length cn)) lx w3.drew:=fun lx _=>⟨c17',c1,m0,m1⟩
           refine qi_ (fun _=>trivial) (by kernel_rfl) 0 77 (.pointer (some ⟨R,0,none⟩)) rfl rfl (by kernel_rfl) (by kernel_rfl) (by kernel_rfl) (by kernel_rfl) (fun _ _=>by simp only [qS_ (show 0 ≠ 17 by decide)]) (fun _ _ _ h=>h) (.inl ⟨by kernel_rfl,fun w' hs=>?_⟩) (hS0 _) ?_
           · obtain ⟨lx,hlx,hrx,hsx⟩:=hs
             go_simp
           refine qi_ (fun _=>trivial) (by kernel_rfl) 1 78 (.pointer (some ⟨R,0,none⟩)) rfl rfl (by kernel_rfl) (by kernel_rfl) (by kernel_rfl) (by kernel_rfl) (fun _ _=>by simp only [qS_ (show 1 ≠ 17 by decide)]) (fun _ _ _ h=>h) (.inl ⟨by kernel_rfl,fun w' hs=>?_⟩) (hS0 _) ?_
           · obtain ⟨lx,hlx,hrx,hsx⟩:=hs
             go_simp
           refine qi_ (fun _=>trivial) (by kernel_rfl) 2 79 (.pointer (some ⟨R,0,none⟩)) rfl rfl (by kernel_rfl) (by kernel_rfl) (by kernel_rfl) (by kernel_rfl) (fun _ _=>by simp only [qS_ (show 2 ≠ 17 by decide)]) (fun _ _ _ h=>h) (.inl ⟨by kernel_rfl,fun w' hs=>?_⟩) (hS0 _) ?_
           · obtain ⟨lx,hlx,hrx,hsx⟩:=hs
             go_simp
           refine qi_ (fun _=>trivial) (by kernel_rfl) 3 80 (.pointer (some ⟨R,0,none⟩)) rfl rfl (by kernel_rfl) (by kernel_rfl) (by kernel_rfl) (by kernel_rfl) (fun _ _=>by simp only [qS_ (show 3 ≠ 17 by decide)]) (fun _ _ _ h=>h) (.inl ⟨by kernel_rfl,fun w' hs=>?_⟩) (hS0 _) ?_
           · obtain ⟨lx,hlx,hrx,hsx⟩:=hs
             go_simp
           refine qi_ (fun _=>trivial) (by kernel_rfl) 4 81 (.pointer (some ⟨R,17,none⟩)) rfl rfl (by kernel_rfl) (by kernel_rfl) (by kernel_rfl) (by kernel_rfl) (fun _ _=>by simp only [qS_ (show 4 ≠ 17 by decide)]) (fun _ _ _ h=>h) (.inl ⟨by kernel_rfl,fun w' hs=>?_⟩) (hS0 _) ?_
           · obtain ⟨lx,hlx,hrx,hsx⟩:=hs
             go_simp
           refine qi_ (fun _=>trivial) (by kernel_rfl) 5 82 (.slice af fs.length cf) rfl rfl (by kernel_rfl) (by kernel_rfl) (by kernel_rfl) (by kernel_rfl) (fun _ _=>by simp only [qS_ (show 5 ≠ 17 by decide)]) (fun _ _ _ h=>h) (.inl ⟨by kernel_rfl,fun w' hs=>?_⟩) (hS0 _) ?_
           · obtain ⟨lx,hlx,hrx,hsx⟩:=hs
             obtain ⟨q0,q1,q2,q3⟩:=hsx (vM_ hlx (k:=17) rfl (by kernel_rfl) (ve_ hrx))
             go_simp
           refine qi_ (fun _=>trivial) (by kernel_rfl) 6 83 (.agg #[.slice ap (d + 1) cp, .slice an nums.length cn]) rfl rfl (by kernel_rfl) (by kernel_rfl) (by kernel_rfl) (by kernel_rfl) (fun _ _=>by simp only [qS_ (show 6 ≠ 17 by decide)]) (fun _ _ _ h=>h) (.inl ⟨by kernel_rfl,fun w' hs=>?_⟩) (hS0 _) ?_
           · obtain ⟨lx,hlx,hrx,hsx⟩:=hs
             obtain ⟨q0,q1,q2,q3⟩:=hsx (vM_ hlx (k:=17) rfl (by kernel_rfl) (ve_ hrx))
             go_simp
           refine qi_ (fun _=>trivial) (by kernel_rfl) 9 86 (.pointer (some ⟨R,0,none⟩)) rfl rfl (by kernel_rfl) (by kernel_rfl) (by kernel_rfl) (by kernel_rfl) (fun _ _=>by simp only [qS_ (show 9 ≠ 17 by decide)]) (fun _ _ _ h=>h) (.inl ⟨by kernel_rfl,fun w' hs=>?_⟩) (hS0 _) ?_
           · obtain ⟨lx,hlx,hrx,hsx⟩:=hs
             go_simp
           refine qi_ (fun _=>trivial) (by kernel_rfl) 10 87 (.pointer (some ⟨R,0,none⟩)) rfl rfl (by kernel_rfl) (by kernel_rfl) (by kernel_rfl) (by kernel_rfl) (fun _ _=>by simp only [qS_ (show 10 ≠ 17 by decide)]) (fun _ _ _ h=>h) (.inl ⟨by kernel_rfl,fun w' hs=>?_⟩) (hS0 _) ?_
           · obtain ⟨lx,hlx,hrx,hsx⟩:=hs
             go_simp
           refine qi_ (fun _=>trivial) (by kernel_rfl) 11 88 (.pointer (some ⟨R,0,none⟩)) rfl rfl (by kernel_rfl) (by kernel_rfl) (by kernel_rfl) (by kernel_rfl) (fun _ _=>by simp only [qS_ (show 11 ≠ 17 by decide)]) (fun _ _ _ h=>h) (.inl ⟨by kernel_rfl,fun w' hs=>?_⟩) (hS0 _) ?_
           · obtain ⟨lx,hlx,hrx,hsx⟩:=hs
             go_simp
           refine qi_ (fun _=>trivial) (by kernel_rfl) 12 89 (.pointer (some ⟨R,1,none⟩)) rfl rfl (by kernel_rfl) (by kernel_rfl) (by kernel_rfl) (by kernel_rfl) (fun _ _=>by simp only [qS_ (show 12 ≠ 17 by decide)]) (fun _ _ _ h=>h) (.inl ⟨by kernel_rfl,fun w' hs=>?_⟩) (hS0 _) ?_
           · obtain ⟨lx,hlx,hrx,hsx⟩:=hs
             go_simp
           refine qi_ (fun _=>trivial) (by kernel_rfl) 13 90 (.int .i64 ((i + n:Nat):Int)) rfl rfl (by kernel_rfl) (by kernel_rfl) (by kernel_rfl) (by kernel_rfl) (fun _ _=>by simp only [qS_ (show 13 ≠ 17 by decide)]) (fun _ _ _ h=>h) (.inl ⟨by kernel_rfl,fun w' hs=>?_⟩) (hS0 _) ?_
           · obtain ⟨lx,hlx,hrx,hsx⟩:=hs
             obtain ⟨q0,q1,q2,q3⟩:=hsx (vM_ hlx (k:=17) rfl (by kernel_rfl) (ve_ hrx))
             go_simp
           refine qi_ (fun _=>trivial) (by kernel_rfl) 14 91 (.int .i64 (((i + n:Nat):Int) + 1)) rfl rfl (by kernel_rfl) (by kernel_rfl) (by kernel_rfl) (by kernel_rfl) (fun _ _=>by simp only [qS_ (show 14 ≠ 17 by decide)]) (fun _ _ _ h=>h) (.inl ⟨by kernel_rfl,fun w' hs=>?_⟩) (hS0 _) ?_
           · obtain ⟨lx,hlx,hrx,hsx⟩:=hs
             go_simp
           clear hS0
           refine qA_ (i:=7) (by kernel_rfl) rfl (by kernel_rfl) (fun K hK=>?_)
           go_simp
           have hb3:Below w3.heap.size w3 (w3.drew.alloc (.cells #[.slice ap (d + 1) cp, .slice an nums.length cn] 98)):=(Below.refl _ _).drew.alloc (nl_ _) _
           refine hK _ _ ⟨fun _=>⟨bc_ hb3 hRlt3 c17',bc_ hb3 hRlt3 c1,bc_ hb3 hFlt m0,bc_ hb3 hFlt m1⟩,?_⟩
           clear hK
           obtain ⟨a4,c4,w4,hr4,hown4,hgrow4,hat4⟩:=run_append_ao (P:=Tryz.prog) (w3.drew.alloc (.cells #[.slice ap (d + 1) cp, .slice an nums.length cn] 98)) 90 90 (R + 1) 98 i0 _ 2 48 Tryz.underlying90 hi0 hz0 hz1 hz2 rfl (by omega) (.slice af fs.length cf) fs.length cs (HOW.out.alloc _) (some ⟨w3.heap.size,0,none⟩) 1 1 [.slice ap (d + 1) cp, .slice an nums.length cn] rfl (fun h=>by cases h) (fun ad had=>by cases had;exact World.news_of_block (cs:=#[.slice ap (d + 1) cp, .slice an nums.length cn]) (t:=98) (fr:=(0,0)) (ha_ w3.drew _)) (by simp [Value.oneCell']) (by unfold maxLen;omega) (by omega) (by simp;omega)
           have HR4:Hid (Rdr R t (i + n) (.int .i64 fs.length :: .int .i64 i :: .int .i64 (min (d + 1) 3:Nat) :: (ks'.flatMap Ky.cells ++ [.slice af fs.length cf])) w4):=(hgrow4.block R (by simp;omega) (fun e=>by have:=(hown.lt R e.symm).1;omega)).trans ((heap_alloc_old _ _ hRlt3).trans HR3.out)
           have c1:w4.cell? ⟨R,1,none⟩ = some (.int .i64 ((i + n:Nat):Int)):=HR4.out.c1
           have c17:w4.cell? ⟨R,17,none⟩ = some (.slice af fs.length cf):=HR4.out.cV (j:=15) (by simpa using zR_ hk4')
           have f1:=HR4.out.fz (o:=1)
           have f17:=HR4.out.fz (o:=17)
           have n0:=qh_ hgrow4 hneF (bc_ hb3 hFlt m0)
           have n1:=qh_ hgrow4 hneF (bc_ hb3 hFlt m1)
           refine qA_ (i:=8) (by kernel_rfl) rfl (by kernel_rfl) (fun K hK=>?_)
           refine zw_ (fun _=>trivial) rfl (zc_ rfl rfl rfl hr4) ?_
           refine hK _ _ ⟨fun _=>⟨c17,c1,n0,n1⟩,?_⟩
           clear hK hr4
           refine qA_ (i:=15) (by kernel_rfl) rfl (by kernel_rfl) (fun K hK=>?_)
           go_simp
           refine hK _ _ ⟨fun _=>⟨c17,c1,n0,n1⟩,?_⟩
           clear hK
           refine qA_ (i:=16) (by kernel_rfl) rfl (by kernel_rfl) (fun K hK=>?_)
           go_simp
           refine hK _ _ ⟨fun _=>⟨c17,c1,n0,n1⟩,?_⟩
           clear hK
           refine qA_ (i:=17) (by kernel_rfl) rfl (by kernel_rfl) (fun K hK=>?_)
           go_simp
           refine hK _ _ ⟨fun h=>(by cases h),?_⟩
           clear hK
           refine qA_ (i:=18) (by kernel_rfl) rfl (by kernel_rfl) (fun K hK=>?_)
           go_simp
           refine hK _ _ ⟨fun h=>(by cases h),?_⟩
           clear hK
           refine qA_ (i:=19) (by kernel_rfl) rfl (by kernel_rfl) (fun K hK=>?_)
           go_simp
           refine hK _ _ ⟨fun h=>(by cases h),?_⟩
           clear hK
           refine qA_ (i:=20) (by kernel_rfl) rfl (by kernel_rfl) (fun K hK=>?_)
           go_simp
           refine hK _ _ ⟨fun h=>(by cases h),?_⟩
           clear hK
           refine qA_ (i:=21) (by kernel_rfl) rfl (by kernel_rfl) (fun K hK=>?_)
           go_simp
           refine hK _ _ ⟨fun h=>(by cases h),?_⟩
           clear hK
           refine xL_ (by kernel_rfl) ?_
           go_simp
           all_goals
            go_wp2_with fail
            go_meet
            case rel=>exact parse_rel hlt hnq (by omega) hRw hRlt hown hlc hsm.out hkn.out hk4' HLP.out HKS.out hnm8 hnl4 hd3 HK2.out HB23.out HB3.out HP2.out HI2.out HE.out hown4 ⟨hgrow4.os,hgrow4.tape,hgrow4.output,hgrow4.size,hgrow4.block⟩ hat4 HR4.out
    case rest=>
     obtain ⟨i2,st2,dp2,ks2,fs2,fv2,cs2,h1,h2,h3,h4,h5,hP2,hr2,hown2,hlc2,hsm2,hkn2,hB2⟩:=hcut
     have c2':wc.cell? ⟨R,2,none⟩ = some (.int .i64 (fs.length:Int)):=hr2.out.cV (j:=0) rfl
     have f2':=hr2.out.fz (o:=2)
     have hnum:lnAt R wr = fs.length:=by simp [lnAt,c2]
     go_wp2_with fail
     go_roundw
     case rel=>
      have hk:=hr2.out.setV 0 (.int .i64 ((fs.length:Int) + 1))
      simp only [List.set_cons_zero] at hk
      refine ⟨i2,fs2.length,st2,dp2,ks2,fs2,fv2,cs2,h1,by omega,h2,h3,rfl,?_,?_,?_,?_,hsm2,hkn2,?_⟩
      · rw [show 62 - fs2.length = 61 - fs.length by omega,h4];exact hP2
      · rw [show ((fs2.length:Nat):Int) = (fs.length:Int) + 1 by omega];exact hk
      · exact owns_agree hown2 fun g hg=>Below.heap_setCell _ _ _ _ (by have:=(hown2.lt g hg).1;simp;omega)
      · have:=hlc2.agree (w':=wc.setCell ⟨R,2,none⟩ (.int .i64 ((fs.length:Int) + 1))) fun b hb=>Below.heap_setCell _ _ _ _ (by have:=hb.1;simp;omega)
        simpa [World.setCell] using this
      · exact Below.setCell hB2.out (p:=⟨R,2,none⟩) (by show w.heap.size ≤ R;omega) _
     case measure=>
      have hk:=hr2.out.setV 0 (.int .i64 ((fs.length:Int) + 1))
      have h9:lnAt R (wc.setCell ⟨R,2,none⟩ (.int .i64 ((fs.length:Int) + 1))) = fs.length + 1:=by
       have:=hk.cV (j:=0) rfl
       have e:(wc.setCell ⟨R,2,none⟩ (.int .i64 ((fs.length:Int) + 1))).cell? ⟨R,2,none⟩ = some (.int .i64 ((fs.length:Int) + 1)):=this
       (simp [lnAt,e]) <;> omega
      rw [hnum,h9];omega
  · have hlt':¬ (i:Int) < (t.length:Int):=by omega
    have hend:=prsG_end (t:=t) (f:=61 - fs.length) (i:=i) (ln:=fs.length) (dp:=dp) (ks:=ks) (fs:=fs) hlt
    rw [show 61 - fs.length + 1 = 62 - fs.length by omega,← hP.out] at hend
    have HE:=hid hend
    clear hend
    go_wp2_with fail
    refine (tree_any fs af cf _ wr HFS.out (fun b hb=>hb.2) (by omega) hsm.out).mono ?_
    rintro e w2 ⟨a2,c2,rfl,hF2,hb2⟩
    go_wp2_with fail
    refine bodyPost_ret (v := .tuple #[.slice a2 (treF 0 fs).1.len c2, .int .i64 ((0:Nat):Int), .int .i64 ((0:Nat):Int), .int .i64 ((0:Nat):Int)]) (by simp [results,Tryz.results11,go_sem]) rfl ?_
    have h3:=hB.out
    have h4:=h3.size
    have hy:yc_ t = (treF 0 fs).1:=by rw [yc_,HE.out];rfl
    rw [hy,HE.out]
    exact ⟨a2,c2,rfl,hF2.wide (fun b hb=>⟨by have:=hb.1;omega,hb.2⟩),h3.trans (hb2.mono h4)⟩
end Go.Proofs.LF