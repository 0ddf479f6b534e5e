/- Parts of the proof of a law of layer 11 (file): LfW96, LfW51, LfMd, LfW82, LfTu2, LfW96d, LfW52a, LfW98, LfW109, LfW55a, LfW99. The conditions stand in each theorem. -/
import Derived.Test.YtadkpjgpefcphaaGreatDoorProg
import Derived.Test.YtadkpjgpefcphaaGreatDoorChab
import Derived.Test.YtadkpjgpefcphaaGreatDoorChac
import Derived.Test.YtadkpjgpefcphaaGreatDoorChad
import Derived.Test.YtadkpjgpefcphaaGreatDoorChaf
import Derived.Test.YtadkpjgpefcphaaGreatDoorChah
import Derived.Test.YtadkpjgpefcphaaGreatDoorChak
import Derived.Test.YtadkpjgpefcphaaGreatDoorChal
import Derived.Test.YtadkpjgpefcphaaGreatDoorCham
import Derived.Test.YtadkpjgpefcphaaGreatDoorChan
import Derived.Test.YtadkpjgpefcphaaGreatDoorChav
import Derived.Test.YtadkpjgpefcphaaGreatDoorChaw
import Derived.Test.YtadkpjgpefcphaaGreatDoorChbb
import Derived.Test.YtadkpjgpefcphaaGreatDoorChbc
import Derived.Test.YtadkpjgpefcphaaGreatDoorChbd
set_option linter.all false
set_option linter.unusedVariables false
set_option linter.unusedSimpArgs false
namespace Go.Proofs.LF
open Go.RowKit Go.Sort
set_option maxHeartbeats 4000000
set_option maxRecDepth 100000
attribute [local go_sem] bs_toList bs_size bs_get
def backL (l:List Ch):List Ch:=if ckC l = 0 then l.map turnC else []
end Go.Proofs.LF
namespace Go.Proofs.LF
open Go.RowKit Go.Sort
set_option maxHeartbeats 4000000
set_option maxRecDepth 100000
attribute [local go_sem] bs_toList bs_size bs_get
theorem refCheck_any (y:Fo) (a:Option Addr) (c:Nat) (S:Nat→Prop) (w:World) (hv:FSl S w (.slice a y.len c) y) (hS:∀ b,S b→b < w.heap.size) (hlen:y.len ≤ 1000) (hsm:y.Sm) :
 Calls Tryz.prog 21 #[.slice a y.len c] w fun e w'=>e = .returned (.int .i64 (chkY y))∧Below w.heap.size w w':=by
 have HM:=hid (many_any (y.cnt + 1) y 60 a c S w (Nat.lt_succ_self _) (by decide) (by decide) hv hS)
 have HC:=hid (check_any (y.cnt + 1) y 0 a c S w (Nat.lt_succ_self _) (by decide) (by decide) hv hS hlen hsm)
 have hq:=refChk_eq y
 unfold refChk at hq
 by_cases h:60 < many y 60
 · rw [if_pos h] at hq
   have HQ:=hid hq
   clear hq
   go_enter Tryz.func21,Tryz.ntmps21
   go_wp2_with fail
   refine HM.out.mono ?_
   rintro e w' ⟨rfl,rfl⟩
   go_wp2_with fail
   go_ret
   exact ⟨ret_int HQ.out,Below.refl _ _⟩
 · rw [if_neg h] at hq
   have HQ:=hid hq
   clear hq
   go_enter Tryz.func21,Tryz.ntmps21
   go_wp2_with fail
   refine HM.out.mono ?_
   rintro e w' ⟨rfl,rfl⟩
   go_wp2_with fail
   refine HC.out.mono ?_
   rintro e w1 ⟨rfl,hb⟩
   go_wp2_with fail
   go_ret
   exact ⟨ret_int HQ.out,hb⟩
end Go.Proofs.LF
namespace Go.Proofs.LF
def chR (a b:List Fl) (p:List Ky):Ch:=⟨p,(rfd a p).isSome,(rfd b p).isSome,((rfd a p).getD fl0).l,((rfd b p).getD fl0).l⟩
theorem dfF_eq {a b:List Fl} (ha:Srt a) (hb:Srt b):dfF a b = ((pthsF [a,b]).filter fun p=>!eqR a b p).map (chR a b):=by
 unfold dfF
 induction pthsF [a,b] with
 | nil=>rfl
 | cons p ps ih=>
   rw [List.filterMap_cons,List.filter_cons,chD,smF_eqR ha hb,fnd_rfd ha,fnd_rfd hb]
   cases eqR a b p
   · simp [ih,chR]
   · simp [ih]
theorem difL_eq {y x:Fo} (hy:chkY y = 0) (hx:chkY x = 0):difE y x = 0∧difL y x = dfF (flsL [] y) (flsL [] x):=by
 have:difE y x = 0:=by simp [difE,hy,hx]
 exact ⟨this,by rw [difL,if_pos this]⟩
theorem good2 {y x:Fo} (hy:chkY y = 0) (hx:chkY x = 0):∀ l ∈ [flsL [] y,flsL [] x],∀ q ∈ l,GoodP q.p:=fun l hl q hq=>by
 simp only [List.mem_cons,List.not_mem_nil,or_false] at hl
 rcases hl with rfl | rfl
 · exact fls_good hy q hq
 · exact fls_good hx q hq
theorem dif_mem {y x:Fo} (hy:chkY y = 0) (hx:chkY x = 0) {c:Ch}:c ∈ difL y x ↔ (c.p ∈ (flsL [] y).map Fl.p ∨ c.p ∈ (flsL [] x).map Fl.p)∧eqR (flsL [] y) (flsL [] x) c.p = false∧c = chR (flsL [] y) (flsL [] x) c.p:=by
 obtain ⟨_,h6⟩:=pths_spec (good2 hy hx)
 rw [(difL_eq hy hx).2,dfF_eq (fls_srt hy) (fls_srt hx),List.mem_map]
 constructor
 · rintro ⟨p,hp,rfl⟩
   rw [List.mem_filter,h6] at hp
   obtain ⟨⟨l,hl,h1⟩,h2⟩:=hp
   simp only [List.mem_cons,List.not_mem_nil,or_false] at hl
   refine ⟨?_,by simpa [chR] using h2,rfl⟩
   rcases hl with rfl | rfl
   · exact .inl h1
   · exact .inr h1
 · rintro ⟨h1,h2,h3⟩
   refine ⟨c.p,?_,h3.symm⟩
   rw [List.mem_filter,h6]
   refine ⟨?_,by simp [h2]⟩
   rcases h1 with h | h
   · exact ⟨_,by simp,h⟩
   · exact ⟨_,by simp,h⟩
theorem dif_srt {y x:Fo} (hy:chkY y = 0) (hx:chkY x = 0):(difL y x).Pairwise (fun a b=>cmpP a.p b.p < 0):=by
 obtain ⟨h5,_⟩:=pths_spec (good2 hy hx)
 rw [(difL_eq hy hx).2,dfF_eq (fls_srt hy) (fls_srt hx),List.pairwise_map]
 exact (List.Pairwise.sublist List.filter_sublist h5).imp fun h=>h
def KyOk (k:Ky):Prop:=badNm k.n = false∧inB k.x 0 9999 = true∧(k.h || decide (k.x = 0)) = true
theorem kyOk_of {n:List UInt8} {l:List Int} (h1:badNm n = false) (h2:badNs l = false):KyOk (kyOf n l):=by
 cases l with
 | nil=>exact ⟨by simpa [kyOf] using h1,by simp [kyOf,inB],by simp [kyOf]⟩
 | cons x l=>
   have:=badNs_mem h2 x (by simp)
   exact ⟨by simpa [kyOf] using h1,by simp [kyOf,inB,this.1,this.2],by simp [kyOf]⟩
theorem fls_kyok:∀ (y:Fo) (u:List Ky) (d:Nat),OkG d y→(∀ k ∈ u,KyOk k)→∀ x ∈ flsL u y,∀ k ∈ x.p,KyOk k
 | .nil,u,_,_,_,x,h=>by cases h
 | .cons n l s r,u,d,⟨⟨h1,h2,h3,h4⟩,h5,_,h7⟩,hu,x,h=>by
   rw [flsL_cons] at h
   have hu':∀ k ∈ u ++ [kyOf n l],KyOk k:=fun k hk=>by
    rcases List.mem_append.1 hk with h | h
    · exact hu k h
    · simp only [List.mem_singleton] at h;rw [h];exact kyOk_of h2 h4
   rcases List.mem_cons.1 h with rfl | h
   · exact hu'
   · rcases List.mem_append.1 h with h | h
     · exact fls_kyok s _ _ h5 hu' x h
     · exact fls_kyok r u d h7 hu x h
theorem ckL_of:∀ (l:List Ch) (q:Option (List Ky)),(∀ c ∈ l,ckOne none c = 0)→l.Pairwise (fun a b=>cmpP a.p b.p < 0)→(∀ r,q = some r→∀ c ∈ l,cmpP r c.p < 0)→ckL q l = 0
 | [],_,_,_,_=>rfl
 | c :: l,q,h1,h2,h3=>by
   obtain ⟨h4,h5⟩:=List.pairwise_cons.1 h2
   have h0:=h1 c (by simp)
   have hb:behB q c.p = false:=by
    cases q with
    | none=>rfl
    | some r=>have:=h3 r rfl c (by simp);simp [behB];omega
   have h6:ckOne q c = 0:=by
    rw [← h0]
    unfold ckOne
    rw [hb,show behB none c.p = false from rfl]
   simp only [ckL]
   rw [if_pos h6]
   exact ckL_of l (some c.p) (fun x hx=>h1 x (by simp [hx])) h5 (fun r hr x hx=>by cases hr;exact h4 x hx)
theorem begK_kyOf (n:List UInt8) (l:List Int):begK (kyOf n l) l = true:=by
 cases l <;> simp [begK,kyOf]
theorem lstK_snoc (v:List Ky) (k:Ky):lstK (v ++ [k]) = k:=by simp [lstK]
theorem fls_one {y:Fo} (hy:chkY y = 0) {x:Fl} (hx:x ∈ flsL [] y):(1 ≤ x.p.length∧x.p.length ≤ 4)∧okNm x.p = true∧okNu x.p = true∧(x.p.all fun k=>k.h || decide (k.x = 0)) = true∧x.l.length ≤ 4∧badNs x.l = false∧begK (lstK x.p) x.l = true:=by
 have hg:=chk_okG hy
 obtain ⟨h1,⟨v,n,h2,h3⟩,h4,h5⟩:=fls_flok y [] hg x hx
 have hk:=fls_kyok y [] 0 hg (by simp) x hx
 refine ⟨⟨by rw [h2];simp,h1⟩,?_,?_,?_,h4,h5,by rw [h2,lstK_snoc];exact begK_kyOf n x.l⟩
 · simp only [okNm,List.all_eq_true];intro k h;have:=(hk k h).1;simp [this]
 · simp only [okNu,List.all_eq_true];intro k h;exact (hk k h).2.1
 · simp only [List.all_eq_true];intro k h;exact (hk k h).2.2
theorem dif_one {y x:Fo} (hy:chkY y = 0) (hx:chkY x = 0) {c:Ch} (hc:c ∈ difL y x):ckOne none c = 0:=by
 obtain ⟨h1,h2,h3⟩:=(dif_mem hy hx).1 hc
 obtain ⟨p,had,has,old,new⟩:=c
 simp only [chR,Ch.mk.injEq,true_and] at h3 h1 h2
 obtain ⟨rfl,rfl,rfl,rfl⟩:=h3
 have key:∀ p,(∃ z,(z ∈ flsL [] y ∨ z ∈ flsL [] x)∧z.p = p)→(1 ≤ p.length∧p.length ≤ 4)∧okNm p = true∧okNu p = true∧(p.all fun k=>k.h || decide (k.x = 0)) = true:=by
  rintro p ⟨z,hz | hz,rfl⟩
  · have:=fls_one hy hz;exact ⟨this.1,this.2.1,this.2.2.1,this.2.2.2.1⟩
  · have:=fls_one hx hz;exact ⟨this.1,this.2.1,this.2.2.1,this.2.2.2.1⟩
 have kp:=key p (by
  rcases h1 with h | h
  · obtain ⟨z,hz,e⟩:=List.mem_map.1 h;exact ⟨z, .inl hz,e⟩
  · obtain ⟨z,hz,e⟩:=List.mem_map.1 h;exact ⟨z, .inr hz,e⟩)
 obtain ⟨k1,k2,k3,k4⟩:=kp
 have side:∀ {q:Fo},chkY q = 0→((rfd (flsL [] q) p).getD fl0).l.length ≤ 4∧badNs ((rfd (flsL [] q) p).getD fl0).l = false∧((rfd (flsL [] q) p).isSome = true→begK (lstK p) ((rfd (flsL [] q) p).getD fl0).l = true)∧((rfd (flsL [] q) p).isSome = false→((rfd (flsL [] q) p).getD fl0).l = []):=by
  intro q hq
  cases hr:rfd (flsL [] q) p with
  | none=>exact ⟨by simp [fl0],by simp [fl0,badNs],by simp,by simp [fl0]⟩
  | some z=>
    obtain ⟨m1,m2⟩:=rfd_some hr
    have:=fls_one hq m1
    rw [m2] at this
    exact ⟨this.2.2.2.2.1,this.2.2.2.2.2.1,fun _=>this.2.2.2.2.2.2,by simp⟩
 obtain ⟨a1,a2,a3,a4⟩:=side hy
 obtain ⟨b1,b2,b3,b4⟩:=side hx
 have hrt:rtC ⟨p,(rfd (flsL [] y) p).isSome,(rfd (flsL [] x) p).isSome,((rfd (flsL [] y) p).getD fl0).l,((rfd (flsL [] x) p).getD fl0).l⟩ (lstK p) = true:=by
  unfold rtC
  have hor:(rfd (flsL [] y) p).isSome = true ∨ (rfd (flsL [] x) p).isSome = true:=by
   rcases h1 with h | h
   · exact .inl (rfd_iff.2 h)
   · exact .inr (rfd_iff.2 h)
  have hne:eqR (flsL [] y) (flsL [] x) p = false:=h2
  unfold eqR at hne
  simp only
  rw [if_neg,if_neg,if_neg]
  · cases h7:rfd (flsL [] y) p with
    | none=>simp
    | some u=>
      cases h8:rfd (flsL [] x) p with
      | none=>simp
      | some v=>rw [h7,h8] at hne;simpa using hne
  · rw [k4];simp
  · cases h7:(rfd (flsL [] y) p).isSome <;> cases h8:(rfd (flsL [] x) p).isSome <;> simp [h7,h8,a3,b3]
  · cases h7:(rfd (flsL [] y) p).isSome <;> cases h8:(rfd (flsL [] x) p).isSome
    · rw [h7,h8] at hor;simp at hor
    · rw [a4 h7];simp
    · rw [b4 h8];simp
    · simp
 unfold ckOne
 simp only
 rw [if_neg (by simp [inB];omega),if_neg (by rw [k2];simp),if_neg (by simp;omega),if_neg (by rw [k3,a2,b2];simp),if_neg (by rw [hrt];simp),if_neg (by simp [behB])]
theorem dif_len {y x:Fo} (hy:chkY y = 0) (hx:chkY x = 0):(difL y x).length ≤ 120:=by
 rw [(difL_eq hy hx).2,dfF_eq (fls_srt hy) (fls_srt hx),List.length_map]
 have h1:=List.length_filter_le (fun p=>!eqR (flsL [] y) (flsL [] x) p) (pthsF [flsL [] y,flsL [] x])
 have h2:=pths_len (ls:=[flsL [] y,flsL [] x])
 simp only [List.flatten_cons,List.flatten_nil,List.append_nil,List.length_append] at h2
 have h3:=(fls_ok hy).2.2
 have h4:=(fls_ok hx).2.2
 omega
theorem dif_ck {y x:Fo} (hy:chkY y = 0) (hx:chkY x = 0):ckC (difL y x) = 0:=by
 unfold ckC
 rw [if_neg (by have:=dif_len hy hx;omega)]
 exact ckL_of _ none (fun c hc=>dif_one hy hx hc) (dif_srt hy hx) (fun r hr=>by cases hr)
end Go.Proofs.LF
namespace Go.Proofs.LF
open Go.RowKit Go.Sort
set_option maxHeartbeats 4000000
set_option maxRecDepth 100000
attribute [local go_sem] bs_toList bs_size bs_get
def DropR (y:Fo) (q:List Ky) (w:World) (e:Ending) (w':World):Prop:=
 ∃ a c,e = .returned (.tuple #[.slice a (dropY y q).len c, .int .i64 (dropE y q)])∧FSl (Rg w.heap.size w'.heap.size) w' (.slice a (dropY y q).len c) (dropY y q)∧Below w.heap.size w w'
theorem DropR.bad {y:Fo} {q:List Ky} {w w':World} {x:Int} (hx:dropE y q = x) (h0:x ≠ 0) (hb:Below w.heap.size w w'):DropR y q w (.returned (.tuple #[.slice none 0 0, .int .i64 x])) w':=by
 subst hx
 have h1:dropY y q = .nil:=by rw [dropY,if_neg h0]
 unfold DropR
 rw [h1]
 exact ⟨none,0,rfl,⟨[],⟨rfl,_,0,rfl,nl_ _,by simp [maxLen],fun _=>rfl, .inl rfl⟩,rfl⟩,hb⟩
end Go.Proofs.LF
namespace Go.Proofs.LF
open Go.RowKit Go.Sort
theorem LCs.part {α:Type} {k:Nat} {r:Rd α k} {S:Nat→Prop} {w:World}:∀ {xs ys:List α} {cs:List Value},LCs r S w (xs ++ ys) cs→∃ c d,cs = c ++ d∧LCs r S w xs c∧LCs r S w ys d
 | [],_,cs,h=>⟨[],cs,rfl,rfl,h⟩
 | x :: xs,ys,cs,⟨c,ds,h1,h2,h3⟩=>by
   obtain ⟨c',d',h4,h5,h6⟩:=LCs.part (xs:=xs) (ys:=ys) h3
   exact ⟨c ++ c',d',by rw [h1,h4,List.append_assoc],⟨c,c',rfl,h2,h5⟩,h6⟩
end Go.Proofs.LF
namespace Go.Proofs.LF
open Go.RowKit Go.Sort
set_option maxHeartbeats 4000000
set_option maxRecDepth 100000
attribute [local go_sem] bs_toList bs_size bs_get
theorem Back_d (l:List Ch) (al:Option Addr) (cl:Nat) (S:Nat→Prop) (w:World) (hv:ChSl S w (.slice al l.length cl) l) (hS:∀ b,S b→b < w.heap.size) (hl:l.length ≤ 1000) (hsm:SmCh l) :
 Calls Tryz.prog 72 #[.slice al l.length cl] w fun e w'=>∃ a c cs,e = .returned (.tuple #[.slice a (backL l).length c, .int .i64 (ckC l)])∧SlC (US (Rg w.heap.size w'.heap.size) w') w' 5 (.slice a (backL l).length c) (backL l).length cs∧LCsD w'.heap.size (Rx w.heap.size w'.heap.size (.slice a (backL l).length c)) w' (backL l) cs∧Below w.heap.size w w':=by
 obtain ⟨i0,hi0,hz0,hz1,hz2⟩:=info_parts Tryz.info68'
 have CK:=hid (CheckChanges_any l al cl S w hv hS hl hsm)
 obtain ⟨al',cl',ee,_,hcm,hat⟩:=LSl.at hv
 obtain ⟨rfl,rfl⟩:al = al'∧cl = cl':=by cases ee;exact ⟨rfl,rfl⟩
 have HAT:=hid hat
 have HS:=hid hS
 have HSM:=hid hsm
 unfold maxLen at hcm
 clear hv hS hsm ee hat
 go_enter Tryz.func72,Tryz.ntmps72
 go_wp2_with fail
 refine CK.out.mono ?_
 rintro e w1 ⟨rfl,hb1⟩
 by_cases he:¬ ckC l = 0
 · have he':(ckC l != 0) = true:=by simpa using he
   have HE:=hid he
   have HB1:=hid hb1
   clear he hb1
   go_wp2_with fail
   have hbl:backL l = []:=by rw [backL,if_neg HE.out]
   refine bodyPost_ret (v := .tuple #[.slice none 0 0, .int .i64 (ckC l)]) (by simp [results,Tryz.results72,go_sem]) rfl ?_
   rw [hbl]
   exact ⟨none,0,[],rfl,⟨rfl,none,0,rfl,nl_ _,by simp [maxLen],fun _=>rfl, .inl rfl⟩,LCsD.nil _ _ _,HB1.out⟩
 have he:ckC l = 0:=by omega
 have hl120:l.length ≤ 120:=by
  rw [ckC] at he
  split at he
  · cases he
  · omega
 have hbl:backL l = l.map turnC:=by rw [backL,if_pos he]
 have HE:=hid he
 have HBL:=hid hbl
 have HB1:=hid hb1
 have hz1':=hb1.size
 rw [he]
 clear he hbl hb1
 go_wp2_with fail
 go_loopw [5,15] (fun v i wr=>∃ (k:Nat) (cs:List Value),k ≤ l.length∧i = .int .i64 k∧wr.ownsRow w1.heap.size 68 5 v ((l.take k).map turnC).length cs∧Hid (LCsD wr.heap.size (Rx w1.heap.size wr.heap.size v) wr ((l.take k).map turnC) cs)∧Hid (Below w1.heap.size w1 wr)) (fun _ i _=>l.length - (intOf i).toNat)
 case atStart=>exact ⟨0,[],by omega,rfl,World.ownsRow_nil _ _ _ _,LCsD.nil _ _ _,Below.refl _ _⟩
 case round=>
  obtain ⟨k,cs,hk,rfl,hown,hlc,HB⟩:=hrel
  have hzr:=HB.out.size
  by_cases hlt:k < l.length
  · have hlt':(k:Int) < (l.length:Int):=by omega
    obtain ⟨g,o,cs1,rfl,hg,⟨ap,cp,ao,co,an,cn,rfl,hP,hO,hN⟩,hcl⟩:=HAT.out k hlt
    have hbw:=HB1.out.trans (HB.out.mono hz1')
    have hag:=Ag_b (S:=S) hbw HS.out
    have c0:=hag.cell hg (hcl 0 _ rfl)
    have c1:=hag.cell hg (hcl 1 _ rfl)
    have c2:=hag.cell hg (hcl 2 _ rfl)
    have c3:=hag.cell hg (hcl 3 _ rfl)
    have c4:=hag.cell hg (hcl 4 _ rfl)
    rw [Nat.add_zero] at c0
    simp only [← Nat.add_assoc] at c1 c2 c3 c4
    have hsm:=HSM.out l[k] (List.getElem_mem hlt)
    have htk:l.take (k + 1) = l.take k ++ [l[k]]:=List.take_succ_eq_append_getElem hlt
    obtain ⟨x,hx⟩:∃ x,l[k] = x:=⟨_,rfl⟩
    rw [hx] at hP hO hN c0 c1 c2 c3 c4 hsm htk
    have hll:((l.take k).map turnC).length ≤ 120:=by rw [List.length_map,List.length_take];omega
    obtain ⟨W4,hW4⟩:∃ W4,wr.alloc (.cells #[.slice ap x.p.length cp, .bool x.had, .bool x.has, .slice ao x.old.length co, .slice an x.new.length cn] 68) = W4:=⟨_,rfl⟩
    have hz4:W4.heap.size = wr.heap.size + 1:=by rw [← hW4];simp
    have hb4:Below wr.heap.size wr W4:=by rw [← hW4];exact (Below.refl _ _).alloc (nl_ _) _
    have hnb:W4.heap[wr.heap.size]? = some (.cells #[.slice ap x.p.length cp, .bool x.had, .bool x.has, .slice ao x.old.length co, .slice an x.new.length cn] 68 (0,0)):=by rw [← hW4];exact heap_alloc_new _ _
    have d0:=cg_ hnb (k:=0) rfl
    have d1:=cg_ hnb (k:=1) rfl
    have d2:=cg_ hnb (k:=2) rfl
    have d3:=cg_ hnb (k:=3) rfl
    have d4:=cg_ hnb (k:=4) rfl
    have hag4:Agree S w W4:=Ag_b (hbw.trans (hb4.mono (by omega))) HS.out
    have TC:=hid (turned_u x ap ao an cp co cn S W4 (hP.agree hag4) (hO.agree hag4) (hN.agree hag4) (fun b hb=>by have:=HS.out b hb;omega) hsm.1 hsm.2.2.1 hsm.2.2.2)
    have how4:=ob_ hown hb4 (nl_ _)
    have hlc4:Hid (LCsD W4.heap.size (Rx w1.heap.size W4.heap.size u5) W4 ((l.take k).map turnC) cs):=((hlc.out.agree (fun b hb=>hb4.block b hb.2.1)).wide fun b hb=>⟨hb.1,by have:=hb.2.1;omega,hb.2.2⟩).bound fun b hb=>hb.2.1
    have HB4:=hid (HB.out.trans (hb4.mono hzr))
    have HTK:=hid htk
    have HW4:=hid hW4
    have S2:=hid hsm
    clear hcl hP hO hN hx hag hag4 hbw hnb hb4 hW4 htk hsm hlc
    go_wp2_with (rw [HW4.out])
    clear c0 c1 c2 c3 c4 d0 d1 d2 d3 d4
    refine TC.out.mono ?_
    rintro e w8 ⟨ap1,cp1,ao1,co1,an1,cn1,rfl,hp8,hn8,ho8,hb8⟩
    have hz8:=hb8.size
    have how8:=ob_ how4 hb8 (nl_ _)
    have HB8:=hid hb8
    have HP8:=hid hp8
    have HN8:=hid hn8
    have HO8:=hid ho8
    clear hb8 hp8 hn8 ho8
    have hlen:((l.take k).map turnC).length = k:=by rw [List.length_map,List.length_take];omega
    have hz8':w1.heap.size ≤ w8.heap.size:=by omega
    go_wp2_with (at_builtin;refine (wpList_append_ao _ rfl _ _ _ rfl w1.heap.size 68 i0 _ 5 80 Tryz.underlying62 hi0 hz0 hz1 hz2 rfl (by omega) u5 ((l.take k).map turnC).length cs rfl (how8.alloc _) (some ⟨w8.heap.size,0,none⟩) 1 1 [.slice ap1 x.p.length cp1, .bool x.has, .bool x.had, .slice an1 x.new.length cn1, .slice ao1 x.old.length co1] rfl rfl (fun h=>by cases h) (fun ad had=>by cases had;exact World.news_of_block (cs:=#[.slice ap1 x.p.length cp1, .bool x.has, .bool x.had, .slice an1 x.new.length cn1, .slice ao1 x.old.length co1]) (t:=68) (fr:=(0,0)) (heap_alloc_new _ _)) (by simp [Value.oneCell']) (by unfold maxLen;omega) (by omega) (by simp;omega) ?_);intro a11 c11 w11 hown11 hgrow11 hat11)
    have hfm:(l.take (k + 1)).map turnC = (l.take k).map turnC ++ [turnC x]:=by rw [HTK.out,List.map_append];rfl
    have HFM:=hid hfm
    clear hfm
    have hbW:Below W4.heap.size W4 (w8.alloc (.cells #[.slice ap1 x.p.length cp1, .bool x.has, .bool x.had, .slice an1 x.new.length cn1, .slice ao1 x.old.length co1] 68)):=HB8.out.alloc (by omega) _
    obtain ⟨g11,cap11,he11,hg11,hlt11⟩:=hown11.form (by omega)
    cases he11
    have hl37:w1.heap.size ≤ W4.heap.size:=by omega
    have st:Step w1.heap.size W4 (w8.alloc (.cells #[.slice ap1 x.p.length cp1, .bool x.has, .bool x.had, .slice an1 x.new.length cn1, .slice ao1 x.old.length co1] 68)) w11 u5 g11:=⟨hbW,⟨hgrow11.os,hgrow11.tape,hgrow11.output,hgrow11.size,hgrow11.block⟩,hl37,fun b hb=>how4.lt b hb,hat11 g11 rfl,hlt11⟩
    have hv':(Value.slice (some ⟨g11,0,none⟩) (((l.take k).map turnC).length + 1) c11).ownBlock = some g11:=rfl
    have n1:=st.keep (Stable.lcsD _ _ _) hv' hlc4.out
    have n2:=st.lift2 (p:=W4.heap.size) (q:=w8.heap.size) (Stable.pthu _ _) hv' HP8.out (nl_ _) (by simp) ((Below.refl _ _).alloc (nl_ _) _)
    have n3:=st.lift2 (p:=W4.heap.size) (q:=w8.heap.size) (Stable.intu _ _) hv' HN8.out (nl_ _) (by simp) ((Below.refl _ _).alloc (nl_ _) _)
    have n4:=st.lift2 (p:=W4.heap.size) (q:=w8.heap.size) (Stable.intu _ _) hv' HO8.out (nl_ _) (by simp) ((Below.refl _ _).alloc (nl_ _) _)
    have n5:=st.out HB4.out
    have n6:Hid (LCsD w11.heap.size (Rx w1.heap.size w11.heap.size (.slice (some ⟨g11,0,none⟩) (((l.take k).map turnC).length + 1) c11)) w11 ((l.take k).map turnC ++ [turnC x]) (cs ++ [.slice ap1 x.p.length cp1, .bool x.has, .bool x.had, .slice an1 x.new.length cn1, .slice ao1 x.old.length co1])):=
     n1.snoc ⟨ap1,cp1,an1,cn1,ao1,co1,rfl,n2,n3,n4⟩ fun b hb=>hb.2.1
    clear n1 n2 n3 n4 st hbW
    go_wp2_with fail
    go_roundw
    case rel=>exact ⟨k + 1,_,by omega,by go_num,by rw [HFM.out,List.length_append];have h11:=hown11;rw [hlen] at h11 ⊢;exact h11,by rw [HFM.out];have h16:=n6;rw [hlen] at h16;exact h16,n5⟩
    case measure=>simp [intOf];omega
  · obtain rfl:k = l.length:=by omega
    have hlt':¬ (l.length:Int) < (l.length:Int):=by omega
    go_wp2_with fail
    obtain ⟨a9,c9,rfl,_,_⟩:=owns_shape hown
    rw [List.take_length] at hown hlc ⊢
    refine bodyPost_ret (v := .tuple #[.slice a9 (l.map turnC).length c9, .int .i64 0]) (by simp [results,Tryz.results72,go_sem]) rfl ?_
    rw [HBL.out,HE.out]
    refine ⟨a9,c9,rfl,?_⟩
    exact ⟨cs,SlC.wide (SlC.of_owns_u hown) (US.wide fun b hb=>⟨by have:=hb.1;omega,hb.2⟩),(hlc.out.wide fun b hb=>⟨by have:=hb.1;omega,hb.2.1,hb.2.2⟩).bound fun b hb=>hb.2.1,HB1.out.trans (HB.out.mono hz1')⟩
end Go.Proofs.LF
namespace Go.Proofs.LF
open Go.RowKit Go.Sort
set_option maxHeartbeats 4000000
set_option maxRecDepth 100000
attribute [local go_sem] bs_toList bs_size bs_get
theorem Same_any (p q:List Ky) (ap aq:Option Addr) (cp cq:Nat) (S:Nat→Prop) (w:World) (hp:Pth S w (.slice ap p.length cp) p) (hq:Pth S w (.slice aq q.length cq) q) (lp:p.length ≤ 100000) (lq:q.length ≤ 100000) :
 Calls Tryz.prog 73 #[.slice ap p.length cp, .slice aq q.length cq] w fun e w'=>e = .returned (.bool (decide (p = q)))∧Below w.heap.size w w':=by
 by_cases hne:p.length = q.length
 · have hne':((p.length:Int) != (q.length:Int)) = false:=by simp;omega
   have HN:=hid hne
   clear hne
   go_enter Tryz.func73,Tryz.ntmps73
   go_wp2_with fail
   go_loopw [5] (fun i wr=>∃ (k d:Nat),k ≤ p.length∧i = .int .i64 k∧wr = w.drewN d∧Hid (p.take k = q.take k)) (fun i _=>p.length - (intOf i).toNat)
   case atStart=>exact ⟨0,0,by omega,rfl,rfl,by simp [Hid]⟩
   case round=>
    obtain ⟨k,d,hk,rfl,rfl,H2⟩:=hrel
    by_cases hlt:k < p.length
    · obtain ⟨g,o,rfl,_,_,_,hcell⟩:=SlC.cells hp (by omega)
      obtain ⟨g',o',rfl,_,_,_,hcell'⟩:=SlC.cells hq (by have:=HN.out;omega)
      have hlt':k < q.length:=by have:=HN.out;omega
      obtain ⟨k0,k1,k2⟩:=key_cells hlt
      obtain ⟨k0',k1',k2'⟩:=key_cells hlt'
      have c0:=hcell _ _ k0
      have c1:=hcell _ _ k1
      have c2:=hcell _ _ k2
      have d0:=hcell' _ _ k0'
      have d1:=hcell' _ _ k1'
      have d2:=hcell' _ _ k2'
      rw [← Nat.add_assoc] at c1 c2 d1 d2
      have htp:p.take (k + 1) = p.take k ++ [p[k]]:=List.take_succ_eq_append_getElem hlt
      have htq:q.take (k + 1) = q.take k ++ [q[k]]:=List.take_succ_eq_append_getElem hlt'
      obtain ⟨a,ha⟩:∃ a,p[k] = a:=⟨_,rfl⟩
      obtain ⟨b,hb⟩:∃ b,q[k] = b:=⟨_,rfl⟩
      have HA:=hid ha
      have HB:=hid hb
      rw [ha] at c0 c1 c2 htp
      rw [hb] at d0 d1 d2 htq
      have HTP:=hid htp
      have HTQ:=hid htq
      clear hcell hcell' k0 k1 k2 k0' k1' k2' htp htq ha hb
      have i1:(0:Int) ≤ (k:Int):=by omega
      have i2:(k:Int) < (p.length:Int):=by omega
      have i3:(k:Int) < (q.length:Int):=by omega
      by_cases he:a = b
      · subst he
        go_wp2_with fail
        go_quiet (fail)
        go_wp2_with fail
        go_roundw
        case rel=>exact ⟨k + 1,_,by omega,by go_num,rfl,by rw [Hid,HTP.out,HTQ.out,H2.out]⟩
        case measure=>simp [intOf];omega
      · have hdec:(a.n == b.n && (a.h == b.h && a.x == b.x)) = false:=by rw [← ky_beq];simp [he]
        have HE:=hid he
        have HDEC:=hid hdec
        clear he hdec
        cases hn:(a.n == b.n) <;> cases hh:(a.h == b.h) <;> cases hx:(a.x == b.x)
        all_goals first
         | (exfalso;have:=HDEC.out;rw [hn,hh,hx] at this;cases this;done)
         | (go_wp2_with fail
            go_quiet (fail)
            go_wp2_with fail
            go_ret
            refine ⟨ret_bool ?_,below_drewN (below_drewN (Below.refl _ _) _) _⟩
            symm
            rw [decide_eq_false_iff_not]
            rintro rfl
            exact HE.out (HA.out.symm.trans HB.out))
    · go_wp2_with fail
      go_ret
      obtain rfl:k = p.length:=by omega
      refine ⟨ret_bool ?_,below_drewN (Below.refl _ _) _⟩
      symm
      have:=H2.out
      rw [List.take_length,HN.out,List.take_length] at this
      exact decide_eq_true this
 · have hne':((p.length:Int) != (q.length:Int)) = true:=by simp;omega
   have HN:=hid hne
   clear hne
   go_enter Tryz.func73,Tryz.ntmps73
   go_wp2_with fail
   go_ret
   refine ⟨ret_bool ?_,Below.refl _ _⟩
   symm
   rw [decide_eq_false_iff_not]
   rintro rfl
   exact HN.out rfl
end Go.Proofs.LF
namespace Go.Proofs.LF
open Go.RowKit Go.Sort
set_option maxHeartbeats 4000000
set_option maxRecDepth 100000
attribute [local go_sem] bs_toList bs_size bs_get
theorem enters165:Enters 165:=by intro args W;simp [go_sem]
theorem cmp165g (x y:Fl) (ap aq an am:Option Addr) (cp cq ln cn lm cm:Nat) (S:Nat→Prop) (w:World) (hp:Pth S w (.slice ap x.p.length cp) x.p) (hq:Pth S w (.slice aq y.p.length cq) y.p) (hS:∀ b,S b→b < w.heap.size) (lp:x.p.length ≤ 1000) (lq:y.p.length ≤ 1000) :
 Calls Tryz.prog 165 #[.agg #[.slice ap x.p.length cp, .slice an ln cn], .agg #[.slice aq y.p.length cq, .slice am lm cm]] w fun e w'=>e = .returned (.int .i64 (cmpP x.p y.p))∧Grw w w':=by
 obtain ⟨vn,hvn⟩:∃ vn,Value.slice an ln cn = vn:=⟨_,rfl⟩
 obtain ⟨vm,hvm⟩:∃ vm,Value.slice am lm cm = vm:=⟨_,rfl⟩
 have hA:=(Below.refl w.heap.size w).alloc (nl_ _) (.cells #[.slice ap x.p.length cp, .slice an ln cn] 171)
 have hbA:=heap_alloc_new w (.cells #[.slice ap x.p.length cp, .slice an ln cn] 171)
 obtain ⟨wA,hwA⟩:∃ wA,w.alloc (.cells #[.slice ap x.p.length cp, .slice an ln cn] 171) = wA:=⟨_,rfl⟩
 have hzA:wA.heap.size = w.heap.size + 1:=by rw [← hwA];simp
 rw [hwA] at hA hbA
 have hB:=(Below.refl wA.heap.size wA).alloc (nl_ _) (.cells #[.slice aq y.p.length cq, .slice am lm cm] 171)
 have hbB:=heap_alloc_new wA (.cells #[.slice aq y.p.length cq, .slice am lm cm] 171)
 obtain ⟨wB,hwB⟩:∃ wB,wA.alloc (.cells #[.slice aq y.p.length cq, .slice am lm cm] 171) = wB:=⟨_,rfl⟩
 rw [hwB] at hB hbB
 have hAB:=hA.trans (hB.mono (by omega))
 have hbA2:wB.heap[w.heap.size]? = some (.cells #[.slice ap x.p.length cp, .slice an ln cn] 171 (0,0)):=(hB.block w.heap.size (by omega)).trans hbA
 have c0:=cg_ hbA2 (k:=0) rfl
 rw [hzA] at hbB
 have d0:=cg_ hbB (k:=0) rfl
 have hc:=byPath_g x.p y.p ap aq cp cq S wB (hp.agree (Ag_b hAB hS)) (hq.agree (Ag_b hAB hS)) (fun b hb=>Nat.lt_of_lt_of_le (hS b hb) hAB.size) lp lq
 have HC:=hid hc
 have HG:Hid (Grw w wB):=by
  rw [← hwB,← hwA]
  exact ((Grw.refl w).alloc _).alloc _
 have HAB:=hid hAB
 have HWA:=hid hwA
 have HWB:=hid hwB
 clear hp hq hS hA hbA hB hbB hbA2 hc hAB hwA hwB hvn hvm
 go_enter Tryz.func165,Tryz.ntmps165
 go_wp2_with (rw [HWA.out,HWB.out])
 refine HC.out.mono ?_
 rintro e w1 ⟨rfl,hb1⟩
 go_wp2_with fail
 go_ret
 exact ⟨rfl,HG.out.trans hb1⟩
end Go.Proofs.LF
namespace Go.Proofs.LF
open Go.RowKit Go.Sort
set_option maxHeartbeats 4000000
set_option maxRecDepth 100000
attribute [local go_sem] bs_toList bs_size bs_get
theorem dupK_c (l:List Ky) (an:Option Addr) (cn:Nat) (S:Nat→Prop) (w:World) (hl:Pth S w (.slice an l.length cn) l) (hS:∀ b,S b→b < w.heap.size) (hlen:l.length ≤ 1000) :
 Calls Tryz.prog 50 #[.slice an l.length cn] w fun e w'=>∃ a c,e = .returned (.slice a l.length c)∧Pth (Rg w.heap.size w'.heap.size) w' (.slice a l.length c) l∧Below w.heap.size w w':=
 (dupK_own l an cn S w hl hS hlen).mono fun _ _ ⟨a,c,he,h1,hb⟩=>⟨a,c,he,SlC.of_owns h1,hb⟩
theorem copied_any (l:List Ch) (al:Option Addr) (cl:Nat) (S:Nat→Prop) (w:World) (hv:ChSl S w (.slice al l.length cl) l) (hS:∀ b,S b→b < w.heap.size) (hl:l.length ≤ 1000) (hsm:∀ x ∈ l,x.p.length ≤ 1000∧x.old.length ≤ 1000∧x.new.length ≤ 1000) :
 Calls Tryz.prog 64 #[.slice al l.length cl] w fun e w'=>∃ a c,e = .returned (.slice a l.length c)∧ChSl (Rg w.heap.size w'.heap.size) w' (.slice a l.length c) l∧Below w.heap.size w w':=by
 obtain ⟨i0,hi0,hz0,hz1,hz2⟩:=info_parts Tryz.info68'
 obtain ⟨al',cl',ee,_,hcm,hat⟩:=LSl.at hv
 obtain ⟨rfl,rfl⟩:al = al'∧cl = cl':=by cases ee;exact ⟨rfl,rfl⟩
 have HAT:=hid hat
 have HS:=hid hS
 have HSM:=hid hsm
 unfold maxLen at hcm
 clear hv hS hsm ee hat
 go_enter Tryz.func64,Tryz.ntmps64
 go_wp2_with fail
 go_loopw [3,8] (fun v i wr=>∃ (k:Nat) (cs:List Value),k ≤ l.length∧i = .int .i64 k∧wr.ownsRow w.heap.size 68 5 v k cs∧Hid (LCs rdCh (Rx w.heap.size wr.heap.size v) wr (l.take k) cs)∧Hid (Below w.heap.size w wr)) (fun _ i _=>l.length - (intOf i).toNat)
 case atStart=>exact ⟨0,[],by omega,rfl,World.ownsRow_nil _ _ _ _,rfl,Below.refl _ _⟩
 case round=>
  obtain ⟨k,cs,hk,rfl,hown,hlc,HB⟩:=hrel
  have hzr:=HB.out.size
  by_cases hlt:k < l.length
  · have hlt':(k:Int) < (l.length:Int):=by omega
    obtain ⟨g,o,cs1,rfl,hg,⟨ap,cp,ao,co,an,cn,rfl,hP,hO,hN⟩,hcl⟩:=HAT.out k hlt
    have hag:=Ag_b (S:=S) HB.out HS.out
    have c0:=hag.cell hg (hcl 0 _ rfl)
    have c1:=hag.cell hg (hcl 1 _ rfl)
    have c2:=hag.cell hg (hcl 2 _ rfl)
    have c3:=hag.cell hg (hcl 3 _ rfl)
    have c4:=hag.cell hg (hcl 4 _ rfl)
    rw [Nat.add_zero] at c0
    simp only [← Nat.add_assoc] at c1 c2 c3 c4
    have hsm:=HSM.out l[k] (List.getElem_mem hlt)
    have htk:l.take (k + 1) = l.take k ++ [l[k]]:=List.take_succ_eq_append_getElem hlt
    obtain ⟨x,hx⟩:∃ x,l[k] = x:=⟨_,rfl⟩
    rw [hx] at hP hO hN c0 c1 c2 c3 c4 hsm htk
    obtain ⟨W4,hW4⟩:∃ W4,wr.alloc (.cells #[.slice ap x.p.length cp, .bool x.had, .bool x.has, .slice ao x.old.length co, .slice an x.new.length cn] 68) = W4:=⟨_,rfl⟩
    have hz4:W4.heap.size = wr.heap.size + 1:=by rw [← hW4];simp
    have hb4:Below wr.heap.size wr W4:=by rw [← hW4];exact (Below.refl _ _).alloc (nl_ _) _
    have hnb:W4.heap[wr.heap.size]? = some (.cells #[.slice ap x.p.length cp, .bool x.had, .bool x.has, .slice ao x.old.length co, .slice an x.new.length cn] 68 (0,0)):=by rw [← hW4];exact heap_alloc_new _ _
    have hag4:=Ag_b (S:=S) (HB.out.trans (hb4.mono hzr)).drew HS.out
    have PA:=hid (dupK_c x.p ap cp S W4.drew (hP.agree hag4) (fun b hb=>by have:=HS.out b hb;show b < W4.heap.size;omega) hsm.1)
    have hS0:W4.drew.cell? ⟨wr.heap.size,0,none⟩ = some (.slice ap x.p.length cp)∧W4.drew.cell? ⟨wr.heap.size,1,none⟩ = some (.bool x.had)∧W4.drew.cell? ⟨wr.heap.size,2,none⟩ = some (.bool x.has)∧W4.drew.cell? ⟨wr.heap.size,3,none⟩ = some (.slice ao x.old.length co)∧W4.drew.cell? ⟨wr.heap.size,4,none⟩ = some (.slice an x.new.length cn):=⟨cg_ hnb (k:=0) rfl,cg_ hnb (k:=1) rfl,cg_ hnb (k:=2) rfl,cg_ hnb (k:=3) rfl,cg_ hnb (k:=4) rfl⟩
    have how4:=ob_ hown hb4.drew (nl_ _)
    have HLC4:Hid (LCs rdCh (Rx w.heap.size W4.heap.size u3) W4 (l.take k) cs):=(hlc.out.agree (fun b hb=>hb4.block b hb.2.1)).wide fun b hb=>⟨hb.1,by have:=hb.2.1;omega,hb.2.2⟩
    have HO4:=hid (hO.agree hag4)
    have HN4:=hid (hN.agree hag4)
    have HSM1:=hid hsm
    have HTK:=hid htk
    have HS0:=hid hS0
    have HW4:=hid hW4
    have HB4:=hid (HB.out.trans (hb4.mono hzr))
    have hw4:wr.heap.size < W4.heap.size:=by omega
    have hul:∀ b,u3.ownBlock = some b→w.heap.size ≤ b∧b < wr.heap.size:=fun b hb=>hown.lt b hb
    have HUL:=hid hul
    have hkb:k ≤ 1000:=by omega
    clear hcl hP hO hN hx hag hag4 htk hsm hS0 hW4 hb4 hnb hz4 hlc hown hul
    go_upto_region 5 with (rw [HW4.out])
    try rw [HW4.out]
    clear c0 c1 c2 c3 c4
    refine (wpIn_wide (n:=9)).1 ?_
    refine region_held (fun w':World=>w'.cell? ⟨wr.heap.size,0,none⟩ = some (.slice ap x.p.length cp)∧w'.cell? ⟨wr.heap.size,1,none⟩ = some (.bool x.had)∧w'.cell? ⟨wr.heap.size,2,none⟩ = some (.bool x.has)∧w'.cell? ⟨wr.heap.size,3,none⟩ = some (.slice ao x.old.length co)∧w'.cell? ⟨wr.heap.size,4,none⟩ = some (.slice an x.new.length cn)) (by kernel_rfl) ?_
    have hS0:=HS0.out
    refine tkY 0 12 (u3) rfl rfl hS0 (fun w' hs=>?_) ?_
    · go_simp
    refine tkY 1 13 (.pointer (some ⟨wr.heap.size,0,none⟩)) rfl rfl hS0 (fun w' hs=>?_) ?_
    · go_simp
    refine tkY 2 14 (.slice ap x.p.length cp) rfl rfl hS0 (fun w' hs=>?_) ?_
    · obtain ⟨y0,y1,y2,y3,y4⟩:=hs
      go_simp
    refine tkY 4 16 (.pointer (some ⟨wr.heap.size,1,none⟩)) rfl rfl hS0 (fun w' hs=>?_) ?_
    · go_simp
    refine tkY 5 17 (.bool x.had) rfl rfl hS0 (fun w' hs=>?_) ?_
    · obtain ⟨y0,y1,y2,y3,y4⟩:=hs
      go_simp
    refine tkY 6 18 (.pointer (some ⟨wr.heap.size,2,none⟩)) rfl rfl hS0 (fun w' hs=>?_) ?_
    · go_simp
    refine tkY 7 19 (.bool x.has) rfl rfl hS0 (fun w' hs=>?_) ?_
    · obtain ⟨y0,y1,y2,y3,y4⟩:=hs
      go_simp
    refine tkY 8 20 (.pointer (some ⟨wr.heap.size,3,none⟩)) rfl rfl hS0 (fun w' hs=>?_) ?_
    · go_simp
    refine tkY 9 21 (.slice ao x.old.length co) rfl rfl hS0 (fun w' hs=>?_) ?_
    · obtain ⟨y0,y1,y2,y3,y4⟩:=hs
      go_simp
    refine tkY 11 23 (.pointer (some ⟨wr.heap.size,4,none⟩)) rfl rfl hS0 (fun w' hs=>?_) ?_
    · go_simp
    refine tkY 12 24 (.slice an x.new.length cn) rfl rfl hS0 (fun w' hs=>?_) ?_
    · obtain ⟨y0,y1,y2,y3,y4⟩:=hs
      go_simp
    refine AnyH_one (i:=3) (by kernel_rfl) rfl (by kernel_rfl) (fun K hK=>?_)
    go_simp
    refine ⟨trivial,(callsIn_wide.2 PA.out).mono ?_⟩
    rintro e w5 ⟨ap1,cp1,rfl,hp5,hb5⟩
    have hz5:W4.heap.size ≤ w5.heap.size:=hb5.size
    have hS1:w5.cell? ⟨wr.heap.size,0,none⟩ = some (.slice ap x.p.length cp)∧w5.cell? ⟨wr.heap.size,1,none⟩ = some (.bool x.had)∧w5.cell? ⟨wr.heap.size,2,none⟩ = some (.bool x.has)∧w5.cell? ⟨wr.heap.size,3,none⟩ = some (.slice ao x.old.length co)∧w5.cell? ⟨wr.heap.size,4,none⟩ = some (.slice an x.new.length cn):=⟨bc_ hb5 hw4 hS0.1,bc_ hb5 hw4 hS0.2.1,bc_ hb5 hw4 hS0.2.2.1,bc_ hb5 hw4 hS0.2.2.2.1,bc_ hb5 hw4 hS0.2.2.2.2⟩
    have DO:=hid (dup_any x.old ao co S w5 (HO4.out.agree (Ag_b hb5 fun b hb=>by have:=HS.out b hb;show b < W4.heap.size;omega)) (fun b hb=>by have:=HS.out b hb;omega) HSM1.out.2.1)
    have HB5:=hid hb5
    have HP5:=hid hp5
    refine hK _ _ ⟨hS1,?_⟩
    clear hK hb5 hp5 hS0 PA
    refine AnyH_one (i:=10) (by kernel_rfl) rfl (by kernel_rfl) (fun K hK=>?_)
    go_simp
    refine ⟨trivial,(callsIn_wide.2 DO.out).mono ?_⟩
    rintro e w6 ⟨ao1,co1,rfl,ho6,hb6⟩
    have hz6:=hb6.size
    have hS2:w6.cell? ⟨wr.heap.size,0,none⟩ = some (.slice ap x.p.length cp)∧w6.cell? ⟨wr.heap.size,1,none⟩ = some (.bool x.had)∧w6.cell? ⟨wr.heap.size,2,none⟩ = some (.bool x.has)∧w6.cell? ⟨wr.heap.size,3,none⟩ = some (.slice ao x.old.length co)∧w6.cell? ⟨wr.heap.size,4,none⟩ = some (.slice an x.new.length cn):=⟨bc_ hb6 (by omega) hS1.1,bc_ hb6 (by omega) hS1.2.1,bc_ hb6 (by omega) hS1.2.2.1,bc_ hb6 (by omega) hS1.2.2.2.1,bc_ hb6 (by omega) hS1.2.2.2.2⟩
    have h56:=HB5.out.trans (hb6.mono hz5)
    have DN:=hid (dup_any x.new an cn S w6 (HN4.out.agree (Ag_b h56 fun b hb=>by have:=HS.out b hb;show b < W4.heap.size;omega)) (fun b hb=>by have:=HS.out b hb;omega) HSM1.out.2.2)
    have HB6:=hid hb6
    have HO6:=hid ho6
    refine hK _ _ ⟨hS2,?_⟩
    clear hK hb6 ho6 hS1 DO h56
    refine AnyH_one (i:=13) (by kernel_rfl) rfl (by kernel_rfl) (fun K hK=>?_)
    go_simp
    refine ⟨trivial,(callsIn_wide.2 DN.out).mono ?_⟩
    rintro e w7 ⟨an1,cn1,rfl,hn7,hb7⟩
    have hz7:=hb7.size
    have hS3:w7.cell? ⟨wr.heap.size,0,none⟩ = some (.slice ap x.p.length cp)∧w7.cell? ⟨wr.heap.size,1,none⟩ = some (.bool x.had)∧w7.cell? ⟨wr.heap.size,2,none⟩ = some (.bool x.has)∧w7.cell? ⟨wr.heap.size,3,none⟩ = some (.slice ao x.old.length co)∧w7.cell? ⟨wr.heap.size,4,none⟩ = some (.slice an x.new.length cn):=⟨bc_ hb7 (by omega) hS2.1,bc_ hb7 (by omega) hS2.2.1,bc_ hb7 (by omega) hS2.2.2.1,bc_ hb7 (by omega) hS2.2.2.2.1,bc_ hb7 (by omega) hS2.2.2.2.2⟩
    have h57:Below W4.heap.size W4.drew w7:=HB5.out.trans ((HB6.out.trans (hb7.mono hz6)).mono hz5)
    have HB7:=hid hb7
    have HN7:=hid hn7
    have H57:=hid h57
    refine hK _ _ ⟨hS3,?_⟩
    clear hK hb7 hn7 hS2 DN h57
    refine tkY 14 26 (.agg #[.slice ap1 x.p.length cp1, .bool x.had, .bool x.has, .slice ao1 x.old.length co1, .slice an1 x.new.length cn1]) rfl rfl hS3 (fun w' hs=>?_) ?_
    · go_simp
    refine AnyH_one (i:=15) (by kernel_rfl) rfl (by kernel_rfl) (fun K hK=>?_)
    go_simp
    have hbb:Below w7.heap.size w7 (w7.alloc (.cells #[.slice ap1 x.p.length cp1, .bool x.had, .bool x.has, .slice ao1 x.old.length co1, .slice an1 x.new.length cn1] 68)):=(Below.refl _ _).alloc (nl_ _) _
    have hS4:(w7.alloc (.cells #[.slice ap1 x.p.length cp1, .bool x.had, .bool x.has, .slice ao1 x.old.length co1, .slice an1 x.new.length cn1] 68)).cell? ⟨wr.heap.size,0,none⟩ = some (.slice ap x.p.length cp)∧(w7.alloc (.cells #[.slice ap1 x.p.length cp1, .bool x.had, .bool x.has, .slice ao1 x.old.length co1, .slice an1 x.new.length cn1] 68)).cell? ⟨wr.heap.size,1,none⟩ = some (.bool x.had)∧(w7.alloc (.cells #[.slice ap1 x.p.length cp1, .bool x.had, .bool x.has, .slice ao1 x.old.length co1, .slice an1 x.new.length cn1] 68)).cell? ⟨wr.heap.size,2,none⟩ = some (.bool x.has)∧(w7.alloc (.cells #[.slice ap1 x.p.length cp1, .bool x.had, .bool x.has, .slice ao1 x.old.length co1, .slice an1 x.new.length cn1] 68)).cell? ⟨wr.heap.size,3,none⟩ = some (.slice ao x.old.length co)∧(w7.alloc (.cells #[.slice ap1 x.p.length cp1, .bool x.had, .bool x.has, .slice ao1 x.old.length co1, .slice an1 x.new.length cn1] 68)).cell? ⟨wr.heap.size,4,none⟩ = some (.slice an x.new.length cn):=⟨bc_ hbb (by omega) hS3.1,bc_ hbb (by omega) hS3.2.1,bc_ hbb (by omega) hS3.2.2.1,bc_ hbb (by omega) hS3.2.2.2.1,bc_ hbb (by omega) hS3.2.2.2.2⟩
    refine hK _ _ ⟨hS4,?_⟩
    clear hK
    have how7:=ob_ how4 (HB5.out.trans ((HB6.out.trans (HB7.out.mono hz6)).mono hz5)) (nl_ _)
    obtain ⟨a9,c9,w9,hr9,hown9,hgrow9,hat9⟩:=run_append_ao (P:=Tryz.prog) (w7.alloc (.cells #[.slice ap1 x.p.length cp1, .bool x.had, .bool x.has, .slice ao1 x.old.length co1, .slice an1 x.new.length cn1] 68)) 62 62 w.heap.size 68 i0 _ 5 80 Tryz.underlying62 hi0 hz0 hz1 hz2 rfl (by omega) u3 k cs (how7.alloc _) (some ⟨w7.heap.size,0,none⟩) 1 1 [.slice ap1 x.p.length cp1, .bool x.had, .bool x.has, .slice ao1 x.old.length co1, .slice an1 x.new.length cn1] rfl (fun h=>by cases h) (fun ad had=>by cases had;exact World.news_of_block (cs:=#[.slice ap1 x.p.length cp1, .bool x.had, .bool x.has, .slice ao1 x.old.length co1, .slice an1 x.new.length cn1]) (t:=68) (fr:=(0,0)) (heap_alloc_new _ _)) (by simp [Value.oneCell']) (by unfold maxLen;omega) (by omega) (by simp;omega)
    have hnr:u3.ownBlock ≠ some wr.heap.size:=fun e=>by have:=(HUL.out _ e).2;omega
    have hS5:w9.cell? ⟨wr.heap.size,0,none⟩ = some (.slice ap x.p.length cp)∧w9.cell? ⟨wr.heap.size,1,none⟩ = some (.bool x.had)∧w9.cell? ⟨wr.heap.size,2,none⟩ = some (.bool x.has)∧w9.cell? ⟨wr.heap.size,3,none⟩ = some (.slice ao x.old.length co)∧w9.cell? ⟨wr.heap.size,4,none⟩ = some (.slice an x.new.length cn):=⟨grown_cell hgrow9 hnr hS4.1,grown_cell hgrow9 hnr hS4.2.1,grown_cell hgrow9 hnr hS4.2.2.1,grown_cell hgrow9 hnr hS4.2.2.2.1,grown_cell hgrow9 hnr hS4.2.2.2.2⟩
    refine AnyH_one (i:=16) (by kernel_rfl) rfl (by kernel_rfl) (fun K hK=>?_)
    refine wpIn_value (fun _=>trivial) rfl (exec_append rfl rfl rfl hr9) ?_
    refine hK _ _ ⟨hS5,?_⟩
    clear hK hr9 hS3 hS4
    refine tkY 17 3 (.slice a9 (k + 1) c9) rfl rfl hS5 (fun w' hs=>?_) ?_
    · go_simp
    refine AnyH_done (by kernel_rfl) ?_
    go_simp
    obtain ⟨g9,cap9,he9,hg9,hlt9⟩:=hown9.form (by omega)
    cases he9
    have st:Step w.heap.size W4 (w7.alloc (.cells #[.slice ap1 x.p.length cp1, .bool x.had, .bool x.has, .slice ao1 x.old.length co1, .slice an1 x.new.length cn1] 68)) w9 u3 g9:=⟨⟨H57.out.os,H57.out.tape,H57.out.output,Nat.le_trans H57.out.size hbb.size,fun b hb=>(hbb.block b (by omega)).trans (H57.out.block b hb)⟩,⟨hgrow9.os,hgrow9.tape,hgrow9.output,hgrow9.size,hgrow9.block⟩,by omega,fun b hb=>by have:=HUL.out b hb;omega,hat9 g9 rfl,hlt9⟩
    have hv9:(Value.slice (some ⟨g9,0,none⟩) (k + 1) c9).ownBlock = some g9:=rfl
    have n1:=st.keep (Stable.lcs _ _) hv9 HLC4.out
    have n2:=st.lift (Stable.pth _ _) hv9 HP5.out (nl_ _) (by simp;omega) (((HB6.out.trans (HB7.out.mono hz6)).alloc (by omega) _))
    have n3:=st.lift (Stable.ints _ _) hv9 HO6.out (by omega) (by simp;omega) (HB7.out.alloc (by omega) _)
    have n4:=st.lift (Stable.ints _ _) hv9 HN7.out (by omega) (by simp) ((Below.refl _ _).alloc (nl_ _) _)
    have n5:=hid (st.out HB4.out)
    have n6:Hid (LCs rdCh (Rx w.heap.size w9.heap.size (.slice (some ⟨g9,0,none⟩) (k + 1) c9)) w9 (l.take (k + 1)) (cs ++ [.slice ap1 x.p.length cp1, .bool x.had, .bool x.has, .slice ao1 x.old.length co1, .slice an1 x.new.length cn1])):=by
     rw [Hid,HTK.out]
     exact n1.app (LCs.single ⟨ap1,cp1,ao1,co1,an1,cn1,rfl,n2,n3,n4⟩)
    have HOW9:=hid hown9
    clear n1 n2 n3 n4 st hown9 hgrow9 hat9 hS5 hbb how4 how7
    go_wp2_with fail
    go_roundw
    case rel=>exact ⟨k + 1,_,by omega,by go_num,HOW9.out,n6,n5⟩
    case measure=>simp [intOf];omega
  · obtain rfl:k = l.length:=by omega
    have hlt':¬ (l.length:Int) < (l.length:Int):=by omega
    rw [List.take_length] at hlc
    go_wp2_with fail
    obtain ⟨a9,c9,rfl,_,_⟩:=owns_shape hown
    go_ret
    exact ⟨a9,c9,rfl,⟨cs,SlC.of_owns hown,hlc.out.wide fun b hb=>⟨hb.1,hb.2.1⟩⟩,HB.out⟩
end Go.Proofs.LF
namespace Go.Proofs.LF
open Go.RowKit Go.Sort
set_option maxHeartbeats 4000000
set_option maxRecDepth 100000
attribute [local go_sem] bs_toList bs_size bs_get
theorem same_take {S:Nat→Prop} {w:World} {p q:List Ky} {ap aq:Option Addr} {cp cq b:Nat} (hp:Pth S w (.slice ap p.length cp) p) (hq:Pth S w (.slice aq q.length cq) q) (lp:b ≤ p.length) (lq:b ≤ q.length) (hb:b ≤ 1000) :
 Calls Tryz.prog 73 #[.slice ap b cp, .slice aq b cq] w fun e w'=>e = .returned (.bool (decide (p.take b = q.take b)))∧Below w.heap.size w w':=by
 have e1:(p.take b).length = b:=by rw [List.length_take,Nat.min_eq_left lp]
 have e2:(q.take b).length = b:=by rw [List.length_take,Nat.min_eq_left lq]
 have h1:=hp.pre lp
 have h2:=hq.pre lq
 have:=Same_any (p.take b) (q.take b) ap aq cp cq S w (by rw [e1];exact h1) (by rw [e2];exact h2) (by omega) (by omega)
 rwa [e1,e2] at this
theorem Pth.key {S:Nat→Prop} {w:World} {p:List Ky} {a:Option Addr} {c k:Nat} (hp:Pth S w (.slice a p.length c) p) (hk:k < p.length):∃ g o,a = some ⟨g,o,none⟩∧S g∧w.cell? ⟨g,o + k * 3,none⟩ = some (.string (bs p[k].n))∧w.cell? ⟨g,o + k * 3 + 1,none⟩ = some (.bool p[k].h)∧w.cell? ⟨g,o + k * 3 + 2,none⟩ = some (.int .i64 p[k].x):=by
 obtain ⟨g,o,rfl,hg,_,_,hcell⟩:=SlC.cells hp (by omega)
 obtain ⟨k0,k1,k2⟩:=key_cells hk
 have c0:=hcell _ _ k0
 have c1:=hcell _ _ k1
 have c2:=hcell _ _ k2
 rw [← Nat.add_assoc] at c1 c2
 exact ⟨g,o,rfl,hg,c0,c1,c2⟩
end Go.Proofs.LF
namespace Go.Proofs.LF
open Go.RowKit Go.Sort
theorem fmK_len {α:Type} (enc:α→List Value) (k:Nat) (hk:∀ x,(enc x).length = k):∀ (ds:List α),(ds.flatMap enc).length = ds.length * k
 | []=>by simp
 | x :: ds=>by rw [List.flatMap_cons,List.length_append,hk,fmK_len enc k hk ds,List.length_cons,Nat.add_mul];omega
theorem fmK_get {α:Type} [Inhabited α] (enc:α→List Value) (k:Nat) (hk:∀ x,(enc x).length = k) (hp:0 < k):∀ (ds:List α) (t:Nat),t < ds.length * k→(ds.flatMap enc)[t]! = (enc ds[t / k]!)[t % k]!
 | [],t,h=>by simp at h
 | x :: ds,t,h=>by
   rw [List.flatMap_cons]
   by_cases h1:t < k
   · have h2:t / k = 0:=Nat.div_eq_of_lt h1
     have h3:t % k = t:=Nat.mod_eq_of_lt h1
     rw [h2,h3]
     simp [List.getElem!_eq_getElem?_getD,List.getElem?_append,hk,h1]
   · obtain ⟨u,rfl⟩:∃ u,t = k + u:=⟨t - k,by omega⟩
     have h2:(k + u) / k = u / k + 1:=by rw [Nat.add_comm,Nat.add_div_right _ hp]
     have h3:(k + u) % k = u % k:=by rw [Nat.add_comm,Nat.add_mod_right]
     have h4:u < ds.length * k:=by rw [List.length_cons,Nat.add_mul] at h;omega
     have:=fmK_get enc k hk hp ds u h4
     rw [h2,h3]
     simp [List.getElem!_eq_getElem?_getD,List.getElem?_append,hk,show ¬ k + u < k by omega] at this ⊢
     exact this
structure FV where
 ap:Option Addr
 cp:Nat
 an:Option Addr
 cn:Nat
 f:Fl
def FV.vs (x:FV):List Value:=[.slice x.ap x.f.p.length x.cp, .slice x.an x.f.l.length x.cn]
abbrev FVs (M:Nat→Prop) (w:World):={ x:FV // Pth M w (.slice x.ap x.f.p.length x.cp) x.f.p∧Ints M w (.slice x.an x.f.l.length x.cn) x.f.l∧x.f.p.length ≤ 1000 }
theorem fvs_of {M:Nat→Prop} {w:World}:∀ {ls:List Fl} {cs:List Value},LCs rdFl M w ls cs→(∀ f ∈ ls,f.p.length ≤ 1000)→∃ ds:List (FVs M w),ds.flatMap (·.1.vs) = cs∧ds.map (·.1.f) = ls
 | [],_,h,_=>⟨[],by rw [show _ = [] from h];rfl,rfl⟩
 | x :: ls,_,⟨c,es,h1,⟨ap,cp,an,cn,h2,h3,h4⟩,h5⟩,hl=>by
   obtain ⟨ds,hd1,hd2⟩:=fvs_of h5 (fun q hq=>hl q (by simp [hq]))
   exact ⟨⟨⟨ap,cp,an,cn,x⟩,h3,h4,hl x (by simp)⟩ :: ds,by rw [h1,h2,← hd1];rfl,by simp [hd2]⟩
theorem fvs_to {M:Nat→Prop} {w:World}:∀ (ds:List (FVs M w)),LCs rdFl M w (ds.map (·.1.f)) (ds.flatMap (·.1.vs))
 | []=>rfl
 | x :: ds=>⟨x.1.vs,ds.flatMap (·.1.vs),rfl,⟨_,_,_,_,rfl,x.2.1,x.2.2.1⟩,fvs_to ds⟩
set_option maxHeartbeats 4000000
set_option maxRecDepth 100000
theorem flatK_list {α:Type} [Inhabited α] (enc:α→List Value) (k:Nat) (hk:∀ x,(enc x).length = k) (hp:0 < k) (ds:List α):(flatK enc k ds.toArray).toList = ds.flatMap enc:=by
 apply List.ext_getElem
 · rw [fmK_len enc k hk];simp
 · intro t h1 h2
   have h3:t < ds.length * k:=by rwa [fmK_len enc k hk] at h2
   have e1:=get_flatK enc k ds.toArray t (by simpa using h3)
   have e2:=fmK_get enc k hk hp ds t h3
   rw [getElem!_pos (flatK enc k ds.toArray) t (by simpa using h3)] at e1
   rw [getElem!_pos (ds.flatMap enc) t h2] at e2
   rw [Array.getElem_toList,e1,e2]
   simp
theorem sortF_any (ls:List Fl) (v:Value) (B:Nat) (cs:List Value) (M:Nat→Prop) (w:World) (hown:w.ownsRow B 171 2 v ls.length cs) (hlc:LCs rdFl M w ls cs) (hM:∀ b,M b→b < w.heap.size∧v.ownBlock ≠ some b) (hls:∀ f ∈ ls,f.p.length ≤ 1000) (hl:ls.length ≤ 100000) :
 Calls Tryz.prog 164 #[v, .func (.func 165) #[] #[]] w fun e w'=>e = .returned (.tuple #[])∧∃ ls' cs',ls'.Perm ls∧ls'.Pairwise (fun a b=>cmpP a.p b.p ≤ 0)∧w'.ownsRow B 171 2 v ls.length cs'∧LCs rdFl M w' ls' cs'∧w.grownBy w' v.ownBlock:=by
 by_cases h0:ls.length = 0
 · obtain rfl:=List.eq_nil_of_length_eq_zero h0
   obtain ⟨a,c,rfl,_,_⟩:=owns_shape hown
   refine (AnyF.slices_SortFunc_none Tryz.laysSortQ a c (.func (.func 165) #[] #[]) w).mono ?_
   rintro e w' ⟨rfl,rfl⟩
   exact ⟨rfl,[],cs,List.Perm.refl _,List.Pairwise.nil,hown,hlc,World.grownBy.refl _ _⟩
 obtain ⟨h1,⟨rfl,h2⟩ | ⟨g,cap,cur,rfl,hbg,hgg,hn,hcap,hsz,htk⟩⟩:=hown
 · omega
 · obtain ⟨ds,hd1,hd2⟩:=fvs_of hlc hls
   have hdl:ds.length = ls.length:=by rw [← hd2];simp
   have hgl:g < w.heap.size:=(Array.getElem?_eq_some_iff.1 hgg).1
   haveI:Inhabited (FVs M w):=⟨ds[0]'(by omega)⟩
   have hMg:∀ b,M b→b ≠ g:=fun b hb e=>(hM b hb).2 (by simp [Value.ownBlock,e])
   have hk2:∀ x:FVs M w,x.1.vs.length = 2:=fun x=>rfl
   have hfl:=flatK_list (fun x:FVs M w=>x.1.vs) 2 hk2 (by omega) ds
   rw [hd1] at hfl
   have hH:HoldsK (fun x:FVs M w=>x.1.vs) 2 w g 0 ds.toArray:=by
    intro j hj
    have e1:cs[j]? = some (flatK (fun x:FVs M w=>x.1.vs) 2 ds.toArray)[j]:=by rw [← hfl];simp [Array.getElem?_eq_getElem hj]
    have hj2:j < ls.length * 2:=by rw [size_flatK] at hj;simpa [hdl] using hj
    rw [← htk,List.getElem?_take] at e1
    rw [if_pos (by omega)] at e1
    refine ⟨?_,by simp [World.frozen?,hgg]⟩
    simp only [World.cell?,hgg,Nat.zero_add]
    rw [← Array.getElem?_toList,e1]
    rw [getElem!_pos _ j hj];rfl
   have hag:∀ m os (dk:Array (FVs M w)),Agree M w (sortWorldK (fun x:FVs M w=>x.1.vs) 2 w g 0 m dk os):=fun m os dk b hb=>sortW_block (enc:=id) (d:=flatK (fun x:FVs M w=>x.1.vs) 2 dk) (hM b hb).1 (hMg b hb)
   have hgr:∀ m os (dk:Array (FVs M w)),w.grownBy (sortWorldK (fun x:FVs M w=>x.1.vs) 2 w g 0 m dk os) (some g):=fun m os dk=>sortW_grown (enc:=id) (flatK (fun x:FVs M w=>x.1.vs) 2 dk)
   have hcmp:CmpLays Tryz.prog 165 #[] (fun x:FVs M w=>x.1.vs) 2 (fun x y=>cmpP x.1.f.p y.1.f.p) g 0 ds.toArray.size w:=by
    intro m os dk hs x y
    have:=cmp165g x.1.f y.1.f x.1.ap y.1.ap x.1.an y.1.an x.1.cp y.1.cp x.1.f.l.length x.1.cn y.1.f.l.length y.1.cn M (sortWorldK (fun x:FVs M w=>x.1.vs) 2 w g 0 m dk os) (x.2.1.agree (hag m os dk)) (y.2.1.agree (hag m os dk)) (fun b hb=>by have h9:=(hgr m os dk).size;have:=(hM b hb).1;omega) x.2.2.2 y.2.2.2
    simpa [Grw,FV.vs] using this
   have hcon:=AnyQ.slices_SortFunc Tryz.laysSortQ 2 (fun w=>Tryz.isAgg171 w) (fun w=>Tryz.sizeOf171 w) (fun x:FVs M w=>x.1.vs) hk2 (fun x v hv=>by simp [FV.vs] at hv;rcases hv with rfl | rfl <;> rfl) (fun x y=>cmpP x.1.f.p y.1.f.p) (swoP fun x:FVs M w=>x.1.f.p) 165 #[] g 0 cap ds.toArray w enters165 hcmp hH hgl (by simp;omega)
   have e1:ds.toArray.size = ls.length:=by simpa using hdl
   rw [e1] at hcon
   refine hcon.mono ?_
   rintro e w' ⟨rfl,d',n,os,⟨hp1,_,hp3⟩,hs,rfl⟩
   have hd's:d'.size = ls.length:=by rw [hp1,e1]
   have h3:d'.toList.Perm ds:=by
    have:=hp3
    rw [← e1] at this
    rw [Array.extract_eq_self_of_le (by omega),Array.extract_eq_self_of_le (by omega)] at this
    simpa using this
   have hfl':=flatK_list (fun x:FVs M w=>x.1.vs) 2 hk2 (by omega) d'.toList
   have hsz':(flatK (fun x:FVs M w=>x.1.vs) 2 d').size = ls.length * 2:=by rw [size_flatK,hd's]
   refine ⟨rfl,d'.toList.map (·.1.f),d'.toList.flatMap (·.1.vs),by rw [← hd2];exact h3.map _,?_,⟨by rw [fmK_len _ 2 hk2];simp [hd's], .inr ⟨g,cap,_,rfl,hbg,sortW_row (enc:=id) (d:=flatK (fun x:FVs M w=>x.1.vs) 2 d') hgg,hn,hcap,by simp [putCells,hsz],?_⟩⟩,(fvs_to d'.toList).agree (hag n os d'),hgr n os d'⟩
   · rw [List.pairwise_map,List.pairwise_iff_getElem]
     intro i j hi hj hij
     have hi':i < d'.size:=by simpa using hi
     have hj':j < d'.size:=by simpa using hj
     have:=hs i j (Nat.zero_le _) hij (by omega)
     simp only [ltOf,decide_eq_false_iff_not] at this
     rw [getElem!_pos d' j hj',getElem!_pos d' i hi'] at this
     simp only [Array.getElem_toList]
     rcases Int.lt_trichotomy (cmpP d'[i].1.f.p d'[j].1.f.p) 0 with h | h | h
     · omega
     · omega
     · exact absurd (cmpP_ord.flop h) this
   · rw [← hsz',take_putC _ _ _ (by omega),List.map_id]
     simpa using hfl'
end Go.Proofs.LF
