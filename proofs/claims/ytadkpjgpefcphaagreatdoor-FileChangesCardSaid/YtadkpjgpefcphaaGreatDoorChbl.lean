/- Parts of the proof of a law of layer 11 (file): LfW64, LfW107, LfW115, LfW114s, LfC108, LfW116. The conditions stand in each theorem. -/
import Derived.Test.YtadkpjgpefcphaaGreatDoorProg
import Derived.Test.YtadkpjgpefcphaaGreatDoorChab
import Derived.Test.YtadkpjgpefcphaaGreatDoorChac
import Derived.Test.YtadkpjgpefcphaaGreatDoorChal
import Derived.Test.YtadkpjgpefcphaaGreatDoorChay
import Derived.Test.YtadkpjgpefcphaaGreatDoorChaz
import Derived.Test.YtadkpjgpefcphaaGreatDoorChbb
import Derived.Test.YtadkpjgpefcphaaGreatDoorChbd
import Derived.Test.YtadkpjgpefcphaaGreatDoorChbe
import Derived.Test.YtadkpjgpefcphaaGreatDoorChbg
import Derived.Test.YtadkpjgpefcphaaGreatDoorChbi
import Derived.Test.YtadkpjgpefcphaaGreatDoorChbj
import Derived.Test.YtadkpjgpefcphaaGreatDoorChbk
set_option linter.all false
set_option linter.unusedVariables false
set_option linter.unusedSimpArgs false
namespace Go.Proofs.LF
open Go.RowKit Go.Sort
set_option maxHeartbeats 4000000
set_option maxRecDepth 100000
attribute [local go_sem] bs_toList bs_size bs_get
theorem unR_mem:∀ {b a:List Fl} {x:Fl},x ∈ unR a b→x ∈ a ∨ x ∈ b
 | [],a,x,h => .inl h
 | y :: b,a,x,h=>by
   rw [unR] at h
   rcases unR_mem h with h | h
   · split at h
     · exact .inl h
     · rcases putR_mem.1 h with h | h
       · exact .inr (by rw [h];simp)
       · exact .inl h
   · exact .inr (by simp [h])
theorem lines_fls (u:List Ky) (y:Fo):linesL u y = flsL u y:=rfl
def SmL (l:List Fl):Prop:=l.length ≤ 500∧∀ x ∈ l,x.p.length ≤ 1000∧x.l.length ≤ 1000
theorem SmL.big {l:List Fl} (h:SmL l):l.length ≤ 100000∧∀ x ∈ l,x.p.length ≤ 1000∧x.l.length ≤ 1000:=⟨by have:=h.1;omega,h.2⟩
theorem SmL.mid {l:List Fl} (h:SmL l):l.length ≤ 10000∧∀ x ∈ l,x.p.length ≤ 1000∧x.l.length ≤ 1000:=⟨by have:=h.1;omega,h.2⟩
theorem fls_sml {y:Fo} (h:chkY y = 0) (hs:y.Sm):(flsL [] y).length ≤ 60∧SmL (flsL [] y):=by
 obtain ⟨h1,h2,h3⟩:=fls_ok h
 exact ⟨h3,by omega,fun x hx=>⟨(h2 x hx).1,(h1 x hx).2.1⟩⟩
theorem filt_take {l:List Fl} {f:List Ky→Bool} {k:Nat} {x:Fl} (hk:k < l.length) (hx:l[k] = x):((l.take (k + 1)).map Fl.p).filter f = ((l.take k).map Fl.p).filter f ++ (if f x.p then [x.p] else []):=by
 rw [List.take_succ_eq_append_getElem hk,hx,List.map_append,List.filter_append]
 simp only [List.map_cons,List.map_nil,List.filter_cons,List.filter_nil]
theorem Lines_at (x:Fo) (ax:Option Addr) (cx:Nat) (w:World) (hx:FSl (fun q=>q < w.heap.size) w (.slice ax x.len cx) x) (lx:x.len ≤ 1000∧x.Sm∧x.cnt ≤ 400) :
 Calls Tryz.prog 96 #[.slice ax x.len cx, .slice none 0 0] w fun e w'=>∃ a c,e = .returned (.slice a (flsL [] x).length c)∧LSl rdFl (fun q=>q < w'.heap.size) w' (.slice a (flsL [] x).length c) (flsL [] x)∧Below w.heap.size w w':=by
 have h:=Lines_any (x.cnt + 1) x [] ax cx none 0 _ w (Nat.lt_succ_self _) hx ⟨rfl,none,0,rfl,nl_ _,by simp [maxLen],fun _=>rfl, .inl rfl⟩ (fun b hb=>hb) lx.1 lx.2.1 (by simp;omega)
 rw [lines_fls] at h
 refine h.mono ?_
 rintro e w' ⟨a,c,rfl,h1,h2⟩
 refine ⟨a,c,rfl,h1.wide fun q hq=>?_,h2⟩
 rcases hq with hq | hq
 · exact Nat.lt_of_lt_of_le hq h2.size
 · exact hq.2
theorem un_at (a b:List Fl) (aa ab:Option Addr) (ca cb:Nat) (w:World) (ha:LSl rdFl (fun q=>q < w.heap.size) w (.slice aa a.length ca) a) (hb:LSl rdFl (fun q=>q < w.heap.size) w (.slice ab b.length cb) b) (la:SmL a) (lb:SmL b) :
 Calls Tryz.prog 111 #[.slice aa a.length ca, .slice ab b.length cb] w fun e w'=>∃ av cv,e = .returned (.slice av (unR a b).length cv)∧LSl rdFl (fun q=>q < w'.heap.size) w' (.slice av (unR a b).length cv) (unR a b)∧(unR a b).length ≤ a.length + b.length∧Below w.heap.size w w':=by
 refine (union_any a b aa ab ca cb _ w ha hb (fun b hb=>hb) la.mid lb.mid).mono ?_
 rintro e w' ⟨av,cv,rfl,h1,h2,h3⟩
 refine ⟨av,cv,rfl,h1.wide fun q hq=>?_,h2,h3⟩
 rcases hq with hq | hq
 · exact Nat.lt_of_lt_of_le hq h3.size
 · exact hq.2
theorem eq_at (a b:List Fl) (p:List Ky) (aa ab ap:Option Addr) (ca cb cp:Nat) (w:World) (ha:LSl rdFl (fun q=>q < w.heap.size) w (.slice aa a.length ca) a) (hb:LSl rdFl (fun q=>q < w.heap.size) w (.slice ab b.length cb) b) (hp:Pth (fun q=>q < w.heap.size) w (.slice ap p.length cp) p) (la:SmL a) (lb:SmL b) (lp:p.length ≤ 1000) :
 ∀ w1,Below w.heap.size w w1→Calls Tryz.prog 112 #[.slice aa a.length ca, .slice ab b.length cb, .slice ap p.length cp] w1 fun e w'=>e = .returned (.bool (eqR a b p))∧Below w1.heap.size w1 w':=fun w1 h=>
 equal_any a b p aa ab ap ca cb cp _ w1 (ha.on h) (hb.on h) (hp.on h) (fun b hb=>hb) la.big lb.big lp
end Go.Proofs.LF
namespace Go.Proofs.LF
open Go.RowKit Go.Sort
set_option maxHeartbeats 4000000
set_option maxRecDepth 100000
attribute [local go_sem] bs_toList bs_size bs_get
theorem same160c (x y:Ch) (ap ao an aq ar am:Option Addr) (cp co cn cq cr cm:Nat) (S:Nat→Prop) (w:World) (hp:Pth S w (.slice ap x.p.length cp) x.p) (ho:Ints S w (.slice ao x.old.length co) x.old) (hn:Ints S w (.slice an x.new.length cn) x.new)
 (hq:Pth S w (.slice aq y.p.length cq) y.p) (hr:Ints S w (.slice ar y.old.length cr) y.old) (hm:Ints S w (.slice am y.new.length cm) y.new) (hS:∀ b,S b→b < w.heap.size) (hx:x.p.length ≤ 1000∧x.old.length ≤ 1000∧x.new.length ≤ 1000) (hy:y.p.length ≤ 1000∧y.old.length ≤ 1000∧y.new.length ≤ 1000) :
 Calls Tryz.prog 160 #[.agg #[.slice ap x.p.length cp, .bool x.had, .bool x.has, .slice ao x.old.length co, .slice an x.new.length cn], .agg #[.slice aq y.p.length cq, .bool y.had, .bool y.has, .slice ar y.old.length cr, .slice am y.new.length cm]] w fun e w'=>e = .returned (.bool (decide (x = y)))∧Below w.heap.size w w':=by
 refine (same160 x.p y.p x.had x.has y.had y.has x.old x.new y.old y.new ap ao an aq ar am cp co cn cq cr cm S w hp ho hn hq hr hm hS hx.1 hx.2.1 hx.2.2 hy.1 hy.2.1 hy.2.2).mono ?_
 rintro e w' ⟨rfl,hb⟩
 refine ⟨?_,hb⟩
 congr 2
 obtain ⟨p,a,b,c,d⟩:=x
 obtain ⟨p',a',b',c',d'⟩:=y
 rw [Bool.eq_iff_iff]
 simp [Ch.mk.injEq,and_assoc]
def SmL3 (l:List Ch):Prop:=∀ x ∈ l,x.p.length ≤ 1000∧x.old.length ≤ 1000∧x.new.length ≤ 1000
theorem eqChg_any (y z:List Ch) (ay az:Option Addr) (cy cz:Nat) (S:Nat→Prop) (w:World) (hy:ChSl S w (.slice ay y.length cy) y) (hz:ChSl S w (.slice az z.length cz) z) (hS:∀ b,S b→b < w.heap.size) (ly:y.length ≤ 1000) (lz:z.length ≤ 1000) (sy:SmL3 y) (sz:SmL3 z) :
 Calls Tryz.prog 159 #[.slice ay y.length cy, .slice az z.length cz, .func (.func 160) #[] #[]] w fun e w'=>e = .returned (.bool (decide (y = z)))∧Below w.heap.size w w':=by
 obtain ⟨_,_,he,hc,hm1,hat⟩:=hy.at
 cases he
 obtain ⟨_,_,he,hc',hm2,hat'⟩:=hz.at
 cases he
 unfold maxLen at hm1 hm2
 have hE:=enters160
 have HAT:=hid hat
 have HAT':=hid hat'
 have HS:=hid hS
 have SY:=hid sy
 have SZ:=hid sz
 clear hat hat' hS sy sz hy hz
 by_cases hne:y.length = z.length
 · have hne':((y.length:Int) != (z.length:Int)) = false:=by simp;omega
   have HN:=hid hne
   clear hne
   go_enter Tryz.func159,Tryz.ntmps159
   go_wp2_with fail
   go_loopw [17] (fun i wr=>∃ k:Nat,k ≤ y.length∧i = .int .i64 k∧Hid (y.take k = z.take k)∧Below w.heap.size w wr) (fun i _=>y.length - (intOf i).toNat)
   case atStart=>exact ⟨0,by omega,rfl,by simp [Hid],Below.refl _ _⟩
   case round=>
    obtain ⟨k,hk,rfl,H2,hB⟩:=hrel
    have hsz:=hB.size
    by_cases hlt:k < y.length
    · have hlt2:k < z.length:=by have:=HN.out;omega
      obtain ⟨g,o,cs1,rfl,hg,⟨ap,cp,ao,co,an,cn,rfl,hP,hO,hN⟩,hcell⟩:=HAT.out k hlt
      obtain ⟨g',o',cs2,rfl,hg',⟨aq,cq,ar,cr,am,cm,rfl,hQ,hR,hM⟩,hcell'⟩:=HAT'.out k hlt2
      have hlt':(k:Int) < (z.length:Int):=by omega
      have ha:Agree S w wr:=Ag_b hB HS.out
      have c0:=ha.cell hg (hcell 0 _ rfl)
      have c1:=ha.cell hg (hcell 1 _ rfl)
      have c2:=ha.cell hg (hcell 2 _ rfl)
      have c3:=ha.cell hg (hcell 3 _ rfl)
      have c4:=ha.cell hg (hcell 4 _ rfl)
      have d0:=ha.cell hg' (hcell' 0 _ rfl)
      have d1:=ha.cell hg' (hcell' 1 _ rfl)
      have d2:=ha.cell hg' (hcell' 2 _ rfl)
      have d3:=ha.cell hg' (hcell' 3 _ rfl)
      have d4:=ha.cell hg' (hcell' 4 _ rfl)
      rw [Nat.add_zero] at c0 d0
      simp only [← Nat.add_assoc] at c1 c2 c3 c4 d1 d2 d3 d4
      have l1:=SY.out _ (List.getElem_mem hlt)
      have l2:=SZ.out _ (List.getElem_mem hlt2)
      have ty:y.take (k + 1) = y.take k ++ [y[k]]:=List.take_succ_eq_append_getElem hlt
      have tz:z.take (k + 1) = z.take k ++ [z[k]]:=List.take_succ_eq_append_getElem hlt2
      obtain ⟨u,hu⟩:∃ u,y[k] = u:=⟨_,rfl⟩
      obtain ⟨v,hv⟩:∃ v,z[k] = v:=⟨_,rfl⟩
      rw [hu] at c0 c1 c2 c3 c4 hP hO hN l1 ty
      rw [hv] at d0 d1 d2 d3 d4 hQ hR hM l2 tz
      obtain ⟨W4,hW4⟩:∃ W4,wr.alloc (.cells #[.slice ap u.p.length cp, .bool u.had, .bool u.has, .slice ao u.old.length co, .slice an u.new.length cn] 68) = W4:=⟨_,rfl⟩
      obtain ⟨W5,hW5⟩:∃ W5,W4.alloc (.cells #[.slice aq v.p.length cq, .bool v.had, .bool v.has, .slice ar v.old.length cr, .slice am v.new.length cm] 120) = W5:=⟨_,rfl⟩
      have hz4:W4.heap.size = wr.heap.size + 1:=by rw [← hW4];simp
      have hz5:W5.heap.size = wr.heap.size + 2:=by rw [← hW5];simp;omega
      have hb4:Below wr.heap.size wr W4:=by rw [← hW4];exact (Below.refl _ _).alloc (nl_ _) _
      have hb45:Below W4.heap.size W4 W5:=by rw [← hW5];exact (Below.refl _ _).alloc (nl_ _) _
      have hb5:Below wr.heap.size wr W5:=hb4.trans (hb45.mono (by omega))
      have hnb4:W4.heap[wr.heap.size]? = some (.cells #[.slice ap u.p.length cp, .bool u.had, .bool u.has, .slice ao u.old.length co, .slice an u.new.length cn] 68 (0,0)):=by rw [← hW4];exact heap_alloc_new _ _
      have hnb:W5.heap[wr.heap.size]? = some (.cells #[.slice ap u.p.length cp, .bool u.had, .bool u.has, .slice ao u.old.length co, .slice an u.new.length cn] 68 (0,0)):=(hb45.block _ (by omega)).trans hnb4
      have hnc:W5.heap[W4.heap.size]? = some (.cells #[.slice aq v.p.length cq, .bool v.had, .bool v.has, .slice ar v.old.length cr, .slice am v.new.length cm] 120 (0,0)):=by rw [← hW5];exact heap_alloc_new _ _
      have e0:=cg_ hnb (k:=0) rfl
      have e1:=cg_ hnb (k:=1) rfl
      have e2:=cg_ hnb (k:=2) rfl
      have e3:=cg_ hnb (k:=3) rfl
      have e4:=cg_ hnb (k:=4) rfl
      have f0:=cg_ hnc (k:=0) rfl
      have f1:=cg_ hnc (k:=1) rfl
      have f2:=cg_ hnc (k:=2) rfl
      have f3:=cg_ hnc (k:=3) rfl
      have f4:=cg_ hnc (k:=4) rfl
      have g0:=bc_ hb4 (show g' < wr.heap.size by have:=HS.out g' hg';omega) d0
      have g1:=bc_ hb4 (show g' < wr.heap.size by have:=HS.out g' hg';omega) d1
      have g2:=bc_ hb4 (show g' < wr.heap.size by have:=HS.out g' hg';omega) d2
      have g3:=bc_ hb4 (show g' < wr.heap.size by have:=HS.out g' hg';omega) d3
      have g4:=bc_ hb4 (show g' < wr.heap.size by have:=HS.out g' hg';omega) d4
      have ha5:Agree S w W5:=Ag_b (hB.trans (hb5.mono hsz)) HS.out
      have SP:=hid (same160c u v ap ao an aq ar am cp co cn cq cr cm S W5 (hP.agree ha5) (hO.agree ha5) (hN.agree ha5) (hQ.agree ha5) (hR.agree ha5) (hM.agree ha5) (fun b hb=>by have:=HS.out b hb;omega) l1 l2)
      have TY:=hid ty
      have TZ:=hid tz
      have HPp:=hid hu
      have HQq:=hid hv
      have HW4:=hid hW4
      have HW5:=hid hW5
      have HB5:=hid (hB.trans (hb5.mono hsz))
      have hw5:w.heap.size ≤ W5.heap.size:=by omega
      clear hcell hcell' hP hO hN hQ hR hM ty tz hu hv hW4 hW5 hb4 hb45 hb5 hnb4 hnb hnc hz5 ha ha5 d0 d1 d2 d3 d4 hz4
      by_cases he:u = v
      · rw [decide_eq_true he] at SP
        have HE:=hid he
        clear he
        go_wp2_with (first | rw [HW4.out] | rw [HW5.out])
        refine SP.out.mono ?_
        rintro e w1 ⟨rfl,hb1⟩
        have HB1:=hid (HB5.out.trans (hb1.mono hw5))
        clear hb1 c0 c1 c2 c3 c4 e0 e1 e2 e3 e4 f0 f1 f2 f3 f4 g0 g1 g2 g3 g4 SP
        apply_assumption
        go_wp2_with fail
        go_roundw
        case rel=>exact ⟨k + 1,by omega,by go_num,by rw [Hid,TY.out,TZ.out,H2.out,HE.out],HB1.out⟩
        case measure=>simp [intOf];omega
      · rw [decide_eq_false he] at SP
        have HE:=hid he
        clear he
        go_wp2_with (first | rw [HW4.out] | rw [HW5.out])
        refine SP.out.mono ?_
        rintro e w1 ⟨rfl,hb1⟩
        have HB1:=hid (HB5.out.trans (hb1.mono hw5))
        clear hb1 c0 c1 c2 c3 c4 e0 e1 e2 e3 e4 f0 f1 f2 f3 f4 g0 g1 g2 g3 g4 SP
        apply_assumption
        go_wp2_with fail
        go_ret
        refine ⟨ret_bool ?_,HB1.out⟩
        symm
        rw [decide_eq_false_iff_not]
        rintro rfl
        exact HE.out (HPp.out.symm.trans HQq.out)
    · go_wp2_with fail
      go_ret
      obtain rfl:k = y.length:=by omega
      refine ⟨ret_bool ?_,hB⟩
      symm
      have:=H2.out
      rw [List.take_length,HN.out,List.take_length] at this
      exact decide_eq_true this
 · have hne':((y.length:Int) != (z.length:Int)) = true:=by simp;omega
   have HN:=hid hne
   clear hne
   go_enter Tryz.func159,Tryz.ntmps159
   go_wp2_with fail
   go_ret
   refine ⟨ret_bool ?_,Below.refl _ _⟩
   symm
   rw [decide_eq_false_iff_not]
   rintro rfl
   exact HN.out rfl
theorem sameChg_any (y z:List Ch) (ay az:Option Addr) (cy cz:Nat) (S:Nat→Prop) (w:World) (hy:ChSl S w (.slice ay y.length cy) y) (hz:ChSl S w (.slice az z.length cz) z) (hS:∀ b,S b→b < w.heap.size) (ly:y.length ≤ 1000) (lz:z.length ≤ 1000) (sy:SmL3 y) (sz:SmL3 z) :
 Calls Tryz.prog 68 #[.slice ay y.length cy, .slice az z.length cz] w fun e w'=>e = .returned (.bool (decide (y = z)))∧Below w.heap.size w w':=by
 have HQ:=hid (eqChg_any y z ay az cy cz S w hy hz hS ly lz sy sz)
 clear hy hz hS ly lz sy sz
 go_enter Tryz.func68,Tryz.ntmps68
 go_wp2_with fail
 refine HQ.out.mono ?_
 rintro e w1 ⟨rfl,hb1⟩
 go_wp2_with fail
 go_ret
 exact ⟨rfl,hb1⟩
theorem unch_any (y z:List Ch) (ay az:Option Addr) (cy cz:Nat) (S:Nat→Prop) (w:World) (hy:ChSl S w (.slice ay y.length cy) y) (hz:ChSl S w (.slice az z.length cz) z) (hS:∀ b,S b→b < w.heap.size) (ly:y.length ≤ 1000) (lz:z.length ≤ 1000) (sy:SmL3 y) (sz:SmL3 z) :
 Calls Tryz.prog 74 #[.slice ay y.length cy, .slice az z.length cz] w fun e w'=>e = .returned (.bool (decide (y = z)))∧Below w.heap.size w w':=by
 have HC:=hid (changes_any z az cz S w hz hS lz sz)
 have HY:=hid hy
 have HS:=hid hS
 have SY:=hid sy
 have SZ:=hid sz
 clear hy hz hS sy sz
 go_enter Tryz.func74,Tryz.ntmps74
 go_wp2_with fail
 refine HC.out.mono ?_
 rintro e w1 ⟨a1,c1,rfl,hc1,hb1⟩
 have hz1:=hb1.size
 have HQ:=hid (sameChg_any y z ay a1 cy c1 (fun b=>b < w1.heap.size) w1 ((LSl.agree HY.out (Ag_b hb1 HS.out)).wide fun b hb=>by have:=HS.out b hb;omega) (hc1.wide fun b hb=>hb.2) (fun b hb=>hb) ly lz SY.out SZ.out)
 have HB:=hid hb1
 clear hb1 hc1 HC
 go_wp2_with fail
 refine HQ.out.mono ?_
 rintro e w2 ⟨rfl,hb2⟩
 have HB2:=hid (HB.out.trans (hb2.mono hz1))
 clear hb2
 go_wp2_with fail
 go_ret
 exact ⟨rfl,HB2.out⟩
end Go.Proofs.LF
namespace Go.Proofs.LF
open Go.RowKit Go.Sort
set_option maxHeartbeats 4000000
set_option maxRecDepth 100000
attribute [local go_sem] bs_toList bs_size bs_get
theorem numsR_any (l:List Fl) (p:List Ky) (al ap:Option Addr) (cl cp:Nat) (S:Nat→Prop) (w:World) (hl:LSl rdFl S w (.slice al l.length cl) l) (hp:Pth S w (.slice ap p.length cp) p) (hS:∀ b,S b→b < w.heap.size) (ll:l.length ≤ 100000∧∀ x ∈ l,x.p.length ≤ 1000∧x.l.length ≤ 1000) (lp:p.length ≤ 1000) :
 Calls Tryz.prog 161 #[.slice al l.length cl, .slice ap p.length cp] w fun e w'=>∃ a c,e = .returned (.tuple #[.slice a ((rfd l p).getD fl0).l.length c, .bool (rfd l p).isSome])∧Ints S w' (.slice a ((rfd l p).getD fl0).l.length c) ((rfd l p).getD fl0).l∧Below w.heap.size w w':=by
 have FF:=hid (Find_any l p al ap cl cp S w hl hp hS ll.1 (fun x hx=>(ll.2 x hx).1) lp)
 have HS:=hid hS
 rcases fi_cases l p with ⟨j,hj,f1,f2,f3⟩ | ⟨f1,f2⟩
 · rw [f1] at FF
   rw [f2]
   obtain ⟨_,_,he,_,hm,hat⟩:=hl.at
   cases he
   unfold maxLen at hm
   obtain ⟨g,o,cs,rfl,hg,⟨ax,cx,ay,cy,rfl,hP,hI⟩,hc⟩:=hat j hj
   have x1:=hc 1 _ rfl
   obtain ⟨x,hx⟩:∃ x,l[j] = x:=⟨_,rfl⟩
   rw [hx] at hP hI x1
   rw [hx]
   rw [← Nat.add_assoc] at x1
   have HI:=hid hI
   have X1:=hid x1
   have v1:(0:Int) ≤ (j:Int):=by omega
   have v2:(j:Int) < (l.length:Int):=by omega
   have v3:¬ (j:Int) < 0:=by omega
   clear hc hP hI hx hat x1 hl hp hS f1 f2 f3
   go_enter Tryz.func161,Tryz.ntmps161
   go_wp2_with fail
   refine FF.out.mono ?_
   rintro e w1 ⟨rfl,hb⟩
   have z1:=bc_ hb (HS.out g hg) X1.out
   have HI1:=hid (HI.out.agree (Ag_b hb HS.out))
   have HB:=hid hb
   clear hb
   go_wp2_with fail
   refine bodyPost_ret (v := .tuple #[.slice ay x.l.length cy, .bool true]) (by simp [results,Tryz.results161,go_sem]) rfl ?_
   exact ⟨ay,cy,rfl,HI1.out,HB.out⟩
 · rw [f1] at FF
   rw [f2]
   clear hl hp hS f1 f2
   go_enter Tryz.func161,Tryz.ntmps161
   go_wp2_with fail
   refine FF.out.mono ?_
   rintro e w1 ⟨rfl,hb⟩
   have HB:=hid hb
   clear hb
   go_wp2_with fail
   refine bodyPost_ret (v := .tuple #[.slice none 0 0, .bool false]) (by simp [results,Tryz.results161,go_sem]) rfl ?_
   exact ⟨none,0,rfl,⟨rfl,none,0,rfl,nl_ _,by simp [maxLen],fun _=>rfl, .inl rfl⟩,HB.out⟩
def rdf (a b:List Fl):List Ch:=(((unR a b).map Fl.p).filter fun p=>!eqR a b p).map (chR a b)
theorem rdf_dif {x y:Fo} (hx:chkY x = 0) (hy:chkY y = 0):rdf (flsL [] x) (flsL [] y) = difL x y:=by
 rw [(difL_eq hx hy).2,dfF_eq (fls_srt hx) (fls_srt hy),rdf,pths_un2 (fls_srt hx) (good2 hx hy)]
theorem rdf_take {a b l:List Fl} {k:Nat} {x:Fl} (hk:k < l.length) (hx:l[k] = x):(((l.take (k + 1)).map Fl.p).filter fun p=>!eqR a b p).map (chR a b) = (((l.take k).map Fl.p).filter fun p=>!eqR a b p).map (chR a b) ++ (if eqR a b x.p then [] else [chR a b x.p]):=by
 rw [filt_take hk hx,List.map_append]
 cases eqR a b x.p <;> simp
theorem RefDiff_any (x y:Fo) (ax ay:Option Addr) (cx cy:Nat) (w:World) (hx:FSl (fun q=>q < w.heap.size) w (.slice ax x.len cx) x) (hy:FSl (fun q=>q < w.heap.size) w (.slice ay y.len cy) y) (lx:x.len ≤ 1000∧x.Sm∧x.cnt ≤ 400) (ly:y.len ≤ 1000∧y.Sm∧y.cnt ≤ 400) (kx:chkY x = 0) (ky:chkY y = 0) :
 Calls Tryz.prog 69 #[.slice ax x.len cx, .slice ay y.len cy] w fun e w'=>∃ a c,e = .returned (.slice a (difL x y).length c)∧LSl rdCh (fun q=>q < w'.heap.size) w' (.slice a (difL x y).length c) (difL x y)∧Below w.heap.size w w':=by
 obtain ⟨i0,hi0,hz0,hz1,hz2⟩:=info_parts Tryz.info120'
 have L1:=Lines_at x ax cx w hx lx
 have L2:=fun w1 (h:Below w.heap.size w w1)=>Lines_at y ay cy w1 (hy.on h) ly
 obtain ⟨ma,sa⟩:=fls_sml kx lx.2.1
 obtain ⟨mb,sb⟩:=fls_sml ky ly.2.1
 rw [← rdf_dif kx ky]
 generalize flsL [] x = a at *
 generalize flsL [] y = b at *
 have L1:=hid L1
 have L2:=hid L2
 have SA:=hid sa
 have SB:=hid sb
 clear hx hy lx ly kx ky sa sb
 go_enter Tryz.func69,Tryz.ntmps69
 go_wp2_with fail
 refine L1.out.mono ?_
 rintro e w1 ⟨a1,c1,rfl,h1,hb1⟩
 have H1:=hid h1
 have B1:=hid hb1
 clear h1 hb1
 go_wp2_with fail
 refine (L2.out w1 B1.out).mono ?_
 rintro e w2 ⟨a2,c2,rfl,h2,hb2⟩
 have H2:=hid h2
 have H1:=hid (H1.out.on hb2)
 have B2:=hid (B1.out.trans (hb2.mono B1.out.size))
 clear h2 hb2
 go_wp2_with fail
 refine (un_at a b a1 a2 c1 c2 w2 H1.out H2.out SA.out SB.out).mono ?_
 rintro e w3 ⟨a3,c3,rfl,h3,hl3,hb3⟩
 have H2:=hid (H2.out.on hb3)
 have H1:=hid (H1.out.on hb3)
 have B3:=hid (B2.out.trans (hb3.mono B2.out.size))
 have S3:SmL (unR a b):=⟨by omega,fun q hq=>by
  rcases unR_mem hq with h | h
  · exact SA.out.2 q h
  · exact SB.out.2 q h⟩
 obtain ⟨_,_,he,hc3,hm3,hat⟩:=h3.at
 cases he
 unfold maxLen at hm3
 have HAT:=hid hat
 have S3:=hid S3
 have NIL:Hid (rdf a b = (((unR a b).map Fl.p).filter fun p=>!eqR a b p).map (chR a b)):=rfl
 obtain ⟨al,hal⟩:∃ al,unR a b = al:=⟨_,rfl⟩
 rw [hal] at HAT S3 NIL hl3 hc3
 simp only [hal]
 obtain ⟨DL,hDL⟩:∃ DL,rdf a b = DL:=⟨_,rfl⟩
 rw [hDL] at NIL
 have HDL:=hid hDL
 clear h3 hb3 hat hal hDL
 go_wp2_with fail
 go_loopw [7,9] (fun v i wr=>∃ k:Nat,k ≤ al.length∧i = .int .i64 k∧Hid (RowS rdCh 120 (fun q=>q < w3.heap.size) w3.heap.size wr v ((((al.take k).map Fl.p).filter fun p=>!eqR a b p).map (chR a b)))∧Hid (Below w3.heap.size w3 wr)) (fun _ i _=>al.length - (intOf i).toNat)
 case atStart=>exact ⟨0,by omega,rfl,RowS.nil _,Below.refl _ _⟩
 case round=>
  obtain ⟨k,hk,rfl,HR,HB⟩:=hrel
  have hzr:=HB.out.size
  obtain ⟨vo,hvo⟩:∃ vo,vo = u7:=⟨_,rfl⟩
  subst hvo
  by_cases hlt:k < al.length
  · have hlt':(k:Int) < (al.length:Int):=by omega
    obtain ⟨g,o,cs,rfl,hg,⟨ap,cp,an,cn,rfl,hP,hN⟩,hcl⟩:=HAT.out k hlt
    have p0:=bc_ HB.out hg (hcl 0 _ rfl)
    rw [Nat.add_zero] at p0
    have hsm:=S3.out.2 al[k] (List.getElem_mem hlt)
    have htk:=rdf_take (a:=a) (b:=b) hlt rfl
    obtain ⟨q,hq⟩:∃ q,al[k] = q:=⟨_,rfl⟩
    rw [hq] at hP p0 hsm htk
    obtain ⟨p,hp⟩:∃ p,q.p = p:=⟨_,rfl⟩
    rw [hp] at hP p0 hsm htk
    have HP:=hid hP
    have HTK:=hid htk
    have lp:=hsm.1
    have EQ:=hid (eq_at a b p a1 a2 ap c1 c2 cp w3 H1.out H2.out HP.out SA.out SB.out lp wr HB.out)
    have hlen:((((al.take k).map Fl.p).filter fun p=>!eqR a b p).map (chR a b)).length ≤ k:=by
     rw [List.length_map]
     refine Nat.le_trans (List.length_filter_le _ _) ?_
     rw [List.length_map,List.length_take];omega
    obtain ⟨acc,hacc⟩:∃ acc,(((al.take k).map Fl.p).filter fun p=>!eqR a b p).map (chR a b) = acc:=⟨_,rfl⟩
    rw [hacc] at HR HTK hlen
    have hkb:k ≤ 1000:=by have:=S3.out.1;omega
    clear hcl hP hN hq hp htk hsm hacc hg
    go_wp2_with fail
    refine EQ.out.mono ?_
    rintro e w4 ⟨rfl,hb4⟩
    have hz4:=hb4.size
    have B4:=hid (HB.out.trans (hb4.mono hzr))
    have R4:=hid (HR.out.below (fun q hq=>by omega) hb4)
    clear hb4
    cases hqe:eqR a b p
    rotate_left
    · have hacc:(((al.take (k + 1)).map Fl.p).filter fun p=>!eqR a b p).map (chR a b) = acc:=by rw [HTK.out,hqe];simp
      have HAC:=hid hacc
      clear hacc hqe
      apply_assumption
      go_wp2_with fail
      go_roundw
      case rel=>exact ⟨k + 1,by omega,by go_num,by rw [HAC.out];exact R4,B4⟩
      case measure=>simp [intOf];omega
    · have hacc:(((al.take (k + 1)).map Fl.p).filter fun p=>!eqR a b p).map (chR a b) = acc ++ [chR a b p]:=by rw [HTK.out,hqe];simp
      have HAC:=hid hacc
      have N1:=hid (numsR_any a p a1 ap c1 cp (fun q=>q < w3.heap.size) w4 (H1.out.agree (Ag_b B4.out fun _ h=>h)) (HP.out.agree (Ag_b B4.out fun _ h=>h)) (fun q hq=>by omega) SA.out.big lp)
      clear hacc hqe
      apply_assumption
      go_wp2_with fail
      refine N1.out.mono ?_
      rintro e w5 ⟨ao,co,rfl,hO,hb5⟩
      have hz5:=hb5.size
      have B5:=hid (B4.out.trans (hb5.mono (by omega)))
      have R5:=hid (R4.out.below (fun q hq=>by omega) hb5)
      have HO:=hid hO
      have N2:=hid (numsR_any b p a2 ap c2 cp (fun q=>q < w3.heap.size) w5 (H2.out.agree (Ag_b B5.out fun _ h=>h)) (HP.out.agree (Ag_b B5.out fun _ h=>h)) (fun q hq=>by omega) SB.out.big lp)
      clear hO hb5
      go_wp2_with fail
      refine N2.out.mono ?_
      rintro e w6 ⟨an,cn,rfl,hN,hb6⟩
      have hz6:=hb6.size
      have B6:=hid (B5.out.trans (hb6.mono (by omega)))
      have R6:=hid (R5.out.below (fun q hq=>by omega) hb6)
      have HO6:=hid (HO.out.agree (Ag_b hb6 fun q hq=>by omega))
      have HN6:=hid hN
      have HP6:=hid (HP.out.agree (Ag_b B6.out fun _ h=>h))
      clear hN hb6
      obtain ⟨lo,hlo⟩:∃ lo,((rfd a p).getD fl0).l = lo:=⟨_,rfl⟩
      obtain ⟨ln,hln⟩:∃ ln,((rfd b p).getD fl0).l = ln:=⟨_,rfl⟩
      obtain ⟨q1,hq1⟩:∃ q,(rfd a p).isSome = q:=⟨_,rfl⟩
      obtain ⟨q2,hq2⟩:∃ q,(rfd b p).isSome = q:=⟨_,rfl⟩
      rw [hlo] at HO6
      rw [hln] at HN6
      have HCH:=hid (show chR a b p = ⟨p,q1,q2,lo,ln⟩ by rw [chR,hlo,hln,hq1,hq2])
      simp only [hlo,hln,hq1,hq2]
      clear hlo hln hq1 hq2 HO
      go_wp2_with (at_builtin;(refine (wpList_push (r:=rdCh) (e:=120) (S:=fun q=>q < w3.heap.size) (lo:=w3.heap.size) rfl _ _ _ rfl i0 _ 80 Tryz.underlying109 hi0 hz0 hz1 hz2 rfl (by omega) rfl (RowS.below R6.out (by exact fun q hq=>by omega) ((Below.refl _ _).alloc (nl_ _) _)) (fun _ h=>h) ?_ (chR a b p) [.slice ap p.length cp, .bool q1, .bool q2, .slice ao lo.length co, .slice an ln.length cn] w6.heap.size rfl ?_ (by have hag:=Ag_b (S:=fun q=>q < w3.heap.size) ((Below.refl w6.heap.size w6).alloc (nl_ _) (.cells #[.slice ap p.length cp, .bool q1, .bool q2, .slice ao lo.length co, .slice an ln.length cn] 120)) (fun q hq=>by omega);rw [HCH.out];exact ⟨ap,cp,ao,co,an,cn,rfl,HP6.out.agree hag,HO6.out.agree hag,HN6.out.agree hag⟩) ?_ ?_ ?_);(simp;omega);exact heap_alloc_new _ _;(unfold maxLen;omega);omega;intro VN WN HRn HGn HTn HLn);have BN:=hid (HLn _ (B6.out.alloc (by omega) _));have RN:=hid HRn;clear HRn HGn HTn HLn)
      go_roundw
      case rel=>exact ⟨k + 1,by omega,by go_num,by rw [HAC.out];exact RN,BN⟩
      case measure=>simp [intOf];omega
  · obtain rfl:k = al.length:=by omega
    have hlt':¬ (al.length:Int) < (al.length:Int):=by omega
    rw [List.take_length,← NIL.out] at HR
    obtain ⟨av,cv,rfl,_,_⟩:=HR.out.shape
    have BW:=hid (B3.out.trans (HB.out.mono B3.out.size))
    have hz9:=HB.out.size
    have LF:=hid (HR.out.lsl.wide (S':=fun q=>q < wr.heap.size) fun b hb=>by
     rcases hb with h | h
     · omega
     · exact h.2)
    go_wp2_with fail
    go_ret
    rw [HDL.out]
    exact ⟨av,cv,rfl,LF.out,BW.out⟩
end Go.Proofs.LF
namespace Go.Proofs.LF
open Go.RowKit Go.Sort
set_option maxHeartbeats 4000000
set_option maxRecDepth 100000
attribute [local go_sem] bs_toList bs_size bs_get
theorem wild_sm {l:List Ch} (h:wildB l = false):l.length ≤ 1000∧SmCh l∧SmL3 l:=by
 obtain ⟨h1,h2⟩:=wild_no h
 exact ⟨by omega,fun x hx=>by
  obtain ⟨a,b,c,d⟩:=h2 x hx
  exact ⟨by omega,fun k hk=>by have:=d k hk;omega,by omega,by omega⟩,fun x hx=>by
  obtain ⟨a,b,c,d⟩:=h2 x hx
  exact ⟨by omega,by omega,by omega⟩⟩
theorem fir2 (a b:Int):firE [a,b] = if a ≠ 0 then a else b:=by
 simp only [firE]
 by_cases h1:a = 0
 · by_cases h2:b = 0 <;> simp [h1,h2]
 · simp [h1]
theorem first2 (a b:Int) (W:World):Calls Tryz.prog 30 #[.slice (some ⟨W.heap.size,0,none⟩) 2 2] (W.alloc (.cells #[.int .i64 a, .int .i64 b] 28)) fun e w'=>e = .returned (.int .i64 (if a ≠ 0 then a else b))∧w' = W.alloc (.cells #[.int .i64 a, .int .i64 b] 28):=by
 have hblk:=heap_alloc_new W (.cells #[.int .i64 a, .int .i64 b] 28)
 have:=first_any [a,b] (some ⟨W.heap.size,0,none⟩) 2 (fun _=>True) (W.alloc (.cells #[.int .i64 a, .int .i64 b] 28)) ⟨rfl,_,2,rfl,by simp,by simp [maxLen],(fun h=>by cases h), .inr ⟨W.heap.size,0,rfl,trivial,fun j u hj=>by
  have:=cg_ hblk (k:=j) (v:=u) (by simpa using hj)
  simpa using this⟩⟩ (by simp)
 rw [fir2] at this
 exact this
end Go.Proofs.LF
namespace Go.Proofs.LF
open Go.RowKit Go.Sort
theorem unch_c (y:List Ch) (ay az:Option Addr) (cy cz:Nat) (W:World) (hy:ChIn W (.slice ay y.length cy) y) (hz:ChIn W (.slice az y.length cz) y) (ly:y.length ≤ 1000) (sy:SmCh y) :
 Calls Tryz.prog 74 #[.slice ay y.length cy, .slice az y.length cz] W fun e w'=>e = .returned (.bool true)∧Below W.heap.size W w':=by
 have h:=unch_any y y ay az cy cz _ W hy hz (fun _ h=>h) ly ly (fun x hx=>⟨(sy x hx).1,(sy x hx).2.2.1,(sy x hx).2.2.2⟩) (fun x hx=>⟨(sy x hx).1,(sy x hx).2.2.1,(sy x hx).2.2.2⟩)
 rwa [decide_eq_true rfl] at h
end Go.Proofs.LF
namespace Go.Proofs.LF
open Go.RowKit Go.Sort
set_option maxHeartbeats 4000000
set_option maxRecDepth 100000
attribute [local go_sem] bs_toList bs_size bs_get
theorem whole_any (l:List Fl) (al:Option Addr) (cl:Nat) (S:Nat→Prop) (w:World) (hl:LSl rdFl S w (.slice al l.length cl) l) (hS:∀ b,S b→b < w.heap.size) (ll:l.length ≤ 1000∧∀ x ∈ l,x.p.length ≤ 1000∧x.l.length ≤ 1000) :
 Calls Tryz.prog 162 #[.slice al l.length cl] w fun e w'=>e = .returned (.bool (wholeR l))∧Below w.heap.size w w':=by
 have HL:=hid hl
 have HS:=hid hS
 obtain ⟨_,_,he,_,hm,hat⟩:=hl.at
 cases he
 have HAT:=hid hat
 have LL:=hid ll
 unfold maxLen at hm
 obtain ⟨g,hg⟩:∃ g:Fl→Bool,(fun x=>!decide (1 < x.p.length) || (rfd l x.p.dropLast).isSome) = g:=⟨_,rfl⟩
 have hw:wholeR l = l.all g:=by rw [wholeR,hg]
 have hgx:∀ x,g x = (!decide (1 < x.p.length) || (rfd l x.p.dropLast).isSome):=fun x=>by rw [← hg]
 have HW:=hid hw
 have HG:=hid hgx
 have l1000:=ll.1
 clear hl hS ll hat hg hw hgx
 go_enter Tryz.func162,Tryz.ntmps162
 go_wp2_with fail
 go_loopw [3] (fun i wr=>∃ k:Nat,k ≤ l.length∧i = .int .i64 k∧Hid ((l.take k).all g = true)∧Hid (Below w.heap.size w wr)) (fun i _=>l.length - (intOf i).toNat)
 case atStart=>exact ⟨0,by omega,rfl,by simp [Hid],Below.refl _ _⟩
 case round=>
  obtain ⟨k,hk,rfl,HA,HB⟩:=hrel
  have hzr:=HB.out.size
  by_cases hlt:k < l.length
  · have hlt':(k:Int) < (l.length:Int):=by omega
    obtain ⟨gg,o,cs,rfl,hgg,⟨ap,cp,an,cn,rfl,hP,hN⟩,hcl⟩:=HAT.out k hlt
    have p0:=bc_ HB.out (HS.out gg hgg) (hcl 0 _ rfl)
    rw [Nat.add_zero] at p0
    have hsm:=LL.out.2 l[k] (List.getElem_mem hlt)
    have htk:l.take (k + 1) = l.take k ++ [l[k]]:=List.take_succ_eq_append_getElem hlt
    have hme:=List.getElem_mem hlt
    obtain ⟨x,hx⟩:∃ x,l[k] = x:=⟨_,rfl⟩
    rw [hx] at hP p0 hsm htk hme
    have hgx:=HG.out x
    obtain ⟨p,hp⟩:∃ p,x.p = p:=⟨_,rfl⟩
    rw [hp] at hP p0 hsm hgx
    have HP:=hid (hP.agree (Ag_b HB.out HS.out))
    have hcp:=(SlC.caps hP).1
    have lp:=hsm.1
    have hall:∀ b,g x = b→(l.take (k + 1)).all g = b:=fun b hb=>by rw [htk,List.all_append,HA.out];simp [hb]
    have hbad:g x = false→wholeR l = false:=fun hb=>by
     rw [HW.out,List.all_eq_false]
     exact ⟨x,hme,by rw [hb];simp⟩
    have HALL:=hid hall
    have HBAD:=hid hbad
    clear hcl hN hx hsm htk hme hP hp hgg hall hbad
    by_cases h1:1 < p.length
    · have h1':(1:Int) < (p.length:Int):=by omega
      obtain ⟨m,hm⟩:∃ m,p.length = m + 1:=⟨p.length - 1,by omega⟩
      have hdl:p.dropLast = p.take m:=by rw [List.dropLast_eq_take,hm];rfl
      have htl:(p.take m).length = m:=by rw [List.length_take];omega
      have hpp:=HP.out.pre (b:=m) (by omega)
      have F9:=Find_any l (p.take m) (some ⟨gg,o,none⟩) ap cl cp S wr (HL.out.agree (Ag_b HB.out HS.out)) (by rw [htl];exact hpp) (fun q hq=>by have:=HS.out q hq;omega) (by omega) (fun y hy=>(LL.out.2 y hy).1) (by omega)
      rw [htl] at F9
      have v5:(0:Int) ≤ (m:Int):=by omega
      have v6:(m:Int) ≤ (p.length:Int):=by omega
      have v7:IntKind.i64.wrap ((p.length:Int) - 1) = (m:Int):=by rw [show (p.length:Int) - 1 = m by omega];exact IntWalk.i64_in _ (by omega)
      have v8:(m:Int) ≤ (cp:Int):=by omega
      rw [hdl,decide_eq_true h1] at hgx
      rcases fi_cases l (p.take m) with ⟨jj,hjj,k1,k2,_⟩ | ⟨k1,k2⟩
      · rw [k1] at F9
        rw [k2] at hgx
        have HGX:=hid (show g x = true from hgx)
        have F9:=hid F9
        have v9:¬ (jj:Int) < 0:=by omega
        clear k1 k2 hpp htl hdl hgx hm h1
        go_wp2_with fail
        refine F9.out.mono ?_
        rintro e w9 ⟨rfl,hq9⟩
        have B9:=hid (HB.out.trans (hq9.mono HB.out.size))
        clear hq9
        go_wp2_with fail
        go_roundw
        case rel=>exact ⟨k + 1,by omega,by go_num,HALL.out _ HGX.out,B9⟩
        case measure=>simp [intOf];omega
      · rw [k1] at F9
        rw [k2] at hgx
        have HGX:=hid (show g x = false from hgx)
        have F9:=hid F9
        clear k1 k2 hpp htl hdl hgx hm h1
        go_wp2_with fail
        refine F9.out.mono ?_
        rintro e w9 ⟨rfl,hq9⟩
        have B9:=hid (HB.out.trans (hq9.mono HB.out.size))
        clear hq9
        go_wp2_with fail
        go_ret
        exact ⟨by rw [HBAD.out HGX.out];rfl,B9.out⟩
    · have h1':¬ (1:Int) < (p.length:Int):=by omega
      rw [decide_eq_false h1] at hgx
      have HGX:=hid (show g x = true from by rw [hgx];rfl)
      clear hgx h1
      go_wp2_with fail
      go_roundw
      case rel=>exact ⟨k + 1,by omega,by go_num,HALL.out _ HGX.out,HB⟩
      case measure=>simp [intOf];omega
  · obtain rfl:k = l.length:=by omega
    have hlt':¬ (l.length:Int) < (l.length:Int):=by omega
    have hA:=HA.out
    rw [List.take_length,← HW.out] at hA
    have HA2:=hid hA
    clear hA
    go_wp2_with fail
    go_ret
    exact ⟨by rw [HA2.out];rfl,HB.out⟩
theorem rmk_from:∀ {l:List Ch} {now:List Fl},(∀ x ∈ rmk now l,x ∈ now ∨ ∃ c ∈ l,x = ⟨c.p,c.new⟩)∧(rmk now l).length ≤ now.length + l.length
 | [],now=>⟨fun x hx => .inl hx,by simp [rmk]⟩
 | c :: r,now=>by
   obtain ⟨i1,i2⟩:=rmk_from (l:=r) (now:=stR now c)
   have h1:∀ x ∈ stR now c,x ∈ now ∨ x = ⟨c.p,c.new⟩:=fun x hx=>by
    unfold stR at hx
    split at hx
    · rcases putR_mem.1 hx with h | h
      · exact .inr h
      · exact .inl (List.mem_filter.1 h).1
    · exact .inl (List.mem_filter.1 hx).1
   have h2:(stR now c).length ≤ now.length + 1:=by
    have hf:=List.length_filter_le (fun x:Fl=>!decide (x.p = c.p)) now
    unfold stR
    split
    · rw [putR_len];omega
    · omega
   refine ⟨fun x hx=>?_,?_⟩
   · rcases i1 x hx with h | ⟨d,hd,h⟩
     · rcases h1 x h with h | h
       · exact .inl h
       · exact .inr ⟨c,by simp,h⟩
     · exact .inr ⟨d,by simp [hd],h⟩
   · show (rmk (stR now c) r).length ≤ _
     rw [List.length_cons];omega
theorem rmk_take {now:List Fl} {l:List Ch} {k:Nat} {c:Ch} (hk:k < l.length) (hc:l[k] = c):rmk now (l.take (k + 1)) = stR (rmk now (l.take k)) c:=by
 rw [List.take_succ_eq_append_getElem hk,hc,rmk,rmk,List.foldl_append];rfl
theorem fflt_take {l:List Fl} {f:Fl→Bool} {k:Nat} {x:Fl} (hk:k < l.length) (hx:l[k] = x):(l.take (k + 1)).filter f = (l.take k).filter f ++ (if f x then [x] else []):=by
 rw [List.take_succ_eq_append_getElem hk,hx,List.filter_append]
 simp only [List.filter_cons,List.filter_nil]
theorem RefMake_any (y:Fo) (l:List Ch) (ay al:Option Addr) (cy cl:Nat) (w:World) (hy:FSl (fun q=>q < w.heap.size) w (.slice ay y.len cy) y) (hl:LSl rdCh (fun q=>q < w.heap.size) w (.slice al l.length cl) l) (ly:y.len ≤ 1000∧y.Sm∧y.cnt ≤ 400) (ll:l.length ≤ 130) (sl:SmL3 l) (ky:chkY y = 0) (kl:ckC l = 0) :
 Calls Tryz.prog 70 #[.slice ay y.len cy, .slice al l.length cl] w fun e w'=>∃ a c,e = .returned (.tuple #[.slice a (mkY y l).len c, .int .i64 (mkE y l)])∧FSl (fun q=>q < w'.heap.size) w' (.slice a (mkY y l).len c) (mkY y l)∧Below w.heap.size w w':=by
 obtain ⟨i0,hi0,hz0,hz1,hz2⟩:=info_parts Tryz.info159
 obtain ⟨q1,q2⟩:=rm_eq ky kl
 have num:=fun q hq=>fls_num ky q hq
 have four:=fun q hq=>fls4 ky q hq
 have ck:=(ckC_zero kl).2.1
 have four2:∀ c ∈ l,c.p.length ≤ 4∧c.new.length ≤ 900:=fun c hc=>⟨(ckOne_zero (ck c hc)).1.2,by have:=(ckOne_zero (ck c hc)).2.2.1.2;omega⟩
 have L1:=Lines_at y ay cy w hy ly
 obtain ⟨ma,sa⟩:=fls_sml ky ly.2.1
 rw [← q1,← q2]
 generalize flsL [] y = now at *
 have L1:=hid L1
 have HF:=hid (show ∀ x,x ∈ now ∨ (∃ c ∈ l,x = ⟨c.p,c.new⟩)→x.p.length ≤ 4∧x.l.length ≤ 900 from fun x hx=>by
  rcases hx with h | ⟨c,hc,rfl⟩
  · exact ⟨four x h,num x h⟩
  · exact four2 c hc)
 have SA:=hid sa
 have HL:=hid hl
 obtain ⟨_,_,he,_,hm,hat⟩:=hl.at
 cases he
 have HAT:=hid hat
 have SL:=hid sl
 unfold maxLen at hm
 clear hy hl ly sl ky kl sa q1 q2 num four four2 ck hat
 go_enter Tryz.func70,Tryz.ntmps70
 go_wp2_with fail
 refine L1.out.mono ?_
 rintro e w1 ⟨a1,k1,rfl,h1,hb1⟩
 have H1:=hid h1
 have B1:=hid hb1
 clear h1 hb1
 go_upto_block 0 with fail
 go_cut [8] from 15 to 47 (fun _ wx=>l.all (fitR now) = true∧Below w.heap.size w wx∧Below w1.heap.size w1 wx)
 case first=>
  go_wp2_with fail
  go_loopw [7] (fun i wr=>∃ k:Nat,k ≤ l.length∧i = .int .i64 k∧Hid ((l.take k).all (fitR now) = true)∧Hid (Below w1.heap.size w1 wr)) (fun i _=>l.length - (intOf i).toNat)
  case atStart=>exact ⟨0,by omega,rfl,by simp [Hid],Below.refl _ _⟩
  case round=>
   obtain ⟨k,hk,rfl,HA,HB1⟩:=hrel
   have HB:=hid (B1.out.trans (HB1.out.mono B1.out.size))
   have hz1:=B1.out.size
   have hzr:=HB1.out.size
   by_cases hlt:k < l.length
   · have hlt':(k:Int) < (l.length:Int):=by omega
     obtain ⟨g,o,cs,rfl,hg,⟨ap,cp,ao,co,an,cn,rfl,hP,hO,hN⟩,hcl⟩:=HAT.out k hlt
     have hag:=Ag_b (S:=fun q=>q < w.heap.size) HB.out (fun _ h=>h)
     have c0:=hag.cell hg (hcl 0 _ rfl)
     have c1:=hag.cell hg (hcl 1 _ rfl)
     have c2:=hag.cell hg (hcl 2 _ rfl)
     have c3:=hag.cell hg (hcl 3 _ rfl)
     have c4:=hag.cell hg (hcl 4 _ rfl)
     rw [Nat.add_zero] at c0
     simp only [← Nat.add_assoc] at c1 c2 c3 c4
     have hsm:=SL.out l[k] (List.getElem_mem hlt)
     have hme:=List.getElem_mem hlt
     have htk:l.take (k + 1) = l.take k ++ [l[k]]:=List.take_succ_eq_append_getElem hlt
     obtain ⟨c,hx⟩:∃ c,l[k] = c:=⟨_,rfl⟩
     rw [hx] at hP hO c0 c1 c3 hsm hme htk
     have N1:=hid (numsR_any now c.p a1 ap k1 cp (fun q=>q < w1.heap.size) wr (H1.out.agree (Ag_b HB1.out fun _ h=>h)) ((hP.agree hag).wide fun q hq=>by omega) (fun q hq=>by omega) SA.out.big hsm.1)
     have HO:=hid (hO.agree hag)
     have HTK:=hid htk
     have HSM:=hid hsm
     have hfit:fitR now c = (((rfd now c.p).isSome == c.had) && decide (((rfd now c.p).getD fl0).l = c.old)):=rfl
     have lnum:((rfd now c.p).getD fl0).l.length ≤ 1000:=by
      cases hr:rfd now c.p with
      | none=>simp [fl0]
      | some z=>exact (SA.out.2 z (rfd_some hr).1).2
     obtain ⟨nl,hnl⟩:∃ nl,((rfd now c.p).getD fl0).l = nl:=⟨_,rfl⟩
     obtain ⟨nh,hnh⟩:∃ nh,(rfd now c.p).isSome = nh:=⟨_,rfl⟩
     rw [hnl,hnh] at N1 hfit
     rw [hnl] at lnum
     have HFIT:=hid hfit
     have HME:=hid hme
     clear hcl hP hO hN hx hag htk hme hfit hnl hnh c2 c4
     go_wp2_with fail
     refine N1.out.mono ?_
     rintro e w2 ⟨a2,c2,rfl,hI,hb2⟩
     have hz2:=hb2.size
     have d0:=bc_ hb2 (by omega) c0
     have d1:=bc_ hb2 (by omega) c1
     have d3:=bc_ hb2 (by omega) c3
     have B2:=hid (HB1.out.trans (hb2.mono hzr))
     have HI:=hid hI
     have HO2:=hid (HO.out.agree (Ag_b hb2 fun q hq=>by omega))
     clear hI hb2 c0 c1 c3 HO
     obtain ⟨hd,hhd⟩:∃ hd,c.had = hd:=⟨_,rfl⟩
     rw [hhd] at d1 HFIT
     have AL:=hid (alikeI_any nl c.old a2 ao c2 co (fun q=>q < w2.heap.size) w2 (HI.out.wide fun q hq=>by omega) (HO2.out.wide fun q hq=>by omega) (by omega) (by have:=HSM.out.2.1;omega))
     obtain ⟨ql,hql⟩:∃ q,decide (nl = c.old) = q:=⟨_,rfl⟩
     rw [hql] at AL HFIT
     clear hhd hql
     cases nh <;> cases hd
     rotate_left
     · have hbad:rmE now l = 7:=by
        rw [rmE,if_pos (by rw [List.all_eq_false];exact ⟨c,HME.out,by rw [HFIT.out];simp⟩)]
       have HBD:=hid hbad
       clear hbad
       go_wp2_with fail
       refine bodyPost_ret (v := .tuple #[.slice none 0 0, .int .i64 7]) (by simp [results,Tryz.results70,go_sem]) rfl ?_
       exact ⟨none,0,by rw [HBD.out,rmY,if_neg (by rw [HBD.out];omega)];rfl,by rw [rmY,if_neg (by rw [HBD.out];omega)];exact ⟨[],⟨rfl,none,0,rfl,nl_ _,by simp [maxLen],fun _=>rfl, .inl rfl⟩,rfl⟩,B1.out.trans (B2.out.mono hz1)⟩
     · have hbad:rmE now l = 7:=by
        rw [rmE,if_pos (by rw [List.all_eq_false];exact ⟨c,HME.out,by rw [HFIT.out];simp⟩)]
       have HBD:=hid hbad
       clear hbad
       go_wp2_with fail
       refine bodyPost_ret (v := .tuple #[.slice none 0 0, .int .i64 7]) (by simp [results,Tryz.results70,go_sem]) rfl ?_
       exact ⟨none,0,by rw [HBD.out,rmY,if_neg (by rw [HBD.out];omega)];rfl,by rw [rmY,if_neg (by rw [HBD.out];omega)];exact ⟨[],⟨rfl,none,0,rfl,nl_ _,by simp [maxLen],fun _=>rfl, .inl rfl⟩,rfl⟩,B1.out.trans (B2.out.mono hz1)⟩
     all_goals
      go_wp2_with fail
      refine AL.out.mono ?_
      rintro e w3 ⟨rfl,hb3⟩
      have B3:=hid (B2.out.trans (hb3.mono (by omega)))
      clear hb3
      cases ql
      · have hbad:rmE now l = 7:=by
         rw [rmE,if_pos (by rw [List.all_eq_false];exact ⟨c,HME.out,by rw [HFIT.out];simp⟩)]
        have HBD:=hid hbad
        clear hbad
        go_wp2_with fail
        refine bodyPost_ret (v := .tuple #[.slice none 0 0, .int .i64 7]) (by simp [results,Tryz.results70,go_sem]) rfl ?_
        exact ⟨none,0,by rw [HBD.out,rmY,if_neg (by rw [HBD.out];omega)];rfl,by rw [rmY,if_neg (by rw [HBD.out];omega)];exact ⟨[],⟨rfl,none,0,rfl,nl_ _,by simp [maxLen],fun _=>rfl, .inl rfl⟩,rfl⟩,B1.out.trans (B3.out.mono hz1)⟩
      · have hgd:(l.take (k + 1)).all (fitR now) = true:=by rw [HTK.out,List.all_append,HA.out];simp [HFIT.out]
        have HGD:=hid hgd
        clear hgd
        go_wp2_with fail
        go_roundw
        case rel=>exact ⟨k + 1,by omega,by go_num,HGD,B3⟩
        case measure=>simp [intOf];omega
   · obtain rfl:k = l.length:=by omega
     have hlt':¬ (l.length:Int) < (l.length:Int):=by omega
     have hA:=HA.out
     rw [List.take_length] at hA
     have HA2:=hid hA
     clear hA
     go_wp2_with fail
     go_meet
     case rel=>exact ⟨HA2.out,HB.out,HB1.out⟩
 case rest=>
  obtain ⟨hall,hba⟩:=hcut
  obtain ⟨wa,hwa⟩:∃ v,v = wc:=⟨_,rfl⟩
  subst hwa
  have HALL:=hid hall
  have BW1:=hid hba.2
  have BA:=hid hba.1
  have hza:=hba.1.size
  have hzw:=hba.2.size
  have NOW:=hid (H1.out.on hba.2)
  clear hall hba H1
  go_wp2_with fail
  go_loopw [6,10] (fun v i wr=>∃ (k a' c':Nat) (av:Option Addr),k ≤ l.length∧i = .int .i64 k∧v = .slice av (rmk now (l.take k)).length c'∧Hid (LSl rdFl (fun q=>q < wr.heap.size) wr (.slice av (rmk now (l.take k)).length c') (rmk now (l.take k)))∧Hid (Below wa.heap.size wa wr)) (fun _ i _=>l.length - (intOf i).toNat)
  case atStart=>exact ⟨0,0,k1,a1,by omega,rfl,rfl,NOW.out,Below.refl _ _⟩
  case round=>
   obtain ⟨k,_,cn,av,hk,rfl,rfl,HN,HB1⟩:=hrel
   obtain ⟨w5,hw5⟩:∃ v,v = wr:=⟨_,rfl⟩
   subst hw5
   have HB:=hid (BA.out.trans (HB1.out.mono hza))
   have hzr:=HB1.out.size
   have hzz:=HB.out.size
   have hcnt:=(rmk_from (l:=l.take k) (now:=now)).2
   have hfr:∀ x ∈ rmk now (l.take k),x.p.length ≤ 4∧x.l.length ≤ 900:=fun x hx=>HF.out x (by
    rcases (rmk_from (l:=l.take k) (now:=now)).1 x hx with h | ⟨c,hc,h⟩
    · exact .inl h
    · exact .inr ⟨c,List.mem_of_mem_take hc,h⟩)
   have hlen:(rmk now (l.take k)).length ≤ 200:=by
    rw [List.length_take] at hcnt;omega
   have HFR:=hid hfr
   clear hfr hcnt
   by_cases hlt:k < l.length
   · have hlt':(k:Int) < (l.length:Int):=by omega
     obtain ⟨g,o,cs,rfl,hg,⟨ap,cp,ao,co,an,cn2,rfl,hP,hO,hN⟩,hcl⟩:=HAT.out k hlt
     have hag:=Ag_b (S:=fun q=>q < w.heap.size) HB.out (fun _ h=>h)
     have c0:=hag.cell hg (hcl 0 _ rfl)
     have c1:=hag.cell hg (hcl 1 _ rfl)
     have c2:=hag.cell hg (hcl 2 _ rfl)
     have c3:=hag.cell hg (hcl 3 _ rfl)
     have c4:=hag.cell hg (hcl 4 _ rfl)
     rw [Nat.add_zero] at c0
     simp only [← Nat.add_assoc] at c1 c2 c3 c4
     have hsm:=SL.out l[k] (List.getElem_mem hlt)
     have hme:=List.getElem_mem hlt
     have hst:=rmk_take (now:=now) (k:=k) hlt rfl
     obtain ⟨c,hx⟩:∃ c,l[k] = c:=⟨_,rfl⟩
     rw [hx] at hP hN c0 c2 c4 hsm hme hst
     obtain ⟨cur,hcur⟩:∃ cur,rmk now (l.take k) = cur:=⟨_,rfl⟩
     rw [hcur] at HN HFR hlen hst
     simp only [hcur]
     have HST:=hid hst
     have PC:=hid (hP.agree hag)
     have NC:=hid (hN.agree hag)
     have HSM:=hid hsm
     have hgw:g < w5.heap.size:=Nat.lt_of_lt_of_le hg hzz
     clear hcl hP hO hN hx hst hag hme hcur c1 c3 hg
     obtain ⟨_,_,he,_,hmn,hatn⟩:=HN.out.at
     cases he
     have HATN:=hid hatn
     unfold maxLen at hmn
     clear hatn
     go_upto_block 4 with fail
     go_cut [11,12] from 54 to 78 (fun v _ wx=>Hid (RowS rdFl 159 (fun q=>q < w5.heap.size) w5.heap.size wx v (cur.filter fun x=>!decide (x.p = c.p)))∧Hid (Below w5.heap.size w5 wx))
     case first=>
      go_wp2_with fail
      go_loopw [11,12] (fun v i wx=>∃ j:Nat,j ≤ cur.length∧i = .int .i64 j∧Hid (RowS rdFl 159 (fun q=>q < w5.heap.size) w5.heap.size wx v ((cur.take j).filter fun x=>!decide (x.p = c.p)))∧Hid (Below w5.heap.size w5 wx)) (fun _ i _=>cur.length - (intOf i).toNat)
      case atStart=>exact ⟨0,by omega,rfl,RowS.nil _,Below.refl _ _⟩
      case round=>
       obtain ⟨j,hj,rfl,HR,HBX⟩:=hrel
       obtain ⟨wx,hwx⟩:∃ v,v = wr:=⟨_,rfl⟩
       subst hwx
       obtain ⟨vo,hvo⟩:∃ vo,vo = u11:=⟨_,rfl⟩
       subst hvo
       have hzx:=HBX.out.size
       by_cases hlj:j < cur.length
       · have hlj':(j:Int) < (cur.length:Int):=by omega
         obtain ⟨g2,o2,cs2,rfl,hg2,⟨bp,dp,bn,dn,rfl,hP2,hN2⟩,hcl2⟩:=HATN.out j hlj
         have e0:=bc_ HBX.out hg2 (hcl2 0 _ rfl)
         have e1:=bc_ HBX.out hg2 (hcl2 1 _ rfl)
         rw [Nat.add_zero] at e0
         rw [← Nat.add_assoc] at e1
         have d0:=bc_ HBX.out hgw c0
         have hft:=fflt_take (f:=fun x=>!decide (x.p = c.p)) hlj rfl
         have hfr2:=HFR.out cur[j] (List.getElem_mem hlj)
         obtain ⟨x,hx2⟩:∃ x,cur[j] = x:=⟨_,rfl⟩
         rw [hx2] at hP2 hN2 e0 e1 hft hfr2
         have HFT:=hid hft
         have P2:=hid (hP2.agree (Ag_b HBX.out fun _ h=>h))
         have N2:=hid (hN2.agree (Ag_b HBX.out fun _ h=>h))
         have PC2:=hid (PC.out.agree (Ag_b HBX.out fun q hq=>by omega))
         have hS0:wx.drew.cell? ⟨g2,o2 + j * 2,none⟩ = some (.slice bp x.p.length dp)∧wx.drew.cell? ⟨g,o + k * 5,none⟩ = some (.slice ap c.p.length cp):=⟨e0,d0⟩
         have HS0:=hid hS0
         have SM:=hid (Same_any x.p c.p bp ap dp cp (fun q=>q < wx.heap.size) wx.drew (P2.out.wide fun q hq=>by omega) (PC2.out.wide fun q hq=>by omega) (by omega) (by have:=HSM.out.1;omega))
         have hgx2:g2 < wx.heap.size:=by omega
         have hgx3:g < wx.heap.size:=by omega
         have hlf:((cur.take j).filter fun x=>!decide (x.p = c.p)).length ≤ j:=by
          refine Nat.le_trans (List.length_filter_le _ _) ?_
          rw [List.length_take];omega
         obtain ⟨acc,hacc⟩:∃ acc,((cur.take j).filter fun x=>!decide (x.p = c.p)) = acc:=⟨_,rfl⟩
         rw [hacc] at HR HFT hlf
         obtain ⟨qs,hqs⟩:∃ q,decide (x.p = c.p) = q:=⟨_,rfl⟩
         rw [hqs] at SM HFT
         clear hcl2 hP2 hN2 hx2 hft hfr2 hS0 hacc hqs hg2
         go_upto_region 15 with fail
         refine (wpIn_wide (n:=9)).1 ?_
         refine region_held (fun w':World=>w'.cell? ⟨g2,o2 + j * 2,none⟩ = some (.slice bp x.p.length dp)∧w'.cell? ⟨g,o + k * 5,none⟩ = some (.slice ap c.p.length cp)) (by kernel_rfl) ?_
         have hS1:=HS0.out
         refine tkY 0 60 (.slice (some ⟨g2,o2,none⟩) cur.length cn) rfl rfl hS1 (fun w' hs=>?_) ?_
         · go_simp
         refine tkY 1 61 (.int .i64 j) rfl rfl hS1 (fun w' hs=>?_) ?_
         · go_simp
         refine tkY 2 62 (.pointer (some ⟨g2,o2 + j * 2,none⟩)) rfl rfl hS1 (fun w' hs=>?_) ?_
         · go_simp
         refine tkY 3 63 (.pointer (some ⟨g2,o2 + j * 2,none⟩)) rfl rfl hS1 (fun w' hs=>?_) ?_
         · go_simp
         refine tkY 4 64 (.slice bp x.p.length dp) rfl rfl hS1 (fun w' hs=>?_) ?_
         · obtain ⟨y0,y1⟩:=hs
           go_simp
         refine tkY 5 65 (.slice (some ⟨g,o,none⟩) l.length cl) rfl rfl hS1 (fun w' hs=>?_) ?_
         · go_simp
         refine tkY 6 66 (.int .i64 k) rfl rfl hS1 (fun w' hs=>?_) ?_
         · go_simp
         refine tkY 7 67 (.pointer (some ⟨g,o + k * 5,none⟩)) rfl rfl hS1 (fun w' hs=>?_) ?_
         · go_simp
         refine tkY 8 68 (.pointer (some ⟨g,o + k * 5,none⟩)) rfl rfl hS1 (fun w' hs=>?_) ?_
         · go_simp
         refine tkY 9 69 (.slice ap c.p.length cp) rfl rfl hS1 (fun w' hs=>?_) ?_
         · obtain ⟨y0,y1⟩:=hs
           go_simp
         refine AnyH_one (i:=10) (by kernel_rfl) rfl (by kernel_rfl) (fun K hK=>?_)
         go_simp
         refine ⟨trivial,(callsIn_wide.2 SM.out).mono ?_⟩
         rintro e wy ⟨rfl,hby⟩
         have hS2:wy.cell? ⟨g2,o2 + j * 2,none⟩ = some (.slice bp x.p.length dp)∧wy.cell? ⟨g,o + k * 5,none⟩ = some (.slice ap c.p.length cp):=⟨bc_ hby hgx2 hS1.1,bc_ hby hgx3 hS1.2⟩
         refine hK _ _ ⟨hS2,?_⟩
         clear hK
         have hzy:wx.heap.size ≤ wy.heap.size:=hby.size
         have BY:=hid (show Below wx.heap.size wx wy from (Below.refl _ _).drew.trans hby)
         have BXY:=hid (HBX.out.trans (BY.out.mono hzx))
         have RY:=hid (HR.out.below (fun q hq=>by omega) BY.out)
         have f0:=bc_ BY.out hgx2 e0
         have f1:=bc_ BY.out hgx2 e1
         clear hby e0 e1 d0
         cases qs
         · refine tkY 11 71 (.bool true) rfl rfl hS2 (fun w' hs=>?_) ?_
           · go_simp
           refine AnyH_done (by kernel_rfl) ?_
           go_simp
           clear hS1 hS2
           have HAC:=hid (show ((cur.take (j + 1)).filter fun x=>!decide (x.p = c.p)) = acc ++ [x] by rw [HFT.out];rfl)
           go_wp2_with (at_builtin;(refine (wpList_push (r:=rdFl) (e:=159) (S:=fun q=>q < w5.heap.size) (lo:=w5.heap.size) rfl _ _ _ rfl i0 _ 48 Tryz.underlying38 hi0 hz0 hz1 hz2 rfl (by omega) rfl (RowS.below RY.out (by exact fun q hq=>by omega) ((Below.refl _ _).alloc (nl_ _) _)) (fun _ h=>h) ?_ x [.slice bp x.p.length dp, .slice bn x.l.length dn] wy.heap.size rfl ?_ (by have hag:=Ag_b (S:=fun q=>q < w5.heap.size) (BY.out.alloc hzy (.cells #[.slice bp x.p.length dp, .slice bn x.l.length dn] 159)) (fun q hq=>by omega);exact ⟨bp,dp,bn,dn,rfl,P2.out.agree hag,N2.out.agree hag⟩) ?_ ?_ ?_);(simp;omega);exact heap_alloc_new _ _;(unfold maxLen;omega);omega;intro VN WN HRn HGn HTn HLn);have BN:=hid (HLn _ (BXY.out.alloc (by omega) _));have RN:=hid HRn;clear HRn HGn HTn HLn)
           go_roundw
           case rel=>exact ⟨j + 1,by omega,by go_num,by rw [HAC.out];exact RN,BN⟩
           case measure=>simp [intOf];omega
         · refine tkY 11 71 (.bool false) rfl rfl hS2 (fun w' hs=>?_) ?_
           · go_simp
           refine AnyH_done (by kernel_rfl) ?_
           go_simp
           clear hS1 hS2
           have HAC:=hid (show ((cur.take (j + 1)).filter fun x=>!decide (x.p = c.p)) = acc by rw [HFT.out];simp)
           go_wp2_with fail
           go_roundw
           case rel=>exact ⟨j + 1,by omega,by go_num,by rw [HAC.out];exact RY,BXY⟩
           case measure=>simp [intOf];omega
       · obtain rfl:j = cur.length:=by omega
         have hlj':¬ (cur.length:Int) < (cur.length:Int):=by omega
         rw [List.take_length] at HR
         go_wp2_with fail
         go_meet
         case rel=>exact ⟨HR,HBX⟩
     case rest=>
      obtain ⟨HR,HBX⟩:=hcut
      obtain ⟨w6,hw6⟩:∃ v,v = wc:=⟨_,rfl⟩
      subst hw6
      have hz6:=HBX.out.size
      have B6:=hid (HB1.out.trans (HBX.out.mono hzr))
      obtain ⟨flt,hflt⟩:∃ f,(cur.filter fun x=>!decide (x.p = c.p)) = f:=⟨_,rfl⟩
      have hlf:flt.length ≤ cur.length:=by rw [← hflt];exact List.length_filter_le _ _
      have hst:∀ b,c.has = b→rmk now (l.take (k + 1)) = if b then putR ⟨c.p,c.new⟩ flt else flt:=fun b hb=>by rw [HST.out,stR,hflt,hb]
      have hfl4:∀ x ∈ flt,x.p.length ≤ 4:=fun x hx=>by rw [← hflt] at hx;exact (HFR.out x (List.mem_filter.1 hx).1).1
      rw [hflt] at HR
      have HST2:=hid hst
      have HFL:=hid hfl4
      obtain ⟨af,cf,hvf,_,_⟩:=HR.out.shape
      obtain ⟨vf,hvf2⟩:∃ v,v = u11:=⟨_,rfl⟩
      subst hvf2
      subst hvf
      have LF6:=hid ((HR.out.lsl).wide (S':=fun q=>q < w6.heap.size) fun q hq=>by
       rcases hq with hq | hq
       · omega
       · exact hq.2)
      have f0:=bc_ HBX.out hgw c0
      have f2:=bc_ HBX.out hgw c2
      have f4:=bc_ HBX.out hgw c4
      obtain ⟨ch,hch⟩:∃ b,c.has = b:=⟨_,rfl⟩
      rw [hch] at f2
      have HCH:=hid hch
      clear hflt hst hfl4 hch HST c0 c2 c4 HR
      cases ch
      · have HS3:=hid (show rmk now (l.take (k + 1)) = flt from HST2.out _ HCH.out)
        go_wp2_with fail
        go_roundw
        case rel=>exact ⟨k + 1,0,cf,af,by omega,by go_num,by rw [HS3.out],by rw [HS3.out];exact LF6,B6⟩
        case measure=>simp [intOf];omega
      · have HS3:=hid (show rmk now (l.take (k + 1)) = putR ⟨c.p,c.new⟩ flt from HST2.out _ HCH.out)
        have PC6:=hid ((PC.out.agree (Ag_b HBX.out fun q hq=>by omega)).wide (S':=fun q=>q < w6.heap.size) fun q hq=>by omega)
        have NC6:=hid ((NC.out.agree (Ag_b HBX.out fun q hq=>by omega)).wide (S':=fun q=>q < w6.heap.size) fun q hq=>by omega)
        have PU:=hid (putR_any flt ⟨c.p,c.new⟩ af ap an cf cp cn2 (fun q=>q < w6.heap.size) w6.drew (LF6.out.agree fun _ _=>rfl) (PC6.out.agree fun _ _=>rfl) (NC6.out.agree fun _ _=>rfl) (fun _ h=>h) (by omega) (fun y hy=>by have:=HFL.out y hy;omega) (by have:=HSM.out.1;omega))
        have HS0:=hid (show w6.drew.cell? ⟨g,o + k * 5,none⟩ = some (.slice ap c.p.length cp)∧w6.drew.cell? ⟨g,o + k * 5 + 4,none⟩ = some (.slice an c.new.length cn2) from ⟨f0,f4⟩)
        have hg6:g < w6.heap.size:=by omega
        clear f0 f4
        have hwd:w6.heap.size = w6.drew.heap.size:=rfl
        go_upto_region 19 with fail
        refine (wpIn_wide (n:=9)).1 ?_
        refine region_held (fun w':World=>w'.cell? ⟨g,o + k * 5,none⟩ = some (.slice ap c.p.length cp)∧w'.cell? ⟨g,o + k * 5 + 4,none⟩ = some (.slice an c.new.length cn2)) (by kernel_rfl) ?_
        have hS1:=HS0.out
        refine tkY 0 85 (.slice af flt.length cf) rfl rfl hS1 (fun w' hs=>?_) ?_
        · go_simp
        refine tkY 1 86 (.slice (some ⟨g,o,none⟩) l.length cl) rfl rfl hS1 (fun w' hs=>?_) ?_
        · go_simp
        refine tkY 2 87 (.int .i64 k) rfl rfl hS1 (fun w' hs=>?_) ?_
        · go_simp
        refine tkY 3 88 (.pointer (some ⟨g,o + k * 5,none⟩)) rfl rfl hS1 (fun w' hs=>?_) ?_
        · go_simp
        refine tkY 4 89 (.pointer (some ⟨g,o + k * 5,none⟩)) rfl rfl hS1 (fun w' hs=>?_) ?_
        · go_simp
        refine tkY 5 90 (.slice ap c.p.length cp) rfl rfl hS1 (fun w' hs=>?_) ?_
        · obtain ⟨y0,y1⟩:=hs
          go_simp
        refine tkY 6 91 (.slice (some ⟨g,o,none⟩) l.length cl) rfl rfl hS1 (fun w' hs=>?_) ?_
        · go_simp
        refine tkY 7 92 (.int .i64 k) rfl rfl hS1 (fun w' hs=>?_) ?_
        · go_simp
        refine tkY 8 93 (.pointer (some ⟨g,o + k * 5,none⟩)) rfl rfl hS1 (fun w' hs=>?_) ?_
        · go_simp
        refine tkY 9 94 (.pointer (some ⟨g,o + k * 5 + 4,none⟩)) rfl rfl hS1 (fun w' hs=>?_) ?_
        · go_simp
        refine tkY 10 95 (.slice an c.new.length cn2) rfl rfl hS1 (fun w' hs=>?_) ?_
        · obtain ⟨y0,y1⟩:=hs
          go_simp
        refine tkY 11 96 (.agg #[.slice ap c.p.length cp, .slice an c.new.length cn2]) rfl rfl hS1 (fun w' hs=>?_) ?_
        · go_simp
        refine AnyH_one (i:=12) (by kernel_rfl) rfl (by kernel_rfl) (fun K hK=>?_)
        go_simp
        refine ⟨trivial,(callsIn_wide.2 PU.out).mono ?_⟩
        rintro e w7 ⟨vp,rfl,hRp,hb7⟩
        have hS2:w7.cell? ⟨g,o + k * 5,none⟩ = some (.slice ap c.p.length cp)∧w7.cell? ⟨g,o + k * 5 + 4,none⟩ = some (.slice an c.new.length cn2):=⟨bc_ hb7 hg6 hS1.1,bc_ hb7 hg6 hS1.2⟩
        refine hK _ _ ⟨hS2,?_⟩
        clear hK
        obtain ⟨ap7,cp7,rfl,_,_⟩:=hRp.shape
        have hz7:w6.heap.size ≤ w7.heap.size:=hb7.size
        have B7:=hid (B6.out.trans ((show Below w6.heap.size w6 w7 from (Below.refl _ _).drew.trans hb7).mono (by omega)))
        have L7:=hid ((hRp.lsl).wide (S':=fun q=>q < w7.heap.size) fun q hq=>by
         rcases hq with hq | hq
         · omega
         · exact hq.2)
        clear hb7 hRp
        refine tkY 13 6 (.slice ap7 (putR ⟨c.p,c.new⟩ flt).length cp7) rfl rfl hS2 (fun w' hs=>?_) ?_
        · go_simp
        refine AnyH_done (by kernel_rfl) ?_
        go_simp
        clear hS1 hS2
        go_wp2_with fail
        go_roundw
        case rel=>exact ⟨k + 1,0,cp7,ap7,by omega,by go_num,by rw [HS3.out],by rw [HS3.out];exact L7,B7⟩
        case measure=>simp [intOf];omega
   · obtain rfl:k = l.length:=by omega
     have hlt':¬ (l.length:Int) < (l.length:Int):=by omega
     rw [List.take_length] at HN HFR hlen
     simp only [List.take_length]
     have BW:=hid (BA.out.trans (HB1.out.mono hza))
     obtain ⟨cur,hcur⟩:∃ cur,rmk now l = cur:=⟨_,rfl⟩
     have hE:rmE now l = if wholeR cur = false then 1 else if 60 < cur.length then 2 else 0:=by rw [rmE,if_neg (by rw [HALL.out];simp),hcur]
     have hY:rmE now l = 0→rmY now l = treR 4 cur []:=fun h=>by rw [rmY,if_pos h,hcur]
     have hY2:rmE now l ≠ 0→rmY now l = .nil:=fun h=>by rw [rmY,if_neg h]
     rw [hcur] at HN HFR hlen
     simp only [hcur]
     have HE:=hid hE
     have HY:=hid hY
     have HY2:=hid hY2
     have WH:=hid (whole_any cur av cn (fun q=>q < w5.heap.size) w5 HN.out (fun _ h=>h) ⟨by omega,fun x hx=>by have:=HFR.out x hx;omega⟩)
     have TT:=fun (w9:World) (h:Below w5.heap.size w5 w9)=>Tree_all cur av cn (by omega) (fun x hx=>by have:=HFR.out x hx;omega) 4 [] none 0 (by simp) (fun x hx=>by have:=(HFR.out x hx).1;simpa using this) (fun q=>q < w5.heap.size) w9 (HN.out.agree (Ag_b h fun _ h=>h)) ⟨rfl,none,0,rfl,nl_ _,by simp [maxLen],fun _=>rfl, .inl rfl⟩ (fun q hq=>by have:=h.size;omega)
     have TT:=hid TT
     clear hE hY hY2 hcur
     go_wp2_with fail
     refine WH.out.mono ?_
     rintro e w8 ⟨rfl,hb8⟩
     have B8:=hid (BW.out.trans (hb8.mono (by omega)))
     have B58:=hid hb8
     have hz8:=hb8.size
     clear hb8
     obtain ⟨qw,hqw⟩:∃ q,wholeR cur = q:=⟨_,rfl⟩
     rw [hqw] at HE
     rw [hqw]
     clear hqw
     cases qw
     · have h1:rmE now l = 1:=by rw [HE.out];rfl
       have h2:=HY2.out (by rw [h1];omega)
       have G1:=hid h1
       have G2:=hid h2
       clear h1 h2
       go_wp2_with fail
       refine bodyPost_ret (v := .tuple #[.slice none 0 0, .int .i64 1]) (by simp [results,Tryz.results70,go_sem]) rfl ?_
       rw [G1.out,G2.out]
       exact ⟨none,0,rfl,⟨[],⟨rfl,none,0,rfl,nl_ _,by simp [maxLen],fun _=>rfl, .inl rfl⟩,rfl⟩,B8.out⟩
     by_cases h60:60 < cur.length
     · have h60':(60:Int) < (cur.length:Int):=by omega
       have h1:rmE now l = 2:=by rw [HE.out,if_neg (by simp),if_pos h60]
       have h2:=HY2.out (by rw [h1];omega)
       have G1:=hid h1
       have G2:=hid h2
       clear h1 h2
       go_wp2_with fail
       refine bodyPost_ret (v := .tuple #[.slice none 0 0, .int .i64 2]) (by simp [results,Tryz.results70,go_sem]) rfl ?_
       rw [G1.out,G2.out]
       exact ⟨none,0,rfl,⟨[],⟨rfl,none,0,rfl,nl_ _,by simp [maxLen],fun _=>rfl, .inl rfl⟩,rfl⟩,B8.out⟩
     · have h60':¬ (60:Int) < (cur.length:Int):=by omega
       have h1:rmE now l = 0:=by rw [HE.out,if_neg (by simp),if_neg h60]
       have h2:=HY.out h1
       have G1:=hid h1
       have G2:=hid h2
       clear h1 h2
       go_wp2_with fail
       refine (TT.out w8 B58.out).mono ?_
       rintro e w9 ⟨a9,c9,rfl,hF9,hb9⟩
       have B9:=hid (B8.out.trans (hb9.mono B8.out.size))
       have HF9:=hid hF9
       clear hb9 hF9
       go_wp2_with fail
       refine bodyPost_ret (v := .tuple #[.slice a9 (treR 4 cur []).len c9, .int .i64 0]) (by simp [results,Tryz.results70,go_sem]) rfl ?_
       rw [G1.out,G2.out]
       exact ⟨a9,c9,rfl,HF9.out.wide (fun q hq=>hq.2),B9.out⟩
end Go.Proofs.LF
