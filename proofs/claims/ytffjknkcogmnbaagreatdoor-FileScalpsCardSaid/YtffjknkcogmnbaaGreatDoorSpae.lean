/- Parts of the proof of a law of layer 11 (file): LfYac. The conditions stand in each theorem. -/
import Derived.Laws.EntriesVeiled
import Derived.Laws.Externs
import Derived.Lib.AppendZeros
import Derived.Lib.Overlaps
import Derived.Lib.Walk
import Derived.Shelf.RegionOpenPlain
import Derived.Test.YtffjknkcogmnbaaGreatDoorProg
import Derived.Test.YtffjknkcogmnbaaGreatDoorSpaa
import Derived.Test.YtffjknkcogmnbaaGreatDoorSpac
set_option linter.all false
set_option linter.unusedVariables false
set_option linter.unusedSimpArgs false
set_option linter.all false
set_option linter.unusedVariables false
set_option linter.unusedSimpArgs false
namespace Go.Proofs.LF
open Go.RowKit
set_option maxHeartbeats 2000000
set_option maxRecDepth 100000
attribute [local go_sem] q1_ q2_ q6_
theorem jc_ (m:Nat):∀ (y:Fo) (d:Int) (a:Option Addr) (c:Nat) (S:Nat→Prop) (w:World),y.cnt < m→0 ≤ d→d ≤ 4→FSl S w (.slice a y.len c) y→(∀ b,S b→b < w.heap.size)→y.len ≤ 1000→y.Sm →
 Calls Tryz.prog 86 #[.int .i64 d, .slice a y.len c] w fun e w'=>e = .returned (.int .i64 (ordF d y))∧Below w.heap.size w w':=by
 induction m with
 | zero=>intro y _ _ _ _ _ h;omega
 | succ m ih=>
 intro y d a c S w hcnt h0 h9 hv hS hlen hsm
 obtain ⟨_,_,he,hc,hm,hat⟩:=hv.at
 cases he
 have IH:=hid ih
 clear ih
 unfold maxLen at hm
 go_enter Tryz.func86,Tryz.ntmps86
 go_wp2_with fail
 go_loopw [10] (fun i wr=>∃ (k:Nat) (p:Option Ky),k ≤ y.len∧i = .int .i64 k∧Hid (ordF d y = zD_ geK d p (y.drop k))∧Hid ((k = 0∧p = none) ∨ 0 < k∧∃ n l s r,y.drop (k - 1) = .cons n l s r∧p = some (kyOf n l))∧Below w.heap.size w wr) (fun i _=>y.len - (intOf i).toNat)
 case atStart=>exact ⟨0,none,by omega,rfl,rfl, .inl ⟨rfl,rfl⟩,Below.refl _ _⟩
 case round=>
  obtain ⟨k,p,hk,rfl,H2,HP,hB⟩:=hrel
  have HAT:=hid hat
  clear hat
  by_cases hlt:k < y.len
  · obtain ⟨g,o,nm,l,s,r,an,cn,ab,cb,rfl,hg1,hd,hc0,hc1,hc2,hI,hF⟩:=HAT.out k hlt
    have ha:qd_ S w wr:=q9_ hB hS
    have c0:=ha.cell hg1 hc0
    have c1:=ha.cell hg1 hc1
    have c2:=ha.cell hg1 hc2
    obtain ⟨s1,s2,s3,s4,_⟩:nm.length ≤ 1000∧l.length ≤ 1000∧s.len ≤ 1000∧s.Sm∧r.Sm:=by have:=hsm.drop (i:=k);rwa [hd] at this
    have s5:=Fo.cnt_at hd
    have HD:=hid hd
    have hsz:=hB.size
    have hcap:=(SlC.caps hI).1
    have hcap2:=(SlC.caps hI).2.1
    clear hc0 hc1 hc2 hd
    have H3:Hid (ordF d y = zD_ geK d p (.cons nm l s (y.drop (k + 1)))):=by
     rw [Hid,H2.out,HD.out,Fo.drop_succ HD.out]
    simp only [zD_] at H3
    have hBx:=hid (hB.alloc hsz (.cells #[.string (bs nm), .slice an l.length cn, .slice ab s.len cb] 109))
    by_cases t1:3 < d
    · have H4:=hid (H3.out.trans (if_pos t1))
      go_wp2_with fail
      go_ret
      exact ⟨qe_ H4.out.symm,hBx.out⟩
    · have H4:=hid (H3.out.trans (if_neg t1))
      clear H3
      go_wp2_with fail
      refine (named_any nm _ (by omega)).mono ?_
      rintro e w1 ⟨rfl,hb1⟩
      have hlt1:=hb1.size
      simp only [World.size_alloc] at hlt1
      have x0:w1.cell? ⟨wr.heap.size,0,none⟩ = some (.string (bs nm)):=bc_ hb1 (by simp) (by simp)
      have x1:w1.cell? ⟨wr.heap.size,1,none⟩ = some (.slice an l.length cn):=bc_ hb1 (by simp) (by simp)
      have x2:w1.cell? ⟨wr.heap.size,2,none⟩ = some (.slice ab s.len cb):=bc_ hb1 (by simp) (by simp)
      have hB1:=hid (hBx.out.trans (hb1.mono (by simp;omega)))
      clear hb1 c0 c1 c2
      cases t2:zN_ nm with
      | true=>
        have H5:=hid (H4.out.trans (if_pos t2))
        go_wp2_with fail
        go_ret
        exact ⟨qe_ H5.out.symm,hB1.out⟩
      | false=>
      have H5:=hid (H4.out.trans (if_neg (by rw [t2];simp)))
      clear H4
      by_cases t3:4 < (l.length:Int)
      · have H6:=hid (H5.out.trans (if_pos t3))
        go_wp2_with fail
        go_ret
        exact ⟨qe_ H6.out.symm,hB1.out⟩
      · have H6:=hid (H5.out.trans (if_neg t3))
        clear H5
        go_wp2_with fail
        refine (jj_ l an cn S _ (hI.agree (q9_ (B:=w.heap.size) hB1.out hS)) (fun b hb=>by have:=hS b hb;omega) (by omega)).mono ?_
        rintro e w2 ⟨rfl,hb2⟩
        have hlt2:=hb2.size
        have y0:=bc_ hb2 (by omega) x0
        have y1:=bc_ hb2 (by omega) x1
        have y2:=bc_ hb2 (by omega) x2
        have hB2:=hid (hB1.out.trans (hb2.mono (by omega)))
        clear hb2 x0 x1 x2
        cases t4:kb_ l with
        | true=>
          have H7:=hid (H6.out.trans (if_pos t4))
          go_wp2_with fail
          go_ret
          exact ⟨qe_ H7.out.symm,hB2.out⟩
        | false=>
        have H7:=hid (H6.out.trans (if_neg (by rw [t4];simp)))
        clear H6
        go_wp2_with fail
        have HS0:Hid (∀ b,S b→b < w2.heap.size):=fun b hb=>by have:=hS b hb;omega
        have ha2:qd_ S w w2:=q9_ hB2.out hS
        by_cases t5:0 < (k:Int)
        · obtain ⟨g',o',nm',l',s',r',an',cn',ab',cb',he',hg1',hd',hc0',hc1',hc2',hI',hF'⟩:=HAT.out (k - 1) (by omega)
          cases he'
          have hp:p = some (kyOf nm' l'):=by
           rcases HP.out with ⟨h0,_⟩ | ⟨_,n2,l2,s2,r2,e1,e2⟩
           · omega
           · rw [hd'] at e1;cases e1;exact e2
          subst hp
          obtain ⟨p1,p2,_⟩:nm'.length ≤ 1000∧l'.length ≤ 1000∧s'.len ≤ 1000∧s'.Sm∧r'.Sm:=by have:=hsm.drop (i:=k - 1);rwa [hd'] at this
          have d0:=ha2.cell hg1' hc0'
          have d1:=ha2.cell hg1' hc1'
          have d2:=ha2.cell hg1' hc2'
          have hgw:g < w2.heap.size:=HS0.out _ hg1'
          clear hc0' hc1' hc2' hF' hd'
          simp only at H7
          have tok1:True:=trivial
          have t5a:decide (0 < (k:Int)) = true:=decide_eq_true t5
          have t5b:decide (0 < k) = true:=decide_eq_true (by omega)
          have t5c:0 < k:=by omega
          have b1:(0:Int) ≤ (k:Int) - 1:=by omega
          have b2:(k:Int) - 1 < (y.len:Int):=by omega
          have b3:((k:Int) - 1).toNat = k - 1:=by omega
          have b5:(1:Int) ≤ (k:Int):=by omega
          have b6:(k:Int) ≤ (y.len:Int):=by omega
          have b7:1 ≤ k:=by omega
          have b4:IntKind.i64.wrap ((k:Int) - 1) = (k:Int) - 1:=IntWalk.i64_in _ (by omega)
          go_region_held3 (fun w'=>w'.cell? ⟨wr.heap.size,0,none⟩ = some (.string (bs nm))∧w'.cell? ⟨wr.heap.size,1,none⟩ = some (.slice an l.length cn)∧w'.cell? ⟨wr.heap.size,2,none⟩ = some (.slice ab s.len cb)∧w'.cell? ⟨g,o + (k - 1) * 3,none⟩ = some (.string (bs nm'))∧w'.cell? ⟨g,o + (k - 1) * 3 + 1,none⟩ = some (.slice an' l'.length cn')∧w'.cell? ⟨g,o + (k - 1) * 3 + 2,none⟩ = some (.slice ab' s'.len cb'))
           (first | go_keep | (go_split_ands;exact ⟨bc_ hb3 (by simp;omega) (by assumption),bc_ hb3 (by simp;omega) (by assumption),bc_ hb3 (by simp;omega) (by assumption),bc_ hb3 (by simp;omega) (by assumption),bc_ hb3 (by simp;omega) (by assumption),bc_ hb3 (by simp;omega) (by assumption)⟩) | (go_split_ands;have hlt3:=hb3.size;exact ⟨bc_ hb4 (by simp at hlt3;omega) (by assumption),bc_ hb4 (by simp at hlt3;omega) (by assumption),bc_ hb4 (by simp at hlt3;omega) (by assumption),bc_ hb4 (by simp at hlt3;omega) (by assumption),bc_ hb4 (by simp at hlt3;omega) (by assumption),bc_ hb4 (by simp at hlt3;omega) (by assumption)⟩) | (go_split_ands;have hlt3:=hb3.size;have hlt4:=hb4.size;exact ⟨bc_ hb5 (by simp at hlt3;omega) (by assumption),bc_ hb5 (by simp at hlt3;omega) (by assumption),bc_ hb5 (by simp at hlt3;omega) (by assumption),bc_ hb5 (by simp at hlt3;omega) (by assumption),bc_ hb5 (by simp at hlt3;omega) (by assumption),bc_ hb5 (by simp at hlt3;omega) (by assumption)⟩))
           (first
             | (go_at_call 90;have _t:=tok1;refine (zC_ nm' l' an' cn' _ S _ (hI'.agree (q9_ (B:=w.heap.size) hB2.out.drew hS)) ?_ ab' s'.len cb' rfl).mono ?_;(exact HS0.out);clear tok1;rintro e w3 ⟨rfl,hb3⟩)
             | (go_at_call 90;refine (zC_ nm l an cn _ S _ (hI.agree (q9_ (B:=w.heap.size) (hB2.out.drew.trans (hb3.mono (by simp;omega))) hS)) ?_ ab s.len cb rfl).mono ?_;(intro b hb;have:=hS b hb;have:=hb3.size;simp at this;omega);rintro e w4 ⟨rfl,hb4⟩)
             | (go_at_call 81;refine (vl_ (kyOf nm' l') (kyOf nm l) _).mono ?_;rintro e w5 ⟨rfl,hb5⟩))
          have HB3:Hid (Below w.heap.size w w5):=((hB2.out.drew.trans (hb3.mono (by simp;omega))).trans (hb4.mono (by have:=hb3.size;simp at this;omega))).trans (hb5.mono (by have:=hb3.size;have:=hb4.size;simp at *;omega))
          clear b1 b2 b3 b4 b5 b6 b7
          go_split_ands
          by_cases t6:0 ≤ byK (kyOf nm' l') (kyOf nm l)
          · have H8:=hid (H7.out.trans (if_pos (by unfold geK;simpa using t6)))
            go_wp2_with fail
            go_ret
            exact ⟨qe_ H8.out.symm,HB3.out⟩
          · have H8:=hid (H7.out.trans (if_neg (by unfold geK;simpa using t6)))
            by_cases t7:ordF (d + 1) s = 0
            · have H9:=hid (H8.out.trans (if_neg (show ¬ (zD_ geK (d + 1) none s ≠ 0) from fun h=>h t7)))
              go_wp2_with fail
              refine (IH.out s (d + 1) ab cb S _ (by omega) (by omega) (by omega) (hF.agree (q9_ (B:=w.heap.size) HB3.out hS)) ?_ s3 s4).mono ?_
              · intro b hb;have:=hS b hb;have:=HB3.out.size;(try simp at this ⊢);omega
              · rintro e w6 ⟨rfl,hb6⟩
                rw [t7]
                go_wp2_with fail
                go_roundw
                case rel=>exact ⟨k + 1,some (kyOf nm l),by omega,by go_num,H9.out, .inr ⟨by omega,nm,l,s,r,HD.out,rfl⟩,HB3.out.trans (hb6.mono HB3.out.size)⟩
                case measure=>simp [intOf];omega
            · have H9:=hid (H8.out.trans (if_pos (show (zD_ geK (d + 1) none s ≠ 0) from t7)))
              have t8:(ordF (d + 1) s != 0) = true:=by simpa using t7
              clear t7
              go_wp2_with fail
              refine (IH.out s (d + 1) ab cb S _ (by omega) (by omega) (by omega) (hF.agree (q9_ (B:=w.heap.size) HB3.out hS)) ?_ s3 s4).mono ?_
              · intro b hb;have:=hS b hb;have:=HB3.out.size;(try simp at this ⊢);omega
              · rintro e w6 ⟨rfl,hb6⟩
                go_wp2_with fail
                go_ret
                exact ⟨qe_ H9.out.symm,HB3.out.trans (hb6.mono HB3.out.size)⟩
        · have hp:p = none:=by
           rcases HP.out with ⟨_,h0⟩ | ⟨h0,_⟩
           · exact h0
           · omega
          subst hp
          simp only at H7
          have t5a:decide (0 < (k:Int)) = false:=decide_eq_false t5
          have t5b:decide (0 < k) = false:=decide_eq_false (by omega)
          have H8:=hid (H7.out.trans (if_neg (by simp)))
          go_quiet (fail)
          have HB3:=hid (qm_ hB2.out nq)
          by_cases t7:ordF (d + 1) s = 0
          · have H9:=hid (H8.out.trans (if_neg (show ¬ (zD_ geK (d + 1) none s ≠ 0) from fun h=>h t7)))
            go_wp2_with fail
            refine (IH.out s (d + 1) ab cb S _ (by omega) (by omega) (by omega) (hF.agree (q9_ (B:=w.heap.size) HB3.out hS)) ?_ s3 s4).mono ?_
            · intro b hb;have:=hS b hb;have:=HB3.out.size;(try simp at this ⊢);omega
            · rintro e w6 ⟨rfl,hb6⟩
              rw [t7]
              go_wp2_with fail
              go_roundw
              case rel=>exact ⟨k + 1,some (kyOf nm l),by omega,by go_num,H9.out, .inr ⟨by omega,nm,l,s,r,HD.out,rfl⟩,HB3.out.trans (hb6.mono HB3.out.size)⟩
              case measure=>simp [intOf];omega
          · have H9:=hid (H8.out.trans (if_pos (show (zD_ geK (d + 1) none s ≠ 0) from t7)))
            have t8:(ordF (d + 1) s != 0) = true:=by simpa using t7
            clear t7
            go_wp2_with fail
            refine (IH.out s (d + 1) ab cb S _ (by omega) (by omega) (by omega) (hF.agree (q9_ (B:=w.heap.size) HB3.out hS)) ?_ s3 s4).mono ?_
            · intro b hb;have:=hS b hb;have:=HB3.out.size;(try simp at this ⊢);omega
            · rintro e w6 ⟨rfl,hb6⟩
              go_wp2_with fail
              go_ret
              exact ⟨qe_ H9.out.symm,HB3.out.trans (hb6.mono HB3.out.size)⟩
  · go_wp2_with fail
    go_ret
    obtain rfl:k = y.len:=by omega
    exact ⟨qe_ (by rw [H2.out,Fo.drop_len];rfl),hB⟩
end Go.Proofs.LF
namespace Go.Proofs.LF
open Go.RowKit
set_option maxHeartbeats 4000000
set_option maxRecDepth 100000
theorem Tryz.info85i:(Tryz.prog.info? 109).map (fun i=>(i.zero,i.size,i.bytes)) = some (some (.agg #[.string ByteArray.empty, .slice none 0 0, .slice none 0 0]),3,64):=by kernel_rfl
def InsR (v:Value) (n i:Nat) (cs news:List Value) (B:Nat) (w:World) (e:Ending) (w':World):Prop:=
 ∃ a c,e = .returned (.slice a (n + 1) c)∧w'.ownsRow B 109 3 (.slice a (n + 1) c) (n + 1) (cs.take (i * 3) ++ (news ++ cs.drop (i * 3)))∧w.grownBy w' v.ownBlock∧(∀ g,(Value.slice a (n + 1) c).ownBlock = some g→v.ownBlock = some g ∨ g = w.heap.size)
theorem ins_end (v:Value) (n:Nat) (cs:List Value) (x y z:Value) (vb B:Nat) (w:World) (hown:w.ownsRow B 109 3 v n cs) (hvb:w.heap[vb]? = some (.cells #[x,y,z] 109 (0,0)))
 (h1v:∀ u ∈ [x,y,z],u.oneCell' = true) (hn:n ≤ 1000) (hB:B ≤ w.heap.size) :
 Calls Tryz.prog 166 #[v, .int .i64 n, .slice (some ⟨vb,0,none⟩) 1 1] w (InsR v n n cs [x,y,z] B w):=by
 obtain ⟨i0,hi0,hz0,hz1,hz2⟩:=info_parts Tryz.info85i
 have hnews:∀ (j:Nat) (u:Value),[x,y,z][j]? = some u→w.cell? ((⟨vb,0,none⟩:Addr).add j) = some u:=by
  have:=World.news_of_block (cs:=#[x,y,z]) (t:=109) (fr:=(0,0)) hvb
  exact this
 have hl:=hown.1
 rcases hown.2 with ⟨rfl,rfl⟩ | ⟨g,cap,cur,rfl,hbg,hg,hnc,hcap,hcs,htk⟩
 · go_enter Tryz.func166,Tryz.ntmps166
   go_wp2_with (at_builtin;refine q5_ _ rfl _ _ _ rfl B 109 i0 _ 3 64 Tryz.underlying38 hi0 hz0 hz1 hz2 rfl (by omega) _ 0 cs rfl hown (some ⟨vb,0,none⟩) 1 1 [x,y,z] rfl rfl (fun h=>by cases h) (fun ad had=>by cases had;exact hnews) h1v (by unfold maxLen;omega) (by omega) hB ?_;intro a' c' w' h2 h3 h4)
   go_ret
   exact ⟨a',c',rfl,by rw [List.take_of_length_le (by omega),List.drop_of_length_le (by omega),List.append_nil];exact h2,h3,h4⟩
 · have hnc':n ≤ cap:=hnc
   unfold maxLen at hcap
   go_enter Tryz.func166,Tryz.ntmps166
   go_wp2_with (at_builtin;refine q5_ _ rfl _ _ _ rfl B 109 i0 _ 3 64 Tryz.underlying38 hi0 hz0 hz1 hz2 rfl (by omega) _ n cs rfl hown (some ⟨vb,0,none⟩) 1 1 [x,y,z] rfl rfl (fun h=>by cases h) (fun ad had=>by cases had;exact hnews) h1v (by unfold maxLen;omega) (by omega) hB ?_;intro a' c' w' h2 h3 h4)
   all_goals (go_ret;exact ⟨a',c',rfl,by rw [List.take_of_length_le (by omega),List.drop_of_length_le (by omega),List.append_nil];exact h2,h3,h4⟩)
theorem zg_ {w w':World} {g o:Nat} {v:Value} (h:w'.heap[g]? = w.heap[g]?):(w'.setCell ⟨g,o,none⟩ v).heap[g]? = (w.setCell ⟨g,o,none⟩ v).heap[g]?:=by
 simp [World.setCell,Array.getElem?_modify,h]
theorem kR_ {w:World} {g o:Nat} {v:Value} {cur:Array Value} {t:TypeId} {fr:Nat × Nat} (h:w.heap[g]? = some (.cells cur t fr)):(w.setCell ⟨g,o,none⟩ v).heap[g]? = some (.cells (cur.setIfInBounds o v) t fr):=by
 simp [World.setCell,Array.getElem?_modify,h]
theorem xP_ {w:World} {g o:Nat} {v:Value} (h:w.cell? ⟨g,o,none⟩ = some v):(w.setCell ⟨g,o,none⟩ v).heap[g]? = w.heap[g]?:=by
 unfold World.cell? at h
 split at h
 · rename_i c t fr hb
   simp only [Option.isSome_none,Bool.false_eq_true,if_false] at h hb
   rw [kR_ hb,hb]
   have:c.setIfInBounds o v = c:=by
    apply Array.ext (by simp)
    intro i h1 h2
    rw [Array.getElem_setIfInBounds]
    split
    · rename_i e;subst e;rw [Array.getElem?_eq_getElem h2] at h;exact (Option.some.inj h).symm
    · rfl
   rw [this]
 · cases h
def Ctx (E Ty:TypeId) (B ob:Nat) (w:World) (g o:Nat) (T:Nat→Prop) (F:Fo→Fo):Prop:=
 ¬ T g∧g < w.heap.size∧B ≤ g∧(∀ b,T b→B ≤ b∧b < w.heap.size∧b ≠ ob) ∧
 ∀ (w':World) (vs':Value) (s':Fo) (T':Nat→Prop),w.heap.size ≤ w'.heap.size→(∀ b,b < w.heap.size→¬ T b→b ≠ g→w'.heap[b]? = w.heap[b]?)→w'.heap[g]? = (w.setCell ⟨g,o,none⟩ vs').heap[g]? →
  FOw E T' w' vs' s'→(∀ b,T' b→T b ∨ (w.heap.size ≤ b∧b < w'.heap.size)) →
  ∃ v',w'.heap[ob]? = some (.cells #[v'] Ty (0,0))∧FOw E (fun b=>B ≤ b∧b < w'.heap.size∧b ≠ ob) w' v' (F s')
theorem Ctx.start {E Ty:TypeId} {B ob:Nat} {w:World} {v:Value} {T:Nat→Prop} (h0:w.heap[ob]? = some (.cells #[v] Ty (0,0))) (hB:B ≤ ob) (hT:∀ b,T b→B ≤ b∧b < w.heap.size∧b ≠ ob):Ctx E Ty B ob w ob 0 T id:=by
 have hob:ob < w.heap.size:=(ge_ h0).1
 refine ⟨fun h=>(hT ob h).2.2 rfl,hob,hB,hT,fun w' vs' s' T' hsz _ hg hF hT'=>⟨vs',?_,?_⟩⟩
 · rw [hg,kR_ h0];rfl
 · refine hF.wide fun b hb=>?_
   rcases hT' b hb with h | h
   · have:=hT b h;exact ⟨this.1,by omega,this.2.2⟩
   · exact ⟨by omega,h.2,by omega⟩
theorem Ctx.grow {E Ty:TypeId} {B ob:Nat} {w w1:World} {g o:Nat} {T:Nat→Prop} {F:Fo→Fo} (h:Ctx E Ty B ob w g o T F) (hs:w.heap.size ≤ w1.heap.size) (hb:∀ b,b < w.heap.size→w1.heap[b]? = w.heap[b]?):Ctx E Ty B ob w1 g o T F:=by
 obtain ⟨h1,h2,h3,h4,h5⟩:=h
 refine ⟨h1,by omega,h3,fun b hb'=>⟨(h4 b hb').1,by have:=(h4 b hb').2.1;omega,(h4 b hb').2.2⟩,fun w' vs' s' T' hsz ha hg hF hT'=>?_⟩
 refine h5 w' vs' s' T' (by omega) (fun b hb1 hb2 hb3=>(ha b (by omega) hb2 hb3).trans (hb b hb1)) (hg.trans (zg_ (hb g h2))) hF (fun b hb'=>?_)
 rcases hT' b hb' with h | h
 · exact .inl h
 · exact .inr ⟨by omega,h.2⟩
theorem Ctx.step {E Ty:TypeId} {B ob:Nat} {w:World} {g o:Nat} {T:Nat→Prop} {F:Fo→Fo} {vs:Value} {s s2 r:Fo} {i:Nat} {n:List UInt8} {l:List Int} (h:Ctx E Ty B ob w g o T F) (hc:w.cell? ⟨g,o,none⟩ = some vs) (hF:FOw E T w vs s) (hd:s.drop i = .cons n l s2 r) :
 ∃ (g2 cap:Nat) (vn vs2:Value) (T2:Nat→Prop),vs = .slice (some ⟨g2,0,none⟩) s.len cap∧s.len ≤ cap∧cap ≤ maxLen∧w.cell? ⟨g2,i * 3,none⟩ = some (.string (bs n))∧w.cell? ⟨g2,i * 3 + 1,none⟩ = some vn∧w.cell? ⟨g2,i * 3 + 2,none⟩ = some vs2∧T g2∧qF_ T w vn l ∧
  FOw E T2 w vs2 s2∧Ctx E Ty B ob w g2 (i * 3 + 2) T2 (fun z=>F (s.setN i n l z)):=by
 obtain ⟨h1,h2,h3,h4,h5⟩:=h
 obtain ⟨ds,hown,hvs,hf⟩:=hF
 obtain ⟨vn,vs2,T2,c0,c1,c2,hT2,hI,hF2,hk⟩:=hf.hole hd
 have hlen:=hf.length
 have hil:i < s.len:=by
  rcases Nat.lt_or_ge i s.len with h | h
  · exact h
  · have:=Fo.len_drop i s
    rw [hd] at this
    simp only [Fo.len] at this
    omega
 obtain ⟨hl,hn | ⟨g2,cap,cur,rfl,_,hg2,hnc,hcap,hcs,htake⟩⟩:=hown
 · have:=hn.2
   omega
 have hTg2:=hvs g2 rfl
 have hcell:∀ j u,ds[j]? = some u→w.cell? ⟨g2,j,none⟩ = some u:=fun j u hj=>by
  simp only [World.cell?,hg2]
  rw [← htake,List.getElem?_take] at hj
  split at hj
  · simpa using hj
  · cases hj
 refine ⟨g2,cap,vn,vs2,T2,rfl,hnc,hcap,hcell _ _ c0,hcell _ _ c1,hcell _ _ c2,hTg2,hI.wide (fun b hb=>hb.1.1),hF2,?_⟩
 refine ⟨fun h=>(hT2 g2 h).2 rfl,(h4 g2 hTg2).2.1,(h4 g2 hTg2).1,fun b hb=>h4 b (hT2 b hb).1,fun w' vs' s' T' hsz ha hg hF' hT'=>?_⟩
 rw [kR_ hg2] at hg
 have hne:g2 ≠ g:=fun e=>h1 (e ▸ hTg2)
 refine h5 w' (.slice (some ⟨g2,0,none⟩) s.len cap) (s.setN i n l s') (fun b=>T b ∨ T' b) hsz (fun b b1 b2 b3=>ha b b1 (fun h=>b2 (hT2 b h).1) (fun e=>b2 (e ▸ hTg2))) ?_ ?_ ?_
 · rw [xP_ hc];exact ha g h2 (fun h=>h1 (hT2 g h).1) hne.symm
 · refine ⟨ds.set (i * 3 + 2) vs',⟨by rw [Fo.len_setN hil];simpa using hl, .inr ⟨g2,cap,_,by rw [Fo.len_setN hil],Nat.zero_le _,hg,by rw [Fo.len_setN hil];exact hnc,hcap,by simpa using hcs,?_⟩⟩,fun g' hg'=>?_,?_⟩
   · rw [Fo.len_setN hil,← htake,Array.toList_setIfInBounds,List.take_set]
   · obtain rfl:g2 = g':=by simpa [Value.ownBlock] using hg'
     exact .inl hTg2
   · refine (hk w' vs' s' T' (fun b hb=>ha b (h4 b hb.1.1).2.1 hb.2 (fun e=>hb.1.2 (by rw [e];rfl))) hF' (fun b hb hb'=>?_)).wide (fun b hb=>?_)
     · rcases hT' b hb with h | h
       · exact h
       · have:=(h4 b hb'.1).2.1;omega
     · rcases hb with hb | hb
       · exact ⟨.inl hb.1,hb.2⟩
       · refine ⟨.inr hb,fun e=>?_⟩
         obtain rfl:g2 = b:=by simpa [Value.ownBlock] using e
         rcases hT' g2 hb with h | h
         · exact (hT2 g2 h).2 rfl
         · have:=(h4 g2 hTg2).2.1;omega
 · intro b hb
   rcases hb with hb | hb
   · exact .inl hb
   · rcases hT' b hb with h | h
     · exact .inl (hT2 b h).1
     · exact .inr h
variable {T S:Nat→Prop} {B:Nat} {W W':World} {v u:Value} {ps:List (List Ky)} {ns:List (List Int)} {cs es:List Value}
end Go.Proofs.LF
namespace Go.Proofs.LF
open Go.RowKit
set_option maxHeartbeats 2000000
set_option maxRecDepth 100000
attribute [local go_sem] q1_ q2_ q6_
theorem Tryz.info71:(Tryz.prog.info? 96).map (fun i=>(i.zero,i.size,i.bytes)) = some (some (.agg #[.string ByteArray.empty, .bool false, .int .i64 0]),3,32):=by kernel_rfl
theorem Tryz.size71:(Tryz.prog.info? 96).map (·.size) = some 3:=by kernel_rfl
theorem yO_ (p:List Ky) (k:Ky) (a:Option Addr) (c:Nat) (S:Nat→Prop) (w:World) (hv:Pth S w (.slice a p.length c) p) (hS:∀ b,S b→b < w.heap.size) (hlen:p.length ≤ 1000) :
 Calls Tryz.prog 89 #[.slice a p.length c, .agg #[.string (bs k.n), .bool k.h, .int .i64 k.x]] w fun e w'=>∃ a' c',e = .returned (.slice a' (p.length + 1) c')∧Pth (Rg w.heap.size w'.heap.size) w' (.slice a' (p.length + 1) c') (p ++ [k])∧Below w.heap.size w w':=by
 obtain ⟨i0,hi0,hz0,hz1,hz2⟩:=info_parts Tryz.info71
 have hcap:=SlC.caps hv
 have hmk0:∃ mc:Array Value,mc.size = (p.length + 1) * 3∧∀ W:World,(Instr.makeSlice 92 (.int .i64 (p.length:Int)) (.int .i64 ((p.length:Int) + 1))).run Tryz.prog W = .ok (.slice (some ⟨W.heap.size,0,none⟩) p.length (p.length + 1)) (W.alloc (.cells mc 96)):=
  ⟨_,by rw [qs_,hz1],fun W=>zH_ (P:=Tryz.prog) 92 96 i0 _ Tryz.underlying92 hi0 hz0 .i64 .i64 p.length (p.length + 1) (by omega) (by rw [hz2];omega) (by omega) W⟩
 obtain ⟨mc,hmc,hmk⟩:=hmk0
 have HZ:=hid hmc
 clear hmc
 have hfin:∀ (W w3:World) (v':Value),w3.ownsRow w.heap.size 96 3 v' (p.length + 1) (p.flatMap Ky.cells ++ [.string (bs k.n), .bool k.h, .int .i64 k.x])→W.grownBy w3 (some (w.heap.size + 1))→Below w.heap.size w W →
  ∃ a' c',(Ending.returned v' = .returned (.slice a' (p.length + 1) c'))∧Pth (Rg w.heap.size w3.heap.size) w3 (.slice a' (p.length + 1) c') (p ++ [k])∧Below w.heap.size w w3:=by
  intro W w3 v' hown hg hb
  have hs:=SlC.of_owns hown
  obtain ⟨a',c',rfl,_⟩:=hs.shape
  refine ⟨a',c',rfl,?_,hb.grown hg hb.size (fun j hj=>by cases hj;omega)⟩
  unfold Pth
  rw [List.length_append,List.flatMap_append]
  exact hs
 have HF:=hid hfin
 clear hfin
 go_enter Tryz.func89,Tryz.ntmps89
 go_wp2_with (first
  | (refine vv_ rfl (.tmp 12) (.tmp 13) 92 92 rfl 96 3 Tryz.underlying92 Tryz.size71 w.heap.size (w.heap.size + 1) p.length (p.length + 1) a c rfl rfl mc (by have:=ha_ (w.alloc (.cells #[.string (bs k.n), .bool k.h, .int .i64 k.x] 96)) (.cells mc 96);simpa using this) (by omega) (by omega) (by unfold maxLen;omega) HZ.out (p.flatMap Ky.cells) (zm_ p) hcap.2.2 (SlC.news hv (q9_ (B:=w.heap.size) (((Below.refl _ _).alloc (nl_ _) _).alloc (by simp) _) hS)) (xr_ p) ?_;intro W hW1 hW2 hW3;have f0:=qh_ hW2 (b:=w.heap.size) (o:=0) (by simp) (v := .string (bs k.n)) (by simp);have f1:=qh_ hW2 (b:=w.heap.size) (o:=1) (by simp) (v := .bool k.h) (by simp);have f2:=qh_ hW2 (b:=w.heap.size) (o:=2) (by simp) (v := .int .i64 k.x) (by simp);simp only [World.size_alloc] at hW3;have HW3:=hid hW3;clear hW3)
  | (at_builtin;go_loud (refine wpList_append_own _ rfl (.tmp 15) (.tmp 17) 92 rfl w.heap.size 96 i0 _ 3 32 Tryz.underlying92 hi0 hz0 hz1 hz2 rfl (by omega) (.slice (some ⟨w.heap.size + 1,0,none⟩) p.length (p.length + 1)) p.length (p.flatMap Ky.cells) rfl (hW1.alloc _) ⟨W.heap.size,0,none⟩ 1 1 [.string (bs k.n), .bool k.h, .int .i64 k.x] rfl rfl (World.news_of_block (cs:=#[.string (bs k.n), .bool k.h, .int .i64 k.x]) (t:=96) (fr:=(0,0)) (ha_ _ _)) (by simp [Value.oneCell']) (by unfold maxLen;omega) (by omega) (by have:=HW3.out;simp;omega) ?_);intro v' w3 hown3 hgrow3 _))
 go_ret
 refine HF.out _ w3 v' hown3 hgrow3 ?_
 exact ((((Below.refl _ _).alloc (nl_ _) _).alloc (by simp) _).grown hW2 (by simp;omega) (fun j hj=>by cases hj;omega)).alloc (by have:=HW3.out;omega) _
end Go.Proofs.LF
namespace Go.Proofs.LF
open Go.RowKit
set_option maxHeartbeats 4000000
set_option maxRecDepth 100000
theorem Tryz.info85j:(Tryz.prog.info? 109).map (fun i=>(i.zero,i.size,i.bytes)) = some (some (.agg #[.string ByteArray.empty, .slice none 0 0, .slice none 0 0]),3,64):=by kernel_rfl
theorem ins_room (g n i cap:Nat) (cur:Array Value) (cs:List Value) (x y z:Value) (vb B:Nat) (w:World) (hi:i < n) (hbg:B ≤ g) (hg:w.heap[g]? = some (.cells cur 109 (0,0))) (hroom:n + 1 ≤ cap) (hcap:cap ≤ maxLen) (hcs:cur.size = cap * 3) (htk:cur.toList.take (n * 3) = cs)
 (hvb:w.heap[vb]? = some (.cells #[x,y,z] 109 (0,0))) (hne:vb ≠ g) (h1:∀ u ∈ cs,u.oneCell' = true) (h1v:∀ u ∈ [x,y,z],u.oneCell' = true) :
 Calls Tryz.prog 166 #[.slice (some ⟨g,0,none⟩) n cap, .int .i64 i, .slice (some ⟨vb,0,none⟩) 1 1] w (InsR (.slice (some ⟨g,0,none⟩) n cap) n i cs [x,y,z] B w):=by
 have hsz:(Tryz.prog.info? 109).map (·.size) = some 3:=by
  obtain ⟨i0,hi0,hz0,hz1,hz2⟩:=info_parts Tryz.info85j
  rw [hi0];simp [hz1]
 have hso:∀ W:World,(Go.sizeOf 109).run Tryz.prog W = .ok 3 W:=fun W=>by
  obtain ⟨i0,hi0,hz0,hz1,hz2⟩:=info_parts Tryz.info85j
  simp [Go.sizeOf,typeInfo,hi0,hz1]
 have hnews:∀ (j:Nat) (u:Value),[x,y,z][j]? = some u→∀ W:World,W.heap[vb]? = w.heap[vb]?→W.cell? ((⟨vb,0,none⟩:Addr).add j) = some u:=fun j u hj W hW=>
  World.news_of_block (w:=W) (cs:=#[x,y,z]) (t:=109) (fr:=(0,0)) (hW.trans hvb) j u hj
 have hcl:cs.length = n * 3:=by rw [← htk,List.length_take,Array.length_toList,hcs];omega
 have hdl:(cs.drop (i * 3)).length = 3 * (n - i):=by rw [List.length_drop,hcl];omega
 have hcl2:cur.toList.length = cap * 3:=by rw [Array.length_toList,hcs]
 have hov:∀ lb cb,(callFunc 203 #[.slice (some ⟨vb,0,none⟩) 1 1, .slice (some ⟨g,(i + 1) * 3,none⟩) lb cb]).run Tryz.prog w = .ok (.value (.bool false)) w:=fun lb cb=>by
  rw [run_callFunc_extern Tryz.func203 (by kernel_rfl) (by kernel_rfl) (by kernel_rfl) (e:=Extern.SlicesOverlaps.overlaps #[38,38] #[4]) (by kernel_rfl),
   Lib.run_overlaps_apart w 38 4 109 Tryz.underlying38 3 hso ⟨vb,0,none⟩ ⟨g,(i + 1) * 3,none⟩ 1 1 lb cb hne 109 109 3 (cap * 3) (by simp [World.shape?,hvb]) (by simp [World.shape?,hg,hcs]) (by omega) (by simp [World.frozen?,hvb]) (by simp [World.frozen?,hvb])]
  rfl
 unfold maxLen at hcap
 obtain ⟨c1,hc1⟩:∃ c1,c1 = cur.toList.take ((i + 1) * 3) ++ cs.drop (i * 3) ++ cur.toList.drop ((i + 1) * 3 + (cs.drop (i * 3)).length):=⟨_,rfl⟩
 obtain ⟨k1,k2,k3⟩:=ins_cells (news:=[x,y,z]) (k:=3) rfl htk hcl (Nat.le_of_lt hi) hroom hcl2 hc1
 have hcp1:∀ ty dc sc,(Builtin.copy_ #[38,38] ty #[.slice (some ⟨g,(i + 1) * 3,none⟩) (n - i) dc, .slice (some ⟨g,i * 3,none⟩) (n + 1 - i) sc]).run Tryz.prog w.drew = .ok (goInt (n - i:Nat)) (w.drew.setRow g c1.toArray):=fun ty dc sc=>by
  have:=qP_ (P:=Tryz.prog) w.drew 38 38 ty 109 3 g ((i + 1) * 3) (n - i) dc (n - i) ⟨g,i * 3,none⟩ (n + 1 - i) sc cur 109 (cs.drop (i * 3)) Tryz.underlying38 hsz hg (by simp only [Nat.min_def];split <;> omega) hdl
   (fun j v hj=>by
     rw [Addr.add_lit]
     rw [List.getElem?_drop,← htk,List.getElem?_take] at hj
     split at hj
     · have hgd:w.drew.heap[g]? = some (.cells cur 109 (0,0)):=hg
       simp only [World.cell?,hgd];simpa using hj
     · cases hj) (by rw [hdl,hcs];omega) (fun v hv=>h1 v (List.mem_of_mem_drop hv))
  rw [this,hc1]
 obtain ⟨W1,hW1⟩:∃ W1,w.drew.setRow g c1.toArray = W1:=⟨_,rfl⟩
 have hg1:W1.heap[g]? = some (.cells c1.toArray 109 (0,0)):=by rw [← hW1];exact zt_ hg
 have hvb1:W1.heap[vb]? = w.heap[vb]?:=by rw [← hW1];exact setRow_other w.drew g vb _ (fun e=>hne e)
 have hcp2:∀ ty dc,(Builtin.copy_ #[38,38] ty #[.slice (some ⟨g,i * 3,none⟩) (n + 1 - i) dc, .slice (some ⟨vb,0,none⟩) 1 1]).run Tryz.prog W1 = .ok (goInt (1:Nat)) (W1.setRow g (c1.take (i * 3) ++ [x,y,z] ++ c1.drop (i * 3 + [x,y,z].length)).toArray):=fun ty dc=>by
  have:=qP_ (P:=Tryz.prog) W1 38 38 ty 109 3 g (i * 3) (n + 1 - i) dc 1 ⟨vb,0,none⟩ 1 1 c1.toArray 109 [x,y,z] Tryz.underlying38 hsz hg1 (by simp only [Nat.min_def];split <;> omega) rfl
   (fun j v hj=>hnews j v hj W1 hvb1) (by simp [k3];omega) h1v
  simpa using this
 rw [hW1] at hcp1
 obtain ⟨c2,hc2⟩:∃ c2,c1.take (i * 3) ++ [x,y,z] ++ c1.drop (i * 3 + [x,y,z].length) = c2:=⟨_,rfl⟩
 rw [hc2] at hcp2 k1 k2
 have hin:¬ ((i:Int) = (n:Int)):=by omega
 have hle:¬ ((cap:Int) < (n:Int) + (1:Int)):=by omega
 have hb1:(0:Int) ≤ (i:Int) + (1:Int):=by omega
 have hii:(i:Int) ≤ (n:Int):=by omega
 have htn:((i:Int) + (1:Int)).toNat = i + 1:=by omega
 have hb2:¬ (cap = i + 1):=by omega
 have hb3:(i:Int) ≤ (n:Int) + (1:Int):=by omega
 have hb4:¬ (cap = i):=by omega
 have hgrw:w.grownBy (W1.setRow g c2.toArray) (some g):=by
  rw [← hW1]
  refine ⟨rfl,rfl,rfl,by simp [World.setRow],fun k hk hne'=>?_⟩
  exact (setRow_other _ g k _ (fun e=>hne' (by rw [e]))).trans (setRow_other _ g k _ (fun e=>hne' (by rw [e])))
 have hg2:(W1.setRow g c2.toArray).heap[g]? = some (.cells c2.toArray 109 (0,0)):=zt_ hg1
 have mixed:Tryz.prog.follows Departure.mixedOrders = true:=by kernel_rfl
 have hw1:IntKind.i64.wrap ((i:Int) + (1:Int)) = (i:Int) + (1:Int):=by rw [IntKind.wrap_i64];omega
 have hb5:¬ (i + 1 = cap):=by omega
 go_enter Tryz.func166,Tryz.ntmps166
 go_wp2_with (first | simp only [hov] | fail)
 go_region_law_o (refine kX_ rfl _ _ 38 38 rfl _ _ (by simp [Act.eval,Act.put]) (by simp [Act.eval,Act.put]) (hcp1 _ _ _) ?_)
 go_wp2_with (at_builtin;refine k4_ rfl _ _ 38 38 rfl _ _ rfl rfl (hcp2 _ _) ?_)
 go_ret
 exact ⟨some ⟨g,0,none⟩,cap,rfl,⟨by simp [hcl];omega, .inr ⟨g,cap,c2.toArray,rfl,hbg,hg2,hroom,by unfold maxLen;omega,by simpa using k2,by simpa using k1⟩⟩,hgrw,fun g' hg' => .inl hg'⟩
theorem ins_grow (g n i cap:Nat) (cur:Array Value) (cs:List Value) (x y z:Value) (vb B:Nat) (w:World) (hi:i < n) (hbg:B ≤ w.heap.size) (hg:w.heap[g]? = some (.cells cur 109 (0,0))) (hnc:n ≤ cap) (hroom:cap < n + 1) (hcs:cur.size = cap * 3) (htk:cur.toList.take (n * 3) = cs) (hn:n ≤ 1000)
 (hvb:w.heap[vb]? = some (.cells #[x,y,z] 109 (0,0))) (h1:∀ u ∈ cs,u.oneCell' = true) (h1v:∀ u ∈ [x,y,z],u.oneCell' = true) :
 Calls Tryz.prog 166 #[.slice (some ⟨g,0,none⟩) n cap, .int .i64 i, .slice (some ⟨vb,0,none⟩) 1 1] w (InsR (.slice (some ⟨g,0,none⟩) n cap) n i cs [x,y,z] B w):=by
 obtain ⟨i0,hi0,hz0,hz1,hz2⟩:=info_parts Tryz.info85j
 have hsz:(Tryz.prog.info? 109).map (·.size) = some 3:=by rw [hi0];simp [hz1]
 have hgw:g < w.heap.size:=(ge_ hg).1
 have hvw:vb < w.heap.size:=(ge_ hvb).1
 have hcl:cs.length = n * 3:=by rw [← htk,List.length_take,Array.length_toList,hcs];omega
 have hdl:(cs.drop (i * 3)).length = 3 * (n - i):=by rw [List.length_drop,hcl];omega
 have hcell:∀ (j:Nat) (u:Value),cs[j]? = some u→∀ W:World,W.heap[g]? = w.heap[g]?→W.cell? ⟨g,j,none⟩ = some u:=fun j u hj W hW=>by
  rw [← htk,List.getElem?_take] at hj
  split at hj
  · simp only [World.cell?,hW,hg];simpa using hj
  · cases hj
 have hold:(Builtin.firstCells i0.size i (.slice (some ⟨g,0,none⟩) i cap)).run Tryz.prog w.drew = .ok (cs.take (i * 3)).toArray w.drew:=by
  rw [hz1]
  exact run_firstCells_some w.drew 3 i ⟨g,0,none⟩ i cap (cs.take (i * 3)) (by rw [List.length_take];omega) (fun j v hj=>by
   rw [Addr.add_lit]
   rw [List.getElem?_take] at hj
   split at hj
   · rw [Nat.zero_add];exact hcell j v hj _ rfl
   · cases hj)
 obtain ⟨G,hG⟩:∃ G,G = grownCap w (n + 1) cap 109:=⟨_,rfl⟩
 obtain ⟨zs,hzs⟩:∃ zs:List Value,zs = (Builtin.zeroCells (Value.agg #[.string ByteArray.empty, .slice none 0 0, .slice none 0 0]).cells (n + 1 - i) ++ Builtin.zeroCells (Value.agg #[.string ByteArray.empty, .slice none 0 0, .slice none 0 0]).cells (G - (n + 1))).toList:=⟨_,rfl⟩
 have hGn:n + 1 ≤ G:=by rw [hG];exact grownCap_ge w _ _ _
 have hG63:G ≤ 9223372036854775807:=by
  have:=grownCap_le_maxLen w (n + 1) cap 109 (by unfold maxLen;omega)
  rw [← hG] at this
  unfold maxLen at this
  omega
 have hc3:(Value.agg #[.string ByteArray.empty, .slice none 0 0, .slice none 0 0]).cells.size = 3:=rfl
 have hzl:zs.length = (n + 1 - i) * 3 + (G - (n + 1)) * 3:=by
  rw [hzs,Array.length_toList,Array.size_append]
  simp only [Builtin.zeroCells,Array.size_map,Array.size_range,hc3]
 obtain ⟨r0,hr0⟩:∃ r0,r0 = cs.take (i * 3) ++ zs:=⟨_,rfl⟩
 have hrl:r0.length = G * 3:=by rw [hr0,List.length_append,List.length_take,hzl];omega
 obtain ⟨c1,hc1⟩:∃ c1,c1 = r0.take (i * 3) ++ [x,y,z] ++ r0.drop (i * 3 + [x,y,z].length):=⟨_,rfl⟩
 obtain ⟨k1,k2,k3⟩:=w5_ (n:=n) (k:=3) rfl hcl (Nat.le_of_lt hi) hr0 (by rw [hzl];omega) hc1
 have hik:i + (n + 1 - i) = n + 1:=by omega
 have hrz:∀ ty,(Builtin.append_ #[38,3] ty #[.slice (some ⟨g,0,none⟩) i cap, .int .i64 ((n:Int) + (1:Int) - (i:Int))]).run Tryz.prog w = .ok (.slice (some ⟨w.heap.size,0,none⟩) (n + 1) G) (w.drew.alloc (.cells r0.toArray 109)):=fun ty=>by
  have h:=Lib.run_append_grow_zeros (P:=Tryz.prog) w 38 3 ty 109 i0 _ .i64 .i64 Tryz.underlying38 Tryz.underlying3 hi0 hz0 (some ⟨g,0,none⟩) i cap (cs.take (i * 3)) hold (n + 1 - i) (by omega) (by omega) (by omega) (by omega) (by rw [hz2];omega) (by rw [hz2,hik];exact growslice_fits hroom (by omega))
  rw [hik,← hG] at h
  rw [show (n:Int) + (1:Int) - (i:Int) = ((n + 1 - i:Nat):Int) by omega,h,hr0,hzs]
  refine congrArg (fun r=>Result.ok _ (w.drew.alloc (.cells r 109))) ?_
  apply Array.ext'
  simp
 obtain ⟨W1,hW1⟩:∃ W1,w.drew.alloc (.cells r0.toArray 109) = W1:=⟨_,rfl⟩
 have hn1:W1.heap[w.heap.size]? = some (.cells r0.toArray 109 (0,0)):=by rw [← hW1];exact ha_ w.drew _
 have hg1:W1.heap[g]? = w.heap[g]?:=by rw [← hW1];exact heap_alloc_old w.drew _ hgw
 have hv1:W1.heap[vb]? = w.heap[vb]?:=by rw [← hW1];exact heap_alloc_old w.drew _ hvw
 have hb1:Below w.heap.size w W1:=by rw [← hW1];exact (Below.refl _ _).drew.alloc (nl_ _) _
 rw [hW1] at hrz
 have hcp1:∀ (W:World),W.heap = W1.heap→∀ ty dc,(Builtin.copy_ #[38,38] ty #[.slice (some ⟨w.heap.size,i * 3,none⟩) (n + 1 - i) dc, .slice (some ⟨vb,0,none⟩) 1 1]).run Tryz.prog W = .ok (goInt (1:Nat)) (W.setRow w.heap.size c1.toArray):=fun W hW ty dc=>by
  have:=qP_ (P:=Tryz.prog) W 38 38 ty 109 3 w.heap.size (i * 3) (n + 1 - i) dc 1 ⟨vb,0,none⟩ 1 1 r0.toArray 109 [x,y,z] Tryz.underlying38 hsz (by rw [hW];exact hn1) (by simp only [Nat.min_def];split <;> omega) rfl
   (fun j v hj=>World.news_of_block (w:=W) (cs:=#[x,y,z]) (t:=109) (fr:=(0,0)) (by rw [hW,hv1];exact hvb) j v hj) (by simp [hrl];omega) h1v
  rw [this,hc1]
 obtain ⟨W2,hW2⟩:∃ W2,W1.setRow w.heap.size c1.toArray = W2:=⟨_,rfl⟩
 have hn2:W2.heap[w.heap.size]? = some (.cells c1.toArray 109 (0,0)):=by rw [← hW2];exact zt_ hn1
 have hg2:W2.heap[g]? = w.heap[g]?:=by rw [← hW2];exact (setRow_other W1 _ g _ (by omega)).trans hg1
 have hb2:Below w.heap.size w W2:=by rw [← hW2];exact kV_ hb1 (nl_ _) _
 have hcp2:∀ ty dc sc,(Builtin.copy_ #[38,38] ty #[.slice (some ⟨w.heap.size,(i + 1) * 3,none⟩) (n - i) dc, .slice (some ⟨g,i * 3,none⟩) (n - i) sc]).run Tryz.prog W2.drew = .ok (goInt (n - i:Nat)) (W2.drew.setRow w.heap.size (c1.take ((i + 1) * 3) ++ cs.drop (i * 3) ++ c1.drop ((i + 1) * 3 + (cs.drop (i * 3)).length)).toArray):=fun ty dc sc=>by
  have:=qP_ (P:=Tryz.prog) W2.drew 38 38 ty 109 3 w.heap.size ((i + 1) * 3) (n - i) dc (n - i) ⟨g,i * 3,none⟩ (n - i) sc c1.toArray 109 (cs.drop (i * 3)) Tryz.underlying38 hsz hn2 (Nat.min_self _).symm hdl
   (fun j v hj=>by
     rw [Addr.add_lit]
     rw [List.getElem?_drop] at hj
     exact hcell _ v hj W2.drew hg2) (by simp [k3,hrl];omega) (fun v hv=>h1 v (List.mem_of_mem_drop hv))
  simpa using this
 obtain ⟨c2,hc2⟩:∃ c2,c1.take ((i + 1) * 3) ++ cs.drop (i * 3) ++ c1.drop ((i + 1) * 3 + (cs.drop (i * 3)).length) = c2:=⟨_,rfl⟩
 rw [hc2] at hcp2 k1 k2
 have hn3:(W2.drew.setRow w.heap.size c2.toArray).heap[w.heap.size]? = some (.cells c2.toArray 109 (0,0)):=zt_ hn2
 have hb3:Below w.heap.size w (W2.drew.setRow w.heap.size c2.toArray):=kV_ hb2.drew (nl_ _) _
 have hin:¬ ((i:Int) = (n:Int)):=by omega
 have hlt:(cap:Int) < (n:Int) + (1:Int):=by omega
 have hb1:(0:Int) ≤ (i:Int) + (1:Int):=by omega
 have hii:(i:Int) ≤ (n:Int):=by omega
 have hic:(i:Int) ≤ (cap:Int):=by omega
 have htn:((i:Int) + (1:Int)).toNat = i + 1:=by omega
 have hb2':¬ (G = i + 1):=by omega
 have hb3':(i:Int) ≤ (n:Int) + (1:Int):=by omega
 have hb4:¬ (cap = i):=by omega
 have hb5:¬ (i + 1 = G):=by omega
 have hb6:¬ (G = i):=by omega
 have mixed:Tryz.prog.follows Departure.mixedOrders = true:=by kernel_rfl
 have hw1:IntKind.i64.wrap ((i:Int) + (1:Int)) = (i:Int) + (1:Int):=by rw [IntKind.wrap_i64];omega
 have hE:∀ W:World,W.drew.heap = W.heap:=fun _=>rfl
 clear hcell hold hG hzs hr0 hc1 hc2
 go_enter Tryz.func166,Tryz.ntmps166
 go_wp2_with (first
  | (at_builtin;refine Lib.wpList_append_run _ rfl _ _ _ _ rfl _ _ rfl rfl _ _ (hrz _) ?_)
  | (at_builtin;refine k4_ rfl _ _ 38 38 rfl _ _ rfl rfl (hcp1 _ rfl _ _) ?_))
 go_region_law_o (refine kX_ rfl _ _ 38 38 rfl _ _ (by simp [Act.eval,Act.put]) (by simp [Act.eval,Act.put]) (hcp2 _ _ _) ?_)
 go_wp2
 go_ret
 exact ⟨some ⟨w.heap.size,0,none⟩,G,rfl,⟨by simp [hcl];omega, .inr ⟨w.heap.size,G,c2.toArray,rfl,hbg,hn3,hGn,by unfold maxLen;omega,by simpa [hrl] using k2,by simpa using k1⟩⟩,⟨hb3.os,hb3.tape,hb3.output,hb3.size,fun k hk _=>hb3.block k hk⟩,fun g' hg' => .inr (by simpa [Value.ownBlock] using hg'.symm)⟩
theorem ins_any (v:Value) (n i:Nat) (cs:List Value) (x y z:Value) (vb B:Nat) (w:World) (hown:w.ownsRow B 109 3 v n cs) (hi:i ≤ n) (hvb:w.heap[vb]? = some (.cells #[x,y,z] 109 (0,0))) (hne:v.ownBlock ≠ some vb)
 (h1:∀ u ∈ cs,u.oneCell' = true) (h1v:∀ u ∈ [x,y,z],u.oneCell' = true) (hn:n ≤ 1000) (hB:B ≤ w.heap.size) :
 Calls Tryz.prog 166 #[v, .int .i64 i, .slice (some ⟨vb,0,none⟩) 1 1] w (InsR v n i cs [x,y,z] B w):=by
 by_cases hin:i = n
 · subst hin
   exact ins_end v i cs x y z vb B w hown hvb h1v hn hB
 · rcases hown.2 with ⟨rfl,rfl⟩ | ⟨g,cap,cur,rfl,hbg,hg,hnc,hcap,hcs,htk⟩
   · omega
   · by_cases hroom:n + 1 ≤ cap
     · exact ins_room g n i cap cur cs x y z vb B w (by omega) hbg hg hroom hcap hcs htk hvb (fun e=>hne (by rw [e];rfl)) h1 h1v
     · exact ins_grow g n i cap cur cs x y z vb B w (by omega) hB hg hnc (by omega) hcs htk hn hvb h1 h1v
end Go.Proofs.LF
namespace Go.Proofs.LF
open Go.RowKit
set_option maxHeartbeats 20000000
set_option maxRecDepth 100000
attribute [local go_sem] q1_ q2_ q6_ Oper.semAt_some
structure NdV where
 up:List Ky
 ua:Option Addr
 uc:Nat
 n:List UInt8
 l:List Int
 an:Option Addr
 cn:Nat
 s:Fo
 ab:Option Addr
 cb:Nat
def NdV.dat (x:NdV):NdD:=⟨x.up,x.n,x.l,x.s⟩
def NdV.encs (x:NdV):Array Value:=#[.slice x.ua x.up.length x.uc, .agg #[.string (bs x.n), .slice x.an x.l.length x.cn, .slice x.ab x.s.len x.cb]]
def NdV.E (S:Nat→Prop) (W:World) (x:NdV):Prop:=
 Pth S W (.slice x.ua x.up.length x.uc) x.up∧qF_ S W (.slice x.an x.l.length x.cn) x.l∧FSl S W (.slice x.ab x.s.len x.cb) x.s ∧
 x.n.length ≤ 1000∧x.l.length ≤ 1000∧x.s.len ≤ 1000∧x.s.Sm∧x.up.length ≤ 900
def PushR (J Jx:List NdD→(Nat→Prop)→World→Prop) (pre xs:List NdD) (O:Nat→Prop) (W:World) (e:Ending) (W':World):Prop:=
 (e = .returned (.bool true)∧∃ O',J (pre ++ xs) O' W'∧Keep O W W'∧(∀ b,O' b→O b ∨ W.heap.size ≤ b)∧(∀ b,O' b→b < W'.heap.size)) ∨
 (e = .returned (.bool false)∧∃ q O',q <+: xs∧Jx (pre ++ q) O' W'∧Keep O W W')
theorem push_any (G:List NdD→Prop) (l Yb Db:Nat) (J Jx:List NdD→(Nat→Prop)→World→Prop)
 (hJ:∀ pre O A B,J pre O A→Below A.heap.size A B→J pre O B)
 (hY:∀ m pre x O W1,J pre O W1→G (pre ++ [x.dat])→NdV.E (fun b=>b < W1.heap.size∧¬ O b) W1 x→YieldAt Fence.wide m Tryz.prog l (NdV.encs x) W1 fun e W'=>
   (e = .returned (.bool true)∧∃ O',J (pre ++ [x.dat]) O' W'∧Keep O W1 W'∧(∀ b,O' b→O b ∨ W1.heap.size ≤ b)∧(∀ b,O' b→b < W'.heap.size)) ∨
   (e = .returned (.bool false)∧∃ O',Jx (pre ++ [x.dat]) O' W'∧Keep O W1 W')) (m:Nat) :
 ∀ (n:Nat) (y:Fo) (up:List Ky) (ua:Option Addr) (uc:Nat) (a:Option Addr) (c:Nat) (pre:List NdD) (S O:Nat→Prop) (W:World),y.cnt < m→J pre O W →
  W.cell? ⟨Yb,0,none⟩ = some (.func (.yield l) #[] #[])→W.cell? ⟨Db,0,none⟩ = some (.func (.func 88) #[] #[.pointer (some ⟨Yb,0,none⟩), .pointer (some ⟨Db,0,none⟩)]) →
  (Yb < W.heap.size∧¬ O Yb)→(Db < W.heap.size∧¬ O Db)→Pth S W (.slice ua up.length uc) up→FSl S W (.slice a y.len c) y→(∀ b,S b→b < W.heap.size∧¬ O b)→(∀ b,O b→b < W.heap.size) →
  y.len ≤ 1000→y.Sm→up.length + y.cnt ≤ 900→(∀ q,q <+: qa_ up y→G (pre ++ q)) →
  CallsIn Fence.wide n Tryz.prog 88 #[.slice ua up.length uc, .slice a y.len c, .pointer (some ⟨Yb,0,none⟩), .pointer (some ⟨Db,0,none⟩)] W (PushR J Jx pre (qa_ up y) O W):=by
 induction m with
 | zero=>intro _ y _ _ _ _ _ _ _ _ _ h;omega
 | succ m ih=>
 intro n y up ua uc a c pre S O W hcnt hJ0 hyc hdc hyb hdb hup hv hS hO hlen hsm hdep hGn
 have HG:=hid hGn
 clear hGn
 obtain ⟨_,_,he,hc,hm,hat⟩:=hv.at
 cases he
 have IH:=hid ih
 have HY:=hid hY
 have HJ:=hid hJ
 have HS:=hid hS
 have HO:=hid hO
 clear ih hY hJ hS hO
 unfold maxLen at hm
 refine callsIn_of_wp Tryz.func88 rfl trivial ?_ rfl
 simp only [Tryz.ntmps88,List.size_toArray,List.length_cons,List.length_nil,Nat.reduceAdd,Nat.reduceSub,Array.replicate_succ,Array.replicate_zero,List.push_toArray,List.append_toArray,List.nil_append,List.cons_append]
 gi_wp2_with fail
 gi_loopw [11] (fun i wr=>∃ (k:Nat) (Ok:Nat→Prop),k ≤ y.len∧i = .int .i64 k∧Hid (J (pre ++ qa_ up (y.take k)) Ok wr)∧Hid (Keep O W wr)∧Hid (∀ b,Ok b→O b ∨ W.heap.size ≤ b)∧Hid (∀ b,Ok b→b < wr.heap.size)) (fun i _=>y.len - (intOf i).toNat)
 case atStart=>exact ⟨0,O,by omega,rfl,by simpa [Hid,Fo.take,qa_] using hJ0,Keep.refl _ _,fun b h => .inl h,HO.out⟩
 case round=>
  obtain ⟨k,Ok,hk,rfl,HJk,HK,HOk,HOz⟩:=hrel
  have HAT:=hid hat
  clear hat
  by_cases hlt:k < y.len
  · obtain ⟨g,o,nm,l',s,r,an,cn,ab,cb,rfl,hg1,hd,hc0,hc1,hc2,hI,hF⟩:=HAT.out k hlt
    have ha:qd_ S W wr:=HK.out.agree HS.out
    have c0:=ha.cell hg1 hc0
    have c1:=ha.cell hg1 hc1
    have c2:=ha.cell hg1 hc2
    have yc:=HK.out.cell hyb.1 hyb.2 hyc
    have dc:=HK.out.cell hdb.1 hdb.2 hdc
    obtain ⟨s1,s2,s3,s4,_⟩:nm.length ≤ 1000∧l'.length ≤ 1000∧s.len ≤ 1000∧s.Sm∧r.Sm:=by have:=hsm.drop (i:=k);rwa [hd] at this
    have s5:=Fo.cnt_at hd
    have HD:=hid hd
    clear hc0 hc1 hc2 hd
    gi_wp2_with fail
    have hbel:Below wr.heap.size wr (wr.alloc (.cells #[.string (bs nm), .slice an l'.length cn, .slice ab s.len cb] 109)).drew:=((Below.refl _ _).alloc (nl_ _) _).drew
    have HJ1:=hid (HJ.out _ _ _ _ HJk.out hbel)
    have HK1:Hid (Keep O W (wr.alloc (.cells #[.string (bs nm), .slice an l'.length cn, .slice ab s.len cb] 109)).drew):=HK.out.trans (Keep.of_below hbel)
    have hSx:∀ b,S b→b < wr.heap.size∧¬ Ok b:=fun b hb=>by
     have h1:=HS.out b hb
     have h2:=HK.out.size
     refine ⟨by omega,fun h=>?_⟩
     rcases HOk.out b h with h3 | h3
     · exact h1.2 h3
     · omega
    have hE0:NdV.E (fun b=>b < (wr.alloc (.cells #[.string (bs nm), .slice an l'.length cn, .slice ab s.len cb] 109)).drew.heap.size∧¬ Ok b) (wr.alloc (.cells #[.string (bs nm), .slice an l'.length cn, .slice ab s.len cb] 109)).drew ⟨up,ua,uc,nm,l',an,cn,s,ab,cb⟩:=by
     have hw:∀ b,S b→b < (wr.alloc (.cells #[.string (bs nm), .slice an l'.length cn, .slice ab s.len cb] 109)).drew.heap.size∧¬ Ok b:=fun b hb=>⟨by have:=(hSx b hb).1;simp;omega,(hSx b hb).2⟩
     have ha1:qd_ S W (wr.alloc (.cells #[.string (bs nm), .slice an l'.length cn, .slice ab s.len cb] 109)).drew:=HK1.out.agree HS.out
     exact ⟨(hup.agree ha1).wide hw,(hI.agree ha1).wide hw,(hF.agree ha1).wide hw,s1,s2,s3,s4,by simp only;omega⟩
    have hg0:G (pre ++ qa_ up (y.take k) ++ [NdV.dat ⟨up,ua,uc,nm,l',an,cn,s,ab,cb⟩]):=by
     rw [List.append_assoc]
     refine HG.out _ (List.IsPrefix.trans ?_ (zv_ (k:=k + 1)))
     rw [zb_ HD.out]
     exact ⟨qa_ (up ++ [kyOf nm l']) s,by simp [NdV.dat]⟩
    have hyr:=HY.out (n - 1) _ ⟨up,ua,uc,nm,l',an,cn,s,ab,cb⟩ Ok _ HJ1.out hg0 hE0
    clear hg0
    refine q8_ (fun w'=>w'.cell? ⟨Yb,0,none⟩ = some (.func (.yield l) #[] #[])∧w'.cell? ⟨Db,0,none⟩ = some (.func (.func 88) #[] #[.pointer (some ⟨Yb,0,none⟩), .pointer (some ⟨Db,0,none⟩)]) ∧
     w'.cell? ⟨wr.heap.size,0,none⟩ = some (.string (bs nm))∧w'.cell? ⟨wr.heap.size,1,none⟩ = some (.slice an l'.length cn)∧w'.cell? ⟨wr.heap.size,2,none⟩ = some (.slice ab s.len cb)) (by kernel_rfl) ?_
    have hS0:(fun w':World=>w'.cell? ⟨Yb,0,none⟩ = some (.func (.yield l) #[] #[])∧w'.cell? ⟨Db,0,none⟩ = some (.func (.func 88) #[] #[.pointer (some ⟨Yb,0,none⟩), .pointer (some ⟨Db,0,none⟩)]) ∧
     w'.cell? ⟨wr.heap.size,0,none⟩ = some (.string (bs nm))∧w'.cell? ⟨wr.heap.size,1,none⟩ = some (.slice an l'.length cn)∧w'.cell? ⟨wr.heap.size,2,none⟩ = some (.slice ab s.len cb)) (wr.alloc (.cells #[.string (bs nm), .slice an l'.length cn, .slice ab s.len cb] 109)).drew:=
     ⟨bc_ hbel (by have:=HK.out.size;omega) yc,bc_ hbel (by have:=HK.out.size;omega) dc,by simp,by simp,by simp⟩
    refine q3_ (fun _=>trivial) (by kernel_rfl) 0 15 (.func (.yield l) #[] #[]) rfl rfl (by kernel_rfl) (by kernel_rfl) (by kernel_rfl) (fun _ _ _ h=>h) (.inl ⟨by rfl,fun w' hs=>?_⟩) hS0 ?_
    · obtain ⟨q0,q1,q2,q3,q4⟩:=hs
      go_simp
    refine q3_ (fun _=>trivial) (by kernel_rfl) 1 16 (.slice ua up.length uc) rfl rfl (by kernel_rfl) (by kernel_rfl) (by kernel_rfl) (fun _ _ _ h=>h) (.inl ⟨by rfl,fun w' hs=>?_⟩) hS0 ?_
    · go_simp
    refine q3_ (fun _=>trivial) (by kernel_rfl) 2 17 (.agg #[.string (bs nm), .slice an l'.length cn, .slice ab s.len cb]) rfl rfl (by kernel_rfl) (by kernel_rfl) (by kernel_rfl) (fun _ _ _ h=>h) (.inl ⟨by rfl,fun w' hs=>?_⟩) hS0 ?_
    · obtain ⟨q0,q1,q2,q3,q4⟩:=hs
      go_simp
    refine qb_ (i:=3) (by kernel_rfl) rfl (by rfl) (fun K hK=>?_)
    obtain ⟨fn,tmps,assign,body,hy,hR⟩:=hyr
    dsimp only [NdV.encs] at hy
    go_simp
    refine ⟨fun h=>(by cases h),hR.mono ?_⟩
    have hYo:¬ Ok Yb:=fun h=>by rcases HOk.out _ h with h | h;exact hyb.2 h;omega
    have hDo:¬ Ok Db:=fun h=>by rcases HOk.out _ h with h | h;exact hdb.2 h;omega
    have hBo:¬ Ok wr.heap.size:=fun h=>by have:=HOz.out _ h;omega
    have hz0:=HK.out.size
    have hSk:∀ W3,Keep Ok (wr.alloc (.cells #[.string (bs nm), .slice an l'.length cn, .slice ab s.len cb] 109)).drew W3→(fun w':World=>w'.cell? ⟨Yb,0,none⟩ = some (.func (.yield l) #[] #[])∧w'.cell? ⟨Db,0,none⟩ = some (.func (.func 88) #[] #[.pointer (some ⟨Yb,0,none⟩), .pointer (some ⟨Db,0,none⟩)]) ∧
     w'.cell? ⟨wr.heap.size,0,none⟩ = some (.string (bs nm))∧w'.cell? ⟨wr.heap.size,1,none⟩ = some (.slice an l'.length cn)∧w'.cell? ⟨wr.heap.size,2,none⟩ = some (.slice ab s.len cb)) W3:=fun W3 h3=>
     ⟨h3.cell (by simp;omega) hYo hS0.1,h3.cell (by simp;omega) hDo hS0.2.1,h3.cell (by simp) hBo hS0.2.2.1,h3.cell (by simp) hBo hS0.2.2.2.1,h3.cell (by simp) hBo hS0.2.2.2.2⟩
    have hkO:∀ W3,Keep Ok (wr.alloc (.cells #[.string (bs nm), .slice an l'.length cn, .slice ab s.len cb] 109)).drew W3→Keep O W W3:=fun W3 h3=>
     ⟨h3.os.trans HK1.out.os,h3.tape.trans HK1.out.tape,h3.output.trans HK1.out.output,Nat.le_trans HK1.out.size h3.size,fun b hb ho=>(h3.block b (by have:=HK1.out.size;omega) (fun h=>by rcases HOk.out _ h with h | h;exact ho h;omega)).trans (HK1.out.block b hb ho)⟩
    rintro e W3 (⟨rfl,O1,hJ3,hk3,ho3,hz3⟩ | ⟨rfl,O1,hx3,hk3⟩)
    · have hS3:=hSk W3 hk3
      have hkW3:=hkO W3 hk3
      refine hK _ _ ⟨hS3,?_⟩
      refine q3_ (fun _=>trivial) (by kernel_rfl) 4 19 (.bool false) rfl rfl (by kernel_rfl) (by kernel_rfl) (by kernel_rfl) (fun _ _ _ h=>h) (.inl ⟨by rfl,fun w' hs=>?_⟩) hS3 ?_
      · go_simp
      refine q3_ (fun _=>trivial) (by kernel_rfl) 5 20 (.bool false) rfl rfl (by kernel_rfl) (by kernel_rfl) (by kernel_rfl) (fun _ _ _ h=>h) (.inl ⟨by rfl,fun w' hs=>?_⟩) hS3 ?_
      · go_simp
      refine q3_ (fun _=>trivial) (by kernel_rfl) 6 21 (.func (.func 88) #[] #[.pointer (some ⟨Yb,0,none⟩), .pointer (some ⟨Db,0,none⟩)]) rfl rfl (by kernel_rfl) (by kernel_rfl) (by kernel_rfl) (fun _ _ _ h=>h) (.inl ⟨by rfl,fun w' hs=>?_⟩) hS3 ?_
      · obtain ⟨q0,q1,q2,q3,q4⟩:=hs
        go_simp
      refine q3_ (fun _=>trivial) (by kernel_rfl) 7 22 (.slice ua up.length uc) rfl rfl (by kernel_rfl) (by kernel_rfl) (by kernel_rfl) (fun _ _ _ h=>h) (.inl ⟨by rfl,fun w' hs=>?_⟩) hS3 ?_
      · go_simp
      refine q3_ (fun _=>trivial) (by kernel_rfl) 8 23 (.agg #[.string (bs nm), .slice an l'.length cn, .slice ab s.len cb]) rfl rfl (by kernel_rfl) (by kernel_rfl) (by kernel_rfl) (fun _ _ _ h=>h) (.inl ⟨by rfl,fun w' hs=>?_⟩) hS3 ?_
      · obtain ⟨q0,q1,q2,q3,q4⟩:=hs
        go_simp
      refine q3_ (fun _=>trivial) (by kernel_rfl) 11 26 (.pointer (some ⟨wr.heap.size,2,none⟩)) rfl rfl (by kernel_rfl) (by kernel_rfl) (by kernel_rfl) (fun _ _ _ h=>h) (.inl ⟨by rfl,fun w' hs=>?_⟩) hS3 ?_
      · go_simp
      refine q3_ (fun _=>trivial) (by kernel_rfl) 12 27 (.slice ab s.len cb) rfl rfl (by kernel_rfl) (by kernel_rfl) (by kernel_rfl) (fun _ _ _ h=>h) (.inl ⟨by rfl,fun w' hs=>?_⟩) hS3 ?_
      · obtain ⟨q0,q1,q2,q3,q4⟩:=hs
        go_simp
      refine qb_ (i:=9) (by kernel_rfl) rfl (by rfl) (fun K hK=>?_)
      go_simp
      have hz3':=hk3.size
      simp at hz3'
      have haW3:qd_ S W W3:=hkW3.agree HS.out
      refine ⟨trivial,fun h=>(by cases h),(callsIn_wide.2 (zC_ nm l' an cn _ S _ (hI.agree haW3) (fun b hb=>by have:=(hSx b hb).1;omega) ab s.len cb rfl)).mono ?_⟩
      rintro e W4 ⟨rfl,hb4⟩
      have hz4:=hb4.size
      have hS4:=hSk W4 (hk3.trans (Keep.of_below hb4))
      have hkW4:=hkO W4 (hk3.trans (Keep.of_below hb4))
      have hJ4:=HJ.out _ _ _ _ hJ3 hb4
      refine hK _ _ ⟨hS4,?_⟩
      refine qb_ (i:=10) (by kernel_rfl) rfl (by rfl) (fun K hK=>?_)
      go_simp
      have haW4:qd_ S W W4:=hkW4.agree HS.out
      refine ⟨trivial,fun h=>(by cases h),(callsIn_wide.2 (yO_ up (kyOf nm l') ua uc S _ (hup.agree haW4) (fun b hb=>by have:=(hSx b hb).1;omega) (by omega))).mono ?_⟩
      rintro e W5 ⟨a5,c5,rfl,hp5,hb5⟩
      have hz5:=hb5.size
      have hS5:=hSk W5 ((hk3.trans (Keep.of_below hb4)).trans (Keep.of_below hb5))
      have hkW5:=hkO W5 ((hk3.trans (Keep.of_below hb4)).trans (Keep.of_below hb5))
      have hJ5:=HJ.out _ _ _ _ hJ4 hb5
      refine hK _ _ ⟨hS5,?_⟩
      refine qb_ (i:=13) (by kernel_rfl) rfl (by rfl) (fun K hK=>?_)
      have hD1:(pre ++ qa_ up (y.take k) ++ [NdV.dat ⟨up,ua,uc,nm,l',an,cn,s,ab,cb⟩]) ++ qa_ (up ++ [kyOf nm l']) s = pre ++ qa_ up (y.take (k + 1)):=by
       rw [zb_ HD.out];simp [NdV.dat]
      have hO15:∀ b,O1 b→b < W3.heap.size∧(Ok b ∨ wr.heap.size < b):=fun b hb=>⟨hz3 b hb,(ho3 b hb).imp id (fun h=>by simp at h;omega)⟩
      have hY1:¬ O1 Yb:=fun h=>by rcases (hO15 _ h).2 with h | h;exact hYo h;omega
      have hD1':¬ O1 Db:=fun h=>by rcases (hO15 _ h).2 with h | h;exact hDo h;omega
      have hB1:¬ O1 wr.heap.size:=fun h=>by rcases (hO15 _ h).2 with h | h;exact hBo h;omega
      have hOk1:∀ b,O1 b→O b ∨ W.heap.size ≤ b:=fun b hb=>by rcases (hO15 b hb).2 with h | h;exact HOk.out b h;exact .inr (by omega)
      have hcall:=IH.out (n - 1) s (up ++ [kyOf nm l']) a5 c5 ab cb _ (fun b=>b < W5.heap.size∧¬ O1 b) O1 W5 (by omega) hJ5 hS5.1 hS5.2.1 ⟨by omega,hY1⟩ ⟨by omega,hD1'⟩
       (by rw [List.length_append];exact hp5.wide fun b hb=>⟨hb.2,fun h=>by have:=(hO15 b h).1;have:=hb.1;omega⟩)
       ((hF.agree (hkW5.agree HS.out)).wide fun b hb=>⟨by have:=(hSx b hb).1;omega,fun h=>by rcases (hO15 b h).2 with h | h;exact (hSx b hb).2 h;have:=(hSx b hb).1;omega⟩)
       (fun b hb=>hb) (fun b hb=>by have:=(hO15 b hb).1;omega) s3 s4 (by rw [List.length_append];simp;omega)
       (fun q hq=>by
         rw [List.append_assoc,List.append_assoc]
         refine HG.out _ (List.IsPrefix.trans ?_ (zv_ (k:=k + 1)))
         rw [zb_ HD.out]
         obtain ⟨t,ht⟩:=hq
         exact ⟨t,by rw [← ht];simp [NdV.dat]⟩)
      rw [List.length_append] at hcall
      simp only [List.length_cons,List.length_nil,Nat.zero_add] at hcall
      go_simp
      refine ⟨trivial,fun h=>(by cases h),hcall.mono ?_⟩
      have hS6:∀ W6,Keep O1 W5 W6→(fun w':World=>w'.cell? ⟨Yb,0,none⟩ = some (.func (.yield l) #[] #[])∧w'.cell? ⟨Db,0,none⟩ = some (.func (.func 88) #[] #[.pointer (some ⟨Yb,0,none⟩), .pointer (some ⟨Db,0,none⟩)]) ∧
       w'.cell? ⟨wr.heap.size,0,none⟩ = some (.string (bs nm))∧w'.cell? ⟨wr.heap.size,1,none⟩ = some (.slice an l'.length cn)∧w'.cell? ⟨wr.heap.size,2,none⟩ = some (.slice ab s.len cb)) W6:=fun W6 h6=>
       ⟨h6.cell (by omega) hY1 hS5.1,h6.cell (by omega) hD1' hS5.2.1,h6.cell (by omega) hB1 hS5.2.2.1,h6.cell (by omega) hB1 hS5.2.2.2.1,h6.cell (by omega) hB1 hS5.2.2.2.2⟩
      have hkW6:∀ W6,Keep O1 W5 W6→Keep O W W6:=fun W6 h6=>
       ⟨h6.os.trans hkW5.os,h6.tape.trans hkW5.tape,h6.output.trans hkW5.output,Nat.le_trans hkW5.size h6.size,fun b hb ho=>(h6.block b (by have:=hkW5.size;omega) (fun h=>by rcases hOk1 b h with h | h;exact ho h;omega)).trans (hkW5.block b hb ho)⟩
      rintro e W6 (⟨rfl,O2,hJ6,hk6,ho6,hz6⟩ | ⟨rfl,q,O2,hq,hx6,hk6⟩)
      · have hS6':=hS6 W6 hk6
        have hkW6':=hid (hkW6 W6 hk6)
        have hz6':=hk6.size
        refine hK _ _ ⟨hS6',?_⟩
        refine q3_ (fun _=>trivial) (by kernel_rfl) 14 29 (.bool false) rfl rfl (by kernel_rfl) (by kernel_rfl) (by kernel_rfl) (fun _ _ _ h=>h) (.inl ⟨by rfl,fun w' hs=>?_⟩) hS6' ?_
        · go_simp
        refine q3_ (fun _=>trivial) (by kernel_rfl) 15 30 (.bool false) rfl rfl (by kernel_rfl) (by kernel_rfl) (by kernel_rfl) (fun _ _ _ h=>h) (.inl ⟨by rfl,fun w' hs=>?_⟩) hS6' ?_
        · go_simp
        refine q7_ (by kernel_rfl) ?_
        have HJ6:=hid (hD1 ▸ hJ6)
        have HO6:Hid (∀ b,O2 b→O b ∨ W.heap.size ≤ b):=fun b hb=>by rcases ho6 b hb with h | h;exact hOk1 b h;exact .inr (by omega)
        have HZ6:=hid hz6
        clear hz6 ho6 hJ6 hD1 hcall hS5 hS4 hS3 hSk hkO hS0 hOk1 hO15 hSx hJ5 hJ4 hJ3 hz3 ho3 hE0
        gi_wp2_with fail
        go_roundw
        case rel=>exact ⟨k + 1,O2,by omega,by go_num,HJ6,hkW6',HO6,HZ6⟩
        case measure=>simp [intOf];omega
      · have hS6':=hS6 W6 hk6
        have hkW6':=hid (hkW6 W6 hk6)
        refine hK _ _ ⟨hS6',?_⟩
        refine q3_ (fun _=>trivial) (by kernel_rfl) 14 29 (.bool true) rfl rfl (by kernel_rfl) (by kernel_rfl) (by kernel_rfl) (fun _ _ _ h=>h) (.inl ⟨by rfl,fun w' hs=>?_⟩) hS6' ?_
        · go_simp
        refine q3_ (fun _=>trivial) (by kernel_rfl) 15 30 (.bool true) rfl rfl (by kernel_rfl) (by kernel_rfl) (by kernel_rfl) (fun _ _ _ h=>h) (.inl ⟨by rfl,fun w' hs=>?_⟩) hS6' ?_
        · go_simp
        refine q7_ (by kernel_rfl) ?_
        have hpre:(qa_ up (y.take k) ++ (⟨up,nm,l',s⟩ :: q)) <+: qa_ up y:=by
         refine List.IsPrefix.trans ?_ (zv_ (k:=k + 1))
         rw [zb_ HD.out]
         obtain ⟨t,ht⟩:=hq
         exact ⟨t,by rw [← ht];simp⟩
        have HX:Hid (∃ q' O',q' <+: qa_ up y∧Jx (pre ++ q') O' W6∧Keep O W W6):=⟨_,O2,hpre,by simpa [NdV.dat] using hx6,hkW6'.out⟩
        clear hx6 hD1 hcall hS5 hS4 hS3 hSk hkO hS0 hOk1 hO15 hSx hJ5 hJ4 hJ3 hz3 ho3 hE0 hpre
        gi_wp2_with fail
        go_ret
        exact .inr ⟨rfl,HX.out⟩
    · have hS3:=hSk W3 hk3
      have hkW3:=hkO W3 hk3
      refine hK _ _ ⟨hS3,?_⟩
      refine q3_ (fun _=>trivial) (by kernel_rfl) 4 19 (.bool true) rfl rfl (by kernel_rfl) (by kernel_rfl) (by kernel_rfl) (fun _ _ _ h=>h) (.inl ⟨by rfl,fun w' hs=>?_⟩) hS3 ?_
      · go_simp
      refine q3_ (fun _=>trivial) (by kernel_rfl) 5 20 (.bool true) rfl rfl (by kernel_rfl) (by kernel_rfl) (by kernel_rfl) (fun _ _ _ h=>h) (.inl ⟨by rfl,fun w' hs=>?_⟩) hS3 ?_
      · go_simp
      refine q3_ (fun _=>trivial) (by kernel_rfl) 6 21 (undef) rfl rfl (by kernel_rfl) (by kernel_rfl) (by kernel_rfl) (fun _ _ _ h=>h) (.inr ⟨by kernel_rfl,rfl⟩) hS3 ?_
      refine q3_ (fun _=>trivial) (by kernel_rfl) 7 22 (undef) rfl rfl (by kernel_rfl) (by kernel_rfl) (by kernel_rfl) (fun _ _ _ h=>h) (.inr ⟨by kernel_rfl,rfl⟩) hS3 ?_
      refine q3_ (fun _=>trivial) (by kernel_rfl) 8 23 (undef) rfl rfl (by kernel_rfl) (by kernel_rfl) (by kernel_rfl) (fun _ _ _ h=>h) (.inr ⟨by kernel_rfl,rfl⟩) hS3 ?_
      refine q3_ (fun _=>trivial) (by kernel_rfl) 9 24 (undef) rfl rfl (by kernel_rfl) (by kernel_rfl) (by kernel_rfl) (fun _ _ _ h=>h) (.inr ⟨by kernel_rfl,rfl⟩) hS3 ?_
      refine q3_ (fun _=>trivial) (by kernel_rfl) 10 25 (undef) rfl rfl (by kernel_rfl) (by kernel_rfl) (by kernel_rfl) (fun _ _ _ h=>h) (.inr ⟨by kernel_rfl,rfl⟩) hS3 ?_
      refine q3_ (fun _=>trivial) (by kernel_rfl) 11 26 (undef) rfl rfl (by kernel_rfl) (by kernel_rfl) (by kernel_rfl) (fun _ _ _ h=>h) (.inr ⟨by kernel_rfl,rfl⟩) hS3 ?_
      refine q3_ (fun _=>trivial) (by kernel_rfl) 12 27 (undef) rfl rfl (by kernel_rfl) (by kernel_rfl) (by kernel_rfl) (fun _ _ _ h=>h) (.inr ⟨by kernel_rfl,rfl⟩) hS3 ?_
      refine q3_ (fun _=>trivial) (by kernel_rfl) 13 28 (undef) rfl rfl (by kernel_rfl) (by kernel_rfl) (by kernel_rfl) (fun _ _ _ h=>h) (.inr ⟨by kernel_rfl,rfl⟩) hS3 ?_
      refine q3_ (fun _=>trivial) (by kernel_rfl) 14 29 (undef) rfl rfl (by kernel_rfl) (by kernel_rfl) (by kernel_rfl) (fun _ _ _ h=>h) (.inr ⟨by kernel_rfl,rfl⟩) hS3 ?_
      refine q3_ (fun _=>trivial) (by kernel_rfl) 15 30 (.bool true) rfl rfl (by kernel_rfl) (by kernel_rfl) (by kernel_rfl) (fun _ _ _ h=>h) (.inl ⟨by rfl,fun w' hs=>?_⟩) hS3 ?_
      · go_simp
      refine q7_ (by kernel_rfl) ?_
      have hpre:(qa_ up (y.take k) ++ [⟨up,nm,l',s⟩]) <+: qa_ up y:=by
       refine List.IsPrefix.trans ?_ (zv_ (k:=k + 1))
       rw [zb_ HD.out]
       exact ⟨qa_ (up ++ [kyOf nm l']) s,by simp⟩
      have HX:Hid (∃ q' O',q' <+: qa_ up y∧Jx (pre ++ q') O' W3∧Keep O W W3):=⟨_,O1,hpre,by simpa [NdV.dat] using hx3,hkW3⟩
      clear hx3 hS3 hSk hkO hS0 hSx hE0 hpre
      simp only [Act.put,List.setIfInBounds_toArray,List.set_cons_succ,List.set_cons_zero]
      gi_wp2_with fail
      go_ret
      exact .inr ⟨rfl,HX.out⟩
  · gi_wp2_with fail
    go_ret
    obtain rfl:k = y.len:=by omega
    exact .inl ⟨rfl,Ok,by have:=HJk.out;rwa [Fo.take_len] at this,HK.out,HOk.out,HOz.out⟩
set_option maxHeartbeats 4000000
theorem seq1_any (G:List NdD→Prop) (l B1 B2:Nat) (J Jx:List NdD→(Nat→Prop)→World→Prop)
 (hJ:∀ pre O A B,J pre O A→Below A.heap.size A B→J pre O B)
 (hY:∀ m pre x O W1,J pre O W1→G (pre ++ [x.dat])→NdV.E (fun b=>b < W1.heap.size∧¬ O b) W1 x→YieldAt Fence.wide m Tryz.prog l (NdV.encs x) W1 fun e W'=>
   (e = .returned (.bool true)∧∃ O',J (pre ++ [x.dat]) O' W'∧Keep O W1 W'∧(∀ b,O' b→O b ∨ W1.heap.size ≤ b)∧(∀ b,O' b→b < W'.heap.size)) ∨
   (e = .returned (.bool false)∧∃ O',Jx (pre ++ [x.dat]) O' W'∧Keep O W1 W'))
 (n:Nat) (y:Fo) (up:List Ky) (ua:Option Addr) (uc:Nat) (a:Option Addr) (c:Nat) (S O:Nat→Prop) (W:World) (hJ0:J [] O W)
  (h1:W.cell? ⟨B1,0,none⟩ = some (.slice ua up.length uc)) (h2:W.cell? ⟨B2,0,none⟩ = some (.slice a y.len c))
  (hB1:B1 < W.heap.size) (hB2:B2 < W.heap.size) (hup:Pth S W (.slice ua up.length uc) up) (hv:FSl S W (.slice a y.len c) y) (hS:∀ b,S b→b < W.heap.size∧¬ O b) (hO:∀ b,O b→b < W.heap.size)
  (hlen:y.len ≤ 1000) (hsm:y.Sm) (hdep:up.length + y.cnt ≤ 900) (hG:∀ q,q <+: qa_ up y→G q) :
  CallsIn Fence.wide n Tryz.prog 87 #[.func (.yield l) #[] #[], .pointer (some ⟨B1,0,none⟩), .pointer (some ⟨B2,0,none⟩)] W fun e W'=>(∃ v,e = .returned v)∧((∃ O',J (qa_ up y) O' W') ∨ (∃ pre O',pre <+: qa_ up y∧Jx pre O' W')):=by
 have hb:Below W.heap.size W ((W.alloc (.cells #[.func (.yield l) #[] #[]] 192)).alloc (.cells #[.func (.func 88) #[] #[.pointer (some ⟨W.heap.size,0,none⟩), .pointer (some ⟨W.heap.size + 1,0,none⟩)]] 193)):=((Below.refl _ _).alloc (nl_ _) _).alloc (by simp) _
 have hp:=push_any G l W.heap.size (W.heap.size + 1) J Jx hJ hY (y.cnt + 1) (n - 1) y up ua uc a c [] S O _ (by omega) (hJ _ _ _ _ hJ0 hb) (bc_ ((Below.refl _ _).alloc (nl_ _) _) (by simp) (by simp)) (by simp) ⟨by simp;omega,fun h=>by have:=hO _ h;omega⟩ ⟨by simp,fun h=>by have:=hO _ h;omega⟩
  (hup.agree (q9_ hb fun b h=>(hS b h).1)) (hv.agree (q9_ hb fun b h=>(hS b h).1)) (fun b h=>⟨by have:=(hS b h).1;simp;omega,(hS b h).2⟩) (fun b h=>by have:=hO b h;simp;omega) hlen hsm hdep (fun q hq=>by simpa using hG q hq)
 have HP:=hid hp
 clear hp hJ hY hJ0 hS hO
 refine callsIn_of_wp Tryz.func87 rfl trivial ?_ rfl
 simp only [Tryz.ntmps87,List.size_toArray,List.length_cons,List.length_nil,Nat.reduceAdd,Nat.reduceSub,Array.replicate_succ,Array.replicate_zero,List.push_toArray,List.append_toArray,List.nil_append,List.cons_append]
 gi_wp2_with (first | ((try refine ⟨trivial,fun h=>(by cases h),?_⟩);gi_at_call 88;refine HP.out.mono ?_;rintro e W6 (⟨rfl,O2,hJ6,hk6,_⟩ | ⟨rfl,q,O2,hq,hx6,hk6⟩)))
 · go_end0
   exact ⟨⟨_,rfl⟩, .inl ⟨O2,by simpa using hJ6⟩⟩
 · go_end0
   exact ⟨⟨_,rfl⟩, .inr ⟨q,O2,hq,by simpa using hx6⟩⟩
theorem kj_ (ua:Option Addr) (un uc:Nat) (a:Option Addr) (yn c:Nat) (w:World) :
 Calls Tryz.prog 40 #[.slice ua un uc, .slice a yn c] w fun e w'=>e = .returned (.func (.func 87) #[] #[.pointer (some ⟨w.heap.size,0,none⟩), .pointer (some ⟨w.heap.size + 1,0,none⟩)])∧w' = (w.alloc (.cells #[.slice ua un uc] 92)).alloc (.cells #[.slice a yn c] 38):=by
 go_enter Tryz.func40,Tryz.ntmps40
 go_wp2
 go_ret
 exact ⟨rfl,rfl⟩
theorem vr_ (B1 B2:Nat) (y:Fo) (up:List Ky) (ua:Option Addr) (uc:Nat) (a:Option Addr) (c:Nat) (S:Nat→Prop) (w:World)
 (h1:w.cell? ⟨B1,0,none⟩ = some (.slice ua up.length uc)) (h2:w.cell? ⟨B2,0,none⟩ = some (.slice a y.len c))
 (hB1:B1 < w.heap.size) (hB2:B2 < w.heap.size) (hup:Pth S w (.slice ua up.length uc) up) (hv:FSl S w (.slice a y.len c) y) (hS:∀ b,S b→b < w.heap.size)
 (hlen:y.len ≤ 1000) (hsm:y.Sm) (hdep:up.length + y.cnt ≤ 900) :
 SeqI Tryz.prog 87 #[.pointer (some ⟨B1,0,none⟩), .pointer (some ⟨B2,0,none⟩)] NdV.dat NdV.encs NdV.E (qa_ up y) w (fun b=>S b ∨ b = B1 ∨ b = B2):=by
 intro l J Jx O W hb hT hO hJ _ hY h0 n
 have hz:=hb.size
 exact seq1_any (· <+: qa_ up y) l B1 B2 J Jx hJ hY n y up ua uc a c S O W h0 (bc_ hb hB1 h1) (bc_ hb hB2 h2) (by omega) (by omega) (hup.agree (q9_ hb hS)) (hv.agree (q9_ hb hS)) (fun b h=>⟨by have:=hS b h;omega,hT b (.inl h)⟩) hO hlen hsm hdep (fun _ h=>h)
theorem NdV.E_agree {S:Nat→Prop} {w w':World} {x:NdV} (h:NdV.E S w x) (ha:qd_ S w w'):NdV.E S w' x:=⟨h.1.agree ha,h.2.1.agree ha,h.2.2.1.agree ha,h.2.2.2⟩
theorem NdV.E_wide {S S':Nat→Prop} {w:World} {x:NdV} (h:NdV.E S w x) (hs:∀ b,S b→S' b):NdV.E S' w x:=⟨h.1.wide hs,h.2.1.wide hs,h.2.2.1.wide hs,h.2.2.2⟩
theorem vN_:∀ (args:Array Value) (W:World),(callFunc 87 args).run Tryz.prog W = .ok (.enter 87 args) W:=by
 intro args W
 simp [go_sem]
theorem qE_ {W:World} {B:Nat} {v:Value} {t:TypeId} (h:W.heap[B]? = some (.cells #[v] t (0,0))):W.cell? ⟨B,0,none⟩ = some v∧W.frozen? ⟨B,0,none⟩ = false:=by
 constructor <;> simp [World.cell?,World.frozen?,h]
theorem jD_ {W:World} {B:Nat} {v u:Value} {t:TypeId} (h:W.heap[B]? = some (.cells #[v] t (0,0))):(W.setCell ⟨B,0,none⟩ u).heap[B]? = some (.cells #[u] t (0,0)):=by
 simp [World.setCell,Array.getElem?_modify,h]
theorem zL_ (W:World) (v:Value) (t:TypeId):(W.alloc (.cells #[v] t)).heap[W.heap.size]? = some (.cells #[v] t (0,0)):=World.alloc_heap_new W _
theorem qc_ {W:World} {B:Nat} {x:Obj} (o:Obj) (h:W.heap[B]? = some x):(W.alloc o).heap[B]? = some x:=
 (Below.heap_alloc W o B (ge_ h).1).trans h
theorem z3_ {B D:Nat} {w W:World} {o:Obj} (h:Below B w W) (hD:B ≤ D):Below B w (W.putObj D o):=
 ⟨h.os,h.tape,h.output,by have:=h.size;simpa using this,fun k hk=>(World.putObj_heap_other (by omega)).trans (h.block k hk)⟩
theorem ji_ (y:Fo) (a:Option Addr) (c:Nat) (S:Nat→Prop) (w:World) (hv:FSl S w (.slice a y.len c) y) (hS:∀ b,S b→b < w.heap.size) (hlen:y.len ≤ 1000) (hsm:y.Sm) (hcnt:y.cnt ≤ 900) :
 Calls Tryz.prog 85 #[.slice a y.len c] w fun e w'=>e = .returned (.bool (decide (y.cnt ≤ 60)))∧Below w.heap.size w w':=by
 refine (callsIn_wide (n:=9)).1 ?_
 refine callsIn_of_wp_marks Tryz.func85 rfl trivial ?_ rfl
 simp only [Tryz.ntmps85,List.size_toArray,List.length_cons,List.length_nil,Nat.reduceAdd,Nat.reduceSub,Array.replicate_succ,Array.replicate_zero,List.push_toArray,List.append_toArray,List.nil_append,List.cons_append]
 gi_wp2_with (first | (refine ⟨trivial,?_⟩;gi_at_call 40;refine (callsIn_wide.2 (kj_ _ _ _ _ _ _ _)).mono ?_;rintro e w' ⟨rfl,rfl⟩) | (gi_at_call 40;refine (callsIn_wide.2 (kj_ _ _ _ _ _ _ _)).mono ?_;rintro e w' ⟨rfl,rfl⟩))
 obtain ⟨W0,hW0⟩:∃ W0,((((w.alloc (.cells #[.bool false] 4)).alloc (.cells #[.int .i64 0] 3)).alloc (.cells #[.slice none 0 0] 92)).alloc (.cells #[.slice a y.len c] 38)) = W0:=⟨_,rfl⟩
 have hz:W0.heap.size = w.heap.size + 4:=by rw [← hW0];simp
 have hb0:W0.heap[w.heap.size]? = some (.cells #[.bool false] 4 (0,0)):=by rw [← hW0];exact qc_ _ (qc_ _ (qc_ _ (zL_ _ _ _)))
 have hb1:W0.heap[w.heap.size + 1]? = some (.cells #[.int .i64 0] 3 (0,0)):=by rw [← hW0];have:=qc_ (.cells #[.slice a y.len c] 38) (qc_ (.cells #[.slice none 0 0] 92) (zL_ (w.alloc (.cells #[.bool false] 4)) (.int .i64 0) 3));simpa using this
 have hb2:W0.cell? ⟨w.heap.size + 1 + 1,0,none⟩ = some (.slice none 0 0):=by rw [← hW0];have:=(qE_ (qc_ (.cells #[.slice a y.len c] 38) (zL_ ((w.alloc (.cells #[.bool false] 4)).alloc (.cells #[.int .i64 0] 3)) (.slice none 0 0) 92))).1;simpa using this
 have hb3:W0.cell? ⟨w.heap.size + 1 + 1 + 1,0,none⟩ = some (.slice a y.len c):=by rw [← hW0];have:=(qE_ (zL_ (((w.alloc (.cells #[.bool false] 4)).alloc (.cells #[.int .i64 0] 3)).alloc (.cells #[.slice none 0 0] 92)) (.slice a y.len c) 38)).1;simpa using this
 have hbel:Below w.heap.size w W0:=by rw [← hW0];exact ((((Below.refl _ _).alloc (nl_ _) _).alloc (by simp) _).alloc (by simp;omega) _).alloc (by simp;omega) _
 rw [hW0]
 clear hW0
 refine kh_ (n:=9) (gf:=87) (lb:=#[.pointer (some ⟨w.heap.size + 1 + 1,0,none⟩), .pointer (some ⟨w.heap.size + 1 + 1 + 1,0,none⟩)]) rfl vN_
  (vr_ (w.heap.size + 1 + 1) (w.heap.size + 1 + 1 + 1) y [] none 0 a c S W0 hb2 hb3 (by omega) (by omega) ⟨rfl,none,0,rfl,nl_ _,by simp [maxLen],fun _=>rfl, .inl rfl⟩ (hv.agree (q9_ hbel hS)) (fun b h=>by have:=hS b h;omega) hlen hsm (by simpa using hcnt))
  NdV.E_agree NdV.E_wide (fun _=>rfl)
  (fun pre O W=>O = (fun b=>b = w.heap.size ∨ b = w.heap.size + 1)∧W.heap[w.heap.size]? = some (.cells #[.bool false] 4 (0,0))∧W.heap[w.heap.size + 1]? = some (.cells #[.int .i64 (pre.length:Int)] 3 (0,0))∧pre.length ≤ 60∧Below w.heap.size w W)
  (fun cd pre O W=>cd = .ret∧O = (fun b=>b = w.heap.size ∨ b = w.heap.size + 1)∧W.heap[w.heap.size]? = some (.cells #[.bool false] 4 (0,0))∧60 < pre.length∧Below w.heap.size w W)
  ?dep ?depx (fun b=>b = w.heap.size ∨ b = w.heap.size + 1) ?o0 ?ot ⟨rfl,hb0,hb1,by simp,hbel⟩
  (fun x _ a₁ _=>a₁ = { tmps:=#[.slice a y.len c,undef, .pointer (some ⟨w.heap.size,0,none⟩), .pointer (some ⟨w.heap.size + 1,0,none⟩), .slice a y.len c, .func (.func 87) #[] #[.pointer (some ⟨w.heap.size + 1 + 1,0,none⟩), .pointer (some ⟨w.heap.size + 1 + 1 + 1,0,none⟩)], .slice x.ua x.up.length x.uc, .agg #[.string (bs x.n), .slice x.an x.l.length x.cn, .slice x.ab x.s.len x.cb],undef,undef,undef,undef],defers:=[] })
  (fun _ _ _ _ _ h _=>h) ?assign ?body ?done ?stop
 case dep=>
  rintro pre O A B ⟨rfl,h1,h2,h3,h4⟩ e1 e2 e3 e4 hh
  have hA:=h4.size
  have l1:=(ge_ h1).1
  have l2:=(ge_ h2).1
  exact ⟨rfl,(hh _ l1 (.inl (.inl rfl))).trans h1,(hh _ l2 (.inl (.inr rfl))).trans h2,h3,e1.trans h4.os,e2.trans h4.tape,e3.trans h4.output,by omega,fun k hk=>(hh k (by omega) (.inr (by omega))).trans (h4.block k hk)⟩
 case depx=>
  rintro cd pre O A B ⟨rfl,rfl,h1,h3,h4⟩ e1 e2 e3 e4 hh
  have hA:=h4.size
  have l1:=(ge_ h1).1
  exact ⟨rfl,rfl,(hh _ l1 (.inl (.inl rfl))).trans h1,h3,e1.trans h4.os,e2.trans h4.tape,e3.trans h4.output,by omega,fun k hk=>(hh k (by omega) (.inr (by omega))).trans (h4.block k hk)⟩
 case o0=>
  intro b hb
  refine ⟨by omega,fun h=>?_⟩
  rcases h with h | h | h
  · have:=hS b h;omega
  · omega
  · omega
 case ot=>
  intro b h
  rcases h with h | h | h
  · have:=hS b h;omega
  · omega
  · omega
 case assign=>
  intro l m x S' W K hE hK
  gi_wp2
  exact hK _ _ (Below.refl _ _) (by simp [NdV.encs])
 case body=>
  rintro l m pre x O lo a₁ W - ⟨rfl,h1,h2,h3,hB⟩ hlo hlo2 hOlo hE rfl
  obtain ⟨c1,f1⟩:=qE_ h1
  obtain ⟨c2,f2⟩:=qE_ h2
  by_cases hlt:60 < (pre.length:Int) + 1
  · gi_wp2
    have hz1:W.heap.size ≤ ((W.setCell ⟨w.heap.size + 1,0,none⟩ (.int .i64 ((pre.length:Int) + 1))).setCell ⟨w.heap.size,0,none⟩ (.bool false)).heap.size:=by simp [World.setCell]
    refine ⟨_,⟨rfl,rfl,?_,by simp;omega,(hB.setCell (p:=⟨w.heap.size + 1,0,none⟩) (by simp) _).setCell (p:=⟨w.heap.size,0,none⟩) (nl_ _) _⟩,(Keep.setCell (O:=fun b=>b = w.heap.size ∨ b = w.heap.size + 1) (p:=⟨w.heap.size + 1,0,none⟩) (.inr rfl)).trans (Keep.setCell (p:=⟨w.heap.size,0,none⟩) (.inl rfl)),fun b hb => .inl hb⟩
    exact jD_ ((Below.heap_setCell _ _ _ _ (by simp)).trans h1)
  · gi_wp2
    refine ⟨_,⟨rfl,(Below.heap_setCell _ _ _ _ (by simp)).trans h1,?_,by simp;omega,hB.setCell (p:=⟨w.heap.size + 1,0,none⟩) (by simp) _⟩,Keep.setCell (O:=fun b=>b = w.heap.size ∨ b = w.heap.size + 1) (p:=⟨w.heap.size + 1,0,none⟩) (.inr rfl),fun b hb => .inl hb,fun b hb=>?_⟩
    · have:=jD_ (u := .int .i64 ((pre.length:Int) + 1)) h2
      rw [List.length_append,List.length_singleton]
      exact this
    · have:=hOlo b hb
      simp [World.setCell];omega
 case done=>
  rintro D O W ⟨rfl,h1,h2,h3,hB⟩ hD hK
  obtain ⟨c1,f1⟩:=qE_ h1
  gi_wp2
  refine ⟨by simp, .inl ⟨_,_,rfl,run_takeDeferred ((Below.heap_setCell _ _ _ _ (by simp;omega)).trans hK),?_⟩⟩
  have hbx:((W.setCell ⟨w.heap.size,0,none⟩ (.bool true)).putObj D (.deferred none)).heap[w.heap.size]? = some (.cells #[.bool true] 4 (0,0)):=(World.putObj_heap_other (by omega)).trans (jD_ h1)
  have hc:=(qE_ hbx).1
  refine ⟨.bool true,by simp [results,Tryz.results85,go_sem,hc],qf_ ?_,z3_ (hB.setCell (p:=⟨w.heap.size,0,none⟩) (nl_ _) _) (by omega)⟩
  rw [qr_] at h3
  simpa using h3
 case stop=>
  rintro D cd pre O W hp ⟨rfl,rfl,h1,h3,hB⟩ hD hK
  gi_wp2
  refine ⟨by simp, .inl ⟨_,_,rfl,run_takeDeferred hK,?_⟩⟩
  have hbx:(W.putObj D (.deferred none)).heap[w.heap.size]? = some (.cells #[.bool false] 4 (0,0)):=(World.putObj_heap_other (by omega)).trans h1
  have hc:=(qE_ hbx).1
  refine ⟨.bool false,by simp [results,Tryz.results85,go_sem,hc],qf_ ?_,z3_ hB (by omega)⟩
  have:=hp.length_le
  rw [qr_] at this
  symm
  rw [decide_eq_false_iff_not];omega
def qz_ (y:Fo):Int:=if y.cnt ≤ 60 then ordF 0 y else 2
theorem za_ (y:Fo) (a:Option Addr) (c:Nat) (S:Nat→Prop) (w:World) (hv:FSl S w (.slice a y.len c) y) (hS:∀ b,S b→b < w.heap.size) (hlen:y.len ≤ 1000) (hsm:y.Sm) (hcnt:y.cnt ≤ 900) :
 Calls Tryz.prog 39 #[.slice a y.len c] w fun e w'=>e = .returned (.int .i64 (qz_ y))∧Below w.heap.size w w':=by
 by_cases h60:y.cnt ≤ 60
 · have hd:decide (y.cnt ≤ 60) = true:=decide_eq_true h60
   go_enter Tryz.func39,Tryz.ntmps39
   go_wp2_with fail
   refine (ji_ y a c S w hv hS hlen hsm hcnt).mono ?_
   rintro e w1 ⟨rfl,hb1⟩
   have hz:=hb1.size
   go_wp2_with fail
   refine (jc_ (y.cnt + 1) y 0 a c S w1 (by omega) (by omega) (by omega) (hv.agree (q9_ hb1 hS)) (fun b h=>by have:=hS b h;omega) hlen hsm).mono ?_
   rintro e w2 ⟨rfl,hb2⟩
   go_wp2_with fail
   go_ret
   exact ⟨qe_ (by simp [qz_,h60]),hb1.trans (hb2.mono hz)⟩
 · have hd:decide (y.cnt ≤ 60) = false:=decide_eq_false h60
   go_enter Tryz.func39,Tryz.ntmps39
   go_wp2_with fail
   refine (ji_ y a c S w hv hS hlen hsm hcnt).mono ?_
   rintro e w1 ⟨rfl,hb1⟩
   go_wp2_with fail
   go_ret
   exact ⟨qe_ (by simp [qz_,h60]),hb1⟩
end Go.Proofs.LF
namespace Go.Proofs.LF
open Go.RowKit
set_option maxHeartbeats 4000000
set_option maxRecDepth 100000
attribute [local go_sem] q1_ q2_ q6_
theorem Tryz.info85:(Tryz.prog.info? 109).map (fun i=>(i.zero,i.size,i.bytes)) = some (some (.agg #[.string ByteArray.empty, .slice none 0 0, .slice none 0 0]),3,64):=by kernel_rfl
theorem zS_ (l m:List Int) (an am:Option Addr) (cn cm:Nat) (S:Nat→Prop) (w:World) (hl:qF_ S w (.slice an l.length cn) l) (hm:qF_ S w (.slice am m.length cm) m) (hlen:l.length ≤ 100000) (hlen2:m.length ≤ 100000) :
 Calls Tryz.prog 58 #[.slice an l.length cn, .slice am m.length cm] w fun e w'=>e = .returned (.bool (decide (l = m)))∧Below w.heap.size w w':=by
 by_cases hne:l.length = m.length
 · have hne':((l.length:Int) != (m.length:Int)) = false:=by simp;omega
   have HN:=hid hne
   clear hne
   go_enter Tryz.func58,Tryz.ntmps58
   go_wp2_with fail
   go_loopw [13] (fun i wr=>∃ (k d:Nat),k ≤ l.length∧i = .int .i64 k∧wr = w.drewN d∧Hid (l.take k = m.take k)) (fun i _=>l.length - (intOf i).toNat)
   case atStart=>exact ⟨0,0,by omega,rfl,rfl,by simp [Hid]⟩
   case round=>
    obtain ⟨k,d,hk,rfl,rfl,H2⟩:=hrel
    by_cases hlt:k < l.length
    · obtain ⟨g,o,rfl,_,_,_,hcell⟩:=SlC.cells hl (by omega)
      obtain ⟨g',o',rfl,_,_,_,hcell'⟩:=SlC.cells hm (by have:=HN.out;omega)
      have hlt':k < m.length:=by have:=HN.out;omega
      have hx:w.cell? ⟨g,o + k,none⟩ = some (.int .i64 l[k]):=hcell k _ (by simp [hlt])
      have hx':w.cell? ⟨g',o' + k,none⟩ = some (.int .i64 m[k]):=hcell' k _ (by simp [hlt'])
      clear hcell hcell'
      have i1:(0:Int) ≤ (k:Int):=by omega
      have i2:(k:Int) < (l.length:Int):=by omega
      have i3:(k:Int) < (m.length:Int):=by omega
      by_cases he:l[k] = m[k]
      · have he':(l[k] != m[k]) = false:=by simpa using he
        have HE:=hid he
        clear he
        go_wp2_with fail
        go_quiet (fail)
        go_wp2_with fail
        go_roundw
        case rel=>exact ⟨k + 1,_,by omega,by go_num,rfl,by rw [Hid,List.take_succ_eq_append_getElem hlt,List.take_succ_eq_append_getElem hlt',H2.out,HE.out]⟩
        case measure=>simp [intOf];omega
      · have he':(l[k] != m[k]) = true:=by simpa using he
        have HE:=hid he
        clear he
        go_wp2_with fail
        go_quiet (fail)
        go_wp2_with fail
        go_ret
        refine ⟨qf_ ?_,qm_ (qm_ (Below.refl _ _) _) _⟩
        symm
        rw [decide_eq_false_iff_not]
        rintro rfl
        exact HE.out rfl
    · go_wp2_with fail
      go_ret
      obtain rfl:k = l.length:=by omega
      refine ⟨qf_ ?_,qm_ (Below.refl _ _) _⟩
      symm
      have:=H2.out
      rw [List.take_length,HN.out,List.take_length] at this
      exact decide_eq_true this
 · have hne':((l.length:Int) != (m.length:Int)) = true:=by simp;omega
   have HN:=hid hne
   clear hne
   go_enter Tryz.func58,Tryz.ntmps58
   go_wp2_with fail
   go_ret
   refine ⟨qf_ ?_,Below.refl _ _⟩
   symm
   rw [decide_eq_false_iff_not]
   rintro rfl
   exact HN.out rfl
theorem Fo.drop_eq {i:Nat} {y z r s r' s':Fo} {n n':List UInt8} {l l':List Int} (h:y.drop i = .cons n l s r) (h':z.drop i = .cons n' l' s' r') (e:y = z):n = n'∧l = l'∧s = s':=by
 subst e;rw [h] at h';cases h';exact ⟨rfl,rfl,rfl⟩
theorem Fo.take_eq {i:Nat} {y z r s r':Fo} {n:List UInt8} {l:List Int} (h:y.drop i = .cons n l s r) (h':z.drop i = .cons n l s r') (e:y.take i = z.take i):y.take (i + 1) = z.take (i + 1):=by
 rw [Fo.take_succ h,Fo.take_succ h',e]
theorem enters99:∀ (args:Array Value) (W:World),(callFunc 57 args).run Tryz.prog W = .ok (.enter 57 args) W:=by
 intro args W
 simp [go_sem]
def NodeEqC (g:Nat) (m:Nat):Prop:=∀ (n:List UInt8) (l:List Int) (s:Fo) (an:Option Addr) (cn:Nat) (ab:Option Addr) (cb:Nat) (n':List UInt8) (l':List Int) (s':Fo) (an':Option Addr) (cn':Nat) (ab':Option Addr) (cb':Nat) (S:Nat→Prop) (w:World),
 s.cnt < m→qF_ S w (.slice an l.length cn) l→FSl S w (.slice ab s.len cb) s→qF_ S w (.slice an' l'.length cn') l'→FSl S w (.slice ab' s'.len cb') s'→(∀ b,S b→b < w.heap.size)→l.length ≤ 1000→s.len ≤ 1000→s.Sm→l'.length ≤ 1000→s'.len ≤ 1000→s'.Sm →
 Calls Tryz.prog g #[.agg #[.string (bs n), .slice an l.length cn, .slice ab s.len cb], .agg #[.string (bs n'), .slice an' l'.length cn', .slice ab' s'.len cb']] w fun e w'=>e = .returned (.bool (decide (n = n'∧l = l'∧s = s')))∧Below w.heap.size w w'
theorem jt_ (m:Nat) (hcl:NodeEqC 57 m) (y z:Fo) (ay:Option Addr) (cy:Nat) (az:Option Addr) (cz:Nat) (S:Nat→Prop) (w:World) (hm:y.cnt < m + 1) (hy:FSl S w (.slice ay y.len cy) y) (hz:FSl S w (.slice az z.len cz) z) (hS:∀ b,S b→b < w.heap.size) (ly:y.len ≤ 1000) (lz:z.len ≤ 1000) (sy:y.Sm) (sz:z.Sm) :
 Calls Tryz.prog 56 #[.slice ay y.len cy, .slice az z.len cz, .func (.func 57) #[] #[]] w fun e w'=>e = .returned (.bool (decide (y = z)))∧Below w.heap.size w w':=by
 obtain ⟨_,_,he,hc,hm1,hat⟩:=hy.at
 cases he
 obtain ⟨_,_,he,hc',hm2,hat'⟩:=hz.at
 cases he
 unfold maxLen at hm1 hm2
 have HC:=hid hcl
 clear hcl
 have hE:=enters99
 by_cases hne:y.len = z.len
 · have hne':((y.len:Int) != (z.len:Int)) = false:=by simp;omega
   have HN:=hid hne
   clear hne
   go_enter Tryz.func56,Tryz.ntmps56
   go_wp2_with fail
   go_loopw [17] (fun i wr=>∃ k:Nat,k ≤ y.len∧i = .int .i64 k∧Hid (y.take k = z.take k)∧Below w.heap.size w wr) (fun i _=>y.len - (intOf i).toNat)
   case atStart=>exact ⟨0,by omega,rfl,by simp [Hid,Fo.take],Below.refl _ _⟩
   case round=>
    obtain ⟨k,hk,rfl,H2,hB⟩:=hrel
    have HAT:=hid hat
    have HAT':=hid hat'
    clear hat hat'
    by_cases hlt:k < y.len
    · obtain ⟨g,o,n,l,s,r,an,cn,ab,cb,rfl,hg1,hd,hc0,hc1,hc2,hI,hF⟩:=HAT.out k hlt
      obtain ⟨g',o',n',l',s',r',an',cn',ab',cb',rfl,hg1',hd',hc0',hc1',hc2',hI',hF'⟩:=HAT'.out k (by have:=HN.out;omega)
      have hlt':(k:Int) < (z.len:Int):=by have:=HN.out;omega
      have ha:qd_ S w wr:=q9_ hB hS
      have c0:=ha.cell hg1 hc0
      have c1:=ha.cell hg1 hc1
      have c2:=ha.cell hg1 hc2
      have d0:=ha.cell hg1' hc0'
      have d1:=ha.cell hg1' hc1'
      have d2:=ha.cell hg1' hc2'
      obtain ⟨s1,s2,s3,s4,_⟩:n.length ≤ 1000∧l.length ≤ 1000∧s.len ≤ 1000∧s.Sm∧r.Sm:=by have:=sy.drop (i:=k);rwa [hd] at this
      obtain ⟨p1,p2,p3,p4,_⟩:n'.length ≤ 1000∧l'.length ≤ 1000∧s'.len ≤ 1000∧s'.Sm∧r'.Sm:=by have:=sz.drop (i:=k);rwa [hd'] at this
      have s5:=Fo.cnt_at hd
      have HD:=hid hd
      have HD':=hid hd'
      have hsz:=hB.size
      have lg:=hS _ hg1'
      have lg':g' < wr.heap.size:=by omega
      have hbx:Below w.heap.size w (wr.alloc (.cells #[.string (bs n), .slice an l.length cn, .slice ab s.len cb] 109)):=hB.alloc hsz _
      have e0:=(q9_ hbx hS).cell hg1' hc0'
      have e1:=(q9_ hbx hS).cell hg1' hc1'
      have e2:=(q9_ hbx hS).cell hg1' hc2'
      clear hbx
      clear hc0 hc1 hc2 hd hc0' hc1' hc2' hd'
      go_wp2_with fail
      have hb2:Below w.heap.size w ((wr.alloc (.cells #[.string (bs n), .slice an l.length cn, .slice ab s.len cb] 109)).alloc (.cells #[.string (bs n'), .slice an' l'.length cn', .slice ab' s'.len cb'] 109)):=(hB.alloc hsz _).alloc (by simp;omega) _
      have ha2:=q9_ hb2 hS
      have HB2:=hid hb2
      refine (HC.out n l s an cn ab cb n' l' s' an' cn' ab' cb' S _ (by omega) (hI.agree ha2) (hF.agree ha2) (hI'.agree ha2) (hF'.agree ha2) (fun b h=>by have:=hS b h;simp;omega) s2 s3 s4 p2 p3 p4).mono ?_
      rintro e w1 ⟨rfl,hb1⟩
      clear hb2 ha2
      by_cases he:n = n'∧l = l'∧s = s'
      · have he':decide (n = n'∧l = l'∧s = s') = true:=decide_eq_true he
        have HE:=hid he
        clear he
        rw [he']
        go_wp2_with fail
        go_roundw
        case rel=>exact ⟨k + 1,by omega,by go_num,by obtain ⟨rfl,rfl,rfl⟩:=HE.out;exact Fo.take_eq HD.out HD'.out H2.out,HB2.out.trans (hb1.mono HB2.out.size)⟩
        case measure=>simp [intOf];omega
      · have he':decide (n = n'∧l = l'∧s = s') = false:=decide_eq_false he
        have HE:=hid he
        clear he
        rw [he']
        go_wp2_with fail
        go_ret
        refine ⟨qf_ ?_,HB2.out.trans (hb1.mono HB2.out.size)⟩
        symm
        rw [decide_eq_false_iff_not]
        exact fun e=>HE.out (Fo.drop_eq HD.out HD'.out e)
    · go_wp2_with fail
      go_ret
      obtain rfl:k = y.len:=by omega
      refine ⟨qf_ ?_,hB⟩
      symm
      have:=H2.out
      rw [Fo.take_len,HN.out,Fo.take_len] at this
      exact decide_eq_true this
 · have hne':((y.len:Int) != (z.len:Int)) = true:=by simp;omega
   have HN:=hid hne
   clear hne
   go_enter Tryz.func56,Tryz.ntmps56
   go_wp2_with fail
   go_ret
   refine ⟨qf_ ?_,Below.refl _ _⟩
   symm
   rw [decide_eq_false_iff_not]
   rintro rfl
   exact HN.out rfl
theorem vs_ (m:Nat):NodeEqC 57 m∧∀ (y z:Fo) (ay:Option Addr) (cy:Nat) (az:Option Addr) (cz:Nat) (S:Nat→Prop) (w:World),y.cnt < m→FSl S w (.slice ay y.len cy) y→FSl S w (.slice az z.len cz) z→(∀ b,S b→b < w.heap.size)→y.len ≤ 1000→z.len ≤ 1000→y.Sm→z.Sm →
 Calls Tryz.prog 18 #[.slice ay y.len cy, .slice az z.len cz] w fun e w'=>e = .returned (.bool (decide (y = z)))∧Below w.heap.size w w':=by
 induction m with
 | zero=>exact ⟨fun _ _ _ _ _ _ _ _ _ _ _ _ _ _ _ _ h=>by omega,fun _ _ _ _ _ _ _ _ h=>by omega⟩
 | succ m ih=>
   have key:∀ (y z:Fo) (ay:Option Addr) (cy:Nat) (az:Option Addr) (cz:Nat) (S:Nat→Prop) (w:World),y.cnt < m + 1→FSl S w (.slice ay y.len cy) y→FSl S w (.slice az z.len cz) z→(∀ b,S b→b < w.heap.size)→y.len ≤ 1000→z.len ≤ 1000→y.Sm→z.Sm →
    Calls Tryz.prog 18 #[.slice ay y.len cy, .slice az z.len cz] w fun e w'=>e = .returned (.bool (decide (y = z)))∧Below w.heap.size w w':=by
    intro y z ay cy az cz S w hm hy hz hS ly lz sy sz
    have hq:=jt_ m ih.1 y z ay cy az cz S w hm hy hz hS ly lz sy sz
    have HQ:=hid hq
    clear hq ih
    go_enter Tryz.func18,Tryz.ntmps18
    go_wp2_with fail
    refine HQ.out.mono ?_
    rintro e w1 ⟨rfl,hb1⟩
    go_wp2_with fail
    go_ret
    exact ⟨rfl,hb1⟩
   refine ⟨?_,key⟩
   have KEY:=hid key
   clear key ih
   intro n l s an cn ab cb n' l' s' an' cn' ab' cb' S w hm hI hF hI' hF' hS l1 l2 sm1 l3 l4 sm2
   have hb:Below w.heap.size w ((w.alloc (.cells #[.string (bs n), .slice an l.length cn, .slice ab s.len cb] 109)).alloc (.cells #[.string (bs n'), .slice an' l'.length cn', .slice ab' s'.len cb'] 109)):=((Below.refl _ _).alloc (nl_ _) _).alloc (by simp) _
   have HB:=hid hb
   clear hb
   by_cases h1:n = n'
   · have t1:(n == n') = true:=by simpa using h1
     have H1:=hid h1
     clear h1
     go_enter Tryz.func57,Tryz.ntmps57
     go_wp2_with fail
     refine (zS_ l l' an an' cn cn' S _ (hI.agree (q9_ HB.out hS)) (hI'.agree (q9_ HB.out hS)) (by omega) (by omega)).mono ?_
     rintro e w1 ⟨rfl,hb1⟩
     have x2:=bc_ hb1 (b:=w.heap.size) (o:=2) (v := .slice ab s.len cb) (by simp;omega) (by simp)
     have x2':=bc_ hb1 (b:=w.heap.size + 1) (o:=2) (v := .slice ab' s'.len cb') (by simp) (by simp)
     have HB1:=hid (HB.out.trans (hb1.mono HB.out.size))
     by_cases h2:l = l'
     · have t2:decide (l = l') = true:=decide_eq_true h2
       have H2:=hid h2
       clear h2
       rw [t2]
       go_wp2_with fail
       refine (KEY.out s s' ab cb ab' cb' S _ hm (hF.agree (q9_ HB1.out hS)) (hF'.agree (q9_ HB1.out hS)) (fun b h=>by have:=hS b h;have:=HB1.out.size;omega) l2 l4 sm1 sm2).mono ?_
       rintro e w2 ⟨rfl,hb2⟩
       go_wp2_with fail
       go_ret
       exact ⟨qf_ (by have:=H1.out;have:=H2.out;subst n';subst l';simp),HB1.out.trans (hb2.mono HB1.out.size)⟩
     · have t2:decide (l = l') = false:=decide_eq_false h2
       have H2:=hid h2
       clear h2
       rw [t2]
       go_wp2_with fail
       go_ret
       exact ⟨qf_ (by symm;rw [decide_eq_false_iff_not];exact fun e=>H2.out e.2.1),HB1.out⟩
   · have t1:(n == n') = false:=by simpa using h1
     have H1:=hid h1
     clear h1
     go_enter Tryz.func57,Tryz.ntmps57
     go_wp2_with fail
     go_ret
     exact ⟨qf_ (by symm;rw [decide_eq_false_iff_not];exact fun e=>H1.out e.1),HB.out⟩
end Go.Proofs.LF
namespace Go.Proofs.LF
theorem ordG_cons {bad:Ky→Ky→Bool} {n:List UInt8} {l:List Int} {s r:Fo} {d:Int} {p:Option Ky} (h:zD_ bad d p (.cons n l s r) = 0):d ≤ 3∧(∀ q,p = some q→bad q (kyOf n l) = false)∧zD_ bad (d + 1) none s = 0∧zD_ bad d (some (kyOf n l)) r = 0:=by
 simp only [zD_] at h
 by_cases h1:3 < d
 · rw [if_pos h1] at h;omega
 rw [if_neg h1] at h
 by_cases h2:zN_ n = true
 · rw [if_pos h2] at h;omega
 rw [if_neg h2] at h
 by_cases h3:4 < (l.length:Int)
 · rw [if_pos h3] at h;omega
 rw [if_neg h3] at h
 by_cases h4:kb_ l = true
 · rw [if_pos h4] at h;omega
 rw [if_neg h4] at h
 have h0:(∀ q,p = some q→bad q (kyOf n l) = false)∧(if zD_ bad (d + 1) none s ≠ 0 then zD_ bad (d + 1) none s else zD_ bad d (some (kyOf n l)) r) = 0:=by
  cases p with
  | none=>dsimp only at h;rw [if_neg (by simp)] at h;exact ⟨(fun q e=>by cases e),h⟩
  | some q=>
    dsimp only at h
    have a5:¬ (bad q (kyOf n l) = true):=fun e=>by rw [if_pos e] at h;omega
    rw [if_neg a5] at h
    exact ⟨(fun q' e=>by cases e;simpa using a5),h⟩
 have a6:¬ (zD_ bad (d + 1) none s ≠ 0):=fun e=>by have h:=h0.2;rw [if_pos e] at h;exact e h
 have h7:=h0.2
 rw [if_neg a6] at h7
 exact ⟨by omega,h0.1,by simpa using a6,h7⟩
theorem xq_:∀ (y:Fo) (d:Int) (p:Option Ky) (u:List Ky),zD_ geK d p y = 0→Srt (flsL u y)∧∀ q,p = some q→∀ x ∈ flsL u y,∃ k t,x.p = u ++ k :: t∧byK q k < 0
 | .nil,_,_,u,_=>by simp [qY_,Srt]
 | .cons n l s r,d,p,u,h=>by
   obtain ⟨hd3,hp,h1',h⟩:=ordG_cons h
   ·
    obtain ⟨s1,_⟩:=xq_ s (d + 1) none (u ++ [kyOf n l]) h1'
    obtain ⟨s2,t2⟩:=xq_ r d (some (kyOf n l)) u h
    have t2:=t2 _ rfl
    refine ⟨?_,?_⟩
    · rw [qt_]
      unfold Srt at *
      rw [List.pairwise_cons,List.pairwise_append]
      refine ⟨fun x hx=>?_,s1,s2,fun a ha b hb=>?_⟩
      · rcases List.mem_append.1 hx with hx | hx
        · obtain ⟨k,t,hk⟩:=flsL_pre s _ x hx
          rw [hk];exact ye_ _ _ (by simp)
        · obtain ⟨k,t,hk,hb⟩:=t2 x hx
          rw [hk,vC_]
          simp only [cmpP]
          rw [if_pos (by omega)];exact hb
      · obtain ⟨k,t,hk⟩:=flsL_pre s _ a ha
        obtain ⟨k',t',hk',hb'⟩:=t2 b hb
        rw [hk,hk',List.append_assoc,vC_]
        simp only [List.singleton_append,cmpP]
        rw [if_pos (by omega)];exact hb'
    · rintro q rfl x hx
      have hq:byK q (kyOf n l) < 0:=by
       have:=hp q rfl
       simp only [geK,decide_eq_false_iff_not] at this;omega
      rw [qt_] at hx
      rcases List.mem_cons.1 hx with rfl | hx
      · exact ⟨_,[],rfl,hq⟩
      · rcases List.mem_append.1 hx with hx | hx
        · obtain ⟨k,t,hk⟩:=flsL_pre s _ x hx
          exact ⟨kyOf n l,k :: t,by rw [hk];simp,hq⟩
        · obtain ⟨k,t,hk,hb⟩:=t2 x hx
          exact ⟨k,t,hk,qR_.trans hq hb⟩
end Go.Proofs.LF