/- Parts of the proof of a law of layer 11 (file): LfW10. The conditions stand in each theorem. -/
import Derived.Test.YtadkpjgpefcphaaGreatDoorProg
import Derived.Test.YtadkpjgpefcphaaGreatDoorNoad
set_option linter.all false
set_option linter.unusedVariables false
set_option linter.unusedSimpArgs false
namespace Go.Proofs.LF
open Go.RowKit
set_option maxHeartbeats 4000000
set_option maxRecDepth 100000
attribute [local go_sem] bs_toList bs_size bs_get
theorem Tryz.info85:(Tryz.prog.info? 85).map (fun i=>(i.zero,i.size,i.bytes)) = some (some (.agg #[.string ByteArray.empty, .slice none 0 0, .slice none 0 0]),3,64):=by kernel_rfl
theorem Own_any (m:Nat):∀ (y:Fo) (av:Option Addr) (cv:Nat) (S:Nat→Prop) (w:World),y.cnt < m→FSl S w (.slice av y.len cv) y→(∀ b,S b→b < w.heap.size)→y.len ≤ 1000→y.Sm →
 Calls Tryz.prog 19 #[.slice av y.len cv] w fun e w'=>∃ a c,e = .returned (.slice a y.len c)∧FSl (Rg w.heap.size w'.heap.size) w' (.slice a y.len c) y∧Below w.heap.size w w':=by
 induction m with
 | zero=>intro y _ _ _ _ h;omega
 | succ m ih=>
 intro y av cv S w hcnt hv hS hlen hsm
 obtain ⟨a,c,he,hc,hm,hat⟩:=hv.at
 cases he
 obtain ⟨i0,hi0,hz0,hz1,hz2⟩:=info_parts Tryz.info85
 have IH:=hid ih
 clear ih
 unfold maxLen at hm
 go_enter Tryz.func19,Tryz.ntmps19
 go_wp2_with fail
 go_loopw [3,8] (fun v i wr=>∃ k:Nat,k ≤ y.len∧i = .int .i64 k∧(∃ cs,wr.ownsRow w.heap.size 85 3 v k cs∧FCs (Rx w.heap.size wr.heap.size v) wr (y.take k) cs)∧Below w.heap.size w wr) (fun _ i _=>y.len - (intOf i).toNat)
 case atStart=>exact ⟨0,by omega,rfl,⟨[],World.ownsRow_nil _ _ _ _,rfl⟩,Below.refl _ _⟩
 case round=>
  obtain ⟨k,hk,rfl,⟨cs,hown,hfc⟩,hB⟩:=hrel
  by_cases hlt:k < y.len
  · obtain ⟨g,o,n,l,s,r,an,cn,ab,cb,rfl,hg1,hd,hc0,hc1,hc2,hI,hF⟩:=hat k hlt
    have ha:Agree S w wr:=Ag_b hB hS
    have c0:=ha.cell hg1 hc0
    have c1:=ha.cell hg1 hc1
    have c2:=ha.cell hg1 hc2
    obtain ⟨s1,s2,s3,s4,_⟩:n.length ≤ 1000∧l.length ≤ 1000∧s.len ≤ 1000∧s.Sm∧r.Sm:=by have:=hsm.drop (i:=k);rwa [hd] at this
    have s5:=Fo.cnt_at hd
    have HD:=hid hd
    have hsz:=hB.size
    have hne:=owns_ne hown (nl_ wr.heap.size)
    clear hc0 hc1 hc2 hat hd
    go_wp2_with fail
    go_region_held3 (fun w'=>w'.cell? ⟨wr.heap.size,0,none⟩ = some (.string (bs n))∧w'.cell? ⟨wr.heap.size,1,none⟩ = some (.slice an l.length cn)∧w'.cell? ⟨wr.heap.size,2,none⟩ = some (.slice ab s.len cb))
     (first | go_keep | (go_split_ands;exact ⟨bc_ hb1 (by simp) (by assumption),bc_ hb1 (by simp) (by assumption),bc_ hb1 (by simp) (by assumption)⟩) | (go_split_ands;have hlt2:=hb1.size;exact ⟨bc_ hb2 (by simp at hlt2;omega) (by assumption),bc_ hb2 (by simp at hlt2;omega) (by assumption),bc_ hb2 (by simp at hlt2;omega) (by assumption)⟩) | (go_split_ands;exact ⟨grown_cell hgrow hne (by assumption),grown_cell hgrow hne (by assumption),grown_cell hgrow hne (by assumption)⟩))
     (first
       | (go_at_call 85;refine (dup_any l an cn S _ (hI.agree (Ag_b (B:=w.heap.size) ?_ hS)) ?_ s2).mono ?_;(exact (hB.alloc hB.size _).drew);(intro b hb;have:=hS b hb;simp;omega);rintro e w1 ⟨a1,c1,rfl,hI1,hb1⟩)
       | (go_at_call 19;refine (IH.out s ab cb S _ (by omega) (hF.agree (Ag_b (B:=w.heap.size) ?_ hS)) ?_ s3 s4).mono ?_;(exact ((hB.alloc hB.size _).drew).trans (hb1.mono (by simp;omega)));(intro b hb;have:=hS b hb;have:=hb1.size;simp at this;omega);rintro e w2 ⟨a2,c2,rfl,hF2,hb2⟩)
       | (refine step_append_lies _ (by rfl) _ _ _ (by rfl) w.heap.size 85 i0 _ 3 64 Tryz.underlying22 hi0 hz0 hz1 hz2 rfl (by omega) u3 k cs (by rfl) ((ob_ (ob_ (hown.alloc _).drew hb1 (nl_ _)) hb2 (nl_ _)).alloc _) ⟨w2.heap.size,0,none⟩ 1 1 [.string (bs n), .slice a1 l.length c1, .slice a2 s.len c2] (by rfl) (by rfl) (World.news_of_block (cs:=#[.string (bs n), .slice a1 l.length c1, .slice a2 s.len c2]) (t:=85) (fr:=(0,0)) (heap_alloc_new _ _)) (by simp [Value.oneCell']) (by omega) (by unfold maxLen;omega) (by omega) (by have:=hb1.size;have:=hb2.size;simp at *;omega) (w2.heap.size + 1) (by simp) ?_;intro gg cap w3 hown3 hgrow hatt hltt))
    go_wp2
    go_roundw
    case rel=>
     have st:Step w.heap.size wr _ w3 u3 gg:=⟨((((Below.refl _ _).alloc (nl_ _) _).drew.trans (hb1.mono (by simp))).trans (hb2.mono (by have:=hb1.size;simp at this;omega))).alloc (by have:=hb1.size;have:=hb2.size;simp at *;omega) _,hgrow,hsz,fun b hb=>hown.lt b hb,hatt.imp id (fun h=>by rw [h];simp),hltt⟩
     have hv':(Value.slice (some ⟨gg,0,none⟩) (k + 1) cap).ownBlock = some gg:=rfl
     have g1:=st.keep (Stable.fcs _ _) hv' hfc
     have g2:=st.lift (Stable.ints _ _) hv' hI1 (by simp) (by have:=hb2.size;simp;omega) (hb2.alloc hb2.size _)
     have g3:=st.lift (Stable.fsl _ _) hv' hF2 (by have:=hb1.size;simp at this;omega) (by simp) ((Below.refl _ _).alloc (nl_ _) _)
     exact ⟨k + 1,by omega,by go_num,⟨_,hown3,by rw [Fo.take_succ HD.out];exact g1.app (FCs.one g2 g3)⟩,st.out hB⟩
    case measure=>simp [intOf];omega
  · go_wp2_with fail
    go_ret
    obtain rfl:k = y.len:=by omega
    obtain ⟨aa,ca,rfl,_,_⟩:=(SlC.of_owns hown).shape
    rw [Fo.take_len] at hfc
    exact ⟨aa,ca,rfl,⟨_,SlC.of_owns hown,hfc.wide fun b hb=>⟨hb.1,hb.2.1⟩⟩,hB⟩
theorem Tryz.info97:(Tryz.prog.info? 97).map (fun i=>(i.zero,i.size,i.bytes)) = some (some (.agg #[.string ByteArray.empty, .slice none 0 0, .slice none 0 0]),3,64):=by kernel_rfl
theorem theirs_any (m:Nat):∀ (y:Fo) (av:Option Addr) (cv:Nat) (S:Nat→Prop) (w:World),y.cnt < m→FSl S w (.slice av y.len cv) y→(∀ b,S b→b < w.heap.size)→y.len ≤ 1000→y.Sm →
 Calls Tryz.prog 20 #[.slice av y.len cv] w fun e w'=>∃ a c,e = .returned (.slice a y.len c)∧FSl (Rg w.heap.size w'.heap.size) w' (.slice a y.len c) y∧Below w.heap.size w w':=by
 induction m with
 | zero=>intro y _ _ _ _ h;omega
 | succ m ih=>
 intro y av cv S w hcnt hv hS hlen hsm
 obtain ⟨a,c,he,hc,hm,hat⟩:=hv.at
 cases he
 obtain ⟨i0,hi0,hz0,hz1,hz2⟩:=info_parts Tryz.info97
 have IH:=hid ih
 clear ih
 unfold maxLen at hm
 go_enter Tryz.func20,Tryz.ntmps20
 go_wp2_with fail
 go_loopw [3,8] (fun v i wr=>∃ k:Nat,k ≤ y.len∧i = .int .i64 k∧(∃ cs,wr.ownsRow w.heap.size 97 3 v k cs∧FCs (Rx w.heap.size wr.heap.size v) wr (y.take k) cs)∧Below w.heap.size w wr) (fun _ i _=>y.len - (intOf i).toNat)
 case atStart=>exact ⟨0,by omega,rfl,⟨[],World.ownsRow_nil _ _ _ _,rfl⟩,Below.refl _ _⟩
 case round=>
  obtain ⟨k,hk,rfl,⟨cs,hown,hfc⟩,hB⟩:=hrel
  by_cases hlt:k < y.len
  · obtain ⟨g,o,n,l,s,r,an,cn,ab,cb,rfl,hg1,hd,hc0,hc1,hc2,hI,hF⟩:=hat k hlt
    have ha:Agree S w wr:=Ag_b hB hS
    have c0:=ha.cell hg1 hc0
    have c1:=ha.cell hg1 hc1
    have c2:=ha.cell hg1 hc2
    obtain ⟨s1,s2,s3,s4,_⟩:n.length ≤ 1000∧l.length ≤ 1000∧s.len ≤ 1000∧s.Sm∧r.Sm:=by have:=hsm.drop (i:=k);rwa [hd] at this
    have s5:=Fo.cnt_at hd
    have HD:=hid hd
    have hsz:=hB.size
    have hne:=owns_ne hown (nl_ wr.heap.size)
    clear hc0 hc1 hc2 hat hd
    go_wp2_with fail
    go_region_held3 (fun w'=>w'.cell? ⟨wr.heap.size,0,none⟩ = some (.string (bs n))∧w'.cell? ⟨wr.heap.size,1,none⟩ = some (.slice an l.length cn)∧w'.cell? ⟨wr.heap.size,2,none⟩ = some (.slice ab s.len cb))
     (first | go_keep | (go_split_ands;exact ⟨bc_ hb1 (by simp) (by assumption),bc_ hb1 (by simp) (by assumption),bc_ hb1 (by simp) (by assumption)⟩) | (go_split_ands;have hlt2:=hb1.size;exact ⟨bc_ hb2 (by simp at hlt2;omega) (by assumption),bc_ hb2 (by simp at hlt2;omega) (by assumption),bc_ hb2 (by simp at hlt2;omega) (by assumption)⟩) | (go_split_ands;exact ⟨grown_cell hgrow hne (by assumption),grown_cell hgrow hne (by assumption),grown_cell hgrow hne (by assumption)⟩))
     (first
       | (go_at_call 85;refine (dup_any l an cn S _ (hI.agree (Ag_b (B:=w.heap.size) ?_ hS)) ?_ s2).mono ?_;(exact (hB.alloc hB.size _).drew);(intro b hb;have:=hS b hb;simp;omega);rintro e w1 ⟨a1,c1,rfl,hI1,hb1⟩)
       | (go_at_call 20;refine (IH.out s ab cb S _ (by omega) (hF.agree (Ag_b (B:=w.heap.size) ?_ hS)) ?_ s3 s4).mono ?_;(exact ((hB.alloc hB.size _).drew).trans (hb1.mono (by simp;omega)));(intro b hb;have:=hS b hb;have:=hb1.size;simp at this;omega);rintro e w2 ⟨a2,c2,rfl,hF2,hb2⟩)
       | (refine step_append_lies _ (by rfl) _ _ _ (by rfl) w.heap.size 97 i0 _ 3 64 Tryz.underlying26 hi0 hz0 hz1 hz2 rfl (by omega) u3 k cs (by rfl) ((ob_ (ob_ (hown.alloc _).drew hb1 (nl_ _)) hb2 (nl_ _)).alloc _) ⟨w2.heap.size,0,none⟩ 1 1 [.string (bs n), .slice a1 l.length c1, .slice a2 s.len c2] (by rfl) (by rfl) (World.news_of_block (cs:=#[.string (bs n), .slice a1 l.length c1, .slice a2 s.len c2]) (t:=97) (fr:=(0,0)) (heap_alloc_new _ _)) (by simp [Value.oneCell']) (by omega) (by unfold maxLen;omega) (by omega) (by have:=hb1.size;have:=hb2.size;simp at *;omega) (w2.heap.size + 1) (by simp) ?_;intro gg cap w3 hown3 hgrow hatt hltt))
    go_wp2
    go_roundw
    case rel=>
     have st:Step w.heap.size wr _ w3 u3 gg:=⟨((((Below.refl _ _).alloc (nl_ _) _).drew.trans (hb1.mono (by simp))).trans (hb2.mono (by have:=hb1.size;simp at this;omega))).alloc (by have:=hb1.size;have:=hb2.size;simp at *;omega) _,hgrow,hsz,fun b hb=>hown.lt b hb,hatt.imp id (fun h=>by rw [h];simp),hltt⟩
     have hv':(Value.slice (some ⟨gg,0,none⟩) (k + 1) cap).ownBlock = some gg:=rfl
     have g1:=st.keep (Stable.fcs _ _) hv' hfc
     have g2:=st.lift (Stable.ints _ _) hv' hI1 (by simp) (by have:=hb2.size;simp;omega) (hb2.alloc hb2.size _)
     have g3:=st.lift (Stable.fsl _ _) hv' hF2 (by have:=hb1.size;simp at this;omega) (by simp) ((Below.refl _ _).alloc (nl_ _) _)
     exact ⟨k + 1,by omega,by go_num,⟨_,hown3,by rw [Fo.take_succ HD.out];exact g1.app (FCs.one g2 g3)⟩,st.out hB⟩
    case measure=>simp [intOf];omega
  · go_wp2_with fail
    go_ret
    obtain rfl:k = y.len:=by omega
    obtain ⟨aa,ca,rfl,_,_⟩:=(SlC.of_owns hown).shape
    rw [Fo.take_len] at hfc
    exact ⟨aa,ca,rfl,⟨_,SlC.of_owns hown,hfc.wide fun b hb=>⟨hb.1,hb.2.1⟩⟩,hB⟩
theorem eqInts_any (l m:List Int) (an am:Option Addr) (cn cm:Nat) (S:Nat→Prop) (w:World) (hl:Ints S w (.slice an l.length cn) l) (hm:Ints S w (.slice am m.length cm) m) (hlen:l.length ≤ 100000) (hlen2:m.length ≤ 100000) :
 Calls Tryz.prog 47 #[.slice an l.length cn, .slice am m.length cm] w fun e w'=>e = .returned (.bool (decide (l = m)))∧Below w.heap.size w w':=by
 by_cases hne:l.length = m.length
 · have hne':((l.length:Int) != (m.length:Int)) = false:=by simp;omega
   have HN:=hid hne
   clear hne
   go_enter Tryz.func47,Tryz.ntmps47
   go_wp2_with fail
   go_loopw [13] (fun i wr=>∃ (k d:Nat),k ≤ l.length∧i = .int .i64 k∧wr = w.drewN d∧Hid (l.take k = m.take k)) (fun i _=>l.length - (intOf i).toNat)
   case atStart=>exact ⟨0,0,by omega,rfl,rfl,by simp [Hid]⟩
   case round=>
    obtain ⟨k,d,hk,rfl,rfl,H2⟩:=hrel
    by_cases hlt:k < l.length
    · obtain ⟨g,o,rfl,_,_,_,hcell⟩:=SlC.cells hl (by omega)
      obtain ⟨g',o',rfl,_,_,_,hcell'⟩:=SlC.cells hm (by have:=HN.out;omega)
      have hlt':k < m.length:=by have:=HN.out;omega
      have hx:w.cell? ⟨g,o + k,none⟩ = some (.int .i64 l[k]):=hcell k _ (by simp [hlt])
      have hx':w.cell? ⟨g',o' + k,none⟩ = some (.int .i64 m[k]):=hcell' k _ (by simp [hlt'])
      clear hcell hcell'
      have i1:(0:Int) ≤ (k:Int):=by omega
      have i2:(k:Int) < (l.length:Int):=by omega
      have i3:(k:Int) < (m.length:Int):=by omega
      by_cases he:l[k] = m[k]
      · have he':(l[k] != m[k]) = false:=by simpa using he
        have HE:=hid he
        clear he
        go_wp2_with fail
        go_quiet (fail)
        go_wp2_with fail
        go_roundw
        case rel=>exact ⟨k + 1,_,by omega,by go_num,rfl,by rw [Hid,List.take_succ_eq_append_getElem hlt,List.take_succ_eq_append_getElem hlt',H2.out,HE.out]⟩
        case measure=>simp [intOf];omega
      · have he':(l[k] != m[k]) = true:=by simpa using he
        have HE:=hid he
        clear he
        go_wp2_with fail
        go_quiet (fail)
        go_wp2_with fail
        go_ret
        refine ⟨ret_bool ?_,below_drewN (below_drewN (Below.refl _ _) _) _⟩
        symm
        rw [decide_eq_false_iff_not]
        rintro rfl
        exact HE.out rfl
    · go_wp2_with fail
      go_ret
      obtain rfl:k = l.length:=by omega
      refine ⟨ret_bool ?_,below_drewN (Below.refl _ _) _⟩
      symm
      have:=H2.out
      rw [List.take_length,HN.out,List.take_length] at this
      exact decide_eq_true this
 · have hne':((l.length:Int) != (m.length:Int)) = true:=by simp;omega
   have HN:=hid hne
   clear hne
   go_enter Tryz.func47,Tryz.ntmps47
   go_wp2_with fail
   go_ret
   refine ⟨ret_bool ?_,Below.refl _ _⟩
   symm
   rw [decide_eq_false_iff_not]
   rintro rfl
   exact HN.out rfl
theorem Fo.drop_eq {i:Nat} {y z r s r' s':Fo} {n n':List UInt8} {l l':List Int} (h:y.drop i = .cons n l s r) (h':z.drop i = .cons n' l' s' r') (e:y = z):n = n'∧l = l'∧s = s':=by
 subst e;rw [h] at h';cases h';exact ⟨rfl,rfl,rfl⟩
theorem Fo.take_eq {i:Nat} {y z r s r':Fo} {n:List UInt8} {l:List Int} (h:y.drop i = .cons n l s r) (h':z.drop i = .cons n l s r') (e:y.take i = z.take i):y.take (i + 1) = z.take (i + 1):=by
 rw [Fo.take_succ h,Fo.take_succ h',e]
theorem enters99:∀ (args:Array Value) (W:World),(callFunc 99 args).run Tryz.prog W = .ok (.enter 99 args) W:=by
 intro args W
 simp [go_sem]
def NodeEqC (g:Nat) (m:Nat):Prop:=∀ (n:List UInt8) (l:List Int) (s:Fo) (an:Option Addr) (cn:Nat) (ab:Option Addr) (cb:Nat) (n':List UInt8) (l':List Int) (s':Fo) (an':Option Addr) (cn':Nat) (ab':Option Addr) (cb':Nat) (S:Nat→Prop) (w:World),
 s.cnt < m→Ints S w (.slice an l.length cn) l→FSl S w (.slice ab s.len cb) s→Ints S w (.slice an' l'.length cn') l'→FSl S w (.slice ab' s'.len cb') s'→(∀ b,S b→b < w.heap.size)→l.length ≤ 1000→s.len ≤ 1000→s.Sm→l'.length ≤ 1000→s'.len ≤ 1000→s'.Sm →
 Calls Tryz.prog g #[.agg #[.string (bs n), .slice an l.length cn, .slice ab s.len cb], .agg #[.string (bs n'), .slice an' l'.length cn', .slice ab' s'.len cb']] w fun e w'=>e = .returned (.bool (decide (n = n'∧l = l'∧s = s')))∧Below w.heap.size w w'
theorem eqNodes_any (m:Nat) (hcl:NodeEqC 99 m) (y z:Fo) (ay:Option Addr) (cy:Nat) (az:Option Addr) (cz:Nat) (S:Nat→Prop) (w:World) (hm:y.cnt < m + 1) (hy:FSl S w (.slice ay y.len cy) y) (hz:FSl S w (.slice az z.len cz) z) (hS:∀ b,S b→b < w.heap.size) (ly:y.len ≤ 1000) (lz:z.len ≤ 1000) (sy:y.Sm) (sz:z.Sm) :
 Calls Tryz.prog 98 #[.slice ay y.len cy, .slice az z.len cz, .func (.func 99) #[] #[]] w fun e w'=>e = .returned (.bool (decide (y = z)))∧Below w.heap.size w w':=by
 obtain ⟨_,_,he,hc,hm1,hat⟩:=hy.at
 cases he
 obtain ⟨_,_,he,hc',hm2,hat'⟩:=hz.at
 cases he
 unfold maxLen at hm1 hm2
 have HC:=hid hcl
 clear hcl
 have hE:=enters99
 by_cases hne:y.len = z.len
 · have hne':((y.len:Int) != (z.len:Int)) = false:=by simp;omega
   have HN:=hid hne
   clear hne
   go_enter Tryz.func98,Tryz.ntmps98
   go_wp2_with fail
   go_loopw [17] (fun i wr=>∃ k:Nat,k ≤ y.len∧i = .int .i64 k∧Hid (y.take k = z.take k)∧Below w.heap.size w wr) (fun i _=>y.len - (intOf i).toNat)
   case atStart=>exact ⟨0,by omega,rfl,by simp [Hid,Fo.take],Below.refl _ _⟩
   case round=>
    obtain ⟨k,hk,rfl,H2,hB⟩:=hrel
    have HAT:=hid hat
    have HAT':=hid hat'
    clear hat hat'
    by_cases hlt:k < y.len
    · obtain ⟨g,o,n,l,s,r,an,cn,ab,cb,rfl,hg1,hd,hc0,hc1,hc2,hI,hF⟩:=HAT.out k hlt
      obtain ⟨g',o',n',l',s',r',an',cn',ab',cb',rfl,hg1',hd',hc0',hc1',hc2',hI',hF'⟩:=HAT'.out k (by have:=HN.out;omega)
      have hlt':(k:Int) < (z.len:Int):=by have:=HN.out;omega
      have ha:Agree S w wr:=Ag_b hB hS
      have c0:=ha.cell hg1 hc0
      have c1:=ha.cell hg1 hc1
      have c2:=ha.cell hg1 hc2
      have d0:=ha.cell hg1' hc0'
      have d1:=ha.cell hg1' hc1'
      have d2:=ha.cell hg1' hc2'
      obtain ⟨s1,s2,s3,s4,_⟩:n.length ≤ 1000∧l.length ≤ 1000∧s.len ≤ 1000∧s.Sm∧r.Sm:=by have:=sy.drop (i:=k);rwa [hd] at this
      obtain ⟨p1,p2,p3,p4,_⟩:n'.length ≤ 1000∧l'.length ≤ 1000∧s'.len ≤ 1000∧s'.Sm∧r'.Sm:=by have:=sz.drop (i:=k);rwa [hd'] at this
      have s5:=Fo.cnt_at hd
      have HD:=hid hd
      have HD':=hid hd'
      have hsz:=hB.size
      have lg:=hS _ hg1'
      have lg':g' < wr.heap.size:=by omega
      have hbx:Below w.heap.size w (wr.alloc (.cells #[.string (bs n), .slice an l.length cn, .slice ab s.len cb] 85)):=hB.alloc hsz _
      have e0:=(Ag_b hbx hS).cell hg1' hc0'
      have e1:=(Ag_b hbx hS).cell hg1' hc1'
      have e2:=(Ag_b hbx hS).cell hg1' hc2'
      clear hbx
      clear hc0 hc1 hc2 hd hc0' hc1' hc2' hd'
      go_wp2_with fail
      have hb2:Below w.heap.size w ((wr.alloc (.cells #[.string (bs n), .slice an l.length cn, .slice ab s.len cb] 85)).alloc (.cells #[.string (bs n'), .slice an' l'.length cn', .slice ab' s'.len cb'] 85)):=(hB.alloc hsz _).alloc (by simp;omega) _
      have ha2:=Ag_b hb2 hS
      have HB2:=hid hb2
      refine (HC.out n l s an cn ab cb n' l' s' an' cn' ab' cb' S _ (by omega) (hI.agree ha2) (hF.agree ha2) (hI'.agree ha2) (hF'.agree ha2) (fun b h=>by have:=hS b h;simp;omega) s2 s3 s4 p2 p3 p4).mono ?_
      rintro e w1 ⟨rfl,hb1⟩
      clear hb2 ha2
      by_cases he:n = n'∧l = l'∧s = s'
      · have he':decide (n = n'∧l = l'∧s = s') = true:=decide_eq_true he
        have HE:=hid he
        clear he
        rw [he']
        go_wp2_with fail
        go_roundw
        case rel=>exact ⟨k + 1,by omega,by go_num,by obtain ⟨rfl,rfl,rfl⟩:=HE.out;exact Fo.take_eq HD.out HD'.out H2.out,HB2.out.trans (hb1.mono HB2.out.size)⟩
        case measure=>simp [intOf];omega
      · have he':decide (n = n'∧l = l'∧s = s') = false:=decide_eq_false he
        have HE:=hid he
        clear he
        rw [he']
        go_wp2_with fail
        go_ret
        refine ⟨ret_bool ?_,HB2.out.trans (hb1.mono HB2.out.size)⟩
        symm
        rw [decide_eq_false_iff_not]
        exact fun e=>HE.out (Fo.drop_eq HD.out HD'.out e)
    · go_wp2_with fail
      go_ret
      obtain rfl:k = y.len:=by omega
      refine ⟨ret_bool ?_,hB⟩
      symm
      have:=H2.out
      rw [Fo.take_len,HN.out,Fo.take_len] at this
      exact decide_eq_true this
 · have hne':((y.len:Int) != (z.len:Int)) = true:=by simp;omega
   have HN:=hid hne
   clear hne
   go_enter Tryz.func98,Tryz.ntmps98
   go_wp2_with fail
   go_ret
   refine ⟨ret_bool ?_,Below.refl _ _⟩
   symm
   rw [decide_eq_false_iff_not]
   rintro rfl
   exact HN.out rfl
theorem alike_any (m:Nat):NodeEqC 99 m∧∀ (y z:Fo) (ay:Option Addr) (cy:Nat) (az:Option Addr) (cz:Nat) (S:Nat→Prop) (w:World),y.cnt < m→FSl S w (.slice ay y.len cy) y→FSl S w (.slice az z.len cz) z→(∀ b,S b→b < w.heap.size)→y.len ≤ 1000→z.len ≤ 1000→y.Sm→z.Sm →
 Calls Tryz.prog 25 #[.slice ay y.len cy, .slice az z.len cz] w fun e w'=>e = .returned (.bool (decide (y = z)))∧Below w.heap.size w w':=by
 induction m with
 | zero=>exact ⟨fun _ _ _ _ _ _ _ _ _ _ _ _ _ _ _ _ h=>by omega,fun _ _ _ _ _ _ _ _ h=>by omega⟩
 | succ m ih=>
   have key:∀ (y z:Fo) (ay:Option Addr) (cy:Nat) (az:Option Addr) (cz:Nat) (S:Nat→Prop) (w:World),y.cnt < m + 1→FSl S w (.slice ay y.len cy) y→FSl S w (.slice az z.len cz) z→(∀ b,S b→b < w.heap.size)→y.len ≤ 1000→z.len ≤ 1000→y.Sm→z.Sm →
    Calls Tryz.prog 25 #[.slice ay y.len cy, .slice az z.len cz] w fun e w'=>e = .returned (.bool (decide (y = z)))∧Below w.heap.size w w':=by
    intro y z ay cy az cz S w hm hy hz hS ly lz sy sz
    have hq:=eqNodes_any m ih.1 y z ay cy az cz S w hm hy hz hS ly lz sy sz
    have HQ:=hid hq
    clear hq ih
    go_enter Tryz.func25,Tryz.ntmps25
    go_wp2_with fail
    refine HQ.out.mono ?_
    rintro e w1 ⟨rfl,hb1⟩
    go_wp2_with fail
    go_ret
    exact ⟨rfl,hb1⟩
   refine ⟨?_,key⟩
   have KEY:=hid key
   clear key ih
   intro n l s an cn ab cb n' l' s' an' cn' ab' cb' S w hm hI hF hI' hF' hS l1 l2 sm1 l3 l4 sm2
   have hb:Below w.heap.size w ((w.alloc (.cells #[.string (bs n), .slice an l.length cn, .slice ab s.len cb] 85)).alloc (.cells #[.string (bs n'), .slice an' l'.length cn', .slice ab' s'.len cb'] 85)):=((Below.refl _ _).alloc (nl_ _) _).alloc (by simp) _
   have HB:=hid hb
   clear hb
   by_cases h1:n = n'
   · have t1:(n == n') = true:=by simpa using h1
     have H1:=hid h1
     clear h1
     go_enter Tryz.func99,Tryz.ntmps99
     go_wp2_with fail
     refine (eqInts_any l l' an an' cn cn' S _ (hI.agree (Ag_b HB.out hS)) (hI'.agree (Ag_b HB.out hS)) (by omega) (by omega)).mono ?_
     rintro e w1 ⟨rfl,hb1⟩
     have x2:=bc_ hb1 (b:=w.heap.size) (o:=2) (v := .slice ab s.len cb) (by simp;omega) (by simp)
     have x2':=bc_ hb1 (b:=w.heap.size + 1) (o:=2) (v := .slice ab' s'.len cb') (by simp) (by simp)
     have HB1:=hid (HB.out.trans (hb1.mono HB.out.size))
     by_cases h2:l = l'
     · have t2:decide (l = l') = true:=decide_eq_true h2
       have H2:=hid h2
       clear h2
       rw [t2]
       go_wp2_with fail
       refine (KEY.out s s' ab cb ab' cb' S _ hm (hF.agree (Ag_b HB1.out hS)) (hF'.agree (Ag_b HB1.out hS)) (fun b h=>by have:=hS b h;have:=HB1.out.size;omega) l2 l4 sm1 sm2).mono ?_
       rintro e w2 ⟨rfl,hb2⟩
       go_wp2_with fail
       go_ret
       exact ⟨ret_bool (by have:=H1.out;have:=H2.out;subst n';subst l';simp),HB1.out.trans (hb2.mono HB1.out.size)⟩
     · have t2:decide (l = l') = false:=decide_eq_false h2
       have H2:=hid h2
       clear h2
       rw [t2]
       go_wp2_with fail
       go_ret
       exact ⟨ret_bool (by symm;rw [decide_eq_false_iff_not];exact fun e=>H2.out e.2.1),HB1.out⟩
   · have t1:(n == n') = false:=by simpa using h1
     have H1:=hid h1
     clear h1
     go_enter Tryz.func99,Tryz.ntmps99
     go_wp2_with fail
     go_ret
     exact ⟨ret_bool (by symm;rw [decide_eq_false_iff_not];exact fun e=>H1.out e.1),HB.out⟩
end Go.Proofs.LF
