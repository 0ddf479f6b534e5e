/- Parts of the proof of a law of layer 11 (file): LbS8. The conditions stand in each theorem. -/
import Derived.Test.YtffjknkcogmnbaaGreatDoorProg
import Derived.Test.YtffjknkcogmnbaaGreatDoorTybe
import Derived.Test.YtffjknkcogmnbaaGreatDoorTybf
set_option linter.all false
set_option linter.unusedVariables false
set_option linter.unusedSimpArgs false
namespace Go.Proofs.LS
open Go.RowKit Go.Sort Go.Proofs.LF Go.Proofs.LB
set_option maxHeartbeats 4000000
set_option maxRecDepth 100000
attribute [local go_sem] q1_ q2_ q8_
attribute [local go_sem] yk_ y2_
def wC (x:Way):Array Value:=#[.int .i64 x.f, .int .i64 x.t, .int .i64 x.lo, .int .i64 x.hi, .int .i64 x.cost, .int .i64 x.goes]
def wV (l:List Way):List Value:=l.flatMap fun x=>(wC x).toList
theorem wV_app (l m:List Way):wV (l ++ m) = wV l ++ wV m:=by simp [wV]
theorem wV_one (l:List Way):∀ u ∈ wV l,u.oneCell' = true:=by
 intro u hu
 obtain ⟨x,_,h⟩:=List.mem_flatMap.1 hu
 simp [wC] at h
 rcases h with rfl | rfl | rfl | rfl | rfl | rfl <;> rfl
theorem Tryz.info229:(Tryz.prog.info? 229).map (fun i=>(i.zero,i.size,i.bytes)) = some (some (.agg #[.int .i64 0, .int .i64 0, .int .i64 0, .int .i64 0, .int .i64 0, .int .i64 0]),6,48):=by kernel_rfl
theorem k2_ {w:World} {base e k n b:Nat} {v:Value} {xs:List Value} (h:w.ownsRow base e k v n xs) (hb:v.ownBlock = some b) (x:Option (List Deferred)) (he:w.heap[b]? = some (Obj.deferred x)):False:=by
 obtain ⟨_,⟨rfl,_⟩ | ⟨g,cap,cur,rfl,_,hg,_⟩⟩:=h
 · cases hb
 · obtain rfl:g = b:=by simpa [Value.ownBlock] using hb
   rw [hg] at he;cases he
structure LdS (q b1:Nat) (w:World) (ws:List Way) (v:Value) (W:World):Prop where
 c:W.heap[q]? = some (.cells #[.func (.func 162) #[] #[.pointer (some ⟨b1,0,none⟩)]] 169 (0,0))
 n:W.heap[q + 1]? = some (.cells #[v] 227 (0,0))
 p:W.heap[q + 2]? = some (.cells #[.pointer (some ⟨(q + 1),0,none⟩)] 162 (0,0))
 own:W.ownsRow (q + 3) 229 6 v ws.length (wV ws)
 bel:Below q w W
 sz:q + 3 ≤ W.heap.size
theorem LdS.below {q b1:Nat} {w:World} {ws:List Way} {v:Value} {W W':World} (h:LdS q b1 w ws v W) (hb:Below W.heap.size W W'):LdS q b1 w ws v W':=
 ⟨q0_ h.c hb,q0_ h.n hb,q0_ h.p hb,ob_ h.own hb (nl_ _),h.bel.trans (hb.mono (by have:=h.sz;omega)),by have:=h.sz;have:=hb.size;omega⟩
theorem LdS.push {q b1:Nat} {w:World} {ws:List Way} {v v':Value} {x:Way} {W W':World} (h:LdS q b1 w ws v W) (ho:W'.ownsRow (q + 3) 229 6 v' (ws.length + 1) (wV ws ++ wV [x])) (hg:W.grownBy W' v.ownBlock):LdS q b1 w (ws ++ [x]) v' (W'.setCell ⟨q + 1,0,none⟩ v'):=by
 have hs:=h.sz
 have hgz:=hg.size
 have hnb:∀ b,b < q + 3→W'.heap[b]? = W.heap[b]?:=fun b hb=>hg.block b (by omega) fun e=>by have:=(h.own.lt _ e.symm).1;omega
 have hst:∀ b,b ≠ q + 1→(W'.setCell ⟨q + 1,0,none⟩ v').heap[b]? = W'.heap[b]?:=fun b hb=>Below.heap_setCell _ _ _ _ hb
 refine ⟨(hst _ (by omega)).trans ((hnb _ (by omega)).trans h.c),set1 ((hnb _ (by omega)).trans h.n),(hst _ (by omega)).trans ((hnb _ (by omega)).trans h.p),?_,?_,by simp [World.setCell];omega⟩
 · rw [List.length_append,wV_app]
   exact q3_ ho fun g hg=>hst g (by have:=(ho.lt _ hg).1;omega)
 · exact Below.setCell (h.bel.grown hg (by omega) fun b hb=>by have:=(h.own.lt _ hb).1;omega) (p:=⟨q + 1,0,none⟩) (by simp) _
theorem laid_any (S:List St) (C:List Sp) (M D b1 N:Nat) (as_ ac:Option Addr) (cs_ cc:Nat) (B:Nat→Prop) (w:World) (hs:LSl rdSt B w (.slice as_ S.length cs_) S) (hc:LSl rdSp B w (.slice ac C.length cc) C) (hB:∀ b,B b→b < w.heap.size)
 (hD:w.heap[D]? = some (.cells #[.slice as_ S.length cs_, .slice ac C.length cc, .map (some M)] 221 (0,0))) (hM:kK_ M N (fM S S.length) w) (h1:w.heap[b1]? = some (.cells #[.func (.func 119) #[.pointer (some ⟨D,0,none⟩)] #[]] 240 (0,0))) (hO:OkSc S C) :
 Calls Tryz.prog 113 #[.pointer (some ⟨D,0,none⟩), .agg #[.func (.func 162) #[] #[.pointer (some ⟨b1,0,none⟩)]]] w fun e w'=>∃ v,e = .returned (.pointer (some ⟨(w.heap.size + 1),0,none⟩))∧w'.heap[w.heap.size + 1]? = some (.cells #[v] 227 (0,0))∧w'.ownsRow (w.heap.size + 3) 229 6 v (laid S C).length (wV (laid S C))∧Below w.heap.size w w':=by
 obtain ⟨w3,hw3⟩:∃ w3,((w.alloc (.cells #[.func (.func 162) #[] #[.pointer (some ⟨b1,0,none⟩)]] 169)).alloc (.cells #[.slice none 0 0] 227)).alloc (.cells #[.pointer (some ⟨(w.heap.size + 1),0,none⟩)] 162) = w3:=⟨_,rfl⟩
 have hz3:w3.heap.size = w.heap.size + 3:=by rw [← hw3];simp
 have hb3:Below w.heap.size w w3:=by rw [← hw3];exact (((Below.refl _ _).alloc (nl_ _) _).alloc (by simp) _).alloc (by simp;omega) _
 have r1:w3.heap[w.heap.size]? = some (.cells #[.func (.func 162) #[] #[.pointer (some ⟨b1,0,none⟩)]] 169 (0,0)):=by rw [← hw3];exact qb_ _ (qb_ _ (ha_ _ _))
 have r2:w3.heap[w.heap.size + 1]? = some (.cells #[.slice none 0 0] 227 (0,0)):=by rw [← hw3];have:=qb_ (.cells #[.pointer (some ⟨(w.heap.size + 1),0,none⟩)] 162) (ha_ (w.alloc (.cells #[.func (.func 162) #[] #[.pointer (some ⟨b1,0,none⟩)]] 169)) (.cells #[.slice none 0 0] 227));simpa using this
 have r3:w3.heap[w.heap.size + 2]? = some (.cells #[.pointer (some ⟨(w.heap.size + 1),0,none⟩)] 162 (0,0)):=by rw [← hw3];have:=ha_ ((w.alloc (.cells #[.func (.func 162) #[] #[.pointer (some ⟨b1,0,none⟩)]] 169)).alloc (.cells #[.slice none 0 0] 227)) (.cells #[.pointer (some ⟨(w.heap.size + 1),0,none⟩)] 162);simpa using this
 have HSs:=hid hs
 have HCs:=hid hc
 have HB:=hid hB
 have HD:=hid hD
 have HM:=hid hM
 have H1:=hid h1
 have HO:=hid hO
 have h6:=hO.s
 have h5:=hO.c
 obtain ⟨q,hq⟩:∃ q,w.heap.size = q:=⟨_,rfl⟩
 rw [hq] at r1 r2 r3
 have L0:=hid (show LdS q b1 w [] (.slice none 0 0) w3 from ⟨r1,r2,r3,World.ownsRow_nil _ _ _ _,hq ▸ hb3,by omega⟩)
 clear hb3 r1 r2 r3 hs hc hB hM h1 hO
 have hDl:=(ge_ hD).1
 have d0:=cg_ (q0_ hD (hq ▸ L0.out.bel)) (k:=0) (v := .slice as_ S.length cs_) rfl
 have HQ:=hid hq
 have HZ3:=hid hz3
 clear hD hq hz3
 refine (callsIn_wide (n:=9)).1 ?_
 refine callsIn_of_wp_marks Tryz.func113 rfl trivial ?_ rfl
 simp only [Tryz.ntmps113,List.size_toArray,List.length_cons,List.length_nil,Nat.reduceAdd,Nat.reduceSub,Array.replicate_succ,Array.replicate_zero,List.push_toArray,List.append_toArray,List.nil_append,List.cons_append]
 refine kE_ ?_
 gi_wp2_with fail
 try rw [hw3]
 simp only [HQ.out]
 obtain ⟨_,_,he,_,hmm,hat⟩:=LSl.at HSs.out
 cases he
 unfold maxLen at hmm
 have HAT:=hid hat
 obtain ⟨_,_,he,_,hmm2,hat2⟩:=LSl.at HCs.out
 cases he
 unfold maxLen at hmm2
 have HAT2:=hid hat2
 clear hat hat2
 obtain ⟨i0,hi0,hy0,hy1,hy2⟩:=info_parts Tryz.info229
 have ht229:=Tryz.underlying225
 clear hw3 d0
 gi_loopw [19] (fun vi wr=>∃ (k:Nat) (v:Value),k ≤ S.length∧vi = .int .i64 k∧Hid (LdS q b1 w (v1_ S k) v wr)) (fun vi _=>S.length - (intOf vi).toNat)
 case atStart=>exact ⟨0,_,by omega,rfl,L0.out⟩
 case round=>
  obtain ⟨k,v,hk,rfl,HL⟩:=hrel
  have i1:(0:Int) ≤ (k:Int):=by omega
  by_cases hlt:k < S.length
  · have hlt':(k:Int) < (S.length:Int):=by omega
    obtain ⟨g,o,cs1,rfl,hg,hc,hcell⟩:=HAT.out k hlt
    have hc:cs1 = (stC S[k]).toList:=hc
    have hgd:S.getD k st0 = S[k]:=by simp [List.getD_eq_getElem?_getD,List.getElem?_eq_getElem hlt]
    have hsm:=HO.out.sm (List.getElem_mem hlt)
    obtain ⟨x,hx⟩:∃ x,S[k] = x:=⟨_,rfl⟩
    rw [hx] at hc hgd hsm
    subst hc
    have hgl:g < q:=by rw [← HQ.out];exact HB.out g hg
    have e0:=hcell 0 _ rfl
    have e1:=hcell 1 _ rfl
    have e2:=hcell 2 _ rfl
    have e3:=hcell 3 _ rfl
    have e4:=hcell 4 _ rfl
    have e5:=hcell 5 _ rfl
    have e6:=hcell 6 _ rfl
    rw [Nat.add_zero] at e0
    rw [← Nat.add_assoc] at e1 e2 e3 e4 e5 e6
    have c0:=bc_ HL.out.bel hgl e0
    have c1:=bc_ HL.out.bel hgl e1
    have c2:=bc_ HL.out.bel hgl e2
    have c3:=bc_ HL.out.bel hgl e3
    have c4:=bc_ HL.out.bel hgl e4
    have c5:=bc_ HL.out.bel hgl e5
    have c6:=bc_ HL.out.bel hgl e6
    clear hcell e0 e1 e2 e3 e4 e5 e6
    obtain ⟨w5,hw5⟩:∃ w5,wr.alloc (.cells #[.int .i64 x.t, .int .i64 x.ll, .int .i64 x.lh, .int .i64 x.sl, .int .i64 x.sh, .int .i64 x.el, .int .i64 x.eh] 72) = w5:=⟨_,rfl⟩
    have hb5:Below wr.heap.size wr w5:=by rw [← hw5];exact (Below.refl _ _).alloc (nl_ _) _
    have XN:=hid (show w5.heap[wr.heap.size]? = some (.cells #[.int .i64 x.t, .int .i64 x.ll, .int .i64 x.lh, .int .i64 x.sl, .int .i64 x.sh, .int .i64 x.el, .int .i64 x.eh] 72 (0,0)) by rw [← hw5];exact ha_ _ _)
    have L5:=hid (HL.out.below hb5)
    obtain ⟨bx,hbx⟩:∃ b,wr.heap.size = b:=⟨_,rfl⟩
    rw [hbx] at XN
    have hbxq:q + 3 ≤ bx:=by rw [← hbx];exact HL.out.sz
    have HOB:=hid (show ∀ b,b = bx→v.ownBlock ≠ some b from fun b e h=>by have:=(HL.out.own.lt _ h).2;omega)
    clear hb5 HL
    gi_wp2_with fail
    try rw [hw5]
    try simp only [hbx]
    clear hw5 hbx c0 c1 c2 c3 c4 c5 c6
    have hwk:IntKind.i64.wrap (1 + (k:Int)) = 1 + (k:Int):=IntWalk.i64_in _ (by omega)
    have SC:=hid (fun (V:World) (hp:V.heap[q + 2]? = some (.cells #[.pointer (some ⟨(q + 1),0,none⟩)] 162 (0,0))) (hn:V.heap[q + 1]? = some (.cells #[v] 227 (0,0))) (h2:V.heap[bx]? = some (.cells #[.int .i64 x.t, .int .i64 x.ll, .int .i64 x.lh, .int .i64 x.sl, .int .i64 x.sh, .int .i64 x.el, .int .i64 x.eh] 72 (0,0)))=>show V.cell? ⟨q + 2,0,none⟩ = some (.pointer (some ⟨(q + 1),0,none⟩))∧V.cell? ⟨q + 1,0,none⟩ = some v∧V.cell? ⟨bx,0,none⟩ = some (.int .i64 x.t)∧V.cell? ⟨bx,1,none⟩ = some (.int .i64 x.ll)∧V.cell? ⟨bx,2,none⟩ = some (.int .i64 x.lh)∧V.cell? ⟨bx,3,none⟩ = some (.int .i64 x.sl)∧V.cell? ⟨bx,4,none⟩ = some (.int .i64 x.sh)∧V.cell? ⟨bx,5,none⟩ = some (.int .i64 x.el)∧V.cell? ⟨bx,6,none⟩ = some (.int .i64 x.eh) from ⟨cg_ hp (k:=0) rfl,cg_ hn (k:=0) rfl,cg_ h2 (k:=0) rfl,cg_ h2 (k:=1) rfl,cg_ h2 (k:=2) rfl,cg_ h2 (k:=3) rfl,cg_ h2 (k:=4) rfl,cg_ h2 (k:=5) rfl,cg_ h2 (k:=6) rfl⟩)
    have hbd:Below w5.heap.size w5 w5.drew:=(Below.refl _ w5).drew
    obtain ⟨W0,hW0⟩:∃ W0,w5.drew = W0:=⟨_,rfl⟩
    rw [hW0] at hbd
    replace L5:=hid (L5.out.below hbd)
    replace XN:=hid (q0_ XN.out hbd)
    clear hbd
    have GN:=hid (fun V=>yF_ x V hsm)
    unfold stC spC at GN
    have hS0:=SC.out W0 L5.out.p L5.out.n XN.out
    have hlen:(v1_ S k).length = k:=vk_ S k
    have hbo:∀ b,b = bx→v.ownBlock ≠ some b:=fun b e=>HOB.out b e
    have hbx3:bx = bx:=rfl
    refine zS_ (fun V:World=>V.cell? ⟨q + 2,0,none⟩ = some (.pointer (some ⟨(q + 1),0,none⟩))∧V.cell? ⟨q + 1,0,none⟩ = some v∧V.cell? ⟨bx,0,none⟩ = some (.int .i64 x.t)∧V.cell? ⟨bx,1,none⟩ = some (.int .i64 x.ll)∧V.cell? ⟨bx,2,none⟩ = some (.int .i64 x.lh)∧V.cell? ⟨bx,3,none⟩ = some (.int .i64 x.sl)∧V.cell? ⟨bx,4,none⟩ = some (.int .i64 x.sh)∧V.cell? ⟨bx,5,none⟩ = some (.int .i64 x.el)∧V.cell? ⟨bx,6,none⟩ = some (.int .i64 x.eh)) 18 (by kernel_rfl) ?_
    rw [hW0]
    clear hW0
    refine tkU 0 24 (.pointer (some ⟨(q + 1),0,none⟩)) rfl rfl hS0 ?_
    refine tkU 1 25 (.pointer (some ⟨(q + 1),0,none⟩)) rfl rfl hS0 ?_
    refine tkU 2 26 (.pointer (some ⟨(q + 1),0,none⟩)) rfl rfl hS0 ?_
    refine tkU 3 27 (.pointer (some ⟨(q + 1),0,none⟩)) rfl rfl hS0 ?_
    refine tkU 4 28 (v) rfl rfl hS0 ?_
    refine tkU 5 29 (.int .i64 k) rfl rfl hS0 ?_
    refine tkU 6 30 (.int .i64 (1 + (k:Int))) rfl rfl hS0 ?_
    refine tkU 7 31 (.agg #[.int .i64 x.t, .int .i64 x.ll, .int .i64 x.lh, .int .i64 x.sl, .int .i64 x.sh, .int .i64 x.el, .int .i64 x.eh]) rfl rfl hS0 ?_
    refine tkU 10 34 (.agg #[.int .i64 x.t, .int .i64 x.ll, .int .i64 x.lh, .int .i64 x.sl, .int .i64 x.sh, .int .i64 x.el, .int .i64 x.eh]) rfl rfl hS0 ?_
    refine qk_ (i:=8) (by kernel_rfl) rfl (by kernel_rfl) (by decide) (fun K hK=>?_)
    go_simp
    refine ⟨trivial,(callsIn_wide.2 (GN.out W0)).mono ?_⟩
    rintro e W1 ⟨rfl,hb1⟩
    replace L5:=hid (L5.out.below hb1)
    replace XN:=hid (q0_ XN.out hb1)
    have hS1:=SC.out W1 L5.out.p L5.out.n XN.out
    refine hK _ _ ⟨hS1,?_⟩
    clear hK hb1 hS0
    refine tkU 9 33 (.int .i64 (kh_ x).lo) rfl rfl hS1 ?_
    refine qk_ (i:=11) (by kernel_rfl) rfl (by kernel_rfl) (by decide) (fun K hK=>?_)
    go_simp
    refine ⟨trivial,(callsIn_wide.2 (GN.out W1)).mono ?_⟩
    rintro e W2 ⟨rfl,hb2⟩
    replace L5:=hid (L5.out.below hb2)
    replace XN:=hid (q0_ XN.out hb2)
    have hS2:=SC.out W2 L5.out.p L5.out.n XN.out
    refine hK _ _ ⟨hS2,?_⟩
    clear hK hb2 hS1
    refine tkU 12 36 (.int .i64 (kh_ x).hi) rfl rfl hS2 ?_
    refine tkU 13 37 (.agg #[.int .i64 0, .int .i64 (1 + (k:Int)), .int .i64 (kh_ x).lo, .int .i64 (kh_ x).hi, .int .i64 0, .int .i64 0]) rfl rfl hS2 ?_
    refine qk_ (i:=14) (by kernel_rfl) rfl (by kernel_rfl) (by decide) (fun K hK=>?_)
    go_simp
    have hb3:=(Below.refl W2.heap.size W2).alloc (nl_ _) (.cells #[.int .i64 0, .int .i64 (1 + (k:Int)), .int .i64 (kh_ x).lo, .int .i64 (kh_ x).hi, .int .i64 0, .int .i64 0] 229)
    have hblk:=ha_ W2 (.cells #[.int .i64 0, .int .i64 (1 + (k:Int)), .int .i64 (kh_ x).lo, .int .i64 (kh_ x).hi, .int .i64 0, .int .i64 0] 229)
    obtain ⟨W3,hW3⟩:∃ W3,W2.alloc (.cells #[.int .i64 0, .int .i64 (1 + (k:Int)), .int .i64 (kh_ x).lo, .int .i64 (kh_ x).hi, .int .i64 0, .int .i64 0] 229) = W3:=⟨_,rfl⟩
    obtain ⟨bk,hbk⟩:∃ b,W2.heap.size = b:=⟨_,rfl⟩
    rw [hW3] at hb3 hblk ⊢
    rw [hbk] at hblk ⊢
    replace L5:=hid (L5.out.below hb3)
    replace XN:=hid (q0_ XN.out hb3)
    have BK:=hid (show W3.heap[bk]? = some (.cells (wC ⟨0,1 + k,(kh_ x).lo,(kh_ x).hi,0,0⟩) 229 (0,0)) by rw [hblk];simp [wC])
    have hS3:=SC.out W3 L5.out.p L5.out.n XN.out
    refine hK _ _ ⟨hS3,?_⟩
    clear hK hb3 hblk hW3 hbk
    refine qk_ (i:=15) (by kernel_rfl) rfl (by kernel_rfl) (by decide) (fun K hK=>?_)
    obtain ⟨a5,c5,W4,hr,hown5,hg5,hat5⟩:=run_append_ao (P:=Tryz.prog) (w:=W3) 225 225 (q + 3) 229 i0 _ 6 48 Tryz.underlying225 hi0 hy0 hy1 hy2 rfl (by omega) v (v1_ S k).length _ L5.out.own (some ⟨bk,0,none⟩) 1 1 (wV [⟨0,1 + k,(kh_ x).lo,(kh_ x).hi,0,0⟩]) rfl (fun h=>by cases h) (fun ad had=>by cases had;exact fun j u hj=>World.news_of_block (cs:=wC ⟨0,1 + k,(kh_ x).lo,(kh_ x).hi,0,0⟩) (t:=229) (fr:=(0,0)) BK.out j u (by simpa [wV] using hj)) (wV_one _) (by have:=hlen;unfold maxLen;omega) (by have:=hlen;omega) (by have:=L5.out.sz;omega)
    refine qG_ (fun _=>trivial) rfl (qL_ rfl rfl rfl hr) ?_
    have hown3:=L5.out.own
    have hsz3:=L5.out.sz
    have n1:=hg5.block (q + 1) (by omega) (fun e=>by have:=(hown3.lt _ e.symm).1;omega)
    have n2:=hg5.block (q + 2) (by omega) (fun e=>by have:=(hown3.lt _ e.symm).1;omega)
    replace XN:=hid ((hg5.block bx (ge_ XN.out).1 (fun e=>hbo bx hbx3 e.symm)).trans XN.out)
    have N4:=hid (n1.trans L5.out.n)
    have HO5:=hid hown5
    have HG5:=hid hg5
    have hS4:=SC.out W4 (n2.trans L5.out.p) N4.out XN.out
    refine hK _ _ ⟨hS4,?_⟩
    clear hK hr hown5 hg5 hat5 n1 n2 hS3 BK
    refine qk_ (i:=16) (by kernel_rfl) rfl (by kernel_rfl) (by decide) (fun K hK=>?_)
    go_simp
    refine hK _ _ ⟨hS4,?_⟩
    clear hK
    refine qk_ (i:=17) (by kernel_rfl) rfl (by kernel_rfl) (by decide) (fun K hK=>?_)
    go_simp
    refine hK _ _ ⟨hS4,?_⟩
    clear hK
    refine zv_ (by kernel_rfl) rfl (by kernel_rfl) (by kernel_rfl) (fun K hK=>?_)
    have LP:=hid (L5.out.push (x:=⟨0,1 + k,(kh_ x).lo,(kh_ x).hi,0,0⟩) HO5.out HG5.out)
    have z0:=cg_ N4.out (k:=0) rfl
    have z1:=q5_ N4.out (k:=0)
    go_simp
    refine hK _ _ ?_
    clear hK z0 z1 hS4
    rw [show v1_ S k ++ [⟨0,1 + k,(kh_ x).lo,(kh_ x).hi,0,0⟩] = v1_ S (k + 1) from by rw [v1_,show S.getD k ⟨0,0,0,0,0,0,0⟩ = x from hgd]] at LP
    go_simp
    gi_wp2_with fail
    go_roundw
    case rel=>exact ⟨k + 1,_,by omega,by go_num,by rw [hlen] at LP;exact LP⟩
    case measure=>simp [intOf];omega
  · obtain rfl:k = S.length:=by omega
    have d1:=cg_ (q0_ HD.out (HQ.out ▸ HL.out.bel)) (k:=1) (v := .slice ac C.length cc) rfl
    gi_wp2_with fail
    clear d1
    have LT0:=hid (show LdS q b1 w (laidT S C 0) v wr from HL.out)
    clear HL hlt i1 hk
    obtain ⟨e19,he19⟩:∃ e:Value,Value.int .i64 (S.length:Int) = e:=⟨_,rfl⟩
    refine qw_ (fun r a wr=>∃ (t:Nat) (v:Value),(r + t = C.length∧LdS q b1 w (laidT S C t) v wr∧Dfs q a.defers wr)∧a = { tmps:=#[.pointer (some ⟨D,0,none⟩), .agg #[.func (.func 162) #[] #[.pointer (some ⟨b1,0,none⟩)]],undef, .pointer (some ⟨q,0,none⟩), .pointer none, .pointer (some ⟨(q + 1 + 1),0,none⟩),u6,u7,a.tmps.getD 8 undef,a.tmps.getD 9 undef,a.tmps.getD 10 undef, .agg #[.slice none 0 0], .pointer (some ⟨(q + 1),0,none⟩), .pointer (some ⟨D,0,none⟩), .pointer (some ⟨D,0,none⟩), .pointer (some ⟨D,0,none⟩), .pointer (some ⟨D,0,none⟩), .slice as_ S.length cs_, .int .i64 S.length, .int .i64 S.length, .bool false,u21,u22,u23,u24,u25,u26,u27,u28,u29,u30,u31,u32,u33,u34,u35,u36,u37,u38,u39,u40,u41,u42, .pointer (some ⟨D,0,none⟩), .pointer (some ⟨D,0,none⟩), .pointer (some ⟨D,0,none⟩), .pointer (some ⟨D,1,none⟩), .slice ac C.length cc, .int .i64 C.length, .int .i64 t,a.tmps.getD 50 undef,a.tmps.getD 51 undef,a.tmps.getD 52 undef,a.tmps.getD 53 undef,a.tmps.getD 54 undef,a.tmps.getD 55 undef,a.tmps.getD 56 undef,a.tmps.getD 57 undef,a.tmps.getD 58 undef,a.tmps.getD 59 undef,a.tmps.getD 60 undef,a.tmps.getD 61 undef,a.tmps.getD 62 undef,a.tmps.getD 63 undef,a.tmps.getD 64 undef,a.tmps.getD 65 undef,a.tmps.getD 66 undef,a.tmps.getD 67 undef,a.tmps.getD 68 undef,a.tmps.getD 69 undef,a.tmps.getD 70 undef,a.tmps.getD 71 undef,a.tmps.getD 72 undef,a.tmps.getD 73 undef,a.tmps.getD 74 undef,a.tmps.getD 75 undef,a.tmps.getD 76 undef,a.tmps.getD 77 undef,a.tmps.getD 78 undef,a.tmps.getD 79 undef,a.tmps.getD 80 undef,a.tmps.getD 81 undef,a.tmps.getD 82 undef,a.tmps.getD 83 undef,a.tmps.getD 84 undef,a.tmps.getD 85 undef,a.tmps.getD 86 undef,a.tmps.getD 87 undef,a.tmps.getD 88 undef,a.tmps.getD 89 undef,a.tmps.getD 90 undef,a.tmps.getD 91 undef,a.tmps.getD 92 undef,a.tmps.getD 93 undef,a.tmps.getD 94 undef,a.tmps.getD 95 undef],defers:=a.defers }) C.length ?_ ?_
    · exact ⟨0,v,⟨by omega,LT0.out,trivial⟩,by rfl⟩
    clear LT0 e19 he19 v wr
    rintro r a wr ⟨t,v,⟨hrt,hL,hdf⟩,ha⟩
    obtain ⟨p,hu⟩:∃ p:Nat→Value,∀ k,a.tmps.getD k undef = p k:=⟨_,fun _=>rfl⟩
    obtain ⟨ds,hds⟩:∃ ds,a.defers = ds:=⟨_,rfl⟩
    simp only [hu] at ha
    rw [hds] at ha hdf
    clear hu hds
    subst ha
    have HL:=hid hL
    have HDF:=hid hdf
    clear hL hdf
    cases r with
    | zero=>
      obtain rfl:t = C.length:=by omega
      have q5:=cg_ HL.out.p (k:=0) (v := .pointer (some ⟨(q + 1),0,none⟩)) rfl
      gi_wp2_with fail
      refine zl_ ds _ HDF.out fun w' hs hb=>?_
      refine ⟨_,results_tmp rfl _ _ _,v,by rw [HQ.out];rfl,?_,?_,?_⟩
      all_goals try rw [HQ.out]
      · exact (hs.block _ (fun h e=>by rw [HL.out.n] at e;cases e)).trans HL.out.n
      · exact q3_ HL.out.own fun g hg=>hs.block g fun h e=>k2_ HL.out.own hg h e
      · exact HL.out.bel.trans hb
    | succ r=>
      have htC:t < C.length:=by omega
      have htC':(t:Int) < (C.length:Int):=by omega
      obtain ⟨g,o,cs1,rfl,hg,hc,hcell⟩:=HAT2.out t htC
      have hc:cs1 = (spC C[t]).toList:=hc
      have hgd:C.getD t ⟨0,0⟩ = C[t]:=by simp [List.getD_eq_getElem?_getD,List.getElem?_eq_getElem htC]
      obtain ⟨x,hx⟩:∃ x,C[t] = x:=⟨_,rfl⟩
      rw [hx] at hc hgd
      subst hc
      have hgl:g < q:=by rw [← HQ.out];exact HB.out g hg
      have e0:=hcell 0 _ rfl
      have e1:=hcell 1 _ rfl
      rw [Nat.add_zero] at e0
      rw [← Nat.add_assoc] at e1
      have c0:=bc_ HL.out.bel hgl e0
      have c1:=bc_ HL.out.bel hgl e1
      clear hcell e0 e1
      gi_wp2_with fail
      obtain ⟨bt,hbt⟩:∃ b,wr.heap.size = b:=⟨_,rfl⟩
      obtain ⟨w6,hw6⟩:∃ w6,(wr.alloc (.cells #[.int .i64 t] 3)).alloc (.cells #[.int .i64 x.lo, .int .i64 x.hi] 35) = w6:=⟨_,rfl⟩
      have HZ6:=hid (show w6.heap.size = bt + 2 by rw [← hw6,← hbt];simp)
      have VO:=hid (show ∀ b,v.ownBlock = some b→q + 3 ≤ b∧b < bt from fun b hb=>⟨(HL.out.own.lt b hb).1,by rw [← hbt];exact (HL.out.own.lt b hb).2⟩)
      have hb6:Below wr.heap.size wr w6:=by rw [← hw6];exact ((Below.refl _ _).alloc (nl_ _) _).alloc (by simp) _
      have t1:w6.heap[bt]? = some (.cells #[.int .i64 t] 3 (0,0)):=by rw [← hw6,← hbt];exact qb_ _ (ha_ _ _)
      have t2:w6.heap[bt + 1]? = some (.cells #[.int .i64 x.lo, .int .i64 x.hi] 35 (0,0)):=by
       rw [← hw6,← hbt];have:=ha_ (wr.alloc (.cells #[.int .i64 t] 3)) (.cells #[.int .i64 x.lo, .int .i64 x.hi] 35);simpa using this
      have hbq:q + 3 ≤ bt:=by rw [← hbt];exact HL.out.sz
      have L6:=hid (HL.out.below hb6)
      have DF6:=hid (HDF.out.below hb6)
      have T1:=hid t1
      have T2:=hid t2
      rw [hw6]
      simp only [hbt]
      have HR:=hid (reach_any S S.length C.length as_ (some ⟨g,o,none⟩) cs_ cc M D N t w6 (q0_ HD.out (HQ.out ▸ L6.out.bel)) (HM.out.kept ((HQ.out ▸ L6.out.bel:Below w.heap.size w w6).block M HM.out.lt)))
      clear c0 c1 t1 t2 hb6 hw6 HL HDF hbt
      refine ⟨trivial,?_⟩
      refine (callsIn_wide.2 HR.out).mono ?_
      rintro e w9 ⟨rfl,hRR,hz9,hb9⟩
      gi_wp2_with fail
      have L9:=hid (L6.out.below hb9)
      have DF9:=hid (DF6.out.below hb9)
      replace T1:=hid (q0_ T1.out hb9)
      replace T2:=hid (q0_ T2.out hb9)
      have HW9:=hid (show w9.heap.size = bt + 4 by have:=HZ6.out;omega)
      have SEQ:=reach_seq S S.length C.length as_ (some ⟨g,o,none⟩) cs_ cc M D w6.heap.size (w6.heap.size + 1) t w9 hRR (by omega) (by omega)
      clear HR hb9 L6 DF6 hRR hz9
      have HML:M < q:=by rw [← HQ.out];exact HM.out.lt
      have HDL:D < q:=by rw [← HQ.out];exact hDl
      have hlen0:=kQ_ S C t
      have hlen1:t * (S.length + 1) ≤ 35:=Nat.le_trans (Nat.mul_le_mul (show t ≤ 5 by omega) (show S.length + 1 ≤ 7 by omega)) (nl_ _)
      have hlen:(laidT S C t).length ≤ 41:=by omega
      obtain ⟨ls,hls⟩:∃ ls,laidT S C t = ls:=⟨_,rfl⟩
      rw [hls] at L9 hlen
      have HLS:=hid hls
      clear hlen0 hlen1 hls
      refine zq_ (n:=9) (gf:=202) (lb:=#[.pointer (some ⟨w6.heap.size,0,none⟩), .pointer (some ⟨(w6.heap.size + 1),0,none⟩)]) rfl xP_ SEQ (fun h _=>h) (fun h _=>h) (fun _=>rfl)
       (fun pre O W=>∃ v',O = (fun b=>b = q + 1 ∨ v'.ownBlock = some b)∧W.heap[q + 1]? = some (.cells #[v'] 227 (0,0))∧W.ownsRow (q + 3) 229 6 v' (ls ++ pre.map (wayR S t)).length (wV (ls ++ pre.map (wayR S t)))∧(∀ b,v'.ownBlock = some b→v.ownBlock = some b ∨ w9.heap.size ≤ b)∧Keep (fun b=>b = q + 1 ∨ v.ownBlock = some b) w9 W)
       (fun _ _ _ _=>False) ?dep ?depx (fun b=>b = q + 1 ∨ v.ownBlock = some b) ?o0 ?ot ⟨v,rfl,L9.out.n,by simpa using L9.out.own,fun b hb => .inl hb,Keep.refl _ _⟩
       (fun k _ a₁ _=>a₁ = { tmps:=#[.pointer (some ⟨D,0,none⟩), .agg #[.func (.func 162) #[] #[.pointer (some ⟨b1,0,none⟩)]],undef, .pointer (some ⟨q,0,none⟩), .pointer none, .pointer (some ⟨(q + 1 + 1),0,none⟩),u6,u7, .pointer (some ⟨bt,0,none⟩), .pointer (some ⟨(bt + 1),0,none⟩), .int .i64 k, .agg #[.slice none 0 0], .pointer (some ⟨(q + 1),0,none⟩), .pointer (some ⟨D,0,none⟩), .pointer (some ⟨D,0,none⟩), .pointer (some ⟨D,0,none⟩), .pointer (some ⟨D,0,none⟩), .slice as_ S.length cs_, .int .i64 S.length, .int .i64 S.length, .bool false,u21,u22,u23,u24,u25,u26,u27,u28,u29,u30,u31,u32,u33,u34,u35,u36,u37,u38,u39,u40,u41,u42, .pointer (some ⟨D,0,none⟩), .pointer (some ⟨D,0,none⟩), .pointer (some ⟨D,0,none⟩), .pointer (some ⟨D,1,none⟩), .slice (some ⟨g,o,none⟩) C.length cc, .int .i64 C.length, .int .i64 t, .bool true, .int .i64 t, .pointer (some ⟨g,o + t * 2,none⟩), .agg #[.int .i64 x.lo, .int .i64 x.hi], .pointer (some ⟨D,0,none⟩), .int .i64 t, .func (.func 202) #[] #[.pointer (some ⟨w6.heap.size,0,none⟩), .pointer (some ⟨(w6.heap.size + 1),0,none⟩)], .int .i64 k,p 58,p 59,p 60,p 61,p 62,p 63,p 64,p 65,p 66,p 67,p 68,p 69,p 70,p 71,p 72,p 73,p 74,p 75,p 76,p 77,p 78,p 79,p 80,p 81,p 82,p 83,p 84,p 85,p 86,p 87,p 88,p 89,p 90,p 91,p 92,p 93,p 94,p 95],defers:=[] }) (fun _ _ _ _ _ h _=>h) ?assign ?body ?done ?stop
      case dep=>
       rintro pre O A B' ⟨v',rfl,h1,h2,h3,h4⟩ e1 e2 e3 e4 hh
       refine ⟨v',rfl,(hh _ (ge_ h1).1 (.inl (.inl rfl))).trans h1,q3_ h2 fun g hg=>hh g (h2.lt g hg).2 (.inl (.inr hg)),h3,e1.trans h4.os,e2.trans h4.tape,e3.trans h4.output,Nat.le_trans h4.size e4,fun b hb ho=>(hh b (Nat.lt_of_lt_of_le hb h4.size) (.inr hb)).trans (h4.block b hb ho)⟩
      case depx=>rintro cd pre O A B' h;exact h.elim
      case o0=>
       have h9:=HW9.out
       have h6':=HZ6.out
       rintro b (rfl | hb)
       · refine ⟨by omega,fun h=>?_⟩
         rcases h with h | h | h | h <;> omega
       · have:=VO.out b hb
         refine ⟨by omega,fun h=>?_⟩
         rcases h with h | h | h | h <;> omega
      case ot=>
       have h9:=HW9.out
       have h6':=HZ6.out
       intro b h
       rcases h with h | h | h | h <;> omega
      case assign=>
       intro l m' k S' W K hE hK
       gi_wp2_with (rw [Oper.semAt_eq _ _ _ (fun c h=>by cases h)];go_simp;try go_bits)
       exact hK _ _ (Below.refl _ _) (by rfl)
      case stop=>rintro D' cd pre O W hp h;exact h.elim
      case done=>
       rintro D' O W9 ⟨v',rfl,h1,h2,h3,h4⟩ hD' hK
       have h9:=HW9.out
       have hsz9:=h4.size
       have hq2:∀ b,b < w9.heap.size→b ≠ q + 1→(∀ h:v.ownBlock = some b,False)→W9.heap[b]? = w9.heap[b]?:=fun b hb h h'=>h4.block b hb (fun e=>e.elim h h')
       have LA:=hid (show LdS q b1 w (ls ++ laidR S t) v' W9 from ⟨(hq2 q (by omega) (by omega) (fun h=>by have:=VO.out _ h;omega)).trans L9.out.c,h1,(hq2 (q + 2) (by omega) (by omega) (fun h=>by have:=VO.out _ h;omega)).trans L9.out.p,by rw [xu_];exact h2,L9.out.bel.trans (h4.below (by omega) fun b hb hh=>by
        rcases hh with h | h
        · omega
        · have:=VO.out _ h;omega),by omega⟩)
       have TA:=hid ((hq2 bt (by omega) (by omega) (fun h=>by have:=VO.out _ h;omega)).trans T1.out)
       have TB:=hid ((hq2 (bt + 1) (by omega) (by omega) (fun h=>by have:=VO.out _ h;omega)).trans T2.out)
       have DA:=hid (show Dfs q ({ target := .collected D',args:=#[] } :: ds) W9 from Dfs.more (w:=w9) (DF9.out.keep h4 fun b hb h e=>by
        rcases hb with hb | hb
        · subst hb;rw [L9.out.n] at e;cases e
        · exact k2_ L9.out.own hb h e) hK (by omega) hD' fun d hd D2 hD2=>(DF9.out.lt d hd D2 hD2).2.1)
       have VB:=hid (show ∀ b,v'.ownBlock = some b→b ≠ bt∧b ≠ bt + 1 from fun b hb=>by
        rcases h3 b hb with h | h
        · have:=VO.out _ h;omega
        · omega)
       have hk2:IntKind.i64.wrap (7 + (t:Int)) = 7 + (t:Int):=IntWalk.i64_in _ (by omega)
       have hll:(ls ++ laidR S t).length ≤ 50:=by
        have:=xd_ S S.length t S.length
        rw [List.length_append,xu_,List.length_map];omega
       obtain ⟨as2,hAs⟩:∃ l2,ls ++ laidR S t = l2:=⟨_,rfl⟩
       rw [hAs] at LA hll
       have HAS:=hid hAs
       clear hq2 h1 h2 h3 h4 hK hAs L9 DF9 T1 T2 hsz9 h9
       gi_wp2_with fail
       have SC:=hid (fun (V:World) (a1:V.heap[q + 2]? = some (.cells #[.pointer (some ⟨(q + 1),0,none⟩)] 162 (0,0))) (a2:V.heap[q + 1]? = some (.cells #[v'] 227 (0,0))) (a3:V.heap[bt]? = some (.cells #[.int .i64 t] 3 (0,0))) (a4:V.heap[bt + 1]? = some (.cells #[.int .i64 x.lo, .int .i64 x.hi] 35 (0,0)))=>show V.cell? ⟨q + 2,0,none⟩ = some (.pointer (some ⟨(q + 1),0,none⟩))∧V.cell? ⟨q + 1,0,none⟩ = some v'∧V.cell? ⟨bt,0,none⟩ = some (.int .i64 t)∧V.cell? ⟨bt + 1,0,none⟩ = some (.int .i64 x.lo)∧V.cell? ⟨bt + 1,1,none⟩ = some (.int .i64 x.hi) from ⟨cg_ a1 (k:=0) rfl,cg_ a2 (k:=0) rfl,cg_ a3 (k:=0) rfl,cg_ a4 (k:=0) rfl,cg_ a4 (k:=1) rfl⟩)
       obtain ⟨X0,hX0⟩:∃ X0,W9.drew = X0:=⟨_,rfl⟩
       have hbx:Below W9.heap.size W9 X0:=by rw [← hX0];exact (Below.refl _ W9).drew
       replace LA:=hid (LA.out.below hbx)
       replace TA:=hid (q0_ TA.out hbx)
       replace TB:=hid (q0_ TB.out hbx)
       replace DA:=hid (DA.out.below hbx)
       clear hbx
       have hS0:=SC.out X0 LA.out.p LA.out.n TA.out TB.out
       refine zS_ (fun V:World=>V.cell? ⟨q + 2,0,none⟩ = some (.pointer (some ⟨(q + 1),0,none⟩))∧V.cell? ⟨q + 1,0,none⟩ = some v'∧V.cell? ⟨bt,0,none⟩ = some (.int .i64 t)∧V.cell? ⟨bt + 1,0,none⟩ = some (.int .i64 x.lo)∧V.cell? ⟨bt + 1,1,none⟩ = some (.int .i64 x.hi)) 16 (by kernel_rfl) ?_
       rw [hX0]
       clear hX0
       refine tkU 0 78 (.pointer (some ⟨(q + 1),0,none⟩)) rfl rfl hS0 ?_
       refine tkU 1 79 (.pointer (some ⟨(q + 1),0,none⟩)) rfl rfl hS0 ?_
       refine tkU 2 80 (.pointer (some ⟨(q + 1),0,none⟩)) rfl rfl hS0 ?_
       refine tkU 3 81 (.pointer (some ⟨(q + 1),0,none⟩)) rfl rfl hS0 ?_
       refine tkU 4 82 (v') rfl rfl hS0 ?_
       refine tkU 5 83 (.int .i64 t) rfl rfl hS0 ?_
       refine tkU 6 84 (.int .i64 (7 + (t:Int))) rfl rfl hS0 ?_
       refine tkU 7 85 (.pointer (some ⟨(bt + 1),0,none⟩)) rfl rfl hS0 ?_
       refine tkU 8 86 (.int .i64 x.lo) rfl rfl hS0 ?_
       refine tkU 9 87 (.pointer (some ⟨(bt + 1),1,none⟩)) rfl rfl hS0 ?_
       refine tkU 10 88 (.int .i64 x.hi) rfl rfl hS0 ?_
       refine tkU 11 89 (.agg #[.int .i64 (7 + (t:Int)), .int .i64 0, .int .i64 x.lo, .int .i64 x.hi, .int .i64 0, .int .i64 0]) rfl rfl hS0 ?_
       refine qk_ (i:=12) (by kernel_rfl) rfl (by kernel_rfl) (by decide) (fun K hK=>?_)
       go_simp
       have hb3:=(Below.refl X0.heap.size X0).alloc (nl_ _) (.cells #[.int .i64 (7 + (t:Int)), .int .i64 0, .int .i64 x.lo, .int .i64 x.hi, .int .i64 0, .int .i64 0] 229)
       have hblk:=ha_ X0 (.cells #[.int .i64 (7 + (t:Int)), .int .i64 0, .int .i64 x.lo, .int .i64 x.hi, .int .i64 0, .int .i64 0] 229)
       obtain ⟨X2,hX2⟩:∃ W3,X0.alloc (.cells #[.int .i64 (7 + (t:Int)), .int .i64 0, .int .i64 x.lo, .int .i64 x.hi, .int .i64 0, .int .i64 0] 229) = W3:=⟨_,rfl⟩
       obtain ⟨bk,hbk⟩:∃ b,X0.heap.size = b:=⟨_,rfl⟩
       rw [hX2] at hb3 hblk ⊢
       rw [hbk] at hblk ⊢
       replace LA:=hid (LA.out.below hb3)
       replace TA:=hid (q0_ TA.out hb3)
       replace TB:=hid (q0_ TB.out hb3)
       replace DA:=hid (DA.out.below hb3)
       have BK:=hid (show X2.heap[bk]? = some (.cells (wC ⟨7 + t,0,x.lo,x.hi,0,0⟩) 229 (0,0)) by rw [hblk];simp [wC])
       have hS2:=SC.out X2 LA.out.p LA.out.n TA.out TB.out
       refine hK _ _ ⟨hS2,?_⟩
       clear hK hb3 hblk hX2 hS0 hbk
       refine qk_ (i:=13) (by kernel_rfl) rfl (by kernel_rfl) (by decide) (fun K hK=>?_)
       obtain ⟨a5,c5,X3,hr,hown5,hg5,hat5⟩:=run_append_ao (P:=Tryz.prog) (w:=X2) 225 225 (q + 3) 229 i0 _ 6 48 Tryz.underlying225 hi0 hy0 hy1 hy2 rfl (by omega) v' as2.length _ LA.out.own (some ⟨bk,0,none⟩) 1 1 (wV [⟨7 + t,0,x.lo,x.hi,0,0⟩]) rfl (fun h=>by cases h) (fun ad had=>by cases had;exact fun j u hj=>World.news_of_block (cs:=wC ⟨7 + t,0,x.lo,x.hi,0,0⟩) (t:=229) (fr:=(0,0)) BK.out j u (by simpa [wV] using hj)) (wV_one _) (by unfold maxLen;omega) (by omega) (by have:=LA.out.sz;omega)
       refine wa_ rfl rfl rfl hr ?_
       have hz2:=LA.out.sz
       have hoL:=LA.out.own
       have n1:=hg5.block (q + 1) (by omega) (fun e=>by have:=(hoL.lt _ e.symm).1;omega)
       have n2:=hg5.block (q + 2) (by omega) (fun e=>by have:=(hoL.lt _ e.symm).1;omega)
       have n3:=hg5.block bt (ge_ TA.out).1 (fun e=>(VB.out _ e.symm).1 rfl)
       have n4:=hg5.block (bt + 1) (ge_ TB.out).1 (fun e=>(VB.out _ e.symm).2 rfl)
       have N3:=hid (n1.trans LA.out.n)
       have HO5:=hid hown5
       have HG5:=hid hg5
       have hS3:=SC.out X3 (n2.trans LA.out.p) N3.out (n3.trans TA.out) (n4.trans TB.out)
       refine hK _ _ ⟨hS3,?_⟩
       clear hK hr hown5 hg5 hat5 n1 n2 n3 n4 hS2 hoL BK
       refine qk_ (i:=14) (by kernel_rfl) rfl (by kernel_rfl) (by decide) (fun K hK=>?_)
       go_simp
       refine hK _ _ ⟨hS3,?_⟩
       clear hK
       refine qk_ (i:=15) (by kernel_rfl) rfl (by kernel_rfl) (by decide) (fun K hK=>?_)
       go_simp
       refine hK _ _ ⟨hS3,?_⟩
       clear hK
       refine zv_ (by kernel_rfl) rfl (by kernel_rfl) (by kernel_rfl) (fun K hK=>?_)
       have LP:=hid (LA.out.push (x:=⟨7 + t,0,x.lo,x.hi,0,0⟩) HO5.out HG5.out)
       have DP:=hid (show Dfs q ({ target := .collected D',args:=#[] } :: ds) (X3.setCell ⟨q + 1,0,none⟩ (.slice a5 (as2.length + 1) c5)) from
        (DA.out.keep (Keep.grown (O:=fun b=>v'.ownBlock = some b) HG5.out fun b hb=>hb) fun b hb h e=>k2_ LA.out.own hb h e).keep (Keep.setCell (O:=fun b=>b = q + 1) (p:=⟨q + 1,0,none⟩) rfl) fun b hb h e=>by subst hb;rw [N3.out] at e;cases e)
       have z0:=cg_ N3.out (k:=0) (v:=v') rfl
       have z1:=q5_ N3.out (k:=0)
       go_simp
       refine hK _ _ ?_
       clear hK z0 z1 hS3
       have hLP:as2 ++ [⟨7 + t,0,x.lo,x.hi,0,0⟩] = laidT S C (t + 1):=by rw [← HAS.out,← HLS.out,laidT,hgd]
       rw [hLP] at LP
       have LP2:=hid LP.out
       go_simp
       gi_wp2_with fail
       exact ⟨r,by omega,t + 1,_,⟨by omega,LP2.out,DP.out⟩,by rfl⟩
      case body=>
       rintro l m' pre k O lo a₁ W hpx ⟨v',rfl,h1,h2,h3,h4⟩ hlo hlo2 hOlo hE rfl
       obtain ⟨kk,hkk,hkS⟩:=rchL_mem S S.length t (hpx.subset (by simp):k ∈ rchL S S.length t S.length)
       subst hkk
       have hb9q:q + 3 ≤ w9.heap.size:=L9.out.sz
       have hq1:∀ b,b < q→W.heap[b]? = w.heap[b]?:=fun b hb=>(h4.block b (by omega) (fun h=>by
        rcases h with h | h
        · omega
        · have:=VO.out b h;omega)).trans (L9.out.bel.block b hb)
       have hq2:∀ b,b < w9.heap.size→b ≠ q + 1→(∀ h:v.ownBlock = some b,False)→W.heap[b]? = w9.heap[b]?:=fun b hb h h'=>h4.block b hb (fun e=>e.elim h h')
       have hwz:=h4.size
       have PN:=hid ((hq2 (q + 2) (by omega) (by omega) (fun h=>by have:=VO.out _ h;omega)).trans L9.out.p)
       have CN:=hid ((hq2 q (by omega) (by omega) (fun h=>by have:=VO.out _ h;omega)).trans L9.out.c)
       have TN:=hid ((hq2 bt (by have:=HW9.out;omega) (by omega) (fun h=>by have:=VO.out _ h;omega)).trans T1.out)
       have NN:=hid h1
       have OWN:=hid h2
       have OB:=hid h3
       have KP:=hid h4
       have hk1:IntKind.i64.wrap (1 + (kk:Int)) = 1 + (kk:Int):=IntWalk.i64_in _ (by omega)
       have hk2:IntKind.i64.wrap (7 + (t:Int)) = 7 + (t:Int):=IntWalk.i64_in _ (by omega)
       have hprel:pre.length ≤ 6:=by
        have a1:=hpx.length_le
        have a2:=xd_ S S.length t S.length
        rw [List.length_append] at a1;omega
       obtain ⟨as2,hPre⟩:∃ l2,ls ++ pre.map (wayR S t) = l2:=⟨_,rfl⟩
       have hlp:as2.length ≤ 50:=by rw [← hPre,List.length_append,List.length_map];omega
       rw [hPre] at OWN
       have HPRE:=hid hPre
       have SC:=hid (fun (V:World) (a1:V.heap[q + 2]? = some (.cells #[.pointer (some ⟨(q + 1),0,none⟩)] 162 (0,0))) (a2:V.heap[q + 1]? = some (.cells #[v'] 227 (0,0))) (a3:V.heap[q]? = some (.cells #[.func (.func 162) #[] #[.pointer (some ⟨b1,0,none⟩)]] 169 (0,0))) (a4:V.heap[bt]? = some (.cells #[.int .i64 t] 3 (0,0)))=>show V.cell? ⟨q + 2,0,none⟩ = some (.pointer (some ⟨(q + 1),0,none⟩))∧V.cell? ⟨q + 1,0,none⟩ = some v'∧V.cell? ⟨q,0,none⟩ = some (.func (.func 162) #[] #[.pointer (some ⟨b1,0,none⟩)])∧V.cell? ⟨bt,0,none⟩ = some (.int .i64 t) from ⟨cg_ a1 (k:=0) rfl,cg_ a2 (k:=0) rfl,cg_ a3 (k:=0) rfl,cg_ a4 (k:=0) rfl⟩)
       have hlW:w9.heap.size ≤ W.heap.size:=hwz
       have LSW:=hid (HSs.out.agree (show qg_ B w W from fun b hb=>hq1 b (by have:=HB.out b hb;have:=HQ.out;omega)))
       have DW:=hid ((hq1 D (by omega)).trans HD.out)
       have hb1l:b1 < q:=by rw [← HQ.out];exact (ge_ H1.out).1
       have BW1:=hid ((hq1 b1 hb1l).trans H1.out)
       clear hq1 hq2 hwz h1 h2 h3 h4 hpx hOlo hE hPre
       gi_wp2_with (rw [Oper.semAt_eq _ _ _ (fun c h=>by cases h)];go_simp;try go_bits)
       obtain ⟨X0,hX0⟩:∃ X0,W.drew = X0:=⟨_,rfl⟩
       have hbx:Below W.heap.size W X0:=by rw [← hX0];exact (Below.refl _ W).drew
       have hS0:=SC.out X0 (q0_ PN.out hbx) (q0_ NN.out hbx) (q0_ CN.out hbx) (q0_ TN.out hbx)
       have ST:=hid (some1_any S C.length M D b1 as_ (some ⟨g,o,none⟩) cs_ cc B t kk X0 (LSW.out.agree (qc_ hbx (fun b hb=>by have:=HB.out b hb;have:=HQ.out;omega))) (fun b hb=>by have:=HB.out b hb;have:=HQ.out;have:=hbx.size;omega) (q0_ DW.out hbx) (q0_ BW1.out hbx) hkS (by omega))
       have BX:=hid hbx
       clear hbx
       refine zS_ (fun V:World=>V.cell? ⟨q + 2,0,none⟩ = some (.pointer (some ⟨(q + 1),0,none⟩))∧V.cell? ⟨q + 1,0,none⟩ = some v'∧V.cell? ⟨q,0,none⟩ = some (.func (.func 162) #[] #[.pointer (some ⟨b1,0,none⟩)])∧V.cell? ⟨bt,0,none⟩ = some (.int .i64 t)) 20 (by kernel_rfl) ?_
       rw [hX0]
       clear hX0
       refine tkU 0 58 (.pointer (some ⟨(q + 1),0,none⟩)) rfl rfl hS0 ?_
       refine tkU 1 59 (.pointer (some ⟨(q + 1),0,none⟩)) rfl rfl hS0 ?_
       refine tkU 2 60 (.pointer (some ⟨(q + 1),0,none⟩)) rfl rfl hS0 ?_
       refine tkU 3 61 (.pointer (some ⟨(q + 1),0,none⟩)) rfl rfl hS0 ?_
       refine tkU 4 62 (v') rfl rfl hS0 ?_
       refine tkU 5 63 (.int .i64 kk) rfl rfl hS0 ?_
       refine tkU 6 64 (.int .i64 (1 + (kk:Int))) rfl rfl hS0 ?_
       refine tkU 7 65 (.int .i64 t) rfl rfl hS0 ?_
       refine tkU 8 66 (.int .i64 (7 + (t:Int))) rfl rfl hS0 ?_
       refine tkU 9 67 (.pointer (some ⟨q,0,none⟩)) rfl rfl hS0 ?_
       refine tkU 10 68 (.func (.func 162) #[] #[.pointer (some ⟨b1,0,none⟩)]) rfl rfl hS0 ?_
       refine tkU 11 69 (.int .i64 t) rfl rfl hS0 ?_
       refine tkU 12 70 (.int .i64 kk) rfl rfl hS0 ?_
       refine tkU 13 71 (.agg #[.int .i64 t, .int .i64 kk]) rfl rfl hS0 ?_
       refine qk_ (i:=14) (by kernel_rfl) rfl (by kernel_rfl) (by decide) (fun K hK=>?_)
       unfold Oper.wpIn
       rw [Oper.semAt_eq _ _ _ (fun c h=>by cases h)]
       go_simp
       refine ⟨trivial,fun h=>(by cases h),(CallsIn.inRound l (callsIn_wide.2 ST.out)).mono ?_⟩
       rintro e X1 ⟨rfl,hb1'⟩
       have BX1:=hid (BX.out.trans (hb1'.mono BX.out.size))
       have hS1:=SC.out X1 (q0_ PN.out BX1.out) (q0_ NN.out BX1.out) (q0_ CN.out BX1.out) (q0_ TN.out BX1.out)
       refine hK _ _ ⟨hS1,?_⟩
       clear hK hb1' hS0 BX ST
       refine tkU 15 73 (.agg #[.int .i64 (1 + (kk:Int)), .int .i64 (7 + (t:Int)), .int .i64 0, .int .i64 1000000, .int .i64 (oth S t kk), .int .i64 0]) rfl rfl hS1 ?_
       refine qk_ (i:=16) (by kernel_rfl) rfl (by kernel_rfl) (by decide) (fun K hK=>?_)
       unfold Oper.wpIn
       rw [Oper.semAt_eq _ _ _ (fun c h=>by cases h)]
       go_simp
       have hb3:=(Below.refl X1.heap.size X1).alloc (nl_ _) (.cells #[.int .i64 (1 + (kk:Int)), .int .i64 (7 + (t:Int)), .int .i64 0, .int .i64 1000000, .int .i64 (oth S t kk), .int .i64 0] 229)
       have hblk:=ha_ X1 (.cells #[.int .i64 (1 + (kk:Int)), .int .i64 (7 + (t:Int)), .int .i64 0, .int .i64 1000000, .int .i64 (oth S t kk), .int .i64 0] 229)
       obtain ⟨X2,hX2⟩:∃ W3,X1.alloc (.cells #[.int .i64 (1 + (kk:Int)), .int .i64 (7 + (t:Int)), .int .i64 0, .int .i64 1000000, .int .i64 (oth S t kk), .int .i64 0] 229) = W3:=⟨_,rfl⟩
       obtain ⟨bk,hbk⟩:∃ b,X1.heap.size = b:=⟨_,rfl⟩
       rw [hX2] at hb3 hblk ⊢
       have BX2:=hid (BX1.out.trans (hb3.mono BX1.out.size))
       rw [hbk] at hblk ⊢
       have BK:=hid (show X2.heap[bk]? = some (.cells (wC (wayR S t kk)) 229 (0,0)) by rw [hblk];simp [wC,wayR])
       have hS2:=SC.out X2 (q0_ PN.out BX2.out) (q0_ NN.out BX2.out) (q0_ CN.out BX2.out) (q0_ TN.out BX2.out)
       refine hK _ _ ⟨hS2,?_⟩
       clear hK hb3 hblk hX2 hS1
       refine qk_ (i:=17) (by kernel_rfl) rfl (by kernel_rfl) (by decide) (fun K hK=>?_)
       have OW2:=ob_ OWN.out BX2.out (nl_ _)
       obtain ⟨a5,c5,X3,hr,hown5,hg5,hat5⟩:=run_append_ao (P:=Tryz.prog) (w:=X2) 225 225 (q + 3) 229 i0 _ 6 48 Tryz.underlying225 hi0 hy0 hy1 hy2 rfl (by omega) v' as2.length _ OW2 (some ⟨bk,0,none⟩) 1 1 (wV [wayR S t kk]) rfl (fun h=>by cases h) (fun ad had=>by cases had;exact fun j u hj=>World.news_of_block (cs:=wC (wayR S t kk)) (t:=229) (fr:=(0,0)) BK.out j u (by simpa [wV] using hj)) (wV_one _) (by unfold maxLen;omega) (by omega) (by have:=BX2.out.size;omega)
       refine wa_ rfl rfl rfl hr ?_
       have hz2:=BX2.out.size
       have n1:=hg5.block (q + 1) (by omega) (fun e=>by have:=(OW2.lt _ e.symm).1;omega)
       have n2:=hg5.block (q + 2) (by omega) (fun e=>by have:=(OW2.lt _ e.symm).1;omega)
       have n3:=hg5.block q (by omega) (fun e=>by have:=(OW2.lt _ e.symm).1;omega)
       have hbtl:bt < W.heap.size:=(ge_ TN.out).1
       have n4:=hg5.block bt (by omega) (fun e=>by
        rcases OB.out bt e.symm with h | h
        · have:=VO.out _ h;omega
        · have:=HW9.out;omega)
       have N3:=hid (n1.trans (q0_ NN.out BX2.out))
       have HO5:=hid hown5
       have HG5:=hid hg5
       have HA5:=hid hat5
       have hS3:=SC.out X3 (n2.trans (q0_ PN.out BX2.out)) N3.out (n3.trans (q0_ CN.out BX2.out)) (n4.trans (q0_ TN.out BX2.out))
       refine hK _ _ ⟨hS3,?_⟩
       clear hK hr hown5 hg5 hat5 n1 n2 n3 n4 hS2 OW2 BK
       refine qk_ (i:=18) (by kernel_rfl) rfl (by kernel_rfl) (by decide) (fun K hK=>?_)
       unfold Oper.wpIn
       rw [Oper.semAt_eq _ _ _ (fun c h=>by cases h)]
       go_simp
       refine hK _ _ ⟨hS3,?_⟩
       clear hK
       refine qk_ (i:=19) (by kernel_rfl) rfl (by kernel_rfl) (by decide) (fun K hK=>?_)
       unfold Oper.wpIn
       rw [Oper.semAt_eq _ _ _ (fun c h=>by cases h)]
       go_simp
       refine hK _ _ ⟨hS3,?_⟩
       clear hK
       refine zv_ (by kernel_rfl) rfl (by kernel_rfl) (by kernel_rfl) (fun K hK=>?_)
       have z0:=cg_ N3.out (k:=0) (v:=v') rfl
       have z1:=q5_ N3.out (k:=0)
       unfold Oper.wpIn
       rw [Oper.semAt_eq _ _ _ (fun c h=>by cases h)]
       go_simp
       refine hK _ _ ?_
       clear hK z0 z1 hS3
       have hKO:Keep (fun b=>b = q + 1 ∨ v'.ownBlock = some b) W (X3.setCell ⟨q + 1,0,none⟩ (.slice a5 (as2.length + 1) c5)):=((Keep.of_below BX2.out).trans (Keep.grown HG5.out (fun b hb => .inr hb))).trans (Keep.setCell (p:=⟨q + 1,0,none⟩) (.inl rfl))
       have hgz:=HG5.out.size
       go_simp
       refine ⟨fun b=>b = q + 1 ∨ (Value.slice a5 (as2.length + 1) c5).ownBlock = some b,⟨_,rfl,set1 N3.out,?_,fun b hb=>?_,hKO.os.trans KP.out.os,hKO.tape.trans KP.out.tape,hKO.output.trans KP.out.output,Nat.le_trans KP.out.size hKO.size,fun b hb hk=>?_⟩,hKO,fun b hb=>?_,fun b hb=>?_⟩
       · rw [List.map_append,← List.append_assoc,HPRE.out,List.map_cons,List.map_nil,List.length_append,wV_app]
         exact q3_ HO5.out fun g hg=>Below.heap_setCell _ _ _ _ (by have:=(HO5.out.lt _ hg).1;simp;omega)
       · rcases HA5.out b hb with h | h
         · exact OB.out b h
         · right;omega
       · refine (hKO.block b (by omega) fun h=>hk ?_).trans (KP.out.block b hb hk)
         rcases h with h | h
         · exact .inl h
         · rcases OB.out b h with h2 | h2
           · exact .inr h2
           · omega
       · rcases hb with h | h
         · exact .inl (.inl h)
         · rcases HA5.out b h with h2 | h2
           · exact .inl (.inr h2)
           · right;omega
       · rcases hb with h | h
         · have:=(ge_ N3.out).1
           rw [h];simp [World.setCell];omega
         · have:=(HO5.out.lt _ h).2
           simp [World.setCell];omega
end Go.Proofs.LS