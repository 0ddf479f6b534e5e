/- Parts of the proof of a law of layer 11 (file): LfW3, LfHole, LfOwU, LfChain, LfHeld3, LfOn, LfW4, LfW40, LfHole2, LfTwo, LfToFo, LfW5, LfW40b, LfW6, LfW7. The conditions stand in each theorem. -/
import Derived.Laws.Externs
import Derived.Laws.RangeAny
import Derived.Lib.AppendZeros
import Derived.Lib.Overlaps
import Derived.Lib.Walk
import Derived.Shelf.RegionOpenPlain
import Derived.Test.YtadkpjgpefcphaaGreatDoorProg
import Derived.Test.YtadkpjgpefcphaaGreatDoorNoaa
import Derived.Test.YtadkpjgpefcphaaGreatDoorNoab
set_option linter.all false
set_option linter.unusedVariables false
set_option linter.unusedSimpArgs false
namespace Go.Proofs.LF
open Go.RowKit
set_option maxHeartbeats 1000000
set_option maxRecDepth 100000
attribute [local go_sem] bs_toList
theorem bs_get (s:List UInt8) (k:Nat) (h:k < s.length):(bs s)[k]'(by rw [bs_size];exact h) = s[k]:=by
 show (bs s).data[k]'_ = _
 simp [bs]
theorem named_any (s:List UInt8) (w:World) (hlen:s.length ≤ 1000000) :
 Calls Tryz.prog 154 #[.string (bs s)] w fun e w'=>e = .returned (.bool (!badNm s))∧Below w.heap.size w w':=by
 go_enter Tryz.func154,Tryz.ntmps154
 go_wp2_with fail
 go_loopw [4] (fun _ wr=>∃ k:Nat,k ≤ s.length∧wr = w.iter (bs s) k∧Hid (∀ j (h:j < s.length),j < k→¬ ((s[j].toNat:Int) < 97 ∨ 122 < (s[j].toNat:Int)))) (fun _ wr=>s.length - wr.iterPos w.heap.size)
 case atStart=>exact ⟨0,by omega,rfl,fun j _ h=>by omega⟩
 case round=>
  obtain ⟨k,hk,rfl,H2⟩:=hrel
  have hb1:Below w.heap.size w (w.iter (bs s) k):=(Below.refl _ _).alloc (nl_ _) _
  by_cases hlt:k < s.length
  · have hg:=bs_get s k hlt
    by_cases hok:(s[k].toNat:Int) < 97 ∨ 122 < (s[k].toNat:Int)
    · have hbad:badNm s = true:=by
       simp only [badNm,Bool.or_eq_true,List.any_eq_true]
       exact .inl (.inl ⟨s[k]'hlt,List.getElem_mem hlt,by simpa using hok⟩)
      have HB:=hid hbad
      clear hbad
      have hsz:k < (bs s).size:=by rw [bs_size];exact hlt
      by_cases ha:s[k].toNat < 128
      · have hn:=fun ty=>run_next_ascii (P:=Tryz.prog) w (bs s) k ty hsz (by rw [hg];exact ha)
        rw [hg] at hn
        clear hg
        by_cases h97:(s[k].toNat:Int) < 97
        · clear hok
          go_wp2_with fail
          go_ret
          exact ⟨ret_bool (by rw [HB.out];rfl),(Below.refl _ _).alloc (nl_ _) _⟩
        · have h122:122 < (s[k].toNat:Int):=by omega
          clear hok
          go_wp2_with fail
          go_ret
          exact ⟨ret_bool (by rw [HB.out];rfl),(Below.refl _ _).alloc (nl_ _) _⟩
      · have hn:=fun ty=>run_next_any (P:=Tryz.prog) w (bs s) k ty hsz
        have hd:=(decode_high (bs s) k hsz (by rw [hg];omega)).1
        generalize (Utf8.decode (bs s) k).1 = dc at hn hd
        have hd1:(122:Int) < (dc:Int):=by omega
        have hd2:¬ (dc:Int) < 97:=by omega
        clear hg hok hd
        go_wp2_with fail
        go_ret
        exact ⟨ret_bool (by rw [HB.out];rfl),(Below.refl _ _).alloc (nl_ _) _⟩
    · have hn:=fun ty=>run_next_ascii (P:=Tryz.prog) w (bs s) k ty (by rw [bs_size];exact hlt) (by rw [hg];omega)
      rw [hg] at hn
      have h1:¬ (s[k].toNat:Int) < 97:=by omega
      have h2:¬ 122 < (s[k].toNat:Int):=by omega
      have HO:=hid hok
      clear hg hok
      go_wp2_with fail
      go_roundw
      case rel=>exact ⟨k + 1,by omega,rfl,fun j hj h=>by rcases Nat.lt_succ_iff_lt_or_eq.1 h with h' | h';exact H2.out j hj h';subst h';exact HO.out⟩
      case measure=>simp;omega
  · have hn:=fun ty=>run_next_end (P:=Tryz.prog) w (bs s) k ty (by rw [bs_size];exact hlt)
    go_wp2_with (go_at_call 151;refine (in_any _ _ _ _).mono ?_;rintro e w' ⟨rfl,rfl⟩)
    go_ret
    refine ⟨ret_bool ?_,hb1⟩
    have:s.any (fun c=>decide ((c.toNat:Int) < 97) || decide (122 < (c.toNat:Int))) = false:=by
     rw [List.any_eq_false]
     intro c hc
     obtain ⟨j,hj,rfl⟩:=List.getElem_of_mem hc
     have:=H2.out j hj (by omega)
     simpa using this
    simp only [badNm,this,inB,Bool.false_or,bs_size]
    rw [Bool.eq_iff_iff];simp
theorem every1_int (g:Nat) (hE:Enters g) (caps:List Value) (x:Value) (b:Bool) (bx:Nat) (W:World) (hbx:W.cell? ⟨bx,0,none⟩ = some (.func (.func g) #[] caps.toArray))
 (h:Calls Tryz.prog g (x :: caps).toArray W fun e w'=>e = .returned (.bool b)∧Below W.heap.size W w') :
 Calls Tryz.prog 209 #[x, .pointer (some ⟨bx,0,none⟩)] W fun e w'=>e = .returned (.bool (!b))∧Below W.heap.size W w':=by
 have hE':∀ (args:Array Value) (W:World),Sem.run Tryz.prog (callFunc g args) W = .ok (.enter g args) W:=hE
 have H:=hid h
 clear hE h
 go_enter Tryz.func209,Tryz.ntmps209
 go_wp2_with fail
 refine H.out.mono ?_
 rintro e w' ⟨rfl,hb⟩
 go_wp2_with fail
 go_ret
 exact ⟨rfl,hb⟩
theorem enters209:Enters 209:=by
 intro args W
 simp [go_sem]
theorem enters156:Enters 156:=by
 intro args W
 simp [go_sem]
def allN (p:Nat→Bool) (n:Nat):Bool:=!anyN (fun i=>!p i) n
theorem every_int (g:Nat) (hE:Enters g) (p:Nat→Bool) (caps:List Value) (n:Nat) (a:Option Addr) (c:Nat) (cs:List Value) (S:Nat→Prop) (w:World) (hl:SlC S w 1 (.slice a n c) n cs) (hS:∀ b,S b→b < w.heap.size) (hlen:n ≤ 100000)
 (hp:∀ i,i < n→PredC g caps w [elemV 1 cs i] (p i)) :
 Calls Tryz.prog 157 #[.slice a n c, .func (.func g) #[] caps.toArray] w fun e w'=>e = .returned (.bool (allN p n))∧Below w.heap.size w w':=by
 have HP:=hid hp
 clear hp
 go_enter Tryz.func157,Tryz.ntmps157
 go_wp2_with fail
 refine (cont_int 209 enters209 (fun i=>!p i) [.pointer (some ⟨w.heap.size,0,none⟩)] n a c cs S _ (SlC.agree hl (Ag_b (B:=w.heap.size) ((Below.refl _ _).alloc (nl_ _) _) hS)) ?_ hlen ?_).mono ?_
 · intro b hb;have:=hS b hb;simp;omega
 · intro i hi W hW
   refine every1_int g hE caps _ (p i) w.heap.size W (bc_ hW (by simp) (by simp)) (HP.out i hi W ?_)
   exact ((Below.refl _ _).alloc (nl_ _) _).trans (hW.mono (by simp))
 · rintro e w' ⟨rfl,hb⟩
   go_wp2_with fail
   go_ret
   exact ⟨rfl,((Below.refl _ _).alloc (nl_ _) _).trans (hb.mono (by simp))⟩
theorem numbers_any (l:List Int) (an:Option Addr) (cn:Nat) (S:Nat→Prop) (w:World) (hl:Ints S w (.slice an l.length cn) l) (hS:∀ b,S b→b < w.heap.size) (hlen:l.length ≤ 1000) :
 Calls Tryz.prog 157 #[.slice an l.length cn, .func (.func 156) #[] #[]] w fun e w'=>e = .returned (.bool (!badNs l))∧Below w.heap.size w w':=by
 refine (every_int 156 enters156 (fun i=>inB (l.getD i 0) 0 9999) [] l.length an cn _ S w hl hS (by omega) ?_).mono ?_
 · intro i hi W hW
   have:elemV 1 (l.map (Value.int .i64)) i = .int .i64 (l.getD i 0):=by simp [elemV,hi]
   rw [this]
   exact (number_any _ W).mono fun e w' ⟨he,hw⟩=>⟨he,by rw [← hw];exact Below.refl _ _⟩
 · rintro e w' ⟨rfl,hb⟩
   refine ⟨ret_bool ?_,hb⟩
   unfold allN badNs
   rw [anyN_list (fun x=>offB x 9999) _ l (fun i hi=>by simp [hi,inB,offB];rw [Bool.eq_iff_iff];simp)]
end Go.Proofs.LF
namespace Go.Proofs.LF
open Go.RowKit
theorem Fo.take_drop:∀ (i:Nat) (y:Fo),(y.take i).app (y.drop i) = y
 | 0,_=>rfl
 | _ + 1, .nil=>rfl
 | i + 1, .cons n l s r=>by simp [Fo.take,Fo.drop,Fo.app,Fo.take_drop i r]
theorem Fo.len_drop:∀ (i:Nat) (y:Fo),(y.drop i).len = y.len - i
 | 0,_=>rfl
 | _ + 1, .nil=>by simp [Fo.drop,Fo.len]
 | i + 1, .cons n l s r=>by simp only [Fo.drop,Fo.len,Fo.len_drop i r];omega
theorem Fo.drop_one:∀ (i:Nat) (y:Fo),(y.drop i).drop 1 = y.drop (i + 1)
 | 0,_=>rfl
 | _ + 1, .nil=>rfl
 | i + 1, .cons _ _ _ r=>Fo.drop_one i r
def Fo.setN (y:Fo) (i:Nat) (n:List UInt8) (l:List Int) (s:Fo):Fo:=(y.take i).app (.cons n l s (y.drop (i + 1)))
def Fo.insN (y:Fo) (i:Nat) (n:List UInt8) (l:List Int) (s:Fo):Fo:=(y.take i).app (.cons n l s (y.drop i))
theorem Fo.len_setN {i:Nat} {n:List UInt8} {l:List Int} {s y:Fo} (h:i < y.len):(y.setN i n l s).len = y.len:=by
 simp only [Fo.setN,Fo.len_app,Fo.len_take (Nat.le_of_lt h),Fo.len,Fo.len_drop];omega
theorem Fo.len_insN {i:Nat} {n:List UInt8} {l:List Int} {s y:Fo} (h:i ≤ y.len):(y.insN i n l s).len = y.len + 1:=by
 simp only [Fo.insN,Fo.len_app,Fo.len_take h,Fo.len,Fo.len_drop];omega
theorem FOCs.length {E:TypeId} {S:Nat→Prop} {w:World} {y:Fo} {cs:List Value} (h:FOCs E S w y cs):cs.length = y.len * 3:=h.fcs.length
theorem FOCs.split {E:TypeId} {w:World}:∀ {i:Nat} {y:Fo} {S:Nat→Prop} {cs:List Value},FOCs E S w y cs→∃ Sa Sb:Nat→Prop,(∀ b,Sa b→S b)∧(∀ b,Sb b→S b)∧(∀ b,Sa b→¬ Sb b) ∧
 FOCs E Sa w (y.take i) (cs.take (i * 3))∧FOCs E Sb w (y.drop i) (cs.drop (i * 3))
 | 0,y,S,cs,h=>⟨fun _=>False,S,fun _ h=>h.elim,fun _ h=>h,fun _ h=>h.elim,by simp [Fo.take,FOCs],by simpa [Fo.drop] using h⟩
 | i + 1, .nil,S,cs,h=>⟨fun _=>False,S,fun _ h=>h.elim,fun _ h=>h,fun _ h=>h.elim,by rw [show cs = [] from h];simp [Fo.take,FOCs],by rw [show cs = [] from h];simp [Fo.drop,FOCs]⟩
 | i + 1, .cons n l s r,S,cs,⟨vn,vs,cs',S1,S2,S3,h1,hs,d1,d2,d3,h2,h3,h6⟩=>by
   obtain ⟨Sa,Sb,ha,hb,hd,hfa,hfb⟩:=h6.split (i:=i)
   refine ⟨fun b=>S1 b ∨ S2 b ∨ Sa b,Sb,fun b hb=>?_,fun b h=>hs b (.inr (.inr (hb b h))),fun b h h'=>?_,?_,?_⟩
   · rcases hb with h | h | h
     · exact hs b (.inl h)
     · exact hs b (.inr (.inl h))
     · exact hs b (.inr (.inr (ha b h)))
   · rcases h with h | h | h
     · exact d2 b h (hb b h')
     · exact d3 b h (hb b h')
     · exact hd b h h'
   · rw [h1,show (i + 1) * 3 = i * 3 + 1 + 1 + 1 from by omega]
     exact ⟨vn,vs,_,S1,S2,Sa,rfl,fun _ h=>h,d1,fun b h h'=>d2 b h (ha b h'),fun b h h'=>d3 b h (ha b h'),h2,h3,hfa⟩
   · rw [h1,show (i + 1) * 3 = i * 3 + 1 + 1 + 1 from by omega]
     exact hfb
theorem FOCs.cons {E:TypeId} {Sn S:Nat→Prop} {w:World} {n:List UInt8} {l:List Int} {s r:Fo} {cs ds:List Value} (h:FOCs E Sn w (.cons n l s .nil) cs) (h':FOCs E S w r ds) (hd:∀ b,Sn b→¬ S b):FOCs E (fun b=>Sn b ∨ S b) w (.cons n l s r) (cs ++ ds):=FOCs.app h h' hd
theorem FOCs.ins {E:TypeId} {S Sn:Nat→Prop} {w:World} {y s:Fo} {i:Nat} {n:List UInt8} {l:List Int} {cs ds:List Value} (h:FOCs E S w y cs) (hn:FOCs E Sn w (.cons n l s .nil) ds) (hd:∀ b,S b→¬ Sn b) :
 FOCs E (fun b=>S b ∨ Sn b) w (y.insN i n l s) (cs.take (i * 3) ++ (ds ++ cs.drop (i * 3))):=by
 obtain ⟨Sa,Sb,ha,hb,hab,hfa,hfb⟩:=h.split (i:=i)
 refine (FOCs.app hfa (FOCs.cons hn hfb (fun b h1 h2=>hd b (hb b h2) h1)) (fun b h1 h2=>h2.elim (fun h2=>hd b (ha b h1) h2) (hab b h1))).wide ?_
 rintro b (h | h | h)
 · exact .inl (ha b h)
 · exact .inr h
 · exact .inl (hb b h)
theorem FOCs.set {E:TypeId} {S Sn:Nat→Prop} {w:World} {y s:Fo} {i:Nat} {n:List UInt8} {l:List Int} {cs ds:List Value} (h:FOCs E S w y cs) (hn:FOCs E Sn w (.cons n l s .nil) ds) (hd:∀ b,S b→¬ Sn b) :
 FOCs E (fun b=>S b ∨ Sn b) w (y.setN i n l s) (cs.take (i * 3) ++ (ds ++ cs.drop ((i + 1) * 3))):=by
 obtain ⟨Sa,Sb,ha,hb,hab,hfa,hfb⟩:=h.split (i:=i)
 have e1:(cs.drop (i * 3)).drop (1 * 3) = cs.drop ((i + 1) * 3):=by rw [List.drop_drop];congr 1;omega
 have e2:(y.drop i).drop 1 = y.drop (i + 1):=Fo.drop_one i y
 obtain ⟨Sc,Sd,hc,hd',hcd,_,hfd⟩:=hfb.split (i:=1)
 rw [e1,e2] at hfd
 refine (FOCs.app hfa (FOCs.cons hn hfd (fun b h1 h2=>hd b (hb b (hd' b h2)) h1)) (fun b h1 h2=>h2.elim (fun h2=>hd b (ha b h1) h2) (fun h2=>hab b h1 (hd' b h2)))).wide ?_
 rintro b (h | h | h)
 · exact .inl (ha b h)
 · exact .inr h
 · exact .inl (hb b (hd' b h))
theorem FOCs.hole {E:TypeId} {w:World}:∀ {i:Nat} {y s r:Fo} {n:List UInt8} {l:List Int} {S:Nat→Prop} {cs:List Value},FOCs E S w y cs→y.drop i = .cons n l s r→∃ (vn vs:Value) (T:Nat→Prop),cs[i * 3]? = some (.string (bs n))∧cs[i * 3 + 1]? = some vn∧cs[i * 3 + 2]? = some vs∧(∀ b,T b→S b)∧Ints (fun b=>S b∧¬ T b) w vn l∧FOw E T w vs s ∧
 ∀ (w':World) (vs':Value) (s':Fo) (T':Nat→Prop),Agree (fun b=>S b∧¬ T b) w w'→FOw E T' w' vs' s'→(∀ b,T' b→S b→T b)→FOCs E (fun b=>S b ∨ T' b) w' (y.setN i n l s') (cs.set (i * 3 + 2) vs')
 | 0, .cons n l s r,s0,r0,n0,l0,S,cs,⟨vn,vs,cs',S1,S2,S3,h1,hs,d1,d2,d3,h2,h3,h6⟩,hd=>by
   simp only [Fo.drop,Fo.cons.injEq] at hd
   obtain ⟨rfl,rfl,rfl,rfl⟩:=hd
   refine ⟨vn,vs,S2,by rw [h1];rfl,by rw [h1];rfl,by rw [h1];rfl,fun b h=>hs b (.inr (.inl h)),Ints.wide h2 (fun b h=>⟨hs b (.inl h.1),d1 b h.1⟩),h3,fun w' vs' s' T' ha hF hT=>?_⟩
   rw [h1]
   refine ⟨vn,vs',cs',S1,T',S3,rfl,fun b h=>?_,fun b h h'=>d1 b h (hT b h' (hs b (.inl h))),d2,fun b h h'=>d3 b (hT b h (hs b (.inr (.inr h')))) h',h2.agree (fun b h=>ha b ⟨hs b (.inl h),d1 b h⟩),hF,?_⟩
   · rcases h with h | h | h
     · exact .inl (hs b (.inl h))
     · exact .inr h
     · exact .inl (hs b (.inr (.inr h)))
   · exact h6.agree (fun b h=>ha b ⟨hs b (.inr (.inr h)),fun h'=>d3 b h' h⟩)
 | i + 1, .cons n l s r,s0,r0,n0,l0,S,cs,⟨vn,vs,cs',S1,S2,S3,h1,hs,d1,d2,d3,h2,h3,h6⟩,hd=>by
   obtain ⟨vn',vs',T,g0,g1,g2,hT,hI,hF,hk⟩:=h6.hole (i:=i) hd
   refine ⟨vn',vs',T,?_,?_,?_,fun b h=>hs b (.inr (.inr (hT b h))),hI.wide (fun b h=>⟨hs b (.inr (.inr h.1)),h.2⟩),hF,fun w' vs'' s' T' ha hF' hT'=>?_⟩
   · rw [h1,show (i + 1) * 3 = i * 3 + 1 + 1 + 1 from by omega];exact g0
   · rw [h1,show (i + 1) * 3 + 1 = i * 3 + 1 + 1 + 1 + 1 from by omega];exact g1
   · rw [h1,show (i + 1) * 3 + 2 = i * 3 + 2 + 1 + 1 + 1 from by omega];exact g2
   · have hnT:∀ b,T' b→¬ S1 b∧¬ S2 b:=fun b h=>⟨fun h'=>d2 b h' (hT b (hT' b h (hs b (.inl h')))),fun h'=>d3 b h' (hT b (hT' b h (hs b (.inr (.inl h')))))⟩
     have hk':=hk w' vs'' s' T' (fun b h=>ha b ⟨hs b (.inr (.inr h.1)),h.2⟩) hF' (fun b h h'=>hT' b h (hs b (.inr (.inr h'))))
     rw [h1,show (i + 1) * 3 + 2 = i * 3 + 2 + 1 + 1 + 1 from by omega]
     refine ⟨vn,vs,_,S1,S2,fun b=>S3 b ∨ T' b,rfl,fun b h=>?_,d1,fun b h h'=>h'.elim (d2 b h) (fun h'=>(hnT b h').1 h),fun b h h'=>h'.elim (d3 b h) (fun h'=>(hnT b h').2 h),h2.agree (fun b h=>ha b ⟨hs b (.inl h),fun h'=>d2 b h (hT b h')⟩),?_,hk'⟩
     · rcases h with h | h | h | h
       · exact .inl (hs b (.inl h))
       · exact .inl (hs b (.inr (.inl h)))
       · exact .inl (hs b (.inr (.inr h)))
       · exact .inr h
     · exact FOw.agree (S:=S2) h3 (fun b h=>ha b ⟨hs b (.inr (.inl h)),fun h'=>d3 b h (hT b h')⟩)
end Go.Proofs.LF
namespace Go.Proofs.LF
open Go.RowKit
theorem owns_slc_u {w:World} {base e k n:Nat} {v:Value} {xs:List Value} {S:Nat→Prop} (h:w.ownsRow base e k v n xs) (hS:∀ g,v.ownBlock = some g→S g):SlC (US S w) w k v n xs:=by
 obtain ⟨h1,h2⟩:=h
 refine ⟨h1,?_⟩
 rcases h2 with ⟨rfl,rfl⟩ | ⟨g,cap,cur,rfl,hb,hg,hn,hc,hs,ht⟩
 · exact ⟨none,0,rfl,by omega,by simp [maxLen],fun _=>rfl, .inl rfl⟩
 · refine ⟨_,cap,rfl,hn,hc,(fun h=>by cases h), .inr ⟨g,0,rfl,⟨hS g rfl,_,_,hg⟩,fun j u hj=>?_⟩⟩
   simp only [World.cell?,hg,Nat.zero_add]
   rw [← ht,List.getElem?_take] at hj
   split at hj
   · simpa using hj
   · cases hj
theorem FOCs.fcsu {E:TypeId} {w:World}:∀ {y:Fo} {S:Nat→Prop} {cs:List Value},FOCs E S w y cs→FCsU S w y cs
 | .nil,_,_,h=>h
 | .cons n l s r,S,cs,⟨vn,vs,cs',S1,S2,S3,h1,hs,_,_,_,h2,⟨ds,h3,h4,h5⟩,h6⟩=>
   ⟨vn,vs,cs',h1,IntU.wide h2 (fun b hb=>hs b (.inl hb)),⟨ds,owns_slc_u h3 (fun g hg=>hs g (.inr (.inl (h4 g hg)))),FCsU.wide h5.fcsu (fun b hb=>hs b (.inr (.inl hb.1)))⟩,FCsU.wide h6.fcsu (fun b hb=>hs b (.inr (.inr hb)))⟩
theorem FOw.fslu {E:TypeId} {S:Nat→Prop} {w:World} {v:Value} {y:Fo} (h:FOw E S w v y):FSlU S w v y:=
 let ⟨ds,h1,h2,h3⟩:=h;⟨ds,owns_slc_u h1 h2,FCsU.wide h3.fcsu (fun b hb=>hb.1)⟩
end Go.Proofs.LF
namespace Go.Proofs.LF
def Srt (l:List Fl):Prop:=l.Pairwise (fun a b=>cmpP a.p b.p < 0)
theorem cmpP_pre:∀ (u t:List Ky),t ≠ []→cmpP u (u ++ t) < 0
 | [],t,h=>by cases t with | nil=>exact absurd rfl h | cons _ _=>simp [cmpP]
 | a :: u,t,h=>by simp only [List.cons_append,cmpP,byK_ord.refl,ne_eq,not_true,if_false];exact cmpP_pre u t h
theorem cmpP_same (x y:List Ky):∀ (u:List Ky),cmpP (u ++ x) (u ++ y) = cmpP x y
 | []=>rfl
 | a :: u=>by simp only [List.cons_append,cmpP,byK_ord.refl,ne_eq,not_true,if_false];exact cmpP_same x y u
def isBel (u:List Ky) (x:Fl):Bool:=decide (u.length < x.p.length) && decide (x.p.take u.length = u)
def isCh (u:List Ky) (x:Fl):Bool:=decide (x.p.length = u.length + 1) && decide (x.p.take u.length = u)
def toFo (g:Fl→Fo) (d:Nat):List Fl→Fo
 | [] => .nil
 | x :: l => .cons (x.p.getD d ⟨[],false,0⟩).n x.l (g x) (toFo g d l)
def treR:Nat→List Fl→List Ky→Fo
 | 0,_,_ => .nil
 | f + 1,L,u=>toFo (fun x=>treR f L x.p) u.length (L.filter (isCh u))
def Fo.hgt:Fo→Nat
 | .nil=>0
 | .cons _ _ s r=>max (s.hgt + 1) r.hgt
theorem flsL_pre:∀ (y:Fo) (u:List Ky),∀ x ∈ flsL u y,∃ k t,x.p = u ++ k :: t
 | .nil,u,x,h=>by simp [flsL_nil] at h
 | .cons n l s r,u,x,h=>by
   rw [flsL_cons] at h
   rcases List.mem_cons.1 h with rfl | h
   · exact ⟨_,[],rfl⟩
   · rcases List.mem_append.1 h with h | h
     · obtain ⟨k,t,hp⟩:=flsL_pre s _ x h
       exact ⟨kyOf n l,k :: t,by rw [hp];simp⟩
     · exact flsL_pre r u x h
theorem isBel_pre {u t:List Ky} {k:Ky} {x:Fl} (h:x.p = u ++ k :: t):isBel u x = true:=by
 simp [isBel,h]
theorem isCh_bel {u:List Ky} {x:Fl} (h:isCh u x = true):isBel u x = true:=by
 simp only [isCh,isBel,Bool.and_eq_true,decide_eq_true_eq] at *
 exact ⟨by omega,h.2⟩
theorem filter_all {α:Type} {p:α→Bool} {l:List α} (h:∀ x ∈ l,p x = true):l.filter p = l:=List.filter_eq_self.2 h
theorem filter_no {α:Type} {p:α→Bool} {l:List α} (h:∀ x ∈ l,p x = false):l.filter p = []:=by
 rw [List.filter_eq_nil_iff];intro x hx;rw [h x hx];simp
theorem top_mem:∀ (y:Fo) (u:List Ky) (x:Fl),x ∈ flsL u y→∀ k t,x.p = u ++ k :: t→(u ++ [k]) ∈ (flsL u y).map Fl.p
 | .nil,_,_,h,_,_,_=>by simp [flsL_nil] at h
 | .cons n l s r,u,x,h,k,t,hp=>by
   rw [flsL_cons] at h ⊢
   rcases List.mem_cons.1 h with rfl | h
   · have h1:kyOf n l = k∧[] = t:=by simpa using hp
     simp [h1.1]
   · rcases List.mem_append.1 h with h | h
     · obtain ⟨k2,t2,hp2⟩:=flsL_pre s _ x h
       rw [hp2] at hp
       have h1:kyOf n l = k:=by simp at hp;exact hp.1
       simp [h1]
     · have:=top_mem r u x h k t hp
       simp only [List.map_cons,List.map_append,List.mem_cons,List.mem_append]
       exact .inr (.inr this)
theorem bel_at:∀ (y:Fo) (u:List Ky) (i:Nat) (n:List UInt8) (l:List Int) (s r:Fo),((flsL u y).map Fl.p).Nodup→y.drop i = .cons n l s r→(flsL u y).filter (isBel (u ++ [kyOf n l])) = flsL (u ++ [kyOf n l]) s
 | .nil,_,i,_,_,_,_,_,h=>by cases i <;> simp [Fo.drop] at h
 | .cons n' l' s' r',u,0,n,l,s,r,hnd,h=>by
   simp only [Fo.drop,Fo.cons.injEq] at h
   obtain ⟨rfl,rfl,rfl,rfl⟩:=h
   rw [flsL_cons] at hnd ⊢
   have h1:(flsL (u ++ [kyOf n' l']) s').filter (isBel (u ++ [kyOf n' l'])) = flsL (u ++ [kyOf n' l']) s':=filter_all fun x hx=>by
    obtain ⟨k,t,hp⟩:=flsL_pre s' _ x hx
    exact isBel_pre hp
   have h2:(flsL u r').filter (isBel (u ++ [kyOf n' l'])) = []:=filter_no fun x hx=>by
    cases hb:isBel (u ++ [kyOf n' l']) x with
    | false=>rfl
    | true=>
      obtain ⟨k,t,hp⟩:=flsL_pre r' _ x hx
      simp only [isBel,Bool.and_eq_true,decide_eq_true_eq,hp,List.length_append,List.length_cons,List.length_nil] at hb
      have hk:k = kyOf n' l':=by
       have:=hb.2
       rw [show u.length + (0 + 1) = u.length + 1 by omega,List.take_length_add_append] at this
       simpa using this
      have:=top_mem r' u x hx k t hp
      rw [hk] at this
      simp only [List.map_cons,List.nodup_cons,List.map_append,List.mem_append,not_or] at hnd
      exact absurd this hnd.1.2
   rw [List.filter_cons,if_neg (by simp [isBel]),List.filter_append,h1,h2,List.append_nil]
 | .cons n' l' s' r',u,i + 1,n,l,s,r,hnd,h=>by
   simp only [Fo.drop] at h
   rw [flsL_cons] at hnd ⊢
   simp only [List.map_cons,List.nodup_cons,List.map_append,List.mem_append,not_or,List.nodup_append] at hnd
   have h1:(flsL (u ++ [kyOf n' l']) s').filter (isBel (u ++ [kyOf n l])) = []:=filter_no fun x hx=>by
    cases hb:isBel (u ++ [kyOf n l]) x with
    | false=>rfl
    | true=>
      obtain ⟨k,t,hp⟩:=flsL_pre s' _ x hx
      simp only [isBel,Bool.and_eq_true,decide_eq_true_eq,hp,List.length_append,List.length_cons,List.length_nil] at hb
      have hk:kyOf n' l' = kyOf n l:=by
       have:=hb.2
       rw [List.append_assoc,show u.length + (0 + 1) = u.length + 1 by omega,List.take_length_add_append] at this
       simpa using this
      exfalso
      refine hnd.1.2 ?_
      rw [hk]
      have hm:∀ (z:Fo) (i:Nat),z.drop i = .cons n l s r→(u ++ [kyOf n l]) ∈ (flsL u z).map Fl.p:=by
       intro z
       induction z with
       | nil=>intro i h;cases i <;> simp [Fo.drop] at h
       | cons a b c e _ ih=>
         intro i h
         rw [flsL_cons]
         cases i with
         | zero=>simp only [Fo.drop,Fo.cons.injEq] at h;simp [h.1,h.2.1]
         | succ i=>simp only [List.map_cons,List.map_append,List.mem_cons,List.mem_append];exact .inr (.inr (ih i h))
      exact hm r' i h
   rw [List.filter_cons,if_neg (by simp [isBel]),List.filter_append,h1,List.nil_append]
   exact bel_at r' u i n l s r hnd.2.2.1 h
theorem hgt_drop:∀ (y:Fo) (i:Nat) (n:List UInt8) (l:List Int) (s r:Fo),y.drop i = .cons n l s r→s.hgt + 1 ≤ y.hgt
 | .nil,i,_,_,_,_,h=>by cases i <;> simp [Fo.drop] at h
 | .cons _ _ _ _,0,n,l,s,r,h=>by
   simp only [Fo.drop,Fo.cons.injEq] at h
   obtain ⟨rfl,rfl,rfl,rfl⟩:=h
   simp only [Fo.hgt];omega
 | .cons _ _ _ r',i + 1,n,l,s,r,h=>by
   simp only [Fo.drop] at h
   have:=hgt_drop r' i n l s r h
   simp only [Fo.hgt];omega
theorem nodup_at:∀ (y:Fo) (u:List Ky) (i:Nat) (n:List UInt8) (l:List Int) (s r:Fo),((flsL u y).map Fl.p).Nodup→y.drop i = .cons n l s r→((flsL (u ++ [kyOf n l]) s).map Fl.p).Nodup
 | .nil,_,i,_,_,_,_,_,h=>by cases i <;> simp [Fo.drop] at h
 | .cons n' l' s' r',u,0,n,l,s,r,hnd,h=>by
   simp only [Fo.drop,Fo.cons.injEq] at h
   obtain ⟨rfl,rfl,rfl,rfl⟩:=h
   rw [flsL_cons] at hnd
   simp only [List.map_cons,List.nodup_cons,List.map_append,List.nodup_append] at hnd
   exact hnd.2.1
 | .cons n' l' s' r',u,i + 1,n,l,s,r,hnd,h=>by
   simp only [Fo.drop] at h
   rw [flsL_cons] at hnd
   simp only [List.map_cons,List.nodup_cons,List.map_append,List.nodup_append] at hnd
   exact nodup_at r' u i n l s r hnd.2.2.1 h
theorem toFo_fls (g:Fl→Fo):∀ (y:Fo) (u:List Ky),(∀ i n l s r,y.drop i = .cons n l s r→g ⟨u ++ [kyOf n l],l⟩ = s)→toFo g u.length ((flsL u y).filter (isCh u)) = y
 | .nil,_,_=>by simp [flsL_nil,toFo]
 | .cons n l s r,u,h=>by
   have h0:=h 0 n l s r rfl
   rw [flsL_cons,List.filter_cons,if_pos (by simp [isCh]),List.filter_append,filter_no (l:=flsL (u ++ [kyOf n l]) s) (fun x hx=>?_),List.nil_append,toFo,h0,toFo_fls g r u (fun i=>h (i + 1))]
   · simp [kyOf_n]
   · obtain ⟨k,t,hp⟩:=flsL_pre s _ x hx
     simp [isCh,hp]
theorem treR_fls:∀ (f:Nat) (y:Fo) (u:List Ky) (L:List Fl),y.hgt ≤ f→L.filter (isBel u) = flsL u y→((flsL u y).map Fl.p).Nodup→treR f L u = y
 | 0,y,u,L,hf,_,_=>by
   cases y with
   | nil=>rfl
   | cons n l s r=>simp only [Fo.hgt] at hf;omega
 | f + 1,y,u,L,hf,hL,hnd=>by
   have h1:L.filter (isCh u) = (flsL u y).filter (isCh u):=by
    rw [← hL,List.filter_filter]
    congr 1
    funext x
    cases hc:isCh u x with
    | false=>rfl
    | true=>simp [isCh_bel hc]
   rw [treR,h1]
   refine toFo_fls _ y u fun i n l s r hd=>?_
   have h2:=hgt_drop y i n l s r hd
   refine treR_fls f s (u ++ [kyOf n l]) L (by omega) ?_ (nodup_at y u i n l s r hnd hd)
   rw [← bel_at y u i n l s r hnd hd,← hL,List.filter_filter]
   congr 1
   funext x
   cases hc:isBel (u ++ [kyOf n l]) x with
   | false=>rfl
   | true=>
     have:isBel u x = true:=by
      simp only [isBel,Bool.and_eq_true,decide_eq_true_eq,List.length_append,List.length_singleton] at hc ⊢
      refine ⟨by omega,?_⟩
      have:=congrArg (List.take u.length) hc.2
      rwa [List.take_take,Nat.min_eq_left (by omega),List.take_left'  rfl] at this
     simp [this]
theorem hgt_le:∀ (y:Fo) (u:List Ky) (m:Nat),(∀ x ∈ flsL u y,x.p.length ≤ u.length + m)→y.hgt ≤ m
 | .nil,_,_,_=>Nat.zero_le _
 | .cons n l s r,u,m,h=>by
   rw [flsL_cons] at h
   have h0:=h ⟨u ++ [kyOf n l],l⟩ (by simp)
   simp at h0
   have h1:=hgt_le s (u ++ [kyOf n l]) (m - 1) (fun x hx=>by
    have:=h x (by simp [hx])
    simp;omega)
   have h2:=hgt_le r u m (fun x hx=>h x (by simp [hx]))
   simp only [Fo.hgt];omega
theorem Srt.nodup {l:List Fl} (h:Srt l):(l.map Fl.p).Nodup:=by
 unfold Srt at h
 rw [List.Nodup,List.pairwise_map]
 exact h.imp fun {a b} hab e=>by rw [e,cmpP_ord.refl] at hab;omega
theorem treR_year {y:Fo} (h:Srt (flsL [] y)) {f:Nat} (hf:∀ x ∈ flsL [] y,x.p.length ≤ f):treR f (flsL [] y) [] = y:=
 treR_fls f y [] _ (hgt_le _ [] f (fun x hx=>by simpa using hf x hx)) (filter_all fun x hx=>by
  obtain ⟨k,t,hp⟩:=flsL_pre y [] x hx
  exact isBel_pre hp) h.nodup
end Go.Proofs.LF
namespace Go.Proofs.LF
open Go.RowKit
section
variable {F:Fence} {n:Nat} {P:Program} {ops:Array Oper} {Q:Exit→Act→World→Prop} {md:Region.Mode} {S:Array Bool→World→Prop}
def LstC (md:Region.Mode) (ops:Array Oper) (listed:Array Bool):Prop:=∀ j o,ops[j]? = some o→listed.getD j false = true→∀ e ∈ o.after,Region.binds md e = true→listed.getD e.on false = true
def lstB (md:Region.Mode) (ops:Array Oper) (listed:Array Bool):Bool:=(List.range ops.size).all fun j=>!listed.getD j false || match ops[j]? with | some o=>o.after.all (fun e=>!Region.binds md e || listed.getD e.on false) | none=>true
theorem lstB_spec {listed:Array Bool} (h:lstB md ops listed = true):LstC md ops listed:=fun j o ho hl e he hb=>by
 unfold lstB at h
 rw [List.all_eq_true] at h
 have hj:j < ops.size:=(Array.getElem?_eq_some_iff.1 ho).1
 have h1:=h j (List.mem_range.2 hj)
 rw [hl,ho] at h1
 simp only [Bool.not_true,Bool.false_or,Array.all_eq_true] at h1
 obtain ⟨k,hk,rfl⟩:=Array.getElem_of_mem he
 have h2:=h1 k hk
 rw [hb] at h2
 simpa using h2
theorem LstC.set {listed:Array Bool} (h:LstC md ops listed) {i:Nat} (hi:i ∈ Region.ready md ops listed):LstC md ops (listed.setIfInBounds i true):=fun j o ho hl e he hb=>by
 obtain ⟨_,o',ho',hall⟩:=mem_ready.1 hi
 by_cases hji:i = j
 · subst hji
   rw [ho] at ho'
   cases ho'
   exact getD_set_true (hall e he hb)
 · rw [getD_set_ne false hji] at hl
   exact getD_set_true (h j o ho hl e he hb)
theorem waits_at {i k:Nat} {o:Oper} (hk:ops[k]? = some o) (h:waits md ops k i = true):∃ e ∈ o.after,Region.binds md e = true∧e.on = i:=by
 unfold waits at h
 rw [hk] at h
 simp only [Array.any_eq_true,Bool.and_eq_true,beq_iff_eq] at h
 obtain ⟨m,hm,hb,he⟩:=h
 exact ⟨_,Array.getElem_mem hm,hb,he⟩
def Unl (listed:Array Bool) (i:Nat):Prop:=listed.getD i false = false
theorem ready_un {listed:Array Bool} {i:Nat} (hr:i ∈ Region.ready md ops listed):Unl listed i:=by
 have h0:=(mem_ready.1 hr).1
 unfold Unl
 rcases Nat.lt_or_ge i listed.size with h' | h'
 · simp [h'] at h0 ⊢;exact h0
 · simp [Array.getElem?_eq_none h']
theorem un_next {listed:Array Bool} (hc:LstC md ops listed) {i k:Nat} {ok:Oper} (hk:ops[k]? = some ok) (h:waits md ops k i = true) (hu:Unl listed i):Unl listed k:=by
 unfold Unl at *
 cases hl:listed.getD k false with
 | false=>rfl
 | true=>
   obtain ⟨e,he,hb,rfl⟩:=waits_at hk h
   have:=hc _ _ hk hl e he hb
   rw [hu] at this
   cases this
theorem un_set {listed:Array Bool} {i k:Nat} (h:i ≠ k):Unl (listed.setIfInBounds i true) k ↔ Unl listed k:=by unfold Unl;rw [getD_set_ne false h]
def AnyG (F:Fence) (n:Nat) (P:Program) (md:Region.Mode) (ops:Array Oper) (Q:Exit→Act→World→Prop) (S:Array Bool→World→Prop):Nat→Array Bool→Act→World→Prop
 | 0,listed,a,w=>Region.ready md ops listed = []∧Q .normal a w
 | fuel + 1,listed,a,w=>
   (Region.ready md ops listed = []→Q .normal a w) ∧
   ∀ i ∈ Region.ready md ops listed,wpOpIn F n P ops Q i (fun a' w'=>S (listed.setIfInBounds i true) w'∧AnyG F n P md ops Q S fuel (listed.setIfInBounds i true) a' w') a w
theorem any_of_G:∀ (fuel:Nat) (listed:Array Bool) (a:Act) (w:World),AnyG F n P md ops Q S fuel listed a w→wpAnyIn F n P md ops Q fuel listed a w
 | 0,_,_,_,h=>h
 | fuel + 1,_,_,_,h=>⟨h.1,fun i hi=>wpOpIn_mono (fun a' w' h'=>any_of_G fuel _ a' w' h'.2) (h.2 i hi)⟩
def AtSome (md:Region.Mode) (ops:Array Oper) (S:Array Bool→World→Prop) (i:Nat) (w:World):Prop:=∃ listed,LstC md ops listed∧i ∈ Region.ready md ops listed∧S listed w
theorem AnyG_first (hF:∀ f,F.fn f) (hnd:ops.all notDefer = true) {i:Nat} {oi:Oper} {v:Value} (hi:ops[i]? = some oi) (hsel:∀ (j:Nat) (o:Oper) cs b,ops[j]? = some o→o.op ≠ .select cs b)
 (hQ:∀ c a w,Q (.panic c) (a.put oi.dst v) w→Q (.panic c) a w) (hins:∀ listed w,S (listed.setIfInBounds i true) w ↔ S listed w) :
 ∀ (fuel:Nat) (listed:Array Bool) (a:Act) (w:World),LstC md ops listed →
  (∀ j oj,ops[j]? = some oj→j ≠ i→listed.getD j true = false→(∀ e ∈ oj.after,Region.binds md e = true→e.on ≠ i)→oi.apart ops oj = true) →
  i ∈ Region.ready md ops listed→YIf P ops (AtSome md ops S i) oi v a→S listed w →
  AnyG F n P md ops Q S fuel (listed.setIfInBounds i true) (a.put oi.dst v) w→AnyG F n P md ops Q S (fuel + 1) listed a w:=by
 have hno:∀ j o,ops[j]? = some o→notDefer o = true:=fun j o h=>by
  rw [Array.all_eq_true] at hnd
  obtain ⟨hj,rfl⟩:=Array.getElem?_eq_some_iff.1 h
  exact hnd j hj
 intro fuel
 induction fuel with
 | zero=>
   intro listed a w hcl _ hr hy hS H
   refine ⟨fun h=>(by rw [h] at hr;cases hr),fun j hj=>?_⟩
   by_cases hji:j = i
   · subst hji;exact hy.wpOp hF hi (hno _ _ hi) ⟨listed,hcl,hr,hS⟩ ⟨(hins _ _).2 hS,H⟩
   · have:=ready_mono hj hji
     rw [H.1] at this
     cases this
 | succ fuel ih=>
   intro listed a w hcl hfree hr hy hS H
   refine ⟨fun h=>(by rw [h] at hr;cases hr),fun j hj=>?_⟩
   by_cases hji:j = i
   · subst hji;exact hy.wpOp hF hi (hno _ _ hi) ⟨listed,hcl,hr,hS⟩ ⟨(hins _ _).2 hS,H⟩
   · have h1:=H.2 j (ready_mono hj hji)
     obtain ⟨hjun,oj,hoj,hall⟩:=mem_ready.1 hj
     have hnot:∀ e ∈ oj.after,Region.binds md e = true→e.on ≠ i:=fun e he hb heq=>by
      have h1:=hall e he hb
      have h0:=(mem_ready.1 hr).1
      rw [heq] at h1
      rcases Nat.lt_or_ge i listed.size with h' | h'
      · simp [h'] at h0 h1;rw [h0] at h1;cases h1
      · simp [Array.getElem?_eq_none h'] at h1
     have h2:=wpOpIn_putIf hoj (hno _ _ hoj) (hfree j oj hoj hji hjun hnot) (fun cs b=>hsel i oi cs b hi) (fun cs b=>hsel j oj cs b hoj) hQ hy h1
     have hfree':∀ k ok,ops[k]? = some ok→k ≠ i→(listed.setIfInBounds j true).getD k true = false →
      (∀ e ∈ ok.after,Region.binds md e = true→e.on ≠ i)→oi.apart ops ok = true:=fun k ok hk hki hun hno=>by
      refine hfree k ok hk hki ?_ hno
      by_cases hjk:j = k
      · subst hjk;exact hjun
      · rw [getD_set_ne true hjk] at hun;exact hun
     refine wpOpIn_mono (fun a' w' h3=>?_) h2
     rw [Array.setIfInBounds_comm _ _ (Ne.symm hji)] at h3
     have hs':=(hins _ _).1 h3.2.1
     exact ⟨hs',ih (listed.setIfInBounds j true) a' w' (hcl.set hj) hfree' (ready_mono hr (Ne.symm hji)) h3.1 hs' h3.2.2⟩
theorem AnyG_takeD (hF:∀ f,F.fn f) (hnd:ops.all notDefer = true) (i t:Nat) (v:Value) {oi:Oper} {fuel:Nat} {listed:Array Bool} {a:Act} {w:World} (hi:ops[i]? = some oi) (hd:oi.dst = some t)
 (hs:Region.noSelect ops = true) (hf:Region.free md ops listed i = true) (hr:(Region.ready md ops listed).contains i = true) (hc:lstB md ops listed = true) (hins:∀ listed w,S (listed.setIfInBounds i true) w ↔ S listed w)
 (hQ:∀ c a w,Q (.panic c) (a.put (some t) v) w→Q (.panic c) a w) (hy:YIf P ops (AtSome md ops S i) oi v a) (hS:S listed w)
 (h:AnyG F n P md ops Q S fuel (listed.setIfInBounds i true) (a.put (some t) v) w):AnyG F n P md ops Q S (fuel + 1) listed a w:=
 AnyG_first hF hnd hi (Region.noSelect_spec hs) (by rw [hd];exact hQ) hins fuel listed a w (lstB_spec hc) (Region.free_spec hi hf) (by simpa using hr) hy hS (by rw [hd];exact h)
theorem AnyG_one {i:Nat} {o:Oper} {fuel:Nat} {listed:Array Bool} {a:Act} {w:World} (hr:Region.ready md ops listed = [i]) (ho:ops[i]? = some o) (hw:Region.wanted o (yielded ops a.tmps) = true)
 (h:∀ K:Act→World→Prop,(∀ a w,S (listed.setIfInBounds i true) w∧AnyG F n P md ops Q S fuel (listed.setIfInBounds i true) a w→K a w)→Oper.wpIn F n P o a w K Q):AnyG F n P md ops Q S (fuel + 1) listed a w:=
 ⟨fun h0=>(by rw [hr] at h0;cases h0),hr ▸ fun j hj=>by
   obtain rfl:j = i:=by simpa using hj
   unfold wpOpIn
   rw [ho]
   simp only [hw,if_true]
   exact h _ fun _ _ h=>h⟩
theorem AnyG_done {fuel:Nat} {listed:Array Bool} {a:Act} {w:World} (hr:Region.ready md ops listed = []) (h:Q .normal a w):AnyG F n P md ops Q S fuel listed a w:=by
 cases fuel with
 | zero=>exact ⟨hr,h⟩
 | succ f=>exact ⟨fun _=>h,fun i hi=>(by rw [hr] at hi;cases hi)⟩
theorem region_G {id:Nat} {a:Act} {w:World} (S:Array Bool→World→Prop) (hm:P.follows .mixedOrders = true)
 (h:AnyG F n P .any ops Q S ops.size (Array.replicate ops.size false) a w.drew):(Code.region id ops true).wpIn F n P Q a w:=
 wpIn_region_any hm (any_of_G _ _ _ _ h)
end
end Go.Proofs.LF
namespace Go.Proofs.LF
open Go.RowKit
def FNCs:(Nat→Prop)→World→Fo→List Value→Prop
 | _,_, .nil,cs=>cs = []
 | S,w, .cons n l s r,cs=>∃ (vn vs:Value) (cs':List Value) (S1 S2 S3:Nat→Prop),cs = .string (bs n) :: vn :: vs :: cs' ∧
    (∀ b,S1 b ∨ S2 b ∨ S3 b→S b)∧(∀ b,S1 b→¬ S2 b)∧(∀ b,S1 b→¬ S3 b)∧(∀ b,S2 b→¬ S3 b)∧w.ownsRow 0 3 1 vn l.length (l.map (Value.int .i64))∧(∀ g,vn.ownBlock = some g→S1 g) ∧
    FSl S2 w vs s∧FNCs S3 w r cs'
theorem FNCs.agree {w w':World}:∀ {y:Fo} {S:Nat→Prop} {cs:List Value},FNCs S w y cs→Agree S w w'→FNCs S w' y cs
 | .nil,_,_,h,_=>h
 | .cons n l s r,S,cs,⟨vn,vs,cs',S1,S2,S3,h1,hs,d1,d2,d3,h2,h3,h4,h6⟩,ha=>
   ⟨vn,vs,cs',S1,S2,S3,h1,hs,d1,d2,d3,owns_agree h2 (fun g hg=>ha g (hs g (.inl (h3 g hg)))),h3,h4.agree (fun b hb=>ha b (hs b (.inr (.inl hb)))),h6.agree (fun b hb=>ha b (hs b (.inr (.inr hb))))⟩
theorem FNCs.wide {w:World}:∀ {y:Fo} {S S':Nat→Prop} {cs:List Value},FNCs S w y cs→(∀ b,S b→S' b)→FNCs S' w y cs
 | .nil,_,_,_,h,_=>h
 | .cons n l s r,S,S',cs,⟨vn,vs,cs',S1,S2,S3,h1,hs,d1,d2,d3,h2,h3,h4,h6⟩,hw=>
   ⟨vn,vs,cs',S1,S2,S3,h1,fun b hb=>hw b (hs b hb),d1,d2,d3,h2,h3,h4,h6⟩
theorem FNCs.app {w:World}:∀ {y z:Fo} {S S':Nat→Prop} {cs ds:List Value},FNCs S w y cs→FNCs S' w z ds→(∀ b,S b→¬ S' b)→FNCs (fun b=>S b ∨ S' b) w (y.app z) (cs ++ ds)
 | .nil,z,_,_,_,_,h,h',_=>by rw [show _ = [] from h];exact h'.wide (fun b hb => .inr hb)
 | .cons n l s r,z,S,S',cs,ds,⟨vn,vs,cs',S1,S2,S3,h1,hs,d1,d2,d3,h2,h3,h4,h6⟩,h',hd=>
   ⟨vn,vs,cs' ++ ds,S1,S2,fun b=>S3 b ∨ S' b,by rw [h1];rfl,fun b hb=>by
     rcases hb with hb | hb | hb | hb
     · exact .inl (hs b (.inl hb))
     · exact .inl (hs b (.inr (.inl hb)))
     · exact .inl (hs b (.inr (.inr hb)))
     · exact .inr hb,
     d1,fun b hb h=>h.elim (d2 b hb) (hd b (hs b (.inl hb))),fun b hb h=>h.elim (d3 b hb) (hd b (hs b (.inr (.inl hb)))),h2,h3,h4,
     h6.app h' (fun b hb=>hd b (hs b (.inr (.inr hb))))⟩
theorem FNCs.one {S1 S2:Nat→Prop} {w:World} {n:List UInt8} {l:List Int} {s:Fo} {vn vs:Value} (h1:w.ownsRow 0 3 1 vn l.length (l.map (Value.int .i64))) (h2:∀ g,vn.ownBlock = some g→S1 g) (h3:FSl S2 w vs s) (hd:∀ b,S1 b→¬ S2 b):FNCs (fun b=>S1 b ∨ S2 b) w (.cons n l s .nil) [.string (bs n),vn,vs]:=
 ⟨vn,vs,[],S1,S2,fun _=>False,rfl,fun b hb=>by rcases hb with hb | hb | hb;exact .inl hb;exact .inr hb;exact hb.elim,hd,fun _ _ h=>h,fun _ _ h=>h,h1,h2,h3,rfl⟩
end Go.Proofs.LF
namespace Go.Proofs.LF
open Go.RowKit
set_option maxHeartbeats 1000000
set_option maxRecDepth 100000
attribute [local go_sem] bs_toList bs_size
theorem count_any (m:Nat):∀ (y:Fo) (d:Int) (a:Option Addr) (c:Nat) (S:Nat→Prop) (w:World),y.cnt < m→0 ≤ d→d ≤ 9→FSl S w (.slice a y.len c) y→(∀ b,S b→b < w.heap.size) →
 Calls Tryz.prog 84 #[.slice a y.len c, .int .i64 d] w fun e w'=>e = .returned (.int .i64 (cntG d 0 y))∧Below w.heap.size w w':=by
 induction m with
 | zero=>intro y _ _ _ _ _ h;omega
 | succ m ih=>
 intro y d a c S w hcnt h0 h9 hv hS
 obtain ⟨_,_,he,hc,hm,hat⟩:=hv.at
 cases he
 have IH:=hid ih
 clear ih
 unfold maxLen at hm
 go_enter Tryz.func84,Tryz.ntmps84
 go_wp2_with fail
 go_loopw [5,10] (fun v i wr=>∃ (k:Nat) (n:Int),k ≤ y.len∧i = .int .i64 k∧v = .int .i64 n∧0 ≤ n∧n ≤ 3000∧Hid (cntG d 0 y = cntG d n (y.drop k))∧Below w.heap.size w wr) (fun _ i _=>y.len - (intOf i).toNat)
 case atStart=>exact ⟨0,0,by omega,rfl,rfl,by omega,by omega,rfl,Below.refl _ _⟩
 case round=>
  obtain ⟨k,n,hk,rfl,rfl,hn0,hn1,H2,hB⟩:=hrel
  have HAT:=hid hat
  clear hat
  by_cases hlt:k < y.len
  · obtain ⟨g,o,nm,l,s,r,an,cn,ab,cb,rfl,hg1,hd,hc0,hc1,hc2,hI,hF⟩:=HAT.out k hlt
    have ha:Agree S w wr:=Ag_b hB hS
    have c0:=ha.cell hg1 hc0
    have c1:=ha.cell hg1 hc1
    have c2:=ha.cell hg1 hc2
    have s5:=Fo.cnt_at hd
    have HD:=hid hd
    have hsz:=hB.size
    have hcap:=(SlC.caps hI).1
    have hcap2:=(SlC.caps hI).2.1
    clear hc0 hc1 hc2 hd
    have H3:Hid (cntG d 0 y = if 8 < d ∨ 80 < n ∨ 8 < (l.length:Int) ∨ 20 < (nm.length:Int) then 1000 else cntG d (n + (1 + cntG (d + 1) 0 s)) (y.drop (k + 1))):=by
     rw [Hid,H2.out,HD.out,Fo.drop_succ HD.out];rfl
    by_cases h1:8 < d ∨ 80 < n ∨ 8 < (l.length:Int) ∨ 20 < (nm.length:Int)
    · have H4:=hid (H3.out.trans (if_pos h1))
      by_cases t1:8 < d
      · clear h1
        go_wp2_with fail
        go_ret
        exact ⟨ret_int H4.out.symm,hB.alloc hsz _⟩
      · by_cases t2:80 < n
        · clear h1
          go_wp2_with fail
          go_ret
          exact ⟨ret_int H4.out.symm,hB.alloc hsz _⟩
        · by_cases t3:8 < (l.length:Int)
          · clear h1
            go_wp2_with fail
            go_ret
            exact ⟨ret_int H4.out.symm,hB.alloc hsz _⟩
          · have t4:20 < (nm.length:Int):=by omega
            clear h1
            go_wp2_with fail
            go_ret
            exact ⟨ret_int H4.out.symm,hB.alloc hsz _⟩
    · have H4:=hid (H3.out.trans (if_neg h1))
      have t1:¬ 8 < d:=by omega
      have t2:¬ 80 < n:=by omega
      have t3:¬ 8 < (l.length:Int):=by omega
      have t4:¬ 20 < (nm.length:Int):=by omega
      clear h1
      have hcb:=cntG_sub s d h0 (by omega)
      obtain ⟨hcb1,hcb2⟩:=hcb
      go_wp2_with fail
      refine (IH.out s (d + 1) ab cb S _ (by omega) (by omega) (by omega) (hF.agree (Ag_b (B:=w.heap.size) (hB.alloc hsz _) hS)) ?_).mono ?_
      · intro b hb;have:=hS b hb;simp;omega
      · rintro e w1 ⟨rfl,hb1⟩
        go_wp2_with fail
        go_roundw
        case rel=>exact ⟨k + 1,n + (1 + cntG (d + 1) 0 s),by omega,by go_num,rfl,by omega,by omega,H4.out,(hB.alloc hsz _).trans (hb1.mono (by simp;omega))⟩
        case measure=>simp [intOf];omega
  · go_wp2_with fail
    go_ret
    obtain rfl:k = y.len:=by omega
    exact ⟨ret_int (by rw [H2.out,Fo.drop_len];rfl),hB⟩
theorem deep_any (y:Fo) (a:Option Addr) (c:Nat) (S:Nat→Prop) (w:World) (hv:FSl S w (.slice a y.len c) y) (hS:∀ b,S b→b < w.heap.size) :
 Calls Tryz.prog 17 #[.slice a y.len c, .int .i64 0] w fun e w'=>e = .returned (.bool (decide (80 < cntG 0 0 y)))∧Below w.heap.size w w':=by
 go_enter Tryz.func17,Tryz.ntmps17
 go_wp2_with fail
 refine (count_any (y.cnt + 1) y 0 a c S w (by omega) (by omega) (by omega) hv hS).mono ?_
 rintro e w1 ⟨rfl,hb1⟩
 go_wp2_with fail
 go_ret
 exact ⟨rfl,hb1⟩
theorem many_any (m:Nat):∀ (y:Fo) (most:Int) (a:Option Addr) (c:Nat) (S:Nat→Prop) (w:World),y.cnt < m→0 ≤ most→most ≤ 100→FSl S w (.slice a y.len c) y→(∀ b,S b→b < w.heap.size) →
 Calls Tryz.prog 86 #[.slice a y.len c, .int .i64 most] w fun e w'=>e = .returned (.int .i64 (many y most))∧w = w':=by
 induction m with
 | zero=>intro y _ _ _ _ _ h;omega
 | succ m ih=>
 intro y most a c S w hcnt h0 h9 hv hS
 obtain ⟨_,_,he,hc,hm,hat⟩:=hv.at
 cases he
 have IH:=hid ih
 clear ih
 unfold maxLen at hm
 go_enter Tryz.func86,Tryz.ntmps86
 go_wp2_with fail
 go_loop [5,6] (fun v i=>∃ (k:Nat) (n:Int),k ≤ y.len∧i = .int .i64 k∧v = .int .i64 n∧0 ≤ n∧n ≤ most + 2∧Hid (manyG most 0 y = manyG most n (y.drop k))) (fun _ i=>y.len - (intOf i).toNat)
 case atStart=>exact ⟨0,0,by omega,rfl,rfl,by omega,by omega,rfl⟩
 case round=>
  obtain ⟨k,n,hk,rfl,rfl,hn0,hn1,H2⟩:=hrel
  have HAT:=hid hat
  clear hat
  by_cases hlt:k < y.len
  · obtain ⟨g,o,nm,l,s,r,an,cn,ab,cb,rfl,hg1,hd,hc0,hc1,hc2,hI,hF⟩:=HAT.out k hlt
    have s5:=Fo.cnt_at hd
    have HD:=hid hd
    clear hd
    have H3:Hid (manyG most 0 y = if n ≤ most then manyG most (n + 1 + many s (most - n)) (y.drop (k + 1)) else n):=by
     rw [Hid,H2.out,HD.out,Fo.drop_succ HD.out];rfl
    by_cases h1:n ≤ most
    · have H4:=hid (H3.out.trans (if_pos h1))
      obtain ⟨hb1,hb2⟩:=many_bound s (most - n) (by omega)
      go_wp2_with fail
      refine (IH.out s (most - n) ab cb S _ (by omega) (by omega) (by omega) hF hS).mono ?_
      rintro e w1 ⟨rfl,rfl⟩
      go_wp2_with fail
      go_round
      case rel=>exact ⟨k + 1,n + 1 + many s (most - n),by omega,by go_num,rfl,by omega,by omega,H4.out⟩
      case measure=>simp [intOf];omega
    · have H4:=hid (H3.out.trans (if_neg h1))
      go_wp2_with fail
      all_goals
       go_ret
       exact ⟨ret_int (by unfold many;rw [H4.out] <;> omega),rfl⟩
  · go_wp2_with fail
    all_goals
     go_ret
     obtain rfl:k = y.len:=by omega
     exact ⟨ret_int (by unfold many;rw [H2.out,Fo.drop_len];simp only [manyG] <;> omega),rfl⟩
end Go.Proofs.LF
namespace Go.Proofs.LF
open Go.RowKit
set_option maxHeartbeats 4000000
set_option maxRecDepth 100000
theorem Tryz.info85i:(Tryz.prog.info? 85).map (fun i=>(i.zero,i.size,i.bytes)) = some (some (.agg #[.string ByteArray.empty, .slice none 0 0, .slice none 0 0]),3,64):=by kernel_rfl
def InsR (v:Value) (n i:Nat) (cs news:List Value) (B:Nat) (w:World) (e:Ending) (w':World):Prop:=
 ∃ a c,e = .returned (.slice a (n + 1) c)∧w'.ownsRow B 85 3 (.slice a (n + 1) c) (n + 1) (cs.take (i * 3) ++ (news ++ cs.drop (i * 3)))∧w.grownBy w' v.ownBlock∧(∀ g,(Value.slice a (n + 1) c).ownBlock = some g→v.ownBlock = some g ∨ g = w.heap.size)
theorem ins_end (v:Value) (n:Nat) (cs:List Value) (x y z:Value) (vb B:Nat) (w:World) (hown:w.ownsRow B 85 3 v n cs) (hvb:w.heap[vb]? = some (.cells #[x,y,z] 85 (0,0)))
 (h1v:∀ u ∈ [x,y,z],u.oneCell' = true) (hn:n ≤ 1000) (hB:B ≤ w.heap.size) :
 Calls Tryz.prog 205 #[v, .int .i64 n, .slice (some ⟨vb,0,none⟩) 1 1] w (InsR v n n cs [x,y,z] B w):=by
 obtain ⟨i0,hi0,hz0,hz1,hz2⟩:=info_parts Tryz.info85i
 have hnews:∀ (j:Nat) (u:Value),[x,y,z][j]? = some u→w.cell? ((⟨vb,0,none⟩:Addr).add j) = some u:=by
  have:=World.news_of_block (cs:=#[x,y,z]) (t:=85) (fr:=(0,0)) hvb
  exact this
 have hl:=hown.1
 rcases hown.2 with ⟨rfl,rfl⟩ | ⟨g,cap,cur,rfl,hbg,hg,hnc,hcap,hcs,htk⟩
 · go_enter Tryz.func205,Tryz.ntmps205
   go_wp2_with (at_builtin;refine wpList_append_ao _ rfl _ _ _ rfl B 85 i0 _ 3 64 Tryz.underlying22 hi0 hz0 hz1 hz2 rfl (by omega) _ 0 cs rfl hown (some ⟨vb,0,none⟩) 1 1 [x,y,z] rfl rfl (fun h=>by cases h) (fun ad had=>by cases had;exact hnews) h1v (by unfold maxLen;omega) (by omega) hB ?_;intro a' c' w' h2 h3 h4)
   go_ret
   exact ⟨a',c',rfl,by rw [List.take_of_length_le (by omega),List.drop_of_length_le (by omega),List.append_nil];exact h2,h3,h4⟩
 · have hnc':n ≤ cap:=hnc
   unfold maxLen at hcap
   go_enter Tryz.func205,Tryz.ntmps205
   go_wp2_with (at_builtin;refine wpList_append_ao _ rfl _ _ _ rfl B 85 i0 _ 3 64 Tryz.underlying22 hi0 hz0 hz1 hz2 rfl (by omega) _ n cs rfl hown (some ⟨vb,0,none⟩) 1 1 [x,y,z] rfl rfl (fun h=>by cases h) (fun ad had=>by cases had;exact hnews) h1v (by unfold maxLen;omega) (by omega) hB ?_;intro a' c' w' h2 h3 h4)
   all_goals (go_ret;exact ⟨a',c',rfl,by rw [List.take_of_length_le (by omega),List.drop_of_length_le (by omega),List.append_nil];exact h2,h3,h4⟩)
end Go.Proofs.LF
namespace Go.Proofs.LF
open Go.RowKit
theorem setCell_heap_congr {w w':World} {g o:Nat} {v:Value} (h:w'.heap[g]? = w.heap[g]?):(w'.setCell ⟨g,o,none⟩ v).heap[g]? = (w.setCell ⟨g,o,none⟩ v).heap[g]?:=by
 simp [World.setCell,Array.getElem?_modify,h]
theorem setCell_at {w:World} {g o:Nat} {v:Value} {cur:Array Value} {t:TypeId} {fr:Nat × Nat} (h:w.heap[g]? = some (.cells cur t fr)):(w.setCell ⟨g,o,none⟩ v).heap[g]? = some (.cells (cur.setIfInBounds o v) t fr):=by
 simp [World.setCell,Array.getElem?_modify,h]
theorem setCell_same {w:World} {g o:Nat} {v:Value} (h:w.cell? ⟨g,o,none⟩ = some v):(w.setCell ⟨g,o,none⟩ v).heap[g]? = w.heap[g]?:=by
 unfold World.cell? at h
 split at h
 · rename_i c t fr hb
   simp only [Option.isSome_none,Bool.false_eq_true,if_false] at h hb
   rw [setCell_at hb,hb]
   have:c.setIfInBounds o v = c:=by
    apply Array.ext (by simp)
    intro i h1 h2
    rw [Array.getElem_setIfInBounds]
    split
    · rename_i e;subst e;rw [Array.getElem?_eq_getElem h2] at h;exact (Option.some.inj h).symm
    · rfl
   rw [this]
 · cases h
def Ctx (E Ty:TypeId) (B ob:Nat) (w:World) (g o:Nat) (T:Nat→Prop) (F:Fo→Fo):Prop:=
 ¬ T g∧g < w.heap.size∧B ≤ g∧(∀ b,T b→B ≤ b∧b < w.heap.size∧b ≠ ob) ∧
 ∀ (w':World) (vs':Value) (s':Fo) (T':Nat→Prop),w.heap.size ≤ w'.heap.size→(∀ b,b < w.heap.size→¬ T b→b ≠ g→w'.heap[b]? = w.heap[b]?)→w'.heap[g]? = (w.setCell ⟨g,o,none⟩ vs').heap[g]? →
  FOw E T' w' vs' s'→(∀ b,T' b→T b ∨ (w.heap.size ≤ b∧b < w'.heap.size)) →
  ∃ v',w'.heap[ob]? = some (.cells #[v'] Ty (0,0))∧FOw E (fun b=>B ≤ b∧b < w'.heap.size∧b ≠ ob) w' v' (F s')
theorem Ctx.start {E Ty:TypeId} {B ob:Nat} {w:World} {v:Value} {T:Nat→Prop} (h0:w.heap[ob]? = some (.cells #[v] Ty (0,0))) (hB:B ≤ ob) (hT:∀ b,T b→B ≤ b∧b < w.heap.size∧b ≠ ob):Ctx E Ty B ob w ob 0 T id:=by
 have hob:ob < w.heap.size:=(Array.getElem?_eq_some_iff.1 h0).1
 refine ⟨fun h=>(hT ob h).2.2 rfl,hob,hB,hT,fun w' vs' s' T' hsz _ hg hF hT'=>⟨vs',?_,?_⟩⟩
 · rw [hg,setCell_at h0];rfl
 · refine hF.wide fun b hb=>?_
   rcases hT' b hb with h | h
   · have:=hT b h;exact ⟨this.1,by omega,this.2.2⟩
   · exact ⟨by omega,h.2,by omega⟩
theorem Ctx.grow {E Ty:TypeId} {B ob:Nat} {w w1:World} {g o:Nat} {T:Nat→Prop} {F:Fo→Fo} (h:Ctx E Ty B ob w g o T F) (hs:w.heap.size ≤ w1.heap.size) (hb:∀ b,b < w.heap.size→w1.heap[b]? = w.heap[b]?):Ctx E Ty B ob w1 g o T F:=by
 obtain ⟨h1,h2,h3,h4,h5⟩:=h
 refine ⟨h1,by omega,h3,fun b hb'=>⟨(h4 b hb').1,by have:=(h4 b hb').2.1;omega,(h4 b hb').2.2⟩,fun w' vs' s' T' hsz ha hg hF hT'=>?_⟩
 refine h5 w' vs' s' T' (by omega) (fun b hb1 hb2 hb3=>(ha b (by omega) hb2 hb3).trans (hb b hb1)) (hg.trans (setCell_heap_congr (hb g h2))) hF (fun b hb'=>?_)
 rcases hT' b hb' with h | h
 · exact .inl h
 · exact .inr ⟨by omega,h.2⟩
theorem Ctx.step {E Ty:TypeId} {B ob:Nat} {w:World} {g o:Nat} {T:Nat→Prop} {F:Fo→Fo} {vs:Value} {s s2 r:Fo} {i:Nat} {n:List UInt8} {l:List Int} (h:Ctx E Ty B ob w g o T F) (hc:w.cell? ⟨g,o,none⟩ = some vs) (hF:FOw E T w vs s) (hd:s.drop i = .cons n l s2 r) :
 ∃ (g2 cap:Nat) (vn vs2:Value) (T2:Nat→Prop),vs = .slice (some ⟨g2,0,none⟩) s.len cap∧s.len ≤ cap∧cap ≤ maxLen∧w.cell? ⟨g2,i * 3,none⟩ = some (.string (bs n))∧w.cell? ⟨g2,i * 3 + 1,none⟩ = some vn∧w.cell? ⟨g2,i * 3 + 2,none⟩ = some vs2∧T g2∧Ints T w vn l ∧
  FOw E T2 w vs2 s2∧Ctx E Ty B ob w g2 (i * 3 + 2) T2 (fun z=>F (s.setN i n l z)):=by
 obtain ⟨h1,h2,h3,h4,h5⟩:=h
 obtain ⟨ds,hown,hvs,hf⟩:=hF
 obtain ⟨vn,vs2,T2,c0,c1,c2,hT2,hI,hF2,hk⟩:=hf.hole hd
 have hlen:=hf.length
 have hil:i < s.len:=by
  rcases Nat.lt_or_ge i s.len with h | h
  · exact h
  · have:=Fo.len_drop i s
    rw [hd] at this
    simp only [Fo.len] at this
    omega
 obtain ⟨hl,hn | ⟨g2,cap,cur,rfl,_,hg2,hnc,hcap,hcs,htake⟩⟩:=hown
 · have:=hn.2
   omega
 have hTg2:=hvs g2 rfl
 have hcell:∀ j u,ds[j]? = some u→w.cell? ⟨g2,j,none⟩ = some u:=fun j u hj=>by
  simp only [World.cell?,hg2]
  rw [← htake,List.getElem?_take] at hj
  split at hj
  · simpa using hj
  · cases hj
 refine ⟨g2,cap,vn,vs2,T2,rfl,hnc,hcap,hcell _ _ c0,hcell _ _ c1,hcell _ _ c2,hTg2,hI.wide (fun b hb=>hb.1.1),hF2,?_⟩
 refine ⟨fun h=>(hT2 g2 h).2 rfl,(h4 g2 hTg2).2.1,(h4 g2 hTg2).1,fun b hb=>h4 b (hT2 b hb).1,fun w' vs' s' T' hsz ha hg hF' hT'=>?_⟩
 rw [setCell_at hg2] at hg
 have hne:g2 ≠ g:=fun e=>h1 (e ▸ hTg2)
 refine h5 w' (.slice (some ⟨g2,0,none⟩) s.len cap) (s.setN i n l s') (fun b=>T b ∨ T' b) hsz (fun b b1 b2 b3=>ha b b1 (fun h=>b2 (hT2 b h).1) (fun e=>b2 (e ▸ hTg2))) ?_ ?_ ?_
 · rw [setCell_same hc];exact ha g h2 (fun h=>h1 (hT2 g h).1) hne.symm
 · refine ⟨ds.set (i * 3 + 2) vs',⟨by rw [Fo.len_setN hil];simpa using hl, .inr ⟨g2,cap,_,by rw [Fo.len_setN hil],Nat.zero_le _,hg,by rw [Fo.len_setN hil];exact hnc,hcap,by simpa using hcs,?_⟩⟩,fun g' hg'=>?_,?_⟩
   · rw [Fo.len_setN hil,← htake,Array.toList_setIfInBounds,List.take_set]
   · obtain rfl:g2 = g':=by simpa [Value.ownBlock] using hg'
     exact .inl hTg2
   · refine (hk w' vs' s' T' (fun b hb=>ha b (h4 b hb.1.1).2.1 hb.2 (fun e=>hb.1.2 (by rw [e];rfl))) hF' (fun b hb hb'=>?_)).wide (fun b hb=>?_)
     · rcases hT' b hb with h | h
       · exact h
       · have:=(h4 b hb'.1).2.1;omega
     · rcases hb with hb | hb
       · exact ⟨.inl hb.1,hb.2⟩
       · refine ⟨.inr hb,fun e=>?_⟩
         obtain rfl:g2 = b:=by simpa [Value.ownBlock] using e
         rcases hT' g2 hb with h | h
         · exact (hT2 g2 h).2 rfl
         · have:=(h4 g2 hTg2).2.1;omega
 · intro b hb
   rcases hb with hb | hb
   · exact .inl hb
   · rcases hT' b hb with h | h
     · exact .inl (hT2 b h).1
     · exact .inr h
end Go.Proofs.LF
namespace Go.Proofs.LF
open Go.RowKit
def rdIs:Rd (List Int) 1 where
 R S w x cs:=∃ a c,cs = [.slice a x.length c]∧Ints S w (.slice a x.length c) x
 len:=by rintro S w x cs ⟨_,_,rfl,_⟩;rfl
 one:=by rintro S w x cs ⟨_,_,rfl,_⟩ u hu;simp at hu;rcases hu with rfl;rfl
 agree:=by rintro S w w' x cs ⟨a,b,rfl,h1⟩ ha;exact ⟨a,b,rfl,h1.agree ha⟩
 wide:=by rintro S w w' x cs ⟨a,b,rfl,h1⟩ ha;exact ⟨a,b,rfl,h1.wide ha⟩
def TwoX (T S:Nat→Prop) (B:Nat) (W:World) (v u:Value) (ps:List (List Ky)) (ns:List (List Int)) (cs es:List Value):Prop:=
 W.ownsRow B 65 1 v ps.length cs∧LCs rdPa T W ps cs∧W.ownsRow B 66 1 u ns.length es∧LCs rdIs S W ns es∧(∀ b,T b→B ≤ b∧b < W.heap.size∧v.ownBlock ≠ some b∧u.ownBlock ≠ some b)∧∀ b,v.ownBlock = some b→u.ownBlock ≠ some b
structure TwoR (S:Nat→Prop) (B:Nat) (W:World) (v u:Value) (ps:List (List Ky)) (ns:List (List Int)):Prop where
 ex:∃ T cs es,TwoX T S B W v u ps ns cs es
variable {T S:Nat→Prop} {B:Nat} {W W':World} {v u:Value} {ps:List (List Ky)} {ns:List (List Int)} {cs es:List Value}
theorem TwoR.nil (S:Nat→Prop) (B:Nat) (W:World):TwoR S B W (.slice none 0 0) (.slice none 0 0) [] []:=⟨fun _=>False,[],[],World.ownsRow_nil _ _ _ _,rfl,World.ownsRow_nil _ _ _ _,rfl,fun _ h=>h.elim,fun _ h=>by cases h⟩
theorem TwoX.below (h:TwoX T S B W v u ps ns cs es) (hS:∀ b,S b→b < W.heap.size) (hb:Below W.heap.size W W'):TwoX T S B W' v u ps ns cs es:=by
 obtain ⟨h1,h2,h3,h4,h5,h6⟩:=h
 exact ⟨ob_ h1 hb (nl_ _),h2.agree (Ag_b hb fun b hb'=>(h5 b hb').2.1),ob_ h3 hb (nl_ _),h4.agree (Ag_b hb hS),fun b hb'=>⟨(h5 b hb').1,by have:=(h5 b hb').2.1;have:=hb.size;omega,(h5 b hb').2.2⟩,h6⟩
end Go.Proofs.LF
namespace Go.Proofs.LF
theorem toFo_app (g:Fl→Fo) (d:Nat):∀ (l m:List Fl),toFo g d (l ++ m) = (toFo g d l).app (toFo g d m)
 | [],_=>rfl
 | x :: l,m=>by simp only [List.cons_append,toFo,Fo.app,toFo_app g d l m]
theorem toFo_len (g:Fl→Fo) (d:Nat):∀ (l:List Fl),(toFo g d l).len = l.length
 | []=>rfl
 | x :: l=>by simp only [toFo,Fo.len,toFo_len g d l,List.length_cons]
theorem ch_take_yes {L:List Fl} {u:List Ky} {k:Nat} {x:Fl} (hk:k < L.length) (hx:L[k] = x) (h:isCh u x = true):(L.take (k + 1)).filter (isCh u) = (L.take k).filter (isCh u) ++ [x]:=by
 rw [List.take_succ_eq_append_getElem hk,hx,List.filter_append];simp [h]
theorem ch_take_no {L:List Fl} {u:List Ky} {k:Nat} {x:Fl} (hk:k < L.length) (hx:L[k] = x) (h:isCh u x = false):(L.take (k + 1)).filter (isCh u) = (L.take k).filter (isCh u):=by
 rw [List.take_succ_eq_append_getElem hk,hx,List.filter_append];simp [h]
theorem treR_zero {L:List Fl} {u:List Ky} (h:∀ x ∈ L,x.p.length ≤ u.length):toFo (fun x=>treR 0 L x.p) u.length (L.filter (isCh u)) = .nil:=by
 rw [filter_no fun x hx=>?_]
 · rfl
 · have:=h x hx
   unfold isCh
   rw [decide_eq_false (by omega)];rfl
end Go.Proofs.LF
namespace Go.Proofs.LF
open Go.RowKit
set_option maxHeartbeats 2000000
set_option maxRecDepth 100000
attribute [local go_sem] bs_toList bs_size bs_get
theorem badName_any (s:List UInt8) (w:World) (hlen:s.length ≤ 1000000) :
 Calls Tryz.prog 145 #[.string (bs s)] w fun e w'=>e = .returned (.bool (badNm s))∧w = w':=by
 go_enter Tryz.func145,Tryz.ntmps145
 go_wp2_with fail
 go_loop [3] (fun i=>∃ k:Nat,k ≤ s.length∧i = .int .i64 k∧Hid (∀ j (h:j < s.length),j < k→¬ ((s[j].toNat:Int) < 97 ∨ 122 < (s[j].toNat:Int)))) (fun i=>s.length - (intOf i).toNat)
 case atStart=>exact ⟨0,by omega,rfl,fun j _ h=>by omega⟩
 case round=>
  obtain ⟨k,hk,rfl,H2⟩:=hrel
  by_cases hlt:k < s.length
  · by_cases hok:(s[k].toNat:Int) < 97 ∨ 122 < (s[k].toNat:Int)
    · have HB:Hid (badNm s = true):=by
       simp only [Hid,badNm,Bool.or_eq_true,List.any_eq_true]
       exact .inl (.inl ⟨s[k]'hlt,List.getElem_mem hlt,by simpa using hok⟩)
      by_cases h97:(s[k].toNat:Int) < 97
      · clear hok
        go_wp2_with fail
        go_ret
        exact ⟨ret_bool HB.out.symm,rfl⟩
      · have h122:122 < (s[k].toNat:Int):=by omega
        clear hok
        go_wp2_with fail
        go_ret
        exact ⟨ret_bool HB.out.symm,rfl⟩
    · have h1:¬ (s[k].toNat:Int) < 97:=by omega
      have h2:¬ 122 < (s[k].toNat:Int):=by omega
      have HO:=hid hok
      clear hok
      go_wp2_with fail
      go_round
      case rel=>exact ⟨k + 1,by omega,by go_num,fun j hj h=>by rcases Nat.lt_succ_iff_lt_or_eq.1 h with h' | h';exact H2.out j hj h';subst h';exact HO.out⟩
      case measure=>simp [intOf];omega
  · have hs0:s.any (fun c=>decide ((c.toNat:Int) < 97) || decide (122 < (c.toNat:Int))) = false:=by
     rw [List.any_eq_false]
     intro c hc
     obtain ⟨j,hj,rfl⟩:=List.getElem_of_mem hc
     have:=H2.out j hj (by omega)
     simpa using this
    have HS:=hid hs0
    clear hs0
    by_cases h1:(s.length:Int) < 1
    · go_wp2_with fail
      go_ret
      exact ⟨ret_bool (by simp only [badNm,HS.out];simp [h1]),rfl⟩
    · go_wp2_with fail
      go_ret
      exact ⟨ret_bool (by simp only [badNm,HS.out];simp;omega),rfl⟩
theorem check_any (m:Nat):∀ (y:Fo) (d:Int) (a:Option Addr) (c:Nat) (S:Nat→Prop) (w:World),y.cnt < m→0 ≤ d→d ≤ 4→FSl S w (.slice a y.len c) y→(∀ b,S b→b < w.heap.size)→y.len ≤ 1000→y.Sm →
 Calls Tryz.prog 87 #[.slice a y.len c, .int .i64 d] w fun e w'=>e = .returned (.int .i64 (chkF d y))∧Below w.heap.size w w':=by
 induction m with
 | zero=>intro y _ _ _ _ _ h;omega
 | succ m ih=>
 intro y d a c S w hcnt h0 h9 hv hS hlen hsm
 obtain ⟨_,_,he,hc,hm,hat⟩:=hv.at
 cases he
 have IH:=hid ih
 clear ih
 unfold maxLen at hm
 go_enter Tryz.func87,Tryz.ntmps87
 go_wp2_with fail
 go_loopw [5] (fun i wr=>∃ (k:Nat) (p:Option Ky),k ≤ y.len∧i = .int .i64 k∧Hid (chkF d y = ordG nbefK d p (y.drop k))∧Hid ((k = 0∧p = none) ∨ 0 < k∧∃ n l s r,y.drop (k - 1) = .cons n l s r∧p = some (kyOf n l))∧Below w.heap.size w wr) (fun i _=>y.len - (intOf i).toNat)
 case atStart=>exact ⟨0,none,by omega,rfl,rfl, .inl ⟨rfl,rfl⟩,Below.refl _ _⟩
 case round=>
  obtain ⟨k,p,hk,rfl,H2,HP,hB⟩:=hrel
  have HAT:=hid hat
  clear hat
  by_cases hlt:k < y.len
  · obtain ⟨g,o,nm,l,s,r,an,cn,ab,cb,rfl,hg1,hd,hc0,hc1,hc2,hI,hF⟩:=HAT.out k hlt
    have ha:Agree S w wr:=Ag_b hB hS
    have c0:=ha.cell hg1 hc0
    have c1:=ha.cell hg1 hc1
    have c2:=ha.cell hg1 hc2
    obtain ⟨s1,s2,s3,s4,_⟩:nm.length ≤ 1000∧l.length ≤ 1000∧s.len ≤ 1000∧s.Sm∧r.Sm:=by have:=hsm.drop (i:=k);rwa [hd] at this
    have s5:=Fo.cnt_at hd
    have HD:=hid hd
    have hsz:=hB.size
    have hcap:=(SlC.caps hI).1
    have hcap2:=(SlC.caps hI).2.1
    clear hc0 hc1 hc2 hd
    have H3:Hid (chkF d y = ordG nbefK d p (.cons nm l s (y.drop (k + 1)))):=by
     rw [Hid,H2.out,HD.out,Fo.drop_succ HD.out]
    simp only [ordG] at H3
    have hBx:=hid (hB.alloc hsz (.cells #[.string (bs nm), .slice an l.length cn, .slice ab s.len cb] 97))
    by_cases t1:3 < d
    · have H4:=hid (H3.out.trans (if_pos t1))
      go_wp2_with fail
      go_ret
      exact ⟨ret_int H4.out.symm,hBx.out⟩
    · have H4:=hid (H3.out.trans (if_neg t1))
      clear H3
      cases t2:badNm nm with
      | true=>
        have H5:=hid (H4.out.trans (if_pos t2))
        have T2:=hid t2
        clear t2
        go_wp2_with (go_at_call 145;refine (badName_any _ _ (by omega)).mono ?_;rintro e w1 ⟨rfl,rfl⟩;rw [T2.out])
        go_ret
        exact ⟨ret_int H5.out.symm,hBx.out⟩
      | false=>
      have H5:=hid (H4.out.trans (if_neg (by rw [t2];simp)))
      have T2:=hid t2
      clear t2 H4
      by_cases t3:4 < (l.length:Int)
      · have H6:=hid (H5.out.trans (if_pos t3))
        go_wp2_with (go_at_call 145;refine (badName_any _ _ (by omega)).mono ?_;rintro e w1 ⟨rfl,rfl⟩;rw [T2.out])
        go_ret
        exact ⟨ret_int H6.out.symm,hBx.out⟩
      · have H6:=hid (H5.out.trans (if_neg t3))
        clear H5
        cases t4:badNs l with
        | true=>
          have H7:=hid (H6.out.trans (if_pos t4))
          have T4:=hid t4
          clear t4
          go_wp2_with (first | (go_at_call 145;refine (badName_any _ _ (by omega)).mono ?_;rintro e w1 ⟨rfl,rfl⟩;rw [T2.out]) | (go_at_call 147;refine (badNumbers_any l an cn S _ (hI.agree (Ag_b (B:=w.heap.size) hBx.out hS)) (by omega)).mono ?_;rintro e w1 ⟨rfl,rfl⟩;rw [T4.out]))
          go_ret
          exact ⟨ret_int H7.out.symm,hBx.out⟩
        | false=>
        have H7:=hid (H6.out.trans (if_neg (by rw [t4];simp)))
        have T4:=hid t4
        clear t4 H6
        go_wp2_with (first | (go_at_call 145;refine (badName_any _ _ (by omega)).mono ?_;rintro e w1 ⟨rfl,rfl⟩;rw [T2.out]) | (go_at_call 147;refine (badNumbers_any l an cn S _ (hI.agree (Ag_b (B:=w.heap.size) hBx.out hS)) (by omega)).mono ?_;rintro e w1 ⟨rfl,rfl⟩;rw [T4.out]))
        have hb0:∀ b,S b→b < (wr.alloc (.cells #[.string (bs nm), .slice an l.length cn, .slice ab s.len cb] 97)).heap.size:=fun b hb=>by have:=hS b hb;simp;omega
        have HS0:=hid hb0
        clear hb0
        by_cases t5:0 < (k:Int)
        · obtain ⟨g',o',nm',l',s',r',an',cn',ab',cb',he',hg1',hd',hc0',hc1',hc2',hI',hF'⟩:=HAT.out (k - 1) (by omega)
          cases he'
          have hp:p = some (kyOf nm' l'):=by
           rcases HP.out with ⟨h0,_⟩ | ⟨_,n2,l2,s2,r2,e1,e2⟩
           · omega
           · rw [hd'] at e1;cases e1;exact e2
          subst hp
          obtain ⟨p1,p2,_⟩:nm'.length ≤ 1000∧l'.length ≤ 1000∧s'.len ≤ 1000∧s'.Sm∧r'.Sm:=by have:=hsm.drop (i:=k - 1);rwa [hd'] at this
          have d0:=ha.cell hg1' hc0'
          have d1:=ha.cell hg1' hc1'
          have hgw:=hS _ hg1'
          clear hc0' hc1' hc2' hF' hd'
          simp only at H7
          have d2:wr.cell? ⟨wr.heap.size,2,none⟩ = none:=by simp [World.cell?]
          clear d2
          have tok1:True:=trivial
          have t5a:decide (0 < (k:Int)) = true:=decide_eq_true t5
          have t5b:decide (0 < k) = true:=decide_eq_true (by omega)
          have t5c:0 < k:=by omega
          have b1:(0:Int) ≤ (k:Int) - 1:=by omega
          have b2:(k:Int) - 1 < (y.len:Int):=by omega
          have b3:((k:Int) - 1).toNat = k - 1:=by omega
          have b5:(1:Int) ≤ (k:Int):=by omega
          have b6:(k:Int) ≤ (y.len:Int):=by omega
          have b7:1 ≤ k:=by omega
          have b4:IntKind.i64.wrap ((k:Int) - 1) = (k:Int) - 1:=IntWalk.i64_in _ (by omega)
          go_region_held3 (fun w'=>w'.cell? ⟨wr.heap.size,0,none⟩ = some (.string (bs nm))∧w'.cell? ⟨wr.heap.size,1,none⟩ = some (.slice an l.length cn)∧w'.cell? ⟨wr.heap.size,2,none⟩ = some (.slice ab s.len cb)∧w'.cell? ⟨g,o + (k - 1) * 3,none⟩ = some (.string (bs nm'))∧w'.cell? ⟨g,o + (k - 1) * 3 + 1,none⟩ = some (.slice an' l'.length cn'))
           (first | go_keep | (go_split_ands;exact ⟨bc_ hb1 (by simp) (by assumption),bc_ hb1 (by simp) (by assumption),bc_ hb1 (by simp) (by assumption),bc_ hb1 (by simp;omega) (by assumption),bc_ hb1 (by simp;omega) (by assumption)⟩) | (go_split_ands;have hlt2:=hb1.size;exact ⟨bc_ hb2 (by simp at hlt2;omega) (by assumption),bc_ hb2 (by simp at hlt2;omega) (by assumption),bc_ hb2 (by simp at hlt2;omega) (by assumption),bc_ hb2 (by simp at hlt2;omega) (by assumption),bc_ hb2 (by simp at hlt2;omega) (by assumption)⟩) | (go_split_ands;have hlt2:=hb1.size;have hlt3:=hb2.size;exact ⟨bc_ hb3 (by simp at hlt2;omega) (by assumption),bc_ hb3 (by simp at hlt2;omega) (by assumption),bc_ hb3 (by simp at hlt2;omega) (by assumption),bc_ hb3 (by simp at hlt2;omega) (by assumption),bc_ hb3 (by simp at hlt2;omega) (by assumption)⟩))
           (first
             | (go_at_call 107;have _t:=tok1;refine (KeyOf_any nm' l' an' cn' S _ (hI'.agree (Ag_b (B:=w.heap.size) hBx.out.drew hS)) ?_).mono ?_;(exact HS0.out);clear tok1;rintro e w1 ⟨rfl,hb1⟩)
             | (go_at_call 107;refine (KeyOf_any nm l an cn S _ (hI.agree (Ag_b (B:=w.heap.size) (hBx.out.drew.trans (hb1.mono (by simp;omega))) hS)) ?_).mono ?_;(intro b hb;have:=hS b hb;have:=hb1.size;simp at this;omega);rintro e w2 ⟨rfl,hb2⟩)
             | (go_at_call 108;refine (before_any (kyOf nm' l') (kyOf nm l) _).mono ?_;rintro e w3 ⟨rfl,hb3⟩))
          have HB3:Hid (Below w.heap.size w w3):=((hBx.out.drew.trans (hb1.mono (by simp;omega))).trans (hb2.mono (by have:=hb1.size;simp at this;omega))).trans (hb3.mono (by have:=hb1.size;have:=hb2.size;simp at *;omega))
          clear b1 b2 b3 b4 b5 b6 b7
          go_split_ands
          cases t6:befK (kyOf nm' l') (kyOf nm l) with
          | false=>
            have H8:=hid (H7.out.trans (if_pos (by unfold nbefK;rw [t6];rfl)))
            go_wp2_with fail
            go_ret
            exact ⟨ret_int H8.out.symm,HB3.out⟩
          | true=>
            have H8:=hid (H7.out.trans (if_neg (by unfold nbefK;rw [t6];simp)))
            by_cases t7:chkF (d + 1) s = 0
            · have H9:=hid (H8.out.trans (if_neg (show ¬ (ordG nbefK (d + 1) none s ≠ 0) from fun h=>h t7)))
              go_wp2_with fail
              refine (IH.out s (d + 1) ab cb S _ (by omega) (by omega) (by omega) (hF.agree (Ag_b (B:=w.heap.size) HB3.out hS)) ?_ s3 s4).mono ?_
              · intro b hb;have:=hS b hb;have:=HB3.out.size;(try simp at this ⊢);omega
              · rintro e w4 ⟨rfl,hb4⟩
                rw [t7]
                go_wp2_with fail
                go_roundw
                case rel=>exact ⟨k + 1,some (kyOf nm l),by omega,by go_num,H9.out, .inr ⟨by omega,nm,l,s,r,HD.out,rfl⟩,HB3.out.trans (hb4.mono HB3.out.size)⟩
                case measure=>simp [intOf];omega
            · have H9:=hid (H8.out.trans (if_pos (show (ordG nbefK (d + 1) none s ≠ 0) from t7)))
              have t8:(chkF (d + 1) s != 0) = true:=by simpa using t7
              clear t7
              go_wp2_with fail
              refine (IH.out s (d + 1) ab cb S _ (by omega) (by omega) (by omega) (hF.agree (Ag_b (B:=w.heap.size) HB3.out hS)) ?_ s3 s4).mono ?_
              · intro b hb;have:=hS b hb;have:=HB3.out.size;(try simp at this ⊢);omega
              · rintro e w4 ⟨rfl,hb4⟩
                go_wp2_with fail
                go_ret
                exact ⟨ret_int H9.out.symm,HB3.out.trans (hb4.mono HB3.out.size)⟩
        · have hp:p = none:=by
           rcases HP.out with ⟨_,h0⟩ | ⟨h0,_⟩
           · exact h0
           · omega
          subst hp
          simp only at H7
          have t5a:decide (0 < (k:Int)) = false:=decide_eq_false t5
          have t5b:decide (0 < k) = false:=decide_eq_false (by omega)
          have H8:=hid (H7.out.trans (if_neg (by simp)))
          go_quiet (fail)
          have HB3:=hid (below_drewN hBx.out nq)
          by_cases t7:chkF (d + 1) s = 0
          · have H9:=hid (H8.out.trans (if_neg (show ¬ (ordG nbefK (d + 1) none s ≠ 0) from fun h=>h t7)))
            go_wp2_with fail
            refine (IH.out s (d + 1) ab cb S _ (by omega) (by omega) (by omega) (hF.agree (Ag_b (B:=w.heap.size) HB3.out hS)) ?_ s3 s4).mono ?_
            · intro b hb;have:=hS b hb;have:=HB3.out.size;(try simp at this ⊢);omega
            · rintro e w4 ⟨rfl,hb4⟩
              rw [t7]
              go_wp2_with fail
              go_roundw
              case rel=>exact ⟨k + 1,some (kyOf nm l),by omega,by go_num,H9.out, .inr ⟨by omega,nm,l,s,r,HD.out,rfl⟩,HB3.out.trans (hb4.mono HB3.out.size)⟩
              case measure=>simp [intOf];omega
          · have H9:=hid (H8.out.trans (if_pos (show (ordG nbefK (d + 1) none s ≠ 0) from t7)))
            have t8:(chkF (d + 1) s != 0) = true:=by simpa using t7
            clear t7
            go_wp2_with fail
            refine (IH.out s (d + 1) ab cb S _ (by omega) (by omega) (by omega) (hF.agree (Ag_b (B:=w.heap.size) HB3.out hS)) ?_ s3 s4).mono ?_
            · intro b hb;have:=hS b hb;have:=HB3.out.size;(try simp at this ⊢);omega
            · rintro e w4 ⟨rfl,hb4⟩
              go_wp2_with fail
              go_ret
              exact ⟨ret_int H9.out.symm,HB3.out.trans (hb4.mono HB3.out.size)⟩
  · go_wp2_with fail
    go_ret
    obtain rfl:k = y.len:=by omega
    exact ⟨ret_int (by rw [H2.out,Fo.drop_len];rfl),hB⟩
end Go.Proofs.LF
namespace Go.Proofs.LF
open Go.RowKit
set_option maxHeartbeats 4000000
set_option maxRecDepth 100000
theorem Tryz.info85j:(Tryz.prog.info? 85).map (fun i=>(i.zero,i.size,i.bytes)) = some (some (.agg #[.string ByteArray.empty, .slice none 0 0, .slice none 0 0]),3,64):=by kernel_rfl
theorem ins_room (g n i cap:Nat) (cur:Array Value) (cs:List Value) (x y z:Value) (vb B:Nat) (w:World) (hi:i < n) (hbg:B ≤ g) (hg:w.heap[g]? = some (.cells cur 85 (0,0))) (hroom:n + 1 ≤ cap) (hcap:cap ≤ maxLen) (hcs:cur.size = cap * 3) (htk:cur.toList.take (n * 3) = cs)
 (hvb:w.heap[vb]? = some (.cells #[x,y,z] 85 (0,0))) (hne:vb ≠ g) (h1:∀ u ∈ cs,u.oneCell' = true) (h1v:∀ u ∈ [x,y,z],u.oneCell' = true) :
 Calls Tryz.prog 205 #[.slice (some ⟨g,0,none⟩) n cap, .int .i64 i, .slice (some ⟨vb,0,none⟩) 1 1] w (InsR (.slice (some ⟨g,0,none⟩) n cap) n i cs [x,y,z] B w):=by
 have hsz:(Tryz.prog.info? 85).map (·.size) = some 3:=by
  obtain ⟨i0,hi0,hz0,hz1,hz2⟩:=info_parts Tryz.info85j
  rw [hi0];simp [hz1]
 have hso:∀ W:World,(Go.sizeOf 85).run Tryz.prog W = .ok 3 W:=fun W=>by
  obtain ⟨i0,hi0,hz0,hz1,hz2⟩:=info_parts Tryz.info85j
  simp [Go.sizeOf,typeInfo,hi0,hz1]
 have hnews:∀ (j:Nat) (u:Value),[x,y,z][j]? = some u→∀ W:World,W.heap[vb]? = w.heap[vb]?→W.cell? ((⟨vb,0,none⟩:Addr).add j) = some u:=fun j u hj W hW=>
  World.news_of_block (w:=W) (cs:=#[x,y,z]) (t:=85) (fr:=(0,0)) (hW.trans hvb) j u hj
 have hcl:cs.length = n * 3:=by rw [← htk,List.length_take,Array.length_toList,hcs];omega
 have hdl:(cs.drop (i * 3)).length = 3 * (n - i):=by rw [List.length_drop,hcl];omega
 have hcl2:cur.toList.length = cap * 3:=by rw [Array.length_toList,hcs]
 have hov:∀ lb cb,(callFunc 240 #[.slice (some ⟨vb,0,none⟩) 1 1, .slice (some ⟨g,(i + 1) * 3,none⟩) lb cb]).run Tryz.prog w = .ok (.value (.bool false)) w:=fun lb cb=>by
  rw [run_callFunc_extern Tryz.func240 (by kernel_rfl) (by kernel_rfl) (by kernel_rfl) (e:=Extern.SlicesOverlaps.overlaps #[22,22] #[4]) (by kernel_rfl),
   Lib.run_overlaps_apart w 22 4 85 Tryz.underlying22 3 hso ⟨vb,0,none⟩ ⟨g,(i + 1) * 3,none⟩ 1 1 lb cb hne 85 85 3 (cap * 3) (by simp [World.shape?,hvb]) (by simp [World.shape?,hg,hcs]) (by omega) (by simp [World.frozen?,hvb]) (by simp [World.frozen?,hvb])]
  rfl
 unfold maxLen at hcap
 obtain ⟨c1,hc1⟩:∃ c1,c1 = cur.toList.take ((i + 1) * 3) ++ cs.drop (i * 3) ++ cur.toList.drop ((i + 1) * 3 + (cs.drop (i * 3)).length):=⟨_,rfl⟩
 obtain ⟨k1,k2,k3⟩:=ins_cells (news:=[x,y,z]) (k:=3) rfl htk hcl (Nat.le_of_lt hi) hroom hcl2 hc1
 have hcp1:∀ ty dc sc,(Builtin.copy_ #[22,22] ty #[.slice (some ⟨g,(i + 1) * 3,none⟩) (n - i) dc, .slice (some ⟨g,i * 3,none⟩) (n + 1 - i) sc]).run Tryz.prog w.drew = .ok (goInt (n - i:Nat)) (w.drew.setRow g c1.toArray):=fun ty dc sc=>by
  have:=run_copy_rowK (P:=Tryz.prog) w.drew 22 22 ty 85 3 g ((i + 1) * 3) (n - i) dc (n - i) ⟨g,i * 3,none⟩ (n + 1 - i) sc cur 85 (cs.drop (i * 3)) Tryz.underlying22 hsz hg (by simp only [Nat.min_def];split <;> omega) hdl
   (fun j v hj=>by
     rw [Addr.add_lit]
     rw [List.getElem?_drop,← htk,List.getElem?_take] at hj
     split at hj
     · have hgd:w.drew.heap[g]? = some (.cells cur 85 (0,0)):=hg
       simp only [World.cell?,hgd];simpa using hj
     · cases hj) (by rw [hdl,hcs];omega) (fun v hv=>h1 v (List.mem_of_mem_drop hv))
  rw [this,hc1]
 obtain ⟨W1,hW1⟩:∃ W1,w.drew.setRow g c1.toArray = W1:=⟨_,rfl⟩
 have hg1:W1.heap[g]? = some (.cells c1.toArray 85 (0,0)):=by rw [← hW1];exact setRow_at hg
 have hvb1:W1.heap[vb]? = w.heap[vb]?:=by rw [← hW1];exact setRow_other w.drew g vb _ (fun e=>hne e)
 have hcp2:∀ ty dc,(Builtin.copy_ #[22,22] ty #[.slice (some ⟨g,i * 3,none⟩) (n + 1 - i) dc, .slice (some ⟨vb,0,none⟩) 1 1]).run Tryz.prog W1 = .ok (goInt (1:Nat)) (W1.setRow g (c1.take (i * 3) ++ [x,y,z] ++ c1.drop (i * 3 + [x,y,z].length)).toArray):=fun ty dc=>by
  have:=run_copy_rowK (P:=Tryz.prog) W1 22 22 ty 85 3 g (i * 3) (n + 1 - i) dc 1 ⟨vb,0,none⟩ 1 1 c1.toArray 85 [x,y,z] Tryz.underlying22 hsz hg1 (by simp only [Nat.min_def];split <;> omega) rfl
   (fun j v hj=>hnews j v hj W1 hvb1) (by simp [k3];omega) h1v
  simpa using this
 rw [hW1] at hcp1
 obtain ⟨c2,hc2⟩:∃ c2,c1.take (i * 3) ++ [x,y,z] ++ c1.drop (i * 3 + [x,y,z].length) = c2:=⟨_,rfl⟩
 rw [hc2] at hcp2 k1 k2
 have hin:¬ ((i:Int) = (n:Int)):=by omega
 have hle:¬ ((cap:Int) < (n:Int) + (1:Int)):=by omega
 have hb1:(0:Int) ≤ (i:Int) + (1:Int):=by omega
 have hii:(i:Int) ≤ (n:Int):=by omega
 have htn:((i:Int) + (1:Int)).toNat = i + 1:=by omega
 have hb2:¬ (cap = i + 1):=by omega
 have hb3:(i:Int) ≤ (n:Int) + (1:Int):=by omega
 have hb4:¬ (cap = i):=by omega
 have hgrw:w.grownBy (W1.setRow g c2.toArray) (some g):=by
  rw [← hW1]
  refine ⟨rfl,rfl,rfl,by simp [World.setRow],fun k hk hne'=>?_⟩
  exact (setRow_other _ g k _ (fun e=>hne' (by rw [e]))).trans (setRow_other _ g k _ (fun e=>hne' (by rw [e])))
 have hg2:(W1.setRow g c2.toArray).heap[g]? = some (.cells c2.toArray 85 (0,0)):=setRow_at hg1
 have mixed:Tryz.prog.follows Departure.mixedOrders = true:=by kernel_rfl
 have hw1:IntKind.i64.wrap ((i:Int) + (1:Int)) = (i:Int) + (1:Int):=by rw [IntKind.wrap_i64];omega
 have hb5:¬ (i + 1 = cap):=by omega
 go_enter Tryz.func205,Tryz.ntmps205
 go_wp2_with (first | simp only [hov] | fail)
 go_region_law_o (refine step_copyRow rfl _ _ 22 22 rfl _ _ (by simp [Act.eval,Act.put]) (by simp [Act.eval,Act.put]) (hcp1 _ _ _) ?_)
 go_wp2_with (at_builtin;refine wpList_copyRow rfl _ _ 22 22 rfl _ _ rfl rfl (hcp2 _ _) ?_)
 go_ret
 exact ⟨some ⟨g,0,none⟩,cap,rfl,⟨by simp [hcl];omega, .inr ⟨g,cap,c2.toArray,rfl,hbg,hg2,hroom,by unfold maxLen;omega,by simpa using k2,by simpa using k1⟩⟩,hgrw,fun g' hg' => .inl hg'⟩
theorem ins_grow (g n i cap:Nat) (cur:Array Value) (cs:List Value) (x y z:Value) (vb B:Nat) (w:World) (hi:i < n) (hbg:B ≤ w.heap.size) (hg:w.heap[g]? = some (.cells cur 85 (0,0))) (hnc:n ≤ cap) (hroom:cap < n + 1) (hcs:cur.size = cap * 3) (htk:cur.toList.take (n * 3) = cs) (hn:n ≤ 1000)
 (hvb:w.heap[vb]? = some (.cells #[x,y,z] 85 (0,0))) (h1:∀ u ∈ cs,u.oneCell' = true) (h1v:∀ u ∈ [x,y,z],u.oneCell' = true) :
 Calls Tryz.prog 205 #[.slice (some ⟨g,0,none⟩) n cap, .int .i64 i, .slice (some ⟨vb,0,none⟩) 1 1] w (InsR (.slice (some ⟨g,0,none⟩) n cap) n i cs [x,y,z] B w):=by
 obtain ⟨i0,hi0,hz0,hz1,hz2⟩:=info_parts Tryz.info85j
 have hsz:(Tryz.prog.info? 85).map (·.size) = some 3:=by rw [hi0];simp [hz1]
 have hgw:g < w.heap.size:=(Array.getElem?_eq_some_iff.1 hg).1
 have hvw:vb < w.heap.size:=(Array.getElem?_eq_some_iff.1 hvb).1
 have hcl:cs.length = n * 3:=by rw [← htk,List.length_take,Array.length_toList,hcs];omega
 have hdl:(cs.drop (i * 3)).length = 3 * (n - i):=by rw [List.length_drop,hcl];omega
 have hcell:∀ (j:Nat) (u:Value),cs[j]? = some u→∀ W:World,W.heap[g]? = w.heap[g]?→W.cell? ⟨g,j,none⟩ = some u:=fun j u hj W hW=>by
  rw [← htk,List.getElem?_take] at hj
  split at hj
  · simp only [World.cell?,hW,hg];simpa using hj
  · cases hj
 have hold:(Builtin.firstCells i0.size i (.slice (some ⟨g,0,none⟩) i cap)).run Tryz.prog w.drew = .ok (cs.take (i * 3)).toArray w.drew:=by
  rw [hz1]
  exact run_firstCells_some w.drew 3 i ⟨g,0,none⟩ i cap (cs.take (i * 3)) (by rw [List.length_take];omega) (fun j v hj=>by
   rw [Addr.add_lit]
   rw [List.getElem?_take] at hj
   split at hj
   · rw [Nat.zero_add];exact hcell j v hj _ rfl
   · cases hj)
 obtain ⟨G,hG⟩:∃ G,G = grownCap w (n + 1) cap 85:=⟨_,rfl⟩
 obtain ⟨zs,hzs⟩:∃ zs:List Value,zs = (Builtin.zeroCells (Value.agg #[.string ByteArray.empty, .slice none 0 0, .slice none 0 0]).cells (n + 1 - i) ++ Builtin.zeroCells (Value.agg #[.string ByteArray.empty, .slice none 0 0, .slice none 0 0]).cells (G - (n + 1))).toList:=⟨_,rfl⟩
 have hGn:n + 1 ≤ G:=by rw [hG];exact grownCap_ge w _ _ _
 have hG63:G ≤ 9223372036854775807:=by
  have:=grownCap_le_maxLen w (n + 1) cap 85 (by unfold maxLen;omega)
  rw [← hG] at this
  unfold maxLen at this
  omega
 have hc3:(Value.agg #[.string ByteArray.empty, .slice none 0 0, .slice none 0 0]).cells.size = 3:=rfl
 have hzl:zs.length = (n + 1 - i) * 3 + (G - (n + 1)) * 3:=by
  rw [hzs,Array.length_toList,Array.size_append]
  simp only [Builtin.zeroCells,Array.size_map,Array.size_range,hc3]
 obtain ⟨r0,hr0⟩:∃ r0,r0 = cs.take (i * 3) ++ zs:=⟨_,rfl⟩
 have hrl:r0.length = G * 3:=by rw [hr0,List.length_append,List.length_take,hzl];omega
 obtain ⟨c1,hc1⟩:∃ c1,c1 = r0.take (i * 3) ++ [x,y,z] ++ r0.drop (i * 3 + [x,y,z].length):=⟨_,rfl⟩
 obtain ⟨k1,k2,k3⟩:=ins_cells2 (n:=n) (k:=3) rfl hcl (Nat.le_of_lt hi) hr0 (by rw [hzl];omega) hc1
 have hik:i + (n + 1 - i) = n + 1:=by omega
 have hrz:∀ ty,(Builtin.append_ #[22,3] ty #[.slice (some ⟨g,0,none⟩) i cap, .int .i64 ((n:Int) + (1:Int) - (i:Int))]).run Tryz.prog w = .ok (.slice (some ⟨w.heap.size,0,none⟩) (n + 1) G) (w.drew.alloc (.cells r0.toArray 85)):=fun ty=>by
  have h:=Lib.run_append_grow_zeros (P:=Tryz.prog) w 22 3 ty 85 i0 _ .i64 .i64 Tryz.underlying22 Tryz.underlying3 hi0 hz0 (some ⟨g,0,none⟩) i cap (cs.take (i * 3)) hold (n + 1 - i) (by omega) (by omega) (by omega) (by omega) (by rw [hz2];omega) (by rw [hz2,hik];exact growslice_fits hroom (by omega))
  rw [hik,← hG] at h
  rw [show (n:Int) + (1:Int) - (i:Int) = ((n + 1 - i:Nat):Int) by omega,h,hr0,hzs]
  refine congrArg (fun r=>Result.ok _ (w.drew.alloc (.cells r 85))) ?_
  apply Array.ext'
  simp
 obtain ⟨W1,hW1⟩:∃ W1,w.drew.alloc (.cells r0.toArray 85) = W1:=⟨_,rfl⟩
 have hn1:W1.heap[w.heap.size]? = some (.cells r0.toArray 85 (0,0)):=by rw [← hW1];exact heap_alloc_new w.drew _
 have hg1:W1.heap[g]? = w.heap[g]?:=by rw [← hW1];exact heap_alloc_old w.drew _ hgw
 have hv1:W1.heap[vb]? = w.heap[vb]?:=by rw [← hW1];exact heap_alloc_old w.drew _ hvw
 have hb1:Below w.heap.size w W1:=by rw [← hW1];exact (Below.refl _ _).drew.alloc (nl_ _) _
 rw [hW1] at hrz
 have hcp1:∀ (W:World),W.heap = W1.heap→∀ ty dc,(Builtin.copy_ #[22,22] ty #[.slice (some ⟨w.heap.size,i * 3,none⟩) (n + 1 - i) dc, .slice (some ⟨vb,0,none⟩) 1 1]).run Tryz.prog W = .ok (goInt (1:Nat)) (W.setRow w.heap.size c1.toArray):=fun W hW ty dc=>by
  have:=run_copy_rowK (P:=Tryz.prog) W 22 22 ty 85 3 w.heap.size (i * 3) (n + 1 - i) dc 1 ⟨vb,0,none⟩ 1 1 r0.toArray 85 [x,y,z] Tryz.underlying22 hsz (by rw [hW];exact hn1) (by simp only [Nat.min_def];split <;> omega) rfl
   (fun j v hj=>World.news_of_block (w:=W) (cs:=#[x,y,z]) (t:=85) (fr:=(0,0)) (by rw [hW,hv1];exact hvb) j v hj) (by simp [hrl];omega) h1v
  rw [this,hc1]
 obtain ⟨W2,hW2⟩:∃ W2,W1.setRow w.heap.size c1.toArray = W2:=⟨_,rfl⟩
 have hn2:W2.heap[w.heap.size]? = some (.cells c1.toArray 85 (0,0)):=by rw [← hW2];exact setRow_at hn1
 have hg2:W2.heap[g]? = w.heap[g]?:=by rw [← hW2];exact (setRow_other W1 _ g _ (by omega)).trans hg1
 have hb2:Below w.heap.size w W2:=by rw [← hW2];exact setRow_below hb1 (nl_ _) _
 have hcp2:∀ ty dc sc,(Builtin.copy_ #[22,22] ty #[.slice (some ⟨w.heap.size,(i + 1) * 3,none⟩) (n - i) dc, .slice (some ⟨g,i * 3,none⟩) (n - i) sc]).run Tryz.prog W2.drew = .ok (goInt (n - i:Nat)) (W2.drew.setRow w.heap.size (c1.take ((i + 1) * 3) ++ cs.drop (i * 3) ++ c1.drop ((i + 1) * 3 + (cs.drop (i * 3)).length)).toArray):=fun ty dc sc=>by
  have:=run_copy_rowK (P:=Tryz.prog) W2.drew 22 22 ty 85 3 w.heap.size ((i + 1) * 3) (n - i) dc (n - i) ⟨g,i * 3,none⟩ (n - i) sc c1.toArray 85 (cs.drop (i * 3)) Tryz.underlying22 hsz hn2 (Nat.min_self _).symm hdl
   (fun j v hj=>by
     rw [Addr.add_lit]
     rw [List.getElem?_drop] at hj
     exact hcell _ v hj W2.drew hg2) (by simp [k3,hrl];omega) (fun v hv=>h1 v (List.mem_of_mem_drop hv))
  simpa using this
 obtain ⟨c2,hc2⟩:∃ c2,c1.take ((i + 1) * 3) ++ cs.drop (i * 3) ++ c1.drop ((i + 1) * 3 + (cs.drop (i * 3)).length) = c2:=⟨_,rfl⟩
 rw [hc2] at hcp2 k1 k2
 have hn3:(W2.drew.setRow w.heap.size c2.toArray).heap[w.heap.size]? = some (.cells c2.toArray 85 (0,0)):=setRow_at hn2
 have hb3:Below w.heap.size w (W2.drew.setRow w.heap.size c2.toArray):=setRow_below hb2.drew (nl_ _) _
 have hin:¬ ((i:Int) = (n:Int)):=by omega
 have hlt:(cap:Int) < (n:Int) + (1:Int):=by omega
 have hb1:(0:Int) ≤ (i:Int) + (1:Int):=by omega
 have hii:(i:Int) ≤ (n:Int):=by omega
 have hic:(i:Int) ≤ (cap:Int):=by omega
 have htn:((i:Int) + (1:Int)).toNat = i + 1:=by omega
 have hb2':¬ (G = i + 1):=by omega
 have hb3':(i:Int) ≤ (n:Int) + (1:Int):=by omega
 have hb4:¬ (cap = i):=by omega
 have hb5:¬ (i + 1 = G):=by omega
 have hb6:¬ (G = i):=by omega
 have mixed:Tryz.prog.follows Departure.mixedOrders = true:=by kernel_rfl
 have hw1:IntKind.i64.wrap ((i:Int) + (1:Int)) = (i:Int) + (1:Int):=by rw [IntKind.wrap_i64];omega
 have hE:∀ W:World,W.drew.heap = W.heap:=fun _=>rfl
 clear hcell hold hG hzs hr0 hc1 hc2
 go_enter Tryz.func205,Tryz.ntmps205
 go_wp2_with (first
  | (at_builtin;refine Lib.wpList_append_run _ rfl _ _ _ _ rfl _ _ rfl rfl _ _ (hrz _) ?_)
  | (at_builtin;refine wpList_copyRow rfl _ _ 22 22 rfl _ _ rfl rfl (hcp1 _ rfl _ _) ?_))
 go_region_law_o (refine step_copyRow rfl _ _ 22 22 rfl _ _ (by simp [Act.eval,Act.put]) (by simp [Act.eval,Act.put]) (hcp2 _ _ _) ?_)
 go_wp2
 go_ret
 exact ⟨some ⟨w.heap.size,0,none⟩,G,rfl,⟨by simp [hcl];omega, .inr ⟨w.heap.size,G,c2.toArray,rfl,hbg,hn3,hGn,by unfold maxLen;omega,by simpa [hrl] using k2,by simpa using k1⟩⟩,⟨hb3.os,hb3.tape,hb3.output,hb3.size,fun k hk _=>hb3.block k hk⟩,fun g' hg' => .inr (by simpa [Value.ownBlock] using hg'.symm)⟩
theorem ins_any (v:Value) (n i:Nat) (cs:List Value) (x y z:Value) (vb B:Nat) (w:World) (hown:w.ownsRow B 85 3 v n cs) (hi:i ≤ n) (hvb:w.heap[vb]? = some (.cells #[x,y,z] 85 (0,0))) (hne:v.ownBlock ≠ some vb)
 (h1:∀ u ∈ cs,u.oneCell' = true) (h1v:∀ u ∈ [x,y,z],u.oneCell' = true) (hn:n ≤ 1000) (hB:B ≤ w.heap.size) :
 Calls Tryz.prog 205 #[v, .int .i64 i, .slice (some ⟨vb,0,none⟩) 1 1] w (InsR v n i cs [x,y,z] B w):=by
 by_cases hin:i = n
 · subst hin
   exact ins_end v i cs x y z vb B w hown hvb h1v hn hB
 · rcases hown.2 with ⟨rfl,rfl⟩ | ⟨g,cap,cur,rfl,hbg,hg,hnc,hcap,hcs,htk⟩
   · omega
   · by_cases hroom:n + 1 ≤ cap
     · exact ins_room g n i cap cur cs x y z vb B w (by omega) hbg hg hroom hcap hcs htk hvb (fun e=>hne (by rw [e];rfl)) h1 h1v
     · exact ins_grow g n i cap cur cs x y z vb B w (by omega) hB hg hnc (by omega) hcs htk hn hvb h1 h1v
end Go.Proofs.LF
namespace Go.Proofs.LF
open Go.RowKit
set_option maxHeartbeats 2000000
set_option maxRecDepth 100000
attribute [local go_sem] bs_toList bs_size bs_get
theorem ordered_any (m:Nat):∀ (y:Fo) (d:Int) (a:Option Addr) (c:Nat) (S:Nat→Prop) (w:World),y.cnt < m→0 ≤ d→d ≤ 4→FSl S w (.slice a y.len c) y→(∀ b,S b→b < w.heap.size)→y.len ≤ 1000→y.Sm →
 Calls Tryz.prog 95 #[.int .i64 d, .slice a y.len c] w fun e w'=>e = .returned (.int .i64 (ordF d y))∧Below w.heap.size w w':=by
 induction m with
 | zero=>intro y _ _ _ _ _ h;omega
 | succ m ih=>
 intro y d a c S w hcnt h0 h9 hv hS hlen hsm
 obtain ⟨_,_,he,hc,hm,hat⟩:=hv.at
 cases he
 have IH:=hid ih
 clear ih
 unfold maxLen at hm
 go_enter Tryz.func95,Tryz.ntmps95
 go_wp2_with fail
 go_loopw [10] (fun i wr=>∃ (k:Nat) (p:Option Ky),k ≤ y.len∧i = .int .i64 k∧Hid (ordF d y = ordG geK d p (y.drop k))∧Hid ((k = 0∧p = none) ∨ 0 < k∧∃ n l s r,y.drop (k - 1) = .cons n l s r∧p = some (kyOf n l))∧Below w.heap.size w wr) (fun i _=>y.len - (intOf i).toNat)
 case atStart=>exact ⟨0,none,by omega,rfl,rfl, .inl ⟨rfl,rfl⟩,Below.refl _ _⟩
 case round=>
  obtain ⟨k,p,hk,rfl,H2,HP,hB⟩:=hrel
  have HAT:=hid hat
  clear hat
  by_cases hlt:k < y.len
  · obtain ⟨g,o,nm,l,s,r,an,cn,ab,cb,rfl,hg1,hd,hc0,hc1,hc2,hI,hF⟩:=HAT.out k hlt
    have ha:Agree S w wr:=Ag_b hB hS
    have c0:=ha.cell hg1 hc0
    have c1:=ha.cell hg1 hc1
    have c2:=ha.cell hg1 hc2
    obtain ⟨s1,s2,s3,s4,_⟩:nm.length ≤ 1000∧l.length ≤ 1000∧s.len ≤ 1000∧s.Sm∧r.Sm:=by have:=hsm.drop (i:=k);rwa [hd] at this
    have s5:=Fo.cnt_at hd
    have HD:=hid hd
    have hsz:=hB.size
    have hcap:=(SlC.caps hI).1
    have hcap2:=(SlC.caps hI).2.1
    clear hc0 hc1 hc2 hd
    have H3:Hid (ordF d y = ordG geK d p (.cons nm l s (y.drop (k + 1)))):=by
     rw [Hid,H2.out,HD.out,Fo.drop_succ HD.out]
    simp only [ordG] at H3
    have hBx:=hid (hB.alloc hsz (.cells #[.string (bs nm), .slice an l.length cn, .slice ab s.len cb] 85))
    by_cases t1:3 < d
    · have H4:=hid (H3.out.trans (if_pos t1))
      go_wp2_with fail
      go_ret
      exact ⟨ret_int H4.out.symm,hBx.out⟩
    · have H4:=hid (H3.out.trans (if_neg t1))
      clear H3
      go_wp2_with fail
      refine (named_any nm _ (by omega)).mono ?_
      rintro e w1 ⟨rfl,hb1⟩
      have hlt1:=hb1.size
      simp only [World.size_alloc] at hlt1
      have x0:w1.cell? ⟨wr.heap.size,0,none⟩ = some (.string (bs nm)):=bc_ hb1 (by simp) (by simp)
      have x1:w1.cell? ⟨wr.heap.size,1,none⟩ = some (.slice an l.length cn):=bc_ hb1 (by simp) (by simp)
      have x2:w1.cell? ⟨wr.heap.size,2,none⟩ = some (.slice ab s.len cb):=bc_ hb1 (by simp) (by simp)
      have hB1:=hid (hBx.out.trans (hb1.mono (by simp;omega)))
      clear hb1 c0 c1 c2
      cases t2:badNm nm with
      | true=>
        have H5:=hid (H4.out.trans (if_pos t2))
        go_wp2_with fail
        go_ret
        exact ⟨ret_int H5.out.symm,hB1.out⟩
      | false=>
      have H5:=hid (H4.out.trans (if_neg (by rw [t2];simp)))
      clear H4
      by_cases t3:4 < (l.length:Int)
      · have H6:=hid (H5.out.trans (if_pos t3))
        go_wp2_with fail
        go_ret
        exact ⟨ret_int H6.out.symm,hB1.out⟩
      · have H6:=hid (H5.out.trans (if_neg t3))
        clear H5
        go_wp2_with fail
        refine (numbers_any l an cn S _ (hI.agree (Ag_b (B:=w.heap.size) hB1.out hS)) (fun b hb=>by have:=hS b hb;omega) (by omega)).mono ?_
        rintro e w2 ⟨rfl,hb2⟩
        have hlt2:=hb2.size
        have y0:=bc_ hb2 (by omega) x0
        have y1:=bc_ hb2 (by omega) x1
        have y2:=bc_ hb2 (by omega) x2
        have hB2:=hid (hB1.out.trans (hb2.mono (by omega)))
        clear hb2 x0 x1 x2
        cases t4:badNs l with
        | true=>
          have H7:=hid (H6.out.trans (if_pos t4))
          go_wp2_with fail
          go_ret
          exact ⟨ret_int H7.out.symm,hB2.out⟩
        | false=>
        have H7:=hid (H6.out.trans (if_neg (by rw [t4];simp)))
        clear H6
        go_wp2_with fail
        have HS0:Hid (∀ b,S b→b < w2.heap.size):=fun b hb=>by have:=hS b hb;omega
        have ha2:Agree S w w2:=Ag_b hB2.out hS
        by_cases t5:0 < (k:Int)
        · obtain ⟨g',o',nm',l',s',r',an',cn',ab',cb',he',hg1',hd',hc0',hc1',hc2',hI',hF'⟩:=HAT.out (k - 1) (by omega)
          cases he'
          have hp:p = some (kyOf nm' l'):=by
           rcases HP.out with ⟨h0,_⟩ | ⟨_,n2,l2,s2,r2,e1,e2⟩
           · omega
           · rw [hd'] at e1;cases e1;exact e2
          subst hp
          obtain ⟨p1,p2,_⟩:nm'.length ≤ 1000∧l'.length ≤ 1000∧s'.len ≤ 1000∧s'.Sm∧r'.Sm:=by have:=hsm.drop (i:=k - 1);rwa [hd'] at this
          have d0:=ha2.cell hg1' hc0'
          have d1:=ha2.cell hg1' hc1'
          have d2:=ha2.cell hg1' hc2'
          have hgw:g < w2.heap.size:=HS0.out _ hg1'
          clear hc0' hc1' hc2' hF' hd'
          simp only at H7
          have tok1:True:=trivial
          have t5a:decide (0 < (k:Int)) = true:=decide_eq_true t5
          have t5b:decide (0 < k) = true:=decide_eq_true (by omega)
          have t5c:0 < k:=by omega
          have b1:(0:Int) ≤ (k:Int) - 1:=by omega
          have b2:(k:Int) - 1 < (y.len:Int):=by omega
          have b3:((k:Int) - 1).toNat = k - 1:=by omega
          have b5:(1:Int) ≤ (k:Int):=by omega
          have b6:(k:Int) ≤ (y.len:Int):=by omega
          have b7:1 ≤ k:=by omega
          have b4:IntKind.i64.wrap ((k:Int) - 1) = (k:Int) - 1:=IntWalk.i64_in _ (by omega)
          go_region_held3 (fun w'=>w'.cell? ⟨wr.heap.size,0,none⟩ = some (.string (bs nm))∧w'.cell? ⟨wr.heap.size,1,none⟩ = some (.slice an l.length cn)∧w'.cell? ⟨wr.heap.size,2,none⟩ = some (.slice ab s.len cb)∧w'.cell? ⟨g,o + (k - 1) * 3,none⟩ = some (.string (bs nm'))∧w'.cell? ⟨g,o + (k - 1) * 3 + 1,none⟩ = some (.slice an' l'.length cn')∧w'.cell? ⟨g,o + (k - 1) * 3 + 2,none⟩ = some (.slice ab' s'.len cb'))
           (first | go_keep | (go_split_ands;exact ⟨bc_ hb3 (by simp;omega) (by assumption),bc_ hb3 (by simp;omega) (by assumption),bc_ hb3 (by simp;omega) (by assumption),bc_ hb3 (by simp;omega) (by assumption),bc_ hb3 (by simp;omega) (by assumption),bc_ hb3 (by simp;omega) (by assumption)⟩) | (go_split_ands;have hlt3:=hb3.size;exact ⟨bc_ hb4 (by simp at hlt3;omega) (by assumption),bc_ hb4 (by simp at hlt3;omega) (by assumption),bc_ hb4 (by simp at hlt3;omega) (by assumption),bc_ hb4 (by simp at hlt3;omega) (by assumption),bc_ hb4 (by simp at hlt3;omega) (by assumption),bc_ hb4 (by simp at hlt3;omega) (by assumption)⟩) | (go_split_ands;have hlt3:=hb3.size;have hlt4:=hb4.size;exact ⟨bc_ hb5 (by simp at hlt3;omega) (by assumption),bc_ hb5 (by simp at hlt3;omega) (by assumption),bc_ hb5 (by simp at hlt3;omega) (by assumption),bc_ hb5 (by simp at hlt3;omega) (by assumption),bc_ hb5 (by simp at hlt3;omega) (by assumption),bc_ hb5 (by simp at hlt3;omega) (by assumption)⟩))
           (first
             | (go_at_call 136;have _t:=tok1;refine (key_any nm' l' an' cn' _ S _ (hI'.agree (Ag_b (B:=w.heap.size) hB2.out.drew hS)) ?_ ab' s'.len cb' rfl).mono ?_;(exact HS0.out);clear tok1;rintro e w3 ⟨rfl,hb3⟩)
             | (go_at_call 136;refine (key_any nm l an cn _ S _ (hI.agree (Ag_b (B:=w.heap.size) (hB2.out.drew.trans (hb3.mono (by simp;omega))) hS)) ?_ ab s.len cb rfl).mono ?_;(intro b hb;have:=hS b hb;have:=hb3.size;simp at this;omega);rintro e w4 ⟨rfl,hb4⟩)
             | (go_at_call 183;refine (byKey_any (kyOf nm' l') (kyOf nm l) _).mono ?_;rintro e w5 ⟨rfl,hb5⟩))
          have HB3:Hid (Below w.heap.size w w5):=((hB2.out.drew.trans (hb3.mono (by simp;omega))).trans (hb4.mono (by have:=hb3.size;simp at this;omega))).trans (hb5.mono (by have:=hb3.size;have:=hb4.size;simp at *;omega))
          clear b1 b2 b3 b4 b5 b6 b7
          go_split_ands
          by_cases t6:0 ≤ byK (kyOf nm' l') (kyOf nm l)
          · have H8:=hid (H7.out.trans (if_pos (by unfold geK;simpa using t6)))
            go_wp2_with fail
            go_ret
            exact ⟨ret_int H8.out.symm,HB3.out⟩
          · have H8:=hid (H7.out.trans (if_neg (by unfold geK;simpa using t6)))
            by_cases t7:ordF (d + 1) s = 0
            · have H9:=hid (H8.out.trans (if_neg (show ¬ (ordG geK (d + 1) none s ≠ 0) from fun h=>h t7)))
              go_wp2_with fail
              refine (IH.out s (d + 1) ab cb S _ (by omega) (by omega) (by omega) (hF.agree (Ag_b (B:=w.heap.size) HB3.out hS)) ?_ s3 s4).mono ?_
              · intro b hb;have:=hS b hb;have:=HB3.out.size;(try simp at this ⊢);omega
              · rintro e w6 ⟨rfl,hb6⟩
                rw [t7]
                go_wp2_with fail
                go_roundw
                case rel=>exact ⟨k + 1,some (kyOf nm l),by omega,by go_num,H9.out, .inr ⟨by omega,nm,l,s,r,HD.out,rfl⟩,HB3.out.trans (hb6.mono HB3.out.size)⟩
                case measure=>simp [intOf];omega
            · have H9:=hid (H8.out.trans (if_pos (show (ordG geK (d + 1) none s ≠ 0) from t7)))
              have t8:(ordF (d + 1) s != 0) = true:=by simpa using t7
              clear t7
              go_wp2_with fail
              refine (IH.out s (d + 1) ab cb S _ (by omega) (by omega) (by omega) (hF.agree (Ag_b (B:=w.heap.size) HB3.out hS)) ?_ s3 s4).mono ?_
              · intro b hb;have:=hS b hb;have:=HB3.out.size;(try simp at this ⊢);omega
              · rintro e w6 ⟨rfl,hb6⟩
                go_wp2_with fail
                go_ret
                exact ⟨ret_int H9.out.symm,HB3.out.trans (hb6.mono HB3.out.size)⟩
        · have hp:p = none:=by
           rcases HP.out with ⟨_,h0⟩ | ⟨h0,_⟩
           · exact h0
           · omega
          subst hp
          simp only at H7
          have t5a:decide (0 < (k:Int)) = false:=decide_eq_false t5
          have t5b:decide (0 < k) = false:=decide_eq_false (by omega)
          have H8:=hid (H7.out.trans (if_neg (by simp)))
          go_quiet (fail)
          have HB3:=hid (below_drewN hB2.out nq)
          by_cases t7:ordF (d + 1) s = 0
          · have H9:=hid (H8.out.trans (if_neg (show ¬ (ordG geK (d + 1) none s ≠ 0) from fun h=>h t7)))
            go_wp2_with fail
            refine (IH.out s (d + 1) ab cb S _ (by omega) (by omega) (by omega) (hF.agree (Ag_b (B:=w.heap.size) HB3.out hS)) ?_ s3 s4).mono ?_
            · intro b hb;have:=hS b hb;have:=HB3.out.size;(try simp at this ⊢);omega
            · rintro e w6 ⟨rfl,hb6⟩
              rw [t7]
              go_wp2_with fail
              go_roundw
              case rel=>exact ⟨k + 1,some (kyOf nm l),by omega,by go_num,H9.out, .inr ⟨by omega,nm,l,s,r,HD.out,rfl⟩,HB3.out.trans (hb6.mono HB3.out.size)⟩
              case measure=>simp [intOf];omega
          · have H9:=hid (H8.out.trans (if_pos (show (ordG geK (d + 1) none s ≠ 0) from t7)))
            have t8:(ordF (d + 1) s != 0) = true:=by simpa using t7
            clear t7
            go_wp2_with fail
            refine (IH.out s (d + 1) ab cb S _ (by omega) (by omega) (by omega) (hF.agree (Ag_b (B:=w.heap.size) HB3.out hS)) ?_ s3 s4).mono ?_
            · intro b hb;have:=hS b hb;have:=HB3.out.size;(try simp at this ⊢);omega
            · rintro e w6 ⟨rfl,hb6⟩
              go_wp2_with fail
              go_ret
              exact ⟨ret_int H9.out.symm,HB3.out.trans (hb6.mono HB3.out.size)⟩
  · go_wp2_with fail
    go_ret
    obtain rfl:k = y.len:=by omega
    exact ⟨ret_int (by rw [H2.out,Fo.drop_len];rfl),hB⟩
end Go.Proofs.LF
namespace Go.Proofs.LF
open Go.RowKit
set_option maxHeartbeats 2000000
set_option maxRecDepth 100000
attribute [local go_sem] bs_toList bs_size bs_get
theorem Tryz.info71:(Tryz.prog.info? 71).map (fun i=>(i.zero,i.size,i.bytes)) = some (some (.agg #[.string ByteArray.empty, .bool false, .int .i64 0]),3,32):=by kernel_rfl
theorem Tryz.size71:(Tryz.prog.info? 71).map (·.size) = some 3:=by kernel_rfl
theorem with_any (p:List Ky) (k:Ky) (a:Option Addr) (c:Nat) (S:Nat→Prop) (w:World) (hv:Pth S w (.slice a p.length c) p) (hS:∀ b,S b→b < w.heap.size) (hlen:p.length ≤ 1000) :
 Calls Tryz.prog 180 #[.slice a p.length c, .agg #[.string (bs k.n), .bool k.h, .int .i64 k.x]] w fun e w'=>∃ a' c',e = .returned (.slice a' (p.length + 1) c')∧Pth (Rg w.heap.size w'.heap.size) w' (.slice a' (p.length + 1) c') (p ++ [k])∧Below w.heap.size w w':=by
 obtain ⟨i0,hi0,hz0,hz1,hz2⟩:=info_parts Tryz.info71
 have hcap:=SlC.caps hv
 have hmk0:∃ mc:Array Value,mc.size = (p.length + 1) * 3∧∀ W:World,(Instr.makeSlice 65 (.int .i64 (p.length:Int)) (.int .i64 ((p.length:Int) + 1))).run Tryz.prog W = .ok (.slice (some ⟨W.heap.size,0,none⟩) p.length (p.length + 1)) (W.alloc (.cells mc 71)):=
  ⟨_,by rw [madeCells_size,hz1],fun W=>run_makeK (P:=Tryz.prog) 65 71 i0 _ Tryz.underlying65 hi0 hz0 .i64 .i64 p.length (p.length + 1) (by omega) (by rw [hz2];omega) (by omega) W⟩
 obtain ⟨mc,hmc,hmk⟩:=hmk0
 have HZ:=hid hmc
 clear hmc
 have hfin:∀ (W w3:World) (v':Value),w3.ownsRow w.heap.size 71 3 v' (p.length + 1) (p.flatMap Ky.cells ++ [.string (bs k.n), .bool k.h, .int .i64 k.x])→W.grownBy w3 (some (w.heap.size + 1))→Below w.heap.size w W →
  ∃ a' c',(Ending.returned v' = .returned (.slice a' (p.length + 1) c'))∧Pth (Rg w.heap.size w3.heap.size) w3 (.slice a' (p.length + 1) c') (p ++ [k])∧Below w.heap.size w w3:=by
  intro W w3 v' hown hg hb
  have hs:=SlC.of_owns hown
  obtain ⟨a',c',rfl,_⟩:=hs.shape
  refine ⟨a',c',rfl,?_,hb.grown hg hb.size (fun j hj=>by cases hj;omega)⟩
  unfold Pth
  rw [List.length_append,List.flatMap_append]
  exact hs
 have HF:=hid hfin
 clear hfin
 go_enter Tryz.func180,Tryz.ntmps180
 go_wp2_with (first
  | (refine wpList_copyHead rfl (.tmp 12) (.tmp 13) 65 65 rfl 71 3 Tryz.underlying65 Tryz.size71 w.heap.size (w.heap.size + 1) p.length (p.length + 1) a c rfl rfl mc (by have:=heap_alloc_new (w.alloc (.cells #[.string (bs k.n), .bool k.h, .int .i64 k.x] 71)) (.cells mc 71);simpa using this) (by omega) (by omega) (by unfold maxLen;omega) HZ.out (p.flatMap Ky.cells) (len_keys p) hcap.2.2 (SlC.news hv (Ag_b (B:=w.heap.size) (((Below.refl _ _).alloc (nl_ _) _).alloc (by simp) _) hS)) (one_keys p) ?_;intro W hW1 hW2 hW3;have f0:=grown_cell hW2 (b:=w.heap.size) (o:=0) (by simp) (v := .string (bs k.n)) (by simp);have f1:=grown_cell hW2 (b:=w.heap.size) (o:=1) (by simp) (v := .bool k.h) (by simp);have f2:=grown_cell hW2 (b:=w.heap.size) (o:=2) (by simp) (v := .int .i64 k.x) (by simp);simp only [World.size_alloc] at hW3;have HW3:=hid hW3;clear hW3)
  | (at_builtin;go_loud (refine wpList_append_own _ rfl (.tmp 15) (.tmp 17) 65 rfl w.heap.size 71 i0 _ 3 32 Tryz.underlying65 hi0 hz0 hz1 hz2 rfl (by omega) (.slice (some ⟨w.heap.size + 1,0,none⟩) p.length (p.length + 1)) p.length (p.flatMap Ky.cells) rfl (hW1.alloc _) ⟨W.heap.size,0,none⟩ 1 1 [.string (bs k.n), .bool k.h, .int .i64 k.x] rfl rfl (World.news_of_block (cs:=#[.string (bs k.n), .bool k.h, .int .i64 k.x]) (t:=71) (fr:=(0,0)) (heap_alloc_new _ _)) (by simp [Value.oneCell']) (by unfold maxLen;omega) (by omega) (by have:=HW3.out;simp;omega) ?_);intro v' w3 hown3 hgrow3 _))
 go_ret
 refine HF.out _ w3 v' hown3 hgrow3 ?_
 exact ((((Below.refl _ _).alloc (nl_ _) _).alloc (by simp) _).grown hW2 (by simp;omega) (fun j hj=>by cases hj;omega)).alloc (by have:=HW3.out;omega) _
end Go.Proofs.LF
