/- Parts of the proof of a law of layer 11 (file): LfTnA, LfW29, LfW41. The conditions stand in each theorem. -/
import Derived.Test.YtadkpjgpefcphaaGreatDoorProg
import Derived.Test.YtadkpjgpefcphaaGreatDoorTnac
import Derived.Test.YtadkpjgpefcphaaGreatDoorTnae
import Derived.Test.YtadkpjgpefcphaaGreatDoorTnak
import Derived.Test.YtadkpjgpefcphaaGreatDoorTnal
import Derived.Test.YtadkpjgpefcphaaGreatDoorTnam
set_option linter.all false
set_option linter.unusedVariables false
set_option linter.unusedSimpArgs false
namespace Go.Proofs.LF
theorem runN_min {p:UInt8→Bool}:∀ (m:Nat) (l:List UInt8) (j:Nat),runN p m (l.take j) = min (runN p m l) j
 | 0,l,j=>by rw [runN_stop (.inl rfl),runN_stop (.inl rfl)];omega
 | m + 1,[],j=>by rw [List.take_nil,runN_stop (.inr rfl)];omega
 | m + 1,c :: l,0=>by rw [List.take_zero,runN_stop (.inr rfl)];omega
 | m + 1,c :: l,j + 1=>by
   rw [List.take_succ_cons]
   simp only [runN]
   split
   · rw [runN_min m l j];omega
   · omega
theorem digit_char {c:UInt8} (h:digitB c = true):UInt8.ofNat (48 + (c.toNat - 48)) = c:=by
 have:=digitB_iff.1 h
 rw [show 48 + (c.toNat - 48) = c.toNat by omega]
 simp
theorem decN_snoc (r:List UInt8) (c:UInt8):decN (r ++ [c]) = decN r * 10 + (c.toNat - 48):=by simp [decN,List.foldl_append]
theorem itoa_dec:∀ (m:Nat) (ds:List UInt8),ds.length ≤ m→(∀ c ∈ ds,digitB c = true)→ds ≠ []→(ds.head? = some 48→ds.length = 1)→Lib.decDigits (decN ds) = ds
 | 0,ds,h,_,h2,_=>absurd (List.eq_nil_of_length_eq_zero (by omega)) h2
 | m + 1,ds,h,h1,h2,h3=>by
   obtain ⟨r,c,rfl⟩:∃ r c,ds = r ++ [c]:=⟨ds.dropLast,ds.getLast h2,(List.dropLast_concat_getLast h2).symm⟩
   have hc:=h1 c (by simp)
   have hcd:=digitB_iff.1 hc
   by_cases hr:r = []
   · subst hr
     have e:decN ([] ++ [c]) = c.toNat - 48:=by simp [decN]
     rw [e,Lib.decDigits,dif_pos (by omega),digit_char hc]
     rfl
   · have hlen:2 ≤ (r ++ [c]).length:=by
      have:=List.length_pos_iff.2 hr
      simp;omega
     have hhd:r.head? ≠ some 48:=fun e=>by
      have:(r ++ [c]).head? = some 48:=by
       cases r with
       | nil=>exact absurd rfl hr
       | cons a t=>simpa using e
      have:=h3 this
      omega
     have ih:=itoa_dec m r (by simp at h;omega) (fun d hd=>h1 d (by simp [hd])) hr (fun e=>absurd e hhd)
     have hpos:decN r ≠ 0:=fun e=>by
      rw [e,Lib.decDigits,dif_pos (by omega)] at ih
      rw [← ih] at hhd
      exact hhd rfl
     rw [decN_snoc,Lib.decDigits,dif_neg (by omega),show (decN r * 10 + (c.toNat - 48)) / 10 = decN r by omega,show (decN r * 10 + (c.toNat - 48)) % 10 = c.toNat - 48 by omega,ih,digit_char hc]
theorem decN_lt:∀ (m:Nat) (ds:List UInt8),ds.length ≤ m→(∀ c ∈ ds,digitB c = true)→decN ds < 10 ^ m
 | 0,ds,h,_=>by rw [List.eq_nil_of_length_eq_zero (by omega:ds.length = 0)];simp [decN]
 | m + 1,ds,h,h1=>by
   by_cases h2:ds = []
   · subst h2;simp only [decN,List.foldl_nil];exact Nat.pos_of_ne_zero (by simp)
   obtain ⟨r,c,rfl⟩:∃ r c,ds = r ++ [c]:=⟨ds.dropLast,ds.getLast h2,(List.dropLast_concat_getLast h2).symm⟩
   have hcd:=digitB_iff.1 (h1 c (by simp))
   have ih:=decN_lt m r (by simp at h;omega) (fun d hd=>h1 d (by simp [hd]))
   rw [decN_snoc,Nat.pow_succ]
   omega
theorem blank1 {s:List UInt8} (h:runN blankB 1 s ≠ 0):∃ s1,s = 32 :: s1:=by
 cases s with
 | nil=>exact absurd (runN_stop (.inr rfl)) h
 | cons c s1=>
   simp only [runN] at h
   split at h
   · rename_i hb
     exact ⟨s1,by rw [show c = 32 by simpa [blankB] using hb]⟩
   · exact absurd rfl h
theorem rdNums_rev:∀ (m:Nat) (s:List UInt8),(rdNums m s).2.2 = true→s.take (rdNums m s).2.1 = ((rdNums m s).1.map fun i=>32 :: Lib.itoa i).flatten∧∀ x ∈ (rdNums m s).1,0 ≤ x∧x ≤ 9999
 | 0,s,_=>by simp [rdNums]
 | m + 1,s,h=>by
   rw [rdNums] at h ⊢
   dsimp only at h ⊢
   by_cases h0:runN blankB 1 s = 0
   · rw [if_pos h0];simp
   rw [if_neg h0] at h ⊢
   obtain ⟨s1,rfl⟩:=blank1 h0
   simp only [List.drop_succ_cons,List.drop_zero] at h ⊢
   obtain ⟨n,hn⟩:∃ n,runN digitB (mostD s1) s1 = n:=⟨_,rfl⟩
   rw [hn] at h ⊢
   by_cases hn0:n = 0
   · rw [if_pos hn0] at h;cases h
   rw [if_neg hn0] at h ⊢
   dsimp only at h ⊢
   obtain ⟨i1,i2⟩:=rdNums_rev m (s1.drop n) h
   have hle:=runN_le (p:=digitB) (m:=mostD s1) (l:=s1)
   rw [hn] at hle
   have hds:∀ c ∈ s1.take n,digitB c = true:=by rw [← hn];exact run_all
   have hm4:mostD s1 ≤ 4:=by unfold mostD;split <;> omega
   have hlt:(s1.take n).length = n:=by rw [List.length_take];omega
   have hdec:Lib.itoa ((decN (s1.take n):Nat):Int) = s1.take n:=by
    have:=itoa_dec n (s1.take n) (by omega) hds (fun e=>by rw [e] at hlt;simp at hlt;omega) (fun e=>by
     have:s1.head? = some 48:=by
      cases s1 with
      | nil=>simp at e
      | cons a t=>
        cases n with
        | zero=>exact absurd rfl hn0
        | succ n=>simpa using e
     rw [mostD,if_pos this] at hle
     omega)
    unfold Lib.itoa
    rw [if_neg (by omega),Int.toNat_natCast,this]
   constructor
   · rw [show 1 + n + (rdNums m (s1.drop n)).2.1 = (n + (rdNums m (s1.drop n)).2.1) + 1 by omega,List.take_succ_cons,List.take_add,i1,List.map_cons,List.flatten_cons,hdec]
     rfl
   · intro x hx
     rcases List.mem_cons.1 hx with rfl | hx
     · have:=decN_lt 4 (s1.take n) (by omega) hds
       exact ⟨by omega,by omega⟩
     · exact i2 x hx
theorem rdNums_cut:∀ (m:Nat) (s:List UInt8),rdNums m (s.take (rdNums m s).2.1) = rdNums m s
 | 0,s=>by simp [rdNums]
 | m + 1,s=>by
   obtain ⟨R,hR⟩:∃ R,rdNums (m + 1) s = R:=⟨_,rfl⟩
   rw [hR]
   have hR2:=hR
   rw [rdNums] at hR
   dsimp only at hR
   by_cases h0:runN blankB 1 s = 0
   · rw [if_pos h0] at hR
     subst hR
     simp [rdNums,runN_stop (p:=blankB) (m:=1) (l:=[]) (.inr rfl)]
   rw [if_neg h0] at hR
   obtain ⟨s1,rfl⟩:=blank1 h0
   simp only [List.drop_succ_cons,List.drop_zero] at hR
   obtain ⟨n,hn⟩:∃ n,runN digitB (mostD s1) s1 = n:=⟨_,rfl⟩
   rw [hn] at hR
   have hb:∀ l:List UInt8,runN blankB 1 (32 :: l) ≠ 0:=fun l=>by simp [runN,blankB]
   by_cases hn0:n = 0
   · rw [if_pos hn0] at hR
     subst hR
     rw [rdNums]
     simp [runN,blankB,runN_stop (p:=digitB) (m:=mostD []) (l:=[]) (.inr rfl)]
   rw [if_neg hn0] at hR
   obtain ⟨r,hr⟩:∃ r,rdNums m (s1.drop n) = r:=⟨_,rfl⟩
   have ih:=rdNums_cut m (s1.drop n)
   rw [hr] at ih hR
   subst hR
   have hle:=runN_le (p:=digitB) (m:=mostD s1) (l:=s1)
   rw [hn] at hle
   rw [show 1 + n + r.2.1 = (n + r.2.1) + 1 by omega,List.take_succ_cons,rdNums]
   simp only [List.drop_succ_cons,List.drop_zero]
   rw [if_neg (hb _)]
   have hmd:mostD (s1.take (n + r.2.1)) = mostD s1:=by
    unfold mostD
    cases s1 with
    | nil=>simp
    | cons a t=>
      rw [show n + r.2.1 = (n + r.2.1 - 1) + 1 by omega,List.take_succ_cons]
      simp
   have e1:runN digitB (mostD (s1.take (n + r.2.1))) (s1.take (n + r.2.1)) = n:=by rw [hmd,runN_min,hn];omega
   rw [e1,if_neg hn0,List.take_take,Nat.min_eq_left (by omega),List.drop_take,show n + r.2.1 - n = r.2.1 by omega,ih]
   simp only [Prod.mk.injEq,true_and,and_true]
   omega
theorem nums_no10:∀ (m:Nat) (s:List UInt8),(10:UInt8) ∉ s.take (rdNums m s).2.1
 | 0,s=>by simp [rdNums]
 | m + 1,s=>by
   rw [rdNums]
   dsimp only
   by_cases h0:runN blankB 1 s = 0
   · rw [if_pos h0];simp
   rw [if_neg h0]
   obtain ⟨s1,rfl⟩:=blank1 h0
   simp only [List.drop_succ_cons,List.drop_zero]
   have hda:=run_all (p:=digitB) (m:=mostD s1) (s:=s1)
   obtain ⟨n,hn⟩:∃ n,runN digitB (mostD s1) s1 = n:=⟨_,rfl⟩
   rw [hn] at hda ⊢
   by_cases hn0:n = 0
   · rw [if_pos hn0];simp
   rw [if_neg hn0]
   dsimp only
   rw [show 1 + n + (rdNums m (s1.drop n)).2.1 = (n + (rdNums m (s1.drop n)).2.1) + 1 by omega,List.take_succ_cons,List.take_add]
   simp only [List.mem_cons,List.mem_append,not_or]
   refine ⟨by decide,fun hc=>?_,nums_no10 m _⟩
   have:=hda _ hc
   simp [digitB,inB] at this
theorem smalls_ok {n:List UInt8} (h:∀ c ∈ n,smallB c = true) (h1:1 ≤ n.length) (h8:n.length ≤ 8):badNm n = false:=by
 simp only [badNm,Bool.or_eq_false_iff,List.any_eq_false,Bool.or_eq_true,decide_eq_true_eq,decide_eq_false_iff_not,not_or]
 refine ⟨⟨fun c hc=>?_,by omega⟩,by omega⟩
 have:=h c hc
 simp only [smallB,inB,Bool.and_eq_true,decide_eq_true_eq] at this
 omega
theorem take_blanks {dp:Nat} {s:List UInt8}:s.take (runN blankB dp s) = List.replicate (runN blankB dp s) 32:=by
 refine List.eq_replicate_iff.2 ⟨?_,fun c hc=>?_⟩
 · have:=runN_le (p:=blankB) (m:=dp) (l:=s)
   rw [List.length_take];omega
 · have:=run_all (p:=blankB) (m:=dp) (s:=s) c hc
   simpa [blankB] using this
theorem rdLine_rev {dp d c:Nat} {n:List UInt8} {l:List Int} {s:List UInt8} (h:rdLine dp s = (d,n,l,c,true)):d ≤ dp∧∀ (up:List Ky) (q:Fo),up.length = d→OkN ⟨up,n,l,q⟩∧(lineB ⟨up,n,l,q⟩).length = c + 1∧∃ R,s = lineB ⟨up,n,l,q⟩ ++ R:=by
 rw [rdLine] at h
 dsimp only at h
 have hle:=runN_le (p:=blankB) (m:=dp) (l:=s)
 have htb:=take_blanks (dp:=dp) (s:=s)
 obtain ⟨D,hD⟩:∃ D,runN blankB dp s = D:=⟨_,rfl⟩
 rw [hD] at h hle htb
 have hk:=runN_le (p:=smallB) (m:=8) (l:=s.drop D)
 have hka:=run_all (p:=smallB) (m:=8) (s:=s.drop D)
 obtain ⟨k,hk'⟩:∃ k,runN smallB 8 (s.drop D) = k:=⟨_,rfl⟩
 rw [hk'] at h hk hka
 by_cases hk0:k = 0
 · rw [if_pos hk0] at h;simp at h
 rw [if_neg hk0] at h
 simp only [Prod.mk.injEq,Bool.and_eq_true,beq_iff_eq] at h
 obtain ⟨h1,h2,h3,h4,h5,h6⟩:=h
 obtain ⟨r1,r2⟩:=rdNums_rev 4 ((s.drop D).drop k) h5
 have hr:=rdNums_le 4 ((s.drop D).drop k)
 obtain ⟨r,hr'⟩:∃ r,rdNums 4 ((s.drop D).drop k) = r:=⟨_,rfl⟩
 rw [hr'] at h3 h4 h5 h6 r1 r2 hr
 subst h1 h2 h3 h4
 refine ⟨hle.1,fun up q hup=>?_⟩
 have hn:((s.drop D).take k).length = k:=by rw [List.length_take];omega
 have hsp:s = List.replicate D 32 ++ ((s.drop D).take k ++ ((r.1.map fun i=>32 :: Lib.itoa i).flatten ++ 10 :: (s.drop D).drop (k + r.2.1 + 1))):=by
  have e3:(s.drop D).drop (k + r.2.1) = 10 :: (s.drop D).drop (k + r.2.1 + 1):=by
   cases hx:(s.drop D).drop (k + r.2.1) with
   | nil=>rw [hx] at h6;cases h6
   | cons a t=>
     rw [hx] at h6
     have:a = 10:=by simpa using h6
     rw [this]
     have e4:(s.drop D).drop (k + r.2.1 + 1) = t:=by rw [← List.drop_drop,hx];rfl
     rw [e4]
  rw [← e3,← r1,← List.drop_drop,List.take_append_drop,List.take_append_drop,← htb,List.take_append_drop]
 have hline:lineB ⟨up,(s.drop D).take k,r.1,q⟩ = List.replicate D 32 ++ ((s.drop D).take k ++ ((r.1.map fun i=>32 :: Lib.itoa i).flatten ++ [10])):=by
  simp only [lineB,join_words,hup,List.append_assoc]
 refine ⟨⟨smalls_ok hka (by rw [hn];omega) (by rw [hn];omega),hr.2,?_⟩,?_,(s.drop D).drop (k + r.2.1 + 1),?_⟩
 · simp only [badNs,List.any_eq_false,offB,Bool.or_eq_true,decide_eq_true_eq,not_or]
   intro x hx
   have:=r2 x hx
   omega
 · rw [hline,← r1]
   have hk2:=hk.2
   simp only [List.length_append,List.length_replicate,List.length_take,List.length_drop,List.length_cons,List.length_nil] at hr hk2 ⊢
   omega
 · rw [hline]
   refine hsp.trans ?_
   simp
theorem rdLine_cut {dp d c:Nat} {n:List UInt8} {l:List Int} {s:List UInt8} (h:rdLine dp s = (d,n,l,c,false)):(∃ d' n' l',rdLine dp (s.take c) = (d',n',l',c,false))∧(10:UInt8) ∉ s.take c∧c ≤ s.length:=by
 have hcl:=(rdLine_le dp s).2.1
 rw [h] at hcl
 rw [rdLine] at h
 dsimp only at h
 have hle:=runN_le (p:=blankB) (m:=dp) (l:=s)
 have hba:=run_all (p:=blankB) (m:=dp) (s:=s)
 have hmin:=fun j=>runN_min (p:=blankB) dp s j
 obtain ⟨D,hD⟩:∃ D,runN blankB dp s = D:=⟨_,rfl⟩
 rw [hD] at h hle hba
 simp only [hD] at hmin
 have hb10:(10:UInt8) ∉ s.take D:=fun hc=>by have:=hba _ hc;simp [blankB] at this
 have hk:=runN_le (p:=smallB) (m:=8) (l:=s.drop D)
 have hka:=run_all (p:=smallB) (m:=8) (s:=s.drop D)
 have hkm:=fun j=>runN_min (p:=smallB) 8 (s.drop D) j
 obtain ⟨k,hk'⟩:∃ k,runN smallB 8 (s.drop D) = k:=⟨_,rfl⟩
 rw [hk'] at h hk hka
 simp only [hk'] at hkm
 have hs10:(10:UInt8) ∉ (s.drop D).take k:=fun hc=>by have:=hka _ hc;simp [smallB,inB] at this
 by_cases hk0:k = 0
 · rw [if_pos hk0] at h
   simp only [Prod.mk.injEq] at h
   obtain ⟨rfl,rfl,rfl,rfl,_⟩:=h
   refine ⟨⟨D,[],[],?_⟩,hb10,hcl⟩
   rw [rdLine]
   dsimp only
   rw [hmin,Nat.min_self,List.drop_take,Nat.sub_self,List.take_zero,if_pos (runN_stop (.inr rfl))]
 rw [if_neg hk0] at h
 obtain ⟨r,hr'⟩:∃ r,rdNums 4 ((s.drop D).drop k) = r:=⟨_,rfl⟩
 have hcut:=rdNums_cut 4 ((s.drop D).drop k)
 have h10:=nums_no10 4 ((s.drop D).drop k)
 rw [hr'] at h hcut h10
 simp only [Prod.mk.injEq] at h
 obtain ⟨rfl,rfl,rfl,rfl,h5⟩:=h
 have e1:(s.take (D + k + r.2.1)).drop D = (s.drop D).take (k + r.2.1):=by rw [List.drop_take];congr 1;omega
 have e2:((s.drop D).take (k + r.2.1)).drop k = ((s.drop D).drop k).take r.2.1:=by rw [List.drop_take];congr 1;omega
 refine ⟨⟨D,(s.drop D).take k,r.1,?_⟩,?_,hcl⟩
 · rw [rdLine]
   dsimp only
   rw [hmin,Nat.min_eq_left (by omega),e1,hkm,Nat.min_eq_left (by omega),if_neg hk0,e2,hcut,List.take_take,Nat.min_eq_left (by omega)]
   simp only [Prod.mk.injEq,true_and,Bool.and_eq_false_iff]
   right
   rw [List.drop_eq_nil_of_le (by rw [List.length_take];omega)]
   rfl
 · have e3:s.take (D + k + r.2.1) = s.take D ++ ((s.drop D).take k ++ ((s.drop D).drop k).take r.2.1):=by
    rw [Nat.add_assoc,List.take_add,List.take_add]
   rw [e3]
   simp only [List.mem_append,not_or]
   exact ⟨hb10,hs10,h10⟩
theorem rdLine_blanks {dp c:Nat} (h:c ≤ dp):∃ d n l,rdLine dp (List.replicate c 32) = (d,n,l,c,false):=by
 have h1:runN blankB dp (List.replicate c 32) = c:=by
  have:=runN_app (p:=blankB) (a:=List.replicate c 32) (b:=[]) (m:=dp) (fun d hd=>by rw [List.eq_of_mem_replicate hd];decide) (by simpa using h) (.inr (by simp))
  simpa using this
 refine ⟨c,[],[],?_⟩
 rw [rdLine]
 dsimp only
 rw [h1,List.drop_eq_nil_of_le (by simp),if_pos (runN_stop (.inr rfl))]
end Go.Proofs.LF
namespace Go.Proofs.LF
open Go.RowKit Go.Sort
set_option maxHeartbeats 4000000
set_option maxRecDepth 100000
attribute [local go_sem] bs_toList bs_size bs_get
theorem ret118 {tmps:Array Value} {W:World} {b:Nat} {x y t5:Value} (h:W.heap[b]? = some (.cells #[x,y] 171 (0,0))) (h2:tmps.getD 4 undef = .pointer (some ⟨b,0,none⟩)) (h3:tmps.getD 5 undef = t5) :
 (results Tryz.f118 tmps).run Tryz.prog W = .ok (.tuple #[.agg #[x,y],t5]) W:=by
 have h0:=cg_ h (k:=0) rfl
 have h1:=cg_ h (k:=1) rfl
 rw [results_cell_tmp rfl,h2,h3]
 simp [go_sem,h0,h1]
theorem nil_pth (S:Nat→Prop) (w:World):Pth S w (.slice none 0 0) []:=⟨rfl,none,0,rfl,nl_ _,by simp [maxLen],fun _=>rfl, .inl rfl⟩
theorem nil_ints (S:Nat→Prop) (w:World):Ints S w (.slice none 0 0) []:=⟨rfl,none,0,rfl,nl_ _,by simp [maxLen],fun _=>rfl, .inl rfl⟩
def FndR (l:List Fl) (p:List Ky) (S:Nat→Prop) (w:World) (e:Ending) (w':World):Prop:=
 ∃ ap cp an cn,e = .returned (.tuple #[.agg #[.slice ap ((fnd l p).getD fl0).p.length cp, .slice an ((fnd l p).getD fl0).l.length cn], .bool (fnd l p).isSome]) ∧
  Pth S w' (.slice ap ((fnd l p).getD fl0).p.length cp) ((fnd l p).getD fl0).p∧Ints S w' (.slice an ((fnd l p).getD fl0).l.length cn) ((fnd l p).getD fl0).l∧Below w.heap.size w w'
theorem find_any (l:List Fl) (p:List Ky) (al ap:Option Addr) (cl cp:Nat) (S T:Nat→Prop) (w:World) (hv:FlSl S w (.slice al l.length cl) l) (hS:∀ b,S b→b < w.heap.size) (hp:Pth T w (.slice ap p.length cp) p) (hT:∀ b,T b→b < w.heap.size)
 (hl:l.length ≤ 1000) (hsm:SmF l) (lp:p.length ≤ 1000) :
 Calls Tryz.prog 118 #[.slice al l.length cl, .slice ap p.length cp] w (FndR l p S w):=by
 have hb1:Below w.heap.size w (w.alloc (.cells #[.slice none 0 0, .slice none 0 0] 171)):=(Below.refl _ _).alloc (nl_ _) _
 have H:=hid (bsearch_any l p al ap cl cp S T (w.alloc (.cells #[.slice none 0 0, .slice none 0 0] 171)) (LSl.agree hv (Ag_b hb1 hS)) (fun b hb=>by have:=hS b hb;simp;omega) (hp.agree (Ag_b hb1 hT)) (fun b hb=>by have:=hT b hb;simp;omega) hl hsm lp)
 obtain ⟨a',c',he,hc,hcm,hat⟩:=hv.at
 obtain ⟨rfl,rfl⟩:al = a'∧cl = c':=by cases he;exact ⟨rfl,rfl⟩
 have HAT:=hid hat
 have HS:=hid hS
 have HB1:=hid hb1
 clear hat he hv hp hb1 hS
 unfold maxLen at hcm
 go_enter Tryz.func118,Tryz.ntmps118
 go_wp2_with fail
 refine H.out.mono ?_
 rintro e w2 ⟨rfl,hb2⟩
 have hres:=(hb2.block w.heap.size (by simp)).trans (heap_alloc_new _ _)
 have HRS:=hid hres
 have r0:=cg_ hres (k:=0) rfl
 have r1:=cg_ hres (k:=1) rfl
 have f0:=cells_frz hres (k:=0)
 have f1:=cells_frz hres (k:=1)
 have HB2:=hid (HB1.out.trans (hb2.mono (by simp)))
 clear hres hb2
 obtain ⟨i,hi⟩:∃ i,fndI l p = i:=⟨_,rfl⟩
 by_cases hf:i < l.length∧cmpP (l.getD i fl0).p p = 0
 · have hfd:(decide (fndI l p < l.length) && decide (cmpP (l.getD (fndI l p) fl0).p p = 0)) = true:=by rw [hi];simp only [hf.1,hf.2,decide_true,Bool.and_self]
   have hil:=hf.1
   have hg:l.getD i fl0 = l[i]:=by simp [List.getD_eq_getElem?_getD,hil]
   have hfn:fnd l p = some l[i]:=by
    unfold fnd
    rw [hi,List.getElem?_eq_getElem hil]
    simp only
    rw [if_pos (by rw [← hg];exact hf.2)]
   have HFN:=hid hfn
   have hil':(i:Int) < (l.length:Int):=by omega
   have hi0:(0:Int) ≤ (i:Int):=by omega
   obtain ⟨g,o,cs1,rfl,hgS,⟨ap2,cp2,an,cn,rfl,hP,hI⟩,hcell⟩:=HAT.out i hil
   have ha:Agree S w w2:=Ag_b HB2.out HS.out
   have c0:=ha.cell hgS (hcell 0 _ rfl)
   have c1:=ha.cell hgS (hcell 1 _ rfl)
   rw [Nat.add_zero] at c0
   rw [← Nat.add_assoc] at c1
   rw [hfd,hi]
   have HA:=hid ha
   have HP:=hid hP
   have HI:=hid hI
   clear hf hfd hg hfn hcell hi ha hP hI
   go_wp2_with fail
   refine bodyPost_ret (v := .tuple #[.agg #[.slice ap2 l[i].p.length cp2, .slice an l[i].l.length cn], .bool true]) (ret118 (res_set HRS.out) rfl rfl) rfl ?_
   have hfar:Agree S w2 ((w2.setCell ⟨w.heap.size,0,none⟩ (.slice ap2 l[i].p.length cp2)).setCell ⟨w.heap.size,1,none⟩ (.slice an l[i].l.length cn)):=fun b hb=>by
    have:b ≠ w.heap.size:=by have:=HS.out b hb;omega
    rw [Below.heap_setCell _ _ _ _ this,Below.heap_setCell _ _ _ _ this]
   refine ⟨ap2,cp2,an,cn,by rw [HFN.out];rfl,?_,?_,Below.setCell (Below.setCell HB2.out (p:=⟨w.heap.size,0,none⟩) (nl_ _) _) (p:=⟨w.heap.size,1,none⟩) (nl_ _) _⟩
   · rw [HFN.out];exact (HP.out.agree HA.out).agree hfar
   · rw [HFN.out];exact (HI.out.agree HA.out).agree hfar
 · have hfd:(decide (fndI l p < l.length) && decide (cmpP (l.getD (fndI l p) fl0).p p = 0)) = false:=by rw [hi];simpa using hf
   have hfn:fnd l p = none:=by
    unfold fnd
    rw [hi]
    by_cases hil:i < l.length
    · have hg:l.getD i fl0 = l[i]:=by simp [List.getD_eq_getElem?_getD,hil]
      rw [List.getElem?_eq_getElem hil]
      simp only
      rw [if_neg (fun e=>hf ⟨hil,by rw [hg];exact e⟩)]
    · rw [List.getElem?_eq_none (by omega)]
   have HFN:=hid hfn
   rw [hfd]
   clear hf hfd hfn hi
   go_wp2_with fail
   refine bodyPost_ret (v := .tuple #[.agg #[.slice none 0 0, .slice none 0 0], .bool false]) (ret118 (res_set HRS.out) rfl rfl) rfl ?_
   refine ⟨none,0,none,0,by rw [HFN.out];rfl,?_,?_,Below.setCell (Below.setCell HB2.out (p:=⟨w.heap.size,0,none⟩) (nl_ _) _) (p:=⟨w.heap.size,1,none⟩) (nl_ _) _⟩
   · rw [HFN.out];exact nil_pth _ _
   · rw [HFN.out];exact nil_ints _ _
end Go.Proofs.LF
namespace Go.Proofs.LF
open Go.RowKit Go.Sort
set_option maxHeartbeats 4000000
set_option maxRecDepth 100000
attribute [local go_sem] bs_toList bs_size bs_get
theorem set3_row {w:World} {g o:Nat} {cur:Array Value} {t:TypeId} {x y z:Value} (hg:w.heap[g]? = some (.cells cur t (0,0))) :
 (((w.setCell ⟨g,o,none⟩ x).setCell ⟨g,o + 1,none⟩ y).setCell ⟨g,o + 2,none⟩ z).heap[g]? = some (.cells (((cur.setIfInBounds o x).setIfInBounds (o + 1) y).setIfInBounds (o + 2) z) t (0,0)):=by
 simp [World.setCell,Array.getElem?_modify,hg]
theorem set3_other {w:World} {g o b:Nat} {x y z:Value} (h:b ≠ g):(((w.setCell ⟨g,o,none⟩ x).setCell ⟨g,o + 1,none⟩ y).setCell ⟨g,o + 2,none⟩ z).heap[b]? = w.heap[b]?:=by
 rw [Below.heap_setCell _ _ _ _ h,Below.heap_setCell _ _ _ _ h,Below.heap_setCell _ _ _ _ h]
theorem set3_list {cs:List Value} {i:Nat} {x y z:Value} (h:i * 3 + 3 ≤ cs.length):((cs.set (i * 3) x).set (i * 3 + 1) y).set (i * 3 + 2) z = cs.take (i * 3) ++ ([x,y,z] ++ cs.drop ((i + 1) * 3)):=by
 apply List.ext_getElem?
 intro j
 have e:(i + 1) * 3 = i * 3 + 3:=by omega
 rw [e]
 simp only [List.getElem?_set,List.getElem?_append,List.length_take,List.getElem?_take,List.length_set]
 have hm:min (i * 3) cs.length = i * 3:=by omega
 rw [hm]
 by_cases h1:j < i * 3
 · simp only [h1,if_true]
   rw [if_neg (by omega),if_neg (by omega),if_neg (by omega)]
 · simp only [h1,if_false]
   by_cases h2:j < i * 3 + 3
   · obtain h3 | h3 | h3:j = i * 3 ∨ j = i * 3 + 1 ∨ j = i * 3 + 2:=by omega
     all_goals subst h3
     · rw [if_neg (by omega),if_neg (by omega),if_pos rfl,if_pos (by omega)];simp
     · rw [if_neg (by omega),if_pos rfl,if_pos (by omega)];simp
     · rw [if_pos rfl,if_pos (by omega)];simp
   · rw [if_neg (by omega),if_neg (by omega),if_neg (by omega),if_neg (by simp;omega)]
     simp only [List.length_cons,List.length_nil,List.getElem?_drop]
     congr 1;omega
theorem owns_set3 {w:World} {B g n c i:Nat} {cs:List Value} {x y z:Value} (h:w.ownsRow B 85 3 (.slice (some ⟨g,0,none⟩) n c) n cs) (hi:i < n) :
 (((w.setCell ⟨g,i * 3,none⟩ x).setCell ⟨g,i * 3 + 1,none⟩ y).setCell ⟨g,i * 3 + 2,none⟩ z).ownsRow B 85 3 (.slice (some ⟨g,0,none⟩) n c) n (cs.take (i * 3) ++ ([x,y,z] ++ cs.drop ((i + 1) * 3))):=by
 obtain ⟨h1,⟨h0,_⟩ | ⟨g',cap,cur,he,hbg,hg,hnc,hcap,hcs,htk⟩⟩:=h
 · cases h0
 · cases he
   refine ⟨by simp only [List.length_append,List.length_take,List.length_drop,List.length_cons,List.length_nil,h1];omega, .inr ⟨g,c,_,rfl,hbg,set3_row hg,hnc,hcap,by simpa using hcs,?_⟩⟩
   rw [← set3_list (by omega),← htk]
   simp only [Array.toList_setIfInBounds,List.take_set]
theorem FOCs.ones {E:TypeId} {S:Nat→Prop} {w:World} {y:Fo} {cs:List Value} (h:FOCs E S w y cs):∀ u ∈ cs,u.oneCell' = true:=by
 have key:∀ {y:Fo} {S:Nat→Prop} {cs:List Value},FCs S w y cs→∀ u ∈ cs,u.oneCell' = true:=by
  intro y
  induction y with
  | nil=>intro S cs h;rw [show cs = [] from h];simp
  | cons n l s r _ ihr=>
    rintro S cs ⟨vn,vs,cs',rfl,hI,⟨ds,hs,_⟩,hr⟩ u hu
    obtain ⟨an,cn,rfl,_⟩:=SlC.shape hI
    obtain ⟨ab,cb,rfl,_⟩:=SlC.shape hs
    simp only [List.mem_cons] at hu
    rcases hu with rfl | rfl | rfl | hu
    · rfl
    · rfl
    · rfl
    · exact ihr hr u hu
 exact key h.fcs
def PutR (v:Value) (n:List UInt8) (l:List Int) (s y:Fo) (S T:Nat→Prop) (w:World) (e:Ending) (w':World):Prop:=
 ∃ a c,e = .returned (.slice a (putN n l s y).len c)∧FOw 85 (fun b=>S b ∨ T b ∨ Rg w.heap.size w'.heap.size b) w' (.slice a (putN n l s y).len c) (putN n l s y)∧w.grownBy w' (Value.ownBlock v)
theorem put_any (y s:Fo) (n:List UInt8) (l:List Int) (an ab av:Option Addr) (cn cb cv:Nat) (S T:Nat→Prop) (w:World) (hv:FOw 85 S w (.slice av y.len cv) y) (hn:FOCs 85 T w (.cons n l s .nil) [.string (bs n), .slice an l.length cn, .slice ab s.len cb])
 (hd:∀ b,S b→¬ T b) (hS:∀ b,S b→b < w.heap.size) (hT:∀ b,T b→b < w.heap.size) (hlen:y.len ≤ 1000) (hll:l.length ≤ 1000) :
 Calls Tryz.prog 137 #[.slice av y.len cv, .agg #[.string (bs n), .slice an l.length cn, .slice ab s.len cb]] w (PutR (.slice av y.len cv) n l s y S T w):=by
 obtain ⟨W,hW⟩:∃ W,W = w.alloc (.cells #[.string (bs n), .slice an l.length cn, .slice ab s.len cb] 85):=⟨_,rfl⟩
 have hb:Below w.heap.size w W:=by rw [hW];exact (Below.refl _ _).alloc (nl_ _) _
 have hWs:W.heap.size = w.heap.size + 1:=by rw [hW];simp
 have hnew:W.heap[w.heap.size]? = some (.cells #[.string (bs n), .slice an l.length cn, .slice ab s.len cb] 85 (0,0)):=by rw [hW];exact heap_alloc_new _ _
 have hI:Ints T w (.slice an l.length cn) l:=by
  obtain ⟨vn,vs,cs',S1,S2,S3,he,hsub,_,_,_,hI,_⟩:=hn
  have he2:Value.slice an l.length cn = vn∧Value.slice ab s.len cb = vs∧cs' = []:=by simpa using he
  obtain ⟨rfl,_,_⟩:=he2
  exact Ints.wide hI fun b h=>hsub b (.inl h.1)
 have HI:=hid hI
 have HV:=hid hv
 have HN:=hid hn
 have HD:=hid hd
 have HS:=hid hS
 have HT:=hid hT
 have HB:=hid hb
 have HNEW:=hid hnew
 clear hI hv hn hd hS hT hnew hb
 obtain ⟨i,hi⟩:∃ i,fndN y (kyOf n l) = i:=⟨_,rfl⟩
 go_enter Tryz.func137,Tryz.ntmps137
 go_wp2_with fail
 rw [← hW]
 refine (key_any n l an cn (.slice ab s.len cb) T W (HI.out.agree (Ag_b HB.out HT.out)) (fun b hb=>by have:=HT.out b hb;omega) ab s.len cb rfl).mono ?_
 rintro e w1 ⟨rfl,hb1⟩
 have HB1:=hid (HB.out.trans (hb1.mono (by omega)))
 have HNEW1:=hid ((hb1.block w.heap.size (by omega)).trans HNEW.out)
 have hz1:=hb1.size
 clear hb1
 go_wp2_with fail
 refine (bsearchN_any y (kyOf n l) av cv S w1 (HV.out.fsl.agree (Ag_b HB1.out HS.out)) (fun b hb=>by have:=HS.out b hb;omega) hlen).mono ?_
 rintro e w2 ⟨rfl,hb2⟩
 have hz2:=hb2.size
 have HB2:=hid (HB1.out.trans (hb2.mono (by omega)))
 have HNEW2:=hid ((hb2.block w.heap.size (by omega)).trans HNEW1.out)
 have c0:=cg_ HNEW2.out (k:=0) rfl
 have c1:=cg_ HNEW2.out (k:=1) rfl
 have c2:=cg_ HNEW2.out (k:=2) rfl
 have HV2:=hid (HV.out.agree (Ag_b HB2.out HS.out))
 have HN2:=hid (HN.out.agree (Ag_b HB2.out HT.out))
 clear hb2 hW HB HNEW HNEW1
 rw [hi]
 by_cases his:i < y.len∧byK (keyD y i) (kyOf n l) = 0
 · obtain ⟨hil,hbk⟩:=his
   have hp:putN n l s y = y.setN i n l s:=by rw [putN,hi,if_pos ⟨hil,hbk⟩]
   have HP:=hid hp
   have hdec:(decide (i < y.len) && decide (byK (keyD y i) (kyOf n l) = 0)) = true:=by simp [hil,hbk]
   rw [hdec]
   obtain ⟨ds,hown,hvs,hf⟩:=HV2.out
   obtain ⟨h1,⟨h0,h00⟩ | ⟨g,cap,cur,he,hbg,hg,hnc,hcap,hcs,htk⟩⟩:=id hown
   · omega
   cases he
   unfold maxLen at hcap
   have d0:i * 3 < cur.size:=by omega
   have d1:i * 3 + 1 < cur.size:=by omega
   have d2:i * 3 + 2 < cur.size:=by omega
   have e0:=cg_ hg (k:=i * 3) (Array.getElem?_eq_getElem d0)
   have e1:=cg_ hg (k:=i * 3 + 1) (Array.getElem?_eq_getElem d1)
   have e2:=cg_ hg (k:=i * 3 + 2) (Array.getElem?_eq_getElem d2)
   have f0:=cells_frz hg (k:=i * 3)
   have f1:=cells_frz hg (k:=i * 3 + 1)
   have f2:=cells_frz hg (k:=i * 3 + 2)
   have hil':(i:Int) < (y.len:Int):=by omega
   have hi0:(0:Int) ≤ (i:Int):=by omega
   have HF:=hid hf
   have HOWN:=hid hown
   have HVS:=hid hvs
   clear hp hdec hf hown hvs htk hcs h1 hi hbk
   go_wp2_with fail
   go_ret
   have hSg:S g:=HVS.out g rfl
   have hTg:¬ T g:=HD.out g hSg
   have hzB:=HB2.out.size
   refine ⟨some ⟨g,0,none⟩,cv,by rw [HP.out,Fo.len_setN hil];rfl,?_,?_⟩
   · rw [HP.out,Fo.len_setN hil]
     have hF1:=HF.out.agree (w':=((w2.setCell ⟨g,i * 3,none⟩ (.string (bs n))).setCell ⟨g,i * 3 + 1,none⟩ (.slice an l.length cn)).setCell ⟨g,i * 3 + 2,none⟩ (.slice ab s.len cb)) (fun b hb=>set3_other (fun e=>hb.2 (by rw [e];rfl)))
     have hN1:=HN2.out.agree (w':=((w2.setCell ⟨g,i * 3,none⟩ (.string (bs n))).setCell ⟨g,i * 3 + 1,none⟩ (.slice an l.length cn)).setCell ⟨g,i * 3 + 2,none⟩ (.slice ab s.len cb)) (fun b hb=>set3_other (fun e=>hTg (e ▸ hb)))
     refine ⟨_,by rw [Fo.len_setN hil];exact owns_set3 HOWN.out hil,fun g' hg' => .inl (HVS.out g' hg'),(hF1.set hN1 (fun b h1 h2=>HD.out b h1.1 h2)).wide fun b hb=>?_⟩
     rcases hb with hb | hb
     · exact ⟨.inl hb.1,hb.2⟩
     · exact ⟨.inr (.inl hb), fun e => by have : g = b := by simpa [Value.ownBlock] using e
                                          exact hTg (this ▸ hb)⟩
   · exact ⟨HB2.out.os,HB2.out.tape,HB2.out.output,by simpa [World.setCell] using hzB,fun b hb hne=>(set3_other (fun e=>hne (by rw [e];rfl))).trans (HB2.out.block b hb)⟩
 · have hp:putN n l s y = y.insN i n l s:=by rw [putN,hi,if_neg his]
   have HP:=hid hp
   have hdec:(decide (i < y.len) && decide (byK (keyD y i) (kyOf n l) = 0)) = false:=by
    by_cases h1:i < y.len
    · have:¬ byK (keyD y i) (kyOf n l) = 0:=fun h=>his ⟨h1,h⟩
      simp [this]
    · simp [h1]
   have hil:i ≤ y.len:=by rw [← hi];exact (bsF_le _ _ _ (nl_ _) (Nat.zero_le _)).2
   rw [hdec]
   obtain ⟨ds,hown,hvs,hf⟩:=HV2.out
   have HF:=hid hf
   have HOWN:=hid hown
   have HVS:=hid hvs
   clear hp hdec his hf hown hvs hi
   go_wp2_with fail
   have hb3:Below w2.heap.size w2 (w2.alloc (.cells #[.string (bs n), .slice an l.length cn, .slice ab s.len cb] 85)):=(Below.refl _ _).alloc (nl_ _) _
   have hbl:∀ g,(Value.slice av y.len cv).ownBlock = some g→g < w2.heap.size:=fun g hg=>(HOWN.out.lt g hg).2
   refine (ins_any (.slice av y.len cv) y.len i ds (.string (bs n)) (.slice an l.length cn) (.slice ab s.len cb) w2.heap.size 0 _ (HOWN.out.alloc _) hil (heap_alloc_new w2 _) (fun e=>by have:=hbl _ e;omega) HF.out.ones (by intro u hu;simp at hu;rcases hu with rfl | rfl | rfl <;> rfl) hlen (Nat.zero_le _)).mono ?_
   rintro e w3 ⟨a3,c3,rfl,hown3,hgrow,hat⟩
   go_wp2_with fail
   go_ret
   have hzB:=HB2.out.size
   have hz3:=hgrow.size
   simp only [World.size_alloc] at hz3
   have hblk:∀ b,b < w2.heap.size→(Value.slice av y.len cv).ownBlock ≠ some b→w3.heap[b]? = w2.heap[b]?:=fun b hb hne=>(hgrow.block b (by simp;omega) (fun e=>hne e.symm)).trans (hb3.block b hb)
   refine ⟨a3,c3,by rw [HP.out,Fo.len_insN hil];rfl,?_,?_⟩
   · rw [HP.out,Fo.len_insN hil]
     have hF1:=HF.out.agree (w':=w3) (fun b hb=>hblk b (by have:=HS.out b hb.1;omega) hb.2)
     have hN1:=HN2.out.agree (w':=w3) (fun b hb=>hblk b (by have:=HT.out b hb;omega) (fun e=>HD.out b (HVS.out b e) hb))
     have hlt3:=hown3.lt
     refine ⟨_,by rw [Fo.len_insN hil];exact hown3,fun g' hg'=>?_,(hF1.ins hN1 (fun b h1 h2=>HD.out b h1.1 h2)).wide fun b hb=>?_⟩
     · rcases hat g' hg' with h | h
       · exact .inl (HVS.out g' h)
       · have:=(hlt3 g' hg').2
         simp only [World.size_alloc] at h
         exact .inr (.inr ⟨by omega,this⟩)
     · have hne:(Value.slice a3 (y.len + 1) c3).ownBlock ≠ some b:=fun e=>by
        have hbw:b < w.heap.size:=by rcases hb with hb | hb;exact HS.out b hb.1;exact HT.out b hb
        rcases hat b e with h | h
        · rcases hb with hb | hb
          · exact hb.2 h
          · exact HD.out b (HVS.out b h) hb
        · simp only [World.size_alloc] at h;omega
       rcases hb with hb | hb
       · exact ⟨.inl hb.1,hne⟩
       · exact ⟨.inr (.inl hb),hne⟩
   · exact ⟨hgrow.os.trans HB2.out.os,hgrow.tape.trans HB2.out.tape,hgrow.output.trans HB2.out.output,by omega,fun b hb hne=>(hblk b (by omega) (fun e=>hne e.symm)).trans (HB2.out.block b hb)⟩
end Go.Proofs.LF
