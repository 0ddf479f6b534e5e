/- Parts of the proof of a law of layer 11 (file): LfSpec, LfApp, LfPcs, LfW1, LfCopy, LfRange, LfList, LfPrint, LfMap, LfSpl, LfW2, LfHeld, LfTree, LfU, LfOrd, LfIns, LfRow, LfOnw. The conditions stand in each theorem. -/
import Derived.BigQuiet
import Derived.Deep.QuietTactic
import Derived.Deep.RegionHeld3
import Derived.Laws.CopyOwn
import Derived.Laws.Entries
import Derived.Laws.MakeOwn
import Derived.Laws.ResultCell
import Derived.Lib.AppendZerosOnto
import Derived.Lib.ItoaNum
import Derived.Lib.Join
import Derived.Lib.Split
import Derived.LoopIn
import Derived.LoopNIn
import Derived.Maps.AppendAt
import Derived.Maps.OwnOps
import Derived.Maps.OwnSet
import Derived.Outline
import Derived.OwnWalk
import Derived.OwnWalkIn
import Derived.RangeFuncBound
import Derived.RangeFuncCalls
import Derived.RangeFuncKeeps
import Derived.RangeFuncLeaves
import Derived.RangeFuncNested
import Derived.Shelf.Abstract
import Derived.StringKeys
import Derived.TacticsInMore
import Derived.Test.YtadkpjgpefcphaaGreatDoorProg
import Derived.WalkLawsBesides
import Derived.WalkSpells
import Derived.Test.YtadkpjgpefcphaaGreatDoorTnaa
import Derived.Test.YtadkpjgpefcphaaGreatDoorTnab
set_option linter.all false
set_option linter.unusedVariables false
set_option linter.unusedSimpArgs false
namespace Go.Proofs.LF
def cmpB (a b:List UInt8):Int:=if Op.bytesLess a b then -1 else if Op.bytesLess b a then 1 else 0
def cmpI (a b:Int):Int:=if a < b then -1 else if b < a then 1 else 0
def byK (a b:Ky):Int:=if a.n ≠ b.n then cmpB a.n b.n else if a.h ≠ b.h then (if b.h then -1 else 1) else cmpI a.x b.x
def kyOf (n:List UInt8):List Int→Ky
 | []=>⟨n,false,0⟩
 | x :: _=>⟨n,true,x⟩
theorem kyOf_n (n:List UInt8) (l:List Int):(kyOf n l).n = n:=by cases l <;> rfl
def befK (a b:Ky):Bool:=if a.n ≠ b.n then Op.bytesLess a.n b.n else if a.h ≠ b.h then b.h else decide (a.x < b.x)
def offB (n most:Int):Bool:=decide (n < 0) || decide (most < n)
def badNs (l:List Int):Bool:=l.any fun x=>offB x 9999
def badNm (s:List UInt8):Bool:=s.any (fun c=>decide ((c.toNat:Int) < 97) || decide (122 < (c.toNat:Int))) || decide ((s.length:Int) < 1) || decide (8 < (s.length:Int))
def inB (n lo hi:Int):Bool:=decide (lo ≤ n) && decide (n ≤ hi)
theorem u8_eq_iff {a b:UInt8}:a = b ↔ a.toNat = b.toNat:=⟨fun h=>by rw [h],fun h=>UInt8.toNat_inj.1 h⟩
theorem bl_irrefl:∀ (a:List UInt8),Op.bytesLess a a = false
 | []=>rfl
 | a :: x=>by simp [Op.bytesLess,bl_irrefl x]
theorem bl_total:∀ {a b:List UInt8},Op.bytesLess a b = false→Op.bytesLess b a = false→a = b
 | [],[],_,_=>rfl
 | [],_ :: _,h,_=>by simp [Op.bytesLess] at h
 | _ :: _,[],_,h=>by simp [Op.bytesLess] at h
 | a :: x,b :: y,h,k=>by
   simp only [Op.bytesLess,Bool.or_eq_false_iff,decide_eq_false_iff_not,Bool.and_eq_false_iff,beq_eq_false_iff_ne,ne_eq] at h k
   have e:a = b:=by
    have h1:=h.1;have h2:=k.1
    rw [UInt8.lt_iff_toNat_lt] at h1 h2
    rw [u8_eq_iff];omega
   subst e
   rw [bl_total (h.2.resolve_left (by simp)) (k.2.resolve_left (by simp))]
theorem bl_of_ne {a b:List UInt8} (h:Op.bytesLess a b = false) (hn:a ≠ b):Op.bytesLess b a = true:=by
 cases hb:Op.bytesLess b a with
 | true=>rfl
 | false=>exact absurd (bl_total h hb) hn
def idxN (p:Nat→Bool) (n:Nat):Int:=match (List.range n).find? p with | some i=>(i:Int) | none => -1
def anyN (p:Nat→Bool) (n:Nat):Bool:=(List.range n).any p
theorem idxN_found {p:Nat→Bool} {n k:Nat} (h:∀ i,i < k→p i = false) (hk:k < n) (hp:p k = true):idxN p n = k:=by
 have:(List.range n).find? p = some k:=by
  rw [List.find?_range_eq_some]
  exact ⟨hp,by simpa using hk,fun j hj=>by simp [h j hj]⟩
 simp [idxN,this]
theorem idxN_none {p:Nat→Bool} {n:Nat} (h:∀ i,i < n→p i = false):idxN p n = -1:=by
 have:(List.range n).find? p = none:=by
  rw [List.find?_eq_none]
  intro x hx
  simp [h x (by simpa using hx)]
 simp [idxN,this]
theorem idxN_any (p:Nat→Bool) (n:Nat):decide (0 ≤ idxN p n) = anyN p n:=by
 unfold idxN anyN
 cases h:(List.range n).find? p with
 | none=>
   rw [List.find?_eq_none] at h
   symm;simp
   intro x hx
   have:=h x (by simpa using hx)
   simpa using this
 | some k=>
   have:=List.find?_some h
   have hm:=List.mem_of_find?_eq_some h
   simp
   exact ⟨k,by simpa using hm,this⟩
theorem anyN_list {α:Type} (q:α→Bool) (p:Nat→Bool) (l:List α) (h:∀ i (hi:i < l.length),p i = q l[i]):anyN p l.length = l.any q:=by
 rw [Bool.eq_iff_iff]
 simp only [anyN,List.any_eq_true,List.mem_range]
 constructor
 · rintro ⟨i,hi,hp⟩
   exact ⟨l[i],by simp,by rw [← h i hi];exact hp⟩
 · rintro ⟨x,hx,hq⟩
   obtain ⟨i,hi,rfl⟩:=List.getElem_of_mem hx
   exact ⟨i,hi,by rw [h i hi];exact hq⟩
def ordG (bad:Ky→Ky→Bool):Int→Option Ky→Fo→Int
 | _,_, .nil=>0
 | d,p, .cons n l s r=>
   if 3 < d then 10 else if badNm n then 11 else if 4 < (l.length:Int) then 2 else if badNs l then 3
   else if (match p with | none=>false | some q=>bad q (kyOf n l)) then 4
   else if ordG bad (d + 1) none s ≠ 0 then ordG bad (d + 1) none s else ordG bad d (some (kyOf n l)) r
def geK (a b:Ky):Bool:=decide (0 ≤ byK a b)
def ordF:Int→Fo→Int:=fun d y=>ordG geK d none y
structure NdD where
 up:List Ky
 n:List UInt8
 l:List Int
 s:Fo
def nodesL:List Ky→Fo→List NdD
 | _, .nil=>[]
 | up, .cons n l s r=>⟨up,n,l,s⟩ :: (nodesL (up ++ [kyOf n l]) s ++ nodesL up r)
theorem nodesL_app (up:List Ky):∀ (y z:Fo),nodesL up (y.app z) = nodesL up y ++ nodesL up z
 | .nil,_=>rfl
 | .cons n l s r,z=>by simp only [Fo.app,nodesL,nodesL_app up r z];simp
theorem nodesL_take {up:List Ky} {k:Nat} {y r s:Fo} {n:List UInt8} {l:List Int} (h:y.drop k = .cons n l s r):nodesL up (y.take (k + 1)) = nodesL up (y.take k) ++ (⟨up,n,l,s⟩ :: nodesL (up ++ [kyOf n l]) s):=by
 rw [Fo.take_succ h,nodesL_app];simp [nodesL]
theorem nodesL_pre {up:List Ky}:∀ {k:Nat} {y:Fo},nodesL up (y.take k) <+: nodesL up y
 | 0,_=>by simp [Fo.take,nodesL]
 | _ + 1, .nil=>by simp [Fo.take]
 | k + 1, .cons n l s r=>by
   obtain ⟨t,ht⟩:=nodesL_pre (up:=up) (k:=k) (y:=r)
   exact ⟨t,by simp only [Fo.take,nodesL,← ht];simp⟩
theorem nodesL_length (up:List Ky):∀ (y:Fo),(nodesL up y).length = y.cnt
 | .nil=>rfl
 | .cons n l s r=>by simp only [nodesL,Fo.cnt,List.length_cons,List.length_append,nodesL_length _ s,nodesL_length up r];omega
end Go.Proofs.LF
namespace Go.Proofs.LF
open Go.RowKit
variable {P:Program} (w:World)
theorem owns_shape {w:World} {base e k n:Nat} {v:Value} {xs:List Value} (h:w.ownsRow base e k v n xs):∃ a c,v = .slice a n c∧n ≤ c∧c ≤ maxLen:=(SlC.of_owns h).shape
theorem run_append_ao (t ty:TypeId) (base:Nat) (e:TypeId) (i:TypeInfo) (z:Value) (size bytes:Nat) (ht:P.underlying t = some (.slice e)) (hi:P.info? e = some i) (hz:i.zero = some z)
 (hsize:i.size = size) (hby:i.bytes = bytes) (hzs:z.cells.size = size) (hsz:0 < size)
 (v:Value) (n:Nat) (xs:List Value) (hown:w.ownsRow base e size v n xs)
 (ao:Option Addr) (m c:Nat) (news:List Value) (hl:news.length = m * size) (hnone:ao = none→m = 0∧c = 0) (hnews:∀ ad,ao = some ad→∀ (j:Nat) (u:Value),news[j]? = some u→w.cell? (ad.add j) = some u) (h1:∀ u ∈ news,u.oneCell' = true)
 (h63:n + m ≤ maxLen) (hbytes:(n + m) * bytes ≤ 140737488355328) (hbase:base ≤ w.heap.size) :
 ∃ a' c' w',(Builtin.append_ #[t,t] ty #[v, .slice ao m c]).run P w = .ok (.slice a' (n + m) c') w' ∧
  w'.ownsRow base e size (.slice a' (n + m) c') (n + m) (xs ++ news)∧w.grownBy w' v.ownBlock∧(∀ g,(Value.slice a' (n + m) c').ownBlock = some g→v.ownBlock = some g ∨ g = w.heap.size):=by
 cases ao with
 | some ad=>
   obtain ⟨v',w',hr,h2,h3,_,h5⟩:=run_append_own_at (P:=P) w base t ty e i z size bytes ht hi hz hsize hby hzs hsz v n xs hown ad m c news hl (hnews ad rfl) h1 h63 hbytes hbase
   obtain ⟨a',c',rfl,_,_⟩:=owns_shape h2
   refine ⟨a',c',w',hr,h2,h3,fun g hg=>?_⟩
   rcases h5 with h5 | h5
   · exact .inl (by rw [← h5];exact hg)
   · exact .inr (by rw [hg] at h5;exact Option.some.inj h5)
 | none=>
   obtain ⟨rfl,rfl⟩:=hnone rfl
   have hn:news = []:=List.eq_nil_of_length_eq_zero (by simpa using hl)
   subst hn
   have hrun:=run_append_owned_none (P:=P) w base t ty e i size ht hi v n xs hown
   obtain ⟨a',c',rfl,_,_⟩:=owns_shape hown
   exact ⟨a',c',w,hrun,by simpa using hown,World.grownBy.refl _ _,fun g hg => .inl hg⟩
theorem wp_append_ao {o:Oper} {a:Act} {K:Act→World→Prop} {Q:Exit→Act→World→Prop} (s x:Operand) (t:TypeId)
 (ho:o.op = .call { callee := .builtin .append,args:=#[s,x],argTypes:=#[t,t] })
 (base:Nat) (e:TypeId) (i:TypeInfo) (z:Value) (size bytes:Nat) (ht:P.underlying t = some (.slice e)) (hi:P.info? e = some i) (hz:i.zero = some z)
 (hsize:i.size = size) (hby:i.bytes = bytes) (hzs:z.cells.size = size) (hsz:0 < size)
 (v:Value) (n:Nat) (xs:List Value) (hs:a.eval s = v) (hown:w.ownsRow base e size v n xs)
 (ao:Option Addr) (m c:Nat) (news:List Value) (hx:a.eval x = .slice ao m c) (hl:news.length = m * size) (hnone:ao = none→m = 0∧c = 0) (hnews:∀ ad,ao = some ad→∀ (j:Nat) (u:Value),news[j]? = some u→w.cell? (ad.add j) = some u) (h1:∀ u ∈ news,u.oneCell' = true)
 (h63:n + m ≤ maxLen) (hbytes:(n + m) * bytes ≤ 140737488355328) (hbase:base ≤ w.heap.size)
 (h:∀ a' c' w',w'.ownsRow base e size (.slice a' (n + m) c') (n + m) (xs ++ news)→w.grownBy w' v.ownBlock→(∀ g,(Value.slice a' (n + m) c').ownBlock = some g→v.ownBlock = some g ∨ g = w.heap.size)→K (a.put o.dst (.slice a' (n + m) c')) w'):o.wp P a w K Q:=by
 obtain ⟨a',c',w',hr,h2,h3,h4⟩:=run_append_ao (P:=P) w t o.type base e i z size bytes ht hi hz hsize hby hzs hsz v n xs hown ao m c news hl hnone hnews h1 h63 hbytes hbase
 unfold Oper.wp execOp
 simp only [ho,resolve,invoke,builtin,Sem.run_bind,Sem.run_pure,Result.andThen_ok,List.map_toArray,List.map_cons,List.map_nil,hs,hx,hr]
 exact h a' c' w' h2 h3 h4
theorem wpList_append_ao {ops:Array Oper} {rest:List Oper} {o:Oper} {a:Act} {Q:Exit→Act→World→Prop} (hgd:o.guard = none) (s x:Operand) (t:TypeId)
 (ho:o.op = .call { callee := .builtin .append,args:=#[s,x],argTypes:=#[t,t] })
 (base:Nat) (e:TypeId) (i:TypeInfo) (z:Value) (size bytes:Nat) (ht:P.underlying t = some (.slice e)) (hi:P.info? e = some i) (hz:i.zero = some z)
 (hsize:i.size = size) (hby:i.bytes = bytes) (hzs:z.cells.size = size) (hsz:0 < size)
 (v:Value) (n:Nat) (xs:List Value) (hs:a.eval s = v) (hown:w.ownsRow base e size v n xs)
 (ao:Option Addr) (m c:Nat) (news:List Value) (hx:a.eval x = .slice ao m c) (hl:news.length = m * size) (hnone:ao = none→m = 0∧c = 0) (hnews:∀ ad,ao = some ad→∀ (j:Nat) (u:Value),news[j]? = some u→w.cell? (ad.add j) = some u) (h1:∀ u ∈ news,u.oneCell' = true)
 (h63:n + m ≤ maxLen) (hbytes:(n + m) * bytes ≤ 140737488355328) (hbase:base ≤ w.heap.size)
 (h:∀ a' c' w',w'.ownsRow base e size (.slice a' (n + m) c') (n + m) (xs ++ news)→w.grownBy w' v.ownBlock→(∀ g,(Value.slice a' (n + m) c').ownBlock = some g→v.ownBlock = some g ∨ g = w.heap.size)→wpList P ops Q rest (a.put o.dst (.slice a' (n + m) c')) w'):wpList P ops Q (o :: rest) a w:=
 wpList_plain hgd fun _ hK=>wp_append_ao w s x t ho base e i z size bytes ht hi hz hsize hby hzs hsz v n xs hs hown ao m c news hx hl hnone hnews h1 h63 hbytes hbase fun a' c' w' h2 h3 h4=>hK _ _ (h a' c' w' h2 h3 h4)
theorem step_append_ao {ops:Array Oper} {o:Oper} {a:Act} {K:Act→World→Prop} {Q:Exit→Act→World→Prop} {E:Prop} (hgd:o.guard = none) (s x:Operand) (t:TypeId)
 (ho:o.op = .call { callee := .builtin .append,args:=#[s,x],argTypes:=#[t,t] })
 (base:Nat) (e:TypeId) (i:TypeInfo) (z:Value) (size bytes:Nat) (ht:P.underlying t = some (.slice e)) (hi:P.info? e = some i) (hz:i.zero = some z)
 (hsize:i.size = size) (hby:i.bytes = bytes) (hzs:z.cells.size = size) (hsz:0 < size)
 (v:Value) (n:Nat) (xs:List Value) (hs:a.eval s = v) (hown:w.ownsRow base e size v n xs)
 (ao:Option Addr) (m c:Nat) (news:List Value) (hx:a.eval x = .slice ao m c) (hl:news.length = m * size) (hnone:ao = none→m = 0∧c = 0) (hnews:∀ ad,ao = some ad→∀ (j:Nat) (u:Value),news[j]? = some u→w.cell? (ad.add j) = some u) (h1:∀ u ∈ news,u.oneCell' = true)
 (h63:n + m ≤ maxLen) (hbytes:(n + m) * bytes ≤ 140737488355328) (hbase:base ≤ w.heap.size)
 (h:∀ a' c' w',w'.ownsRow base e size (.slice a' (n + m) c') (n + m) (xs ++ news)→w.grownBy w' v.ownBlock→(∀ g,(Value.slice a' (n + m) c').ownBlock = some g→v.ownBlock = some g ∨ g = w.heap.size)→K (a.put o.dst (.slice a' (n + m) c')) w') :
 if Region.wanted o (yielded ops a.tmps) = true then Oper.wp P o a w K Q else E:=by
 have hw:Region.wanted o (yielded ops a.tmps) = true:=by simp [Region.wanted,hgd]
 rw [if_pos hw]
 exact wp_append_ao w s x t ho base e i z size bytes ht hi hz hsize hby hzs hsz v n xs hs hown ao m c news hx hl hnone hnews h1 h63 hbytes hbase h
end Go.Proofs.LF
namespace Go.Proofs.LF
def pcs:List UInt8→List (List UInt8)
 | []=>[[]]
 | c :: s=>if c = 10 then [c] :: pcs s else match pcs s with
   | []=>[[c]]
   | p :: ps=>(c :: p) :: ps
theorem pcs_ne (s:List UInt8):pcs s ≠ []:=by
 cases s with
 | nil=>simp [pcs]
 | cons c s=>
   simp only [pcs]
   split
   · simp
   · split <;> simp
theorem pcs_line {R:List UInt8}:∀ {A:List UInt8},(10:UInt8) ∉ A→pcs (A ++ 10 :: R) = (A ++ [10]) :: pcs R
 | [],_=>by simp [pcs]
 | c :: A,h=>by
   simp only [List.mem_cons,not_or] at h
   rw [List.cons_append,pcs,if_neg (fun e=>h.1 e.symm),pcs_line h.2]
   rfl
theorem pcs_head:∀ (c:Nat) (R:List UInt8),(10:UInt8) ∉ R.take c→c ≤ R.length→∃ p ps,pcs R = p :: ps∧c ≤ p.length∧p.take c = R.take c
 | 0,R,_,_=>by
   cases hp:pcs R with
   | nil=>exact absurd hp (pcs_ne R)
   | cons p ps=>exact ⟨p,ps,rfl,by omega,by simp⟩
 | c + 1,[],_,h=>by simp at h
 | c + 1,a :: R,h,hl=>by
   rw [List.take_succ_cons,List.mem_cons,not_or] at h
   obtain ⟨p,ps,h1,h2,h3⟩:=pcs_head c R h.2 (by simpa using hl)
   refine ⟨a :: p,ps,?_,by simpa using h2,by simp [h3]⟩
   rw [pcs,if_neg (fun e=>h.1 e.symm),h1]
theorem pcs_flat:∀ (s:List UInt8),(pcs s).flatten = s
 | []=>rfl
 | c :: s=>by
   have ih:=pcs_flat s
   simp only [pcs]
   split
   · simp [ih]
   · split
     · rename_i h;exact absurd h (pcs_ne s)
     · rename_i p ps h
       rw [h] at ih
       simpa using ih
end Go.Proofs.LF
namespace Go.Proofs.LF
open Go.RowKit
set_option maxHeartbeats 1000000
set_option maxRecDepth 100000
attribute [local go_sem] bs_toList
theorem isNaNs (x:ByteArray) (w:World) :
 Calls Tryz.prog 268 #[.string x] w fun e w'=>e = .returned (.bool false)∧w = w':=by
 go_enter Tryz.func268,Tryz.ntmps268
 go_wp2
 go_ret
 exact ⟨by simp,rfl⟩
theorem isNaNi (x:Int) (w:World) :
 Calls Tryz.prog 269 #[.int .i64 x] w fun e w'=>e = .returned (.bool false)∧w = w':=by
 go_enter Tryz.func269,Tryz.ntmps269
 go_wp2
 go_ret
 exact ⟨by simp,rfl⟩
theorem ret_int {k:IntKind} {a b:Int} (h:a = b):Ending.returned (.int k a) = .returned (.int k b):=by rw [h]
theorem ret_bool {a b:Bool} (h:a = b):Ending.returned (.bool a) = .returned (.bool b):=by rw [h]
theorem cmps_any (x y:List UInt8) (w:World) :
 Calls Tryz.prog 223 #[.string (bs x), .string (bs y)] w fun e w'=>e = .returned (.int .i64 (cmpB x y))∧w = w':=by
 go_enter Tryz.func223,Tryz.ntmps223
 go_wp2_with (go_at_call 268;refine (isNaNs _ _).mono ?_;rintro e w' ⟨rfl,rfl⟩)
 all_goals go_ret
 · exact ⟨ret_int (by simp [cmpB, *]),rfl⟩
 · have h1:Op.bytesLess x y = false:=by assumption
   have h2:(!x == y) = true:=by assumption
   exact ⟨ret_int (by simp [cmpB,h1,bl_of_ne h1 (by simpa using h2)]),rfl⟩
 · have h2:(!x == y) = false:=by assumption
   have h3:x = y:=by simpa using h2
   exact ⟨ret_int (by rw [h3];simp [cmpB,bl_irrefl]),rfl⟩
theorem cmpi_any (x y:Int) (w:World) :
 Calls Tryz.prog 224 #[.int .i64 x, .int .i64 y] w fun e w'=>e = .returned (.int .i64 (cmpI x y))∧w = w':=by
 go_enter Tryz.func224,Tryz.ntmps224
 go_wp2_with (go_at_call 269;refine (isNaNi _ _).mono ?_;rintro e w' ⟨rfl,rfl⟩)
 all_goals go_ret
 all_goals refine ⟨ret_int ?_,rfl⟩
 all_goals unfold cmpI
 · rw [if_pos ‹_›]
 · rw [if_neg (by omega),if_pos ‹_›]
 · rw [if_neg (by omega),if_neg (by omega)]
theorem in_any (n lo hi:Int) (w:World) :
 Calls Tryz.prog 151 #[.int .i64 n, .int .i64 lo, .int .i64 hi] w fun e w'=>e = .returned (.bool (inB n lo hi))∧w = w':=by
 by_cases h1:lo ≤ n
 · go_enter Tryz.func151,Tryz.ntmps151
   go_wp2
   go_ret
   exact ⟨ret_bool (by simp [inB,h1]),rfl⟩
 · go_enter Tryz.func151,Tryz.ntmps151
   go_wp2
   go_ret
   exact ⟨ret_bool (by simp [inB];omega),rfl⟩
theorem number_any (n:Int) (w:World) :
 Calls Tryz.prog 156 #[.int .i64 n] w fun e w'=>e = .returned (.bool (inB n 0 9999))∧w = w':=by
 go_enter Tryz.func156,Tryz.ntmps156
 go_wp2_with (go_at_call 151;refine (in_any _ _ _ _).mono ?_;rintro e w' ⟨rfl,rfl⟩)
 go_ret
 exact ⟨rfl,rfl⟩
theorem has_any (lo hi b:Int) (w:World) :
 Calls Tryz.prog 187 #[.agg #[.int .u8 lo, .int .u8 hi], .int .u8 b] w fun e w'=>e = .returned (.bool (inB b lo hi))∧Below w.heap.size w w':=by
 by_cases h1:lo ≤ b
 · go_enter Tryz.func187,Tryz.ntmps187
   go_wp2
   go_ret
   exact ⟨ret_bool (by simp [inB,h1]),(Below.refl _ _).alloc (nl_ _) _⟩
 · go_enter Tryz.func187,Tryz.ntmps187
   go_wp2
   go_ret
   exact ⟨ret_bool (by simp [inB];omega),(Below.refl _ _).alloc (nl_ _) _⟩
theorem byKey_any (a b:Ky) (w:World) :
 Calls Tryz.prog 183 #[.agg #[.string (bs a.n), .bool a.h, .int .i64 a.x], .agg #[.string (bs b.n), .bool b.h, .int .i64 b.x]] w fun e w'=>e = .returned (.int .i64 (byK a b))∧Below w.heap.size w w':=by
 obtain ⟨an,ah,ax⟩:=a
 obtain ⟨bn,bh,bx⟩:=b
 by_cases h:an = bn
 · have h':(an == bn) = true:=by simp [h]
   cases ah <;> cases bh
   all_goals
    go_enter Tryz.func183,Tryz.ntmps183
    go_wp2_with (first | (go_at_call 223;refine (cmps_any _ _ _).mono ?_;rintro e w' ⟨rfl,rfl⟩) | (go_at_call 224;refine (cmpi_any _ _ _).mono ?_;rintro e w' ⟨rfl,rfl⟩))
    go_ret
    exact ⟨ret_int (by simp [byK,h]),((Below.refl _ _).alloc (nl_ _) _).alloc (by simp) _⟩
 · have h':(an == bn) = false:=by simp [h]
   go_enter Tryz.func183,Tryz.ntmps183
   go_wp2_with (first | (go_at_call 223;refine (cmps_any _ _ _).mono ?_;rintro e w' ⟨rfl,rfl⟩) | (go_at_call 224;refine (cmpi_any _ _ _).mono ?_;rintro e w' ⟨rfl,rfl⟩))
   go_ret
   exact ⟨ret_int (by simp [byK,h]),((Below.refl _ _).alloc (nl_ _) _).alloc (by simp) _⟩
end Go.Proofs.LF
namespace Go.Proofs.LF
open Go.RowKit
variable {P:Program}
theorem run_copy_rowK (w:World) (dT sT ty elem:TypeId) (k g o dLen dCap m:Nat) (a:Addr) (sLen sCap:Nat) (cur:Array Value) (t:TypeId) (cs:List Value)
 (hu:P.underlying dT = some (.slice elem)) (hs:(P.info? elem).map (·.size) = some k)
 (hg:w.heap[g]? = some (.cells cur t (0,0))) (hm:m = Nat.min sLen dLen) (hn:cs.length = k * m)
 (hsrc:∀ j v,cs[j]? = some v→w.cell? (a.add j) = some v) (hfit:o + cs.length ≤ cur.size) (h1:∀ v ∈ cs,v.oneCell' = true) :
 (Builtin.copy_ #[dT,sT] ty #[.slice (some ⟨g,o,none⟩) dLen dCap, .slice (some a) sLen sCap]).run P w =
  .ok (goInt m) (w.setRow g (cur.toList.take o ++ cs ++ cur.toList.drop (o + cs.length)).toArray):=by
 have hl:=run_loadCells_list (P:=P) w a cs hsrc
 have hst:=run_storeCells_at P g o t cs 0 cur w hg (by simpa using hfit) h1
 rw [hn,Nat.mul_comm] at hl
 cases hq:P.info? elem with
 | none=>simp [hq] at hs
 | some i=>
   have hi:i.size = k:=by simpa [hq] using hs
   simp [Builtin.copy_,run_underlying hu,Builtin.lenOf,Builtin.firstCells,sizeOf,typeInfo,hq,hi,← hm,hl,hst]
theorem wpList_copyK {w:World} {ops:Array Oper} {rest:List Oper} {o:Oper} {a:Act} {Q:Exit→Act→World→Prop} (hgd:o.guard = none) (d s:Operand) (dT sT:TypeId)
 (ho:o.op = .call { callee := .builtin .copy,args:=#[d,s],argTypes:=#[dT,sT] }) (elem k:TypeId) (hu:P.underlying dT = some (.slice elem)) (hsz:(P.info? elem).map (·.size) = some k)
 (g off dLen dCap m:Nat) (ad:Addr) (sLen sCap:Nat) (hd:a.eval d = .slice (some ⟨g,off,none⟩) dLen dCap) (hs:a.eval s = .slice (some ad) sLen sCap)
 (cur:Array Value) (t:TypeId) (hg:w.heap[g]? = some (.cells cur t (0,0))) (cs:List Value) (hm:m = Nat.min sLen dLen) (hn:cs.length = k * m)
 (hsrc:∀ j v,cs[j]? = some v→w.cell? (ad.add j) = some v) (hfit:off + cs.length ≤ cur.size) (h1:∀ v ∈ cs,v.oneCell' = true)
 (h:wpList P ops Q rest (a.put o.dst (goInt m)) (w.setRow g (cur.toList.take off ++ (cs ++ cur.toList.drop (off + cs.length))).toArray)):wpList P ops Q (o :: rest) a w:=by
 refine wpList_plain hgd fun K hK=>?_
 have hrun:=run_copy_rowK (P:=P) w dT sT o.type elem k g off dLen dCap m ad sLen sCap cur t cs hu hsz hg hm hn hsrc hfit h1
 unfold Oper.wp
 simp [execOp,ho,resolve,invoke,builtin,hd,hs,hrun,Result.andThen]
 exact hK _ _ h
theorem wpList_copyNil {w:World} {ops:Array Oper} {rest:List Oper} {o:Oper} {a:Act} {Q:Exit→Act→World→Prop} (hgd:o.guard = none) (d s:Operand) (dT sT:TypeId)
 (ho:o.op = .call { callee := .builtin .copy,args:=#[d,s],argTypes:=#[dT,sT] }) (elem k:TypeId) (hu:P.underlying dT = some (.slice elem)) (hsz:(P.info? elem).map (·.size) = some k)
 (da:Addr) (dLen dCap:Nat) (hd:a.eval d = .slice (some da) dLen dCap) (hs:a.eval s = .slice none 0 0)
 (h:wpList P ops Q rest (a.put o.dst (goInt 0)) w):wpList P ops Q (o :: rest) a w:=by
 refine wpList_plain hgd fun K hK=>?_
 have hrun:=run_copy_nil P w dT sT o.type elem da dLen dCap hu (by rw [hsz];rfl)
 unfold Oper.wp
 simp [execOp,ho,resolve,invoke,builtin,hd,hs,hrun,Result.andThen]
 exact hK _ _ h
theorem run_makeK (t e:TypeId) (i:TypeInfo) (z:Value) (ht:P.underlying t = some (.slice e)) (hi:P.info? e = some i) (hz:i.zero = some z)
 (kl kc:IntKind) (n c:Nat) (hnc:n ≤ c) (hbytes:i.bytes * c ≤ 281474976710656) (h63:c ≤ 9223372036854775807) (w:World) :
 (Instr.makeSlice t (.int kl (n:Int)) (.int kc (c:Int))).run P w = .ok (.slice (some ⟨w.heap.size,0,none⟩) n c) (w.alloc (.cells (madeCells z.cells (c * i.size)) e)):=by
 have hb:(i.bytes:Int) * (c:Int) ≤ 281474976710656:=by
  have h:((i.bytes * c:Nat):Int) ≤ 281474976710656:=by omega
  rwa [Int.natCast_mul] at h
 have hr:=run_make (P:=P) w t e i z ht hi hz kl kc n c (by omega) (by omega) hb (by omega)
 simp only [Int.toNat_natCast] at hr
 exact hr
theorem madeCells_size (z:Array Value) (n:Nat):(madeCells z n).size = n:=by simp [madeCells]
theorem owns_of_row {w:World} {B e k n cap g:Nat} {cur:Array Value} {xs:List Value} (hb:B ≤ g) (hg:w.heap[g]? = some (.cells cur e (0,0))) (hn:n ≤ cap) (hc:cap ≤ maxLen) (hs:cur.size = cap * k) (hx:cur.toList.take (n * k) = xs) :
 w.ownsRow B e k (.slice (some ⟨g,0,none⟩) n cap) n xs:=
 ⟨by rw [← hx,List.length_take,Array.length_toList,hs];exact Nat.min_eq_left (Nat.mul_le_mul_right k hn), .inr ⟨g,cap,cur,rfl,hb,hg,hn,hc,hs,hx⟩⟩
theorem setRow_at {w:World} {g:Nat} {cur cs:Array Value} {t:TypeId} (hg:w.heap[g]? = some (.cells cur t (0,0))):(w.setRow g cs).heap[g]? = some (.cells cs t (0,0)):=setRow_heap w g cur cs t _ hg
theorem setRow_below {B:Nat} {w0 w:World} {g:Nat} (hb:Below B w0 w) (hB:B ≤ g) (cs:Array Value):Below B w0 (w.setRow g cs):=below_setRow hb hB cs
theorem grown_setRow (w:World) (g:Nat) (cs:Array Value):w.grownBy (w.setRow g cs) (some g):=
 ⟨rfl,rfl,rfl,by simp [World.setRow],fun k _ hk=>setRow_other w g k cs (fun e=>hk (by rw [e]))⟩
theorem wpList_copyHead {w:World} {ops:Array Oper} {rest:List Oper} {o:Oper} {a:Act} {Q:Exit→Act→World→Prop} (hgd:o.guard = none) (d s:Operand) (dT sT:TypeId)
 (ho:o.op = .call { callee := .builtin .copy,args:=#[d,s],argTypes:=#[dT,sT] }) (elem k:TypeId) (hu:P.underlying dT = some (.slice elem)) (hsz:(P.info? elem).map (·.size) = some k)
 (B g n cap:Nat) (ad:Option Addr) (sCap:Nat) (hd:a.eval d = .slice (some ⟨g,0,none⟩) n cap) (hs:a.eval s = .slice ad n sCap)
 (cur:Array Value) (hg:w.heap[g]? = some (.cells cur elem (0,0))) (hB:B ≤ g) (hnc:n ≤ cap) (hcap:cap ≤ maxLen) (hcur:cur.size = cap * k) (cs:List Value) (hn:cs.length = n * k) (hnil:ad = none→n = 0∧sCap = 0)
 (hsrc:∀ ad',ad = some ad'→∀ j v,cs[j]? = some v→w.cell? (ad'.add j) = some v) (h1:∀ v ∈ cs,v.oneCell' = true)
 (h:∀ W:World,W.ownsRow B elem k (.slice (some ⟨g,0,none⟩) n cap) n cs→w.grownBy W (some g)→W.heap.size = w.heap.size→wpList P ops Q rest (a.put o.dst (.int .i64 (n:Int))) W):wpList P ops Q (o :: rest) a w:=by
 have hmul:n * k ≤ cap * k:=Nat.mul_le_mul_right k hnc
 cases ad with
 | none=>
   obtain ⟨rfl,rfl⟩:=hnil rfl
   refine wpList_copyNil hgd d s dT sT ho elem k hu hsz ⟨g,0,none⟩ 0 cap hd hs ?_
   have hc:cs = []:=by simpa using hn
   subst hc
   have:=h w (owns_of_row hB hg (by omega) hcap hcur (by simp)) ⟨rfl,rfl,rfl,nl_ _,fun _ _ _=>rfl⟩ rfl
   simpa [goInt] using this
 | some ad=>
   refine wpList_copyK hgd d s dT sT ho elem k hu hsz g 0 n cap n ad n sCap hd hs cur elem hg cs (Nat.min_self n).symm (by rw [hn,Nat.mul_comm]) (hsrc ad rfl) (by omega) h1 ?_
   refine h _ (owns_of_row hB (setRow_at hg) hnc hcap ?_ ?_) (grown_setRow _ _ _) (by simp [World.setRow])
   · simp only [List.size_toArray,List.length_append,List.length_take,List.length_drop,Array.length_toList,hn,hcur];omega
   · simp only [List.take_zero,List.nil_append]
     rw [← hn];simp
end Go.Proofs.LF
namespace Go.Proofs.LF
open Go.RowKit
structure Keep (O:Nat→Prop) (A B:World):Prop where
 os:B.os = A.os
 tape:B.tape = A.tape
 output:B.output = A.output
 size:A.heap.size ≤ B.heap.size
 block:∀ b,b < A.heap.size→¬ O b→B.heap[b]? = A.heap[b]?
theorem Keep.refl (O:Nat→Prop) (A:World):Keep O A A:=⟨rfl,rfl,rfl,nl_ _,fun _ _ _=>rfl⟩
theorem Keep.trans {O:Nat→Prop} {A B C:World} (h:Keep O A B) (k:Keep O B C):Keep O A C:=
 ⟨k.os.trans h.os,k.tape.trans h.tape,k.output.trans h.output,Nat.le_trans h.size k.size,fun b hb ho=>(k.block b (Nat.lt_of_lt_of_le hb h.size) ho).trans (h.block b hb ho)⟩
theorem Keep.mono {O O':Nat→Prop} {A B:World} (h:Keep O A B) (hs:∀ b,b < A.heap.size→O b→O' b):Keep O' A B:=
 ⟨h.os,h.tape,h.output,h.size,fun b hb ho=>h.block b hb (fun h'=>ho (hs b hb h'))⟩
theorem Keep.of_below {O:Nat→Prop} {A B:World} (h:Below A.heap.size A B):Keep O A B:=⟨h.os,h.tape,h.output,h.size,fun b hb _=>h.block b hb⟩
theorem Keep.below {O:Nat→Prop} {n:Nat} {A B:World} (h:Keep O A B) (hn:n ≤ A.heap.size) (ho:∀ b,b < n→¬ O b):Below n A B:=⟨h.os,h.tape,h.output,h.size,fun b hb=>h.block b (by omega) (ho b hb)⟩
theorem Keep.agree {O S:Nat→Prop} {A B:World} (h:Keep O A B) (hs:∀ b,S b→b < A.heap.size∧¬ O b):Agree S A B:=fun b hb=>h.block b (hs b hb).1 (hs b hb).2
theorem Keep.cell {O:Nat→Prop} {A B:World} (h:Keep O A B) {b o:Nat} {v:Value} (hb:b < A.heap.size) (ho:¬ O b) (hc:A.cell? ⟨b,o,none⟩ = some v):B.cell? ⟨b,o,none⟩ = some v:=by
 rw [World.cell?_of_block (h.block b hb ho)];exact hc
theorem Keep.putObj {O:Nat→Prop} {A:World} {l:Nat} {o:Obj} (hl:O l):Keep O A (A.putObj l o):=
 ⟨rfl,rfl,rfl,by simp,fun b _ ho=>World.putObj_heap_other (fun e=>ho (e ▸ hl))⟩
theorem Keep.setCell {O:Nat→Prop} {A:World} {p:Addr} {v:Value} (hl:O p.block):Keep O A (A.setCell p v):=
 ⟨rfl,rfl,rfl,by simp [World.setCell],fun b _ ho=>Below.heap_setCell _ _ _ _ (fun e=>ho (e ▸ hl))⟩
theorem Keep.grown {O:Nat→Prop} {A B:World} {row:Option Nat} (h:A.grownBy B row) (hr:∀ b,row = some b→O b):Keep O A B:=
 ⟨h.os,h.tape,h.output,h.size,fun b hb ho=>h.block b hb (fun e=>ho (hr b e.symm))⟩
def Dep {δ:Type} (n₀:Nat) (I:List δ→(Nat→Prop)→World→Prop):Prop:=
 ∀ pre O A B,I pre O A→B.os = A.os→B.tape = A.tape→B.output = A.output→A.heap.size ≤ B.heap.size→(∀ b,b < A.heap.size→(O b ∨ b < n₀)→B.heap[b]? = A.heap[b]?)→I pre O B
theorem Dep.keep {δ:Type} {n₀:Nat} {I:List δ→(Nat→Prop)→World→Prop} (h:Dep n₀ I) {pre:List δ} {O X:Nat→Prop} {A B:World} (hi:I pre O A) (hk:Keep X A B) (hx:∀ b,X b→¬ O b∧n₀ ≤ b):I pre O B:=
 h pre O A B hi hk.os hk.tape hk.output hk.size fun b hb ho=>hk.block b hb (fun e=>by have:=hx b e;rcases ho with ho | ho;exact this.1 ho;omega)
variable {P:Program}
def SeqI {α δ:Type} (P:Program) (gf:Nat) (lb:Array Value) (dat:α→δ) (encs:α→Array Value) (E:(Nat→Prop)→World→α→Prop) (xs:List δ) (w:World) (T:Nat→Prop):Prop:=
 ∀ (l:Nat) (J Jx:List δ→(Nat→Prop)→World→Prop) (O:Nat→Prop) (W:World),
  Below w.heap.size w W→(∀ b,T b→¬ O b)→(∀ b,O b→b < W.heap.size) →
  (∀ pre O A B,J pre O A→Below A.heap.size A B→J pre O B)→(∀ pre O A B,Jx pre O A→Below A.heap.size A B→Jx pre O B) →
  (∀ m pre x O W1,J pre O W1→pre ++ [dat x] <+: xs→E (fun b=>b < W1.heap.size∧¬ O b) W1 x →
    YieldAt Fence.wide m P l (encs x) W1 fun e W'=>
     (e = .returned (.bool true)∧∃ O',J (pre ++ [dat x]) O' W'∧Keep O W1 W'∧(∀ b,O' b→O b ∨ W1.heap.size ≤ b)∧(∀ b,O' b→b < W'.heap.size)) ∨
     (e = .returned (.bool false)∧∃ O',Jx (pre ++ [dat x]) O' W'∧Keep O W1 W')) →
  J [] O W →
  ∀ n,CallsIn Fence.wide n P gf (#[.func (.yield l) #[] #[]] ++ lb) W fun e W'=>(∃ v,e = .returned v)∧((∃ O',J xs O' W') ∨ (∃ pre O',pre <+: xs∧Jx pre O' W'))
def rgPost {δ:Type} (I:List δ→(Nat→Prop)→World→Prop) (Ix:Code→List δ→(Nat→Prop)→World→Prop) (xs:List δ) (O:Nat→Prop) (W:World):Exit→Act→World→Prop
 | .normal,_,W'=>∃ O',I xs O' W'∧Keep O W W'∧(∀ b,O' b→O b ∨ W.heap.size ≤ b)∧(∀ b,O' b→b < W'.heap.size)
 | .ret,_,W'=>∃ O',Ix .ret xs O' W'∧Keep O W W'∧(∀ b,O' b→O b ∨ W.heap.size ≤ b)
 | _,_,_=>False
theorem range_law {α δ:Type} {g:Operand} {ps:Array Tmp} {assign body:Code} {Q:Exit→Act→World→Prop} {a:Act} {w:World} {n:Nat}
 {gf:Nat} {lb:Array Value} (hg:a.eval g = .func (.func gf) #[] lb) (eg:∀ args w,(callFunc gf args).run P w = .ok (.enter gf args) w)
 {dat:α→δ} {encs:α→Array Value} {E:(Nat→Prop)→World→α→Prop} {xs:List δ} {T:Nat→Prop} (hseq:SeqI P gf lb dat encs E xs w T)
 (hE:∀ {S w w' x},E S w x→Agree S w w'→E S w' x) (hEw:∀ {S S' w x},E S w x→(∀ b,S b→S' b)→E S' w x) (hps:∀ x,(encs x).size = ps.size)
 (I:List δ→(Nat→Prop)→World→Prop) (Ix:Code→List δ→(Nat→Prop)→World→Prop) (hI:Dep w.heap.size I) (hIx:∀ c,Dep w.heap.size (Ix c))
 (O0:Nat→Prop) (hO0:∀ b,O0 b→b < w.heap.size∧¬ T b) (hT:∀ b,T b→b < w.heap.size) (h0:I [] O0 w)
 (A1:α→Nat→Act→World→Prop) (hA1:∀ x lo a₁ A B,A1 x lo a₁ A→(∀ b,lo ≤ b→B.heap[b]? = A.heap[b]?)→A1 x lo a₁ B)
 (hassign:∀ (l m:Nat) (x:α) (S:Nat→Prop) (W:World) (K:Act→World→Prop),E S W x→(∀ a₁ W1,Below W.heap.size W W1→A1 x W.heap.size a₁ W1→K a₁ W1) →
   assign.wpIn (Fence.wide.inRound l) m P (Exit.then K (fun _ _ _=>False)) { tmps:=(ps.zip (encs x)).foldl (fun t (p,v)=>t.setIfInBounds p v) a.tmps,defers:=[] } W)
 (hbody:∀ (l m:Nat) (pre:List δ) (x:α) (O:Nat→Prop) (lo:Nat) (a₁:Act) (W:World),pre ++ [dat x] <+: xs→I pre O W→w.heap.size ≤ lo→lo ≤ W.heap.size→(∀ b,O b→b < lo)→E (fun b=>b < lo∧¬ O b) W x→A1 x lo a₁ W →
   body.wpIn (Fence.wide.inRound l) m P (rgPost I Ix (pre ++ [dat x]) O W) a₁ W)
 (hdone:∀ (D:Nat) (O:Nat→Prop) (W:World),I xs O W→w.heap.size ≤ D→W.heap[D]? = some (.deferred (some []))→Q .normal { a with defers:={ target := .collected D,args:=#[] } :: a.defers } W)
 (hstop:∀ (D:Nat) (c:Code) (pre:List δ) (O:Nat→Prop) (W:World),pre <+: xs→Ix c pre O W→w.heap.size ≤ D→W.heap[D]? = some (.deferred (some []))→c.wpIn Fence.wide n P Q { a with defers:={ target := .collected D,args:=#[] } :: a.defers } W) :
 (Code.rangeFunc g ps assign body).wpIn Fence.wide n P Q a w:=by
 refine wpIn_rangeFunc ?_
 intro fn hfn
 obtain ⟨rec,hrec⟩:∃ rec:LoopState→Option Code→Loop,rec = fun st pe=>{ state:=st,pending:=pe,fn,tmps:=a.tmps,params:=ps,assign,body,defers:=w.heap.size }:=⟨_,rfl⟩
 obtain ⟨W1,hW1⟩:∃ W1,(w.alloc (.deferred (some []))).alloc (.loop (rec .ready none)) = W1:=⟨_,rfl⟩
 have hL1:W1.heap[w.heap.size + 1]? = some (.loop (rec .ready none)):=by
  rw [← hW1];have:=World.alloc_heap_new (w.alloc (.deferred (some []))) (.loop (rec .ready none));rwa [World.size_alloc] at this
 have hK1:W1.heap[w.heap.size]? = some (.deferred (some [])):=by
  rw [← hW1];exact (Below.heap_alloc _ _ _ (by simp)).trans (World.alloc_heap_new w _)
 have hb1:Below w.heap.size w W1:=by
  rw [← hW1];exact (((Below.refl _ w).alloc (nl_ _) _).alloc (by simp) _)
 have hI1:I [] O0 W1:=hI.keep h0 (Keep.of_below (O:=fun _=>False) hb1) (fun _ h=>h.elim)
 refine ⟨w.heap.size + 1,[{ target := .collected w.heap.size,args:=#[] }],W1,{ target := .fn (.func gf) lb,args:=#[.func (.yield (w.heap.size + 1)) #[] #[]] },W1,gf,
  #[.func (.yield (w.heap.size + 1)) #[] #[]] ++ lb,W1,?_,?_,?_,?_,fun h=>(by cases h),?_⟩
 · rw [← hW1,hrec];exact run_enterLoop_outer _ _ _ _ _
 · simp only [resolve,hg]
   simp [go_sem]
 · intro f' _;trivial
 · simp [invoke,go_sem,eg]
 · obtain ⟨Bk,hBk⟩:∃ Bk:Nat→Prop,Bk = fun b=>b = w.heap.size ∨ b = w.heap.size + 1:=⟨_,rfl⟩
   have hBl:Bk (w.heap.size + 1):=by rw [hBk];exact .inr rfl
   have hBge:∀ b,Bk b→w.heap.size ≤ b∧b ≤ w.heap.size + 1:=by rw [hBk];intro b hb;rcases hb with rfl | rfl <;> omega
   refine (hseq (w.heap.size + 1)
    (fun pre O W=>∃ O1,O = (fun b=>O1 b ∨ Bk b)∧(∀ b,O1 b→¬ Bk b)∧(∀ b,O1 b→b < W.heap.size)∧I pre O1 W∧W.heap[w.heap.size + 1]? = some (.loop (rec .ready none))∧W.heap[w.heap.size]? = some (.deferred (some [])))
    (fun pre O W=>∃ O1 c,O = (fun b=>O1 b ∨ Bk b)∧(∀ b,O1 b→¬ Bk b)∧Ix c pre O1 W∧W.heap[w.heap.size + 1]? = some (.loop (rec .done (some c)))∧W.heap[w.heap.size]? = some (.deferred (some [])))
    (fun b=>O0 b ∨ Bk b) W1 hb1
    (fun b ht ho=>by rcases ho with ho | ho;exact (hO0 b ho).2 ht;have:=hBge b ho;have:=hT b ht;omega)
    (fun b ho=>by have:=(Array.getElem?_eq_some_iff.1 hL1).1;rcases ho with ho | ho;have:=(hO0 b ho).1;omega;have:=hBge b ho;omega) ?_ ?_ ?_
    ⟨O0,rfl,fun b hb hk=>by have:=hBge b hk;have:=(hO0 b hb).1;omega,fun b hb=>by have:=(hO0 b hb).1;have:=hb1.size;omega,hI1,hL1,hK1⟩ (n - 1)).mono ?_
   · rintro pre O A B ⟨O1,rfl,h2,h3,h4,h5,h6⟩ hb
     exact ⟨O1,rfl,h2,fun b hb'=>by have:=h3 b hb';have:=hb.size;omega,hI.keep h4 (Keep.of_below (O:=fun _=>False) hb) (fun _ h=>h.elim),(hb.block _ (Array.getElem?_eq_some_iff.1 h5).1).trans h5,(hb.block _ (Array.getElem?_eq_some_iff.1 h6).1).trans h6⟩
   · rintro pre O A B ⟨O1,c,rfl,h2,h4,h5,h6⟩ hb
     exact ⟨O1,c,rfl,h2,(hIx c).keep h4 (Keep.of_below (O:=fun _=>False) hb) (fun _ h=>h.elim),(hb.block _ (Array.getElem?_eq_some_iff.1 h5).1).trans h5,(hb.block _ (Array.getElem?_eq_some_iff.1 h6).1).trans h6⟩
   ·
    rintro m pre x O W ⟨O1,rfl,ho,hos,hi,hl,hk⟩ hpx hx
    have hy:=run_yield (P:=P) (args:=encs x) hl (by rw [hrec];exact hps x)
    rw [hrec] at hy
    refine ⟨fn,_,assign,body,hy,roundIn_of_wpIn (F:=Fence.wide) trivial (hassign _ m x _ W _ hx fun a₁ W2 hb2 ha1=>?_)⟩
    have hlt:w.heap.size + 1 < W.heap.size:=(Array.getElem?_eq_some_iff.1 hl).1
    have hl2:W2.heap[w.heap.size + 1]? = some (.loop (rec .ready none)):=(hb2.block _ hlt).trans hl
    have hk2:W2.heap[w.heap.size]? = some (.deferred (some [])):=(hb2.block _ (by omega)).trans hk
    refine ⟨_,run_beginRound hl2 (by rw [hrec]),?_⟩
    obtain ⟨W3,hW3⟩:∃ W3,W2.putObj (w.heap.size + 1) (.loop { rec .ready none with state := .busy }) = W3:=⟨_,rfl⟩
    rw [hW3]
    have hz2:=hb2.size
    have hkp:Keep Bk W2 W3:=by rw [← hW3];exact Keep.putObj hBl
    have hl3:W3.heap[w.heap.size + 1]? = some (.loop { rec .ready none with state := .busy }):=by rw [← hW3];exact World.putObj_heap_same (by omega)
    have hk3:W3.heap[w.heap.size]? = some (.deferred (some [])):=by rw [← hW3];exact (World.putObj_heap_other (by omega)).trans hk2
    have hx':E (fun b=>b < W.heap.size∧¬ (O1 b ∨ Bk b)) W3 x:=hE hx fun b hb=>(hkp.block b (by omega) (fun h=>hb.2 (.inr h))).trans (hb2.block b hb.1)
    have hi3:I pre O1 W3:=hI.keep (hI.keep hi (Keep.of_below (O:=fun _=>False) hb2) (fun _ h=>h.elim)) hkp (fun b hb=>⟨fun h=>ho b h hb,(hBge b hb).1⟩)
    have hr3:W3.heap.size = W2.heap.size:=by rw [← hW3];simp
    refine wpIn_mono (hbody _ m pre x O1 W.heap.size a₁ W3 hpx hi3 (by omega) (by omega) hos ?_ (hA1 _ _ _ _ _ ha1 fun b hb=>?_)) ?_
    · exact hEw hx' fun b hb=>⟨hb.1,fun h=>hb.2 (.inl h)⟩
    · rw [← hW3];exact World.putObj_heap_other (by omega)
    · have fin:∀ (jump:Option Code) (O':Nat→Prop) (W4:World),Keep O1 W3 W4→(∀ b,O' b→O1 b ∨ W3.heap.size ≤ b) →
       (Instr.endRound (w.heap.size + 1) jump).run P W4 = .ok (.bool jump.isNone) (W4.putObj (w.heap.size + 1) (.loop (rec (if jump.isNone then .ready else .done) jump))) ∧
       (W4.putObj (w.heap.size + 1) (.loop (rec (if jump.isNone then .ready else .done) jump))).heap[w.heap.size + 1]? = some (.loop (rec (if jump.isNone then .ready else .done) jump)) ∧
       (W4.putObj (w.heap.size + 1) (.loop (rec (if jump.isNone then .ready else .done) jump))).heap[w.heap.size]? = some (.deferred (some [])) ∧
       (∀ b,O' b→¬ Bk b):=fun jump O' W4 hkk hoo=>by
       have hz:=hkk.size
       have hl4:=(hkk.block _ (by omega) (fun h=>ho _ h hBl)).trans hl3
       have:=run_endRound (P:=P) jump hl4
       rw [hrec] at this ⊢
       refine ⟨this,World.putObj_heap_same (by omega),(World.putObj_heap_other (by omega)).trans ((hkk.block _ (by omega) (fun h=>ho _ h (by rw [hBk];exact .inl rfl))).trans hk3),fun b hb hb'=>?_⟩
       have h1:=hBge b hb'
       rcases hoo b hb with h | h
       · exact ho b h hb'
       · omega
      rintro e a3 W4 hp
      cases e with
      | normal=>
        obtain ⟨O',hi4,hkk,hoo,hoz⟩:=hp
        obtain ⟨hr,e1,e2,e3⟩:=fin none O' W4 hkk hoo
        have hkp2:Keep Bk W4 (W4.putObj (w.heap.size + 1) (.loop (rec .ready none))):=Keep.putObj hBl
        refine ⟨_,_,hr, .inl ⟨rfl,_,⟨O',rfl,e3,?_,hI.keep hi4 hkp2 (fun b hb=>⟨fun h=>e3 b h hb,(hBge b hb).1⟩),e1,e2⟩,?_,?_,?_⟩⟩
        · intro b hb;have:=hoz b hb;simpa using this
        · refine ((Keep.of_below (O:=fun b=>O1 b ∨ Bk b) hb2).trans (hkp.mono fun b _ h => .inr h)).trans ((hkk.mono fun b _ h => .inl h).trans (hkp2.mono fun b _ h => .inr h))
        · intro b hb
          rcases hb with hb | hb
          · rcases hoo b hb with h | h
            · exact .inl (.inl h)
            · exact .inr (by omega)
          · exact .inl (.inr hb)
        · intro b hb
          have hz:=hkk.size
          rcases hb with hb | hb
          · have:=hoz b hb;simpa using this
          · have:=hBge b hb;simp;omega
      | ret=>
        obtain ⟨O',hi4,hkk,hoo⟩:=hp
        obtain ⟨hr,e1,e2,e3⟩:=fin (some .ret) O' W4 hkk hoo
        have hkp2:Keep Bk W4 (W4.putObj (w.heap.size + 1) (.loop (rec .done (some .ret)))):=Keep.putObj hBl
        exact ⟨_,_,hr, .inr ⟨rfl,_,⟨O', .ret,rfl,e3,(hIx _).keep hi4 hkp2 (fun b hb=>⟨fun h=>e3 b h hb,(hBge b hb).1⟩),e1,e2⟩,((Keep.of_below (O:=fun b=>O1 b ∨ Bk b) hb2).trans (hkp.mono fun b _ h => .inr h)).trans ((hkk.mono fun b _ h => .inl h).trans (hkp2.mono fun b _ h => .inr h))⟩⟩
      | exit id=>exact hp.elim
      | goto t=>exact hp.elim
      | panic ch=>exact hp.elim
      | outgrown=>exact hp.elim
   ·
    rintro e W2 ⟨⟨v,rfl⟩,(⟨O',O1,rfl,ho,hos,hi,hl,hk⟩ | ⟨pre,O',hpre,O1,c,rfl,ho,hi,hl,hk⟩)⟩
    · have hlt:w.heap.size + 1 < W2.heap.size:=(Array.getElem?_eq_some_iff.1 hl).1
      have hkp2:∀ o,Keep Bk W2 (W2.putObj (w.heap.size + 1) o):=fun o=>Keep.putObj hBl
      exact ⟨none,_,by have:=run_endLoop (P:=P) hl (by rw [hrec];simp);rw [hrec] at this;exact this,hdone _ O1 _ (hI.keep hi (hkp2 _) (fun b hb=>⟨fun h=>ho b h hb,(hBge b hb).1⟩)) (nl_ _) ((World.putObj_heap_other (by omega)).trans hk)⟩
    · have hkp2:∀ o,Keep Bk W2 (W2.putObj (w.heap.size + 1) o):=fun o=>Keep.putObj hBl
      exact ⟨some c,_,by have:=run_endLoop (P:=P) hl (by rw [hrec];simp);rw [hrec] at this;exact this,hstop _ c pre O1 _ hpre ((hIx c).keep hi (hkp2 _) (fun b hb=>⟨fun h=>ho b h hb,(hBge b hb).1⟩)) (nl_ _) ((World.putObj_heap_other (by omega)).trans hk)⟩
end Go.Proofs.LF
namespace Go.Proofs.LF
open Go.RowKit
structure Rd (α:Type) (k:Nat) where
 R:(Nat→Prop)→World→α→List Value→Prop
 len:∀ {S w x cs},R S w x cs→cs.length = k
 one:∀ {S w x cs},R S w x cs→∀ u ∈ cs,u.oneCell' = true
 agree:∀ {S w w' x cs},R S w x cs→Agree S w w'→R S w' x cs
 wide:∀ {S S' w x cs},R S w x cs→(∀ b,S b→S' b)→R S' w x cs
variable {α:Type} {k:Nat} (r:Rd α k)
def LCs (S:Nat→Prop) (w:World):List α→List Value→Prop
 | [],cs=>cs = []
 | x :: xs,cs=>∃ c ds,cs = c ++ ds∧r.R S w x c∧LCs S w xs ds
def LSl (S:Nat→Prop) (w:World) (v:Value) (xs:List α):Prop:=∃ cs,SlC S w k v xs.length cs∧LCs r S w xs cs
variable {r}
theorem LCs.agree {S:Nat→Prop} {w w':World} (ha:Agree S w w'):∀ {xs:List α} {cs:List Value},LCs r S w xs cs→LCs r S w' xs cs
 | [],_,h=>h
 | _ :: _,_,⟨c,ds,h1,h2,h3⟩=>⟨c,ds,h1,r.agree h2 ha,h3.agree ha⟩
theorem LCs.wide {S S':Nat→Prop} {w:World} (hs:∀ b,S b→S' b):∀ {xs:List α} {cs:List Value},LCs r S w xs cs→LCs r S' w xs cs
 | [],_,h=>h
 | _ :: _,_,⟨c,ds,h1,h2,h3⟩=>⟨c,ds,h1,r.wide h2 hs,h3.wide hs⟩
theorem LSl.agree {S:Nat→Prop} {w w':World} {v:Value} {xs:List α} (h:LSl r S w v xs) (ha:Agree S w w'):LSl r S w' v xs:=let ⟨cs,h1,h2⟩:=h;⟨cs,h1.agree ha,h2.agree ha⟩
theorem LSl.wide {S S':Nat→Prop} {w:World} {v:Value} {xs:List α} (h:LSl r S w v xs) (hs:∀ b,S b→S' b):LSl r S' w v xs:=let ⟨cs,h1,h2⟩:=h;⟨cs,h1.wide hs,h2.wide hs⟩
theorem Stable.lcs (xs:List α) (cs:List Value):Stable (fun S w=>LCs r S w xs cs):=⟨fun h ha=>h.agree ha,fun h hw=>h.wide hw⟩
theorem Stable.lsl (v:Value) (xs:List α):Stable (fun S w=>LSl r S w v xs):=⟨fun h ha=>h.agree ha,fun h hw=>h.wide hw⟩
theorem LCs.length {S:Nat→Prop} {w:World}:∀ {xs:List α} {cs:List Value},LCs r S w xs cs→cs.length = xs.length * k
 | [],_,h=>by rw [show _ = [] from h];simp
 | _ :: xs,_,⟨c,ds,h1,h2,h3⟩=>by rw [h1,List.length_append,r.len h2,h3.length,List.length_cons,Nat.add_mul];omega
theorem LCs.one {S:Nat→Prop} {w:World}:∀ {xs:List α} {cs:List Value},LCs r S w xs cs→∀ u ∈ cs,u.oneCell' = true
 | [],_,h=>by rw [show _ = [] from h];simp
 | _ :: xs,_,⟨c,ds,h1,h2,h3⟩=>by
   intro u hu
   rw [h1,List.mem_append] at hu
   rcases hu with hu | hu
   · exact r.one h2 u hu
   · exact h3.one u hu
theorem LCs.app {S:Nat→Prop} {w:World}:∀ {xs ys:List α} {cs ds:List Value},LCs r S w xs cs→LCs r S w ys ds→LCs r S w (xs ++ ys) (cs ++ ds)
 | [],_,_,_,h,h'=>by rw [show _ = [] from h];exact h'
 | _ :: _,_,_,_,⟨c,es,h1,h2,h3⟩,h'=>⟨c,_,by rw [h1,List.append_assoc],h2,h3.app h'⟩
theorem LCs.single {S:Nat→Prop} {w:World} {x:α} {c:List Value} (h:r.R S w x c):LCs r S w [x] c:=⟨c,[],by simp,h,rfl⟩
theorem LCs.drop {S:Nat→Prop} {w:World}:∀ {i:Nat} {xs:List α} {cs:List Value},LCs r S w xs cs→LCs r S w (xs.drop i) (cs.drop (i * k))
 | 0,_,_,h=>by simpa using h
 | i + 1,[],_,h=>by rw [show _ = [] from h];simp [LCs]
 | i + 1,_ :: xs,_,⟨c,ds,h1,h2,h3⟩=>by
   rw [h1,show (i + 1) * k = c.length + i * k from by rw [r.len h2,Nat.add_mul];omega,List.drop_length_add_append]
   exact h3.drop (i:=i)
theorem LCs.take {S:Nat→Prop} {w:World}:∀ {i:Nat} {xs:List α} {cs:List Value},LCs r S w xs cs→LCs r S w (xs.take i) (cs.take (i * k))
 | 0,_,_,h=>by simp [LCs]
 | i + 1,[],_,h=>by rw [show _ = [] from h];simp [LCs]
 | i + 1,_ :: xs,_,⟨c,ds,h1,h2,h3⟩=>by
   rw [h1,show (i + 1) * k = c.length + i * k from by rw [r.len h2,Nat.add_mul];omega,List.take_length_add_append]
   exact ⟨c,_,rfl,h2,h3.take (i:=i)⟩
theorem LSl.shape {S:Nat→Prop} {w:World} {v:Value} {xs:List α} (h:LSl r S w v xs):∃ a c,v = .slice a xs.length c∧xs.length ≤ c∧c ≤ maxLen:=let ⟨_,h1,_⟩:=h;h1.shape
theorem LSl.at {S:Nat→Prop} {w:World} {v:Value} {xs:List α} (h:LSl r S w v xs):∃ a c,v = .slice a xs.length c∧xs.length ≤ c∧c ≤ maxLen∧∀ i (hi:i < xs.length),∃ g o cs,a = some ⟨g,o,none⟩∧S g∧r.R S w xs[i] cs ∧
 ∀ j u,cs[j]? = some u→w.cell? ⟨g,o + (i * k + j),none⟩ = some u:=by
 obtain ⟨ds,⟨hl,a,c,rfl,hc,hm,_,hh⟩,hf⟩:=h
 refine ⟨a,c,rfl,hc,hm,fun i hi=>?_⟩
 rcases hh with h0 | ⟨g,o,rfl,hg1,hcell⟩
 · omega
 · have hf':=hf.drop (i:=i)
   rw [List.drop_eq_getElem_cons hi] at hf'
   obtain ⟨cs,es,he,hr,_⟩:=hf'
   refine ⟨g,o,cs,rfl,hg1,hr,fun j u hj=>hcell (i * k + j) u ?_⟩
   rw [← List.getElem?_drop,he,List.getElem?_append_left (List.getElem?_eq_some_iff.1 hj).1]
   exact hj
def Sx (S:Nat→Prop) (lo hi:Nat) (v:Value) (b:Nat):Prop:=S b ∨ Rx lo hi v b
structure Fl where
 p:List Ky
 l:List Int
 deriving DecidableEq
def rdFl:Rd Fl 2 where
 R S w x cs:=∃ ap cp an cn,cs = [.slice ap x.p.length cp, .slice an x.l.length cn]∧Pth S w (.slice ap x.p.length cp) x.p∧Ints S w (.slice an x.l.length cn) x.l
 len:=by rintro S w x cs ⟨_,_,_,_,rfl,_⟩;rfl
 one:=by rintro S w x cs ⟨_,_,_,_,rfl,_⟩ u hu;simp at hu;rcases hu with rfl | rfl <;> rfl
 agree:=by rintro S w w' x cs ⟨a,b,c,d,rfl,h1,h2⟩ ha;exact ⟨a,b,c,d,rfl,h1.agree ha,h2.agree ha⟩
 wide:=by rintro S w w' x cs ⟨a,b,c,d,rfl,h1,h2⟩ ha;exact ⟨a,b,c,d,rfl,h1.wide ha,h2.wide ha⟩
def rdPa:Rd (List Ky) 1 where
 R S w x cs:=∃ ap cp,cs = [.slice ap x.length cp]∧Pth S w (.slice ap x.length cp) x
 len:=by rintro S w x cs ⟨_,_,rfl,_⟩;rfl
 one:=by rintro S w x cs ⟨_,_,rfl,_⟩ u hu;simp at hu;rcases hu with rfl;rfl
 agree:=by rintro S w w' x cs ⟨a,b,rfl,h1⟩ ha;exact ⟨a,b,rfl,h1.agree ha⟩
 wide:=by rintro S w w' x cs ⟨a,b,rfl,h1⟩ ha;exact ⟨a,b,rfl,h1.wide ha⟩
structure Ch where
 p:List Ky
 had:Bool
 has:Bool
 old:List Int
 new:List Int
 deriving DecidableEq
def rdCh:Rd Ch 5 where
 R S w x cs:=∃ ap cp ao co an cn,cs = [.slice ap x.p.length cp, .bool x.had, .bool x.has, .slice ao x.old.length co, .slice an x.new.length cn]∧Pth S w (.slice ap x.p.length cp) x.p∧Ints S w (.slice ao x.old.length co) x.old∧Ints S w (.slice an x.new.length cn) x.new
 len:=by rintro S w x cs ⟨_,_,_,_,_,_,rfl,_⟩;rfl
 one:=by rintro S w x cs ⟨_,_,_,_,_,_,rfl,_⟩ u hu;simp at hu;rcases hu with rfl | rfl | rfl | rfl | rfl <;> rfl
 agree:=by rintro S w w' x cs ⟨a,b,c,d,e,f,rfl,h1,h2,h3⟩ ha;exact ⟨a,b,c,d,e,f,rfl,h1.agree ha,h2.agree ha,h3.agree ha⟩
 wide:=by rintro S w w' x cs ⟨a,b,c,d,e,f,rfl,h1,h2,h3⟩ ha;exact ⟨a,b,c,d,e,f,rfl,h1.wide ha,h2.wide ha,h3.wide ha⟩
abbrev FlSl:=LSl rdFl
abbrev PaSl:=LSl rdPa
abbrev ChSl:=LSl rdCh
def cmpP:List Ky→List Ky→Int
 | [],[]=>0
 | [],_ :: _ => -1
 | _ :: _,[]=>1
 | a :: x,b :: y=>if byK a b ≠ 0 then byK a b else cmpP x y
end Go.Proofs.LF
namespace Go.Proofs.LF
def wordsL (n:List UInt8) (l:List Int):List (List UInt8):=n :: l.map Lib.itoa
def lineB (x:NdD):List UInt8:=List.replicate x.up.length 32 ++ (Lib.join (wordsL x.n x.l) [32] ++ [10])
def txtL (xs:List NdD):List UInt8:=(xs.map lineB).flatten
theorem txtL_one (xs:List NdD) (x:NdD):txtL (xs ++ [x]) = txtL xs ++ lineB x:=by simp [txtL]
theorem txtL_app (xs ys:List NdD):txtL (xs ++ ys) = txtL xs ++ txtL ys:=by simp [txtL]
def OkN (x:NdD):Prop:=badNm x.n = false∧x.l.length ≤ 4∧badNs x.l = false
theorem ordG_ok {bad:Ky→Ky→Bool}:∀ (y:Fo) (d:Int) (p:Option Ky) (up:List Ky),ordG bad d p y = 0→∀ x ∈ nodesL up y,OkN x
 | .nil,_,_,_,_,x,hx=>by simp [nodesL] at hx
 | .cons n l s r,d,p,up,h,x,hx=>by
   simp only [ordG] at h
   have a1:¬ (3 < d):=fun e=>by rw [if_pos e] at h;omega
   rw [if_neg a1] at h
   have a2:badNm n ≠ true:=fun e=>by rw [if_pos e] at h;omega
   rw [if_neg a2] at h
   have a3:¬ (4 < (l.length:Int)):=fun e=>by rw [if_pos e] at h;omega
   rw [if_neg a3] at h
   have a4:badNs l ≠ true:=fun e=>by rw [if_pos e] at h;omega
   rw [if_neg a4] at h
   have h:(if ordG bad (d + 1) none s ≠ 0 then ordG bad (d + 1) none s else ordG bad d (some (kyOf n l)) r) = 0:=by
    cases p with
    | none=>dsimp only at h;rwa [if_neg (by simp)] at h
    | some q=>
      dsimp only at h
      have a5:¬ (bad q (kyOf n l) = true):=fun e=>by rw [if_pos e] at h;omega
      rwa [if_neg a5] at h
   have a6:¬ (ordG bad (d + 1) none s ≠ 0):=fun e=>by rw [if_pos e] at h;exact e h
   rw [if_neg a6] at h
   simp only [ne_eq,Decidable.not_not] at a6
   simp only [nodesL,List.mem_cons,List.mem_append] at hx
   rcases hx with rfl | hx | hx
   · exact ⟨by simpa using a2,by simp only;omega,by simpa using a4⟩
   · exact ordG_ok s _ _ _ a6 x hx
   · exact ordG_ok r _ _ _ h x hx
theorem badNs_mem {l:List Int} (h:badNs l = false):∀ x ∈ l,0 ≤ x∧x ≤ 9999:=by
 intro x hx
 simp only [badNs,List.any_eq_false,offB,Bool.or_eq_true,decide_eq_true_eq,not_or] at h
 have:=h x hx
 omega
theorem badNm_len {s:List UInt8} (h:badNm s = false):1 ≤ s.length∧s.length ≤ 8:=by
 simp only [badNm,Bool.or_eq_false_iff,decide_eq_false_iff_not] at h
 omega
theorem dig_len:∀ (k u:Nat),u < 10 ^ (k + 1)→(Lib.decDigits u).length ≤ k + 1
 | 0,u,h=>by rw [Lib.decDigits,dif_pos (by simpa using h)];simp
 | k + 1,u,h=>by
   rw [Lib.decDigits]
   split
   · simp
   · have:=dig_len k (u / 10) (by rw [Nat.div_lt_iff_lt_mul (by omega)];rw [Nat.pow_succ] at h;omega)
     simp;omega
theorem itoa_len {i:Int} (h:0 ≤ i) (h2:i ≤ 9999):(Lib.itoa i).length ≤ 4:=by
 unfold Lib.itoa
 rw [if_neg (by omega)]
 exact dig_len 3 _ (by simp;omega)
theorem join_words (n:List UInt8) (l:List Int):Lib.join (wordsL n l) [32] = n ++ (l.map fun i=>32 :: Lib.itoa i).flatten:=by
 rw [wordsL,Lib.join_cons,Lib.joinTail,List.map_map]
 rfl
theorem flat_len {l:List Int}:(∀ x ∈ l,0 ≤ x∧x ≤ 9999)→(l.map fun i=>32 :: Lib.itoa i).flatten.length ≤ 5 * l.length:=by
 induction l with
 | nil=>intro _;simp
 | cons x l ih=>
   intro h
   have h1:=itoa_len (h x (by simp)).1 (h x (by simp)).2
   have h2:=ih fun z hz=>h z (by simp [hz])
   simp only [List.map_cons,List.flatten_cons,List.length_append,List.length_cons]
   omega
theorem line_len {x:NdD} (h:OkN x) (hu:x.up.length ≤ 900):(lineB x).length ≤ 930:=by
 have h1:=badNm_len h.1
 have h2:=flat_len (badNs_mem h.2.2)
 have h3:=h.2.1
 simp only [lineB,join_words,List.length_append,List.length_replicate,List.length_singleton]
 omega
theorem nodesL_up:∀ (y:Fo) (up:List Ky),∀ x ∈ nodesL up y,x.up.length ≤ up.length + y.cnt
 | .nil,_,x,hx=>by simp [nodesL] at hx
 | .cons n l s r,up,x,hx=>by
   simp only [nodesL,List.mem_cons,List.mem_append] at hx
   rcases hx with rfl | hx | hx
   · simp only;omega
   · have:=nodesL_up s _ x hx;simp [Fo.cnt] at *;omega
   · have:=nodesL_up r _ x hx;simp [Fo.cnt] at *;omega
theorem txt_len:∀ (xs:List NdD),(∀ x ∈ xs,OkN x∧x.up.length ≤ 900)→(txtL xs).length ≤ 930 * xs.length
 | [],_=>by simp [txtL]
 | x :: xs,h=>by
   have h1:=line_len (h x (by simp)).1 (h x (by simp)).2
   have h2:=txt_len xs fun z hz=>h z (by simp [hz])
   have:txtL (x :: xs) = lineB x ++ txtL xs:=by simp [txtL]
   rw [this,List.length_append,List.length_cons];omega
end Go.Proofs.LF
namespace Go.Proofs.LF
open Go.RowKit
variable {P:Program}
def SetM (P:Program) (k e:TypeId) (b n:Nat) (l:List (List UInt8)) (w:World):Prop:=
 ∃ D:DataW Unit,w.ownsMap P k (plainElem P e) b n D∧∀ s:List UInt8,D.atKey (.string s) (.lit (.bool false)) = .lit (.bool (decide (s ∈ l)))
theorem SetM.made (k e:TypeId) (w:World):SetM P k e w.heap.size 0 [] (w.alloc (.map #[] 0)):=
 ⟨_,World.ownsMap_made _ _ _ _,fun s=>by simp [DataW.atKey]⟩
theorem SetM.kept {k e:TypeId} {b n:Nat} {l:List (List UInt8)} {w w':World} (h:SetM P k e b n l w) (hb:w'.heap[b]? = w.heap[b]?):SetM P k e b n l w':=by
 obtain ⟨D,⟨es,clock,h1,h2⟩,h3⟩:=h
 exact ⟨D,⟨es,clock,hb.trans h1,h2⟩,h3⟩
theorem SetM.lt {k e:TypeId} {b n:Nat} {l:List (List UInt8)} {w:World} (h:SetM P k e b n l w):b < w.heap.size:=let ⟨_,h1,_⟩:=h;h1.lt
theorem keyS {k:TypeId} (hk:P.underlying k = some .string) (s:List UInt8) (hs:s.length ≤ maxLen):keyOf P k (.string (bs s)) = some (.string s):=by
 have:=WideMaps.keyOf_string_mk hk (s:=bs s) (by rw [bs_size];exact hs)
 rwa [bs_data] at this
theorem SetM.look {t k e:TypeId} {b n:Nat} {l:List (List UInt8)} {w:World} (h:SetM P k e b n l w) (ht:P.underlying t = some (.map k e)) (hk:P.underlying k = some .string) (he:P.underlying e = some .bool) (hz:(zeroValue e).run P w = .ok (.bool false) w)
 (s:List UInt8) (hs:s.length ≤ maxLen):(Instr.lookup t (.map (some b)) (.string (bs s)) false).run P w = .ok (.bool (decide (s ∈ l))) w:=by
 obtain ⟨D,h1,h2⟩:=h
 obtain ⟨v,ps,hrun,hv⟩:=h1.lookup (Maps.string_keyed hk) ht hz (plainElem_bool he false) (keyS hk s hs)
 rw [h2 s] at hv
 unfold plainElem at hv
 rw [he] at hv
 cases v <;> simp at hv
 rw [hrun,hv.1]
theorem SetM.put {t k e:TypeId} {b n:Nat} {l:List (List UInt8)} {w:World} (h:SetM P k e b n l w) (ht:P.underlying t = some (.map k e)) (hk:P.underlying k = some .string) (he:P.underlying e = some .bool)
 (s:List UInt8) (hs:s.length ≤ maxLen) (hn:n < maxLen):∃ w',(Instr.mapUpdate t (.map (some b)) (.string (bs s)) (.bool true)).run P w = .ok () w'∧SetM P k e b (n + 1) (s :: l) w'∧w.grownBy w' (some b):=by
 obtain ⟨D,h1,h2⟩:=h
 obtain ⟨w',hrun,h3,h4⟩:=h1.update (Maps.string_keyed hk) ht hn (keyS hk s hs) (plainElem_bool he true)
 refine ⟨w',hrun,⟨_,h3,fun s'=>?_⟩,h4⟩
 by_cases hss:s' = s
 · subst hss
   rw [Maps.atKey_put_same h1.isMap (by trivial)]
   simp
 · rw [Maps.atKey_put_other (by simpa using hss),h2 s']
   simp [hss]
theorem wpList_setLook {w:World} {ops:Array Oper} {rest:List Oper} {o:Oper} {a:Act} {Q:Exit→Act→World→Prop}
 (hg:o.guard = none) (m x:Operand) (t:TypeId) (hop:o.op = Op.lookup t m x false)
 (k e:TypeId) (ht:P.underlying t = some (.map k e)) (hk:P.underlying k = some .string) (he:P.underlying e = some .bool) (hz:(zeroValue e).run P w = .ok (.bool false) w) (b n:Nat) (l:List (List UInt8))
 (hm:a.eval m = .map (some b)) (h:SetM P k e b n l w) (s:List UInt8) (hs:s.length ≤ maxLen) (hx:a.eval x = .string (bs s))
 (hK:wpList P ops Q rest (a.put o.dst (.bool (decide (s ∈ l)))) w):wpList P ops Q (o :: rest) a w:=by
 refine wpList_plain hg fun K' hK'=>?_
 unfold Oper.wp
 simp [execOp,hop,hm,hx,h.look ht hk he hz s hs,Result.andThen]
 exact hK' _ _ (by simpa using hK)
theorem wp_setPut {w:World} {o:Oper} {a:Act} {K:Act→World→Prop} {Q:Exit→Act→World→Prop}
 (m x v:Operand) (t:TypeId) (hop:o.op = Op.mapUpdate t m x v)
 (k e:TypeId) (ht:P.underlying t = some (.map k e)) (hk:P.underlying k = some .string) (he:P.underlying e = some .bool) (b n:Nat) (l:List (List UInt8))
 (hm:a.eval m = .map (some b)) (h:SetM P k e b n l w) (hn:n < maxLen) (s:List UInt8) (hs:s.length ≤ maxLen) (hx:a.eval x = .string (bs s)) (hv:a.eval v = .bool true)
 (hK:∀ w',SetM P k e b (n + 1) (s :: l) w'→w.grownBy w' (some b)→K (a.put o.dst undef) w'):o.wp P a w K Q:=by
 obtain ⟨w',hrun,h1,h2⟩:=h.put ht hk he s hs hn
 unfold Oper.wp
 simp [execOp,hop,hm,hx,hv,hrun,Result.andThen]
 exact hK w' h1 h2
end Go.Proofs.LF
namespace Go.Proofs.LF
open Go.Lib
theorem index_ten:∀ (s:List UInt8),((10:UInt8) ∉ s∧index s [10] = -1) ∨ ∃ A R,s = A ++ 10 :: R∧(10:UInt8) ∉ A∧index s [10] = A.length
 | [] => .inl ⟨by simp,rfl⟩
 | c :: s=>by
   by_cases hc:c = 10
   · subst hc
     exact .inr ⟨[],s,rfl,by simp,by simp [index]⟩
   · have hp:([10]:List UInt8).isPrefixOf (c :: s) = false:=by
      simp only [List.isPrefixOf,Bool.and_true,beq_eq_false_iff_ne]
      exact fun e=>hc e.symm
     rcases index_ten s with ⟨h1,h2⟩ | ⟨A,R,h1,h2,h3⟩
     · left
       refine ⟨by simp [h1,Ne.symm hc],?_⟩
       rw [index,hp,h2];rfl
     · right
       refine ⟨c :: A,R,by rw [h1];rfl,by simp [h2,Ne.symm hc],?_⟩
       rw [index,hp,h3,if_neg (by simp),if_neg (by simp)]
       simp
theorem pcs_one:∀ {s:List UInt8},(10:UInt8) ∉ s→pcs s = [s]
 | [],_=>rfl
 | c :: s,h=>by
   simp only [List.mem_cons,not_or] at h
   rw [pcs,if_neg (fun e=>h.1 e.symm),pcs_one h.2]
theorem splitK_pcs:∀ (m:Nat) (s:List UInt8),s.length ≤ m→splitK [10] 1 (count s [10]) s = pcs s∧(pcs s).length = count s [10] + 1∧count s [10] ≤ s.length
 | m,s,h=>by
   rcases index_ten s with ⟨h1,h2⟩ | ⟨A,R,h1,h2,h3⟩
   · rw [count_miss h2,pcs_one h1]
     exact ⟨rfl,rfl,Nat.zero_le _⟩
   · have hc:=count_hit (s:=s) (sub:=[10]) (i:=A.length) (by simp) h3
     have hd:s.drop (A.length + ([10]:List UInt8).length) = R:=by rw [h1];simp
     have hlen:s.length = A.length + 1 + R.length:=by rw [h1];simp;omega
     rw [hd] at hc
     cases m with
     | zero=>omega
     | succ m=>
       obtain ⟨i1,i2,i3⟩:=splitK_pcs m R (by omega)
       have hp:pcs s = (A ++ [10]) :: pcs R:=by rw [h1];exact pcs_line h2
       rw [hc,Nat.add_comm 1,hp]
       refine ⟨?_,by simp [i2],by omega⟩
       rw [splitK,if_neg (by rw [h3];simp),h3,Int.toNat_natCast,hd,i1]
       congr 1
       rw [h1,show A ++ 10 :: R = (A ++ [10]) ++ R by simp,List.take_left' (by simp)]
theorem bs_inj' {a b:ByteArray} (h:a.data.toList = b.data.toList):a = b:=by
 cases a;cases b
 congr 1
 exact Array.toList_inj.1 h
theorem splitB_pcs (t:List UInt8):splitB ⟨#[10]⟩ 1 (countB (bs t) ⟨#[10]⟩) (bs t) = (pcs t).map bs∧(pcs t).length = countB (bs t) ⟨#[10]⟩ + 1∧countB (bs t) ⟨#[10]⟩ ≤ t.length:=by
 have hb:countB (bs t) ⟨#[10]⟩ = count t [10]:=by simp [countB,bs]
 obtain ⟨h1,h2,h3⟩:=splitK_pcs t.length t (nl_ _)
 rw [hb]
 refine ⟨?_,h2,h3⟩
 have h4:=splitB_data ⟨#[10]⟩ 1 (count t [10]) (bs t)
 have h5:(bs t).data.toList = t:=by simp [bs]
 rw [h5] at h4
 have h6:splitK (ByteArray.mk #[10]).data.toList 1 (count t [10]) t = pcs t:=h1
 rw [h6] at h4
 rw [← h4,List.map_map]
 have:∀ l:List ByteArray,l.map (bs ∘ fun x=>x.data.toList) = l:=fun l=>by
  conv=>rhs;rw [← List.map_id l]
  exact List.map_congr_left fun x _=>bs_inj' (by simp [bs])
 rw [this]
end Go.Proofs.LF
namespace Go.Proofs.LF
open Go.RowKit
set_option maxHeartbeats 1000000
set_option maxRecDepth 100000
attribute [local go_sem] bs_toList
theorem key_any (n:List UInt8) (l:List Int) (an:Option Addr) (cn:Nat) (vs:Value) (S:Nat→Prop) (w:World) (hl:Ints S w (.slice an l.length cn) l) (hS:∀ b,S b→b < w.heap.size) (sa:Option Addr) (sl sc:Nat) (hvs:vs = .slice sa sl sc) :
 Calls Tryz.prog 136 #[.agg #[.string (bs n), .slice an l.length cn,vs]] w fun e w'=>e = .returned (.agg #[.string (bs (kyOf n l).n), .bool (kyOf n l).h, .int .i64 (kyOf n l).x])∧Below w.heap.size w w':=by
 subst hvs
 cases l with
 | nil=>
   go_enter Tryz.func136,Tryz.ntmps136
   go_wp2
   exact bodyPost_ret (v := .agg #[.string (bs n), .bool false, .int .i64 0]) (by simp [results,Tryz.results136,go_sem]) rfl ⟨rfl,((Below.refl _ _).alloc (nl_ _) _).alloc (by simp) _⟩
 | cons x l=>
   obtain ⟨g,o,rfl,hg,_,_,hcell⟩:=SlC.cells hl (by simp)
   · have hx:w.cell? ⟨g,o,none⟩ = some (.int .i64 x):=hcell 0 _ rfl
     have hg':=hS g hg
     clear hcell
     go_enter Tryz.func136,Tryz.ntmps136
     go_wp2_with fail
     go_region_held3 (fun w'=>w'.cell? ⟨w.heap.size,0,none⟩ = some (.string (bs n))∧w'.cell? ⟨w.heap.size,1,none⟩ = some (.slice (some ⟨g,o,none⟩) (l.length + 1) cn)∧w'.cell? ⟨g,o,none⟩ = some (.int .i64 x)) (go_keep) (fail)
     go_wp2
     exact bodyPost_ret (v := .agg #[.string (bs n), .bool true, .int .i64 x]) (by simp [results,Tryz.results136,go_sem]) rfl ⟨rfl,(((Below.refl _ _).alloc (nl_ _) _).alloc (by simp) _).drew⟩
theorem Tryz.info3:(Tryz.prog.info? 3).map (fun i=>(i.zero,i.size,i.bytes)) = some (some (.int .i64 0),1,8):=by kernel_rfl
end Go.Proofs.LF
namespace Go.Proofs.LF
open Go.RowKit
section
variable {F:Fence} {n:Nat} {P:Program} {ops:Array Oper} {Q:Exit→Act→World→Prop} {md:Region.Mode} {S:World→Prop}
def YIf (P:Program) (ops:Array Oper) (S:World→Prop) (o:Oper) (v:Value) (a:Act):Prop:=
 (Region.wanted o (yielded ops a.tmps) = true∧∀ w,S w→(execOp a.eval o).run P w = .ok (.value v) w) ∨
 (Region.wanted o (yielded ops a.tmps) = false∧v = undef)
def notDefer (o:Oper):Bool:=match o.op with | .defer _=>false | _=>true
theorem semAt_of {o:Oper} (h:notDefer o = true) {r:Option Nat} {ρ:Operand→Value}:Oper.semAt r ρ o = execOp ρ o:=
 Oper.semAt_eq r ρ o fun c e=>by simp [notDefer,e] at h
theorem YIf.of_same {o:Oper} {v:Value} {a a':Act} (hy:YIf P ops S o v a) (he:execOp a'.eval o = execOp a.eval o)
 (hw:Region.wanted o (yielded ops a'.tmps) = Region.wanted o (yielded ops a.tmps)):YIf P ops S o v a':=by
 unfold YIf at *
 rw [he,hw]
 exact hy
theorem YIf.wpOp (hF:∀ f,F.fn f) {i:Nat} {o:Oper} {v:Value} {a:Act} (hi:ops[i]? = some o) (hnd:notDefer o = true) (hy:YIf P ops S o v a)
 {K:Act→World→Prop} {w:World} (hS:S w) (h:K (a.put o.dst v) w):wpOpIn F n P ops Q i K a w:=by
 unfold wpOpIn
 simp only [hi]
 rcases hy with ⟨hw,hv⟩ | ⟨hw,rfl⟩
 · simp only [hw,if_true,Oper.wpIn,semAt_of hnd,hv w hS,Oper.uponIn];exact ⟨fun f _=>hF f,h⟩
 · simp only [hw,Bool.false_eq_true,if_false];exact ⟨fun f _=>hF f,h⟩
theorem wpOpIn_putIf {j:Nat} {oi oj:Oper} {v:Value} (hj:ops[j]? = some oj) (hnd:notDefer oj = true) (hap:oi.apart ops oj = true)
 (hsi:∀ cs b,oi.op ≠ .select cs b) (hsj:∀ cs b,oj.op ≠ .select cs b)
 (hQ:∀ c a w,Q (.panic c) (a.put oi.dst v) w→Q (.panic c) a w) {K:Act→World→Prop} {a:Act} {w:World}
 (hy:YIf P ops S oi v a) (h:wpOpIn F n P ops Q j K (a.put oi.dst v) w) :
 wpOpIn F n P ops Q j (fun a' w'=>YIf P ops S oi v a'∧K (a'.put oi.dst v) w') a w:=by
 obtain ⟨h1,h2,h3⟩:=Oper.apart_spec hap
 have keep:∀ (a:Act),YIf P ops S oi v a→∀ u,YIf P ops S oi v (a.put oj.dst u):=fun a hy u=>
  hy.of_same (execOp_put oi hsi a oj.dst u h3) (wanted_put oi a oj.dst u h3)
 have keepD:∀ d,YIf P ops S oi v { a with defers:=d :: a.defers }:=fun d=>hy.of_same rfl rfl
 unfold wpOpIn at *
 simp only [hj] at *
 rw [wanted_put oj a oi.dst v h1,about_put oj w a oi.dst v h1] at h
 split
 · rename_i hw
   simp only [hw,if_true] at h
   unfold Oper.wpIn at *
   rw [about_put oj w a oi.dst v h1] at h
   refine ⟨h.1,?_⟩
   have h:=h.2
   rw [semAt_of hnd,execOp_put oj hsj a oi.dst v h1] at h
   rw [semAt_of hnd]
   generalize (execOp a.eval oj).run P w = r at *
   cases r with
   | ok x w'=>
     cases x <;> simp only [Oper.uponIn] at h ⊢
     case value u=>exact ⟨keep a hy u,by rw [← Act.put_comm a v u h2];exact h⟩
     case skip=>exact ⟨keep a hy _,by rw [← Act.put_comm a v undef h2];exact h⟩
     case defer d=>
      refine ⟨keep _ (keepD d) _,?_⟩
      rw [← Act.put_comm _ v undef h2,← Act.put_defers]
      exact h
     case enter f args=>
      refine ⟨h.1,CallsIn.mono h.2 fun e w'' he=>?_⟩
      cases e with
      | returned u=>exact ⟨keep a hy u,by rw [← Act.put_comm a v u h2];exact he⟩
      | panicked c=>exact hQ _ _ _ he
      | outgrown=>exact he
     case row row args=>exact ⟨h.1,RowsIn.mono h.2 fun u w'' he=>⟨keep a hy u,by rw [← Act.put_comm a v u h2];exact he⟩⟩
     case round l f tmps assign body=>
      refine ⟨h.1,RoundIn.mono h.2 fun e w'' he=>?_⟩
      cases e with
      | returned u=>exact ⟨keep a hy u,by rw [← Act.put_comm a v u h2];exact he⟩
      | panicked c=>exact hQ _ _ _ he
      | outgrown=>exact he
   | halt x w'=>
     cases x <;> simp only [Oper.uponIn] at h ⊢
     case panic u=>exact hQ _ _ _ h
 · rename_i hw
   simp only [hw] at h
   exact ⟨h.1,keep a hy _,by rw [← Act.put_comm a v undef h2];exact h.2⟩
def AnyH (F:Fence) (n:Nat) (P:Program) (md:Region.Mode) (ops:Array Oper) (Q:Exit→Act→World→Prop) (S:World→Prop):Nat→Array Bool→Act→World→Prop
 | 0,listed,a,w=>Region.ready md ops listed = []∧Q .normal a w
 | fuel + 1,listed,a,w=>
   (Region.ready md ops listed = []→Q .normal a w) ∧
   ∀ i ∈ Region.ready md ops listed,wpOpIn F n P ops Q i (fun a' w'=>S w'∧AnyH F n P md ops Q S fuel (listed.setIfInBounds i true) a' w') a w
theorem any_of_held:∀ (fuel:Nat) (listed:Array Bool) (a:Act) (w:World),AnyH F n P md ops Q S fuel listed a w→wpAnyIn F n P md ops Q fuel listed a w
 | 0,_,_,_,h=>h
 | fuel + 1,_,_,_,h=>⟨h.1,fun i hi=>wpOpIn_mono (fun a' w' h'=>any_of_held fuel _ a' w' h'.2) (h.2 i hi)⟩
theorem AnyH.imp {S':World→Prop} (hS:∀ w,S w→S' w):∀ (fuel:Nat) (listed:Array Bool) (a:Act) (w:World),AnyH F n P md ops Q S fuel listed a w→AnyH F n P md ops Q S' fuel listed a w
 | 0,_,_,_,h=>h
 | fuel + 1,_,_,_,h=>⟨h.1,fun i hi=>wpOpIn_mono (fun a' w' h'=>⟨hS _ h'.1,AnyH.imp hS fuel _ a' w' h'.2⟩) (h.2 i hi)⟩
theorem AnyH_first (hF:∀ f,F.fn f) (hnd:ops.all notDefer = true) {i:Nat} {oi:Oper} {v:Value} (hi:ops[i]? = some oi) (hsel:∀ (j:Nat) (o:Oper) cs b,ops[j]? = some o→o.op ≠ .select cs b)
 (hQ:∀ c a w,Q (.panic c) (a.put oi.dst v) w→Q (.panic c) a w) :
 ∀ (fuel:Nat) (listed:Array Bool) (a:Act) (w:World),
  (∀ j oj,ops[j]? = some oj→j ≠ i→listed.getD j true = false→(∀ e ∈ oj.after,Region.binds md e = true→e.on ≠ i)→oi.apart ops oj = true) →
  i ∈ Region.ready md ops listed→YIf P ops S oi v a→S w →
  AnyH F n P md ops Q S fuel (listed.setIfInBounds i true) (a.put oi.dst v) w→AnyH F n P md ops Q S (fuel + 1) listed a w:=by
 have hno:∀ j o,ops[j]? = some o→notDefer o = true:=fun j o h=>by
  rw [Array.all_eq_true] at hnd
  obtain ⟨hj,rfl⟩:=Array.getElem?_eq_some_iff.1 h
  exact hnd j hj
 intro fuel
 induction fuel with
 | zero=>
   intro listed a w _ hr hy hS H
   refine ⟨fun h=>(by rw [h] at hr;cases hr),fun j hj=>?_⟩
   by_cases hji:j = i
   · subst hji;exact hy.wpOp hF hi (hno _ _ hi) hS ⟨hS,H⟩
   · have:=ready_mono hj hji
     rw [H.1] at this
     cases this
 | succ fuel ih=>
   intro listed a w hfree hr hy hS H
   refine ⟨fun h=>(by rw [h] at hr;cases hr),fun j hj=>?_⟩
   by_cases hji:j = i
   · subst hji;exact hy.wpOp hF hi (hno _ _ hi) hS ⟨hS,H⟩
   · have h1:=H.2 j (ready_mono hj hji)
     obtain ⟨hjun,oj,hoj,hall⟩:=mem_ready.1 hj
     have hnot:∀ e ∈ oj.after,Region.binds md e = true→e.on ≠ i:=fun e he hb heq=>by
      have h1:=hall e he hb
      have h0:=(mem_ready.1 hr).1
      rw [heq] at h1
      rcases Nat.lt_or_ge i listed.size with h' | h'
      · simp [h'] at h0 h1;rw [h0] at h1;cases h1
      · simp [Array.getElem?_eq_none h'] at h1
     have h2:=wpOpIn_putIf hoj (hno _ _ hoj) (hfree j oj hoj hji hjun hnot) (fun cs b=>hsel i oi cs b hi) (fun cs b=>hsel j oj cs b hoj) hQ hy h1
     have hfree':∀ k ok,ops[k]? = some ok→k ≠ i→(listed.setIfInBounds j true).getD k true = false →
      (∀ e ∈ ok.after,Region.binds md e = true→e.on ≠ i)→oi.apart ops ok = true:=fun k ok hk hki hun hno=>by
      refine hfree k ok hk hki ?_ hno
      by_cases hjk:j = k
      · subst hjk;exact hjun
      · rw [getD_set_ne true hjk] at hun;exact hun
     refine wpOpIn_mono (fun a' w' h3=>⟨h3.2.1,ih (listed.setIfInBounds j true) a' w' hfree' (ready_mono hr (Ne.symm hji)) h3.1 h3.2.1 ?_⟩) h2
     rw [Array.setIfInBounds_comm _ _ hji]
     exact h3.2.2
theorem AnyH_take (hF:∀ f,F.fn f) (hnd:ops.all notDefer = true) {i:Nat} {oi:Oper} {v:Value} {fuel:Nat} {listed:Array Bool} {a:Act} {w:World} (hi:ops[i]? = some oi)
 (hs:Region.noSelect ops = true) (hf:Region.free md ops listed i = true) (hr:(Region.ready md ops listed).contains i = true)
 (hQ:∀ c a w,Q (.panic c) (a.put oi.dst v) w→Q (.panic c) a w) (hy:YIf P ops S oi v a) (hS:S w)
 (h:AnyH F n P md ops Q S fuel (listed.setIfInBounds i true) (a.put oi.dst v) w):AnyH F n P md ops Q S (fuel + 1) listed a w:=
 AnyH_first hF hnd hi (Region.noSelect_spec hs) hQ fuel listed a w (Region.free_spec hi hf) (by simpa using hr) hy hS h
theorem AnyH_takeD (hF:∀ f,F.fn f) (hnd:ops.all notDefer = true) (i t:Nat) (v:Value) {oi:Oper} {fuel:Nat} {listed:Array Bool} {a:Act} {w:World} (hi:ops[i]? = some oi) (hd:oi.dst = some t)
 (hs:Region.noSelect ops = true) (hf:Region.free md ops listed i = true) (hr:(Region.ready md ops listed).contains i = true)
 (hQ:∀ c a w,Q (.panic c) (a.put (some t) v) w→Q (.panic c) a w) (hy:YIf P ops S oi v a) (hS:S w)
 (h:AnyH F n P md ops Q S fuel (listed.setIfInBounds i true) (a.put (some t) v) w):AnyH F n P md ops Q S (fuel + 1) listed a w:=
 AnyH_take hF hnd hi hs hf hr (by rw [hd];exact hQ) hy hS (by rw [hd];exact h)
theorem tkY (i t:Nat) (v:Value) {oi:Oper} {fuel:Nat} {listed:Array Bool} {a:Act} {w:World} (hi:ops[i]? = some oi) (hd:oi.dst = some t) (hS:S w) (hy:∀ w,S w→(execOp a.eval oi).run P w = .ok (.value v) w)
 (h:AnyH F n P md ops Q S fuel (listed.setIfInBounds i true) (a.put (some t) v) w)
 (hF:∀ f,F.fn f:=by exact fun _=>trivial) (hnd:ops.all notDefer = true:=by kernel_rfl) (hs:Region.noSelect ops = true:=by kernel_rfl) (hf:Region.free md ops listed i = true:=by kernel_rfl) (hr:(Region.ready md ops listed).contains i = true:=by kernel_rfl)
 (hQ:∀ c a w,Q (.panic c) (a.put (some t) v) w→Q (.panic c) a w:=by exact fun _ _ _ h=>h) (hw:Region.wanted oi (yielded ops a.tmps) = true:=by kernel_rfl):AnyH F n P md ops Q S (fuel + 1) listed a w:=
 AnyH_takeD hF hnd i t v hi hd hs hf hr hQ (.inl ⟨hw,hy⟩) hS h
theorem AnyH_one {i:Nat} {o:Oper} {fuel:Nat} {listed:Array Bool} {a:Act} {w:World} (hr:Region.ready md ops listed = [i]) (ho:ops[i]? = some o) (hw:Region.wanted o (yielded ops a.tmps) = true)
 (h:∀ K:Act→World→Prop,(∀ a w,S w∧AnyH F n P md ops Q S fuel (listed.setIfInBounds i true) a w→K a w)→Oper.wpIn F n P o a w K Q):AnyH F n P md ops Q S (fuel + 1) listed a w:=
 ⟨fun h0=>(by rw [hr] at h0;cases h0),hr ▸ fun j hj=>by
   obtain rfl:j = i:=by simpa using hj
   unfold wpOpIn
   rw [ho]
   simp only [hw,if_true]
   exact h _ fun _ _ h=>h⟩
theorem AnyH_done {fuel:Nat} {listed:Array Bool} {a:Act} {w:World} (hr:Region.ready md ops listed = []) (h:Q .normal a w):AnyH F n P md ops Q S fuel listed a w:=by
 cases fuel with
 | zero=>exact ⟨hr,h⟩
 | succ f=>exact ⟨fun _=>h,fun i hi=>(by rw [hr] at hi;cases hi)⟩
theorem region_held {id:Nat} {a:Act} {w:World} (S:World→Prop) (hm:P.follows .mixedOrders = true)
 (h:AnyH F n P .any ops Q S ops.size (Array.replicate ops.size false) a w.drew):(Code.region id ops true).wpIn F n P Q a w:=
 wpIn_region_any hm (any_of_held _ _ _ _ h)
end
end Go.Proofs.LF
namespace Go.Proofs.LF
def treG:Nat→Nat→List Fl→Fo × Nat
 | 0,_,_=>(.nil,0)
 | _ + 1,_,[]=>(.nil,0)
 | f + 1,d,x :: l=>
   if h:x.p.length = d + 1 then
    let a:=treG f (d + 1) l
    let b:=treG f d (l.drop a.2)
    (.cons x.p[d].n x.l a.1 b.1,1 + a.2 + b.2)
   else (.nil,0)
theorem treG_le:∀ (f d:Nat) (l:List Fl),(treG f d l).2 ≤ l.length
 | 0,_,_=>by simp [treG]
 | _ + 1,_,[]=>by simp [treG]
 | f + 1,d,x :: l=>by
   simp only [treG]
   split
   · have h1:=treG_le f (d + 1) l
     have h2:=treG_le f d (l.drop (treG f (d + 1) l).2)
     rw [List.length_drop] at h2
     simp only [List.length_cons];omega
   · simp
theorem treG_fuel:∀ (f d:Nat) (l:List Fl),l.length ≤ f→treG f d l = treG l.length d l
 | 0,_,[],_=>rfl
 | 0,_,_ :: _,h=>by simp at h
 | _ + 1,_,[],_=>by simp [treG]
 | f + 1,d,x :: l,h=>by
   have h':l.length ≤ f:=by simpa using h
   simp only [treG,List.length_cons]
   split
   · rw [treG_fuel f (d + 1) l h',treG_fuel f d _ (by rw [List.length_drop];omega),treG_fuel l.length d _ (by rw [List.length_drop];omega)]
   · rfl
def treF (d:Nat) (l:List Fl):Fo × Nat:=treG l.length d l
theorem treF_nil (d:Nat):treF d [] = (.nil,0):=rfl
theorem treF_no {d:Nat} {x:Fl} {l:List Fl} (h:x.p.length ≠ d + 1):treF d (x :: l) = (.nil,0):=by
 simp [treF,treG,h]
theorem treF_yes {d:Nat} {x:Fl} {l:List Fl} (h:x.p.length = d + 1):treF d (x :: l) =
 (.cons x.p[d].n x.l (treF (d + 1) l).1 (treF d (l.drop (treF (d + 1) l).2)).1,1 + (treF (d + 1) l).2 + (treF d (l.drop (treF (d + 1) l).2)).2):=by
 simp only [treF,List.length_cons,treG,h,dif_pos]
 rw [treG_fuel l.length d _ (by rw [List.length_drop];omega)]
theorem treF_le (d:Nat) (l:List Fl):(treF d l).2 ≤ l.length:=treG_le _ _ _
def flsL (up:List Ky) (y:Fo):List Fl:=(nodesL up y).map fun x=>⟨x.up ++ [kyOf x.n x.l],x.l⟩
theorem flsL_nil (up:List Ky):flsL up .nil = []:=rfl
theorem flsL_cons (up:List Ky) (n:List UInt8) (l:List Int) (s r:Fo):flsL up (.cons n l s r) = ⟨up ++ [kyOf n l],l⟩ :: (flsL (up ++ [kyOf n l]) s ++ flsL up r):=by
 simp [flsL,nodesL]
theorem flsL_length (up:List Ky) (y:Fo):(flsL up y).length = y.cnt:=by simp [flsL,nodesL_length]
def Above (d:Nat) (l:List Fl):Prop:=∀ x,l.head? = some x→x.p.length ≤ d
theorem treF_fls:∀ (y:Fo) (up:List Ky) (rest:List Fl),Above up.length rest→treF up.length (flsL up y ++ rest) = (y,y.cnt)
 | .nil,up,rest,h=>by
   cases rest with
   | nil=>rfl
   | cons x rest=>exact treF_no (by have:=h x rfl;omega)
 | .cons n l s r,up,rest,h=>by
   rw [flsL_cons,List.cons_append,List.append_assoc,treF_yes (by simp)]
   have h1:treF (up.length + 1) (flsL (up ++ [kyOf n l]) s ++ (flsL up r ++ rest)) = (s,s.cnt):=by
    have:=treF_fls s (up ++ [kyOf n l]) (flsL up r ++ rest) (fun x hx=>by
     cases r with
     | nil=>have:=h x (by simpa [flsL_nil] using hx);simp;omega
     | cons n' l' s' r'=>rw [flsL_cons] at hx;simp at hx;subst hx;simp)
    simpa using this
   rw [h1]
   simp only
   rw [show (flsL (up ++ [kyOf n l]) s ++ (flsL up r ++ rest)).drop s.cnt = flsL up r ++ rest by rw [← flsL_length (up ++ [kyOf n l]) s];simp]
   rw [treF_fls r up rest h]
   simp [kyOf_n,Fo.cnt]
theorem treF_flsL (y:Fo):(treF 0 (flsL [] y)).1 = y:=by
 have:=treF_fls y [] [] (fun x hx=>by cases hx)
 simp only [List.append_nil,List.length_nil] at this
 rw [this]
end Go.Proofs.LF
namespace Go.Proofs.LF
open Go.RowKit
def Uf (w:World) (q:Nat):Prop:=∃ cs t,w.heap[q]? = some (.cells cs t (0,0))
def US (S:Nat→Prop) (w:World) (q:Nat):Prop:=S q∧Uf w q
abbrev IntU (S:Nat→Prop) (w:World) (v:Value) (l:List Int):Prop:=Ints (US S w) w v l
abbrev FCsU (S:Nat→Prop) (w:World) (y:Fo) (cs:List Value):Prop:=FCs (US S w) w y cs
abbrev FSlU (S:Nat→Prop) (w:World) (v:Value) (y:Fo):Prop:=FSl (US S w) w v y
theorem US.agree {S:Nat→Prop} {w w':World} (ha:Agree S w w'):Agree (US S w) w w'∧∀ q,US S w q→US S w' q:=
 ⟨fun q hq=>ha q hq.1,fun q hq=>⟨hq.1,let ⟨cs,t,h⟩:=hq.2;⟨cs,t,(ha q hq.1).trans h⟩⟩⟩
theorem US.wide {S S':Nat→Prop} {w:World} (hs:∀ b,S b→S' b):∀ q,US S w q→US S' w q:=fun q hq=>⟨hs q hq.1,hq.2⟩
theorem IntU.agree {S:Nat→Prop} {w w':World} {v:Value} {l:List Int} (h:IntU S w v l) (ha:Agree S w w'):IntU S w' v l:=(Ints.agree h (US.agree ha).1).wide (US.agree ha).2
theorem IntU.wide {S S':Nat→Prop} {w:World} {v:Value} {l:List Int} (h:IntU S w v l) (hs:∀ b,S b→S' b):IntU S' w v l:=Ints.wide h (US.wide hs)
theorem FCsU.agree {S:Nat→Prop} {w w':World} {y:Fo} {cs:List Value} (h:FCsU S w y cs) (ha:Agree S w w'):FCsU S w' y cs:=(FCs.agree (US.agree ha).1 h).wide (US.agree ha).2
theorem FCsU.wide {S S':Nat→Prop} {w:World} {y:Fo} {cs:List Value} (h:FCsU S w y cs) (hs:∀ b,S b→S' b):FCsU S' w y cs:=FCs.wide (US.wide hs) h
theorem FSlU.agree {S:Nat→Prop} {w w':World} {v:Value} {y:Fo} (h:FSlU S w v y) (ha:Agree S w w'):FSlU S w' v y:=(FSl.agree h (US.agree ha).1).wide (US.agree ha).2
theorem FSlU.wide {S S':Nat→Prop} {w:World} {v:Value} {y:Fo} (h:FSlU S w v y) (hs:∀ b,S b→S' b):FSlU S' w v y:=FSl.wide h (US.wide hs)
theorem FCsU.app {S:Nat→Prop} {w:World} {y z:Fo} {cs ds:List Value} (h:FCsU S w y cs) (k:FCsU S w z ds):FCsU S w (y.app z) (cs ++ ds):=FCs.app h k
theorem FCsU.one {S:Nat→Prop} {w:World} {n:List UInt8} {l:List Int} {s:Fo} {vn vs:Value} (h1:IntU S w vn l) (h2:FSlU S w vs s):FCsU S w (.cons n l s .nil) [.string (bs n),vn,vs]:=FCs.one h1 h2
theorem FSlU.fsl {S:Nat→Prop} {w:World} {v:Value} {y:Fo} (h:FSlU S w v y):FSl S w v y:=FSl.wide h fun q hq=>hq.1
theorem Stable.intu (v:Value) (l:List Int):Stable (fun S w=>IntU S w v l):=⟨fun h=>IntU.agree h,fun h=>IntU.wide h⟩
theorem Stable.fslu (v:Value) (y:Fo):Stable (fun S w=>FSlU S w v y):=⟨fun h=>FSlU.agree h,fun h=>FSlU.wide h⟩
theorem Stable.fcsu (y:Fo) (cs:List Value):Stable (fun S w=>FCsU S w y cs):=⟨fun h ha=>FCsU.agree h ha,fun h hw=>FCsU.wide h hw⟩
theorem SlC.of_owns_u {w:World} {base e k n:Nat} {v:Value} {xs:List Value} (h:w.ownsRow base e k v n xs):SlC (US (Rg base w.heap.size) w) w k v n xs:=by
 obtain ⟨h1,h2⟩:=h
 refine ⟨h1,?_⟩
 rcases h2 with ⟨rfl,rfl⟩ | ⟨g,cap,cur,rfl,hb,hg,hn,hc,hs,ht⟩
 · exact ⟨none,0,rfl,by omega,by simp [maxLen],fun _=>rfl, .inl rfl⟩
 · refine ⟨_,cap,rfl,hn,hc,(fun h=>by cases h), .inr ⟨g,0,rfl,⟨⟨hb,(Array.getElem?_eq_some_iff.1 hg).1⟩,_,_,hg⟩,fun j u hj=>?_⟩⟩
   simp only [World.cell?,hg,Nat.zero_add]
   rw [← ht,List.getElem?_take] at hj
   split at hj
   · simpa using hj
   · cases hj
end Go.Proofs.LF
namespace Go.Proofs.LF
structure Cmp {α:Type} (f:α→α→Int):Prop where
 refl:∀ a,f a a = 0
 eq:∀ {a b},f a b = 0→a = b
 flip:∀ {a b},f a b < 0→0 < f b a
 flop:∀ {a b},0 < f a b→f b a < 0
 trans:∀ {a b c},f a b < 0→f b c < 0→f a c < 0
theorem cmpI_ord:Cmp cmpI where
 refl a:=by simp [cmpI]
 eq {a b} h:=by unfold cmpI at h;split at h <;> (try split at h) <;> omega
 flip {a b} h:=by unfold cmpI at *;split at h <;> (try split at h) <;> (repeat' split) <;> omega
 flop {a b} h:=by unfold cmpI at *;split at h <;> (try split at h) <;> (repeat' split) <;> omega
 trans {a b c} h k:=by
  unfold cmpI at *
  split at h <;> (try split at h) <;> split at k <;> (try split at k) <;> (repeat' split) <;> omega
theorem bl_cons (a b:UInt8) (x y:List UInt8):Op.bytesLess (a :: x) (b :: y) = (decide (a < b) || (a == b && Op.bytesLess x y)):=rfl
theorem bl_asymm:∀ {a b:List UInt8},Op.bytesLess a b = true→Op.bytesLess b a = false
 | [],[],h=>by simp [Op.bytesLess] at h
 | [],_ :: _,_=>by simp [Op.bytesLess]
 | _ :: _,[],h=>by simp [Op.bytesLess] at h
 | a :: x,b :: y,h=>by
   rw [bl_cons] at *
   simp only [Bool.or_eq_true,decide_eq_true_eq,Bool.and_eq_true,beq_iff_eq,Bool.or_eq_false_iff,decide_eq_false_iff_not,Bool.and_eq_false_iff,beq_eq_false_iff_ne,ne_eq,UInt8.lt_iff_toNat_lt] at *
   rcases h with h | ⟨rfl,h⟩
   · exact ⟨by omega, .inl (fun e=>by subst e;omega)⟩
   · exact ⟨by omega, .inr (bl_asymm h)⟩
theorem bl_trans:∀ {a b c:List UInt8},Op.bytesLess a b = true→Op.bytesLess b c = true→Op.bytesLess a c = true
 | _,[],_,h,_=>by cases ‹List UInt8› <;> simp [Op.bytesLess] at h
 | _,_ :: _,[],_,k=>by simp [Op.bytesLess] at k
 | [],_ :: _,_ :: _,_,_=>by simp [Op.bytesLess]
 | a :: x,b :: y,c :: z,h,k=>by
   rw [bl_cons] at *
   simp only [Bool.or_eq_true,decide_eq_true_eq,Bool.and_eq_true,beq_iff_eq,UInt8.lt_iff_toNat_lt] at *
   rcases h with h | ⟨rfl,h⟩ <;> rcases k with k | ⟨rfl,k⟩
   · exact .inl (by omega)
   · exact .inl h
   · exact .inl k
   · exact .inr ⟨rfl,bl_trans h k⟩
theorem cmpB_lt {a b:List UInt8}:cmpB a b < 0 ↔ Op.bytesLess a b = true:=by
 unfold cmpB
 cases h:Op.bytesLess a b <;> simp
 split <;> omega
theorem cmpB_gt {a b:List UInt8}:0 < cmpB a b ↔ Op.bytesLess b a = true:=by
 unfold cmpB
 cases h:Op.bytesLess a b
 · cases k:Op.bytesLess b a <;> simp
 · simp [bl_asymm h]
theorem cmpB_ord:Cmp cmpB where
 refl a:=by simp [cmpB,bl_irrefl]
 eq {a b} h:=by
  have h1:Op.bytesLess a b = false:=by cases e:Op.bytesLess a b;rfl;have:=cmpB_lt.2 e;omega
  have h2:Op.bytesLess b a = false:=by cases e:Op.bytesLess b a;rfl;have:=cmpB_gt.2 e;omega
  exact bl_total h1 h2
 flip {a b} h:=cmpB_gt.2 (cmpB_lt.1 h)
 flop {a b} h:=cmpB_lt.2 (cmpB_gt.1 h)
 trans {a b c} h k:=cmpB_lt.2 (bl_trans (cmpB_lt.1 h) (cmpB_lt.1 k))
theorem byK_same {a b:Ky} (hn:a.n = b.n) (hh:a.h = b.h):byK a b = cmpI a.x b.x:=by simp [byK,hn,hh]
theorem byK_name {a b:Ky} (hn:a.n ≠ b.n):byK a b = cmpB a.n b.n:=by simp [byK,hn]
theorem byK_has {a b:Ky} (hn:a.n = b.n) (hh:a.h ≠ b.h):byK a b = if b.h then -1 else 1:=by simp [byK,hn,hh]
theorem byK_ord:Cmp byK where
 refl a:=by rw [byK_same rfl rfl,cmpI_ord.refl]
 eq {a b} h:=by
  by_cases hn:a.n = b.n
  · by_cases hh:a.h = b.h
    · rw [byK_same hn hh] at h
      have hx:=cmpI_ord.eq h
      cases a;cases b;simp_all
    · rw [byK_has hn hh] at h;split at h <;> omega
  · rw [byK_name hn] at h;exact absurd (cmpB_ord.eq h) hn
 flip {a b} h:=by
  by_cases hn:a.n = b.n
  · by_cases hh:a.h = b.h
    · rw [byK_same hn hh] at h;rw [byK_same hn.symm hh.symm];exact cmpI_ord.flip h
    · rw [byK_has hn hh] at h;rw [byK_has hn.symm (Ne.symm hh)]
      cases h1:a.h <;> cases h2:b.h <;> simp_all
  · rw [byK_name hn] at h;rw [byK_name (Ne.symm hn)];exact cmpB_ord.flip h
 flop {a b} h:=by
  by_cases hn:a.n = b.n
  · by_cases hh:a.h = b.h
    · rw [byK_same hn hh] at h;rw [byK_same hn.symm hh.symm];exact cmpI_ord.flop h
    · rw [byK_has hn hh] at h;rw [byK_has hn.symm (Ne.symm hh)]
      cases h1:a.h <;> cases h2:b.h <;> simp_all
  · rw [byK_name hn] at h;rw [byK_name (Ne.symm hn)];exact cmpB_ord.flop h
 trans {a b c} h k:=by
  by_cases hn:a.n = b.n
  · by_cases kn:b.n = c.n
    · by_cases hh:a.h = b.h
      · by_cases kh:b.h = c.h
        · rw [byK_same hn hh] at h;rw [byK_same kn kh] at k;rw [byK_same (hn.trans kn) (hh.trans kh)];exact cmpI_ord.trans h k
        · rw [byK_has kn kh] at k;rw [byK_has (hn.trans kn) (by rw [hh];exact kh)];exact k
      · by_cases kh:b.h = c.h
        · rw [byK_has hn hh] at h;rw [byK_has (hn.trans kn) (by rw [← kh];exact hh),← kh];exact h
        · rw [byK_has hn hh] at h;rw [byK_has kn kh] at k
          cases h1:a.h <;> cases h2:b.h <;> cases h3:c.h <;> simp_all
    · rw [byK_name kn] at k;rw [byK_name (by rw [hn];exact kn),hn];exact k
  · by_cases kn:b.n = c.n
    · rw [byK_name hn] at h;rw [byK_name (by rw [← kn];exact hn),← kn];exact h
    · rw [byK_name hn] at h;rw [byK_name kn] at k
      have:=cmpB_ord.trans h k
      rw [byK_name (fun e=>by rw [e,cmpB_ord.refl] at this;omega)];exact this
theorem cmpP_ord:Cmp cmpP:=by
 have key:∀ (a b:List Ky),(cmpP a b < 0→0 < cmpP b a)∧(0 < cmpP a b→cmpP b a < 0)∧(cmpP a b = 0→a = b):=by
  intro a
  induction a with
  | nil=>intro b;cases b <;> simp [cmpP]
  | cons x a ih=>
    intro b
    cases b with
    | nil=>simp [cmpP]
    | cons y b=>
      simp only [cmpP]
      by_cases h:byK x y = 0
      · obtain rfl:=byK_ord.eq h
        simp only [h,ne_eq,not_true,if_false]
        have:=ih b
        exact ⟨this.1,this.2.1,fun e=>by rw [this.2.2 e]⟩
      · have h':byK y x ≠ 0:=fun e=>h (by rw [byK_ord.eq e,byK_ord.refl])
        simp only [ne_eq,h,h',not_false_eq_true,if_true]
        exact ⟨byK_ord.flip,byK_ord.flop,fun e=>absurd e (by simpa using h)⟩
 have rf:∀ a:List Ky,cmpP a a = 0:=by
  intro a
  induction a with
  | nil=>rfl
  | cons x a ih=>simp [cmpP,byK_ord.refl,ih]
 refine ⟨rf,fun {a b}=>(key a b).2.2,fun {a b}=>(key a b).1,fun {a b}=>(key a b).2.1,fun {a b c}=>?_⟩
 induction a generalizing b c with
 | nil=>
   intro h k
   cases b with
   | nil=>simp [cmpP] at h
   | cons y b=>cases c with
     | nil=>simp [cmpP] at k
     | cons z c=>simp [cmpP]
 | cons x a ih=>
   intro h k
   cases b with
   | nil=>simp [cmpP] at h
   | cons y b=>cases c with
     | nil=>simp [cmpP] at k
     | cons z c=>
       simp only [cmpP] at h k ⊢
       by_cases h1:byK x y = 0
       · obtain rfl:=byK_ord.eq h1
         simp only [h1,ne_eq,not_true,if_false] at h
         by_cases h2:byK x z = 0
         · simp only [h2,ne_eq,not_true,if_false] at k ⊢;exact ih h k
         · simp only [h2,ne_eq,not_false_eq_true,if_true] at k ⊢;exact k
       · simp only [h1,ne_eq,not_false_eq_true,if_true] at h
         by_cases h2:byK y z = 0
         · obtain rfl:=byK_ord.eq h2
           simp only [h1,ne_eq,not_false_eq_true,if_true];exact h
         · simp only [h2,ne_eq,not_false_eq_true,if_true] at k
           have h3:=byK_ord.trans h k
           have h4:byK x z ≠ 0:=by omega
           simp only [h4,ne_eq,not_false_eq_true,if_true];exact h3
end Go.Proofs.LF
namespace Go.Proofs.LF
open Go.RowKit
variable {P:Program}
theorem ins_cells {cur:List Value} {cs news:List Value} {i n k cap:Nat} (hk:news.length = k) (hcs:cur.take (n * k) = cs) (hcl:cs.length = n * k) (hi:i ≤ n) (hc:n + 1 ≤ cap) (hs:cur.length = cap * k)
 {c1:List Value} (h1:c1 = cur.take ((i + 1) * k) ++ cs.drop (i * k) ++ cur.drop ((i + 1) * k + (cs.drop (i * k)).length)) :
 (c1.take (i * k) ++ news ++ c1.drop (i * k + news.length)).take ((n + 1) * k) = cs.take (i * k) ++ (news ++ cs.drop (i * k))∧(c1.take (i * k) ++ news ++ c1.drop (i * k + news.length)).length = cap * k∧c1.length = cap * k:=by
 have hik:i * k ≤ n * k:=Nat.mul_le_mul_right k hi
 have hnk:n * k + k ≤ cap * k:=by have:=Nat.mul_le_mul_right k hc;rw [Nat.add_mul] at this;omega
 have e1:(i + 1) * k = i * k + k:=by rw [Nat.add_mul];omega
 have e2:(n + 1) * k = n * k + k:=by rw [Nat.add_mul];omega
 obtain ⟨A,hA⟩:∃ A,i * k = A:=⟨_,rfl⟩
 obtain ⟨N,hN⟩:∃ N,n * k = N:=⟨_,rfl⟩
 obtain ⟨C,hC⟩:∃ C,cap * k = C:=⟨_,rfl⟩
 rw [e1,hA] at h1
 rw [e2,hA,hN]
 rw [hA,hN] at hik
 rw [hN] at hnk hcs hcl
 rw [hC] at hnk hs ⊢
 subst hk
 have hdl:(cs.drop A).length = N - A:=by rw [List.length_drop,hcl]
 have l1:c1.length = C:=by
  rw [h1];simp only [List.length_append,List.length_take,List.length_drop,hcl,hs];omega
 have hcA:cs.take A = cur.take A:=by rw [← hcs,List.take_take,Nat.min_eq_left hik]
 have t1:c1.take A = cs.take A:=by
  rw [h1,List.append_assoc,List.take_append_of_le_length (by rw [List.length_take];omega),List.take_take,Nat.min_eq_left (by omega),hcA]
 have t2:c1.drop (A + news.length) = cs.drop A ++ cur.drop (A + news.length + (N - A)):=by
  rw [h1,hdl,List.append_assoc]
  have e3:(cur.take (A + news.length)).length = A + news.length:=by rw [List.length_take];omega
  rw [List.drop_append_of_le_length (by omega),List.drop_of_length_le (by omega),List.nil_append]
 refine ⟨?_,?_,l1⟩
 · rw [t1,t2]
   have hl:(cs.take A ++ (news ++ cs.drop A)).length = N + news.length:=by
    simp only [List.length_append,List.length_take,hdl,hcl];omega
   rw [show cs.take A ++ news ++ (cs.drop A ++ cur.drop (A + news.length + (N - A))) = (cs.take A ++ (news ++ cs.drop A)) ++ cur.drop (A + news.length + (N - A)) by simp]
   rw [← hl,List.take_left']
   rfl
 · simp only [List.length_append,List.length_take,List.length_drop,l1];omega
theorem ins_cells2 {cs news z:List Value} {i n k:Nat} (hk:news.length = k) (hcl:cs.length = n * k) (hi:i ≤ n) {r0 c1:List Value} (h0:r0 = cs.take (i * k) ++ z) (hz:(n + 1 - i) * k ≤ z.length)
 (h1:c1 = r0.take (i * k) ++ news ++ r0.drop (i * k + news.length)) :
 (c1.take ((i + 1) * k) ++ cs.drop (i * k) ++ c1.drop ((i + 1) * k + (cs.drop (i * k)).length)).take ((n + 1) * k) = cs.take (i * k) ++ (news ++ cs.drop (i * k))∧(c1.take ((i + 1) * k) ++ cs.drop (i * k) ++ c1.drop ((i + 1) * k + (cs.drop (i * k)).length)).length = r0.length∧c1.length = r0.length:=by
 have hik:i * k ≤ n * k:=Nat.mul_le_mul_right k hi
 have e1:(i + 1) * k = i * k + k:=by rw [Nat.add_mul];omega
 have e2:(n + 1) * k = n * k + k:=by rw [Nat.add_mul];omega
 have e3:(n + 1 - i) * k = n * k + k - i * k:=by rw [Nat.mul_comm,Nat.mul_sub,Nat.mul_comm k,Nat.mul_comm k,e2]
 rw [e1,e2]
 rw [e3] at hz
 obtain ⟨A,hA⟩:∃ A,i * k = A:=⟨_,rfl⟩
 obtain ⟨N,hN⟩:∃ N,n * k = N:=⟨_,rfl⟩
 rw [hA] at h0 h1 ⊢
 rw [hA,hN] at hz hik
 rw [hN] at hcl ⊢
 subst hk
 have hdl:(cs.drop A).length = N - A:=by rw [List.length_drop,hcl]
 have hta:(cs.take A).length = A:=by rw [List.length_take];omega
 have l0:r0.length = A + z.length:=by rw [h0,List.length_append,hta]
 have t0:r0.take A = cs.take A:=by rw [h0,List.take_append_of_le_length (by omega),List.take_of_length_le (by omega)]
 have l1:c1.length = r0.length:=by rw [h1];simp only [List.length_append,List.length_take,List.length_drop];omega
 have t1:c1.take (A + news.length) = cs.take A ++ news:=by
  rw [h1,t0,List.take_append_of_le_length (by rw [List.length_append];omega),List.take_of_length_le (by rw [List.length_append];omega)]
 refine ⟨?_,?_,l1⟩
 · rw [t1]
   have hl:(cs.take A ++ (news ++ cs.drop A)).length = N + news.length:=by
    simp only [List.length_append,hta,hdl];omega
   rw [show cs.take A ++ news ++ cs.drop A ++ c1.drop (A + news.length + (cs.drop A).length) = (cs.take A ++ (news ++ cs.drop A)) ++ c1.drop (A + news.length + (cs.drop A).length) by simp]
   rw [← hl,List.take_left']
   rfl
 · simp only [List.length_append,List.length_take,List.length_drop,l1];omega
theorem step_copyRow {w:World} {ops:Array Oper} {o:Oper} {a:Act} {K:Act→World→Prop} {Q:Exit→Act→World→Prop} {E:Prop} (hgd:o.guard = none) (d s:Operand) (dT sT:TypeId)
 (ho:o.op = .call { callee := .builtin .copy,args:=#[d,s],argTypes:=#[dT,sT] }) (v u:Value) (hd:a.eval d = v) (hs:a.eval s = u) {v':Value} {w':World}
 (hr:(Builtin.copy_ #[dT,sT] o.type #[v,u]).run P w = .ok v' w') (h:K (a.put o.dst v') w'):if Region.wanted o (yielded ops a.tmps) = true then Oper.wp P o a w K Q else E:=by
 have hw:Region.wanted o (yielded ops a.tmps) = true:=by simp [Region.wanted,hgd]
 rw [if_pos hw]
 unfold Oper.wp execOp
 simp only [ho,resolve,invoke,builtin,Sem.run_bind,Sem.run_pure,Result.andThen_ok,List.map_toArray,List.map_cons,List.map_nil,hd,hs,hr]
 exact h
theorem wpList_copyRow {w:World} {ops:Array Oper} {rest:List Oper} {o:Oper} {a:Act} {Q:Exit→Act→World→Prop} (hgd:o.guard = none) (d s:Operand) (dT sT:TypeId)
 (ho:o.op = .call { callee := .builtin .copy,args:=#[d,s],argTypes:=#[dT,sT] }) (v u:Value) (hd:a.eval d = v) (hs:a.eval s = u) {v':Value} {w':World}
 (hr:(Builtin.copy_ #[dT,sT] o.type #[v,u]).run P w = .ok v' w') (h:wpList P ops Q rest (a.put o.dst v') w'):wpList P ops Q (o :: rest) a w:=by
 refine wpList_plain hgd fun K hK=>?_
 unfold Oper.wp execOp
 simp only [ho,resolve,invoke,builtin,Sem.run_bind,Sem.run_pure,Result.andThen_ok,List.map_toArray,List.map_cons,List.map_nil,hd,hs,hr]
 exact hK _ _ h
end Go.Proofs.LF
namespace Go.Proofs.LF
open Go.RowKit
variable {α:Type} {k:Nat}
structure RowS (r:Rd α k) (e:TypeId) (S:Nat→Prop) (lo:Nat) (W:World) (v:Value) (xs:List α):Prop where
 row:∃ cs,W.ownsRow lo e k v xs.length cs∧LCs r S W xs cs
variable {r:Rd α k} {e:TypeId} {S:Nat→Prop} {lo:Nat} {W:World} {v:Value} {xs:List α}
theorem RowS.nil {w:Nat} (W:World):RowS r e S w W (.slice none 0 0) []:=⟨[],World.ownsRow_nil _ _ _ _,rfl⟩
theorem RowS.below {W':World} (h:RowS r e S lo W v xs) (hS:∀ b,S b→b < W.heap.size) (hb:Below W.heap.size W W'):RowS r e S lo W' v xs:=by
 obtain ⟨cs,h1,h2⟩:=h.row
 exact ⟨cs,ob_ h1 hb (nl_ _),h2.agree (Ag_b hb hS)⟩
theorem RowS.kept {W':World} {row:Option Nat} (h:RowS r e S lo W v xs) (hS:∀ b,S b→b < W.heap.size∧row ≠ some b) (hg:W.grownBy W' row) (hn:v.ownBlock = none ∨ v.ownBlock ≠ row):RowS r e S lo W' v xs:=by
 obtain ⟨cs,h1,h2⟩:=h.row
 exact ⟨cs,h1.kept hg hn,h2.agree (Agree.grown hg hS)⟩
theorem RowS.shape (h:RowS r e S lo W v xs):∃ a c,v = .slice a xs.length c∧xs.length ≤ c∧c ≤ maxLen:=by
 obtain ⟨cs,h1,_⟩:=h.row
 exact owns_shape h1
theorem RowS.lsl (h:RowS r e S lo W v xs):LSl r (fun b=>S b ∨ Rg lo W.heap.size b) W v xs:=by
 obtain ⟨cs,h1,h2⟩:=h.row
 exact ⟨cs,(SlC.of_owns h1).wide fun b hb => .inr hb,h2.wide fun b hb => .inl hb⟩
theorem RowS.lt (h:RowS r e S lo W v xs):∀ b,v.ownBlock = some b→lo ≤ b∧b < W.heap.size:=by
 obtain ⟨cs,h1,_⟩:=h.row
 exact fun b hb=>h1.lt b hb
theorem RowS.wide {S':Nat→Prop} (h:RowS r e S lo W v xs) (hs:∀ b,S b→S' b):RowS r e S' lo W v xs:=by
 obtain ⟨cs,h1,h2⟩:=h.row
 exact ⟨cs,h1,h2.wide hs⟩
end Go.Proofs.LF
namespace Go.Proofs.LF
open Go.RowKit
theorem LSl.on {α:Type} {k:Nat} {r:Rd α k} {w w':World} {v:Value} {xs:List α} (h:LSl r (fun q=>q < w.heap.size) w v xs) (hb:Below w.heap.size w w'):LSl r (fun q=>q < w'.heap.size) w' v xs:=
 (h.agree (Ag_b hb fun q hq=>hq)).wide fun q hq=>Nat.lt_of_lt_of_le hq hb.size
theorem FSl.on {w w':World} {v:Value} {y:Fo} (h:FSl (fun q=>q < w.heap.size) w v y) (hb:Below w.heap.size w w'):FSl (fun q=>q < w'.heap.size) w' v y:=
 (h.agree (Ag_b hb fun q hq=>hq)).wide fun q hq=>Nat.lt_of_lt_of_le hq hb.size
theorem Pth.on {w w':World} {v:Value} {p:List Ky} (h:Pth (fun q=>q < w.heap.size) w v p) (hb:Below w.heap.size w w'):Pth (fun q=>q < w'.heap.size) w' v p:=
 (h.agree (Ag_b hb fun q hq=>hq)).wide fun q hq=>Nat.lt_of_lt_of_le hq hb.size
end Go.Proofs.LF
