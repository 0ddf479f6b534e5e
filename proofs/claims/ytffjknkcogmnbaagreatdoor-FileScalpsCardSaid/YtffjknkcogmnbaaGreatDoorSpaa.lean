/- Parts of the proof of a law of layer 11 (file): LfYaa. The conditions stand in each theorem. -/
import Derived.BigQuiet
import Derived.Deep.AppendLies
import Derived.Deep.Draws
import Derived.Deep.QuietTactic
import Derived.Deep.RegionHeld3
import Derived.Ground.Names2Prog
import Derived.Ground.SlgnProg
import Derived.Laws.AppendOwn
import Derived.Laws.CopyOwn
import Derived.Laws.Entries
import Derived.Laws.MakeOwn
import Derived.Laws.ResultCell
import Derived.Lib.ItoaNum
import Derived.Lib.Join
import Derived.LoopIn
import Derived.LoopNIn
import Derived.Maps.AppendAt
import Derived.Maps.OwnOps
import Derived.Maps.OwnSet
import Derived.Outline
import Derived.OwnWalk
import Derived.OwnWalkIn
import Derived.RangeFuncBound
import Derived.RangeFuncCalls
import Derived.RangeFuncKeeps
import Derived.RangeFuncLeaves
import Derived.RangeFuncNested
import Derived.Shelf.Abstract
import Derived.Shelf.Bits.Mul64
import Derived.Shelf.LaysC
import Derived.Shelf.LaysM
import Derived.Shelf.Slices.Clone
import Derived.Shelf.Slices.Empties2
import Derived.Shelf.Slices.Equal
import Derived.Shelf.Slices.SearchI
import Derived.Shelf.SlicesE.Clone
import Derived.Shelf.Small.Bits
import Derived.Shelf.Strconv.Atoi
import Derived.Shelf.Strconv.AtoiAll
import Derived.Shelf.Strconv.AtoiErrFast
import Derived.Shelf.Strconv.AtoiFail
import Derived.Shelf.Strconv.AtoiInnerAll
import Derived.Shelf.Strconv.AtoiLong
import Derived.Shelf.Strconv.Clone
import Derived.Shelf.Strconv.ErrVarAll
import Derived.Shelf.Strconv.Itoa0
import Derived.Shelf.Strconv.Itoa1
import Derived.Shelf.Strconv.Itoa2
import Derived.Shelf.Strconv.Itoa3
import Derived.Shelf.Strconv.Lower
import Derived.Shelf.Strconv.ParseInt10
import Derived.Shelf.Strconv.ParseIntEmpty
import Derived.Shelf.Strconv.ParseUint10
import Derived.Shelf.Strconv.ParseUint10Any
import Derived.Shelf.Strconv.ParseUint10Empty
import Derived.Shelf.Strconv.RangeError
import Derived.Shelf.Strconv.SyntaxError
import Derived.Shelf.Strconv.ToError
import Derived.Shelf.Strconv.ToErrorRange
import Derived.Shelf.Strings.Builder1
import Derived.Shelf.Strings.Builder2
import Derived.Shelf.Strings.Builder2Cap
import Derived.Shelf.Strings.BuilderCap
import Derived.Shelf.Strings.BuilderF
import Derived.Shelf.Strings.BuilderK
import Derived.Shelf.Strings.Count
import Derived.Shelf.Strings.Explode
import Derived.Shelf.Strings.OnBuilder
import Derived.Shelf.Strings.Prefix
import Derived.Shelf.Strings.Repeat
import Derived.Shelf.Strings.RuneCount
import Derived.Shelf.Strings.Search1
import Derived.Shelf.Strings.Search2
import Derived.Shelf.Strings.Search3
import Derived.Shelf.Strings.Shaped
import Derived.Shelf.Strings.Split
import Derived.Shelf.Unicode.Decode
import Derived.Shelf.Unicode.DecodeAny
import Derived.Shelf.Unicode.DecodeSlow
import Derived.Shelf.Utf8.RuneCount
import Derived.StringKeys
import Derived.TacticsInMore
import Derived.Test.YtffjknkcogmnbaaGreatDoorProg
import Derived.WalkKit
import Derived.WalkLawsBesides
import Derived.WalkSpells
set_option linter.all false
set_option linter.unusedVariables false
set_option linter.unusedSimpArgs false
set_option linter.all false
set_option linter.unusedVariables false
set_option linter.unusedSimpArgs false
namespace Go.Proofs.LF
open Go.RowKit
theorem ge_ {α:Type} {xs:Array α} {i:Nat} {a:α} (h:xs[i]? = some a):∃ h:i < xs.size,xs[i] = a:=Array.getElem?_eq_some_iff.1 h
theorem ha_ (w:World) (o:Obj):(w.alloc o).heap[w.heap.size]? = some o:=heap_alloc_new w o
theorem nl_ (n:Nat):n ≤ n:=Nat.le_refl n
theorem hid {p:Prop} (h:p):Hid p:=h
def bs (l:List UInt8):ByteArray:=⟨l.toArray⟩
theorem q1_ (l:List UInt8):(bs l).toList = l:=by
 rw [ByteArray.toList_eq];simp [bs]
theorem q2_ (l:List UInt8):(bs l).size = l.length:=by simp [bs,ByteArray.size]
theorem xA_ (l:List UInt8):(bs l).data.toList = l:=by simp [bs]
structure Ky where
 n:List UInt8
 h:Bool
 x:Int
 deriving DecidableEq
inductive Fo where
 | nil
 | cons (n:List UInt8) (l:List Int) (s r:Fo)
 deriving DecidableEq
def Fo.len:Fo→Nat
 | .nil=>0
 | .cons _ _ _ r=>r.len + 1
def Fo.cnt:Fo→Nat
 | .nil=>0
 | .cons _ _ s r=>1 + s.cnt + r.cnt
def Fo.drop:Nat→Fo→Fo
 | 0,y=>y
 | _ + 1, .nil => .nil
 | i + 1, .cons _ _ _ r=>r.drop i
def Fo.app:Fo→Fo→Fo
 | .nil,z=>z
 | .cons n l s r,z => .cons n l s (r.app z)
def Fo.take:Nat→Fo→Fo
 | 0,_ => .nil
 | _ + 1, .nil => .nil
 | i + 1, .cons n l s r => .cons n l s (r.take i)
theorem Fo.app_nil:∀ (y:Fo),y.app .nil = y
 | .nil=>rfl
 | .cons n l s r=>by simp [Fo.app,Fo.app_nil r]
theorem Fo.len_app:∀ (y z:Fo),(y.app z).len = y.len + z.len
 | .nil,z=>by simp [Fo.app,Fo.len]
 | .cons n l s r,z=>by simp only [Fo.app,Fo.len,Fo.len_app r z];omega
def Ky.cells (k:Ky):List Value:=[.string (bs k.n), .bool k.h, .int .i64 k.x]
def SlC (S:Nat→Prop) (w:World) (k:Nat) (v:Value) (n:Nat) (cs:List Value):Prop:=
 cs.length = n * k∧∃ a c,v = .slice a n c∧n ≤ c∧c ≤ maxLen∧(a = none→c = 0) ∧
  (n = 0 ∨ ∃ g o,a = some ⟨g,o,none⟩∧S g∧∀ j u,cs[j]? = some u→w.cell? ⟨g,o + j,none⟩ = some u)
def Rg (lo hi:Nat) (b:Nat):Prop:=lo ≤ b∧b < hi
def Rx (lo hi:Nat) (v:Value) (b:Nat):Prop:=lo ≤ b∧b < hi∧v.ownBlock ≠ some b
def qd_ (S:Nat→Prop) (w w':World):Prop:=∀ b,S b→w'.heap[b]? = w.heap[b]?
theorem q9_ {S:Nat→Prop} {B:Nat} {w w':World} (h:Below B w w') (hh:∀ b,S b→b < B):qd_ S w w':=fun b hb=>h.block b (hh b hb)
theorem qd_.trans {S:Nat→Prop} {a b c:World} (h:qd_ S a b) (k:qd_ S b c):qd_ S a c:=fun i hi=>(k i hi).trans (h i hi)
theorem qd_.grown {S:Nat→Prop} {w w':World} {row:Option Nat} (h:w.grownBy w' row) (hh:∀ b,S b→b < w.heap.size∧row ≠ some b):qd_ S w w':=fun b hb=>h.block b (hh b hb).1 (fun e=>(hh b hb).2 e.symm)
theorem qd_.cell {S:Nat→Prop} {w w':World} (h:qd_ S w w') {g o:Nat} {u:Value} (h1:S g) (hc:w.cell? ⟨g,o,none⟩ = some u):w'.cell? ⟨g,o,none⟩ = some u:=by
 rw [World.cell?_of_block (h g h1)];exact hc
theorem SlC.agree {S:Nat→Prop} {w w':World} {k n:Nat} {v:Value} {cs:List Value} (h:SlC S w k v n cs) (ha:qd_ S w w'):SlC S w' k v n cs:=by
 obtain ⟨h1,a,c,h2,h3,h4,hn,h5⟩:=h
 refine ⟨h1,a,c,h2,h3,h4,hn,?_⟩
 rcases h5 with h5 | ⟨g,o,h6,h7,h9⟩
 · exact .inl h5
 · exact .inr ⟨g,o,h6,h7,fun j u hj=>ha.cell h7 (h9 j u hj)⟩
theorem SlC.wide {S S':Nat→Prop} {w:World} {k n:Nat} {v:Value} {cs:List Value} (h:SlC S w k v n cs) (h1:∀ b,S b→S' b):SlC S' w k v n cs:=by
 obtain ⟨h0,a,c,h3,h4,h5,hn,h6⟩:=h
 refine ⟨h0,a,c,h3,h4,h5,hn,?_⟩
 rcases h6 with h6 | ⟨g,o,h7,h8,h10⟩
 · exact .inl h6
 · exact .inr ⟨g,o,h7,h1 _ h8,h10⟩
def qF_ (S:Nat→Prop) (w:World) (v:Value) (l:List Int):Prop:=SlC S w 1 v l.length (l.map (Value.int .i64))
def Pth (S:Nat→Prop) (w:World) (v:Value) (p:List Ky):Prop:=SlC S w 3 v p.length (p.flatMap Ky.cells)
def FCs (S:Nat→Prop) (w:World):Fo→List Value→Prop
 | .nil,cs=>cs = []
 | .cons n l s r,cs=>∃ vn vs cs',cs = .string (bs n) :: vn :: vs :: cs'∧qF_ S w vn l∧(∃ ds,SlC S w 3 vs s.len ds∧FCs S w s ds)∧FCs S w r cs'
def FSl (S:Nat→Prop) (w:World) (v:Value) (y:Fo):Prop:=∃ ds,SlC S w 3 v y.len ds∧FCs S w y ds
theorem FCs.agree {S:Nat→Prop} {w w':World} (ha:qd_ S w w'):∀ {y:Fo} {cs:List Value},FCs S w y cs→FCs S w' y cs
 | .nil,_,h=>h
 | .cons _ _ _ _,_,⟨vn,vs,cs',h1,h2,⟨ds,h3,h4⟩,h5⟩=>⟨vn,vs,cs',h1,SlC.agree h2 ha,⟨ds,h3.agree ha,h4.agree ha⟩,h5.agree ha⟩
theorem FCs.wide {S S':Nat→Prop} {w:World} (h1:∀ b,S b→S' b):∀ {y:Fo} {cs:List Value},FCs S w y cs→FCs S' w y cs
 | .nil,_,h=>h
 | .cons _ _ _ _,_,⟨vn,vs,cs',h3,h4,⟨ds,h5,h6⟩,h7⟩=>⟨vn,vs,cs',h3,SlC.wide h4 h1,⟨ds,h5.wide h1,h6.wide h1⟩,h7.wide h1⟩
theorem FSl.agree {S:Nat→Prop} {w w':World} {v:Value} {y:Fo} (h:FSl S w v y) (ha:qd_ S w w'):FSl S w' v y:=let ⟨ds,h1,h2⟩:=h;⟨ds,h1.agree ha,h2.agree ha⟩
theorem FSl.wide {S S':Nat→Prop} {w:World} {v:Value} {y:Fo} (h:FSl S w v y) (h1:∀ b,S b→S' b):FSl S' w v y:=let ⟨ds,h3,h4⟩:=h;⟨ds,h3.wide h1,h4.wide h1⟩
theorem qF_.agree {S:Nat→Prop} {w w':World} {v:Value} {l:List Int} (h:qF_ S w v l) (ha:qd_ S w w'):qF_ S w' v l:=SlC.agree h ha
theorem qF_.wide {S S':Nat→Prop} {w:World} {v:Value} {l:List Int} (h:qF_ S w v l) (h1:∀ b,S b→S' b):qF_ S' w v l:=SlC.wide h h1
theorem Pth.agree {S:Nat→Prop} {w w':World} {v:Value} {l:List Ky} (h:Pth S w v l) (ha:qd_ S w w'):Pth S w' v l:=SlC.agree h ha
theorem Pth.wide {S S':Nat→Prop} {w:World} {v:Value} {l:List Ky} (h:Pth S w v l) (h1:∀ b,S b→S' b):Pth S' w v l:=SlC.wide h h1
theorem FCs.length {S:Nat→Prop} {w:World}:∀ {y:Fo} {cs:List Value},FCs S w y cs→cs.length = y.len * 3
 | .nil,_,h=>by rw [show _ = [] from h];rfl
 | .cons _ _ _ _,_,⟨_,_,_,h,_,_,h5⟩=>by rw [h];simp only [List.length_cons,Fo.len];have:=h5.length;omega
theorem SlC.of_owns {w:World} {base e k n:Nat} {v:Value} {xs:List Value} (h:w.ownsRow base e k v n xs):SlC (Rg base w.heap.size) w k v n xs:=by
 obtain ⟨h1,h2⟩:=h
 refine ⟨h1,?_⟩
 rcases h2 with ⟨rfl,rfl⟩ | ⟨g,cap,cur,rfl,hb,hg,hn,hc,hs,ht⟩
 · exact ⟨none,0,rfl,by omega,by simp [maxLen],fun _=>rfl, .inl rfl⟩
 · refine ⟨_,cap,rfl,hn,hc,(fun h=>by cases h),
    .inr ⟨g,0,rfl,⟨hb,(ge_ hg).1⟩,fun j u hj=>?_⟩⟩
   simp only [World.cell?,hg,Nat.zero_add]
   rw [← ht,List.getElem?_take] at hj
   split at hj
   · simpa using hj
   · cases hj
theorem FCs.drop {S:Nat→Prop} {w:World}:∀ {i:Nat} {y:Fo} {cs:List Value},FCs S w y cs→FCs S w (y.drop i) (cs.drop (i * 3))
 | 0,_,_,h=>by simpa [Fo.drop] using h
 | i + 1, .nil,_,h=>by rw [show _ = [] from h];simp [Fo.drop,FCs]
 | i + 1, .cons _ _ _ _,_,⟨_,_,_,h,_,_,h5⟩=>by
   rw [h,show (i + 1) * 3 = i * 3 + 1 + 1 + 1 from by omega]
   simpa [Fo.drop] using h5.drop (i:=i)
theorem Fo.drop_succ {i:Nat} {y r:Fo} {n:List UInt8} {l:List Int} {s:Fo}:y.drop i = .cons n l s r→y.drop (i + 1) = r:=by
 induction i generalizing y with
 | zero=>intro h;rw [show y = _ from h];rfl
 | succ i ih=>
   intro h
   cases y with
   | nil=>cases h
   | cons _ _ _ r'=>exact ih h
theorem Fo.drop_lt:∀ {i:Nat} {y:Fo},i < y.len→∃ n l s r,y.drop i = .cons n l s r
 | _, .nil,h=>by simp [Fo.len] at h
 | 0, .cons n l s r,_=>⟨n,l,s,r,rfl⟩
 | i + 1, .cons _ _ _ r,h=>Fo.drop_lt (i:=i) (y:=r) (by simp [Fo.len] at h;omega)
theorem Fo.drop_len:∀ {y:Fo},y.drop y.len = .nil
 | .nil=>rfl
 | .cons _ _ _ r=>Fo.drop_len (y:=r)
theorem SlC.cells {S:Nat→Prop} {w:World} {k n c:Nat} {a:Option Addr} {cs:List Value} (h:SlC S w k (.slice a n c) n cs) (hn:0 < n):∃ g o,a = some ⟨g,o,none⟩∧S g∧n ≤ c∧c ≤ maxLen∧∀ j u,cs[j]? = some u→w.cell? ⟨g,o + j,none⟩ = some u:=by
 obtain ⟨_,a',c',he,h1,h2,_,h3⟩:=h
 cases he
 rcases h3 with h3 | ⟨g,o,h4,h5,h6⟩
 · omega
 · exact ⟨g,o,h4,h5,h1,h2,h6⟩
theorem SlC.caps {S:Nat→Prop} {w:World} {k n c:Nat} {a:Option Addr} {cs:List Value} (h:SlC S w k (.slice a n c) n cs):n ≤ c∧c ≤ 9223372036854775807∧(a = none→n = 0∧c = 0):=by
 obtain ⟨_,a',c',he,h1,h2,h3,_⟩:=h
 cases he
 exact ⟨h1,by unfold maxLen at h2;omega,fun e=>by have:=h3 e;omega⟩
theorem SlC.shape {S:Nat→Prop} {w:World} {k n:Nat} {v:Value} {cs:List Value} (h:SlC S w k v n cs):∃ a c,v = .slice a n c∧n ≤ c∧c ≤ maxLen:=let ⟨_,a,c,h1,h2,h3,_⟩:=h;⟨a,c,h1,h2,h3⟩
theorem FSl.at {S:Nat→Prop} {w:World} {v:Value} {y:Fo} (h:FSl S w v y):∃ a c,v = .slice a y.len c∧y.len ≤ c∧c ≤ maxLen∧∀ i,i < y.len→∃ g o n l s r an cn ab cb,a = some ⟨g,o,none⟩∧S g∧y.drop i = .cons n l s r ∧
 w.cell? ⟨g,o + i * 3,none⟩ = some (.string (bs n))∧w.cell? ⟨g,o + i * 3 + 1,none⟩ = some (.slice an l.length cn)∧w.cell? ⟨g,o + i * 3 + 2,none⟩ = some (.slice ab s.len cb)∧qF_ S w (.slice an l.length cn) l∧FSl S w (.slice ab s.len cb) s:=by
 obtain ⟨ds,⟨hl,a,c,rfl,hc,hm,_,hh⟩,hf⟩:=h
 refine ⟨a,c,rfl,hc,hm,fun i hi=>?_⟩
 rcases hh with h0 | ⟨g,o,rfl,hg1,hcell⟩
 · omega
 · obtain ⟨n,l,s,r,hd⟩:=Fo.drop_lt hi
   have hf':=hf.drop (i:=i)
   rw [hd] at hf'
   obtain ⟨vn,vs,cs',he,hi',⟨ds',hs,hs'⟩,_⟩:=hf'
   obtain ⟨an,cn,rfl,_⟩:=SlC.shape hi'
   obtain ⟨ab,cb,rfl,_⟩:=SlC.shape hs
   have e:∀ j,ds[i * 3 + j]? = (Value.string (bs n) :: Value.slice an l.length cn :: Value.slice ab s.len cb :: cs')[j]?:=fun j=>by rw [← he,List.getElem?_drop]
   refine ⟨g,o,n,l,s,r,an,cn,ab,cb,rfl,hg1,hd,?_,?_,?_,hi',⟨ds',hs,hs'⟩⟩
   · exact hcell (i * 3) _ (by have:=e 0;simpa using this)
   · rw [Nat.add_assoc];exact hcell (i * 3 + 1) _ (by have:=e 1;simpa using this)
   · rw [Nat.add_assoc];exact hcell (i * 3 + 2) _ (by have:=e 2;simpa using this)
def Fo.Sm:Fo→Prop
 | .nil=>True
 | .cons n l s r=>n.length ≤ 1000∧l.length ≤ 1000∧s.len ≤ 1000∧s.Sm∧r.Sm
theorem Fo.Sm.drop:∀ {i:Nat} {y:Fo},y.Sm→(y.drop i).Sm
 | 0,_,h=>h
 | _ + 1, .nil,h=>h
 | i + 1, .cons _ _ _ r,⟨_,_,_,_,h⟩=>Fo.Sm.drop (i:=i) (y:=r) h
theorem Fo.cnt_drop:∀ {i:Nat} {y:Fo},(y.drop i).cnt ≤ y.cnt
 | 0,_=>nl_ _
 | _ + 1, .nil=>nl_ _
 | i + 1, .cons _ _ _ r=>by have:=Fo.cnt_drop (i:=i) (y:=r);simp only [Fo.drop,Fo.cnt];omega
theorem Fo.cnt_at {i:Nat} {y r s:Fo} {n:List UInt8} {l:List Int} (h:y.drop i = .cons n l s r):s.cnt < y.cnt:=by
 have:=Fo.cnt_drop (i:=i) (y:=y)
 rw [h] at this
 simp only [Fo.cnt] at this
 omega
theorem Fo.take_succ:∀ {i:Nat} {y r s:Fo} {n:List UInt8} {l:List Int},y.drop i = .cons n l s r→y.take (i + 1) = (y.take i).app (.cons n l s .nil)
 | 0,y,_,_,_,_,h=>by rw [show y = _ from h];rfl
 | _ + 1, .nil,_,_,_,_,h=>by cases h
 | i + 1, .cons _ _ _ r',_,_,_,_,h=>by
   show Fo.cons _ _ _ (r'.take (i + 1)) = _
   rw [Fo.take_succ (i:=i) (y:=r') h]
   rfl
theorem Fo.take_len:∀ {y:Fo},y.take y.len = y
 | .nil=>rfl
 | .cons _ _ _ r=>by show Fo.cons _ _ _ (r.take r.len) = _;rw [Fo.take_len]
theorem Fo.len_take:∀ {i:Nat} {y:Fo},i ≤ y.len→(y.take i).len = i
 | 0,_,_=>rfl
 | _ + 1, .nil,h=>by simp [Fo.len] at h
 | i + 1, .cons _ _ _ r,h=>by
   show (r.take i).len + 1 = _
   rw [Fo.len_take (by simp [Fo.len] at h;omega)]
theorem FCs.app {S:Nat→Prop} {w:World}:∀ {y z:Fo} {cs ds:List Value},FCs S w y cs→FCs S w z ds→FCs S w (y.app z) (cs ++ ds)
 | .nil,_,_,_,h,h'=>by rw [show _ = [] from h];exact h'
 | .cons _ _ _ _,_,_,_,⟨vn,vs,cs',h1,h2,h3,h4⟩,h'=>⟨vn,vs,_,by rw [h1];rfl,h2,h3,h4.app h'⟩
theorem FCs.one {S:Nat→Prop} {w:World} {n:List UInt8} {l:List Int} {s:Fo} {vn vs:Value} (h1:qF_ S w vn l) (h2:FSl S w vs s):FCs S w (.cons n l s .nil) [.string (bs n),vn,vs]:=⟨vn,vs,[],rfl,h1,h2,rfl⟩
theorem ob_ {w w':World} {base e k n B:Nat} {v:Value} {xs:List Value} (h:w.ownsRow base e k v n xs) (hb:Below B w w') (hB:w.heap.size ≤ B):w'.ownsRow base e k v n xs:=
 h.kept (row:=none) ⟨hb.os,hb.tape,hb.output,hb.size,fun i hi _=>hb.block i (by omega)⟩ (by
  rcases h.2 with ⟨rfl,_⟩ | ⟨g,_,_,rfl,_⟩
  · exact .inl rfl
  · exact .inr (by simp [Value.ownBlock]))
theorem qm_ {B:Nat} {a w:World} (h:Below B a w) (n:Nat):Below B a (w.drewN n):=⟨h.os,h.tape,h.output,h.size,h.block⟩
theorem bc_ {B b o:Nat} {w w':World} {v:Value} (h:Below B w w') (hb:b < B) (hc:w.cell? ⟨b,o,none⟩ = some v):w'.cell? ⟨b,o,none⟩ = some v:=(h.cell (p:=⟨b,o,none⟩) hb).trans hc
theorem qh_ {b o:Nat} {w w':World} {v:Value} {row:Option Nat} (h:w.grownBy w' row) (hb:row ≠ some b) (hc:w.cell? ⟨b,o,none⟩ = some v):w'.cell? ⟨b,o,none⟩ = some v:=h.cell hc (fun e=>hb e.symm)
theorem owns_ne {w:World} {base e k n:Nat} {v:Value} {xs:List Value} (h:w.ownsRow base e k v n xs) {b:Nat} (hb:w.heap.size ≤ b):v.ownBlock ≠ some b:=fun e=>by have:=(h.lt _ e).2;omega
structure Step (B:Nat) (W0 W w3:World) (v:Value) (gg:Nat):Prop where
 below:Below W0.heap.size W0 W
 grown:W.grownBy w3 v.ownBlock
 base:B ≤ W0.heap.size
 old:∀ b,v.ownBlock = some b→B ≤ b∧b < W0.heap.size
 place:v.ownBlock = some gg ∨ gg = W.heap.size
 lt:gg < w3.heap.size
theorem Step.size {B:Nat} {W0 W w3:World} {v:Value} {gg:Nat} (h:Step B W0 W w3 v gg):W0.heap.size ≤ W.heap.size∧W.heap.size ≤ w3.heap.size:=⟨h.below.size,h.grown.size⟩
theorem Step.past {B:Nat} {W0 W w3:World} {v v':Value} {gg:Nat} (h:Step B W0 W w3 v gg) (hv:v'.ownBlock = some gg):(∀ b,Rx B W0.heap.size v b→Rx B w3.heap.size v' b)∧qd_ (Rx B W0.heap.size v) W0 w3:=by
 have hs:=h.size
 refine ⟨fun b hb=>⟨hb.1,by have:=hb.2.1;omega,fun e=>?_⟩,fun b hb=>?_⟩
 · rw [hv] at e
   cases e
   rcases h.place with hp | hp
   · exact hb.2.2 hp
   · have:=hb.2.1
     omega
 · exact (h.grown.block b (by have:=hb.2.1;omega) (fun e=>hb.2.2 e.symm)).trans (h.below.block b hb.2.1)
theorem Step.fresh {B p q:Nat} {W0 W w1 w3:World} {v v':Value} {gg:Nat} (h:Step B W0 W w3 v gg) (hv:v'.ownBlock = some gg) (hp:W0.heap.size ≤ p) (hq:q ≤ W.heap.size) (hb:Below q w1 W):(∀ b,Rg p q b→Rx B w3.heap.size v' b)∧qd_ (Rg p q) w1 w3:=by
 have hs:=h.size
 have hB:=h.base
 refine ⟨fun b hb=>⟨by have:=hb.1;omega,by have:=hb.2;omega,fun e=>?_⟩,fun b hb'=>?_⟩
 · rw [hv] at e
   cases e
   rcases h.place with hp' | hp'
   · have:=(h.old _ hp').2;have:=hb.1;omega
   · have:=hb.2;omega
 · exact (h.grown.block b (by have:=hb'.2;omega) (fun e=>by have:=(h.old _ e.symm).2;have:=hb'.1;omega)).trans (hb.block b hb'.2)
theorem Step.out {B:Nat} {W00 W0 W w3:World} {v:Value} {gg:Nat} (h:Step B W0 W w3 v gg) (hb:Below B W00 W0):Below B W00 w3:=
 (hb.trans (h.below.mono h.base)).grown h.grown (by have:=h.size;have:=h.base;omega) (fun k hk=>(h.old k hk).1)
structure Stable (P:(Nat→Prop)→World→Prop):Prop where
 agree:∀ {S w w'},P S w→qd_ S w w'→P S w'
 wide:∀ {S S' w},P S w→(∀ b,S b→S' b)→P S' w
theorem Stable.ints (v:Value) (l:List Int):Stable (fun S w=>qF_ S w v l):=⟨fun h=>h.agree,fun h=>h.wide⟩
theorem Stable.pth (v:Value) (l:List Ky):Stable (fun S w=>Pth S w v l):=⟨fun h=>h.agree,fun h=>h.wide⟩
theorem Stable.both {P:(Nat→Prop)→World→Prop} (hP:Stable P) {S S':Nat→Prop} {w w':World} (h:P S w) (ha:qd_ S w w') (hw:∀ b,S b→S' b):P S' w':=hP.wide (hP.agree h ha) hw
theorem Step.keep {P:(Nat→Prop)→World→Prop} (hP:Stable P) {B:Nat} {W0 W w3:World} {v v':Value} {gg:Nat} (h:Step B W0 W w3 v gg) (hv:v'.ownBlock = some gg) (hF:P (Rx B W0.heap.size v) W0):P (Rx B w3.heap.size v') w3:=
 hP.both hF (h.past hv).2 (h.past hv).1
theorem Step.lift {P:(Nat→Prop)→World→Prop} (hP:Stable P) {B p q:Nat} {W0 W w1 w3:World} {v v':Value} {gg:Nat} (h:Step B W0 W w3 v gg) (hv:v'.ownBlock = some gg) (hF:P (Rg p q) w1) (hp:W0.heap.size ≤ p) (hq:q ≤ W.heap.size) (hb:Below q w1 W):P (Rx B w3.heap.size v') w3:=
 hP.both hF (h.fresh hv hp hq hb).2 (h.fresh hv hp hq hb).1
theorem SlC.news {S:Nat→Prop} {w W:World} {k n c:Nat} {a:Option Addr} {cs:List Value} (h:SlC S w k (.slice a n c) n cs) (ha:qd_ S w W):∀ ad,a = some ad→∀ (j:Nat) (u:Value),cs[j]? = some u→W.cell? (ad.add j) = some u:=by
 intro ad he j u hj
 by_cases hn:0 < n
 · obtain ⟨g,o,rfl,hS,_,_,hc⟩:=h.cells hn
   cases he
   have:=ha.cell hS (hc j u hj)
   unfold Addr.add
   split
   · rename_i h0;subst h0;simpa using this
   · exact this
 · have:cs = []:=by have h1:=h.1;rw [show n = 0 from by omega] at h1;simpa using h1
   rw [this] at hj;cases hj
theorem xr_ (p:List Ky):∀ u:Value,u ∈ p.flatMap Ky.cells→u.oneCell' = true:=by
 intro u hu
 rw [List.mem_flatMap] at hu
 obtain ⟨x,_,hx⟩:=hu
 simp [Ky.cells] at hx
 rcases hx with rfl | rfl | rfl <;> rfl
theorem zm_ (p:List Ky):(p.flatMap Ky.cells).length = p.length * 3:=by
 induction p with
 | nil=>rfl
 | cons k p ih=>simp only [List.flatMap_cons,List.length_append,ih,List.length_cons,Ky.cells];simp;omega
end Go.Proofs.LF
namespace Go.Proofs
open Go.Shelf
def Tryz.lays169_ren:Go.Shelf.Ren:=⟨fun | 169=>45 | n=>n,fun | 70=>111 | 9=>9 | 0=>0 | 72=>113 | 37=>22 | 127=>197 | 3=>3 | 5=>5 | n=>n,fun | n=>n⟩
theorem Tryz.lays169:Go.Proofs.Lays.n169 Tryz.prog Tryz.lays169_ren:={
 mixed:=by kernel_rfl
 f169:=Tryz.func45.trans (congrArg some (by kernel_rfl))
 t0:=Tryz.underlying0
 a0:=Tryz.isAgg0
 z0:=Tryz.sizeOf0
 v0:=Tryz.zeroValue0
 t3:=Tryz.underlying3
 a3:=Tryz.isAgg3
 z3:=Tryz.sizeOf3
 v3:=Tryz.zeroValue3
 t9:=Tryz.underlying9
 a9:=Tryz.isAgg9
 z9:=Tryz.sizeOf9
 v9:=Tryz.zeroValue9
 t37:=Tryz.underlying22
 a37:=Tryz.isAgg22
 z37:=Tryz.sizeOf22
 v37:=Tryz.zeroValue22
 t70:=Tryz.underlying111
 a70:=Tryz.isAgg111
 z70:=Tryz.sizeOf111
 v70:=Tryz.zeroValue111
 t72:=Tryz.underlying113
 a72:=Tryz.isAgg113
 z72:=Tryz.sizeOf113
 v72:=Tryz.zeroValue113
 t127:=Tryz.underlying197
 a127:=Tryz.isAgg197
 z127:=Tryz.sizeOf197
 v127:=Tryz.zeroValue197 }
theorem Tryz.Builder_Extra_169:Builder.Extra Tryz.prog Tryz.lays169_ren:={
 sizeBuilder:=by kernel_rfl
 liesBuilder:=by kernel_rfl
 t5:=Tryz.underlying5
 a5:=Tryz.isAgg5
 z5:=Tryz.sizeOf5
 v5:=Tryz.zeroValue5
 infoByte:=by kernel_rfl
 cellsByte:=by kernel_rfl
 sizeByte:=by kernel_rfl
 neB5:=by decide }
def Tryz.lays156_ren:Go.Shelf.Ren:=⟨fun | 156=>93 | 165=>143 | 166=>43 | 169=>45 | 240=>91 | 241=>181 | 276=>141 | 277=>211 | n=>n,fun | 31=>120 | 9=>9 | 3=>3 | 4=>4 | 0=>0 | 20=>20 | 72=>113 | 76=>122 | 70=>111 | 37=>22 | 75=>118 | 127=>197 | 164=>262 | 5=>5 | 80=>125 | n=>n,fun | n=>n⟩
theorem Tryz.lays156:Go.Proofs.Lays.n156 Tryz.prog Tryz.lays156_ren:={
 mixed:=by kernel_rfl
 f156:=Tryz.func93.trans (congrArg some (by kernel_rfl))
 f165:=Tryz.func143.trans (congrArg some (by kernel_rfl))
 f166:=Tryz.func43.trans (congrArg some (by kernel_rfl))
 f169:=Tryz.func45.trans (congrArg some (by kernel_rfl))
 f240:=Tryz.func91.trans (congrArg some (by kernel_rfl))
 f241:=Tryz.func181.trans (congrArg some (by kernel_rfl))
 f276:=Tryz.func141.trans (congrArg some (by kernel_rfl))
 f277:=Tryz.func211.trans (congrArg some (by kernel_rfl))
 t0:=Tryz.underlying0
 a0:=Tryz.isAgg0
 z0:=Tryz.sizeOf0
 v0:=Tryz.zeroValue0
 t3:=Tryz.underlying3
 a3:=Tryz.isAgg3
 z3:=Tryz.sizeOf3
 v3:=Tryz.zeroValue3
 t4:=Tryz.underlying4
 a4:=Tryz.isAgg4
 z4:=Tryz.sizeOf4
 v4:=Tryz.zeroValue4
 t9:=Tryz.underlying9
 a9:=Tryz.isAgg9
 z9:=Tryz.sizeOf9
 v9:=Tryz.zeroValue9
 t20:=Tryz.underlying20
 a20:=Tryz.isAgg20
 z20:=Tryz.sizeOf20
 v20:=Tryz.zeroValue20
 t31:=Tryz.underlying120
 a31:=Tryz.isAgg120
 z31:=Tryz.sizeOf120
 v31:=Tryz.zeroValue120
 t37:=Tryz.underlying22
 a37:=Tryz.isAgg22
 z37:=Tryz.sizeOf22
 v37:=Tryz.zeroValue22
 t70:=Tryz.underlying111
 a70:=Tryz.isAgg111
 z70:=Tryz.sizeOf111
 v70:=Tryz.zeroValue111
 t72:=Tryz.underlying113
 a72:=Tryz.isAgg113
 z72:=Tryz.sizeOf113
 v72:=Tryz.zeroValue113
 t75:=Tryz.underlying118
 a75:=Tryz.isAgg118
 z75:=Tryz.sizeOf118
 v75:=Tryz.zeroValue118
 t76:=Tryz.underlying122
 a76:=Tryz.isAgg122
 z76:=Tryz.sizeOf122
 v76:=Tryz.zeroValue122
 t127:=Tryz.underlying197
 a127:=Tryz.isAgg197
 z127:=Tryz.sizeOf197
 v127:=Tryz.zeroValue197
 t164:=Tryz.underlying262
 a164:=Tryz.isAgg262
 z164:=Tryz.sizeOf262
 v164:=Tryz.zeroValue262 }
theorem Tryz.Builder_Extra_156:Builder.Extra Tryz.prog Tryz.lays156_ren:={
 sizeBuilder:=by kernel_rfl
 liesBuilder:=by kernel_rfl
 t5:=Tryz.underlying5
 a5:=Tryz.isAgg5
 z5:=Tryz.sizeOf5
 v5:=Tryz.zeroValue5
 infoByte:=by kernel_rfl
 cellsByte:=by kernel_rfl
 sizeByte:=by kernel_rfl
 neB5:=by decide }
open Go.RowKit in
theorem Tryz.strings_Join (bk o c:Nat) (xs:List ByteArray) (sep:ByteArray) (w:World) (hcells:∀ (j:Nat) x,xs[j]? = some x→w.cell? ⟨bk,o + j,none⟩ = some (.string x)) (hbk:bk < w.heap.size) (hN:xs.length ≤ 140737488355328) (hcap:xs.length ≤ c) (hlen:(Lib.join (xs.map (·.data.toList)) sep.data.toList).length ≤ 140737488355328) :
 Calls Tryz.prog 93 #[.slice (some ⟨bk,o,none⟩) xs.length c, .string sep] w fun e w'=>e = .returned (.string ⟨(Lib.join (xs.map (·.data.toList)) sep.data.toList).toArray⟩)∧Below w.heap.size w w':=Any.strings_Join Tryz.lays156 Tryz.Builder_Extra_156 bk o c xs sep w hcells hbk hN hcap hlen
open Go.RowKit in
theorem Tryz.Builder_String_any_k (B b:Nat) (l:List UInt8) (w:World) (h:Lib.IsBuilderF 113 5 B b (Lib.byteCells l) w) (hBw:B ≤ w.heap.size) :
 Calls Tryz.prog 45 #[.pointer (some ⟨b,0,none⟩)] w fun e w'=>e = .returned (.string ⟨l.toArray⟩)∧(Lib.IsBuilderF 113 5 B b (Lib.byteCells l) w'∧Below B w w'∧Lib.OthersKept 5 (some b) w w'):=Any.Builder_String_any_k Tryz.lays169 Tryz.Builder_Extra_169 B b l w h hBw
def Tryz.laysM171_ren:Go.Shelf.Ren:=⟨fun | 171=>42 | 243=>92 | 246=>142 | 283=>177 | 284=>178 | 285=>179 | 286=>180 | 129=>137 | 317=>207 | 318=>208 | 319=>209 | 320=>210 | 337=>222 | 338=>223 | n=>n,fun | 3=>3 | 9=>9 | 2=>2 | 4=>4 | 171=>292 | 0=>0 | 53=>259 | 37=>22 | 5=>5 | 173=>294 | 212=>319 | 51=>83 | 20=>20 | 213=>320 | 46=>178 | 232=>335 | 233=>336 | n=>n,fun | 17=>0 | 18=>4 | 19=>5 | n=>n⟩
theorem Tryz.laysM171:Go.Proofs.LaysM.n171 Tryz.prog Tryz.laysM171_ren:={
 mixed:=by kernel_rfl
 f129:=Tryz.func137.trans (congrArg some (by kernel_rfl))
 f171:=Tryz.func42.trans (congrArg some (by kernel_rfl))
 f243:=Tryz.func92.trans (congrArg some (by kernel_rfl))
 f246:=Tryz.func142.trans (congrArg some (by kernel_rfl))
 f283:=Tryz.func177.trans (congrArg some (by kernel_rfl))
 f284:=Tryz.func178.trans (congrArg some (by kernel_rfl))
 f285:=Tryz.func179.trans (congrArg some (by kernel_rfl))
 f286:=Tryz.func180.trans (congrArg some (by kernel_rfl))
 f317:=Tryz.func207.trans (congrArg some (by kernel_rfl))
 f318:=Tryz.func208.trans (congrArg some (by kernel_rfl))
 f319:=Tryz.func209.trans (congrArg some (by kernel_rfl))
 f320:=Tryz.func210.trans (congrArg some (by kernel_rfl))
 f337:=Tryz.func222.trans (congrArg some (by kernel_rfl))
 f338:=Tryz.func223.trans (congrArg some (by kernel_rfl))
 t0:=Tryz.underlying0
 a0:=Tryz.isAgg0
 z0:=Tryz.sizeOf0
 v0:=Tryz.zeroValue0
 t2:=Tryz.underlying2
 a2:=Tryz.isAgg2
 z2:=Tryz.sizeOf2
 v2:=Tryz.zeroValue2
 t3:=Tryz.underlying3
 a3:=Tryz.isAgg3
 z3:=Tryz.sizeOf3
 v3:=Tryz.zeroValue3
 t4:=Tryz.underlying4
 a4:=Tryz.isAgg4
 z4:=Tryz.sizeOf4
 v4:=Tryz.zeroValue4
 t5:=Tryz.underlying5
 a5:=Tryz.isAgg5
 z5:=Tryz.sizeOf5
 v5:=Tryz.zeroValue5
 t9:=Tryz.underlying9
 a9:=Tryz.isAgg9
 z9:=Tryz.sizeOf9
 v9:=Tryz.zeroValue9
 t20:=Tryz.underlying20
 a20:=Tryz.isAgg20
 z20:=Tryz.sizeOf20
 v20:=Tryz.zeroValue20
 t37:=Tryz.underlying22
 a37:=Tryz.isAgg22
 z37:=Tryz.sizeOf22
 v37:=Tryz.zeroValue22
 t46:=Tryz.underlying178
 a46:=Tryz.isAgg178
 z46:=Tryz.sizeOf178
 v46:=Tryz.zeroValue178
 t51:=Tryz.underlying83
 a51:=Tryz.isAgg83
 z51:=Tryz.sizeOf83
 v51:=Tryz.zeroValue83
 t53:=Tryz.underlying259
 a53:=Tryz.isAgg259
 z53:=Tryz.sizeOf259
 v53:=Tryz.zeroValue259
 t171:=Tryz.underlying292
 a171:=Tryz.isAgg292
 z171:=Tryz.sizeOf292
 v171:=Tryz.zeroValue292
 t173:=Tryz.underlying294
 a173:=Tryz.isAgg294
 z173:=Tryz.sizeOf294
 v173:=Tryz.zeroValue294
 t212:=Tryz.underlying319
 a212:=Tryz.isAgg319
 z212:=Tryz.sizeOf319
 v212:=Tryz.zeroValue319
 t213:=Tryz.underlying320
 a213:=Tryz.isAgg320
 z213:=Tryz.sizeOf320
 t232:=Tryz.underlying335
 a232:=Tryz.isAgg335
 z232:=Tryz.sizeOf335
 v232:=Tryz.zeroValue335
 t233:=Tryz.underlying336
 a233:=Tryz.isAgg336
 z233:=Tryz.sizeOf336
 v233:=Tryz.zeroValue336
 g17:=by kernel_rfl
 g18:=by kernel_rfl
 g19:=by kernel_rfl
 i0:=by kernel_rfl
 i2:=by kernel_rfl
 i3:=by kernel_rfl
 i4:=by kernel_rfl
 i5:=by kernel_rfl
 i9:=by kernel_rfl
 i20:=by kernel_rfl
 i37:=by kernel_rfl
 i46:=by kernel_rfl
 i51:=by kernel_rfl
 i53:=by kernel_rfl
 i171:=by kernel_rfl
 i173:=by kernel_rfl
 i212:=by kernel_rfl
 i232:=by kernel_rfl
 i233:=by kernel_rfl
 m17:=by kernel_rfl
 m18:=by kernel_rfl
 m19:=by kernel_rfl }
open Go.RowKit Go.Sort Go.Lib in
theorem Tryz.strconv_Itoa (n : Int) (h0 : -9223372036854775808 ≤ n) (h1 : n ≤ 9223372036854775807) (w : World) (htab : Lib.TabIs Tryz.prog w "internal/strconv.uint64pow10" .u64 Lib.pow10Tab) :
 Calls Tryz.prog 42 #[.int .i64 n] w fun e w'=>e = .returned (.string ⟨(Lib.itoa n).toArray⟩)∧∃ k os,w' = grow (w.drewN k) os:=Any.strconv_Itoa Tryz.laysM171 n h0 h1 w htab
def Tryz.laysC172_ren:Go.Shelf.Ren:=⟨fun | 172=>100 | 244=>145 | 245=>146 | 247=>182 | 279=>183 | 280=>184 | 281=>185 | 282=>186 | 287=>212 | 316=>213 | 171=>42 | 205=>214 | 321=>224 | 322=>225 | 243=>92 | 246=>142 | 283=>177 | 284=>178 | 285=>179 | 286=>180 | 129=>137 | 317=>207 | 318=>208 | 319=>209 | 320=>210 | 337=>222 | 338=>223 | n=>n,fun | 9=>9 | 3=>3 | 75=>118 | 76=>122 | 4=>4 | 5=>5 | 167=>296 | 37=>22 | 0=>0 | 85=>297 | 2=>2 | 168=>299 | 53=>259 | 175=>322 | 46=>178 | 210=>326 | 127=>197 | 145=>331 | 143=>329 | 21=>21 | 171=>292 | 173=>294 | 212=>319 | 51=>83 | 20=>20 | 213=>320 | 232=>335 | 233=>336 | 80=>125 | n=>n,fun | 15=>1 | 16=>2 | 17=>0 | 18=>4 | 19=>5 | n=>n⟩
theorem Tryz.laysC172:Go.Proofs.LaysC.n172 Tryz.prog Tryz.laysC172_ren:={
 mixed:=by kernel_rfl
 f129:=Tryz.func137.trans (congrArg some (by kernel_rfl))
 f171:=Tryz.func42.trans (congrArg some (by kernel_rfl))
 f172:=Tryz.func100.trans (congrArg some (by kernel_rfl))
 f205:=Tryz.func214.trans (congrArg some (by kernel_rfl))
 f243:=Tryz.func92.trans (congrArg some (by kernel_rfl))
 f244:=Tryz.func145.trans (congrArg some (by kernel_rfl))
 f245:=Tryz.func146.trans (congrArg some (by kernel_rfl))
 f246:=Tryz.func142.trans (congrArg some (by kernel_rfl))
 f247:=Tryz.func182.trans (congrArg some (by kernel_rfl))
 f279:=Tryz.func183.trans (congrArg some (by kernel_rfl))
 f280:=Tryz.func184.trans (congrArg some (by kernel_rfl))
 f281:=Tryz.func185.trans (congrArg some (by kernel_rfl))
 f282:=Tryz.func186.trans (congrArg some (by kernel_rfl))
 f283:=Tryz.func177.trans (congrArg some (by kernel_rfl))
 f284:=Tryz.func178.trans (congrArg some (by kernel_rfl))
 f285:=Tryz.func179.trans (congrArg some (by kernel_rfl))
 f286:=Tryz.func180.trans (congrArg some (by kernel_rfl))
 f287:=Tryz.func212.trans (congrArg some (by kernel_rfl))
 f316:=Tryz.func213.trans (congrArg some (by kernel_rfl))
 f317:=Tryz.func207.trans (congrArg some (by kernel_rfl))
 f318:=Tryz.func208.trans (congrArg some (by kernel_rfl))
 f319:=Tryz.func209.trans (congrArg some (by kernel_rfl))
 f320:=Tryz.func210.trans (congrArg some (by kernel_rfl))
 f321:=Tryz.func224.trans (congrArg some (by kernel_rfl))
 f322:=Tryz.func225.trans (congrArg some (by kernel_rfl))
 f337:=Tryz.func222.trans (congrArg some (by kernel_rfl))
 f338:=Tryz.func223.trans (congrArg some (by kernel_rfl))
 t0:=Tryz.underlying0
 a0:=Tryz.isAgg0
 z0:=Tryz.sizeOf0
 v0:=Tryz.zeroValue0
 t2:=Tryz.underlying2
 a2:=Tryz.isAgg2
 z2:=Tryz.sizeOf2
 v2:=Tryz.zeroValue2
 t3:=Tryz.underlying3
 a3:=Tryz.isAgg3
 z3:=Tryz.sizeOf3
 v3:=Tryz.zeroValue3
 t4:=Tryz.underlying4
 a4:=Tryz.isAgg4
 z4:=Tryz.sizeOf4
 v4:=Tryz.zeroValue4
 t5:=Tryz.underlying5
 a5:=Tryz.isAgg5
 z5:=Tryz.sizeOf5
 v5:=Tryz.zeroValue5
 t9:=Tryz.underlying9
 a9:=Tryz.isAgg9
 z9:=Tryz.sizeOf9
 v9:=Tryz.zeroValue9
 t20:=Tryz.underlying20
 a20:=Tryz.isAgg20
 z20:=Tryz.sizeOf20
 v20:=Tryz.zeroValue20
 t21:=Tryz.underlying21
 a21:=Tryz.isAgg21
 z21:=Tryz.sizeOf21
 v21:=Tryz.zeroValue21
 t37:=Tryz.underlying22
 a37:=Tryz.isAgg22
 z37:=Tryz.sizeOf22
 v37:=Tryz.zeroValue22
 t46:=Tryz.underlying178
 a46:=Tryz.isAgg178
 z46:=Tryz.sizeOf178
 v46:=Tryz.zeroValue178
 t51:=Tryz.underlying83
 a51:=Tryz.isAgg83
 z51:=Tryz.sizeOf83
 v51:=Tryz.zeroValue83
 t53:=Tryz.underlying259
 a53:=Tryz.isAgg259
 z53:=Tryz.sizeOf259
 v53:=Tryz.zeroValue259
 t75:=Tryz.underlying118
 a75:=Tryz.isAgg118
 z75:=Tryz.sizeOf118
 v75:=Tryz.zeroValue118
 t76:=Tryz.underlying122
 a76:=Tryz.isAgg122
 z76:=Tryz.sizeOf122
 v76:=Tryz.zeroValue122
 t85:=Tryz.underlying297
 a85:=Tryz.isAgg297
 z85:=Tryz.sizeOf297
 v85:=Tryz.zeroValue297
 t127:=Tryz.underlying197
 a127:=Tryz.isAgg197
 z127:=Tryz.sizeOf197
 v127:=Tryz.zeroValue197
 t143:=Tryz.underlying329
 a143:=Tryz.isAgg329
 z143:=Tryz.sizeOf329
 v143:=Tryz.zeroValue329
 t145:=Tryz.underlying331
 a145:=Tryz.isAgg331
 z145:=Tryz.sizeOf331
 v145:=Tryz.zeroValue331
 t167:=Tryz.underlying296
 a167:=Tryz.isAgg296
 z167:=Tryz.sizeOf296
 v167:=Tryz.zeroValue296
 t168:=Tryz.underlying299
 a168:=Tryz.isAgg299
 z168:=Tryz.sizeOf299
 v168:=Tryz.zeroValue299
 t171:=Tryz.underlying292
 a171:=Tryz.isAgg292
 z171:=Tryz.sizeOf292
 v171:=Tryz.zeroValue292
 t173:=Tryz.underlying294
 a173:=Tryz.isAgg294
 z173:=Tryz.sizeOf294
 v173:=Tryz.zeroValue294
 t175:=Tryz.underlying322
 a175:=Tryz.isAgg322
 z175:=Tryz.sizeOf322
 v175:=Tryz.zeroValue322
 t210:=Tryz.underlying326
 a210:=Tryz.isAgg326
 z210:=Tryz.sizeOf326
 v210:=Tryz.zeroValue326
 t212:=Tryz.underlying319
 a212:=Tryz.isAgg319
 z212:=Tryz.sizeOf319
 v212:=Tryz.zeroValue319
 t213:=Tryz.underlying320
 a213:=Tryz.isAgg320
 z213:=Tryz.sizeOf320
 t232:=Tryz.underlying335
 a232:=Tryz.isAgg335
 z232:=Tryz.sizeOf335
 v232:=Tryz.zeroValue335
 t233:=Tryz.underlying336
 a233:=Tryz.isAgg336
 z233:=Tryz.sizeOf336
 v233:=Tryz.zeroValue336
 g15:=by kernel_rfl
 g16:=by kernel_rfl
 g17:=by kernel_rfl
 g18:=by kernel_rfl
 g19:=by kernel_rfl
 t80:=Tryz.underlying125
 a80:=Tryz.isAgg125
 z80:=Tryz.sizeOf125
 v80:=Tryz.zeroValue125
 i0:=by kernel_rfl
 i2:=by kernel_rfl
 i3:=by kernel_rfl
 i4:=by kernel_rfl
 i5:=by kernel_rfl
 i9:=by kernel_rfl
 i20:=by kernel_rfl
 i21:=by kernel_rfl
 i37:=by kernel_rfl
 i46:=by kernel_rfl
 i51:=by kernel_rfl
 i53:=by kernel_rfl
 i75:=by kernel_rfl
 i76:=by kernel_rfl
 i80:=by kernel_rfl
 i85:=by kernel_rfl
 i127:=by kernel_rfl
 i143:=by kernel_rfl
 i145:=by kernel_rfl
 i167:=by kernel_rfl
 i168:=by kernel_rfl
 i171:=by kernel_rfl
 i173:=by kernel_rfl
 i175:=by kernel_rfl
 i210:=by kernel_rfl
 i212:=by kernel_rfl
 i232:=by kernel_rfl
 i233:=by kernel_rfl
 m15:=by kernel_rfl
 m16:=by kernel_rfl
 m17:=by kernel_rfl
 m18:=by kernel_rfl
 m19:=by kernel_rfl
 c0:=by kernel_rfl
 c2:=by kernel_rfl
 c3:=by kernel_rfl
 c4:=by kernel_rfl
 c5:=by kernel_rfl
 c9:=by kernel_rfl
 c20:=by kernel_rfl
 c21:=by kernel_rfl
 c37:=by kernel_rfl
 c46:=by kernel_rfl
 c51:=by kernel_rfl
 c53:=by kernel_rfl
 c75:=by kernel_rfl
 c76:=by kernel_rfl
 c80:=by kernel_rfl
 c85:=by kernel_rfl
 c127:=by kernel_rfl
 c143:=by kernel_rfl
 c145:=by kernel_rfl
 c167:=by kernel_rfl
 c168:=by kernel_rfl
 c171:=by kernel_rfl
 c173:=by kernel_rfl
 c175:=by kernel_rfl
 c210:=by kernel_rfl
 c212:=by kernel_rfl
 c213:=by kernel_rfl
 c232:=by kernel_rfl
 c233:=by kernel_rfl }
open Go.RowKit in
theorem Tryz.strconv_Atoi_ok (s:ByteArray) (hmax:s.size ≤ 9223372036854775806) (v:Int) (h:Lib.atoiAll s.data.toList = .ok v) (w:World) :
 Calls Tryz.prog 100 #[.string s] w fun e w'=>e = .returned (.tuple #[.int .i64 v, .nilIface])∧(w' = w ∨ ∃ t,w' = Lib.bytesWorld w 5 t):=Any.strconv_Atoi_ok Tryz.laysC172 s hmax v h w
def Tryz.laysNm215_ren:Go.Shelf.Ren:=⟨fun | 15=>65 | n=>n,fun | 22=>27 | 3=>3 | 4=>4 | n=>n,fun | n=>n⟩
theorem Tryz.laysNm215:Go.Proofs.Lays2.n15 Tryz.prog Tryz.laysNm215_ren:={
 mixed:=by kernel_rfl
 f15:=Tryz.func65.trans (congrArg some (by kernel_rfl))
 t3:=Tryz.underlying3
 a3:=Tryz.isAgg3
 z3:=Tryz.sizeOf3
 v3:=Tryz.zeroValue3
 t4:=Tryz.underlying4
 a4:=Tryz.isAgg4
 z4:=Tryz.sizeOf4
 v4:=Tryz.zeroValue4
 t22:=Tryz.underlying27
 a22:=Tryz.isAgg27
 z22:=Tryz.sizeOf27
 v22:=Tryz.zeroValue27
 i3:=by kernel_rfl }
open Go.RowKit Go.Lib in
theorem Tryz.slices_Clone_int (b off n c:Nat) (zs:List Int) (w:World) (hz:n ≤ zs.length) (hbig:n * 8 ≤ 140737488355328) (hc:∀ j,j < zs.length→w.cell? ⟨b,off + j,none⟩ = some (.int .i64 (zs.getD j 0))) :
 Calls Tryz.prog 65 #[.slice (some ⟨b,off,none⟩) n c] w fun e w'=>∃ v',e = .returned v'∧w'.ownsRow w.heap.size 3 1 v' n ((zs.take n).map (Value.int .i64))∧v' ≠ .slice none 0 0∧Below w.heap.size w w':=Any.slices_Clone_int Tryz.laysNm215 b off n c zs w hz hbig hc
open Go.RowKit Go.Lib in
theorem Tryz.slices_Clone_int_nil (n c:Nat) (w:World) :
 Calls Tryz.prog 65 #[.slice none n c] w fun e w'=>e = .returned (.slice none 0 0)∧w' = w:=Any.slices_Clone_int_nil Tryz.laysNm215 n c w
open Go.RowKit Go.Lib in
theorem Tryz.slices_Clone_int_zero (a:Addr) (c:Nat) (w:World) :
 Calls Tryz.prog 65 #[.slice (some a) 0 c] w fun e w'=>∃ v',e = .returned v'∧w'.ownsRow w.heap.size 3 1 v' 0 []∧v' ≠ .slice none 0 0∧Below w.heap.size w w':=Any.slices_Clone_int_zero Tryz.laysNm215 a c w
end Go.Proofs
namespace Go.Proofs.LF
def yT_ (a b:List UInt8):Int:=if Op.bytesLess a b then -1 else if Op.bytesLess b a then 1 else 0
def wy_ (a b:Int):Int:=if a < b then -1 else if b < a then 1 else 0
def byK (a b:Ky):Int:=if a.n ≠ b.n then yT_ a.n b.n else if a.h ≠ b.h then (if b.h then -1 else 1) else wy_ a.x b.x
def kyOf (n:List UInt8):List Int→Ky
 | []=>⟨n,false,0⟩
 | x :: _=>⟨n,true,x⟩
theorem kyOf_n (n:List UInt8) (l:List Int):(kyOf n l).n = n:=by cases l <;> rfl
def offB (n most:Int):Bool:=decide (n < 0) || decide (most < n)
def kb_ (l:List Int):Bool:=l.any fun x=>offB x 9999
def zN_ (s:List UInt8):Bool:=s.any (fun c=>decide ((c.toNat:Int) < 97) || decide (122 < (c.toNat:Int))) || decide ((s.length:Int) < 1) || decide (8 < (s.length:Int))
def inB (n lo hi:Int):Bool:=decide (lo ≤ n) && decide (n ≤ hi)
theorem j3_ {a b:UInt8}:a = b ↔ a.toNat = b.toNat:=⟨fun h=>by rw [h],fun h=>UInt8.toNat_inj.1 h⟩
theorem vw_:∀ (a:List UInt8),Op.bytesLess a a = false
 | []=>rfl
 | a :: x=>by simp [Op.bytesLess,vw_ x]
theorem xp_:∀ {a b:List UInt8},Op.bytesLess a b = false→Op.bytesLess b a = false→a = b
 | [],[],_,_=>rfl
 | [],_ :: _,h,_=>by simp [Op.bytesLess] at h
 | _ :: _,[],_,h=>by simp [Op.bytesLess] at h
 | a :: x,b :: y,h,k=>by
   simp only [Op.bytesLess,Bool.or_eq_false_iff,decide_eq_false_iff_not,Bool.and_eq_false_iff,beq_eq_false_iff_ne,ne_eq] at h k
   have e:a = b:=by
    have h1:=h.1;have h2:=k.1
    rw [UInt8.lt_iff_toNat_lt] at h1 h2
    rw [j3_];omega
   subst e
   rw [xp_ (h.2.resolve_left (by simp)) (k.2.resolve_left (by simp))]
theorem bl_of_ne {a b:List UInt8} (h:Op.bytesLess a b = false) (hn:a ≠ b):Op.bytesLess b a = true:=by
 cases hb:Op.bytesLess b a with
 | true=>rfl
 | false=>exact absurd (xp_ h hb) hn
def idxN (p:Nat→Bool) (n:Nat):Int:=match (List.range n).find? p with | some i=>(i:Int) | none => -1
def anyN (p:Nat→Bool) (n:Nat):Bool:=(List.range n).any p
theorem z8_ {p:Nat→Bool} {n k:Nat} (h:∀ i,i < k→p i = false) (hk:k < n) (hp:p k = true):idxN p n = k:=by
 have:(List.range n).find? p = some k:=by
  rw [List.find?_range_eq_some]
  exact ⟨hp,by simpa using hk,fun j hj=>by simp [h j hj]⟩
 simp [idxN,this]
theorem zu_ {p:Nat→Bool} {n:Nat} (h:∀ i,i < n→p i = false):idxN p n = -1:=by
 have:(List.range n).find? p = none:=by
  rw [List.find?_eq_none]
  intro x hx
  simp [h x (by simpa using hx)]
 simp [idxN,this]
theorem kn_ (p:Nat→Bool) (n:Nat):decide (0 ≤ idxN p n) = anyN p n:=by
 unfold idxN anyN
 cases h:(List.range n).find? p with
 | none=>
   rw [List.find?_eq_none] at h
   symm;simp
   intro x hx
   have:=h x (by simpa using hx)
   simpa using this
 | some k=>
   have:=List.find?_some h
   have hm:=List.mem_of_find?_eq_some h
   simp
   exact ⟨k,by simpa using hm,this⟩
theorem vg_ {α:Type} (q:α→Bool) (p:Nat→Bool) (l:List α) (h:∀ i (hi:i < l.length),p i = q l[i]):anyN p l.length = l.any q:=by
 rw [Bool.eq_iff_iff]
 simp only [anyN,List.any_eq_true,List.mem_range]
 constructor
 · rintro ⟨i,hi,hp⟩
   exact ⟨l[i],by simp,by rw [← h i hi];exact hp⟩
 · rintro ⟨x,hx,hq⟩
   obtain ⟨i,hi,rfl⟩:=List.getElem_of_mem hx
   exact ⟨i,hi,by rw [h i hi];exact hq⟩
def zD_ (bad:Ky→Ky→Bool):Int→Option Ky→Fo→Int
 | _,_, .nil=>0
 | d,p, .cons n l s r=>
   if 3 < d then 10 else if zN_ n then 11 else if 4 < (l.length:Int) then 2 else if kb_ l then 3
   else if (match p with | none=>false | some q=>bad q (kyOf n l)) then 4
   else if zD_ bad (d + 1) none s ≠ 0 then zD_ bad (d + 1) none s else zD_ bad d (some (kyOf n l)) r
def geK (a b:Ky):Bool:=decide (0 ≤ byK a b)
def ordF:Int→Fo→Int:=fun d y=>zD_ geK d none y
structure NdD where
 up:List Ky
 n:List UInt8
 l:List Int
 s:Fo
def qa_:List Ky→Fo→List NdD
 | _, .nil=>[]
 | up, .cons n l s r=>⟨up,n,l,s⟩ :: (qa_ (up ++ [kyOf n l]) s ++ qa_ up r)
theorem kz_ (up:List Ky):∀ (y z:Fo),qa_ up (y.app z) = qa_ up y ++ qa_ up z
 | .nil,_=>rfl
 | .cons n l s r,z=>by simp only [Fo.app,qa_,kz_ up r z];simp
theorem zb_ {up:List Ky} {k:Nat} {y r s:Fo} {n:List UInt8} {l:List Int} (h:y.drop k = .cons n l s r):qa_ up (y.take (k + 1)) = qa_ up (y.take k) ++ (⟨up,n,l,s⟩ :: qa_ (up ++ [kyOf n l]) s):=by
 rw [Fo.take_succ h,kz_];simp [qa_]
theorem zv_ {up:List Ky}:∀ {k:Nat} {y:Fo},qa_ up (y.take k) <+: qa_ up y
 | 0,_=>by simp [Fo.take,qa_]
 | _ + 1, .nil=>by simp [Fo.take]
 | k + 1, .cons n l s r=>by
   obtain ⟨t,ht⟩:=zv_ (up:=up) (k:=k) (y:=r)
   exact ⟨t,by simp only [Fo.take,qa_,← ht];simp⟩
theorem qr_ (up:List Ky):∀ (y:Fo),(qa_ up y).length = y.cnt
 | .nil=>rfl
 | .cons n l s r=>by simp only [qa_,Fo.cnt,List.length_cons,List.length_append,qr_ _ s,qr_ up r];omega
open Go.RowKit
variable {P:Program} (w:World)
theorem owns_shape {w:World} {base e k n:Nat} {v:Value} {xs:List Value} (h:w.ownsRow base e k v n xs):∃ a c,v = .slice a n c∧n ≤ c∧c ≤ maxLen:=(SlC.of_owns h).shape
theorem run_append_ao (t ty:TypeId) (base:Nat) (e:TypeId) (i:TypeInfo) (z:Value) (size bytes:Nat) (ht:P.underlying t = some (.slice e)) (hi:P.info? e = some i) (hz:i.zero = some z)
 (hsize:i.size = size) (hby:i.bytes = bytes) (hzs:z.cells.size = size) (hsz:0 < size)
 (v:Value) (n:Nat) (xs:List Value) (hown:w.ownsRow base e size v n xs)
 (ao:Option Addr) (m c:Nat) (news:List Value) (hl:news.length = m * size) (hnone:ao = none→m = 0∧c = 0) (hnews:∀ ad,ao = some ad→∀ (j:Nat) (u:Value),news[j]? = some u→w.cell? (ad.add j) = some u) (h1:∀ u ∈ news,u.oneCell' = true)
 (h63:n + m ≤ maxLen) (hbytes:(n + m) * bytes ≤ 140737488355328) (hbase:base ≤ w.heap.size) :
 ∃ a' c' w',(Builtin.append_ #[t,t] ty #[v, .slice ao m c]).run P w = .ok (.slice a' (n + m) c') w' ∧
  w'.ownsRow base e size (.slice a' (n + m) c') (n + m) (xs ++ news)∧w.grownBy w' v.ownBlock∧(∀ g,(Value.slice a' (n + m) c').ownBlock = some g→v.ownBlock = some g ∨ g = w.heap.size):=by
 cases ao with
 | some ad=>
   obtain ⟨v',w',hr,h2,h3,_,h5⟩:=run_append_own_at (P:=P) w base t ty e i z size bytes ht hi hz hsize hby hzs hsz v n xs hown ad m c news hl (hnews ad rfl) h1 h63 hbytes hbase
   obtain ⟨a',c',rfl,_,_⟩:=owns_shape h2
   refine ⟨a',c',w',hr,h2,h3,fun g hg=>?_⟩
   rcases h5 with h5 | h5
   · exact .inl (by rw [← h5];exact hg)
   · exact .inr (by rw [hg] at h5;exact Option.some.inj h5)
 | none=>
   obtain ⟨rfl,rfl⟩:=hnone rfl
   have hn:news = []:=List.eq_nil_of_length_eq_zero (by simpa using hl)
   subst hn
   have hrun:=run_append_owned_none (P:=P) w base t ty e i size ht hi v n xs hown
   obtain ⟨a',c',rfl,_,_⟩:=owns_shape hown
   exact ⟨a',c',w,hrun,by simpa using hown,World.grownBy.refl _ _,fun g hg => .inl hg⟩
theorem kY_ {o:Oper} {a:Act} {K:Act→World→Prop} {Q:Exit→Act→World→Prop} (s x:Operand) (t:TypeId)
 (ho:o.op = .call { callee := .builtin .append,args:=#[s,x],argTypes:=#[t,t] })
 (base:Nat) (e:TypeId) (i:TypeInfo) (z:Value) (size bytes:Nat) (ht:P.underlying t = some (.slice e)) (hi:P.info? e = some i) (hz:i.zero = some z)
 (hsize:i.size = size) (hby:i.bytes = bytes) (hzs:z.cells.size = size) (hsz:0 < size)
 (v:Value) (n:Nat) (xs:List Value) (hs:a.eval s = v) (hown:w.ownsRow base e size v n xs)
 (ao:Option Addr) (m c:Nat) (news:List Value) (hx:a.eval x = .slice ao m c) (hl:news.length = m * size) (hnone:ao = none→m = 0∧c = 0) (hnews:∀ ad,ao = some ad→∀ (j:Nat) (u:Value),news[j]? = some u→w.cell? (ad.add j) = some u) (h1:∀ u ∈ news,u.oneCell' = true)
 (h63:n + m ≤ maxLen) (hbytes:(n + m) * bytes ≤ 140737488355328) (hbase:base ≤ w.heap.size)
 (h:∀ a' c' w',w'.ownsRow base e size (.slice a' (n + m) c') (n + m) (xs ++ news)→w.grownBy w' v.ownBlock→(∀ g,(Value.slice a' (n + m) c').ownBlock = some g→v.ownBlock = some g ∨ g = w.heap.size)→K (a.put o.dst (.slice a' (n + m) c')) w'):o.wp P a w K Q:=by
 obtain ⟨a',c',w',hr,h2,h3,h4⟩:=run_append_ao (P:=P) w t o.type base e i z size bytes ht hi hz hsize hby hzs hsz v n xs hown ao m c news hl hnone hnews h1 h63 hbytes hbase
 unfold Oper.wp execOp
 simp only [ho,resolve,invoke,builtin,Sem.run_bind,Sem.run_pure,Result.andThen_ok,List.map_toArray,List.map_cons,List.map_nil,hs,hx,hr]
 exact h a' c' w' h2 h3 h4
theorem q5_ {ops:Array Oper} {rest:List Oper} {o:Oper} {a:Act} {Q:Exit→Act→World→Prop} (hgd:o.guard = none) (s x:Operand) (t:TypeId)
 (ho:o.op = .call { callee := .builtin .append,args:=#[s,x],argTypes:=#[t,t] })
 (base:Nat) (e:TypeId) (i:TypeInfo) (z:Value) (size bytes:Nat) (ht:P.underlying t = some (.slice e)) (hi:P.info? e = some i) (hz:i.zero = some z)
 (hsize:i.size = size) (hby:i.bytes = bytes) (hzs:z.cells.size = size) (hsz:0 < size)
 (v:Value) (n:Nat) (xs:List Value) (hs:a.eval s = v) (hown:w.ownsRow base e size v n xs)
 (ao:Option Addr) (m c:Nat) (news:List Value) (hx:a.eval x = .slice ao m c) (hl:news.length = m * size) (hnone:ao = none→m = 0∧c = 0) (hnews:∀ ad,ao = some ad→∀ (j:Nat) (u:Value),news[j]? = some u→w.cell? (ad.add j) = some u) (h1:∀ u ∈ news,u.oneCell' = true)
 (h63:n + m ≤ maxLen) (hbytes:(n + m) * bytes ≤ 140737488355328) (hbase:base ≤ w.heap.size)
 (h:∀ a' c' w',w'.ownsRow base e size (.slice a' (n + m) c') (n + m) (xs ++ news)→w.grownBy w' v.ownBlock→(∀ g,(Value.slice a' (n + m) c').ownBlock = some g→v.ownBlock = some g ∨ g = w.heap.size)→wpList P ops Q rest (a.put o.dst (.slice a' (n + m) c')) w'):wpList P ops Q (o :: rest) a w:=
 wpList_plain hgd fun _ hK=>kY_ w s x t ho base e i z size bytes ht hi hz hsize hby hzs hsz v n xs hs hown ao m c news hx hl hnone hnews h1 h63 hbytes hbase fun a' c' w' h2 h3 h4=>hK _ _ (h a' c' w' h2 h3 h4)
theorem k2_ {ops:Array Oper} {o:Oper} {a:Act} {K:Act→World→Prop} {Q:Exit→Act→World→Prop} {E:Prop} (hgd:o.guard = none) (s x:Operand) (t:TypeId)
 (ho:o.op = .call { callee := .builtin .append,args:=#[s,x],argTypes:=#[t,t] })
 (base:Nat) (e:TypeId) (i:TypeInfo) (z:Value) (size bytes:Nat) (ht:P.underlying t = some (.slice e)) (hi:P.info? e = some i) (hz:i.zero = some z)
 (hsize:i.size = size) (hby:i.bytes = bytes) (hzs:z.cells.size = size) (hsz:0 < size)
 (v:Value) (n:Nat) (xs:List Value) (hs:a.eval s = v) (hown:w.ownsRow base e size v n xs)
 (ao:Option Addr) (m c:Nat) (news:List Value) (hx:a.eval x = .slice ao m c) (hl:news.length = m * size) (hnone:ao = none→m = 0∧c = 0) (hnews:∀ ad,ao = some ad→∀ (j:Nat) (u:Value),news[j]? = some u→w.cell? (ad.add j) = some u) (h1:∀ u ∈ news,u.oneCell' = true)
 (h63:n + m ≤ maxLen) (hbytes:(n + m) * bytes ≤ 140737488355328) (hbase:base ≤ w.heap.size)
 (h:∀ a' c' w',w'.ownsRow base e size (.slice a' (n + m) c') (n + m) (xs ++ news)→w.grownBy w' v.ownBlock→(∀ g,(Value.slice a' (n + m) c').ownBlock = some g→v.ownBlock = some g ∨ g = w.heap.size)→K (a.put o.dst (.slice a' (n + m) c')) w') :
 if Region.wanted o (yielded ops a.tmps) = true then Oper.wp P o a w K Q else E:=by
 have hw:Region.wanted o (yielded ops a.tmps) = true:=by simp [Region.wanted,hgd]
 rw [if_pos hw]
 exact kY_ w s x t ho base e i z size bytes ht hi hz hsize hby hzs hsz v n xs hs hown ao m c news hx hl hnone hnews h1 h63 hbytes hbase h
end Go.Proofs.LF
namespace Go.Proofs.LF
open Go.RowKit
set_option maxHeartbeats 1000000
set_option maxRecDepth 100000
attribute [local go_sem] q1_
theorem isNaNs (x:ByteArray) (w:World) :
 Calls Tryz.prog 167 #[.string x] w fun e w'=>e = .returned (.bool false)∧w = w':=by
 go_enter Tryz.func167,Tryz.ntmps167
 go_wp2
 go_ret
 exact ⟨by simp,rfl⟩
theorem isNaNi (x:Int) (w:World) :
 Calls Tryz.prog 168 #[.int .i64 x] w fun e w'=>e = .returned (.bool false)∧w = w':=by
 go_enter Tryz.func168,Tryz.ntmps168
 go_wp2
 go_ret
 exact ⟨by simp,rfl⟩
theorem qe_ {k:IntKind} {a b:Int} (h:a = b):Ending.returned (.int k a) = .returned (.int k b):=by rw [h]
theorem qf_ {a b:Bool} (h:a = b):Ending.returned (.bool a) = .returned (.bool b):=by rw [h]
theorem v8_ (x y:List UInt8) (w:World) :
 Calls Tryz.prog 126 #[.string (bs x), .string (bs y)] w fun e w'=>e = .returned (.int .i64 (yT_ x y))∧w = w':=by
 go_enter Tryz.func126,Tryz.ntmps126
 go_wp2_with (go_at_call 167;refine (isNaNs _ _).mono ?_;rintro e w' ⟨rfl,rfl⟩)
 all_goals go_ret
 · exact ⟨qe_ (by simp [yT_, *]),rfl⟩
 · have h1:Op.bytesLess x y = false:=by assumption
   have h2:(!x == y) = true:=by assumption
   exact ⟨qe_ (by simp [yT_,h1,bl_of_ne h1 (by simpa using h2)]),rfl⟩
 · have h2:(!x == y) = false:=by assumption
   have h3:x = y:=by simpa using h2
   exact ⟨qe_ (by rw [h3];simp [yT_,vw_]),rfl⟩
theorem vf_ (x y:Int) (w:World) :
 Calls Tryz.prog 127 #[.int .i64 x, .int .i64 y] w fun e w'=>e = .returned (.int .i64 (wy_ x y))∧w = w':=by
 go_enter Tryz.func127,Tryz.ntmps127
 go_wp2_with (go_at_call 168;refine (isNaNi _ _).mono ?_;rintro e w' ⟨rfl,rfl⟩)
 all_goals go_ret
 all_goals refine ⟨qe_ ?_,rfl⟩
 all_goals unfold wy_
 · rw [if_pos ‹_›]
 · rw [if_neg (by omega),if_pos ‹_›]
 · rw [if_neg (by omega),if_neg (by omega)]
theorem v2_ (n lo hi:Int) (w:World) :
 Calls Tryz.prog 174 #[.int .i64 n, .int .i64 lo, .int .i64 hi] w fun e w'=>e = .returned (.bool (inB n lo hi))∧w = w':=by
 by_cases h1:lo ≤ n
 · go_enter Tryz.func174,Tryz.ntmps174
   go_wp2
   go_ret
   exact ⟨qf_ (by simp [inB,h1]),rfl⟩
 · go_enter Tryz.func174,Tryz.ntmps174
   go_wp2
   go_ret
   exact ⟨qf_ (by simp [inB];omega),rfl⟩
theorem wp_ (n:Int) (w:World) :
 Calls Tryz.prog 140 #[.int .i64 n] w fun e w'=>e = .returned (.bool (inB n 0 9999))∧w = w':=by
 go_enter Tryz.func140,Tryz.ntmps140
 go_wp2_with (go_at_call 174;refine (v2_ _ _ _ _).mono ?_;rintro e w' ⟨rfl,rfl⟩)
 go_ret
 exact ⟨rfl,rfl⟩
theorem has_any (lo hi b:Int) (w:World) :
 Calls Tryz.prog 97 #[.agg #[.int .u8 lo, .int .u8 hi], .int .u8 b] w fun e w'=>e = .returned (.bool (inB b lo hi))∧Below w.heap.size w w':=by
 by_cases h1:lo ≤ b
 · go_enter Tryz.func97,Tryz.ntmps97
   go_wp2
   go_ret
   exact ⟨qf_ (by simp [inB,h1]),(Below.refl _ _).alloc (nl_ _) _⟩
 · go_enter Tryz.func97,Tryz.ntmps97
   go_wp2
   go_ret
   exact ⟨qf_ (by simp [inB];omega),(Below.refl _ _).alloc (nl_ _) _⟩
theorem vl_ (a b:Ky) (w:World) :
 Calls Tryz.prog 81 #[.agg #[.string (bs a.n), .bool a.h, .int .i64 a.x], .agg #[.string (bs b.n), .bool b.h, .int .i64 b.x]] w fun e w'=>e = .returned (.int .i64 (byK a b))∧Below w.heap.size w w':=by
 obtain ⟨an,ah,ax⟩:=a
 obtain ⟨bn,bh,bx⟩:=b
 by_cases h:an = bn
 · have h':(an == bn) = true:=by simp [h]
   cases ah <;> cases bh
   all_goals
    go_enter Tryz.func81,Tryz.ntmps81
    go_wp2_with (first | (go_at_call 126;refine (v8_ _ _ _).mono ?_;rintro e w' ⟨rfl,rfl⟩) | (go_at_call 127;refine (vf_ _ _ _).mono ?_;rintro e w' ⟨rfl,rfl⟩))
    go_ret
    exact ⟨qe_ (by simp [byK,h]),((Below.refl _ _).alloc (nl_ _) _).alloc (by simp) _⟩
 · have h':(an == bn) = false:=by simp [h]
   go_enter Tryz.func81,Tryz.ntmps81
   go_wp2_with (first | (go_at_call 126;refine (v8_ _ _ _).mono ?_;rintro e w' ⟨rfl,rfl⟩) | (go_at_call 127;refine (vf_ _ _ _).mono ?_;rintro e w' ⟨rfl,rfl⟩))
   go_ret
   exact ⟨qe_ (by simp [byK,h]),((Below.refl _ _).alloc (nl_ _) _).alloc (by simp) _⟩
end Go.Proofs.LF
namespace Go.Proofs.LF
open Go.RowKit
variable {P:Program}
theorem qP_ (w:World) (dT sT ty elem:TypeId) (k g o dLen dCap m:Nat) (a:Addr) (sLen sCap:Nat) (cur:Array Value) (t:TypeId) (cs:List Value)
 (hu:P.underlying dT = some (.slice elem)) (hs:(P.info? elem).map (·.size) = some k)
 (hg:w.heap[g]? = some (.cells cur t (0,0))) (hm:m = Nat.min sLen dLen) (hn:cs.length = k * m)
 (hsrc:∀ j v,cs[j]? = some v→w.cell? (a.add j) = some v) (hfit:o + cs.length ≤ cur.size) (h1:∀ v ∈ cs,v.oneCell' = true) :
 (Builtin.copy_ #[dT,sT] ty #[.slice (some ⟨g,o,none⟩) dLen dCap, .slice (some a) sLen sCap]).run P w =
  .ok (goInt m) (w.setRow g (cur.toList.take o ++ cs ++ cur.toList.drop (o + cs.length)).toArray):=by
 have hl:=run_loadCells_list (P:=P) w a cs hsrc
 have hst:=run_storeCells_at P g o t cs 0 cur w hg (by simpa using hfit) h1
 rw [hn,Nat.mul_comm] at hl
 cases hq:P.info? elem with
 | none=>simp [hq] at hs
 | some i=>
   have hi:i.size = k:=by simpa [hq] using hs
   simp [Builtin.copy_,run_underlying hu,Builtin.lenOf,Builtin.firstCells,sizeOf,typeInfo,hq,hi,← hm,hl,hst]
theorem kZ_ {w:World} {ops:Array Oper} {rest:List Oper} {o:Oper} {a:Act} {Q:Exit→Act→World→Prop} (hgd:o.guard = none) (d s:Operand) (dT sT:TypeId)
 (ho:o.op = .call { callee := .builtin .copy,args:=#[d,s],argTypes:=#[dT,sT] }) (elem k:TypeId) (hu:P.underlying dT = some (.slice elem)) (hsz:(P.info? elem).map (·.size) = some k)
 (g off dLen dCap m:Nat) (ad:Addr) (sLen sCap:Nat) (hd:a.eval d = .slice (some ⟨g,off,none⟩) dLen dCap) (hs:a.eval s = .slice (some ad) sLen sCap)
 (cur:Array Value) (t:TypeId) (hg:w.heap[g]? = some (.cells cur t (0,0))) (cs:List Value) (hm:m = Nat.min sLen dLen) (hn:cs.length = k * m)
 (hsrc:∀ j v,cs[j]? = some v→w.cell? (ad.add j) = some v) (hfit:off + cs.length ≤ cur.size) (h1:∀ v ∈ cs,v.oneCell' = true)
 (h:wpList P ops Q rest (a.put o.dst (goInt m)) (w.setRow g (cur.toList.take off ++ (cs ++ cur.toList.drop (off + cs.length))).toArray)):wpList P ops Q (o :: rest) a w:=by
 refine wpList_plain hgd fun K hK=>?_
 have hrun:=qP_ (P:=P) w dT sT o.type elem k g off dLen dCap m ad sLen sCap cur t cs hu hsz hg hm hn hsrc hfit h1
 unfold Oper.wp
 simp [execOp,ho,resolve,invoke,builtin,hd,hs,hrun,Result.andThen]
 exact hK _ _ h
theorem vS_ {w:World} {ops:Array Oper} {rest:List Oper} {o:Oper} {a:Act} {Q:Exit→Act→World→Prop} (hgd:o.guard = none) (d s:Operand) (dT sT:TypeId)
 (ho:o.op = .call { callee := .builtin .copy,args:=#[d,s],argTypes:=#[dT,sT] }) (elem k:TypeId) (hu:P.underlying dT = some (.slice elem)) (hsz:(P.info? elem).map (·.size) = some k)
 (da:Addr) (dLen dCap:Nat) (hd:a.eval d = .slice (some da) dLen dCap) (hs:a.eval s = .slice none 0 0)
 (h:wpList P ops Q rest (a.put o.dst (goInt 0)) w):wpList P ops Q (o :: rest) a w:=by
 refine wpList_plain hgd fun K hK=>?_
 have hrun:=run_copy_nil P w dT sT o.type elem da dLen dCap hu (by rw [hsz];rfl)
 unfold Oper.wp
 simp [execOp,ho,resolve,invoke,builtin,hd,hs,hrun,Result.andThen]
 exact hK _ _ h
theorem zH_ (t e:TypeId) (i:TypeInfo) (z:Value) (ht:P.underlying t = some (.slice e)) (hi:P.info? e = some i) (hz:i.zero = some z)
 (kl kc:IntKind) (n c:Nat) (hnc:n ≤ c) (hbytes:i.bytes * c ≤ 281474976710656) (h63:c ≤ 9223372036854775807) (w:World) :
 (Instr.makeSlice t (.int kl (n:Int)) (.int kc (c:Int))).run P w = .ok (.slice (some ⟨w.heap.size,0,none⟩) n c) (w.alloc (.cells (madeCells z.cells (c * i.size)) e)):=by
 have hb:(i.bytes:Int) * (c:Int) ≤ 281474976710656:=by
  have h:((i.bytes * c:Nat):Int) ≤ 281474976710656:=by omega
  rwa [Int.natCast_mul] at h
 have hr:=run_make (P:=P) w t e i z ht hi hz kl kc n c (by omega) (by omega) hb (by omega)
 simp only [Int.toNat_natCast] at hr
 exact hr
theorem qs_ (z:Array Value) (n:Nat):(madeCells z n).size = n:=by simp [madeCells]
theorem qB_ {w:World} {B e k n cap g:Nat} {cur:Array Value} {xs:List Value} (hb:B ≤ g) (hg:w.heap[g]? = some (.cells cur e (0,0))) (hn:n ≤ cap) (hc:cap ≤ maxLen) (hs:cur.size = cap * k) (hx:cur.toList.take (n * k) = xs) :
 w.ownsRow B e k (.slice (some ⟨g,0,none⟩) n cap) n xs:=
 ⟨by rw [← hx,List.length_take,Array.length_toList,hs];exact Nat.min_eq_left (Nat.mul_le_mul_right k hn), .inr ⟨g,cap,cur,rfl,hb,hg,hn,hc,hs,hx⟩⟩
theorem zt_ {w:World} {g:Nat} {cur cs:Array Value} {t:TypeId} (hg:w.heap[g]? = some (.cells cur t (0,0))):(w.setRow g cs).heap[g]? = some (.cells cs t (0,0)):=setRow_heap w g cur cs t _ hg
theorem kV_ {B:Nat} {w0 w:World} {g:Nat} (hb:Below B w0 w) (hB:B ≤ g) (cs:Array Value):Below B w0 (w.setRow g cs):=below_setRow hb hB cs
theorem v1_ (w:World) (g:Nat) (cs:Array Value):w.grownBy (w.setRow g cs) (some g):=
 ⟨rfl,rfl,rfl,by simp [World.setRow],fun k _ hk=>setRow_other w g k cs (fun e=>hk (by rw [e]))⟩
theorem vv_ {w:World} {ops:Array Oper} {rest:List Oper} {o:Oper} {a:Act} {Q:Exit→Act→World→Prop} (hgd:o.guard = none) (d s:Operand) (dT sT:TypeId)
 (ho:o.op = .call { callee := .builtin .copy,args:=#[d,s],argTypes:=#[dT,sT] }) (elem k:TypeId) (hu:P.underlying dT = some (.slice elem)) (hsz:(P.info? elem).map (·.size) = some k)
 (B g n cap:Nat) (ad:Option Addr) (sCap:Nat) (hd:a.eval d = .slice (some ⟨g,0,none⟩) n cap) (hs:a.eval s = .slice ad n sCap)
 (cur:Array Value) (hg:w.heap[g]? = some (.cells cur elem (0,0))) (hB:B ≤ g) (hnc:n ≤ cap) (hcap:cap ≤ maxLen) (hcur:cur.size = cap * k) (cs:List Value) (hn:cs.length = n * k) (hnil:ad = none→n = 0∧sCap = 0)
 (hsrc:∀ ad',ad = some ad'→∀ j v,cs[j]? = some v→w.cell? (ad'.add j) = some v) (h1:∀ v ∈ cs,v.oneCell' = true)
 (h:∀ W:World,W.ownsRow B elem k (.slice (some ⟨g,0,none⟩) n cap) n cs→w.grownBy W (some g)→W.heap.size = w.heap.size→wpList P ops Q rest (a.put o.dst (.int .i64 (n:Int))) W):wpList P ops Q (o :: rest) a w:=by
 have hmul:n * k ≤ cap * k:=Nat.mul_le_mul_right k hnc
 cases ad with
 | none=>
   obtain ⟨rfl,rfl⟩:=hnil rfl
   refine vS_ hgd d s dT sT ho elem k hu hsz ⟨g,0,none⟩ 0 cap hd hs ?_
   have hc:cs = []:=by simpa using hn
   subst hc
   have:=h w (qB_ hB hg (by omega) hcap hcur (by simp)) ⟨rfl,rfl,rfl,nl_ _,fun _ _ _=>rfl⟩ rfl
   simpa [goInt] using this
 | some ad=>
   refine kZ_ hgd d s dT sT ho elem k hu hsz g 0 n cap n ad n sCap hd hs cur elem hg cs (Nat.min_self n).symm (by rw [hn,Nat.mul_comm]) (hsrc ad rfl) (by omega) h1 ?_
   refine h _ (qB_ hB (zt_ hg) hnc hcap ?_ ?_) (v1_ _ _ _) (by simp [World.setRow])
   · simp only [List.size_toArray,List.length_append,List.length_take,List.length_drop,Array.length_toList,hn,hcur];omega
   · simp only [List.take_zero,List.nil_append]
     rw [← hn];simp
structure Keep (O:Nat→Prop) (A B:World):Prop where
 os:B.os = A.os
 tape:B.tape = A.tape
 output:B.output = A.output
 size:A.heap.size ≤ B.heap.size
 block:∀ b,b < A.heap.size→¬ O b→B.heap[b]? = A.heap[b]?
theorem Keep.refl (O:Nat→Prop) (A:World):Keep O A A:=⟨rfl,rfl,rfl,nl_ _,fun _ _ _=>rfl⟩
theorem Keep.trans {O:Nat→Prop} {A B C:World} (h:Keep O A B) (k:Keep O B C):Keep O A C:=
 ⟨k.os.trans h.os,k.tape.trans h.tape,k.output.trans h.output,Nat.le_trans h.size k.size,fun b hb ho=>(k.block b (Nat.lt_of_lt_of_le hb h.size) ho).trans (h.block b hb ho)⟩
theorem Keep.mono {O O':Nat→Prop} {A B:World} (h:Keep O A B) (hs:∀ b,b < A.heap.size→O b→O' b):Keep O' A B:=
 ⟨h.os,h.tape,h.output,h.size,fun b hb ho=>h.block b hb (fun h'=>ho (hs b hb h'))⟩
theorem Keep.of_below {O:Nat→Prop} {A B:World} (h:Below A.heap.size A B):Keep O A B:=⟨h.os,h.tape,h.output,h.size,fun b hb _=>h.block b hb⟩
theorem Keep.below {O:Nat→Prop} {n:Nat} {A B:World} (h:Keep O A B) (hn:n ≤ A.heap.size) (ho:∀ b,b < n→¬ O b):Below n A B:=⟨h.os,h.tape,h.output,h.size,fun b hb=>h.block b (by omega) (ho b hb)⟩
theorem Keep.agree {O S:Nat→Prop} {A B:World} (h:Keep O A B) (hs:∀ b,S b→b < A.heap.size∧¬ O b):qd_ S A B:=fun b hb=>h.block b (hs b hb).1 (hs b hb).2
theorem Keep.cell {O:Nat→Prop} {A B:World} (h:Keep O A B) {b o:Nat} {v:Value} (hb:b < A.heap.size) (ho:¬ O b) (hc:A.cell? ⟨b,o,none⟩ = some v):B.cell? ⟨b,o,none⟩ = some v:=by
 rw [World.cell?_of_block (h.block b hb ho)];exact hc
theorem Keep.putObj {O:Nat→Prop} {A:World} {l:Nat} {o:Obj} (hl:O l):Keep O A (A.putObj l o):=
 ⟨rfl,rfl,rfl,by simp,fun b _ ho=>World.putObj_heap_other (fun e=>ho (e ▸ hl))⟩
theorem Keep.setCell {O:Nat→Prop} {A:World} {p:Addr} {v:Value} (hl:O p.block):Keep O A (A.setCell p v):=
 ⟨rfl,rfl,rfl,by simp [World.setCell],fun b _ ho=>Below.heap_setCell _ _ _ _ (fun e=>ho (e ▸ hl))⟩
theorem Keep.grown {O:Nat→Prop} {A B:World} {row:Option Nat} (h:A.grownBy B row) (hr:∀ b,row = some b→O b):Keep O A B:=
 ⟨h.os,h.tape,h.output,h.size,fun b hb ho=>h.block b hb (fun e=>ho (hr b e.symm))⟩
def Dep {δ:Type} (n₀:Nat) (I:List δ→(Nat→Prop)→World→Prop):Prop:=
 ∀ pre O A B,I pre O A→B.os = A.os→B.tape = A.tape→B.output = A.output→A.heap.size ≤ B.heap.size→(∀ b,b < A.heap.size→(O b ∨ b < n₀)→B.heap[b]? = A.heap[b]?)→I pre O B
theorem Dep.keep {δ:Type} {n₀:Nat} {I:List δ→(Nat→Prop)→World→Prop} (h:Dep n₀ I) {pre:List δ} {O X:Nat→Prop} {A B:World} (hi:I pre O A) (hk:Keep X A B) (hx:∀ b,X b→¬ O b∧n₀ ≤ b):I pre O B:=
 h pre O A B hi hk.os hk.tape hk.output hk.size fun b hb ho=>hk.block b hb (fun e=>by have:=hx b e;rcases ho with ho | ho;exact this.1 ho;omega)
variable {P:Program}
def SeqI {α δ:Type} (P:Program) (gf:Nat) (lb:Array Value) (dat:α→δ) (encs:α→Array Value) (E:(Nat→Prop)→World→α→Prop) (xs:List δ) (w:World) (T:Nat→Prop):Prop:=
 ∀ (l:Nat) (J Jx:List δ→(Nat→Prop)→World→Prop) (O:Nat→Prop) (W:World),
  Below w.heap.size w W→(∀ b,T b→¬ O b)→(∀ b,O b→b < W.heap.size) →
  (∀ pre O A B,J pre O A→Below A.heap.size A B→J pre O B)→(∀ pre O A B,Jx pre O A→Below A.heap.size A B→Jx pre O B) →
  (∀ m pre x O W1,J pre O W1→pre ++ [dat x] <+: xs→E (fun b=>b < W1.heap.size∧¬ O b) W1 x →
    YieldAt Fence.wide m P l (encs x) W1 fun e W'=>
     (e = .returned (.bool true)∧∃ O',J (pre ++ [dat x]) O' W'∧Keep O W1 W'∧(∀ b,O' b→O b ∨ W1.heap.size ≤ b)∧(∀ b,O' b→b < W'.heap.size)) ∨
     (e = .returned (.bool false)∧∃ O',Jx (pre ++ [dat x]) O' W'∧Keep O W1 W')) →
  J [] O W →
  ∀ n,CallsIn Fence.wide n P gf (#[.func (.yield l) #[] #[]] ++ lb) W fun e W'=>(∃ v,e = .returned v)∧((∃ O',J xs O' W') ∨ (∃ pre O',pre <+: xs∧Jx pre O' W'))
def rgPost {δ:Type} (I:List δ→(Nat→Prop)→World→Prop) (Ix:Code→List δ→(Nat→Prop)→World→Prop) (xs:List δ) (O:Nat→Prop) (W:World):Exit→Act→World→Prop
 | .normal,_,W'=>∃ O',I xs O' W'∧Keep O W W'∧(∀ b,O' b→O b ∨ W.heap.size ≤ b)∧(∀ b,O' b→b < W'.heap.size)
 | .ret,_,W'=>∃ O',Ix .ret xs O' W'∧Keep O W W'∧(∀ b,O' b→O b ∨ W.heap.size ≤ b)
 | _,_,_=>False
theorem kh_ {α δ:Type} {g:Operand} {ps:Array Tmp} {assign body:Code} {Q:Exit→Act→World→Prop} {a:Act} {w:World} {n:Nat}
 {gf:Nat} {lb:Array Value} (hg:a.eval g = .func (.func gf) #[] lb) (eg:∀ args w,(callFunc gf args).run P w = .ok (.enter gf args) w)
 {dat:α→δ} {encs:α→Array Value} {E:(Nat→Prop)→World→α→Prop} {xs:List δ} {T:Nat→Prop} (hseq:SeqI P gf lb dat encs E xs w T)
 (hE:∀ {S w w' x},E S w x→qd_ S w w'→E S w' x) (hEw:∀ {S S' w x},E S w x→(∀ b,S b→S' b)→E S' w x) (hps:∀ x,(encs x).size = ps.size)
 (I:List δ→(Nat→Prop)→World→Prop) (Ix:Code→List δ→(Nat→Prop)→World→Prop) (hI:Dep w.heap.size I) (hIx:∀ c,Dep w.heap.size (Ix c))
 (O0:Nat→Prop) (hO0:∀ b,O0 b→b < w.heap.size∧¬ T b) (hT:∀ b,T b→b < w.heap.size) (h0:I [] O0 w)
 (A1:α→Nat→Act→World→Prop) (hA1:∀ x lo a₁ A B,A1 x lo a₁ A→(∀ b,lo ≤ b→B.heap[b]? = A.heap[b]?)→A1 x lo a₁ B)
 (hassign:∀ (l m:Nat) (x:α) (S:Nat→Prop) (W:World) (K:Act→World→Prop),E S W x→(∀ a₁ W1,Below W.heap.size W W1→A1 x W.heap.size a₁ W1→K a₁ W1) →
   assign.wpIn (Fence.wide.inRound l) m P (Exit.then K (fun _ _ _=>False)) { tmps:=(ps.zip (encs x)).foldl (fun t (p,v)=>t.setIfInBounds p v) a.tmps,defers:=[] } W)
 (hbody:∀ (l m:Nat) (pre:List δ) (x:α) (O:Nat→Prop) (lo:Nat) (a₁:Act) (W:World),pre ++ [dat x] <+: xs→I pre O W→w.heap.size ≤ lo→lo ≤ W.heap.size→(∀ b,O b→b < lo)→E (fun b=>b < lo∧¬ O b) W x→A1 x lo a₁ W →
   body.wpIn (Fence.wide.inRound l) m P (rgPost I Ix (pre ++ [dat x]) O W) a₁ W)
 (hdone:∀ (D:Nat) (O:Nat→Prop) (W:World),I xs O W→w.heap.size ≤ D→W.heap[D]? = some (.deferred (some []))→Q .normal { a with defers:={ target := .collected D,args:=#[] } :: a.defers } W)
 (hstop:∀ (D:Nat) (c:Code) (pre:List δ) (O:Nat→Prop) (W:World),pre <+: xs→Ix c pre O W→w.heap.size ≤ D→W.heap[D]? = some (.deferred (some []))→c.wpIn Fence.wide n P Q { a with defers:={ target := .collected D,args:=#[] } :: a.defers } W) :
 (Code.rangeFunc g ps assign body).wpIn Fence.wide n P Q a w:=by
 refine wpIn_rangeFunc ?_
 intro fn hfn
 obtain ⟨rec,hrec⟩:∃ rec:LoopState→Option Code→Loop,rec = fun st pe=>{ state:=st,pending:=pe,fn,tmps:=a.tmps,params:=ps,assign,body,defers:=w.heap.size }:=⟨_,rfl⟩
 obtain ⟨W1,hW1⟩:∃ W1,(w.alloc (.deferred (some []))).alloc (.loop (rec .ready none)) = W1:=⟨_,rfl⟩
 have hL1:W1.heap[w.heap.size + 1]? = some (.loop (rec .ready none)):=by
  rw [← hW1];have:=World.alloc_heap_new (w.alloc (.deferred (some []))) (.loop (rec .ready none));rwa [World.size_alloc] at this
 have hK1:W1.heap[w.heap.size]? = some (.deferred (some [])):=by
  rw [← hW1];exact (Below.heap_alloc _ _ _ (by simp)).trans (World.alloc_heap_new w _)
 have hb1:Below w.heap.size w W1:=by
  rw [← hW1];exact (((Below.refl _ w).alloc (nl_ _) _).alloc (by simp) _)
 have hI1:I [] O0 W1:=hI.keep h0 (Keep.of_below (O:=fun _=>False) hb1) (fun _ h=>h.elim)
 refine ⟨w.heap.size + 1,[{ target := .collected w.heap.size,args:=#[] }],W1,{ target := .fn (.func gf) lb,args:=#[.func (.yield (w.heap.size + 1)) #[] #[]] },W1,gf,
  #[.func (.yield (w.heap.size + 1)) #[] #[]] ++ lb,W1,?_,?_,?_,?_,fun h=>(by cases h),?_⟩
 · rw [← hW1,hrec];exact run_enterLoop_outer _ _ _ _ _
 · simp only [resolve,hg]
   simp [go_sem]
 · intro f' _;trivial
 · simp [invoke,go_sem,eg]
 · obtain ⟨Bk,hBk⟩:∃ Bk:Nat→Prop,Bk = fun b=>b = w.heap.size ∨ b = w.heap.size + 1:=⟨_,rfl⟩
   have hBl:Bk (w.heap.size + 1):=by rw [hBk];exact .inr rfl
   have hBge:∀ b,Bk b→w.heap.size ≤ b∧b ≤ w.heap.size + 1:=by rw [hBk];intro b hb;rcases hb with rfl | rfl <;> omega
   refine (hseq (w.heap.size + 1)
    (fun pre O W=>∃ O1,O = (fun b=>O1 b ∨ Bk b)∧(∀ b,O1 b→¬ Bk b)∧(∀ b,O1 b→b < W.heap.size)∧I pre O1 W∧W.heap[w.heap.size + 1]? = some (.loop (rec .ready none))∧W.heap[w.heap.size]? = some (.deferred (some [])))
    (fun pre O W=>∃ O1 c,O = (fun b=>O1 b ∨ Bk b)∧(∀ b,O1 b→¬ Bk b)∧Ix c pre O1 W∧W.heap[w.heap.size + 1]? = some (.loop (rec .done (some c)))∧W.heap[w.heap.size]? = some (.deferred (some [])))
    (fun b=>O0 b ∨ Bk b) W1 hb1
    (fun b ht ho=>by rcases ho with ho | ho;exact (hO0 b ho).2 ht;have:=hBge b ho;have:=hT b ht;omega)
    (fun b ho=>by have:=(ge_ hL1).1;rcases ho with ho | ho;have:=(hO0 b ho).1;omega;have:=hBge b ho;omega) ?_ ?_ ?_
    ⟨O0,rfl,fun b hb hk=>by have:=hBge b hk;have:=(hO0 b hb).1;omega,fun b hb=>by have:=(hO0 b hb).1;have:=hb1.size;omega,hI1,hL1,hK1⟩ (n - 1)).mono ?_
   · rintro pre O A B ⟨O1,rfl,h2,h3,h4,h5,h6⟩ hb
     exact ⟨O1,rfl,h2,fun b hb'=>by have:=h3 b hb';have:=hb.size;omega,hI.keep h4 (Keep.of_below (O:=fun _=>False) hb) (fun _ h=>h.elim),(hb.block _ (ge_ h5).1).trans h5,(hb.block _ (ge_ h6).1).trans h6⟩
   · rintro pre O A B ⟨O1,c,rfl,h2,h4,h5,h6⟩ hb
     exact ⟨O1,c,rfl,h2,(hIx c).keep h4 (Keep.of_below (O:=fun _=>False) hb) (fun _ h=>h.elim),(hb.block _ (ge_ h5).1).trans h5,(hb.block _ (ge_ h6).1).trans h6⟩
   ·
    rintro m pre x O W ⟨O1,rfl,ho,hos,hi,hl,hk⟩ hpx hx
    have hy:=run_yield (P:=P) (args:=encs x) hl (by rw [hrec];exact hps x)
    rw [hrec] at hy
    refine ⟨fn,_,assign,body,hy,roundIn_of_wpIn (F:=Fence.wide) trivial (hassign _ m x _ W _ hx fun a₁ W2 hb2 ha1=>?_)⟩
    have hlt:w.heap.size + 1 < W.heap.size:=(ge_ hl).1
    have hl2:W2.heap[w.heap.size + 1]? = some (.loop (rec .ready none)):=(hb2.block _ hlt).trans hl
    have hk2:W2.heap[w.heap.size]? = some (.deferred (some [])):=(hb2.block _ (by omega)).trans hk
    refine ⟨_,run_beginRound hl2 (by rw [hrec]),?_⟩
    obtain ⟨W3,hW3⟩:∃ W3,W2.putObj (w.heap.size + 1) (.loop { rec .ready none with state := .busy }) = W3:=⟨_,rfl⟩
    rw [hW3]
    have hz2:=hb2.size
    have hkp:Keep Bk W2 W3:=by rw [← hW3];exact Keep.putObj hBl
    have hl3:W3.heap[w.heap.size + 1]? = some (.loop { rec .ready none with state := .busy }):=by rw [← hW3];exact World.putObj_heap_same (by omega)
    have hk3:W3.heap[w.heap.size]? = some (.deferred (some [])):=by rw [← hW3];exact (World.putObj_heap_other (by omega)).trans hk2
    have hx':E (fun b=>b < W.heap.size∧¬ (O1 b ∨ Bk b)) W3 x:=hE hx fun b hb=>(hkp.block b (by omega) (fun h=>hb.2 (.inr h))).trans (hb2.block b hb.1)
    have hi3:I pre O1 W3:=hI.keep (hI.keep hi (Keep.of_below (O:=fun _=>False) hb2) (fun _ h=>h.elim)) hkp (fun b hb=>⟨fun h=>ho b h hb,(hBge b hb).1⟩)
    have hr3:W3.heap.size = W2.heap.size:=by rw [← hW3];simp
    refine wpIn_mono (hbody _ m pre x O1 W.heap.size a₁ W3 hpx hi3 (by omega) (by omega) hos ?_ (hA1 _ _ _ _ _ ha1 fun b hb=>?_)) ?_
    · exact hEw hx' fun b hb=>⟨hb.1,fun h=>hb.2 (.inl h)⟩
    · rw [← hW3];exact World.putObj_heap_other (by omega)
    · have fin:∀ (jump:Option Code) (O':Nat→Prop) (W4:World),Keep O1 W3 W4→(∀ b,O' b→O1 b ∨ W3.heap.size ≤ b) →
       (Instr.endRound (w.heap.size + 1) jump).run P W4 = .ok (.bool jump.isNone) (W4.putObj (w.heap.size + 1) (.loop (rec (if jump.isNone then .ready else .done) jump))) ∧
       (W4.putObj (w.heap.size + 1) (.loop (rec (if jump.isNone then .ready else .done) jump))).heap[w.heap.size + 1]? = some (.loop (rec (if jump.isNone then .ready else .done) jump)) ∧
       (W4.putObj (w.heap.size + 1) (.loop (rec (if jump.isNone then .ready else .done) jump))).heap[w.heap.size]? = some (.deferred (some [])) ∧
       (∀ b,O' b→¬ Bk b):=fun jump O' W4 hkk hoo=>by
       have hz:=hkk.size
       have hl4:=(hkk.block _ (by omega) (fun h=>ho _ h hBl)).trans hl3
       have:=run_endRound (P:=P) jump hl4
       rw [hrec] at this ⊢
       refine ⟨this,World.putObj_heap_same (by omega),(World.putObj_heap_other (by omega)).trans ((hkk.block _ (by omega) (fun h=>ho _ h (by rw [hBk];exact .inl rfl))).trans hk3),fun b hb hb'=>?_⟩
       have h1:=hBge b hb'
       rcases hoo b hb with h | h
       · exact ho b h hb'
       · omega
      rintro e a3 W4 hp
      cases e with
      | normal=>
        obtain ⟨O',hi4,hkk,hoo,hoz⟩:=hp
        obtain ⟨hr,e1,e2,e3⟩:=fin none O' W4 hkk hoo
        have hkp2:Keep Bk W4 (W4.putObj (w.heap.size + 1) (.loop (rec .ready none))):=Keep.putObj hBl
        refine ⟨_,_,hr, .inl ⟨rfl,_,⟨O',rfl,e3,?_,hI.keep hi4 hkp2 (fun b hb=>⟨fun h=>e3 b h hb,(hBge b hb).1⟩),e1,e2⟩,?_,?_,?_⟩⟩
        · intro b hb;have:=hoz b hb;simpa using this
        · refine ((Keep.of_below (O:=fun b=>O1 b ∨ Bk b) hb2).trans (hkp.mono fun b _ h => .inr h)).trans ((hkk.mono fun b _ h => .inl h).trans (hkp2.mono fun b _ h => .inr h))
        · intro b hb
          rcases hb with hb | hb
          · rcases hoo b hb with h | h
            · exact .inl (.inl h)
            · exact .inr (by omega)
          · exact .inl (.inr hb)
        · intro b hb
          have hz:=hkk.size
          rcases hb with hb | hb
          · have:=hoz b hb;simpa using this
          · have:=hBge b hb;simp;omega
      | ret=>
        obtain ⟨O',hi4,hkk,hoo⟩:=hp
        obtain ⟨hr,e1,e2,e3⟩:=fin (some .ret) O' W4 hkk hoo
        have hkp2:Keep Bk W4 (W4.putObj (w.heap.size + 1) (.loop (rec .done (some .ret)))):=Keep.putObj hBl
        exact ⟨_,_,hr, .inr ⟨rfl,_,⟨O', .ret,rfl,e3,(hIx _).keep hi4 hkp2 (fun b hb=>⟨fun h=>e3 b h hb,(hBge b hb).1⟩),e1,e2⟩,((Keep.of_below (O:=fun b=>O1 b ∨ Bk b) hb2).trans (hkp.mono fun b _ h => .inr h)).trans ((hkk.mono fun b _ h => .inl h).trans (hkp2.mono fun b _ h => .inr h))⟩⟩
      | exit id=>exact hp.elim
      | goto t=>exact hp.elim
      | panic ch=>exact hp.elim
      | outgrown=>exact hp.elim
   ·
    rintro e W2 ⟨⟨v,rfl⟩,(⟨O',O1,rfl,ho,hos,hi,hl,hk⟩ | ⟨pre,O',hpre,O1,c,rfl,ho,hi,hl,hk⟩)⟩
    · have hlt:w.heap.size + 1 < W2.heap.size:=(ge_ hl).1
      have hkp2:∀ o,Keep Bk W2 (W2.putObj (w.heap.size + 1) o):=fun o=>Keep.putObj hBl
      exact ⟨none,_,by have:=run_endLoop (P:=P) hl (by rw [hrec];simp);rw [hrec] at this;exact this,hdone _ O1 _ (hI.keep hi (hkp2 _) (fun b hb=>⟨fun h=>ho b h hb,(hBge b hb).1⟩)) (nl_ _) ((World.putObj_heap_other (by omega)).trans hk)⟩
    · have hkp2:∀ o,Keep Bk W2 (W2.putObj (w.heap.size + 1) o):=fun o=>Keep.putObj hBl
      exact ⟨some c,_,by have:=run_endLoop (P:=P) hl (by rw [hrec];simp);rw [hrec] at this;exact this,hstop _ c pre O1 _ hpre ((hIx c).keep hi (hkp2 _) (fun b hb=>⟨fun h=>ho b h hb,(hBge b hb).1⟩)) (nl_ _) ((World.putObj_heap_other (by omega)).trans hk)⟩
structure Rd (α:Type) (k:Nat) where
 R:(Nat→Prop)→World→α→List Value→Prop
 len:∀ {S w x cs},R S w x cs→cs.length = k
 one:∀ {S w x cs},R S w x cs→∀ u ∈ cs,u.oneCell' = true
 agree:∀ {S w w' x cs},R S w x cs→qd_ S w w'→R S w' x cs
 wide:∀ {S S' w x cs},R S w x cs→(∀ b,S b→S' b)→R S' w x cs
variable {α:Type} {k:Nat} (r:Rd α k)
def LCs (S:Nat→Prop) (w:World):List α→List Value→Prop
 | [],cs=>cs = []
 | x :: xs,cs=>∃ c ds,cs = c ++ ds∧r.R S w x c∧LCs S w xs ds
def LSl (S:Nat→Prop) (w:World) (v:Value) (xs:List α):Prop:=∃ cs,SlC S w k v xs.length cs∧LCs r S w xs cs
variable {r}
theorem LCs.agree {S:Nat→Prop} {w w':World} (ha:qd_ S w w'):∀ {xs:List α} {cs:List Value},LCs r S w xs cs→LCs r S w' xs cs
 | [],_,h=>h
 | _ :: _,_,⟨c,ds,h1,h2,h3⟩=>⟨c,ds,h1,r.agree h2 ha,h3.agree ha⟩
theorem LCs.wide {S S':Nat→Prop} {w:World} (hs:∀ b,S b→S' b):∀ {xs:List α} {cs:List Value},LCs r S w xs cs→LCs r S' w xs cs
 | [],_,h=>h
 | _ :: _,_,⟨c,ds,h1,h2,h3⟩=>⟨c,ds,h1,r.wide h2 hs,h3.wide hs⟩
theorem LSl.agree {S:Nat→Prop} {w w':World} {v:Value} {xs:List α} (h:LSl r S w v xs) (ha:qd_ S w w'):LSl r S w' v xs:=let ⟨cs,h1,h2⟩:=h;⟨cs,h1.agree ha,h2.agree ha⟩
theorem LSl.wide {S S':Nat→Prop} {w:World} {v:Value} {xs:List α} (h:LSl r S w v xs) (hs:∀ b,S b→S' b):LSl r S' w v xs:=let ⟨cs,h1,h2⟩:=h;⟨cs,h1.wide hs,h2.wide hs⟩
theorem Stable.lcs (xs:List α) (cs:List Value):Stable (fun S w=>LCs r S w xs cs):=⟨fun h ha=>h.agree ha,fun h hw=>h.wide hw⟩
theorem Stable.lsl (v:Value) (xs:List α):Stable (fun S w=>LSl r S w v xs):=⟨fun h ha=>h.agree ha,fun h hw=>h.wide hw⟩
theorem LCs.one {S:Nat→Prop} {w:World}:∀ {xs:List α} {cs:List Value},LCs r S w xs cs→∀ u ∈ cs,u.oneCell' = true
 | [],_,h=>by rw [show _ = [] from h];simp
 | _ :: xs,_,⟨c,ds,h1,h2,h3⟩=>by
   intro u hu
   rw [h1,List.mem_append] at hu
   rcases hu with hu | hu
   · exact r.one h2 u hu
   · exact h3.one u hu
theorem LCs.app {S:Nat→Prop} {w:World}:∀ {xs ys:List α} {cs ds:List Value},LCs r S w xs cs→LCs r S w ys ds→LCs r S w (xs ++ ys) (cs ++ ds)
 | [],_,_,_,h,h'=>by rw [show _ = [] from h];exact h'
 | _ :: _,_,_,_,⟨c,es,h1,h2,h3⟩,h'=>⟨c,_,by rw [h1,List.append_assoc],h2,h3.app h'⟩
theorem LCs.single {S:Nat→Prop} {w:World} {x:α} {c:List Value} (h:r.R S w x c):LCs r S w [x] c:=⟨c,[],by simp,h,rfl⟩
theorem LCs.drop {S:Nat→Prop} {w:World}:∀ {i:Nat} {xs:List α} {cs:List Value},LCs r S w xs cs→LCs r S w (xs.drop i) (cs.drop (i * k))
 | 0,_,_,h=>by simpa using h
 | i + 1,[],_,h=>by rw [show _ = [] from h];simp [LCs]
 | i + 1,_ :: xs,_,⟨c,ds,h1,h2,h3⟩=>by
   rw [h1,show (i + 1) * k = c.length + i * k from by rw [r.len h2,Nat.add_mul];omega,List.drop_length_add_append]
   exact h3.drop (i:=i)
theorem LSl.at {S:Nat→Prop} {w:World} {v:Value} {xs:List α} (h:LSl r S w v xs):∃ a c,v = .slice a xs.length c∧xs.length ≤ c∧c ≤ maxLen∧∀ i (hi:i < xs.length),∃ g o cs,a = some ⟨g,o,none⟩∧S g∧r.R S w xs[i] cs ∧
 ∀ j u,cs[j]? = some u→w.cell? ⟨g,o + (i * k + j),none⟩ = some u:=by
 obtain ⟨ds,⟨hl,a,c,rfl,hc,hm,_,hh⟩,hf⟩:=h
 refine ⟨a,c,rfl,hc,hm,fun i hi=>?_⟩
 rcases hh with h0 | ⟨g,o,rfl,hg1,hcell⟩
 · omega
 · have hf':=hf.drop (i:=i)
   rw [List.drop_eq_getElem_cons hi] at hf'
   obtain ⟨cs,es,he,hr,_⟩:=hf'
   refine ⟨g,o,cs,rfl,hg1,hr,fun j u hj=>hcell (i * k + j) u ?_⟩
   rw [← List.getElem?_drop,he,List.getElem?_append_left (List.getElem?_eq_some_iff.1 hj).1]
   exact hj
def Sx (S:Nat→Prop) (lo hi:Nat) (v:Value) (b:Nat):Prop:=S b ∨ Rx lo hi v b
structure Fl where
 p:List Ky
 l:List Int
 deriving DecidableEq
def xn_:Rd Fl 2 where
 R S w x cs:=∃ ap cp an cn,cs = [.slice ap x.p.length cp, .slice an x.l.length cn]∧Pth S w (.slice ap x.p.length cp) x.p∧qF_ S w (.slice an x.l.length cn) x.l
 len:=by rintro S w x cs ⟨_,_,_,_,rfl,_⟩;rfl
 one:=by rintro S w x cs ⟨_,_,_,_,rfl,_⟩ u hu;simp at hu;rcases hu with rfl | rfl <;> rfl
 agree:=by rintro S w w' x cs ⟨a,b,c,d,rfl,h1,h2⟩ ha;exact ⟨a,b,c,d,rfl,h1.agree ha,h2.agree ha⟩
 wide:=by rintro S w w' x cs ⟨a,b,c,d,rfl,h1,h2⟩ ha;exact ⟨a,b,c,d,rfl,h1.wide ha,h2.wide ha⟩
def vP_:Rd (List Ky) 1 where
 R S w x cs:=∃ ap cp,cs = [.slice ap x.length cp]∧Pth S w (.slice ap x.length cp) x
 len:=by rintro S w x cs ⟨_,_,rfl,_⟩;rfl
 one:=by rintro S w x cs ⟨_,_,rfl,_⟩ u hu;simp at hu;rcases hu with rfl;rfl
 agree:=by rintro S w w' x cs ⟨a,b,rfl,h1⟩ ha;exact ⟨a,b,rfl,h1.agree ha⟩
 wide:=by rintro S w w' x cs ⟨a,b,rfl,h1⟩ ha;exact ⟨a,b,rfl,h1.wide ha⟩
structure Ch where
 p:List Ky
 had:Bool
 has:Bool
 old:List Int
 new:List Int
 deriving DecidableEq
def rdCh:Rd Ch 5 where
 R S w x cs:=∃ ap cp ao co an cn,cs = [.slice ap x.p.length cp, .bool x.had, .bool x.has, .slice ao x.old.length co, .slice an x.new.length cn]∧Pth S w (.slice ap x.p.length cp) x.p∧qF_ S w (.slice ao x.old.length co) x.old∧qF_ S w (.slice an x.new.length cn) x.new
 len:=by rintro S w x cs ⟨_,_,_,_,_,_,rfl,_⟩;rfl
 one:=by rintro S w x cs ⟨_,_,_,_,_,_,rfl,_⟩ u hu;simp at hu;rcases hu with rfl | rfl | rfl | rfl | rfl <;> rfl
 agree:=by rintro S w w' x cs ⟨a,b,c,d,e,f,rfl,h1,h2,h3⟩ ha;exact ⟨a,b,c,d,e,f,rfl,h1.agree ha,h2.agree ha,h3.agree ha⟩
 wide:=by rintro S w w' x cs ⟨a,b,c,d,e,f,rfl,h1,h2,h3⟩ ha;exact ⟨a,b,c,d,e,f,rfl,h1.wide ha,h2.wide ha,h3.wide ha⟩
abbrev FlSl:=LSl xn_
abbrev PaSl:=LSl vP_
abbrev ChSl:=LSl rdCh
def cmpP:List Ky→List Ky→Int
 | [],[]=>0
 | [],_ :: _ => -1
 | _ :: _,[]=>1
 | a :: x,b :: y=>if byK a b ≠ 0 then byK a b else cmpP x y
def z0_ (n:List UInt8) (l:List Int):List (List UInt8):=n :: l.map Lib.itoa
def ze_ (x:NdD):List UInt8:=List.replicate x.up.length 32 ++ (Lib.join (z0_ x.n x.l) [32] ++ [10])
def kN_ (xs:List NdD):List UInt8:=(xs.map ze_).flatten
theorem txtL_one (xs:List NdD) (x:NdD):kN_ (xs ++ [x]) = kN_ xs ++ ze_ x:=by simp [kN_]
def OkN (x:NdD):Prop:=zN_ x.n = false∧x.l.length ≤ 4∧kb_ x.l = false
theorem kC_ {bad:Ky→Ky→Bool}:∀ (y:Fo) (d:Int) (p:Option Ky) (up:List Ky),zD_ bad d p y = 0→∀ x ∈ qa_ up y,OkN x
 | .nil,_,_,_,_,x,hx=>by simp [qa_] at hx
 | .cons n l s r,d,p,up,h,x,hx=>by
   simp only [zD_] at h
   have a1:¬ (3 < d):=fun e=>by rw [if_pos e] at h;omega
   rw [if_neg a1] at h
   have a2:zN_ n ≠ true:=fun e=>by rw [if_pos e] at h;omega
   rw [if_neg a2] at h
   have a3:¬ (4 < (l.length:Int)):=fun e=>by rw [if_pos e] at h;omega
   rw [if_neg a3] at h
   have a4:kb_ l ≠ true:=fun e=>by rw [if_pos e] at h;omega
   rw [if_neg a4] at h
   have h:(if zD_ bad (d + 1) none s ≠ 0 then zD_ bad (d + 1) none s else zD_ bad d (some (kyOf n l)) r) = 0:=by
    cases p with
    | none=>dsimp only at h;rwa [if_neg (by simp)] at h
    | some q=>
      dsimp only at h
      have a5:¬ (bad q (kyOf n l) = true):=fun e=>by rw [if_pos e] at h;omega
      rwa [if_neg a5] at h
   have a6:¬ (zD_ bad (d + 1) none s ≠ 0):=fun e=>by rw [if_pos e] at h;exact e h
   rw [if_neg a6] at h
   simp only [ne_eq,Decidable.not_not] at a6
   simp only [qa_,List.mem_cons,List.mem_append] at hx
   rcases hx with rfl | hx | hx
   · exact ⟨by simpa using a2,by simp only;omega,by simpa using a4⟩
   · exact kC_ s _ _ _ a6 x hx
   · exact kC_ r _ _ _ h x hx
theorem kl_ {l:List Int} (h:kb_ l = false):∀ x ∈ l,0 ≤ x∧x ≤ 9999:=by
 intro x hx
 simp only [kb_,List.any_eq_false,offB,Bool.or_eq_true,decide_eq_true_eq,not_or] at h
 have:=h x hx
 omega
theorem vE_ {s:List UInt8} (h:zN_ s = false):1 ≤ s.length∧s.length ≤ 8:=by
 simp only [zN_,Bool.or_eq_false_iff,decide_eq_false_iff_not] at h
 omega
theorem dig_len:∀ (k u:Nat),u < 10 ^ (k + 1)→(Lib.decDigits u).length ≤ k + 1
 | 0,u,h=>by rw [Lib.decDigits,dif_pos (by simpa using h)];simp
 | k + 1,u,h=>by
   rw [Lib.decDigits]
   split
   · simp
   · have:=dig_len k (u / 10) (by rw [Nat.div_lt_iff_lt_mul (by omega)];rw [Nat.pow_succ] at h;omega)
     simp;omega
theorem kr_ {i:Int} (h:0 ≤ i) (h2:i ≤ 9999):(Lib.itoa i).length ≤ 4:=by
 unfold Lib.itoa
 rw [if_neg (by omega)]
 exact dig_len 3 _ (by simp;omega)
theorem kO_ (n:List UInt8) (l:List Int):Lib.join (z0_ n l) [32] = n ++ (l.map fun i=>32 :: Lib.itoa i).flatten:=by
 rw [z0_,Lib.join_cons,Lib.joinTail,List.map_map]
 rfl
theorem flat_len {l:List Int}:(∀ x ∈ l,0 ≤ x∧x ≤ 9999)→(l.map fun i=>32 :: Lib.itoa i).flatten.length ≤ 5 * l.length:=by
 induction l with
 | nil=>intro _;simp
 | cons x l ih=>
   intro h
   have h1:=kr_ (h x (by simp)).1 (h x (by simp)).2
   have h2:=ih fun z hz=>h z (by simp [hz])
   simp only [List.map_cons,List.flatten_cons,List.length_append,List.length_cons]
   omega
theorem jV_ {x:NdD} (h:OkN x) (hu:x.up.length ≤ 900):(ze_ x).length ≤ 930:=by
 have h1:=vE_ h.1
 have h2:=flat_len (kl_ h.2.2)
 have h3:=h.2.1
 simp only [ze_,kO_,List.length_append,List.length_replicate,List.length_singleton]
 omega
theorem zF_:∀ (y:Fo) (up:List Ky),∀ x ∈ qa_ up y,x.up.length ≤ up.length + y.cnt
 | .nil,_,x,hx=>by simp [qa_] at hx
 | .cons n l s r,up,x,hx=>by
   simp only [qa_,List.mem_cons,List.mem_append] at hx
   rcases hx with rfl | hx | hx
   · simp only;omega
   · have:=zF_ s _ x hx;simp [Fo.cnt] at *;omega
   · have:=zF_ r _ x hx;simp [Fo.cnt] at *;omega
theorem jL_:∀ (xs:List NdD),(∀ x ∈ xs,OkN x∧x.up.length ≤ 900)→(kN_ xs).length ≤ 930 * xs.length
 | [],_=>by simp [kN_]
 | x :: xs,h=>by
   have h1:=jV_ (h x (by simp)).1 (h x (by simp)).2
   have h2:=jL_ xs fun z hz=>h z (by simp [hz])
   have:kN_ (x :: xs) = ze_ x ++ kN_ xs:=by simp [kN_]
   rw [this,List.length_append,List.length_cons];omega
variable {P:Program}
def xI_ (P:Program) (k e:TypeId) (b n:Nat) (l:List (List UInt8)) (w:World):Prop:=
 ∃ D:DataW Unit,w.ownsMap P k (plainElem P e) b n D∧∀ s:List UInt8,D.atKey (.string s) (.lit (.bool false)) = .lit (.bool (decide (s ∈ l)))
theorem xI_.made (k e:TypeId) (w:World):xI_ P k e w.heap.size 0 [] (w.alloc (.map #[] 0)):=
 ⟨_,World.ownsMap_made _ _ _ _,fun s=>by simp [DataW.atKey]⟩
theorem xI_.kept {k e:TypeId} {b n:Nat} {l:List (List UInt8)} {w w':World} (h:xI_ P k e b n l w) (hb:w'.heap[b]? = w.heap[b]?):xI_ P k e b n l w':=by
 obtain ⟨D,⟨es,clock,h1,h2⟩,h3⟩:=h
 exact ⟨D,⟨es,clock,hb.trans h1,h2⟩,h3⟩
theorem keyS {k:TypeId} (hk:P.underlying k = some .string) (s:List UInt8) (hs:s.length ≤ maxLen):keyOf P k (.string (bs s)) = some (.string s):=by
 have:=WideMaps.keyOf_string_mk hk (s:=bs s) (by rw [q2_];exact hs)
 rwa [xA_] at this
theorem xI_.look {t k e:TypeId} {b n:Nat} {l:List (List UInt8)} {w:World} (h:xI_ P k e b n l w) (ht:P.underlying t = some (.map k e)) (hk:P.underlying k = some .string) (he:P.underlying e = some .bool) (hz:(zeroValue e).run P w = .ok (.bool false) w)
 (s:List UInt8) (hs:s.length ≤ maxLen):(Instr.lookup t (.map (some b)) (.string (bs s)) false).run P w = .ok (.bool (decide (s ∈ l))) w:=by
 obtain ⟨D,h1,h2⟩:=h
 obtain ⟨v,ps,hrun,hv⟩:=h1.lookup (Maps.string_keyed hk) ht hz (plainElem_bool he false) (keyS hk s hs)
 rw [h2 s] at hv
 unfold plainElem at hv
 rw [he] at hv
 cases v <;> simp at hv
 rw [hrun,hv.1]
theorem xI_.put {t k e:TypeId} {b n:Nat} {l:List (List UInt8)} {w:World} (h:xI_ P k e b n l w) (ht:P.underlying t = some (.map k e)) (hk:P.underlying k = some .string) (he:P.underlying e = some .bool)
 (s:List UInt8) (hs:s.length ≤ maxLen) (hn:n < maxLen):∃ w',(Instr.mapUpdate t (.map (some b)) (.string (bs s)) (.bool true)).run P w = .ok () w'∧xI_ P k e b (n + 1) (s :: l) w'∧w.grownBy w' (some b):=by
 obtain ⟨D,h1,h2⟩:=h
 obtain ⟨w',hrun,h3,h4⟩:=h1.update (Maps.string_keyed hk) ht hn (keyS hk s hs) (plainElem_bool he true)
 refine ⟨w',hrun,⟨_,h3,fun s'=>?_⟩,h4⟩
 by_cases hss:s' = s
 · subst hss
   rw [Maps.atKey_put_same h1.isMap (by trivial)]
   simp
 · rw [Maps.atKey_put_other (by simpa using hss),h2 s']
   simp [hss]
theorem k3_ {w:World} {ops:Array Oper} {rest:List Oper} {o:Oper} {a:Act} {Q:Exit→Act→World→Prop}
 (hg:o.guard = none) (m x:Operand) (t:TypeId) (hop:o.op = Op.lookup t m x false)
 (k e:TypeId) (ht:P.underlying t = some (.map k e)) (hk:P.underlying k = some .string) (he:P.underlying e = some .bool) (hz:(zeroValue e).run P w = .ok (.bool false) w) (b n:Nat) (l:List (List UInt8))
 (hm:a.eval m = .map (some b)) (h:xI_ P k e b n l w) (s:List UInt8) (hs:s.length ≤ maxLen) (hx:a.eval x = .string (bs s))
 (hK:wpList P ops Q rest (a.put o.dst (.bool (decide (s ∈ l)))) w):wpList P ops Q (o :: rest) a w:=by
 refine wpList_plain hg fun K' hK'=>?_
 unfold Oper.wp
 simp [execOp,hop,hm,hx,h.look ht hk he hz s hs,Result.andThen]
 exact hK' _ _ (by simpa using hK)
theorem wp_setPut {w:World} {o:Oper} {a:Act} {K:Act→World→Prop} {Q:Exit→Act→World→Prop}
 (m x v:Operand) (t:TypeId) (hop:o.op = Op.mapUpdate t m x v)
 (k e:TypeId) (ht:P.underlying t = some (.map k e)) (hk:P.underlying k = some .string) (he:P.underlying e = some .bool) (b n:Nat) (l:List (List UInt8))
 (hm:a.eval m = .map (some b)) (h:xI_ P k e b n l w) (hn:n < maxLen) (s:List UInt8) (hs:s.length ≤ maxLen) (hx:a.eval x = .string (bs s)) (hv:a.eval v = .bool true)
 (hK:∀ w',xI_ P k e b (n + 1) (s :: l) w'→w.grownBy w' (some b)→K (a.put o.dst undef) w'):o.wp P a w K Q:=by
 obtain ⟨w',hrun,h1,h2⟩:=h.put ht hk he s hs hn
 unfold Oper.wp
 simp [execOp,hop,hm,hx,hv,hrun,Result.andThen]
 exact hK w' h1 h2
end Go.Proofs.LF