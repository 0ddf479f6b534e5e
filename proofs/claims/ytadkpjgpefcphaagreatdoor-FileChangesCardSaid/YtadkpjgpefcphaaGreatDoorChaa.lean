/- Parts of the proof of a law of layer 11 (file): LfBase, LfShelf, LfSpec, LfApp, LfOw. The conditions stand in each theorem. -/
import Derived.Deep.AppendLies
import Derived.Deep.Draws
import Derived.Ground.Names2Prog
import Derived.Ground.SlgnProg
import Derived.Laws.AppendOwn
import Derived.Maps.AppendAt
import Derived.OwnWalk
import Derived.Shelf.Bits.Mul64
import Derived.Shelf.LaysC
import Derived.Shelf.LaysM
import Derived.Shelf.Slices.Clone
import Derived.Shelf.Slices.Empties2
import Derived.Shelf.Slices.Equal
import Derived.Shelf.Slices.SearchI
import Derived.Shelf.SlicesE.Clone
import Derived.Shelf.Small.Bits
import Derived.Shelf.Strconv.Atoi
import Derived.Shelf.Strconv.AtoiAll
import Derived.Shelf.Strconv.AtoiErrFast
import Derived.Shelf.Strconv.AtoiFail
import Derived.Shelf.Strconv.AtoiInnerAll
import Derived.Shelf.Strconv.AtoiLong
import Derived.Shelf.Strconv.Clone
import Derived.Shelf.Strconv.ErrVarAll
import Derived.Shelf.Strconv.Itoa0
import Derived.Shelf.Strconv.Itoa1
import Derived.Shelf.Strconv.Itoa2
import Derived.Shelf.Strconv.Itoa3
import Derived.Shelf.Strconv.Lower
import Derived.Shelf.Strconv.ParseInt10
import Derived.Shelf.Strconv.ParseIntEmpty
import Derived.Shelf.Strconv.ParseUint10
import Derived.Shelf.Strconv.ParseUint10Any
import Derived.Shelf.Strconv.ParseUint10Empty
import Derived.Shelf.Strconv.RangeError
import Derived.Shelf.Strconv.SyntaxError
import Derived.Shelf.Strconv.ToError
import Derived.Shelf.Strconv.ToErrorRange
import Derived.Shelf.Strings.Builder1
import Derived.Shelf.Strings.Builder2
import Derived.Shelf.Strings.Builder2Cap
import Derived.Shelf.Strings.BuilderCap
import Derived.Shelf.Strings.BuilderF
import Derived.Shelf.Strings.BuilderK
import Derived.Shelf.Strings.Count
import Derived.Shelf.Strings.Explode
import Derived.Shelf.Strings.OnBuilder
import Derived.Shelf.Strings.Prefix
import Derived.Shelf.Strings.Repeat
import Derived.Shelf.Strings.RuneCount
import Derived.Shelf.Strings.Search1
import Derived.Shelf.Strings.Search2
import Derived.Shelf.Strings.Search3
import Derived.Shelf.Strings.Shaped
import Derived.Shelf.Strings.Split
import Derived.Shelf.Unicode.Decode
import Derived.Shelf.Unicode.DecodeAny
import Derived.Shelf.Unicode.DecodeSlow
import Derived.Shelf.Utf8.RuneCount
import Derived.Test.YtadkpjgpefcphaaGreatDoorProg
import Derived.WalkKit
set_option linter.all false
set_option linter.unusedVariables false
set_option linter.unusedSimpArgs false
namespace Go.Proofs.LF
open Go.RowKit
theorem nl_ (n:Nat):n ≤ n:=Nat.le_refl n
theorem hid {p:Prop} (h:p):Hid p:=h
def bs (l:List UInt8):ByteArray:=⟨l.toArray⟩
theorem bs_toList (l:List UInt8):(bs l).toList = l:=by
 rw [ByteArray.toList_eq];simp [bs]
theorem bs_size (l:List UInt8):(bs l).size = l.length:=by simp [bs,ByteArray.size]
theorem bs_data (l:List UInt8):(bs l).data.toList = l:=by simp [bs]
theorem bs_of (s:ByteArray):bs s.data.toList = s:=by simp [bs]
structure Ky where
 n:List UInt8
 h:Bool
 x:Int
 deriving DecidableEq
inductive Fo where
 | nil
 | cons (n:List UInt8) (l:List Int) (s r:Fo)
 deriving DecidableEq
def Fo.len:Fo→Nat
 | .nil=>0
 | .cons _ _ _ r=>r.len + 1
def Fo.cnt:Fo→Nat
 | .nil=>0
 | .cons _ _ s r=>1 + s.cnt + r.cnt
def Fo.drop:Nat→Fo→Fo
 | 0,y=>y
 | _ + 1, .nil => .nil
 | i + 1, .cons _ _ _ r=>r.drop i
def Fo.app:Fo→Fo→Fo
 | .nil,z=>z
 | .cons n l s r,z => .cons n l s (r.app z)
def Fo.take:Nat→Fo→Fo
 | 0,_ => .nil
 | _ + 1, .nil => .nil
 | i + 1, .cons n l s r => .cons n l s (r.take i)
theorem Fo.app_nil:∀ (y:Fo),y.app .nil = y
 | .nil=>rfl
 | .cons n l s r=>by simp [Fo.app,Fo.app_nil r]
theorem Fo.len_app:∀ (y z:Fo),(y.app z).len = y.len + z.len
 | .nil,z=>by simp [Fo.app,Fo.len]
 | .cons n l s r,z=>by simp only [Fo.app,Fo.len,Fo.len_app r z];omega
def Ky.cells (k:Ky):List Value:=[.string (bs k.n), .bool k.h, .int .i64 k.x]
def SlC (S:Nat→Prop) (w:World) (k:Nat) (v:Value) (n:Nat) (cs:List Value):Prop:=
 cs.length = n * k∧∃ a c,v = .slice a n c∧n ≤ c∧c ≤ maxLen∧(a = none→c = 0) ∧
  (n = 0 ∨ ∃ g o,a = some ⟨g,o,none⟩∧S g∧∀ j u,cs[j]? = some u→w.cell? ⟨g,o + j,none⟩ = some u)
def Rg (lo hi:Nat) (b:Nat):Prop:=lo ≤ b∧b < hi
def Rx (lo hi:Nat) (v:Value) (b:Nat):Prop:=lo ≤ b∧b < hi∧v.ownBlock ≠ some b
def Agree (S:Nat→Prop) (w w':World):Prop:=∀ b,S b→w'.heap[b]? = w.heap[b]?
theorem Ag_b {S:Nat→Prop} {B:Nat} {w w':World} (h:Below B w w') (hh:∀ b,S b→b < B):Agree S w w':=fun b hb=>h.block b (hh b hb)
theorem Agree.trans {S:Nat→Prop} {a b c:World} (h:Agree S a b) (k:Agree S b c):Agree S a c:=fun i hi=>(k i hi).trans (h i hi)
theorem Agree.refl {S:Nat→Prop} {a:World}:Agree S a a:=fun _ _=>rfl
theorem Agree.grown {S:Nat→Prop} {w w':World} {row:Option Nat} (h:w.grownBy w' row) (hh:∀ b,S b→b < w.heap.size∧row ≠ some b):Agree S w w':=fun b hb=>h.block b (hh b hb).1 (fun e=>(hh b hb).2 e.symm)
theorem Agree.cell {S:Nat→Prop} {w w':World} (h:Agree S w w') {g o:Nat} {u:Value} (h1:S g) (hc:w.cell? ⟨g,o,none⟩ = some u):w'.cell? ⟨g,o,none⟩ = some u:=by
 rw [World.cell?_of_block (h g h1)];exact hc
theorem SlC.agree {S:Nat→Prop} {w w':World} {k n:Nat} {v:Value} {cs:List Value} (h:SlC S w k v n cs) (ha:Agree S w w'):SlC S w' k v n cs:=by
 obtain ⟨h1,a,c,h2,h3,h4,hn,h5⟩:=h
 refine ⟨h1,a,c,h2,h3,h4,hn,?_⟩
 rcases h5 with h5 | ⟨g,o,h6,h7,h9⟩
 · exact .inl h5
 · exact .inr ⟨g,o,h6,h7,fun j u hj=>ha.cell h7 (h9 j u hj)⟩
theorem SlC.wide {S S':Nat→Prop} {w:World} {k n:Nat} {v:Value} {cs:List Value} (h:SlC S w k v n cs) (h1:∀ b,S b→S' b):SlC S' w k v n cs:=by
 obtain ⟨h0,a,c,h3,h4,h5,hn,h6⟩:=h
 refine ⟨h0,a,c,h3,h4,h5,hn,?_⟩
 rcases h6 with h6 | ⟨g,o,h7,h8,h10⟩
 · exact .inl h6
 · exact .inr ⟨g,o,h7,h1 _ h8,h10⟩
def Ints (S:Nat→Prop) (w:World) (v:Value) (l:List Int):Prop:=SlC S w 1 v l.length (l.map (Value.int .i64))
def Pth (S:Nat→Prop) (w:World) (v:Value) (p:List Ky):Prop:=SlC S w 3 v p.length (p.flatMap Ky.cells)
def FCs (S:Nat→Prop) (w:World):Fo→List Value→Prop
 | .nil,cs=>cs = []
 | .cons n l s r,cs=>∃ vn vs cs',cs = .string (bs n) :: vn :: vs :: cs'∧Ints S w vn l∧(∃ ds,SlC S w 3 vs s.len ds∧FCs S w s ds)∧FCs S w r cs'
def FSl (S:Nat→Prop) (w:World) (v:Value) (y:Fo):Prop:=∃ ds,SlC S w 3 v y.len ds∧FCs S w y ds
theorem FCs.agree {S:Nat→Prop} {w w':World} (ha:Agree S w w'):∀ {y:Fo} {cs:List Value},FCs S w y cs→FCs S w' y cs
 | .nil,_,h=>h
 | .cons _ _ _ _,_,⟨vn,vs,cs',h1,h2,⟨ds,h3,h4⟩,h5⟩=>⟨vn,vs,cs',h1,SlC.agree h2 ha,⟨ds,h3.agree ha,h4.agree ha⟩,h5.agree ha⟩
theorem FCs.wide {S S':Nat→Prop} {w:World} (h1:∀ b,S b→S' b):∀ {y:Fo} {cs:List Value},FCs S w y cs→FCs S' w y cs
 | .nil,_,h=>h
 | .cons _ _ _ _,_,⟨vn,vs,cs',h3,h4,⟨ds,h5,h6⟩,h7⟩=>⟨vn,vs,cs',h3,SlC.wide h4 h1,⟨ds,h5.wide h1,h6.wide h1⟩,h7.wide h1⟩
theorem FSl.agree {S:Nat→Prop} {w w':World} {v:Value} {y:Fo} (h:FSl S w v y) (ha:Agree S w w'):FSl S w' v y:=let ⟨ds,h1,h2⟩:=h;⟨ds,h1.agree ha,h2.agree ha⟩
theorem FSl.wide {S S':Nat→Prop} {w:World} {v:Value} {y:Fo} (h:FSl S w v y) (h1:∀ b,S b→S' b):FSl S' w v y:=let ⟨ds,h3,h4⟩:=h;⟨ds,h3.wide h1,h4.wide h1⟩
theorem Ints.agree {S:Nat→Prop} {w w':World} {v:Value} {l:List Int} (h:Ints S w v l) (ha:Agree S w w'):Ints S w' v l:=SlC.agree h ha
theorem Ints.wide {S S':Nat→Prop} {w:World} {v:Value} {l:List Int} (h:Ints S w v l) (h1:∀ b,S b→S' b):Ints S' w v l:=SlC.wide h h1
theorem Pth.agree {S:Nat→Prop} {w w':World} {v:Value} {l:List Ky} (h:Pth S w v l) (ha:Agree S w w'):Pth S w' v l:=SlC.agree h ha
theorem Pth.wide {S S':Nat→Prop} {w:World} {v:Value} {l:List Ky} (h:Pth S w v l) (h1:∀ b,S b→S' b):Pth S' w v l:=SlC.wide h h1
theorem FCs.length {S:Nat→Prop} {w:World}:∀ {y:Fo} {cs:List Value},FCs S w y cs→cs.length = y.len * 3
 | .nil,_,h=>by rw [show _ = [] from h];rfl
 | .cons _ _ _ _,_,⟨_,_,_,h,_,_,h5⟩=>by rw [h];simp only [List.length_cons,Fo.len];have:=h5.length;omega
theorem SlC.of_owns {w:World} {base e k n:Nat} {v:Value} {xs:List Value} (h:w.ownsRow base e k v n xs):SlC (Rg base w.heap.size) w k v n xs:=by
 obtain ⟨h1,h2⟩:=h
 refine ⟨h1,?_⟩
 rcases h2 with ⟨rfl,rfl⟩ | ⟨g,cap,cur,rfl,hb,hg,hn,hc,hs,ht⟩
 · exact ⟨none,0,rfl,by omega,by simp [maxLen],fun _=>rfl, .inl rfl⟩
 · refine ⟨_,cap,rfl,hn,hc,(fun h=>by cases h),
    .inr ⟨g,0,rfl,⟨hb,(Array.getElem?_eq_some_iff.1 hg).1⟩,fun j u hj=>?_⟩⟩
   simp only [World.cell?,hg,Nat.zero_add]
   rw [← ht,List.getElem?_take] at hj
   split at hj
   · simpa using hj
   · cases hj
theorem FCs.drop {S:Nat→Prop} {w:World}:∀ {i:Nat} {y:Fo} {cs:List Value},FCs S w y cs→FCs S w (y.drop i) (cs.drop (i * 3))
 | 0,_,_,h=>by simpa [Fo.drop] using h
 | i + 1, .nil,_,h=>by rw [show _ = [] from h];simp [Fo.drop,FCs]
 | i + 1, .cons _ _ _ _,_,⟨_,_,_,h,_,_,h5⟩=>by
   rw [h,show (i + 1) * 3 = i * 3 + 1 + 1 + 1 from by omega]
   simpa [Fo.drop] using h5.drop (i:=i)
theorem Fo.drop_succ {i:Nat} {y r:Fo} {n:List UInt8} {l:List Int} {s:Fo}:y.drop i = .cons n l s r→y.drop (i + 1) = r:=by
 induction i generalizing y with
 | zero=>intro h;rw [show y = _ from h];rfl
 | succ i ih=>
   intro h
   cases y with
   | nil=>cases h
   | cons _ _ _ r'=>exact ih h
theorem Fo.drop_lt:∀ {i:Nat} {y:Fo},i < y.len→∃ n l s r,y.drop i = .cons n l s r
 | _, .nil,h=>by simp [Fo.len] at h
 | 0, .cons n l s r,_=>⟨n,l,s,r,rfl⟩
 | i + 1, .cons _ _ _ r,h=>Fo.drop_lt (i:=i) (y:=r) (by simp [Fo.len] at h;omega)
theorem Fo.drop_len:∀ {y:Fo},y.drop y.len = .nil
 | .nil=>rfl
 | .cons _ _ _ r=>Fo.drop_len (y:=r)
theorem SlC.cells {S:Nat→Prop} {w:World} {k n c:Nat} {a:Option Addr} {cs:List Value} (h:SlC S w k (.slice a n c) n cs) (hn:0 < n):∃ g o,a = some ⟨g,o,none⟩∧S g∧n ≤ c∧c ≤ maxLen∧∀ j u,cs[j]? = some u→w.cell? ⟨g,o + j,none⟩ = some u:=by
 obtain ⟨_,a',c',he,h1,h2,_,h3⟩:=h
 cases he
 rcases h3 with h3 | ⟨g,o,h4,h5,h6⟩
 · omega
 · exact ⟨g,o,h4,h5,h1,h2,h6⟩
theorem SlC.caps {S:Nat→Prop} {w:World} {k n c:Nat} {a:Option Addr} {cs:List Value} (h:SlC S w k (.slice a n c) n cs):n ≤ c∧c ≤ 9223372036854775807∧(a = none→n = 0∧c = 0):=by
 obtain ⟨_,a',c',he,h1,h2,h3,_⟩:=h
 cases he
 exact ⟨h1,by unfold maxLen at h2;omega,fun e=>by have:=h3 e;omega⟩
theorem SlC.shape {S:Nat→Prop} {w:World} {k n:Nat} {v:Value} {cs:List Value} (h:SlC S w k v n cs):∃ a c,v = .slice a n c∧n ≤ c∧c ≤ maxLen:=let ⟨_,a,c,h1,h2,h3,_⟩:=h;⟨a,c,h1,h2,h3⟩
theorem FSl.at {S:Nat→Prop} {w:World} {v:Value} {y:Fo} (h:FSl S w v y):∃ a c,v = .slice a y.len c∧y.len ≤ c∧c ≤ maxLen∧∀ i,i < y.len→∃ g o n l s r an cn ab cb,a = some ⟨g,o,none⟩∧S g∧y.drop i = .cons n l s r ∧
 w.cell? ⟨g,o + i * 3,none⟩ = some (.string (bs n))∧w.cell? ⟨g,o + i * 3 + 1,none⟩ = some (.slice an l.length cn)∧w.cell? ⟨g,o + i * 3 + 2,none⟩ = some (.slice ab s.len cb)∧Ints S w (.slice an l.length cn) l∧FSl S w (.slice ab s.len cb) s:=by
 obtain ⟨ds,⟨hl,a,c,rfl,hc,hm,_,hh⟩,hf⟩:=h
 refine ⟨a,c,rfl,hc,hm,fun i hi=>?_⟩
 rcases hh with h0 | ⟨g,o,rfl,hg1,hcell⟩
 · omega
 · obtain ⟨n,l,s,r,hd⟩:=Fo.drop_lt hi
   have hf':=hf.drop (i:=i)
   rw [hd] at hf'
   obtain ⟨vn,vs,cs',he,hi',⟨ds',hs,hs'⟩,_⟩:=hf'
   obtain ⟨an,cn,rfl,_⟩:=SlC.shape hi'
   obtain ⟨ab,cb,rfl,_⟩:=SlC.shape hs
   have e:∀ j,ds[i * 3 + j]? = (Value.string (bs n) :: Value.slice an l.length cn :: Value.slice ab s.len cb :: cs')[j]?:=fun j=>by rw [← he,List.getElem?_drop]
   refine ⟨g,o,n,l,s,r,an,cn,ab,cb,rfl,hg1,hd,?_,?_,?_,hi',⟨ds',hs,hs'⟩⟩
   · exact hcell (i * 3) _ (by have:=e 0;simpa using this)
   · rw [Nat.add_assoc];exact hcell (i * 3 + 1) _ (by have:=e 1;simpa using this)
   · rw [Nat.add_assoc];exact hcell (i * 3 + 2) _ (by have:=e 2;simpa using this)
def Fo.Sm:Fo→Prop
 | .nil=>True
 | .cons n l s r=>n.length ≤ 1000∧l.length ≤ 1000∧s.len ≤ 1000∧s.Sm∧r.Sm
theorem Fo.Sm.drop:∀ {i:Nat} {y:Fo},y.Sm→(y.drop i).Sm
 | 0,_,h=>h
 | _ + 1, .nil,h=>h
 | i + 1, .cons _ _ _ r,⟨_,_,_,_,h⟩=>Fo.Sm.drop (i:=i) (y:=r) h
theorem Fo.cnt_drop:∀ {i:Nat} {y:Fo},(y.drop i).cnt ≤ y.cnt
 | 0,_=>nl_ _
 | _ + 1, .nil=>nl_ _
 | i + 1, .cons _ _ _ r=>by have:=Fo.cnt_drop (i:=i) (y:=r);simp only [Fo.drop,Fo.cnt];omega
theorem Fo.cnt_at {i:Nat} {y r s:Fo} {n:List UInt8} {l:List Int} (h:y.drop i = .cons n l s r):s.cnt < y.cnt:=by
 have:=Fo.cnt_drop (i:=i) (y:=y)
 rw [h] at this
 simp only [Fo.cnt] at this
 omega
theorem Fo.take_succ:∀ {i:Nat} {y r s:Fo} {n:List UInt8} {l:List Int},y.drop i = .cons n l s r→y.take (i + 1) = (y.take i).app (.cons n l s .nil)
 | 0,y,_,_,_,_,h=>by rw [show y = _ from h];rfl
 | _ + 1, .nil,_,_,_,_,h=>by cases h
 | i + 1, .cons _ _ _ r',_,_,_,_,h=>by
   show Fo.cons _ _ _ (r'.take (i + 1)) = _
   rw [Fo.take_succ (i:=i) (y:=r') h]
   rfl
theorem Fo.take_len:∀ {y:Fo},y.take y.len = y
 | .nil=>rfl
 | .cons _ _ _ r=>by show Fo.cons _ _ _ (r.take r.len) = _;rw [Fo.take_len]
theorem Fo.len_take:∀ {i:Nat} {y:Fo},i ≤ y.len→(y.take i).len = i
 | 0,_,_=>rfl
 | _ + 1, .nil,h=>by simp [Fo.len] at h
 | i + 1, .cons _ _ _ r,h=>by
   show (r.take i).len + 1 = _
   rw [Fo.len_take (by simp [Fo.len] at h;omega)]
theorem FCs.app {S:Nat→Prop} {w:World}:∀ {y z:Fo} {cs ds:List Value},FCs S w y cs→FCs S w z ds→FCs S w (y.app z) (cs ++ ds)
 | .nil,_,_,_,h,h'=>by rw [show _ = [] from h];exact h'
 | .cons _ _ _ _,_,_,_,⟨vn,vs,cs',h1,h2,h3,h4⟩,h'=>⟨vn,vs,_,by rw [h1];rfl,h2,h3,h4.app h'⟩
theorem FCs.one {S:Nat→Prop} {w:World} {n:List UInt8} {l:List Int} {s:Fo} {vn vs:Value} (h1:Ints S w vn l) (h2:FSl S w vs s):FCs S w (.cons n l s .nil) [.string (bs n),vn,vs]:=⟨vn,vs,[],rfl,h1,h2,rfl⟩
theorem ob_ {w w':World} {base e k n B:Nat} {v:Value} {xs:List Value} (h:w.ownsRow base e k v n xs) (hb:Below B w w') (hB:w.heap.size ≤ B):w'.ownsRow base e k v n xs:=
 h.kept (row:=none) ⟨hb.os,hb.tape,hb.output,hb.size,fun i hi _=>hb.block i (by omega)⟩ (by
  rcases h.2 with ⟨rfl,_⟩ | ⟨g,_,_,rfl,_⟩
  · exact .inl rfl
  · exact .inr (by simp [Value.ownBlock]))
theorem below_drewN {B:Nat} {a w:World} (h:Below B a w) (n:Nat):Below B a (w.drewN n):=⟨h.os,h.tape,h.output,h.size,h.block⟩
theorem bc_ {B b o:Nat} {w w':World} {v:Value} (h:Below B w w') (hb:b < B) (hc:w.cell? ⟨b,o,none⟩ = some v):w'.cell? ⟨b,o,none⟩ = some v:=(h.cell (p:=⟨b,o,none⟩) hb).trans hc
theorem grown_cell {b o:Nat} {w w':World} {v:Value} {row:Option Nat} (h:w.grownBy w' row) (hb:row ≠ some b) (hc:w.cell? ⟨b,o,none⟩ = some v):w'.cell? ⟨b,o,none⟩ = some v:=h.cell hc (fun e=>hb e.symm)
theorem owns_ne {w:World} {base e k n:Nat} {v:Value} {xs:List Value} (h:w.ownsRow base e k v n xs) {b:Nat} (hb:w.heap.size ≤ b):v.ownBlock ≠ some b:=fun e=>by have:=(h.lt _ e).2;omega
theorem owns_ne' {w:World} {base e k n:Nat} {v:Value} {xs:List Value} (h:w.ownsRow base e k v n xs) {b:Nat} (hb:b < base):v.ownBlock ≠ some b:=fun e=>by have:=(h.lt _ e).1;omega
structure Step (B:Nat) (W0 W w3:World) (v:Value) (gg:Nat):Prop where
 below:Below W0.heap.size W0 W
 grown:W.grownBy w3 v.ownBlock
 base:B ≤ W0.heap.size
 old:∀ b,v.ownBlock = some b→B ≤ b∧b < W0.heap.size
 place:v.ownBlock = some gg ∨ gg = W.heap.size
 lt:gg < w3.heap.size
theorem Step.size {B:Nat} {W0 W w3:World} {v:Value} {gg:Nat} (h:Step B W0 W w3 v gg):W0.heap.size ≤ W.heap.size∧W.heap.size ≤ w3.heap.size:=⟨h.below.size,h.grown.size⟩
theorem Step.past {B:Nat} {W0 W w3:World} {v v':Value} {gg:Nat} (h:Step B W0 W w3 v gg) (hv:v'.ownBlock = some gg):(∀ b,Rx B W0.heap.size v b→Rx B w3.heap.size v' b)∧Agree (Rx B W0.heap.size v) W0 w3:=by
 have hs:=h.size
 refine ⟨fun b hb=>⟨hb.1,by have:=hb.2.1;omega,fun e=>?_⟩,fun b hb=>?_⟩
 · rw [hv] at e
   cases e
   rcases h.place with hp | hp
   · exact hb.2.2 hp
   · have:=hb.2.1
     omega
 · exact (h.grown.block b (by have:=hb.2.1;omega) (fun e=>hb.2.2 e.symm)).trans (h.below.block b hb.2.1)
theorem Step.fresh {B p q:Nat} {W0 W w1 w3:World} {v v':Value} {gg:Nat} (h:Step B W0 W w3 v gg) (hv:v'.ownBlock = some gg) (hp:W0.heap.size ≤ p) (hq:q ≤ W.heap.size) (hb:Below q w1 W):(∀ b,Rg p q b→Rx B w3.heap.size v' b)∧Agree (Rg p q) w1 w3:=by
 have hs:=h.size
 have hB:=h.base
 refine ⟨fun b hb=>⟨by have:=hb.1;omega,by have:=hb.2;omega,fun e=>?_⟩,fun b hb'=>?_⟩
 · rw [hv] at e
   cases e
   rcases h.place with hp' | hp'
   · have:=(h.old _ hp').2;have:=hb.1;omega
   · have:=hb.2;omega
 · exact (h.grown.block b (by have:=hb'.2;omega) (fun e=>by have:=(h.old _ e.symm).2;have:=hb'.1;omega)).trans (hb.block b hb'.2)
theorem Step.out {B:Nat} {W00 W0 W w3:World} {v:Value} {gg:Nat} (h:Step B W0 W w3 v gg) (hb:Below B W00 W0):Below B W00 w3:=
 (hb.trans (h.below.mono h.base)).grown h.grown (by have:=h.size;have:=h.base;omega) (fun k hk=>(h.old k hk).1)
structure Stable (P:(Nat→Prop)→World→Prop):Prop where
 agree:∀ {S w w'},P S w→Agree S w w'→P S w'
 wide:∀ {S S' w},P S w→(∀ b,S b→S' b)→P S' w
theorem Stable.ints (v:Value) (l:List Int):Stable (fun S w=>Ints S w v l):=⟨fun h=>h.agree,fun h=>h.wide⟩
theorem Stable.pth (v:Value) (l:List Ky):Stable (fun S w=>Pth S w v l):=⟨fun h=>h.agree,fun h=>h.wide⟩
theorem Stable.fsl (v:Value) (y:Fo):Stable (fun S w=>FSl S w v y):=⟨fun h=>h.agree,fun h=>h.wide⟩
theorem Stable.fcs (y:Fo) (cs:List Value):Stable (fun S w=>FCs S w y cs):=⟨fun h ha=>h.agree ha,fun h hw=>h.wide hw⟩
theorem Stable.both {P:(Nat→Prop)→World→Prop} (hP:Stable P) {S S':Nat→Prop} {w w':World} (h:P S w) (ha:Agree S w w') (hw:∀ b,S b→S' b):P S' w':=hP.wide (hP.agree h ha) hw
theorem Step.keep {P:(Nat→Prop)→World→Prop} (hP:Stable P) {B:Nat} {W0 W w3:World} {v v':Value} {gg:Nat} (h:Step B W0 W w3 v gg) (hv:v'.ownBlock = some gg) (hF:P (Rx B W0.heap.size v) W0):P (Rx B w3.heap.size v') w3:=
 hP.both hF (h.past hv).2 (h.past hv).1
theorem Step.lift {P:(Nat→Prop)→World→Prop} (hP:Stable P) {B p q:Nat} {W0 W w1 w3:World} {v v':Value} {gg:Nat} (h:Step B W0 W w3 v gg) (hv:v'.ownBlock = some gg) (hF:P (Rg p q) w1) (hp:W0.heap.size ≤ p) (hq:q ≤ W.heap.size) (hb:Below q w1 W):P (Rx B w3.heap.size v') w3:=
 hP.both hF (h.fresh hv hp hq hb).2 (h.fresh hv hp hq hb).1
theorem SlC.news {S:Nat→Prop} {w W:World} {k n c:Nat} {a:Option Addr} {cs:List Value} (h:SlC S w k (.slice a n c) n cs) (ha:Agree S w W):∀ ad,a = some ad→∀ (j:Nat) (u:Value),cs[j]? = some u→W.cell? (ad.add j) = some u:=by
 intro ad he j u hj
 by_cases hn:0 < n
 · obtain ⟨g,o,rfl,hS,_,_,hc⟩:=h.cells hn
   cases he
   have:=ha.cell hS (hc j u hj)
   unfold Addr.add
   split
   · rename_i h0;subst h0;simpa using this
   · exact this
 · have:cs = []:=by have h1:=h.1;rw [show n = 0 from by omega] at h1;simpa using h1
   rw [this] at hj;cases hj
theorem one_ints (l:List Int):∀ u:Value,u ∈ l.map (Value.int .i64)→u.oneCell' = true:=by
 intro u hu
 rw [List.mem_map] at hu
 obtain ⟨x,_,rfl⟩:=hu
 rfl
theorem one_keys (p:List Ky):∀ u:Value,u ∈ p.flatMap Ky.cells→u.oneCell' = true:=by
 intro u hu
 rw [List.mem_flatMap] at hu
 obtain ⟨x,_,hx⟩:=hu
 simp [Ky.cells] at hx
 rcases hx with rfl | rfl | rfl <;> rfl
theorem len_keys (p:List Ky):(p.flatMap Ky.cells).length = p.length * 3:=by
 induction p with
 | nil=>rfl
 | cons k p ih=>simp only [List.flatMap_cons,List.length_append,ih,List.length_cons,Ky.cells];simp;omega
end Go.Proofs.LF
namespace Go.Proofs
open Go.Shelf
def Tryz.lays169_ren:Go.Shelf.Ren:=⟨fun | 169=>93 | n=>n,fun | 70=>142 | 9=>9 | 0=>0 | 72=>144 | 37=>57 | 127=>250 | 3=>3 | 5=>5 | n=>n,fun | n=>n⟩
theorem Tryz.lays169:Go.Proofs.Lays.n169 Tryz.prog Tryz.lays169_ren:={
 mixed:=by kernel_rfl
 f169:=Tryz.func93.trans (congrArg some (by kernel_rfl))
 t0:=Tryz.underlying0
 a0:=Tryz.isAgg0
 z0:=Tryz.sizeOf0
 v0:=Tryz.zeroValue0
 t3:=Tryz.underlying3
 a3:=Tryz.isAgg3
 z3:=Tryz.sizeOf3
 v3:=Tryz.zeroValue3
 t9:=Tryz.underlying9
 a9:=Tryz.isAgg9
 z9:=Tryz.sizeOf9
 v9:=Tryz.zeroValue9
 t37:=Tryz.underlying57
 a37:=Tryz.isAgg57
 z37:=Tryz.sizeOf57
 v37:=Tryz.zeroValue57
 t70:=Tryz.underlying142
 a70:=Tryz.isAgg142
 z70:=Tryz.sizeOf142
 v70:=Tryz.zeroValue142
 t72:=Tryz.underlying144
 a72:=Tryz.isAgg144
 z72:=Tryz.sizeOf144
 v72:=Tryz.zeroValue144
 t127:=Tryz.underlying250
 a127:=Tryz.isAgg250
 z127:=Tryz.sizeOf250
 v127:=Tryz.zeroValue250 }
theorem Tryz.Builder_Extra_169:Builder.Extra Tryz.prog Tryz.lays169_ren:={
 sizeBuilder:=by kernel_rfl
 liesBuilder:=by kernel_rfl
 t5:=Tryz.underlying5
 a5:=Tryz.isAgg5
 z5:=Tryz.sizeOf5
 v5:=Tryz.zeroValue5
 infoByte:=by kernel_rfl
 cellsByte:=by kernel_rfl
 sizeByte:=by kernel_rfl
 neB5:=by decide }
def Tryz.lays156_ren:Go.Shelf.Ren:=⟨fun | 156=>83 | 165=>175 | 166=>91 | 169=>93 | 240=>181 | 241=>217 | 276=>221 | 277=>259 | n=>n,fun | 31=>131 | 9=>9 | 3=>3 | 4=>4 | 0=>0 | 20=>20 | 72=>144 | 76=>152 | 70=>142 | 37=>57 | 75=>149 | 127=>250 | 164=>283 | 5=>5 | 80=>155 | n=>n,fun | n=>n⟩
theorem Tryz.lays156:Go.Proofs.Lays.n156 Tryz.prog Tryz.lays156_ren:={
 mixed:=by kernel_rfl
 f156:=Tryz.func83.trans (congrArg some (by kernel_rfl))
 f165:=Tryz.func175.trans (congrArg some (by kernel_rfl))
 f166:=Tryz.func91.trans (congrArg some (by kernel_rfl))
 f169:=Tryz.func93.trans (congrArg some (by kernel_rfl))
 f240:=Tryz.func181.trans (congrArg some (by kernel_rfl))
 f241:=Tryz.func217.trans (congrArg some (by kernel_rfl))
 f276:=Tryz.func221.trans (congrArg some (by kernel_rfl))
 f277:=Tryz.func259.trans (congrArg some (by kernel_rfl))
 t0:=Tryz.underlying0
 a0:=Tryz.isAgg0
 z0:=Tryz.sizeOf0
 v0:=Tryz.zeroValue0
 t3:=Tryz.underlying3
 a3:=Tryz.isAgg3
 z3:=Tryz.sizeOf3
 v3:=Tryz.zeroValue3
 t4:=Tryz.underlying4
 a4:=Tryz.isAgg4
 z4:=Tryz.sizeOf4
 v4:=Tryz.zeroValue4
 t9:=Tryz.underlying9
 a9:=Tryz.isAgg9
 z9:=Tryz.sizeOf9
 v9:=Tryz.zeroValue9
 t20:=Tryz.underlying20
 a20:=Tryz.isAgg20
 z20:=Tryz.sizeOf20
 v20:=Tryz.zeroValue20
 t31:=Tryz.underlying131
 a31:=Tryz.isAgg131
 z31:=Tryz.sizeOf131
 v31:=Tryz.zeroValue131
 t37:=Tryz.underlying57
 a37:=Tryz.isAgg57
 z37:=Tryz.sizeOf57
 v37:=Tryz.zeroValue57
 t70:=Tryz.underlying142
 a70:=Tryz.isAgg142
 z70:=Tryz.sizeOf142
 v70:=Tryz.zeroValue142
 t72:=Tryz.underlying144
 a72:=Tryz.isAgg144
 z72:=Tryz.sizeOf144
 v72:=Tryz.zeroValue144
 t75:=Tryz.underlying149
 a75:=Tryz.isAgg149
 z75:=Tryz.sizeOf149
 v75:=Tryz.zeroValue149
 t76:=Tryz.underlying152
 a76:=Tryz.isAgg152
 z76:=Tryz.sizeOf152
 v76:=Tryz.zeroValue152
 t127:=Tryz.underlying250
 a127:=Tryz.isAgg250
 z127:=Tryz.sizeOf250
 v127:=Tryz.zeroValue250
 t164:=Tryz.underlying283
 a164:=Tryz.isAgg283
 z164:=Tryz.sizeOf283
 v164:=Tryz.zeroValue283 }
theorem Tryz.Builder_Extra_156:Builder.Extra Tryz.prog Tryz.lays156_ren:={
 sizeBuilder:=by kernel_rfl
 liesBuilder:=by kernel_rfl
 t5:=Tryz.underlying5
 a5:=Tryz.isAgg5
 z5:=Tryz.sizeOf5
 v5:=Tryz.zeroValue5
 infoByte:=by kernel_rfl
 cellsByte:=by kernel_rfl
 sizeByte:=by kernel_rfl
 neB5:=by decide }
open Go.RowKit in
theorem Tryz.strings_Join (bk o c:Nat) (xs:List ByteArray) (sep:ByteArray) (w:World) (hcells:∀ (j:Nat) x,xs[j]? = some x→w.cell? ⟨bk,o + j,none⟩ = some (.string x)) (hbk:bk < w.heap.size) (hN:xs.length ≤ 140737488355328) (hcap:xs.length ≤ c) (hlen:(Lib.join (xs.map (·.data.toList)) sep.data.toList).length ≤ 140737488355328) :
 Calls Tryz.prog 83 #[.slice (some ⟨bk,o,none⟩) xs.length c, .string sep] w fun e w'=>e = .returned (.string ⟨(Lib.join (xs.map (·.data.toList)) sep.data.toList).toArray⟩)∧Below w.heap.size w w':=Any.strings_Join Tryz.lays156 Tryz.Builder_Extra_156 bk o c xs sep w hcells hbk hN hcap hlen
open Go.RowKit in
theorem Tryz.Builder_String_any_k (B b:Nat) (l:List UInt8) (w:World) (h:Lib.IsBuilderF 144 5 B b (Lib.byteCells l) w) (hBw:B ≤ w.heap.size) :
 Calls Tryz.prog 93 #[.pointer (some ⟨b,0,none⟩)] w fun e w'=>e = .returned (.string ⟨l.toArray⟩)∧(Lib.IsBuilderF 144 5 B b (Lib.byteCells l) w'∧Below B w w'∧Lib.OthersKept 5 (some b) w w'):=Any.Builder_String_any_k Tryz.lays169 Tryz.Builder_Extra_169 B b l w h hBw
def Tryz.laysM171_ren:Go.Shelf.Ren:=⟨fun | 171=>90 | 243=>182 | 246=>222 | 283=>264 | 284=>265 | 285=>266 | 286=>267 | 129=>238 | 317=>292 | 318=>293 | 319=>294 | 320=>295 | 337=>305 | 338=>306 | n=>n,fun | 3=>3 | 9=>9 | 2=>2 | 4=>4 | 171=>315 | 0=>0 | 53=>278 | 37=>57 | 5=>5 | 173=>317 | 212=>336 | 51=>201 | 20=>20 | 213=>337 | 46=>240 | 232=>358 | 233=>359 | n=>n,fun | 17=>1 | 18=>6 | 19=>7 | n=>n⟩
theorem Tryz.laysM171:Go.Proofs.LaysM.n171 Tryz.prog Tryz.laysM171_ren:={
 mixed:=by kernel_rfl
 f129:=Tryz.func238.trans (congrArg some (by kernel_rfl))
 f171:=Tryz.func90.trans (congrArg some (by kernel_rfl))
 f243:=Tryz.func182.trans (congrArg some (by kernel_rfl))
 f246:=Tryz.func222.trans (congrArg some (by kernel_rfl))
 f283:=Tryz.func264.trans (congrArg some (by kernel_rfl))
 f284:=Tryz.func265.trans (congrArg some (by kernel_rfl))
 f285:=Tryz.func266.trans (congrArg some (by kernel_rfl))
 f286:=Tryz.func267.trans (congrArg some (by kernel_rfl))
 f317:=Tryz.func292.trans (congrArg some (by kernel_rfl))
 f318:=Tryz.func293.trans (congrArg some (by kernel_rfl))
 f319:=Tryz.func294.trans (congrArg some (by kernel_rfl))
 f320:=Tryz.func295.trans (congrArg some (by kernel_rfl))
 f337:=Tryz.func305.trans (congrArg some (by kernel_rfl))
 f338:=Tryz.func306.trans (congrArg some (by kernel_rfl))
 t0:=Tryz.underlying0
 a0:=Tryz.isAgg0
 z0:=Tryz.sizeOf0
 v0:=Tryz.zeroValue0
 t2:=Tryz.underlying2
 a2:=Tryz.isAgg2
 z2:=Tryz.sizeOf2
 v2:=Tryz.zeroValue2
 t3:=Tryz.underlying3
 a3:=Tryz.isAgg3
 z3:=Tryz.sizeOf3
 v3:=Tryz.zeroValue3
 t4:=Tryz.underlying4
 a4:=Tryz.isAgg4
 z4:=Tryz.sizeOf4
 v4:=Tryz.zeroValue4
 t5:=Tryz.underlying5
 a5:=Tryz.isAgg5
 z5:=Tryz.sizeOf5
 v5:=Tryz.zeroValue5
 t9:=Tryz.underlying9
 a9:=Tryz.isAgg9
 z9:=Tryz.sizeOf9
 v9:=Tryz.zeroValue9
 t20:=Tryz.underlying20
 a20:=Tryz.isAgg20
 z20:=Tryz.sizeOf20
 v20:=Tryz.zeroValue20
 t37:=Tryz.underlying57
 a37:=Tryz.isAgg57
 z37:=Tryz.sizeOf57
 v37:=Tryz.zeroValue57
 t46:=Tryz.underlying240
 a46:=Tryz.isAgg240
 z46:=Tryz.sizeOf240
 v46:=Tryz.zeroValue240
 t51:=Tryz.underlying201
 a51:=Tryz.isAgg201
 z51:=Tryz.sizeOf201
 v51:=Tryz.zeroValue201
 t53:=Tryz.underlying278
 a53:=Tryz.isAgg278
 z53:=Tryz.sizeOf278
 v53:=Tryz.zeroValue278
 t171:=Tryz.underlying315
 a171:=Tryz.isAgg315
 z171:=Tryz.sizeOf315
 v171:=Tryz.zeroValue315
 t173:=Tryz.underlying317
 a173:=Tryz.isAgg317
 z173:=Tryz.sizeOf317
 v173:=Tryz.zeroValue317
 t212:=Tryz.underlying336
 a212:=Tryz.isAgg336
 z212:=Tryz.sizeOf336
 v212:=Tryz.zeroValue336
 t213:=Tryz.underlying337
 a213:=Tryz.isAgg337
 z213:=Tryz.sizeOf337
 t232:=Tryz.underlying358
 a232:=Tryz.isAgg358
 z232:=Tryz.sizeOf358
 v232:=Tryz.zeroValue358
 t233:=Tryz.underlying359
 a233:=Tryz.isAgg359
 z233:=Tryz.sizeOf359
 v233:=Tryz.zeroValue359
 g17:=by kernel_rfl
 g18:=by kernel_rfl
 g19:=by kernel_rfl
 i0:=by kernel_rfl
 i2:=by kernel_rfl
 i3:=by kernel_rfl
 i4:=by kernel_rfl
 i5:=by kernel_rfl
 i9:=by kernel_rfl
 i20:=by kernel_rfl
 i37:=by kernel_rfl
 i46:=by kernel_rfl
 i51:=by kernel_rfl
 i53:=by kernel_rfl
 i171:=by kernel_rfl
 i173:=by kernel_rfl
 i212:=by kernel_rfl
 i232:=by kernel_rfl
 i233:=by kernel_rfl
 m17:=by kernel_rfl
 m18:=by kernel_rfl
 m19:=by kernel_rfl }
open Go.RowKit Go.Sort Go.Lib in
theorem Tryz.strconv_Itoa (n : Int) (h0 : -9223372036854775808 ≤ n) (h1 : n ≤ 9223372036854775807) (w : World) (htab : Lib.TabIs Tryz.prog w "internal/strconv.uint64pow10" .u64 Lib.pow10Tab) :
 Calls Tryz.prog 90 #[.int .i64 n] w fun e w'=>e = .returned (.string ⟨(Lib.itoa n).toArray⟩)∧∃ k os,w' = grow (w.drewN k) os:=Any.strconv_Itoa Tryz.laysM171 n h0 h1 w htab
def Tryz.laysC172_ren:Go.Shelf.Ren:=⟨fun | 172=>190 | 244=>226 | 245=>227 | 247=>270 | 279=>271 | 280=>272 | 281=>273 | 282=>274 | 287=>296 | 316=>297 | 171=>90 | 205=>298 | 321=>307 | 322=>308 | 243=>182 | 246=>222 | 283=>264 | 284=>265 | 285=>266 | 286=>267 | 129=>238 | 317=>292 | 318=>293 | 319=>294 | 320=>295 | 337=>305 | 338=>306 | n=>n,fun | 9=>9 | 3=>3 | 75=>149 | 76=>152 | 4=>4 | 5=>5 | 167=>319 | 37=>57 | 0=>0 | 85=>320 | 2=>2 | 168=>322 | 53=>278 | 175=>338 | 46=>240 | 210=>342 | 127=>250 | 145=>357 | 143=>355 | 21=>21 | 171=>315 | 173=>317 | 212=>336 | 51=>201 | 20=>20 | 213=>337 | 232=>358 | 233=>359 | 80=>155 | n=>n,fun | 15=>2 | 16=>3 | 17=>1 | 18=>6 | 19=>7 | n=>n⟩
theorem Tryz.laysC172:Go.Proofs.LaysC.n172 Tryz.prog Tryz.laysC172_ren:={
 mixed:=by kernel_rfl
 f129:=Tryz.func238.trans (congrArg some (by kernel_rfl))
 f171:=Tryz.func90.trans (congrArg some (by kernel_rfl))
 f172:=Tryz.func190.trans (congrArg some (by kernel_rfl))
 f205:=Tryz.func298.trans (congrArg some (by kernel_rfl))
 f243:=Tryz.func182.trans (congrArg some (by kernel_rfl))
 f244:=Tryz.func226.trans (congrArg some (by kernel_rfl))
 f245:=Tryz.func227.trans (congrArg some (by kernel_rfl))
 f246:=Tryz.func222.trans (congrArg some (by kernel_rfl))
 f247:=Tryz.func270.trans (congrArg some (by kernel_rfl))
 f279:=Tryz.func271.trans (congrArg some (by kernel_rfl))
 f280:=Tryz.func272.trans (congrArg some (by kernel_rfl))
 f281:=Tryz.func273.trans (congrArg some (by kernel_rfl))
 f282:=Tryz.func274.trans (congrArg some (by kernel_rfl))
 f283:=Tryz.func264.trans (congrArg some (by kernel_rfl))
 f284:=Tryz.func265.trans (congrArg some (by kernel_rfl))
 f285:=Tryz.func266.trans (congrArg some (by kernel_rfl))
 f286:=Tryz.func267.trans (congrArg some (by kernel_rfl))
 f287:=Tryz.func296.trans (congrArg some (by kernel_rfl))
 f316:=Tryz.func297.trans (congrArg some (by kernel_rfl))
 f317:=Tryz.func292.trans (congrArg some (by kernel_rfl))
 f318:=Tryz.func293.trans (congrArg some (by kernel_rfl))
 f319:=Tryz.func294.trans (congrArg some (by kernel_rfl))
 f320:=Tryz.func295.trans (congrArg some (by kernel_rfl))
 f321:=Tryz.func307.trans (congrArg some (by kernel_rfl))
 f322:=Tryz.func308.trans (congrArg some (by kernel_rfl))
 f337:=Tryz.func305.trans (congrArg some (by kernel_rfl))
 f338:=Tryz.func306.trans (congrArg some (by kernel_rfl))
 t0:=Tryz.underlying0
 a0:=Tryz.isAgg0
 z0:=Tryz.sizeOf0
 v0:=Tryz.zeroValue0
 t2:=Tryz.underlying2
 a2:=Tryz.isAgg2
 z2:=Tryz.sizeOf2
 v2:=Tryz.zeroValue2
 t3:=Tryz.underlying3
 a3:=Tryz.isAgg3
 z3:=Tryz.sizeOf3
 v3:=Tryz.zeroValue3
 t4:=Tryz.underlying4
 a4:=Tryz.isAgg4
 z4:=Tryz.sizeOf4
 v4:=Tryz.zeroValue4
 t5:=Tryz.underlying5
 a5:=Tryz.isAgg5
 z5:=Tryz.sizeOf5
 v5:=Tryz.zeroValue5
 t9:=Tryz.underlying9
 a9:=Tryz.isAgg9
 z9:=Tryz.sizeOf9
 v9:=Tryz.zeroValue9
 t20:=Tryz.underlying20
 a20:=Tryz.isAgg20
 z20:=Tryz.sizeOf20
 v20:=Tryz.zeroValue20
 t21:=Tryz.underlying21
 a21:=Tryz.isAgg21
 z21:=Tryz.sizeOf21
 v21:=Tryz.zeroValue21
 t37:=Tryz.underlying57
 a37:=Tryz.isAgg57
 z37:=Tryz.sizeOf57
 v37:=Tryz.zeroValue57
 t46:=Tryz.underlying240
 a46:=Tryz.isAgg240
 z46:=Tryz.sizeOf240
 v46:=Tryz.zeroValue240
 t51:=Tryz.underlying201
 a51:=Tryz.isAgg201
 z51:=Tryz.sizeOf201
 v51:=Tryz.zeroValue201
 t53:=Tryz.underlying278
 a53:=Tryz.isAgg278
 z53:=Tryz.sizeOf278
 v53:=Tryz.zeroValue278
 t75:=Tryz.underlying149
 a75:=Tryz.isAgg149
 z75:=Tryz.sizeOf149
 v75:=Tryz.zeroValue149
 t76:=Tryz.underlying152
 a76:=Tryz.isAgg152
 z76:=Tryz.sizeOf152
 v76:=Tryz.zeroValue152
 t85:=Tryz.underlying320
 a85:=Tryz.isAgg320
 z85:=Tryz.sizeOf320
 v85:=Tryz.zeroValue320
 t127:=Tryz.underlying250
 a127:=Tryz.isAgg250
 z127:=Tryz.sizeOf250
 v127:=Tryz.zeroValue250
 t143:=Tryz.underlying355
 a143:=Tryz.isAgg355
 z143:=Tryz.sizeOf355
 v143:=Tryz.zeroValue355
 t145:=Tryz.underlying357
 a145:=Tryz.isAgg357
 z145:=Tryz.sizeOf357
 v145:=Tryz.zeroValue357
 t167:=Tryz.underlying319
 a167:=Tryz.isAgg319
 z167:=Tryz.sizeOf319
 v167:=Tryz.zeroValue319
 t168:=Tryz.underlying322
 a168:=Tryz.isAgg322
 z168:=Tryz.sizeOf322
 v168:=Tryz.zeroValue322
 t171:=Tryz.underlying315
 a171:=Tryz.isAgg315
 z171:=Tryz.sizeOf315
 v171:=Tryz.zeroValue315
 t173:=Tryz.underlying317
 a173:=Tryz.isAgg317
 z173:=Tryz.sizeOf317
 v173:=Tryz.zeroValue317
 t175:=Tryz.underlying338
 a175:=Tryz.isAgg338
 z175:=Tryz.sizeOf338
 v175:=Tryz.zeroValue338
 t210:=Tryz.underlying342
 a210:=Tryz.isAgg342
 z210:=Tryz.sizeOf342
 v210:=Tryz.zeroValue342
 t212:=Tryz.underlying336
 a212:=Tryz.isAgg336
 z212:=Tryz.sizeOf336
 v212:=Tryz.zeroValue336
 t213:=Tryz.underlying337
 a213:=Tryz.isAgg337
 z213:=Tryz.sizeOf337
 t232:=Tryz.underlying358
 a232:=Tryz.isAgg358
 z232:=Tryz.sizeOf358
 v232:=Tryz.zeroValue358
 t233:=Tryz.underlying359
 a233:=Tryz.isAgg359
 z233:=Tryz.sizeOf359
 v233:=Tryz.zeroValue359
 g15:=by kernel_rfl
 g16:=by kernel_rfl
 g17:=by kernel_rfl
 g18:=by kernel_rfl
 g19:=by kernel_rfl
 t80:=Tryz.underlying155
 a80:=Tryz.isAgg155
 z80:=Tryz.sizeOf155
 v80:=Tryz.zeroValue155
 i0:=by kernel_rfl
 i2:=by kernel_rfl
 i3:=by kernel_rfl
 i4:=by kernel_rfl
 i5:=by kernel_rfl
 i9:=by kernel_rfl
 i20:=by kernel_rfl
 i21:=by kernel_rfl
 i37:=by kernel_rfl
 i46:=by kernel_rfl
 i51:=by kernel_rfl
 i53:=by kernel_rfl
 i75:=by kernel_rfl
 i76:=by kernel_rfl
 i80:=by kernel_rfl
 i85:=by kernel_rfl
 i127:=by kernel_rfl
 i143:=by kernel_rfl
 i145:=by kernel_rfl
 i167:=by kernel_rfl
 i168:=by kernel_rfl
 i171:=by kernel_rfl
 i173:=by kernel_rfl
 i175:=by kernel_rfl
 i210:=by kernel_rfl
 i212:=by kernel_rfl
 i232:=by kernel_rfl
 i233:=by kernel_rfl
 m15:=by kernel_rfl
 m16:=by kernel_rfl
 m17:=by kernel_rfl
 m18:=by kernel_rfl
 m19:=by kernel_rfl
 c0:=by kernel_rfl
 c2:=by kernel_rfl
 c3:=by kernel_rfl
 c4:=by kernel_rfl
 c5:=by kernel_rfl
 c9:=by kernel_rfl
 c20:=by kernel_rfl
 c21:=by kernel_rfl
 c37:=by kernel_rfl
 c46:=by kernel_rfl
 c51:=by kernel_rfl
 c53:=by kernel_rfl
 c75:=by kernel_rfl
 c76:=by kernel_rfl
 c80:=by kernel_rfl
 c85:=by kernel_rfl
 c127:=by kernel_rfl
 c143:=by kernel_rfl
 c145:=by kernel_rfl
 c167:=by kernel_rfl
 c168:=by kernel_rfl
 c171:=by kernel_rfl
 c173:=by kernel_rfl
 c175:=by kernel_rfl
 c210:=by kernel_rfl
 c212:=by kernel_rfl
 c213:=by kernel_rfl
 c232:=by kernel_rfl
 c233:=by kernel_rfl }
open Go.RowKit in
theorem Tryz.strconv_Atoi_ok (s:ByteArray) (hmax:s.size ≤ 9223372036854775806) (v:Int) (h:Lib.atoiAll s.data.toList = .ok v) (w:World) :
 Calls Tryz.prog 190 #[.string s] w fun e w'=>e = .returned (.tuple #[.int .i64 v, .nilIface])∧(w' = w ∨ ∃ t,w' = Lib.bytesWorld w 5 t):=Any.strconv_Atoi_ok Tryz.laysC172 s hmax v h w
def Tryz.laysNm215_ren:Go.Shelf.Ren:=⟨fun | 15=>127 | n=>n,fun | 22=>66 | 3=>3 | 4=>4 | n=>n,fun | n=>n⟩
theorem Tryz.laysNm215:Go.Proofs.Lays2.n15 Tryz.prog Tryz.laysNm215_ren:={
 mixed:=by kernel_rfl
 f15:=Tryz.func127.trans (congrArg some (by kernel_rfl))
 t3:=Tryz.underlying3
 a3:=Tryz.isAgg3
 z3:=Tryz.sizeOf3
 v3:=Tryz.zeroValue3
 t4:=Tryz.underlying4
 a4:=Tryz.isAgg4
 z4:=Tryz.sizeOf4
 v4:=Tryz.zeroValue4
 t22:=Tryz.underlying66
 a22:=Tryz.isAgg66
 z22:=Tryz.sizeOf66
 v22:=Tryz.zeroValue66
 i3:=by kernel_rfl }
open Go.RowKit Go.Lib in
theorem Tryz.slices_Clone_int (b off n c:Nat) (zs:List Int) (w:World) (hz:n ≤ zs.length) (hbig:n * 8 ≤ 140737488355328) (hc:∀ j,j < zs.length→w.cell? ⟨b,off + j,none⟩ = some (.int .i64 (zs.getD j 0))) :
 Calls Tryz.prog 127 #[.slice (some ⟨b,off,none⟩) n c] w fun e w'=>∃ v',e = .returned v'∧w'.ownsRow w.heap.size 3 1 v' n ((zs.take n).map (Value.int .i64))∧v' ≠ .slice none 0 0∧Below w.heap.size w w':=Any.slices_Clone_int Tryz.laysNm215 b off n c zs w hz hbig hc
open Go.RowKit Go.Lib in
theorem Tryz.slices_Clone_int_nil (n c:Nat) (w:World) :
 Calls Tryz.prog 127 #[.slice none n c] w fun e w'=>e = .returned (.slice none 0 0)∧w' = w:=Any.slices_Clone_int_nil Tryz.laysNm215 n c w
open Go.RowKit Go.Lib in
theorem Tryz.slices_Clone_int_zero (a:Addr) (c:Nat) (w:World) :
 Calls Tryz.prog 127 #[.slice (some a) 0 c] w fun e w'=>∃ v',e = .returned v'∧w'.ownsRow w.heap.size 3 1 v' 0 []∧v' ≠ .slice none 0 0∧Below w.heap.size w w':=Any.slices_Clone_int_zero Tryz.laysNm215 a c w
end Go.Proofs
namespace Go.Proofs.LF
def cmpB (a b:List UInt8):Int:=if Op.bytesLess a b then -1 else if Op.bytesLess b a then 1 else 0
def cmpI (a b:Int):Int:=if a < b then -1 else if b < a then 1 else 0
def byK (a b:Ky):Int:=if a.n ≠ b.n then cmpB a.n b.n else if a.h ≠ b.h then (if b.h then -1 else 1) else cmpI a.x b.x
def kyOf (n:List UInt8):List Int→Ky
 | []=>⟨n,false,0⟩
 | x :: _=>⟨n,true,x⟩
theorem kyOf_n (n:List UInt8) (l:List Int):(kyOf n l).n = n:=by cases l <;> rfl
def befK (a b:Ky):Bool:=if a.n ≠ b.n then Op.bytesLess a.n b.n else if a.h ≠ b.h then b.h else decide (a.x < b.x)
def offB (n most:Int):Bool:=decide (n < 0) || decide (most < n)
def badNs (l:List Int):Bool:=l.any fun x=>offB x 9999
def badNm (s:List UInt8):Bool:=s.any (fun c=>decide ((c.toNat:Int) < 97) || decide (122 < (c.toNat:Int))) || decide ((s.length:Int) < 1) || decide (8 < (s.length:Int))
def inB (n lo hi:Int):Bool:=decide (lo ≤ n) && decide (n ≤ hi)
theorem u8_eq_iff {a b:UInt8}:a = b ↔ a.toNat = b.toNat:=⟨fun h=>by rw [h],fun h=>UInt8.toNat_inj.1 h⟩
theorem bl_irrefl:∀ (a:List UInt8),Op.bytesLess a a = false
 | []=>rfl
 | a :: x=>by simp [Op.bytesLess,bl_irrefl x]
theorem bl_total:∀ {a b:List UInt8},Op.bytesLess a b = false→Op.bytesLess b a = false→a = b
 | [],[],_,_=>rfl
 | [],_ :: _,h,_=>by simp [Op.bytesLess] at h
 | _ :: _,[],_,h=>by simp [Op.bytesLess] at h
 | a :: x,b :: y,h,k=>by
   simp only [Op.bytesLess,Bool.or_eq_false_iff,decide_eq_false_iff_not,Bool.and_eq_false_iff,beq_eq_false_iff_ne,ne_eq] at h k
   have e:a = b:=by
    have h1:=h.1;have h2:=k.1
    rw [UInt8.lt_iff_toNat_lt] at h1 h2
    rw [u8_eq_iff];omega
   subst e
   rw [bl_total (h.2.resolve_left (by simp)) (k.2.resolve_left (by simp))]
theorem bl_of_ne {a b:List UInt8} (h:Op.bytesLess a b = false) (hn:a ≠ b):Op.bytesLess b a = true:=by
 cases hb:Op.bytesLess b a with
 | true=>rfl
 | false=>exact absurd (bl_total h hb) hn
def idxN (p:Nat→Bool) (n:Nat):Int:=match (List.range n).find? p with | some i=>(i:Int) | none => -1
def anyN (p:Nat→Bool) (n:Nat):Bool:=(List.range n).any p
theorem idxN_found {p:Nat→Bool} {n k:Nat} (h:∀ i,i < k→p i = false) (hk:k < n) (hp:p k = true):idxN p n = k:=by
 have:(List.range n).find? p = some k:=by
  rw [List.find?_range_eq_some]
  exact ⟨hp,by simpa using hk,fun j hj=>by simp [h j hj]⟩
 simp [idxN,this]
theorem idxN_none {p:Nat→Bool} {n:Nat} (h:∀ i,i < n→p i = false):idxN p n = -1:=by
 have:(List.range n).find? p = none:=by
  rw [List.find?_eq_none]
  intro x hx
  simp [h x (by simpa using hx)]
 simp [idxN,this]
theorem idxN_any (p:Nat→Bool) (n:Nat):decide (0 ≤ idxN p n) = anyN p n:=by
 unfold idxN anyN
 cases h:(List.range n).find? p with
 | none=>
   rw [List.find?_eq_none] at h
   symm;simp
   intro x hx
   have:=h x (by simpa using hx)
   simpa using this
 | some k=>
   have:=List.find?_some h
   have hm:=List.mem_of_find?_eq_some h
   simp
   exact ⟨k,by simpa using hm,this⟩
theorem anyN_list {α:Type} (q:α→Bool) (p:Nat→Bool) (l:List α) (h:∀ i (hi:i < l.length),p i = q l[i]):anyN p l.length = l.any q:=by
 rw [Bool.eq_iff_iff]
 simp only [anyN,List.any_eq_true,List.mem_range]
 constructor
 · rintro ⟨i,hi,hp⟩
   exact ⟨l[i],by simp,by rw [← h i hi];exact hp⟩
 · rintro ⟨x,hx,hq⟩
   obtain ⟨i,hi,rfl⟩:=List.getElem_of_mem hx
   exact ⟨i,hi,by rw [h i hi];exact hq⟩
def ordG (bad:Ky→Ky→Bool):Int→Option Ky→Fo→Int
 | _,_, .nil=>0
 | d,p, .cons n l s r=>
   if 3 < d then 10 else if badNm n then 11 else if 4 < (l.length:Int) then 2 else if badNs l then 3
   else if (match p with | none=>false | some q=>bad q (kyOf n l)) then 4
   else if ordG bad (d + 1) none s ≠ 0 then ordG bad (d + 1) none s else ordG bad d (some (kyOf n l)) r
def geK (a b:Ky):Bool:=decide (0 ≤ byK a b)
def nbefK (a b:Ky):Bool:=!befK a b
def ordF:Int→Fo→Int:=fun d y=>ordG geK d none y
def chkF:Int→Fo→Int:=fun d y=>ordG nbefK d none y
def cntG:Int→Int→Fo→Int
 | _,n, .nil=>n
 | d,n, .cons nm l s r=>if 8 < d ∨ 80 < n ∨ 8 < (l.length:Int) ∨ 20 < (nm.length:Int) then 1000 else cntG d (n + (1 + cntG (d + 1) 0 s)) r
def manyG (most:Int):Int→Fo→Int
 | n, .nil=>n
 | n, .cons _ _ s r=>if n ≤ most then manyG most (n + 1 + min (manyG (most - n) 0 s) (most - n + 1)) r else n
def many (y:Fo) (most:Int):Int:=min (manyG most 0 y) (most + 1)
theorem cntG_bound:∀ (y:Fo) (d n:Int),0 ≤ d→d ≤ 9→0 ≤ n→n ≤ 3000→0 ≤ cntG d n y∧(cntG d n y ≤ n ∨ cntG d n y ≤ 1000 + 81 * (9 - d)):=by
 intro y
 induction y with
 | nil=>intro d n _ _ _ _;simp only [cntG];omega
 | cons nm l s r ihs ihr=>
   intro d n h0 h9 hn hn'
   simp only [cntG]
   split
   · omega
   · have h1:=ihs (d + 1) 0 (by omega) (by omega) (by omega) (by omega)
     have h2:=ihr d (n + (1 + cntG (d + 1) 0 s)) h0 h9 (by omega) (by omega)
     omega
theorem cntG_sub (s:Fo) (d:Int) (h0:0 ≤ d) (h8:d ≤ 8):0 ≤ cntG (d + 1) 0 s∧cntG (d + 1) 0 s ≤ 2000:=by
 have:=cntG_bound s (d + 1) 0 (by omega) (by omega) (by omega) (by omega)
 omega
theorem manyG_bound:∀ (y:Fo) (most n:Int),0 ≤ most→0 ≤ n→n ≤ most + 2→0 ≤ manyG most n y∧manyG most n y ≤ most + 2:=by
 intro y
 induction y with
 | nil=>intro most n _ _ _;simp only [manyG];omega
 | cons nm l s r ihs ihr=>
   intro most n h0 hn hn'
   simp only [manyG]
   split
   · have h1:=ihs (most - n) 0 (by omega) (by omega) (by omega)
     exact ihr most _ h0 (by omega) (by omega)
   · omega
theorem many_bound (y:Fo) (most:Int) (h:0 ≤ most):0 ≤ many y most∧many y most ≤ most + 1:=by
 have:=manyG_bound y most 0 h (by omega) (by omega)
 unfold many;omega
structure NdD where
 up:List Ky
 n:List UInt8
 l:List Int
 s:Fo
def nodesL:List Ky→Fo→List NdD
 | _, .nil=>[]
 | up, .cons n l s r=>⟨up,n,l,s⟩ :: (nodesL (up ++ [kyOf n l]) s ++ nodesL up r)
theorem nodesL_app (up:List Ky):∀ (y z:Fo),nodesL up (y.app z) = nodesL up y ++ nodesL up z
 | .nil,_=>rfl
 | .cons n l s r,z=>by simp only [Fo.app,nodesL,nodesL_app up r z];simp
theorem nodesL_take {up:List Ky} {k:Nat} {y r s:Fo} {n:List UInt8} {l:List Int} (h:y.drop k = .cons n l s r):nodesL up (y.take (k + 1)) = nodesL up (y.take k) ++ (⟨up,n,l,s⟩ :: nodesL (up ++ [kyOf n l]) s):=by
 rw [Fo.take_succ h,nodesL_app];simp [nodesL]
theorem nodesL_pre {up:List Ky}:∀ {k:Nat} {y:Fo},nodesL up (y.take k) <+: nodesL up y
 | 0,_=>by simp [Fo.take,nodesL]
 | _ + 1, .nil=>by simp [Fo.take]
 | k + 1, .cons n l s r=>by
   obtain ⟨t,ht⟩:=nodesL_pre (up:=up) (k:=k) (y:=r)
   exact ⟨t,by simp only [Fo.take,nodesL,← ht];simp⟩
theorem nodesL_length (up:List Ky):∀ (y:Fo),(nodesL up y).length = y.cnt
 | .nil=>rfl
 | .cons n l s r=>by simp only [nodesL,Fo.cnt,List.length_cons,List.length_append,nodesL_length _ s,nodesL_length up r];omega
end Go.Proofs.LF
namespace Go.Proofs.LF
open Go.RowKit
variable {P:Program} (w:World)
theorem owns_shape {w:World} {base e k n:Nat} {v:Value} {xs:List Value} (h:w.ownsRow base e k v n xs):∃ a c,v = .slice a n c∧n ≤ c∧c ≤ maxLen:=(SlC.of_owns h).shape
theorem run_append_ao (t ty:TypeId) (base:Nat) (e:TypeId) (i:TypeInfo) (z:Value) (size bytes:Nat) (ht:P.underlying t = some (.slice e)) (hi:P.info? e = some i) (hz:i.zero = some z)
 (hsize:i.size = size) (hby:i.bytes = bytes) (hzs:z.cells.size = size) (hsz:0 < size)
 (v:Value) (n:Nat) (xs:List Value) (hown:w.ownsRow base e size v n xs)
 (ao:Option Addr) (m c:Nat) (news:List Value) (hl:news.length = m * size) (hnone:ao = none→m = 0∧c = 0) (hnews:∀ ad,ao = some ad→∀ (j:Nat) (u:Value),news[j]? = some u→w.cell? (ad.add j) = some u) (h1:∀ u ∈ news,u.oneCell' = true)
 (h63:n + m ≤ maxLen) (hbytes:(n + m) * bytes ≤ 140737488355328) (hbase:base ≤ w.heap.size) :
 ∃ a' c' w',(Builtin.append_ #[t,t] ty #[v, .slice ao m c]).run P w = .ok (.slice a' (n + m) c') w' ∧
  w'.ownsRow base e size (.slice a' (n + m) c') (n + m) (xs ++ news)∧w.grownBy w' v.ownBlock∧(∀ g,(Value.slice a' (n + m) c').ownBlock = some g→v.ownBlock = some g ∨ g = w.heap.size):=by
 cases ao with
 | some ad=>
   obtain ⟨v',w',hr,h2,h3,_,h5⟩:=run_append_own_at (P:=P) w base t ty e i z size bytes ht hi hz hsize hby hzs hsz v n xs hown ad m c news hl (hnews ad rfl) h1 h63 hbytes hbase
   obtain ⟨a',c',rfl,_,_⟩:=owns_shape h2
   refine ⟨a',c',w',hr,h2,h3,fun g hg=>?_⟩
   rcases h5 with h5 | h5
   · exact .inl (by rw [← h5];exact hg)
   · exact .inr (by rw [hg] at h5;exact Option.some.inj h5)
 | none=>
   obtain ⟨rfl,rfl⟩:=hnone rfl
   have hn:news = []:=List.eq_nil_of_length_eq_zero (by simpa using hl)
   subst hn
   have hrun:=run_append_owned_none (P:=P) w base t ty e i size ht hi v n xs hown
   obtain ⟨a',c',rfl,_,_⟩:=owns_shape hown
   exact ⟨a',c',w,hrun,by simpa using hown,World.grownBy.refl _ _,fun g hg => .inl hg⟩
theorem wp_append_ao {o:Oper} {a:Act} {K:Act→World→Prop} {Q:Exit→Act→World→Prop} (s x:Operand) (t:TypeId)
 (ho:o.op = .call { callee := .builtin .append,args:=#[s,x],argTypes:=#[t,t] })
 (base:Nat) (e:TypeId) (i:TypeInfo) (z:Value) (size bytes:Nat) (ht:P.underlying t = some (.slice e)) (hi:P.info? e = some i) (hz:i.zero = some z)
 (hsize:i.size = size) (hby:i.bytes = bytes) (hzs:z.cells.size = size) (hsz:0 < size)
 (v:Value) (n:Nat) (xs:List Value) (hs:a.eval s = v) (hown:w.ownsRow base e size v n xs)
 (ao:Option Addr) (m c:Nat) (news:List Value) (hx:a.eval x = .slice ao m c) (hl:news.length = m * size) (hnone:ao = none→m = 0∧c = 0) (hnews:∀ ad,ao = some ad→∀ (j:Nat) (u:Value),news[j]? = some u→w.cell? (ad.add j) = some u) (h1:∀ u ∈ news,u.oneCell' = true)
 (h63:n + m ≤ maxLen) (hbytes:(n + m) * bytes ≤ 140737488355328) (hbase:base ≤ w.heap.size)
 (h:∀ a' c' w',w'.ownsRow base e size (.slice a' (n + m) c') (n + m) (xs ++ news)→w.grownBy w' v.ownBlock→(∀ g,(Value.slice a' (n + m) c').ownBlock = some g→v.ownBlock = some g ∨ g = w.heap.size)→K (a.put o.dst (.slice a' (n + m) c')) w'):o.wp P a w K Q:=by
 obtain ⟨a',c',w',hr,h2,h3,h4⟩:=run_append_ao (P:=P) w t o.type base e i z size bytes ht hi hz hsize hby hzs hsz v n xs hown ao m c news hl hnone hnews h1 h63 hbytes hbase
 unfold Oper.wp execOp
 simp only [ho,resolve,invoke,builtin,Sem.run_bind,Sem.run_pure,Result.andThen_ok,List.map_toArray,List.map_cons,List.map_nil,hs,hx,hr]
 exact h a' c' w' h2 h3 h4
theorem wpList_append_ao {ops:Array Oper} {rest:List Oper} {o:Oper} {a:Act} {Q:Exit→Act→World→Prop} (hgd:o.guard = none) (s x:Operand) (t:TypeId)
 (ho:o.op = .call { callee := .builtin .append,args:=#[s,x],argTypes:=#[t,t] })
 (base:Nat) (e:TypeId) (i:TypeInfo) (z:Value) (size bytes:Nat) (ht:P.underlying t = some (.slice e)) (hi:P.info? e = some i) (hz:i.zero = some z)
 (hsize:i.size = size) (hby:i.bytes = bytes) (hzs:z.cells.size = size) (hsz:0 < size)
 (v:Value) (n:Nat) (xs:List Value) (hs:a.eval s = v) (hown:w.ownsRow base e size v n xs)
 (ao:Option Addr) (m c:Nat) (news:List Value) (hx:a.eval x = .slice ao m c) (hl:news.length = m * size) (hnone:ao = none→m = 0∧c = 0) (hnews:∀ ad,ao = some ad→∀ (j:Nat) (u:Value),news[j]? = some u→w.cell? (ad.add j) = some u) (h1:∀ u ∈ news,u.oneCell' = true)
 (h63:n + m ≤ maxLen) (hbytes:(n + m) * bytes ≤ 140737488355328) (hbase:base ≤ w.heap.size)
 (h:∀ a' c' w',w'.ownsRow base e size (.slice a' (n + m) c') (n + m) (xs ++ news)→w.grownBy w' v.ownBlock→(∀ g,(Value.slice a' (n + m) c').ownBlock = some g→v.ownBlock = some g ∨ g = w.heap.size)→wpList P ops Q rest (a.put o.dst (.slice a' (n + m) c')) w'):wpList P ops Q (o :: rest) a w:=
 wpList_plain hgd fun _ hK=>wp_append_ao w s x t ho base e i z size bytes ht hi hz hsize hby hzs hsz v n xs hs hown ao m c news hx hl hnone hnews h1 h63 hbytes hbase fun a' c' w' h2 h3 h4=>hK _ _ (h a' c' w' h2 h3 h4)
theorem step_append_ao {ops:Array Oper} {o:Oper} {a:Act} {K:Act→World→Prop} {Q:Exit→Act→World→Prop} {E:Prop} (hgd:o.guard = none) (s x:Operand) (t:TypeId)
 (ho:o.op = .call { callee := .builtin .append,args:=#[s,x],argTypes:=#[t,t] })
 (base:Nat) (e:TypeId) (i:TypeInfo) (z:Value) (size bytes:Nat) (ht:P.underlying t = some (.slice e)) (hi:P.info? e = some i) (hz:i.zero = some z)
 (hsize:i.size = size) (hby:i.bytes = bytes) (hzs:z.cells.size = size) (hsz:0 < size)
 (v:Value) (n:Nat) (xs:List Value) (hs:a.eval s = v) (hown:w.ownsRow base e size v n xs)
 (ao:Option Addr) (m c:Nat) (news:List Value) (hx:a.eval x = .slice ao m c) (hl:news.length = m * size) (hnone:ao = none→m = 0∧c = 0) (hnews:∀ ad,ao = some ad→∀ (j:Nat) (u:Value),news[j]? = some u→w.cell? (ad.add j) = some u) (h1:∀ u ∈ news,u.oneCell' = true)
 (h63:n + m ≤ maxLen) (hbytes:(n + m) * bytes ≤ 140737488355328) (hbase:base ≤ w.heap.size)
 (h:∀ a' c' w',w'.ownsRow base e size (.slice a' (n + m) c') (n + m) (xs ++ news)→w.grownBy w' v.ownBlock→(∀ g,(Value.slice a' (n + m) c').ownBlock = some g→v.ownBlock = some g ∨ g = w.heap.size)→K (a.put o.dst (.slice a' (n + m) c')) w') :
 if Region.wanted o (yielded ops a.tmps) = true then Oper.wp P o a w K Q else E:=by
 have hw:Region.wanted o (yielded ops a.tmps) = true:=by simp [Region.wanted,hgd]
 rw [if_pos hw]
 exact wp_append_ao w s x t ho base e i z size bytes ht hi hz hsize hby hzs hsz v n xs hs hown ao m c news hx hl hnone hnews h1 h63 hbytes hbase h
end Go.Proofs.LF
namespace Go.Proofs.LF
open Go.RowKit
def FOCs (E:TypeId):(Nat→Prop)→World→Fo→List Value→Prop
 | _,_, .nil,cs=>cs = []
 | S,w, .cons n l s r,cs=>∃ (vn vs:Value) (cs':List Value) (S1 S2 S3:Nat→Prop),cs = .string (bs n) :: vn :: vs :: cs' ∧
    (∀ b,S1 b ∨ S2 b ∨ S3 b→S b)∧(∀ b,S1 b→¬ S2 b)∧(∀ b,S1 b→¬ S3 b)∧(∀ b,S2 b→¬ S3 b)∧Ints S1 w vn l ∧
    (∃ ds,w.ownsRow 0 E 3 vs s.len ds∧(∀ g,vs.ownBlock = some g→S2 g)∧FOCs E (fun b=>S2 b∧vs.ownBlock ≠ some b) w s ds)∧FOCs E S3 w r cs'
def FOw (E:TypeId) (S:Nat→Prop) (w:World) (v:Value) (y:Fo):Prop:=
 ∃ ds,w.ownsRow 0 E 3 v y.len ds∧(∀ g,v.ownBlock = some g→S g)∧FOCs E (fun b=>S b∧v.ownBlock ≠ some b) w y ds
theorem owns_agree {w w':World} {base e k n:Nat} {v:Value} {xs:List Value} (h:w.ownsRow base e k v n xs) (ha:∀ g,v.ownBlock = some g→w'.heap[g]? = w.heap[g]?):w'.ownsRow base e k v n xs:=by
 refine ⟨h.1,?_⟩
 rcases h.2 with hn | ⟨g,cap,cur,rfl,hb,hgg,rest⟩
 · exact .inl hn
 · exact .inr ⟨g,cap,cur,rfl,hb,(ha g rfl).trans hgg,rest⟩
theorem owns_base {w:World} {base base' e k n:Nat} {v:Value} {xs:List Value} (h:w.ownsRow base e k v n xs) (hb:∀ g,v.ownBlock = some g→base' ≤ g):w.ownsRow base' e k v n xs:=by
 refine ⟨h.1,?_⟩
 rcases h.2 with hn | ⟨g,cap,cur,rfl,hb',hgg,rest⟩
 · exact .inl hn
 · exact .inr ⟨g,cap,cur,rfl,hb g rfl,hgg,rest⟩
theorem FOCs.agree {E:TypeId} {w w':World}:∀ {y:Fo} {S:Nat→Prop} {cs:List Value},FOCs E S w y cs→Agree S w w'→FOCs E S w' y cs
 | .nil,_,_,h,_=>h
 | .cons n l s r,S,cs,⟨vn,vs,cs',S1,S2,S3,h1,hs,d1,d2,d3,h2,⟨ds,h3,h4,h5⟩,h6⟩,ha=>
   ⟨vn,vs,cs',S1,S2,S3,h1,hs,d1,d2,d3,h2.agree (fun b hb=>ha b (hs b (.inl hb))),
     ⟨ds,owns_agree h3 (fun g hg=>ha g (hs g (.inr (.inl (h4 g hg))))),h4,h5.agree (fun b hb=>ha b (hs b (.inr (.inl hb.1))))⟩,h6.agree (fun b hb=>ha b (hs b (.inr (.inr hb))))⟩
theorem FOCs.wide {E:TypeId} {w:World}:∀ {y:Fo} {S S':Nat→Prop} {cs:List Value},FOCs E S w y cs→(∀ b,S b→S' b)→FOCs E S' w y cs
 | .nil,_,_,_,h,_=>h
 | .cons n l s r,S,S',cs,⟨vn,vs,cs',S1,S2,S3,h1,hs,d1,d2,d3,h2,h3,h6⟩,hw=>
   ⟨vn,vs,cs',S1,S2,S3,h1,fun b hb=>hw b (hs b hb),d1,d2,d3,h2,h3,h6⟩
theorem FOCs.app {E:TypeId} {w:World}:∀ {y z:Fo} {S S':Nat→Prop} {cs ds:List Value},FOCs E S w y cs→FOCs E S' w z ds→(∀ b,S b→¬ S' b)→FOCs E (fun b=>S b ∨ S' b) w (y.app z) (cs ++ ds)
 | .nil,z,_,_,_,_,h,h',_=>by rw [show _ = [] from h];exact h'.wide (fun b hb => .inr hb)
 | .cons n l s r,z,S,S',cs,ds,⟨vn,vs,cs',S1,S2,S3,h1,hs,d1,d2,d3,h2,h3,h6⟩,h',hd=>
   ⟨vn,vs,cs' ++ ds,S1,S2,fun b=>S3 b ∨ S' b,by rw [h1];rfl,fun b hb=>by
     rcases hb with hb | hb | hb | hb
     · exact .inl (hs b (.inl hb))
     · exact .inl (hs b (.inr (.inl hb)))
     · exact .inl (hs b (.inr (.inr hb)))
     · exact .inr hb,
     d1,fun b hb h=>h.elim (d2 b hb) (hd b (hs b (.inl hb))),fun b hb h=>h.elim (d3 b hb) (hd b (hs b (.inr (.inl hb)))),h2,h3,
     h6.app h' (fun b hb=>hd b (hs b (.inr (.inr hb))))⟩
theorem FOCs.fcs {E:TypeId} {w:World}:∀ {y:Fo} {S:Nat→Prop} {cs:List Value},FOCs E S w y cs→FCs S w y cs
 | .nil,_,_,h=>h
 | .cons n l s r,S,cs,⟨vn,vs,cs',S1,S2,S3,h1,hs,_,_,_,h2,⟨ds,h3,h4,h5⟩,h6⟩=>by
   refine ⟨vn,vs,cs',h1,h2.wide (fun b hb=>hs b (.inl hb)),⟨ds,?_,h5.fcs.wide (fun b hb=>hs b (.inr (.inl hb.1)))⟩,h6.fcs.wide (fun b hb=>hs b (.inr (.inr hb)))⟩
   exact owns_slc h3 (fun g hg=>hs g (.inr (.inl (h4 g hg))))
 where
 owns_slc {w:World} {base e k n:Nat} {v:Value} {xs:List Value} {S:Nat→Prop} (h:w.ownsRow base e k v n xs) (hS:∀ g,v.ownBlock = some g→S g):SlC S w k v n xs:=by
  obtain ⟨h1,h2⟩:=h
  refine ⟨h1,?_⟩
  rcases h2 with ⟨rfl,rfl⟩ | ⟨g,cap,cur,rfl,hb,hg,hn,hc,hs,ht⟩
  · exact ⟨none,0,rfl,by omega,by simp [maxLen],fun _=>rfl, .inl rfl⟩
  · refine ⟨_,cap,rfl,hn,hc,(fun h=>by cases h), .inr ⟨g,0,rfl,hS g rfl,fun j u hj=>?_⟩⟩
    simp only [World.cell?,hg,Nat.zero_add]
    rw [← ht,List.getElem?_take] at hj
    split at hj
    · simpa using hj
    · cases hj
theorem FOw.agree {E:TypeId} {S:Nat→Prop} {w w':World} {v:Value} {y:Fo} (h:FOw E S w v y) (ha:Agree S w w'):FOw E S w' v y:=
 let ⟨ds,h1,h2,h3⟩:=h;⟨ds,owns_agree h1 (fun g hg=>ha g (h2 g hg)),h2,h3.agree (fun b hb=>ha b hb.1)⟩
theorem FOw.wide {E:TypeId} {S S':Nat→Prop} {w:World} {v:Value} {y:Fo} (h:FOw E S w v y) (hw:∀ b,S b→S' b):FOw E S' w v y:=
 let ⟨ds,h1,h2,h3⟩:=h;⟨ds,h1,fun g hg=>hw g (h2 g hg),h3.wide (fun b hb=>⟨hw b hb.1,hb.2⟩)⟩
theorem FOw.fsl {E:TypeId} {S:Nat→Prop} {w:World} {v:Value} {y:Fo} (h:FOw E S w v y):FSl S w v y:=
 let ⟨ds,h1,h2,h3⟩:=h;⟨ds,FOCs.fcs.owns_slc h1 h2,h3.fcs.wide (fun b hb=>hb.1)⟩
theorem FOCs.one {E:TypeId} {S1 S2:Nat→Prop} {w:World} {n:List UInt8} {l:List Int} {s:Fo} {vn vs:Value} (h1:Ints S1 w vn l) (h2:FOw E S2 w vs s) (hd:∀ b,S1 b→¬ S2 b):FOCs E (fun b=>S1 b ∨ S2 b) w (.cons n l s .nil) [.string (bs n),vn,vs]:=by
 obtain ⟨ds,h3,h4,h5⟩:=h2
 exact ⟨vn,vs,[],S1,S2,fun _=>False,rfl,fun b hb=>by rcases hb with hb | hb | hb;exact .inl hb;exact .inr hb;exact hb.elim,hd,fun _ _ h=>h,fun _ _ h=>h,h1,⟨ds,h3,h4,h5⟩,rfl⟩
end Go.Proofs.LF
