/- Parts of the proof of a law of layer 11 (file): LfBase. The conditions stand in each theorem. -/
import Derived.Deep.AppendLies
import Derived.Deep.Draws
import Derived.Laws.AppendOwn
import Derived.Test.YtadkpjgpefcphaaGreatDoorProg
import Derived.WalkKit
set_option linter.all false
set_option linter.unusedVariables false
set_option linter.unusedSimpArgs false
namespace Go.Proofs.LF
open Go.RowKit
theorem nl_ (n:Nat):n ≤ n:=Nat.le_refl n
theorem hid {p:Prop} (h:p):Hid p:=h
def bs (l:List UInt8):ByteArray:=⟨l.toArray⟩
theorem bs_toList (l:List UInt8):(bs l).toList = l:=by
 rw [ByteArray.toList_eq];simp [bs]
theorem bs_size (l:List UInt8):(bs l).size = l.length:=by simp [bs,ByteArray.size]
theorem bs_data (l:List UInt8):(bs l).data.toList = l:=by simp [bs]
structure Ky where
 n:List UInt8
 h:Bool
 x:Int
 deriving DecidableEq
inductive Fo where
 | nil
 | cons (n:List UInt8) (l:List Int) (s r:Fo)
 deriving DecidableEq
def Fo.len:Fo→Nat
 | .nil=>0
 | .cons _ _ _ r=>r.len + 1
def Fo.cnt:Fo→Nat
 | .nil=>0
 | .cons _ _ s r=>1 + s.cnt + r.cnt
def Fo.drop:Nat→Fo→Fo
 | 0,y=>y
 | _ + 1, .nil => .nil
 | i + 1, .cons _ _ _ r=>r.drop i
def Fo.app:Fo→Fo→Fo
 | .nil,z=>z
 | .cons n l s r,z => .cons n l s (r.app z)
def Fo.take:Nat→Fo→Fo
 | 0,_ => .nil
 | _ + 1, .nil => .nil
 | i + 1, .cons n l s r => .cons n l s (r.take i)
theorem Fo.app_nil:∀ (y:Fo),y.app .nil = y
 | .nil=>rfl
 | .cons n l s r=>by simp [Fo.app,Fo.app_nil r]
theorem Fo.len_app:∀ (y z:Fo),(y.app z).len = y.len + z.len
 | .nil,z=>by simp [Fo.app,Fo.len]
 | .cons n l s r,z=>by simp only [Fo.app,Fo.len,Fo.len_app r z];omega
def Ky.cells (k:Ky):List Value:=[.string (bs k.n), .bool k.h, .int .i64 k.x]
def SlC (S:Nat→Prop) (w:World) (k:Nat) (v:Value) (n:Nat) (cs:List Value):Prop:=
 cs.length = n * k∧∃ a c,v = .slice a n c∧n ≤ c∧c ≤ maxLen∧(a = none→c = 0) ∧
  (n = 0 ∨ ∃ g o,a = some ⟨g,o,none⟩∧S g∧∀ j u,cs[j]? = some u→w.cell? ⟨g,o + j,none⟩ = some u)
def Rg (lo hi:Nat) (b:Nat):Prop:=lo ≤ b∧b < hi
def Rx (lo hi:Nat) (v:Value) (b:Nat):Prop:=lo ≤ b∧b < hi∧v.ownBlock ≠ some b
def Agree (S:Nat→Prop) (w w':World):Prop:=∀ b,S b→w'.heap[b]? = w.heap[b]?
theorem Ag_b {S:Nat→Prop} {B:Nat} {w w':World} (h:Below B w w') (hh:∀ b,S b→b < B):Agree S w w':=fun b hb=>h.block b (hh b hb)
theorem Agree.trans {S:Nat→Prop} {a b c:World} (h:Agree S a b) (k:Agree S b c):Agree S a c:=fun i hi=>(k i hi).trans (h i hi)
theorem Agree.refl {S:Nat→Prop} {a:World}:Agree S a a:=fun _ _=>rfl
theorem Agree.grown {S:Nat→Prop} {w w':World} {row:Option Nat} (h:w.grownBy w' row) (hh:∀ b,S b→b < w.heap.size∧row ≠ some b):Agree S w w':=fun b hb=>h.block b (hh b hb).1 (fun e=>(hh b hb).2 e.symm)
theorem Agree.cell {S:Nat→Prop} {w w':World} (h:Agree S w w') {g o:Nat} {u:Value} (h1:S g) (hc:w.cell? ⟨g,o,none⟩ = some u):w'.cell? ⟨g,o,none⟩ = some u:=by
 rw [World.cell?_of_block (h g h1)];exact hc
theorem SlC.agree {S:Nat→Prop} {w w':World} {k n:Nat} {v:Value} {cs:List Value} (h:SlC S w k v n cs) (ha:Agree S w w'):SlC S w' k v n cs:=by
 obtain ⟨h1,a,c,h2,h3,h4,hn,h5⟩:=h
 refine ⟨h1,a,c,h2,h3,h4,hn,?_⟩
 rcases h5 with h5 | ⟨g,o,h6,h7,h9⟩
 · exact .inl h5
 · exact .inr ⟨g,o,h6,h7,fun j u hj=>ha.cell h7 (h9 j u hj)⟩
theorem SlC.wide {S S':Nat→Prop} {w:World} {k n:Nat} {v:Value} {cs:List Value} (h:SlC S w k v n cs) (h1:∀ b,S b→S' b):SlC S' w k v n cs:=by
 obtain ⟨h0,a,c,h3,h4,h5,hn,h6⟩:=h
 refine ⟨h0,a,c,h3,h4,h5,hn,?_⟩
 rcases h6 with h6 | ⟨g,o,h7,h8,h10⟩
 · exact .inl h6
 · exact .inr ⟨g,o,h7,h1 _ h8,h10⟩
def Ints (S:Nat→Prop) (w:World) (v:Value) (l:List Int):Prop:=SlC S w 1 v l.length (l.map (Value.int .i64))
def Pth (S:Nat→Prop) (w:World) (v:Value) (p:List Ky):Prop:=SlC S w 3 v p.length (p.flatMap Ky.cells)
def FCs (S:Nat→Prop) (w:World):Fo→List Value→Prop
 | .nil,cs=>cs = []
 | .cons n l s r,cs=>∃ vn vs cs',cs = .string (bs n) :: vn :: vs :: cs'∧Ints S w vn l∧(∃ ds,SlC S w 3 vs s.len ds∧FCs S w s ds)∧FCs S w r cs'
def FSl (S:Nat→Prop) (w:World) (v:Value) (y:Fo):Prop:=∃ ds,SlC S w 3 v y.len ds∧FCs S w y ds
theorem FCs.agree {S:Nat→Prop} {w w':World} (ha:Agree S w w'):∀ {y:Fo} {cs:List Value},FCs S w y cs→FCs S w' y cs
 | .nil,_,h=>h
 | .cons _ _ _ _,_,⟨vn,vs,cs',h1,h2,⟨ds,h3,h4⟩,h5⟩=>⟨vn,vs,cs',h1,SlC.agree h2 ha,⟨ds,h3.agree ha,h4.agree ha⟩,h5.agree ha⟩
theorem FCs.wide {S S':Nat→Prop} {w:World} (h1:∀ b,S b→S' b):∀ {y:Fo} {cs:List Value},FCs S w y cs→FCs S' w y cs
 | .nil,_,h=>h
 | .cons _ _ _ _,_,⟨vn,vs,cs',h3,h4,⟨ds,h5,h6⟩,h7⟩=>⟨vn,vs,cs',h3,SlC.wide h4 h1,⟨ds,h5.wide h1,h6.wide h1⟩,h7.wide h1⟩
theorem FSl.agree {S:Nat→Prop} {w w':World} {v:Value} {y:Fo} (h:FSl S w v y) (ha:Agree S w w'):FSl S w' v y:=let ⟨ds,h1,h2⟩:=h;⟨ds,h1.agree ha,h2.agree ha⟩
theorem FSl.wide {S S':Nat→Prop} {w:World} {v:Value} {y:Fo} (h:FSl S w v y) (h1:∀ b,S b→S' b):FSl S' w v y:=let ⟨ds,h3,h4⟩:=h;⟨ds,h3.wide h1,h4.wide h1⟩
theorem Ints.agree {S:Nat→Prop} {w w':World} {v:Value} {l:List Int} (h:Ints S w v l) (ha:Agree S w w'):Ints S w' v l:=SlC.agree h ha
theorem Ints.wide {S S':Nat→Prop} {w:World} {v:Value} {l:List Int} (h:Ints S w v l) (h1:∀ b,S b→S' b):Ints S' w v l:=SlC.wide h h1
theorem Pth.agree {S:Nat→Prop} {w w':World} {v:Value} {l:List Ky} (h:Pth S w v l) (ha:Agree S w w'):Pth S w' v l:=SlC.agree h ha
theorem Pth.wide {S S':Nat→Prop} {w:World} {v:Value} {l:List Ky} (h:Pth S w v l) (h1:∀ b,S b→S' b):Pth S' w v l:=SlC.wide h h1
theorem FCs.length {S:Nat→Prop} {w:World}:∀ {y:Fo} {cs:List Value},FCs S w y cs→cs.length = y.len * 3
 | .nil,_,h=>by rw [show _ = [] from h];rfl
 | .cons _ _ _ _,_,⟨_,_,_,h,_,_,h5⟩=>by rw [h];simp only [List.length_cons,Fo.len];have:=h5.length;omega
theorem SlC.of_owns {w:World} {base e k n:Nat} {v:Value} {xs:List Value} (h:w.ownsRow base e k v n xs):SlC (Rg base w.heap.size) w k v n xs:=by
 obtain ⟨h1,h2⟩:=h
 refine ⟨h1,?_⟩
 rcases h2 with ⟨rfl,rfl⟩ | ⟨g,cap,cur,rfl,hb,hg,hn,hc,hs,ht⟩
 · exact ⟨none,0,rfl,by omega,by simp [maxLen],fun _=>rfl, .inl rfl⟩
 · refine ⟨_,cap,rfl,hn,hc,(fun h=>by cases h),
    .inr ⟨g,0,rfl,⟨hb,(Array.getElem?_eq_some_iff.1 hg).1⟩,fun j u hj=>?_⟩⟩
   simp only [World.cell?,hg,Nat.zero_add]
   rw [← ht,List.getElem?_take] at hj
   split at hj
   · simpa using hj
   · cases hj
theorem FCs.drop {S:Nat→Prop} {w:World}:∀ {i:Nat} {y:Fo} {cs:List Value},FCs S w y cs→FCs S w (y.drop i) (cs.drop (i * 3))
 | 0,_,_,h=>by simpa [Fo.drop] using h
 | i + 1, .nil,_,h=>by rw [show _ = [] from h];simp [Fo.drop,FCs]
 | i + 1, .cons _ _ _ _,_,⟨_,_,_,h,_,_,h5⟩=>by
   rw [h,show (i + 1) * 3 = i * 3 + 1 + 1 + 1 from by omega]
   simpa [Fo.drop] using h5.drop (i:=i)
theorem Fo.drop_succ {i:Nat} {y r:Fo} {n:List UInt8} {l:List Int} {s:Fo}:y.drop i = .cons n l s r→y.drop (i + 1) = r:=by
 induction i generalizing y with
 | zero=>intro h;rw [show y = _ from h];rfl
 | succ i ih=>
   intro h
   cases y with
   | nil=>cases h
   | cons _ _ _ r'=>exact ih h
theorem Fo.drop_lt:∀ {i:Nat} {y:Fo},i < y.len→∃ n l s r,y.drop i = .cons n l s r
 | _, .nil,h=>by simp [Fo.len] at h
 | 0, .cons n l s r,_=>⟨n,l,s,r,rfl⟩
 | i + 1, .cons _ _ _ r,h=>Fo.drop_lt (i:=i) (y:=r) (by simp [Fo.len] at h;omega)
theorem Fo.drop_len:∀ {y:Fo},y.drop y.len = .nil
 | .nil=>rfl
 | .cons _ _ _ r=>Fo.drop_len (y:=r)
theorem SlC.cells {S:Nat→Prop} {w:World} {k n c:Nat} {a:Option Addr} {cs:List Value} (h:SlC S w k (.slice a n c) n cs) (hn:0 < n):∃ g o,a = some ⟨g,o,none⟩∧S g∧n ≤ c∧c ≤ maxLen∧∀ j u,cs[j]? = some u→w.cell? ⟨g,o + j,none⟩ = some u:=by
 obtain ⟨_,a',c',he,h1,h2,_,h3⟩:=h
 cases he
 rcases h3 with h3 | ⟨g,o,h4,h5,h6⟩
 · omega
 · exact ⟨g,o,h4,h5,h1,h2,h6⟩
theorem SlC.caps {S:Nat→Prop} {w:World} {k n c:Nat} {a:Option Addr} {cs:List Value} (h:SlC S w k (.slice a n c) n cs):n ≤ c∧c ≤ 9223372036854775807∧(a = none→n = 0∧c = 0):=by
 obtain ⟨_,a',c',he,h1,h2,h3,_⟩:=h
 cases he
 exact ⟨h1,by unfold maxLen at h2;omega,fun e=>by have:=h3 e;omega⟩
theorem SlC.shape {S:Nat→Prop} {w:World} {k n:Nat} {v:Value} {cs:List Value} (h:SlC S w k v n cs):∃ a c,v = .slice a n c∧n ≤ c∧c ≤ maxLen:=let ⟨_,a,c,h1,h2,h3,_⟩:=h;⟨a,c,h1,h2,h3⟩
theorem FSl.at {S:Nat→Prop} {w:World} {v:Value} {y:Fo} (h:FSl S w v y):∃ a c,v = .slice a y.len c∧y.len ≤ c∧c ≤ maxLen∧∀ i,i < y.len→∃ g o n l s r an cn ab cb,a = some ⟨g,o,none⟩∧S g∧y.drop i = .cons n l s r ∧
 w.cell? ⟨g,o + i * 3,none⟩ = some (.string (bs n))∧w.cell? ⟨g,o + i * 3 + 1,none⟩ = some (.slice an l.length cn)∧w.cell? ⟨g,o + i * 3 + 2,none⟩ = some (.slice ab s.len cb)∧Ints S w (.slice an l.length cn) l∧FSl S w (.slice ab s.len cb) s:=by
 obtain ⟨ds,⟨hl,a,c,rfl,hc,hm,_,hh⟩,hf⟩:=h
 refine ⟨a,c,rfl,hc,hm,fun i hi=>?_⟩
 rcases hh with h0 | ⟨g,o,rfl,hg1,hcell⟩
 · omega
 · obtain ⟨n,l,s,r,hd⟩:=Fo.drop_lt hi
   have hf':=hf.drop (i:=i)
   rw [hd] at hf'
   obtain ⟨vn,vs,cs',he,hi',⟨ds',hs,hs'⟩,_⟩:=hf'
   obtain ⟨an,cn,rfl,_⟩:=SlC.shape hi'
   obtain ⟨ab,cb,rfl,_⟩:=SlC.shape hs
   have e:∀ j,ds[i * 3 + j]? = (Value.string (bs n) :: Value.slice an l.length cn :: Value.slice ab s.len cb :: cs')[j]?:=fun j=>by rw [← he,List.getElem?_drop]
   refine ⟨g,o,n,l,s,r,an,cn,ab,cb,rfl,hg1,hd,?_,?_,?_,hi',⟨ds',hs,hs'⟩⟩
   · exact hcell (i * 3) _ (by have:=e 0;simpa using this)
   · rw [Nat.add_assoc];exact hcell (i * 3 + 1) _ (by have:=e 1;simpa using this)
   · rw [Nat.add_assoc];exact hcell (i * 3 + 2) _ (by have:=e 2;simpa using this)
def Fo.Sm:Fo→Prop
 | .nil=>True
 | .cons n l s r=>n.length ≤ 1000∧l.length ≤ 1000∧s.len ≤ 1000∧s.Sm∧r.Sm
theorem Fo.Sm.drop:∀ {i:Nat} {y:Fo},y.Sm→(y.drop i).Sm
 | 0,_,h=>h
 | _ + 1, .nil,h=>h
 | i + 1, .cons _ _ _ r,⟨_,_,_,_,h⟩=>Fo.Sm.drop (i:=i) (y:=r) h
theorem Fo.cnt_drop:∀ {i:Nat} {y:Fo},(y.drop i).cnt ≤ y.cnt
 | 0,_=>nl_ _
 | _ + 1, .nil=>nl_ _
 | i + 1, .cons _ _ _ r=>by have:=Fo.cnt_drop (i:=i) (y:=r);simp only [Fo.drop,Fo.cnt];omega
theorem Fo.cnt_at {i:Nat} {y r s:Fo} {n:List UInt8} {l:List Int} (h:y.drop i = .cons n l s r):s.cnt < y.cnt:=by
 have:=Fo.cnt_drop (i:=i) (y:=y)
 rw [h] at this
 simp only [Fo.cnt] at this
 omega
theorem Fo.take_succ:∀ {i:Nat} {y r s:Fo} {n:List UInt8} {l:List Int},y.drop i = .cons n l s r→y.take (i + 1) = (y.take i).app (.cons n l s .nil)
 | 0,y,_,_,_,_,h=>by rw [show y = _ from h];rfl
 | _ + 1, .nil,_,_,_,_,h=>by cases h
 | i + 1, .cons _ _ _ r',_,_,_,_,h=>by
   show Fo.cons _ _ _ (r'.take (i + 1)) = _
   rw [Fo.take_succ (i:=i) (y:=r') h]
   rfl
theorem Fo.take_len:∀ {y:Fo},y.take y.len = y
 | .nil=>rfl
 | .cons _ _ _ r=>by show Fo.cons _ _ _ (r.take r.len) = _;rw [Fo.take_len]
theorem Fo.len_take:∀ {i:Nat} {y:Fo},i ≤ y.len→(y.take i).len = i
 | 0,_,_=>rfl
 | _ + 1, .nil,h=>by simp [Fo.len] at h
 | i + 1, .cons _ _ _ r,h=>by
   show (r.take i).len + 1 = _
   rw [Fo.len_take (by simp [Fo.len] at h;omega)]
theorem FCs.app {S:Nat→Prop} {w:World}:∀ {y z:Fo} {cs ds:List Value},FCs S w y cs→FCs S w z ds→FCs S w (y.app z) (cs ++ ds)
 | .nil,_,_,_,h,h'=>by rw [show _ = [] from h];exact h'
 | .cons _ _ _ _,_,_,_,⟨vn,vs,cs',h1,h2,h3,h4⟩,h'=>⟨vn,vs,_,by rw [h1];rfl,h2,h3,h4.app h'⟩
theorem FCs.one {S:Nat→Prop} {w:World} {n:List UInt8} {l:List Int} {s:Fo} {vn vs:Value} (h1:Ints S w vn l) (h2:FSl S w vs s):FCs S w (.cons n l s .nil) [.string (bs n),vn,vs]:=⟨vn,vs,[],rfl,h1,h2,rfl⟩
theorem ob_ {w w':World} {base e k n B:Nat} {v:Value} {xs:List Value} (h:w.ownsRow base e k v n xs) (hb:Below B w w') (hB:w.heap.size ≤ B):w'.ownsRow base e k v n xs:=
 h.kept (row:=none) ⟨hb.os,hb.tape,hb.output,hb.size,fun i hi _=>hb.block i (by omega)⟩ (by
  rcases h.2 with ⟨rfl,_⟩ | ⟨g,_,_,rfl,_⟩
  · exact .inl rfl
  · exact .inr (by simp [Value.ownBlock]))
theorem below_drewN {B:Nat} {a w:World} (h:Below B a w) (n:Nat):Below B a (w.drewN n):=⟨h.os,h.tape,h.output,h.size,h.block⟩
theorem bc_ {B b o:Nat} {w w':World} {v:Value} (h:Below B w w') (hb:b < B) (hc:w.cell? ⟨b,o,none⟩ = some v):w'.cell? ⟨b,o,none⟩ = some v:=(h.cell (p:=⟨b,o,none⟩) hb).trans hc
theorem grown_cell {b o:Nat} {w w':World} {v:Value} {row:Option Nat} (h:w.grownBy w' row) (hb:row ≠ some b) (hc:w.cell? ⟨b,o,none⟩ = some v):w'.cell? ⟨b,o,none⟩ = some v:=h.cell hc (fun e=>hb e.symm)
theorem owns_ne {w:World} {base e k n:Nat} {v:Value} {xs:List Value} (h:w.ownsRow base e k v n xs) {b:Nat} (hb:w.heap.size ≤ b):v.ownBlock ≠ some b:=fun e=>by have:=(h.lt _ e).2;omega
structure Step (B:Nat) (W0 W w3:World) (v:Value) (gg:Nat):Prop where
 below:Below W0.heap.size W0 W
 grown:W.grownBy w3 v.ownBlock
 base:B ≤ W0.heap.size
 old:∀ b,v.ownBlock = some b→B ≤ b∧b < W0.heap.size
 place:v.ownBlock = some gg ∨ gg = W.heap.size
 lt:gg < w3.heap.size
theorem Step.size {B:Nat} {W0 W w3:World} {v:Value} {gg:Nat} (h:Step B W0 W w3 v gg):W0.heap.size ≤ W.heap.size∧W.heap.size ≤ w3.heap.size:=⟨h.below.size,h.grown.size⟩
theorem Step.past {B:Nat} {W0 W w3:World} {v v':Value} {gg:Nat} (h:Step B W0 W w3 v gg) (hv:v'.ownBlock = some gg):(∀ b,Rx B W0.heap.size v b→Rx B w3.heap.size v' b)∧Agree (Rx B W0.heap.size v) W0 w3:=by
 have hs:=h.size
 refine ⟨fun b hb=>⟨hb.1,by have:=hb.2.1;omega,fun e=>?_⟩,fun b hb=>?_⟩
 · rw [hv] at e
   cases e
   rcases h.place with hp | hp
   · exact hb.2.2 hp
   · have:=hb.2.1
     omega
 · exact (h.grown.block b (by have:=hb.2.1;omega) (fun e=>hb.2.2 e.symm)).trans (h.below.block b hb.2.1)
theorem Step.fresh {B p q:Nat} {W0 W w1 w3:World} {v v':Value} {gg:Nat} (h:Step B W0 W w3 v gg) (hv:v'.ownBlock = some gg) (hp:W0.heap.size ≤ p) (hq:q ≤ W.heap.size) (hb:Below q w1 W):(∀ b,Rg p q b→Rx B w3.heap.size v' b)∧Agree (Rg p q) w1 w3:=by
 have hs:=h.size
 have hB:=h.base
 refine ⟨fun b hb=>⟨by have:=hb.1;omega,by have:=hb.2;omega,fun e=>?_⟩,fun b hb'=>?_⟩
 · rw [hv] at e
   cases e
   rcases h.place with hp' | hp'
   · have:=(h.old _ hp').2;have:=hb.1;omega
   · have:=hb.2;omega
 · exact (h.grown.block b (by have:=hb'.2;omega) (fun e=>by have:=(h.old _ e.symm).2;have:=hb'.1;omega)).trans (hb.block b hb'.2)
theorem Step.out {B:Nat} {W00 W0 W w3:World} {v:Value} {gg:Nat} (h:Step B W0 W w3 v gg) (hb:Below B W00 W0):Below B W00 w3:=
 (hb.trans (h.below.mono h.base)).grown h.grown (by have:=h.size;have:=h.base;omega) (fun k hk=>(h.old k hk).1)
structure Stable (P:(Nat→Prop)→World→Prop):Prop where
 agree:∀ {S w w'},P S w→Agree S w w'→P S w'
 wide:∀ {S S' w},P S w→(∀ b,S b→S' b)→P S' w
theorem Stable.ints (v:Value) (l:List Int):Stable (fun S w=>Ints S w v l):=⟨fun h=>h.agree,fun h=>h.wide⟩
theorem Stable.pth (v:Value) (l:List Ky):Stable (fun S w=>Pth S w v l):=⟨fun h=>h.agree,fun h=>h.wide⟩
theorem Stable.fsl (v:Value) (y:Fo):Stable (fun S w=>FSl S w v y):=⟨fun h=>h.agree,fun h=>h.wide⟩
theorem Stable.fcs (y:Fo) (cs:List Value):Stable (fun S w=>FCs S w y cs):=⟨fun h ha=>h.agree ha,fun h hw=>h.wide hw⟩
theorem Stable.both {P:(Nat→Prop)→World→Prop} (hP:Stable P) {S S':Nat→Prop} {w w':World} (h:P S w) (ha:Agree S w w') (hw:∀ b,S b→S' b):P S' w':=hP.wide (hP.agree h ha) hw
theorem Step.keep {P:(Nat→Prop)→World→Prop} (hP:Stable P) {B:Nat} {W0 W w3:World} {v v':Value} {gg:Nat} (h:Step B W0 W w3 v gg) (hv:v'.ownBlock = some gg) (hF:P (Rx B W0.heap.size v) W0):P (Rx B w3.heap.size v') w3:=
 hP.both hF (h.past hv).2 (h.past hv).1
theorem Step.lift {P:(Nat→Prop)→World→Prop} (hP:Stable P) {B p q:Nat} {W0 W w1 w3:World} {v v':Value} {gg:Nat} (h:Step B W0 W w3 v gg) (hv:v'.ownBlock = some gg) (hF:P (Rg p q) w1) (hp:W0.heap.size ≤ p) (hq:q ≤ W.heap.size) (hb:Below q w1 W):P (Rx B w3.heap.size v') w3:=
 hP.both hF (h.fresh hv hp hq hb).2 (h.fresh hv hp hq hb).1
theorem SlC.news {S:Nat→Prop} {w W:World} {k n c:Nat} {a:Option Addr} {cs:List Value} (h:SlC S w k (.slice a n c) n cs) (ha:Agree S w W):∀ ad,a = some ad→∀ (j:Nat) (u:Value),cs[j]? = some u→W.cell? (ad.add j) = some u:=by
 intro ad he j u hj
 by_cases hn:0 < n
 · obtain ⟨g,o,rfl,hS,_,_,hc⟩:=h.cells hn
   cases he
   have:=ha.cell hS (hc j u hj)
   unfold Addr.add
   split
   · rename_i h0;subst h0;simpa using this
   · exact this
 · have:cs = []:=by have h1:=h.1;rw [show n = 0 from by omega] at h1;simpa using h1
   rw [this] at hj;cases hj
theorem one_keys (p:List Ky):∀ u:Value,u ∈ p.flatMap Ky.cells→u.oneCell' = true:=by
 intro u hu
 rw [List.mem_flatMap] at hu
 obtain ⟨x,_,hx⟩:=hu
 simp [Ky.cells] at hx
 rcases hx with rfl | rfl | rfl <;> rfl
theorem len_keys (p:List Ky):(p.flatMap Ky.cells).length = p.length * 3:=by
 induction p with
 | nil=>rfl
 | cons k p ih=>simp only [List.flatMap_cons,List.length_append,ih,List.length_cons,Ky.cells];simp;omega
end Go.Proofs.LF
