/- Parts of the proof of a law of layer 11 (file): LbB15. The conditions stand in each theorem. -/
import Derived.Test.YtffjknkcogmnbaaGreatDoorProg
import Derived.Test.YtffjknkcogmnbaaGreatDoorTybe
set_option linter.all false
set_option linter.unusedVariables false
set_option linter.unusedSimpArgs false
namespace Go.Proofs.LB
open Go.RowKit Go.Sort Go.Proofs.LF
set_option maxHeartbeats 4000000
set_option maxRecDepth 100000
attribute [local go_sem] q1_ q2_ q8_
def stB (room:Int) (ms:List Mo) (i n k:Nat):Bool:=match ms[i]? with
 | some x=>decide ((k:Int) ∈ lvs room x (n:Int))
 | none=>false
def cnT (room:Int) (S:List Su) (ms:List Mo) (lo hi:Int):Nat→Nat→Bool
 | 0,n=>(decide ((n:Int) ≤ room) && ahB room S 0 ms n) && inI n lo hi
 | i + 1,k=>((List.range 121).any fun n=>cnT room S ms lo hi i n && stB room ms i n k) && ahB room S (i + 1) (ms.drop (i + 1)) k
def CanP (room:Int) (S:List Su) (ms:List Mo) (lo hi:Int):Nat→Int→Prop
 | 0,n=>(lo ≤ n∧n ≤ hi)∧Ahd room S 0 ms n
 | i + 1,k=>(∃ x n,ms[i]? = some x∧CanP room S ms lo hi i n∧lvLo room x n ≤ k∧k ≤ lvHi room x n)∧Ahd room S (i + 1) (ms.drop (i + 1)) k
theorem Ahd.bnd {room:Int} {S:List Su}:∀ {l:List Mo} {m:Nat} {n:Int},Ahd room S m l n→0 ≤ n∧n ≤ room
 | [],_,_,h=>⟨h.1,h.2.1⟩
 | _ :: _,_,_,h=>⟨h.1.1,h.1.2.1⟩
theorem CanP.bnd {room:Int} {S:List Su} {ms:List Mo} {lo hi:Int}:∀ {i:Nat} {n:Int},CanP room S ms lo hi i n→0 ≤ n∧n ≤ room
 | 0,_,h=>h.2.bnd
 | _ + 1,_,h=>h.2.bnd
theorem CanP.sub {room:Int} {S T:List Su} (hs:∀ s ∈ T,s ∈ S) {ms:List Mo} {lo hi:Int}:∀ {i:Nat} {n:Int},CanP room S ms lo hi i n→CanP room T ms lo hi i n
 | 0,_,h=>⟨h.1,h.2.sub hs⟩
 | _ + 1,_,⟨⟨x,n,h1,h2,h3,h4⟩,h5⟩=>⟨⟨x,n,h1,h2.sub hs,h3,h4⟩,h5.sub hs⟩
theorem kB_ {room:Int} {S:List Su} {ms:List Mo} {lo hi:Int} (hr:0 ≤ room∧room ≤ 120) (hm:∀ x ∈ ms,OkMo room x):∀ {i n:Nat},cnT room S ms lo hi i n = true ↔ CanP room S ms lo hi i (n:Int)
 | 0,n=>by
   rw [cnT,CanP,Bool.and_eq_true,Bool.and_eq_true,decide_eq_true_iff,inI,Bool.and_eq_true,decide_eq_true_iff,decide_eq_true_iff]
   constructor
   · rintro ⟨⟨h1,h2⟩,h3⟩
     exact ⟨h3,(kz_ hr hm (by omega) h1).1 h2⟩
   · rintro ⟨h3,h2⟩
     exact ⟨⟨h2.bnd.2,(kz_ hr hm (by omega) h2.bnd.2).2 h2⟩,h3⟩
 | i + 1,k=>by
   have hd:∀ x ∈ ms.drop (i + 1),OkMo room x:=fun x hx=>hm x (List.mem_of_mem_drop hx)
   rw [cnT,CanP,Bool.and_eq_true,List.any_eq_true]
   constructor
   · rintro ⟨⟨n,hn,h1⟩,h2⟩
     rw [Bool.and_eq_true] at h1
     obtain ⟨h1,h3⟩:=h1
     rw [stB] at h3
     split at h3
     · rename_i x hx
       have hk:=of_decide_eq_true h3
       have hb:=vf_ (hm x (List.mem_of_getElem? hx)) hr hk
       have hk2:=vw_.1 hk
       exact ⟨⟨x,n,hx,(kB_ hr hm).1 h1,hk2.1,hk2.2⟩,(kz_ hr hd hb.1 hb.2).1 h2⟩
     · cases h3
   · rintro ⟨⟨x,n,hx,h1,h3,h4⟩,h2⟩
     have hb:=h1.bnd
     obtain ⟨n',rfl⟩:∃ n':Nat,n = (n':Int):=⟨n.toNat,by omega⟩
     refine ⟨⟨n',List.mem_range.2 (by omega),?_⟩,(kz_ hr hd h2.bnd.1 h2.bnd.2).2 h2⟩
     rw [(kB_ hr hm).2 h1,stB,hx]
     simpa using vw_.2 ⟨h3,h4⟩
theorem cnT_le {room:Int} {S:List Su} {ms:List Mo} {lo hi:Int} (hr:0 ≤ room∧room ≤ 120) (hm:∀ x ∈ ms,OkMo room x) {i n:Nat} (h:cnT room S ms lo hi i n = true):(n:Int) ≤ room:=((kB_ hr hm).1 h).bnd.2
structure RealL (room:Int) (S:List Su) (ms:List Mo) (rs:List Int):Prop where
 len:rs.length = ms.length + 1
 ok:∀ i n,rs[i]? = some n→(0 ≤ n∧n ≤ room)∧agr S i n = true
 st:∀ i x n k,ms[i]? = some x→rs[i]? = some n→rs[i + 1]? = some k→lvLo room x n ≤ k∧k ≤ lvHi room x n
theorem RealL.ahd {room:Int} {S:List Su} {ms:List Mo} {rs:List Int} (h:RealL room S ms rs):∀ (d i:Nat) (n:Int),d + i = ms.length→rs[i]? = some n→Ahd room S i (ms.drop i) n
 | 0,i,n,hd,hn=>by
   have:=h.ok i n hn
   rw [List.drop_eq_nil_of_le (by omega)]
   exact ⟨this.1.1,this.1.2,this.2⟩
 | d + 1,i,n,hd,hn=>by
   have hi:i < ms.length:=by omega
   have hk:i + 1 < rs.length:=by have:=h.len;omega
   have:=h.ok i n hn
   have hs:=h.st i ms[i] n rs[i + 1] (List.getElem?_eq_getElem hi) hn (List.getElem?_eq_getElem hk)
   rw [List.drop_eq_getElem_cons hi]
   exact ⟨⟨this.1.1,this.1.2,this.2⟩,rs[i + 1],hs.1,hs.2,h.ahd d (i + 1) _ (by omega) (List.getElem?_eq_getElem hk)⟩
theorem RealL.can {room:Int} {S:List Su} {ms:List Mo} {rs:List Int} {lo hi:Int} (h:RealL room S ms rs) (h0:∀ n,rs[0]? = some n→lo ≤ n∧n ≤ hi):∀ (i:Nat) (n:Int),rs[i]? = some n→CanP room S ms lo hi i n
 | 0,n,hn=>⟨h0 n hn,by have:=h.ahd ms.length 0 n (by omega) hn;simpa using this⟩
 | i + 1,k,hk=>by
   have hl:=h.len
   have hk':=(List.getElem?_eq_some_iff.1 hk).1
   have hi:i < ms.length:=by omega
   have hi':i < rs.length:=by omega
   have hs:=h.st i ms[i] rs[i] k (List.getElem?_eq_getElem hi) (List.getElem?_eq_getElem hi') hk
   exact ⟨⟨ms[i],rs[i],List.getElem?_eq_getElem hi,h.can h0 i _ (List.getElem?_eq_getElem hi'),hs.1,hs.2⟩,h.ahd (ms.length - (i + 1)) (i + 1) k (by omega) hk⟩
theorem RealL.sub {room:Int} {S T:List Su} (hs:∀ s ∈ T,s ∈ S) {ms:List Mo} {rs:List Int} (h:RealL room S ms rs):RealL room T ms rs:=
 ⟨h.len,fun i n hn=>⟨(h.ok i n hn).1,jo_ hs (h.ok i n hn).2⟩,h.st⟩
end Go.Proofs.LB