/- Parts of the proof of a law of layer 11 (file): LsSum. The conditions stand in each theorem. -/
import Derived.Test.YtffjknkcogmnbaaGreatDoorProg
import Derived.Test.YtffjknkcogmnbaaGreatDoorSpab
set_option linter.all false
set_option linter.unusedVariables false
set_option linter.unusedSimpArgs false
namespace Go.Proofs.LS
def sm:Nat→(Nat→Int)→Int
 | 0,_=>0
 | n + 1,f=>sm n f + f n
theorem qo_ {n:Nat} {f g:Nat→Int} (h:∀ i,i < n→f i = g i):sm n f = sm n g:=by
 induction n with
 | zero=>rfl
 | succ n ih=>rw [sm,sm,ih fun i hi=>h i (by omega),h n (by omega)]
theorem sm_le {n:Nat} {f g:Nat→Int} (h:∀ i,i < n→f i ≤ g i):sm n f ≤ sm n g:=by
 induction n with
 | zero=>exact Int.le_refl _
 | succ n ih=>rw [sm,sm];have:=ih fun i hi=>h i (by omega);have:=h n (by omega);omega
theorem sm_lt {n k:Nat} {f g:Nat→Int} (h:∀ i,i < n→f i ≤ g i) (hk:k < n) (hs:f k < g k):sm n f < sm n g:=by
 induction n with
 | zero=>omega
 | succ n ih=>
   rw [sm,sm]
   by_cases e:k = n
   · subst e;have:=sm_le fun i hi=>h i (Nat.lt_succ_of_lt hi);omega
   · have:=ih (fun i hi=>h i (by omega)) (by omega);have:=h n (by omega);omega
theorem zp_ {n:Nat} {f:Nat→Int} (h:∀ i,i < n→f i = 0):sm n f = 0:=by
 induction n with
 | zero=>rfl
 | succ n ih=>rw [sm,ih fun i hi=>h i (by omega),h n (by omega)];rfl
theorem vX_ {n:Nat} {f g:Nat→Int}:sm n (fun i=>f i + g i) = sm n f + sm n g:=by
 induction n with
 | zero=>rfl
 | succ n ih=>rw [sm,sm,sm,ih];omega
theorem xO_ {n:Nat} {f g:Nat→Int}:sm n (fun i=>f i - g i) = sm n f - sm n g:=by
 induction n with
 | zero=>rfl
 | succ n ih=>rw [sm,sm,sm,ih];omega
theorem sm_mul {n:Nat} {d:Int} {f:Nat→Int}:sm n (fun i=>d * f i) = d * sm n f:=by
 induction n with
 | zero=>simp [sm]
 | succ n ih=>rw [sm,sm,ih,Int.mul_add]
theorem sm_comm {m n:Nat} {f:Nat→Nat→Int}:sm m (fun i=>sm n (fun j=>f i j)) = sm n (fun j=>sm m (fun i=>f i j)):=by
 induction m with
 | zero=>rw [show sm n (fun j=>sm 0 fun i=>f i j) = 0 from zp_ fun i _=>rfl];rfl
 | succ m ih=>rw [sm,ih,← vX_];rfl
theorem sm_one {n k:Nat} {d:Int} (hk:k < n):sm n (fun i=>if i = k then d else 0) = d:=by
 induction n with
 | zero=>omega
 | succ n ih=>
   rw [sm]
   by_cases e:k = n
   · subst e
     rw [zp_ fun i hi=>if_neg (by omega),if_pos rfl];omega
   · rw [ih (by omega),if_neg (by omega)];omega
theorem sm_pt {n k:Nat} {p:Nat→Int} (hk:k < n):sm n (fun v=>if k = v then p v else 0) = p k:=by
 rw [← sm_one (d:=p k) hk]
 exact qo_ fun i _=>by
  by_cases e:i = k
  · subst e;simp
  · rw [if_neg (fun h=>e h.symm),if_neg e]
def at_ (ws:List Way) (i:Nat):Way:=ws.getD i Way.z
def nt (ws:List Way) (g:Nat→Int) (v:Nat):Int:=sm ws.length fun i=>(if (at_ ws i).f = v then g i else 0) - (if (at_ ws i).t = v then g i else 0)
theorem tele {ws:List Way} {g p:Nat→Int} (hn:∀ i,i < ws.length→(at_ ws i).f < 12∧(at_ ws i).t < 12) (h0:∀ v,v < 12→nt ws g v = 0):sm ws.length (fun i=>(p (at_ ws i).f - p (at_ ws i).t) * g i) = 0:=by
 have h1:sm ws.length (fun i=>(p (at_ ws i).f - p (at_ ws i).t) * g i) = sm ws.length (fun i=>sm 12 fun v=>p v * ((if (at_ ws i).f = v then g i else 0) - (if (at_ ws i).t = v then g i else 0))):=qo_ fun i hi=>by
  obtain ⟨hf,ht⟩:=hn i hi
  rw [show (sm 12 fun v=>p v * ((if (at_ ws i).f = v then g i else 0) - (if (at_ ws i).t = v then g i else 0))) = sm 12 (fun v=>(if (at_ ws i).f = v then p v * g i else 0) - (if (at_ ws i).t = v then p v * g i else 0)) from qo_ fun v _=>by
   rw [Int.mul_sub]
   congr 1
   · split <;> simp
   · split <;> simp]
  rw [xO_,sm_pt (p:=fun v=>p v * g i) hf,sm_pt (p:=fun v=>p v * g i) ht,Int.sub_mul]
 rw [h1,sm_comm]
 refine zp_ fun v hv=>?_
 rw [sm_mul]
 have:=h0 v hv
 rw [nt] at this
 rw [this,Int.mul_zero]
def Way.bare (w:Way):Way:={ w with goes:=0 }
def z6_ (ws xs:List Way):Prop:=ws.map Way.bare = xs.map Way.bare
theorem z6_.len {ws xs:List Way} (h:z6_ ws xs):ws.length = xs.length:=by simpa using congrArg List.length h
theorem z6_.at {ws xs:List Way} (h:z6_ ws xs) (i:Nat):(at_ ws i).f = (at_ xs i).f∧(at_ ws i).t = (at_ xs i).t∧(at_ ws i).lo = (at_ xs i).lo∧(at_ ws i).hi = (at_ xs i).hi∧(at_ ws i).cost = (at_ xs i).cost:=by
 have hl:=h.len
 by_cases hi:i < ws.length
 · have h1:(ws.map Way.bare)[i]? = (xs.map Way.bare)[i]?:=by rw [h]
   rw [List.getElem?_map,List.getElem?_map,List.getElem?_eq_getElem hi,List.getElem?_eq_getElem (by omega)] at h1
   simp only [Option.map_some,Option.some.injEq,Way.bare,Way.mk.injEq] at h1
   simp only [at_,List.getD_eq_getElem?_getD,List.getElem?_eq_getElem hi,List.getElem?_eq_getElem (show i < xs.length by omega),Option.getD_some]
   exact ⟨h1.1,h1.2.1,h1.2.2.1,h1.2.2.2.1,h1.2.2.2.2.1⟩
 · simp [at_,List.getD_eq_getElem?_getD,List.getElem?_eq_none (show ws.length ≤ i by omega),List.getElem?_eq_none (show xs.length ≤ i by omega)]
theorem z6_.nt {ws xs:List Way} (h:z6_ ws xs) (g:Nat→Int) (v:Nat):nt ws g v = nt xs g v:=by
 rw [LS.nt,LS.nt,h.len]
 exact qo_ fun i _=>by rw [(h.at i).1,(h.at i).2.1]
def gs (ws:List Way) (i:Nat):Int:=(at_ ws i).goes
structure Flow (ws:List Way):Prop where
 node:∀ i,i < ws.length→(at_ ws i).f < 12∧(at_ ws i).t < 12∧(at_ ws i).f ≠ (at_ ws i).t
 low:∀ i,i < ws.length→0 ≤ (at_ ws i).lo
 lim:∀ i,i < ws.length→0 ≤ (at_ ws i).goes∧(at_ ws i).goes ≤ (at_ ws i).hi
 net:∀ v,v < 12→nt ws (gs ws) v = 0
structure Fit (ws:List Way):Prop extends Flow ws where
 need:∀ i,i < ws.length→(at_ ws i).lo ≤ (at_ ws i).goes
theorem zy_ (ws:List Way):costW ws = sm ws.length fun i=>(at_ ws i).cost * (at_ ws i).goes:=by
 have:∀ (k:Nat),k ≤ ws.length→(ws.take k).foldl (fun m w=>m + w.cost * w.goes) 0 = sm k fun i=>(at_ ws i).cost * (at_ ws i).goes:=by
  intro k hk
  induction k with
  | zero=>rfl
  | succ k ih=>
    rw [List.take_succ_eq_append_getElem (by omega),List.foldl_append,ih (by omega),sm]
    simp [at_,List.getD_eq_getElem?_getD,List.getElem?_eq_getElem (show k < ws.length by omega)]
 have h:=this ws.length (Nat.le_refl _)
 rwa [List.take_length] at h
theorem qu_ {ws:List Way} {k:Nat} {c:Cg}:c ∈ qM_ ws k ↔ c.way < k∧0 < eR ws c:=by
 have:∀ k,c ∈ chs k ↔ c.way < k:=by
  intro k
  induction k with
  | zero=>simp [chs]
  | succ k ih=>
    rw [chs,List.mem_append,ih]
    simp only [List.mem_cons,List.not_mem_nil,or_false]
    constructor
    · rintro (h | h | h)
      · omega
      · rw [h];show k < k + 1;omega
      · rw [h];show k < k + 1;omega
    · intro h
      by_cases e:c.way = k
      · right
        cases c with
        | mk w m=>subst e;cases m <;> simp
      · left;omega
 rw [qM_,List.mem_filter,this];simp
theorem opt {ws xs:List Way} (h:Fit ws) (hs:z6_ ws xs) (hx:Fit xs) (p:Nat→Int) (hp:∀ c ∈ qM_ ws ws.length,p (eT ws c) ≤ p (eF ws c) + eC ws c):costW ws ≤ costW xs:=by
 have hl:=hs.len
 have ht:=tele (ws:=ws) (g:=fun i=>gs xs i - gs ws i) (p:=p) (fun i hi=>⟨(h.node i hi).1,(h.node i hi).2.1⟩) fun v hv=>by
  have h1:=h.net v hv
  have h2:=hx.net v hv
  rw [← hs.nt] at h2
  have:nt ws (fun i=>gs xs i - gs ws i) v = nt ws (gs xs) v - nt ws (gs ws) v:=by
   rw [nt,nt,nt,← xO_]
   exact qo_ fun i _=>by
    split <;> split <;> omega
  rw [this];omega
 have hc:costW xs - costW ws = sm ws.length fun i=>((at_ ws i).cost + (p (at_ ws i).f - p (at_ ws i).t)) * (gs xs i - gs ws i):=by
  have e1:costW xs = sm ws.length fun i=>(at_ ws i).cost * gs xs i:=by
   rw [zy_,hl]
   exact qo_ fun i _=>by rw [gs,(hs.at i).2.2.2.2]
  rw [e1,zy_,← xO_,show (sm ws.length fun i=>((at_ ws i).cost + (p (at_ ws i).f - p (at_ ws i).t)) * (gs xs i - gs ws i)) = (sm ws.length fun i=>(at_ ws i).cost * (gs xs i - gs ws i)) + sm ws.length (fun i=>(p (at_ ws i).f - p (at_ ws i).t) * (gs xs i - gs ws i)) from by
   rw [← vX_];exact qo_ fun i _=>by rw [Int.add_mul]]
  rw [ht,Int.add_zero]
  exact qo_ fun i _=>by rw [Int.mul_sub];rfl
 have:0 ≤ costW xs - costW ws:=by
  rw [hc,show (0:Int) = sm ws.length fun _=>0 from (zp_ fun _ _=>rfl).symm]
  refine sm_le fun i hi=>?_
  have hx1:=hx.lim i (by omega)
  have hx2:=hx.need i (by omega)
  have hw:=h.lim i hi
  have hs':=hs.at i
  by_cases e:gs xs i < gs ws i
  · have hlv:(⟨i,false⟩:Cg) ∈ qM_ ws ws.length:=qu_.2 ⟨hi,by
     show (0:Int) < eR ws ⟨i,false⟩
     simp only [eR,Bool.false_eq_true,if_false]
     show (0:Int) < (at_ ws i).goes - min (at_ ws i).lo (at_ ws i).goes
     have:gs xs i = (at_ xs i).goes:=rfl
     have:gs ws i = (at_ ws i).goes:=rfl
     omega⟩
    have hq:=hp _ hlv
    simp only [eT,eF,eC,Bool.false_eq_true,if_false] at hq
    have h1:(at_ ws i).cost + (p (at_ ws i).f - p (at_ ws i).t) ≤ 0:=by
     have:(ws.getD i Way.z) = at_ ws i:=rfl
     rw [this] at hq;omega
    exact Int.mul_nonneg_of_nonpos_of_nonpos h1 (by omega)
  · by_cases e2:gs xs i = gs ws i
    · rw [e2];simp
    · have hlv:(⟨i,true⟩:Cg) ∈ qM_ ws ws.length:=qu_.2 ⟨hi,by
       show (0:Int) < eR ws ⟨i,true⟩
       simp only [eR,if_true]
       show (0:Int) < (at_ ws i).hi - (at_ ws i).goes
       have:gs xs i = (at_ xs i).goes:=rfl
       have:gs ws i = (at_ ws i).goes:=rfl
       omega⟩
      have hq:=hp _ hlv
      simp only [eT,eF,eC,if_true] at hq
      have h1:0 ≤ (at_ ws i).cost + (p (at_ ws i).f - p (at_ ws i).t):=by
       have:(ws.getD i Way.z) = at_ ws i:=rfl
       rw [this] at hq;omega
      exact Int.mul_nonneg h1 (by omega)
 omega
theorem lack_no {ws xs:List Way} {i:Nat} (h:Flow ws) (hs:z6_ ws xs) (hx:Fit xs) (hi:i < ws.length) (hlo:(at_ ws i).goes < (at_ ws i).lo) (m:Nat→Bool) (ha:m (at_ ws i).t = true) (hb:m (at_ ws i).f = false)
 (hm:∀ c ∈ qM_ ws ws.length,m (eF ws c) = true→m (eT ws c) = true):False:=by
 have hl:=hs.len
 have ht:=tele (ws:=ws) (g:=fun i=>gs xs i - gs ws i) (p:=fun v=>if m v then 1 else 0) (fun i hi=>⟨(h.node i hi).1,(h.node i hi).2.1⟩) fun v hv=>by
  have h1:=h.net v hv
  have h2:=hx.net v hv
  rw [← hs.nt] at h2
  have:nt ws (fun i=>gs xs i - gs ws i) v = nt ws (gs xs) v - nt ws (gs ws) v:=by
   rw [nt,nt,nt,← xO_]
   exact qo_ fun i _=>by
    split <;> split <;> omega
  rw [this];omega
 have hlt:sm ws.length (fun i=>((fun v=>if m v then (1:Int) else 0) (at_ ws i).f - (fun v=>if m v then (1:Int) else 0) (at_ ws i).t) * (gs xs i - gs ws i)) < sm ws.length fun _=>0:=by
  refine sm_lt (k:=i) (fun j hj=>?_) hi ?_
  · have hx1:=hx.lim j (by omega)
    have hx2:=hx.need j (by omega)
    have hw:=h.lim j hj
    have hs':=hs.at j
    have g1:gs xs j = (at_ xs j).goes:=rfl
    have g2:gs ws j = (at_ ws j).goes:=rfl
    cases e1:m (at_ ws j).f <;> cases e2:m (at_ ws j).t
    · simp [e1,e2]
    · have hr:¬ 0 < eR ws ⟨j,false⟩:=fun hr=>by
       have:=hm ⟨j,false⟩ (qu_.2 ⟨hj,hr⟩) e2
       simp only [eT,Bool.false_eq_true,if_false] at this
       rw [show (ws.getD j Way.z) = at_ ws j from rfl,e1] at this;cases this
      simp only [eR,Bool.false_eq_true,if_false,show (ws.getD j Way.z) = at_ ws j from rfl] at hr
      simp only [e1,e2,Bool.false_eq_true,if_false,if_true]
      omega
    · have hr:¬ 0 < eR ws ⟨j,true⟩:=fun hr=>by
       have:=hm ⟨j,true⟩ (qu_.2 ⟨hj,hr⟩) e1
       simp only [eT,if_true] at this
       rw [show (ws.getD j Way.z) = at_ ws j from rfl,e2] at this;cases this
      simp only [eR,if_true,show (ws.getD j Way.z) = at_ ws j from rfl] at hr
      simp only [e1,e2,Bool.false_eq_true,if_false,if_true]
      omega
    · simp [e1,e2]
  · have hx2:=hx.need i (by omega)
    have hs':=hs.at i
    have g1:gs xs i = (at_ xs i).goes:=rfl
    have g2:gs ws i = (at_ ws i).goes:=rfl
    simp only [ha,hb,Bool.false_eq_true,if_false,if_true]
    omega
 rw [ht,zp_ fun _ _=>rfl] at hlt
 omega
end Go.Proofs.LS