/- Parts of the proof of a law of layer 11 (file): LsMake. The conditions stand in each theorem. -/
import Derived.Test.YtffjknkcogmnbaaGreatDoorProg
import Derived.Test.YtffjknkcogmnbaaGreatDoorSpad
set_option linter.all false
set_option linter.unusedVariables false
set_option linter.unusedSimpArgs false
namespace Go.Proofs.LS
def dl (c:Cg) (i:Nat):Int:=if i = c.way then (if c.more then 1 else -1) else 0
theorem put1_len (ws:List Way) (d:Int) (c:Cg):(x3_ ws d c).length = ws.length:=by simp [x3_]
theorem put1_at (ws:List Way) (d:Int) (c:Cg) (i:Nat) (hi:i < ws.length):at_ (x3_ ws d c) i = { at_ ws i with goes:=(at_ ws i).goes + d * dl c i }:=by
 rw [at_,x3_,List.getD_eq_getElem?_getD,List.getElem?_modify,at_,List.getD_eq_getElem?_getD,List.getElem?_eq_getElem hi]
 by_cases e:c.way = i
 · subst e
   simp only [if_true,Option.map_eq_map,Option.map_some,Option.getD_some,dl]
   split <;> simp [Int.sub_eq_add_neg]
 · have e2:¬ i = c.way:=fun h=>e h.symm
   simp [e,e2,dl]
def dls (l:List Cg) (i:Nat):Int:=l.foldl (fun m c=>m + dl c i) 0
theorem dls_acc (l:List Cg) (i:Nat) (m:Int):l.foldl (fun m c=>m + dl c i) m = m + dls l i:=by
 induction l generalizing m with
 | nil=>simp [dls]
 | cons c l ih=>rw [List.foldl_cons,ih,show dls (c :: l) i = 0 + dl c i + dls l i from by rw [dls,List.foldl_cons,ih]];omega
theorem kd_ (c:Cg) (l:List Cg) (i:Nat):dls (c :: l) i = dl c i + dls l i:=by
 rw [dls,List.foldl_cons,dls_acc];omega
theorem puts_at (l:List Cg) (d:Int):∀ (ws:List Way) (i:Nat),i < ws.length→(l.foldl (fun ws' c=>x3_ ws' d c) ws).length = ws.length∧at_ (l.foldl (fun ws' c=>x3_ ws' d c) ws) i = { at_ ws i with goes:=(at_ ws i).goes + d * dls l i }:=by
 induction l with
 | nil=>intro ws i hi;simp [dls]
 | cons c l ih=>
   intro ws i hi
   rw [List.foldl_cons]
   have h:=ih (x3_ ws d c) i (by rw [put1_len];exact hi)
   rw [h.2,put1_at _ _ _ _ hi,h.1,put1_len,kd_,Int.mul_add]
   refine ⟨rfl,?_⟩
   simp only [Way.mk.injEq,true_and]
   omega
theorem yJ_ (ws:List Way) (l:List Cg) (m:Int):(kP_ ws l m).length = ws.length:=by
 rw [kP_]
 have:∀ (l:List Cg) (d:Int) (ws:List Way),(l.foldl (fun ws' c=>x3_ ws' d c) ws).length = ws.length:=by
  intro l d
  induction l with
  | nil=>intro ws;rfl
  | cons c l ih=>intro ws;rw [List.foldl_cons,ih,put1_len]
 exact this l _ ws
theorem make_at (ws:List Way) (l:List Cg) (m:Int) (i:Nat) (hi:i < ws.length):at_ (kP_ ws l m) i = { at_ ws i with goes:=(at_ ws i).goes + mMost ws l m * dls l i }:=(puts_at l _ ws i hi).2
theorem ext_at {ws xs:List Way} (hl:ws.length = xs.length) (h:∀ i,i < ws.length→(at_ ws i).bare = (at_ xs i).bare):z6_ ws xs:=by
 refine List.ext_getElem? fun i=>?_
 rw [List.getElem?_map,List.getElem?_map]
 by_cases hi:i < ws.length
 · have:=h i hi
   simp only [at_,List.getD_eq_getElem?_getD,List.getElem?_eq_getElem hi,List.getElem?_eq_getElem (show i < xs.length by omega),Option.getD_some] at this
   rw [List.getElem?_eq_getElem hi,List.getElem?_eq_getElem (by omega),Option.map_some,Option.map_some,this]
 · rw [List.getElem?_eq_none (by omega),List.getElem?_eq_none (by omega)]
theorem make_same (ws:List Way) (l:List Cg) (m:Int):z6_ ws (kP_ ws l m):=ext_at (yJ_ _ _ _).symm fun i hi=>by rw [make_at _ _ _ _ hi];rfl
theorem z6_.symm {ws xs:List Way} (h:z6_ ws xs):z6_ xs ws:=Eq.symm h
theorem z6_.trans {ws xs ys:List Way} (h:z6_ ws xs) (k:z6_ xs ys):z6_ ws ys:=Eq.trans h k
def Chn (ws:List Way):List Cg→Nat→Nat→Prop
 | [],x,y=>x = y
 | c :: l,x,y=>eT ws c = y∧Chn ws l x (eF ws c)
theorem Chn.app {ws:List Way}:∀ {l k:List Cg} {x y z:Nat},Chn ws l y z→Chn ws k x y→Chn ws (l ++ k) x z
 | [],_,_,_,_,h,h'=>by rw [show _ = _ from h] at h';exact h'
 | _ :: _,_,_,_,_,⟨h1,h2⟩,h'=>⟨h1,h2.app h'⟩
theorem chn_net {ws:List Way} (hn:∀ i,i < ws.length→(at_ ws i).f ≠ (at_ ws i).t) (v:Nat):∀ {l:List Cg} {x y:Nat},(∀ c ∈ l,c.way < ws.length)→Chn ws l x y→nt ws (dls l) v = (if x = v then 1 else 0) - (if y = v then 1 else 0)
 | [],x,y,_,h=>by
   rw [show x = y from h,nt,zp_ fun i _=>by simp [dls]]
   omega
 | c :: l,x,y,hw,⟨h1,h2⟩=>by
   have ih:=chn_net hn v (fun c hc=>hw c (List.mem_cons_of_mem _ hc)) h2
   have hc:=hw c (List.mem_cons_self ..)
   have e:nt ws (dls (c :: l)) v = nt ws (dl c) v + nt ws (dls l) v:=by
    rw [nt,nt,nt,← vX_]
    exact qo_ fun i _=>by
     rw [kd_]
     split <;> split <;> omega
   have e2:nt ws (dl c) v = (if eF ws c = v then 1 else 0) - (if eT ws c = v then 1 else 0):=by
    rw [nt,← sm_one (n:=ws.length) (k:=c.way) (d:=(if eF ws c = v then (1:Int) else 0) - (if eT ws c = v then 1 else 0)) hc]
    refine qo_ fun i _=>?_
    rw [dl]
    by_cases e:i = c.way
    · subst e
      rw [if_pos rfl,if_pos rfl,eF,eT]
      rw [show (ws.getD c.way Way.z) = at_ ws c.way from rfl]
      have:=hn _ hc
      cases c.more with
      | true=>simp only [if_true]
      | false=>
        simp only [Bool.false_eq_true,if_false]
        split <;> split <;> omega
    · simp [e]
   rw [e,e2,ih,h1]
   omega
def cs (ws:List Way) (l:List Cg):Int:=l.foldl (fun m c=>m + eC ws c) 0
theorem cs_acc (ws:List Way) (l:List Cg) (m:Int):l.foldl (fun m c=>m + eC ws c) m = m + cs ws l:=by
 induction l generalizing m with
 | nil=>simp [cs]
 | cons c l ih=>rw [List.foldl_cons,ih,show cs ws (c :: l) = 0 + eC ws c + cs ws l from by rw [cs,List.foldl_cons,ih]];omega
theorem vJ_ (ws:List Way) (c:Cg) (l:List Cg):cs ws (c :: l) = eC ws c + cs ws l:=by
 rw [cs,List.foldl_cons,cs_acc];omega
theorem cs_dls {ws:List Way}:∀ {l:List Cg},(∀ c ∈ l,c.way < ws.length)→sm ws.length (fun i=>(at_ ws i).cost * dls l i) = cs ws l
 | [],_=>zp_ fun i _=>by simp [dls]
 | c :: l,hw=>by
   have ih:=cs_dls (l:=l) fun c hc=>hw c (List.mem_cons_of_mem _ hc)
   have hc:=hw c (List.mem_cons_self ..)
   rw [vJ_,← ih,show (sm ws.length fun i=>(at_ ws i).cost * dls (c :: l) i) = sm ws.length (fun i=>(at_ ws i).cost * dl c i) + sm ws.length fun i=>(at_ ws i).cost * dls l i from by
    rw [← vX_];exact qo_ fun i _=>by rw [kd_,Int.mul_add]]
   congr 1
   rw [← sm_one (n:=ws.length) (k:=c.way) (d:=eC ws c) hc]
   refine qo_ fun i _=>?_
   rw [dl,eC,show (ws.getD c.way Way.z) = at_ ws c.way from rfl]
   by_cases e:i = c.way
   · subst e;cases c.more <;> simp
   · simp [e]
theorem jl_ {ws:List Way}:∀ {l:List Cg} {m:Int},mMost ws l m ≤ m∧∀ c ∈ l,mMost ws l m ≤ eR ws c
 | [],m=>⟨Int.le_refl _,by simp⟩
 | c :: l,m=>by
   have h:=jl_ (ws:=ws) (l:=l) (m:=min m (eR ws c))
   rw [mMost,List.foldl_cons]
   refine ⟨Int.le_trans h.1 (Int.min_le_left _ _),fun c' hc'=>?_⟩
   rcases List.mem_cons.1 hc' with e | e
   · subst e;exact Int.le_trans h.1 (Int.min_le_right _ _)
   · exact h.2 c' e
theorem y8_ {ws:List Way}:∀ {l:List Cg} {m:Int},0 < m→(∀ c ∈ l,0 < eR ws c)→0 < mMost ws l m
 | [],_,hm,_=>hm
 | c :: l,m,hm,h=>by
   rw [mMost,List.foldl_cons]
   have h1:=h c (List.mem_cons_self ..)
   exact y8_ (l:=l) (by omega) fun c' hc'=>h c' (List.mem_cons_of_mem _ hc')
def Once (l:List Cg):Prop:=l.Pairwise fun a b=>a.way ≠ b.way
theorem dls_no {i:Nat}:∀ {l:List Cg},(∀ c ∈ l,c.way ≠ i)→dls l i = 0
 | [],_=>rfl
 | c :: l,h=>by
   rw [kd_,dls_no fun c' hc'=>h c' (List.mem_cons_of_mem _ hc'),dl,if_neg fun e=>h c (List.mem_cons_self ..) e.symm];rfl
theorem xx_ {i:Nat}:∀ {l:List Cg},Once l→dls l i = 0 ∨ ∃ c ∈ l,c.way = i∧dls l i = if c.more then 1 else -1
 | [],_ => .inl rfl
 | c :: l,h=>by
   obtain ⟨h1,h2⟩:=List.pairwise_cons.1 h
   rw [kd_,dl]
   by_cases e:i = c.way
   · right
     refine ⟨c,List.mem_cons_self ..,e.symm,?_⟩
     rw [dls_no fun c' hc'=>by rw [e];exact (h1 c' hc').symm,if_pos e];simp
   · rw [if_neg e]
     rcases xx_ (i:=i) h2 with h3 | ⟨c',h3,h4,h5⟩
     · left;omega
     · right;exact ⟨c',List.mem_cons_of_mem _ h3,h4,by omega⟩
theorem make_flow {ws:List Way} {l:List Cg} {m:Int} {a:Nat} (h:Flow ws) (hl:∀ c ∈ l,c ∈ qM_ ws ws.length) (ho:Once l) (hc:Chn ws l a a) (hm:0 < m) :
 Flow (kP_ ws l m)∧z6_ ws (kP_ ws l m)∧0 < mMost ws l m∧mMost ws l m ≤ m∧(∀ i,i < ws.length→(at_ (kP_ ws l m) i).goes = (at_ ws i).goes + mMost ws l m * dls l i) ∧
  (∀ i,i < ws.length→(at_ ws i).lo ≤ (at_ ws i).goes→(at_ ws i).lo ≤ (at_ (kP_ ws l m) i).goes)∧costW (kP_ ws l m) = costW ws + mMost ws l m * cs ws l:=by
 have hs:=make_same ws l m
 have hlen:=yJ_ ws l m
 have hw:∀ c ∈ l,c.way < ws.length:=fun c h=>(qu_.1 (hl c h)).1
 have hd:0 < mMost ws l m:=y8_ hm fun c h=>(qu_.1 (hl c h)).2
 have hle:=jl_ (ws:=ws) (l:=l) (m:=m)
 have hat:∀ i,i < ws.length→(at_ (kP_ ws l m) i).goes = (at_ ws i).goes + mMost ws l m * dls l i:=fun i hi=>by rw [make_at _ _ _ _ hi]
 refine ⟨⟨fun i hi=>?_,fun i hi=>by rw [← (hs.at i).2.2.1];exact h.low i (by omega),fun i hi=>?_,fun v hv=>?_⟩,hs,hd,hle.1,hat,fun i hi hlo=>?_,?_⟩
 · have:=hs.at i
   rw [← this.1,← this.2.1]
   exact h.node i (by omega)
 · have:=hs.at i
   have hi':i < ws.length:=by omega
   have hlim:=h.lim i hi'
   have hlow:=h.low i hi'
   rw [hat i hi',← this.2.2.2.1]
   rcases xx_ (i:=i) ho with e | ⟨c,h1,h2,h3⟩
   · rw [e];omega
   · have hr:=hle.2 c h1
     rw [eR,h2,show (ws.getD i Way.z) = at_ ws i from rfl] at hr
     rw [h3]
     cases hcm:c.more with
     | true=>rw [hcm] at hr;simp only [if_true] at hr ⊢;omega
     | false=>rw [hcm] at hr;simp only [Bool.false_eq_true,if_false] at hr ⊢;omega
 · rw [← hs.nt]
   have e:nt ws (gs (kP_ ws l m)) v = nt ws (gs ws) v + mMost ws l m * nt ws (dls l) v:=by
    rw [nt,nt,nt,← sm_mul,← vX_]
    refine qo_ fun i hi=>?_
    rw [show gs (kP_ ws l m) i = gs ws i + mMost ws l m * dls l i from hat i hi,Int.mul_sub]
    split <;> split <;> simp <;> omega
   rw [e,h.net v hv,chn_net (fun i hi=>(h.node i hi).2.2) v hw hc]
   simp
 · rw [hat i hi]
   rcases xx_ (i:=i) ho with e | ⟨c,h1,h2,h3⟩
   · rw [e];omega
   · have hr:=hle.2 c h1
     rw [eR,h2,show (ws.getD i Way.z) = at_ ws i from rfl] at hr
     rw [h3]
     cases hcm:c.more with
     | true=>simp only [if_true];omega
     | false=>rw [hcm] at hr;simp only [Bool.false_eq_true,if_false] at hr ⊢;omega
 · rw [zy_,zy_,hlen,← cs_dls hw,← sm_mul,← vX_]
   refine qo_ fun i hi=>?_
   rw [hat i hi,← (hs.at i).2.2.2.2,Int.mul_add]
   congr 1
   rw [← Int.mul_assoc,← Int.mul_assoc,Int.mul_comm (at_ ws i).cost]
end Go.Proofs.LS