/- Parts of the proof of a law of layer 11 (file): LsStep. The conditions stand in each theorem. -/
import Derived.Test.YtffjknkcogmnbaaGreatDoorProg
import Derived.Test.YtffjknkcogmnbaaGreatDoorTyal
set_option linter.all false
set_option linter.unusedVariables false
set_option linter.unusedSimpArgs false
namespace Go.Proofs.LS
theorem fill_step {xs:List Way} (hx:Fit xs) {i:Nat} {ws:List Way} (hF:Flow ws) (hS:z5_ ws xs) (hi:i < ws.length) (hlt:(at_ ws i).goes < (at_ ws i).lo) :
 ∃ l met,path ws (at_ ws i).t (at_ ws i).f = some (l,met)∧l ≠ []∧l.length ≤ 12∧(∀ c ∈ l ++ [⟨i,true⟩],c.way < ws.length)∧Flow (k7_ ws (l ++ [⟨i,true⟩]) ((at_ ws i).lo - (at_ ws i).goes))∧z5_ ws (k7_ ws (l ++ [⟨i,true⟩]) ((at_ ws i).lo - (at_ ws i).goes)) ∧
  (at_ ws i).goes < (at_ (k7_ ws (l ++ [⟨i,true⟩]) ((at_ ws i).lo - (at_ ws i).goes)) i).goes∧(∀ j,j < ws.length→(at_ ws j).lo ≤ (at_ ws j).goes→(at_ ws j).lo ≤ (at_ (k7_ ws (l ++ [⟨i,true⟩]) ((at_ ws i).lo - (at_ ws i).goes)) j).goes):=by
 obtain ⟨n1,n2,n3⟩:=hF.node i hi
 rcases jP_ (b:=(at_ ws i).f) hF n2 n3.symm with ⟨met,p1,_,p2,p3,p4⟩ | ⟨l,met,p1,_,p2,p6,p3,p4,p5⟩
 · exact (lack_no hF hS hx hi hlt (fun v=>met.getD v false) p2 p3 p4).elim
 · have hno:∀ c ∈ l,c.way ≠ i:=fun c hc e=>by
    obtain ⟨q1,q2⟩:=p4 c hc
    have hr:=(qp_.1 q1).2
    cases hm:c.more with
    | true=>rw [eT,hm,e] at q2;exact q2 rfl
    | false=>
      rw [eR,hm,e,show (ws.getD i Way.z) = at_ ws i from rfl] at hr
      simp only [Bool.false_eq_true,if_false] at hr
      omega
   have hlv:(⟨i,true⟩:Cg) ∈ qN_ ws ws.length:=qp_.2 ⟨hi,by
    show (0:Int) < (at_ ws i).hi - (at_ ws i).goes
    have h1:=hx.lim i (by rw [← hS.len];exact hi)
    have h2:=hx.need i (by rw [← hS.len];exact hi)
    have h3:=hS.at i
    omega⟩
   have hch:Chn ws (l ++ [⟨i,true⟩]) (at_ ws i).f (at_ ws i).f:=p3.app ⟨rfl,rfl⟩
   have hon:Once (l ++ [⟨i,true⟩]):=List.pairwise_append.2 ⟨p5,List.pairwise_cons.2 ⟨by simp,List.Pairwise.nil⟩,fun c hc d hd=>by rw [List.mem_singleton.1 hd];exact hno c hc⟩
   have hli:∀ c ∈ l ++ [⟨i,true⟩],c ∈ qN_ ws ws.length:=fun c hc=>by
    rcases List.mem_append.1 hc with e | e
    · exact (p4 c e).1
    · rw [List.mem_singleton.1 e];exact hlv
   obtain ⟨m1,m2,m3,m4,m5,m6,_⟩:=make_flow (m:=(at_ ws i).lo - (at_ ws i).goes) hF hli hon hch (by omega)
   have hd:dls (l ++ [⟨i,true⟩]) i = 1:=by
    have:∀ (l k:List Cg),dls (l ++ k) i = dls l i + dls k i:=fun l k=>by rw [dls,List.foldl_append,jN_];rfl
    rw [this,ym_ hno]
    simp [dls,dl]
   have hg:=m5 i hi
   rw [hd,Int.mul_one] at hg
   exact ⟨l,met,p1,p2,p6,fun c hc=>(qp_.1 (hli c hc)).1,m1,m2,by omega,m6⟩
theorem cheap_step {ws:List Way} (hF:Fit ws) (hc:∀ i,i < ws.length→0 ≤ (at_ ws i).cost) (hl:¬ (cAll ws).last < 0) :
 ∃ l,cycle ws (cAll ws) = some l∧l ≠ []∧l.length ≤ 13∧(∀ c ∈ l,c.way < ws.length)∧Fit (k7_ ws l 1000000)∧z5_ ws (k7_ ws l 1000000)∧costW (k7_ ws l 1000000) < costW ws∧0 ≤ costW (k7_ ws l 1000000):=by
 obtain ⟨l,a,c1,c2,c3,c4,c5,c6,c7⟩:=cycle_ok hF.toFlow (by omega)
 obtain ⟨m1,m2,m3,m4,m5,m6,m7⟩:=make_flow (m:=1000000) hF.toFlow c5 c6 c4 (by omega)
 have hF':Fit (k7_ ws l 1000000):=⟨m1,fun i hi=>by
  have hi':i < ws.length:=by rw [m2.len];exact hi
  rw [← (m2.at i).2.2.1];exact m6 i hi' (hF.need i hi')⟩
 have hc':∀ i,i < (k7_ ws l 1000000).length→0 ≤ (at_ (k7_ ws l 1000000) i).cost:=fun i hi=>by
  rw [← (m2.at i).2.2.2.2];exact hc i (by rw [m2.len];exact hi)
 have hdec:mMost ws l 1000000 * cs ws l < 0:=Int.mul_neg_of_pos_of_neg m3 c7
 exact ⟨l,c1,c2,c3,fun c hc=>(qp_.1 (c5 c hc)).1,hF',m2,by omega,x7_ m1 hc'⟩
theorem yN_ {ws xs:List Way} (hF:Fit ws) (hl:(cAll ws).last < 0) (hS:z5_ ws xs) (hx:Fit xs):costW ws ≤ costW xs:=by
 obtain ⟨τ,L,N,hJ⟩:=cAll_ok hF.toFlow
 exact opt hF hS hx (fr (cAll ws)) fun c h=>hJ.no hl c h
end Go.Proofs.LS