/- Parts of the proof of a law of layer 11 (file): LbS18. The conditions stand in each theorem. -/
import Derived.Test.YtffjknkcogmnbaaGreatDoorProg
import Derived.Test.YtffjknkcogmnbaaGreatDoorSpbc
set_option linter.all false
set_option linter.unusedVariables false
set_option linter.unusedSimpArgs false
namespace Go.Proofs.LS
open Go.RowKit Go.Sort Go.Proofs.LF Go.Proofs.LB
set_option maxHeartbeats 4000000
set_option maxRecDepth 100000
attribute [local go_sem] q1_ q2_ q6_
theorem vZ_ (ws:List Way) (k:Nat) (hk:k < ws.length):costW (ws.take (k + 1)) = costW (ws.take k) + ws[k].cost * ws[k].goes:=by
 rw [List.take_succ_eq_append_getElem hk,costW,List.foldl_append];rfl
theorem jX_ {ws:List Way} (hW:WB ws):∀ (k:Nat),k ≤ ws.length→0 ≤ costW (ws.take k)∧costW (ws.take k) ≤ 1000000 * (k:Int):=by
 intro k hk
 induction k with
 | zero=>simp [costW]
 | succ k ih=>
   rw [vZ_ ws k (by omega)]
   have h1:=ih (by omega)
   have h2:=hW ws[k] (List.getElem_mem (by omega))
   have h3:0 ≤ ws[k].cost * ws[k].goes∧ws[k].cost * ws[k].goes ≤ 1000000:=by
    rcases (show ws[k].cost = 0 ∨ ws[k].cost = 1 by omega) with e | e <;> rw [e] <;> omega
   omega
theorem cost_any (B N:Nat) (v:Value) (ws:List Way) (w:World) (hN:NetS B N v ws w) (hW:WB ws) (hlen:ws.length ≤ 100) :
 Calls Tryz.prog 70 #[.pointer (some ⟨N,0,none⟩)] w fun e w'=>e = .returned (.int .i64 (costW ws))∧Below w.heap.size w w':=by
 have HN:=hid hN
 have HW:=hid hW
 obtain ⟨va,vc,hve,hvc,_⟩:=owns_shape hN.own
 have n0:=cg_ hN.n (k:=0) (v := .slice va ws.length vc) (by rw [hve];rfl)
 have HVE:=hid hve
 clear hN hW hve
 go_enter Tryz.func70,Tryz.ntmps70
 go_wp2_with fail
 clear n0
 go_loopw [3,11] (fun vs vi wr=>∃ k:Nat,k ≤ ws.length∧vi = .int .i64 k∧vs = .int .i64 (costW (ws.take k))∧Hid (Below w.heap.size w wr)) (fun _ vi _=>ws.length - (intOf vi).toNat)
 case atStart=>exact ⟨0,by omega,rfl,rfl,Below.refl _ _⟩
 case round=>
  obtain ⟨k,hk,rfl,rfl,HB⟩:=hrel
  by_cases hlt:k < ws.length
  · have hlt':(k:Int) < (ws.length:Int):=by omega
    have h0:(0:Int) ≤ (k:Int):=by omega
    have hNr:=HN.out.below HB.out
    obtain ⟨g,gc,hv2,hgB,hgl,hgc,hgm,hat⟩:=hNr.at hlt
    rw [HVE.out] at hv2
    obtain ⟨rfl,rfl⟩:va = some ⟨g,0,none⟩∧vc = gc:=by simpa using hv2
    obtain ⟨x,hx⟩:∃ x,ws[k] = x:=⟨_,rfl⟩
    have hct:=vZ_ ws k hlt
    have hb1:=jX_ HW.out k hk
    have hb2:=jX_ HW.out (k + 1) (by omega)
    have hxW:=HW.out x (by rw [← hx];exact List.getElem_mem hlt)
    rw [hx] at hat hct
    obtain ⟨s,hs⟩:∃ s,costW (ws.take k) = s:=⟨_,rfl⟩
    rw [hs] at hct hb1 ⊢
    rw [hct] at hb2
    have HCT:=hid hct
    have e0:=(hat 0 _ rfl).1
    rw [Nat.add_zero] at e0
    have e1:=(hat 1 _ rfl).1
    have e2:=(hat 2 _ rfl).1
    have e3:=(hat 3 _ rfl).1
    have e4:=(hat 4 _ rfl).1
    have e5:=(hat 5 _ rfl).1
    have hm:0 ≤ x.cost * x.goes∧x.cost * x.goes ≤ 1000000:=by
     rcases (show x.cost = 0 ∨ x.cost = 1 by omega) with e | e <;> rw [e] <;> omega
    obtain ⟨pr,hpr⟩:∃ y,x.cost * x.goes = y:=⟨_,rfl⟩
    have hw1:IntKind.i64.wrap (x.cost * x.goes) = pr:=by rw [IntWalk.i64_in _ (by omega),hpr]
    rw [hpr] at hm hb2 HCT
    have hw2:IntKind.i64.wrap (s + pr) = s + pr:=IntWalk.i64_in _ (by omega)
    obtain ⟨w2,hw2'⟩:∃ w2,wr.alloc (.cells #[.int .i64 x.f, .int .i64 x.t, .int .i64 x.lo, .int .i64 x.hi, .int .i64 x.cost, .int .i64 x.goes] 229) = w2:=⟨_,rfl⟩
    have hb:Below wr.heap.size wr w2:=by rw [← hw2'];exact (Below.refl _ _).alloc (nl_ _) _
    have hn:w2.heap[wr.heap.size]? = some (.cells (wC x) 229 (0,0)):=by rw [← hw2'];exact ha_ _ _
    have z4:=cg_ hn (k:=4) (v := .int .i64 x.cost) rfl
    have z5:=cg_ hn (k:=5) (v := .int .i64 x.goes) rfl
    have B2:=hid (HB.out.trans (hb.mono HB.out.size))
    clear hat hx hs hct hb hn hNr hv2 hpr HB
    unfold maxLen at hgm
    go_wp2_with fail
    try rw [hw2']
    go_roundw
    case rel=>exact ⟨k + 1,by omega,by go_num,by rw [HCT.out],B2.out⟩
    case measure=>simp [intOf];omega
  · obtain rfl:k = ws.length:=by omega
    rw [List.take_length]
    obtain ⟨s,hs⟩:∃ s,costW ws = s:=⟨_,rfl⟩
    rw [hs]
    go_wp2_with fail
    go_ret
    exact ⟨by show Ending.returned (.int .i64 s) = _;rw [hs],HB.out⟩
end Go.Proofs.LS