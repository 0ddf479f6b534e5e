/- Parts of the proof of a law of layer 11 (file): LsFill, LsBell2. The conditions stand in each theorem. -/
import Derived.Test.YtffjknkcogmnbaaGreatDoorProg
import Derived.Test.YtffjknkcogmnbaaGreatDoorSpaj
set_option linter.all false
set_option linter.unusedVariables false
set_option linter.unusedSimpArgs false
namespace Go.Proofs.LS
theorem costW_nn {ws:List Way} (hF:Flow ws) (hc:∀ i,i < ws.length→0 ≤ (at_ ws i).cost):0 ≤ costW ws:=by
 rw [zy_,show (0:Int) = sm ws.length fun _=>0 from (zp_ fun _ _=>rfl).symm]
 exact sm_le fun i hi=>Int.mul_nonneg (hc i hi) (hF.lim i hi).1
theorem filled_le {ws xs ws' xs':List Way} (hw:∀ ys,z6_ ws ys→Fit ys→costW ws' ≤ costW ys) (hF:Fit xs') (hS:z6_ xs xs')
 (hl:ws.length = xs.length) (hat:∀ i,i < ws.length→(at_ ws i).f = (at_ xs i).f∧(at_ ws i).t = (at_ xs i).t∧0 ≤ (at_ ws i).lo∧(at_ ws i).lo ≤ (at_ xs i).lo∧(at_ xs i).hi ≤ (at_ ws i).hi∧(at_ ws i).cost = (at_ xs i).cost):costW ws' ≤ costW xs':=by
 obtain ⟨ys,hys⟩:∃ ys:List Way,ys = (List.range ws.length).map fun i=>{ at_ ws i with goes:=(at_ xs' i).goes }:=⟨_,rfl⟩
 have hyl:ys.length = ws.length:=by rw [hys];simp
 have hya:∀ i,i < ws.length→at_ ys i = { at_ ws i with goes:=(at_ xs' i).goes }:=fun i hi=>by
  rw [at_,hys,List.getD_eq_getElem?_getD,List.getElem?_map,List.getElem?_range hi];rfl
 have hsy:z6_ ws ys:=ext_at hyl.symm fun i hi=>by rw [hya i hi];rfl
 have hxl:xs'.length = ws.length:=by rw [← hS.len,hl]
 have hfy:Fit ys:=by
  refine ⟨⟨fun i hi=>?_,fun i hi=>?_,fun i hi=>?_,fun v hv=>?_⟩,fun i hi=>?_⟩
  · rw [hyl] at hi
    rw [hya i hi]
    have:=hF.node i (by omega)
    have h3:=hat i hi
    have h4:=hS.at i
    show (at_ ws i).f < 12∧(at_ ws i).t < 12∧(at_ ws i).f ≠ (at_ ws i).t
    rw [h3.1,h3.2.1,h4.1,h4.2.1];exact this
  · rw [hyl] at hi
    rw [hya i hi];exact (hat i hi).2.2.1
  · rw [hyl] at hi
    rw [hya i hi]
    have:=hF.lim i (by omega)
    have h3:=hat i hi
    have h4:=hS.at i
    show 0 ≤ (at_ xs' i).goes∧(at_ xs' i).goes ≤ (at_ ws i).hi
    omega
  · have:=hF.net v hv
    rw [← this,nt,nt,hyl,hxl]
    refine qo_ fun i hi=>?_
    have h3:=hat i hi
    have h4:=hS.at i
    rw [gs,gs,hya i hi]
    show (if (at_ ws i).f = v then (at_ xs' i).goes else 0) - (if (at_ ws i).t = v then (at_ xs' i).goes else 0) = _
    rw [h3.1,h3.2.1,h4.1,h4.2.1]
  · rw [hyl] at hi
    rw [hya i hi]
    have:=hF.need i (by omega)
    have h3:=hat i hi
    have h4:=hS.at i
    show (at_ ws i).lo ≤ (at_ xs' i).goes
    omega
 have:=hw ys hsy hfy
 have e:costW ys = costW xs':=by
  rw [zy_,zy_,hyl,hxl]
  refine qo_ fun i hi=>?_
  rw [hya i hi]
  show (at_ ws i).cost * (at_ xs' i).goes = _
  rw [(hat i hi).2.2.2.2.2,(hS.at i).2.2.2.2]
 omega
theorem cyc_live {ws:List Way} (h:Flow ws) (hl:0 ≤ (cAll ws).last):(cAll ws).last.toNat < 12∧∀ n,cby (cAll ws) (iter (fun at_=>eF ws (cby (cAll ws) at_)) n (cAll ws).last.toNat) ∈ qM_ ws ws.length:=by
 obtain ⟨τ,L,N,hJ⟩:=cAll_ok h
 obtain ⟨hv,hL⟩:=hJ.yes hl
 obtain ⟨s,hs⟩:∃ s,cAll ws = s:=⟨_,rfl⟩
 rw [hs] at hJ hl hv hL ⊢
 obtain ⟨v,hv'⟩:∃ v,s.last.toNat = v:=⟨_,rfl⟩
 obtain ⟨f,hf⟩:∃ f:Nat→Nat,f = fun at_=>eF ws (cby s at_):=⟨_,rfl⟩
 have hfx:∀ x,eF ws (cby s x) = f x:=fun x=>by rw [hf]
 rw [hv'] at hv hL
 have hX:∀ j,j ≤ 12→13 ≤ L (iter f j v) + j∧iter f j v < 12:=by
  intro j
  induction j with
  | zero=>intro _;exact ⟨by show 13 ≤ L v + 0;omega,hv⟩
  | succ j ih=>
    intro hj
    obtain ⟨h1,h2⟩:=ih (by omega)
    obtain ⟨k1,k2,k3,k4,k5⟩:=hJ.ex (iter f j v) (by omega)
    rw [hfx] at k5
    rw [qx_]
    have:=ends_lt h k1
    rw [hfx] at this
    exact ⟨by omega,this.1⟩
 obtain ⟨i,j,hij,hj,he⟩:=php (n:=12) (fun k=>iter f k v) fun k hk=>(hX k hk).2
 have he:iter f i v = iter f j v:=he
 have hper:∀ n,∃ m,m ≤ 12∧iter f n v = iter f m v:=by
  intro n
  induction n with
  | zero=>exact ⟨0,by omega,rfl⟩
  | succ n ih=>
    obtain ⟨m,h1,h2⟩:=ih
    by_cases e:m = 12
    · refine ⟨i + (13 - j),by omega,?_⟩
      rw [qx_,h2,e,← qx_ f 12 v,show (12:Nat) + 1 = j + (13 - j) by omega,qX_,qX_,he]
    · exact ⟨m + 1,by omega,by rw [qx_,qx_,h2]⟩
 have hgood:∀ n,1 ≤ L (iter f n v):=fun n=>by
  obtain ⟨m,h1,h2⟩:=hper n
  have:=(hX m h1).1
  rw [h2];omega
 refine ⟨by rw [hv'];exact hv,fun n=>?_⟩
 rw [← hf,hv']
 exact (hJ.ex _ (hgood n)).1
end Go.Proofs.LS