/- Scalps kept in files. -/
import Derived.Test.YtffjknkcogmnbaaGreatDoorSpaa
import Derived.Test.YtffjknkcogmnbaaGreatDoorSpac
import Derived.Test.YtffjknkcogmnbaaGreatDoorSpae
import Derived.Test.YtffjknkcogmnbaaGreatDoorSpag
import Derived.Test.YtffjknkcogmnbaaGreatDoorSpah
import Derived.Test.YtffjknkcogmnbaaGreatDoorSpai
import Derived.Test.YtffjknkcogmnbaaGreatDoorSpaj
import Derived.Test.YtffjknkcogmnbaaGreatDoorSpak
import Derived.Test.YtffjknkcogmnbaaGreatDoorSpal
import Derived.Test.YtffjknkcogmnbaaGreatDoorSpan
import Derived.Test.YtffjknkcogmnbaaGreatDoorSpao
import Derived.Test.YtffjknkcogmnbaaGreatDoorSpap
import Derived.Test.YtffjknkcogmnbaaGreatDoorSpaq
import Derived.Test.YtffjknkcogmnbaaGreatDoorSpar
import Derived.Test.YtffjknkcogmnbaaGreatDoorSpas
import Derived.Test.YtffjknkcogmnbaaGreatDoorSpat
import Derived.Test.YtffjknkcogmnbaaGreatDoorSpau
import Derived.Test.YtffjknkcogmnbaaGreatDoorSpav
import Derived.Test.YtffjknkcogmnbaaGreatDoorSpaw
import Derived.Test.YtffjknkcogmnbaaGreatDoorSpax
import Derived.Test.YtffjknkcogmnbaaGreatDoorSpay
import Derived.Test.YtffjknkcogmnbaaGreatDoorSpaz
import Derived.Test.YtffjknkcogmnbaaGreatDoorSpbm
set_option linter.all false
set_option linter.unusedVariables false
set_option linter.unusedSimpArgs false
namespace Go.Proofs.YtffjknkcogmnbaaGreatDoor.fileScalps
open Go.ChangeShapes Go.WideShapes Go.ChangeAt Go.RowKit Go.Lib
set_option maxRecDepth 100000
set_option maxHeartbeats 4000000
theorem u8_wf {n:Int} (h:(Go.Lit.int .u8 n).wf = true):0 ≤ n∧n ≤ 255:=by
 simp [Go.Lit.wf] at h
 exact h
theorem own:ownKnob Tryz.prog.godebug = none:=by kernel_rfl
theorem laidOut:laidOutB Tryz.prog = true:=by kernel_rfl
def tab32:List Int:=[0,1,28,2,29,14,24,3,30,22,20,15,25,17,4,8,31,27,13,23,21,19,16,7,26,12,18,6,11,5,10,9]
def tab64:List Int:=[0,1,56,2,57,49,28,3,61,58,42,50,38,29,17,4,62,47,59,36,45,43,51,22,53,39,33,30,24,18,12,5,63,55,48,27,60,41,37,16,46,35,44,21,52,32,23,11,54,26,40,15,34,20,31,10,25,14,19,9,13,8,7,6]
noncomputable def laidWorld (os:Os):World:=
 let N:=(World.settled Tryz.prog os).heap.size
 let w0:=World.holding Tryz.prog os ⟨#[.cells #[.string ⟨#[118,97,108,117,101,32,111,117,116,32,111,102,32,114,97,110,103,101]⟩] 331, .cells #[.string ⟨#[105,110,118,97,108,105,100,32,115,121,110,116,97,120]⟩] 331],#[],[]⟩
 let put (h:Array Obj) (g:Nat) (cs:Array Value):Array Obj:=h.modify g fun
  | .cells _ t frozen => .cells cs t frozen
  | o=>o
 let h1:=put w0.heap 4 (tab32.map fun z=>Value.int .u8 z).toArray
 let h2:=put h1 5 (tab64.map fun z=>Value.int .u8 z).toArray
 let h3:=put h2 0 (Lib.pow10Tab.map fun z=>Value.int .u64 z).toArray
 let h4:=put h3 2 #[.iface 329 (.pointer (some ⟨N,0,none⟩))]
 let h5:=put h4 1 #[.iface 329 (.pointer (some ⟨N + 1,0,none⟩))]
 { w0 with heap:=h5 }
theorem laid_met (os:Os) (args:Array Value):laidMet Tryz.prog Rows.fileScalpsRow.laid ((laidWorld os).forCall (fun _ _=>0) ⟨#[],args,[]⟩).memory:=
 laidMet_of_run' 8 (by kernel_rfl) (by kernel_rfl)
theorem pow {W:World} (h:laidMetH Tryz.prog Rows.fileScalpsRow.laid W):LF.Pow W:=by
 have h':laidMet Tryz.prog Rows.fileScalpsRow.laid W:=h
 have h2 : laidMet Tryz.prog (("internal/strconv.uint64pow10", Lib.tabData .u64 Lib.pow10Tab) :: [("strconv.ErrRange", Rows.laid_strconv_ErrRange), ("strconv.ErrSyntax", Rows.laid_strconv_ErrSyntax)]) W := h'.tail.tail
 exact Lib.tabIs_of_head (g:=0) (t:=319) (e:=259) (n:=20) (by kernel_rfl) (by kernel_rfl) (by kernel_rfl) (by kernel_rfl) (by kernel_rfl) (by kernel_rfl) h2
theorem reads (os:Os) {H:Type} (enc:TypeId × Value→H):∃ places,DataW.whole enc Tryz.prog ((laidWorld os).forCall (fun _ _=>0) ⟨#[],#[.slice none 0 0, .int .u8 0, .int .u8 0],[]⟩).memory Tryz.f4.params.toList Rows.fileScalpsSpec.vars false #[Value.slice none 0 0,Value.int .u8 0,Value.int .u8 0].toList 8 = some ([.nil, .lit (.int .u8 0), .lit (.int .u8 0)],[],places):=
 ⟨[],by kernel_rfl⟩
theorem contract (H:Type) (enc:TypeId × Value→H) (W:World) (base:Nat) (args:Array Value) (ds gs:List (DataW H)) (before:List MemPlace)
 (hval:∀ (j:Nat) t v,Tryz.f4.params[j]? = some t→args[j]? = some v→Value.okWide Tryz.prog W .any base t v)
 (hW:DataW.Whole enc Tryz.prog Tryz.f4.params.toList Rows.fileScalpsSpec.vars false W args.toList ds gs before) (hL:laidMetH Tryz.prog Rows.fileScalpsRow.laid W) :
 Calls Tryz.prog 4 args W fun e W'=>∃ v,e = .returned v∧Rows.fileScalpsSpec.post enc Tryz.prog Tryz.f4 false true false false W args v W':=by
 have hW':=hW
 obtain ⟨p,q,hA0,hV,rfl,hfz,hnd⟩:=hW
 have hA:DataW.TrodAll enc Tryz.prog W 0 (fun _=>true) true Tryz.f4.params.toList args.toList ds p:=hA0
 rw [Tryz.params4] at hA hval
 obtain ⟨v0,vs0,d0,ds0,p0,q0,hargs,rfl,rfl,h0,r0⟩:=trodAll_cons hA
 obtain ⟨v1,vs1,d1,ds1,p1,q1,rfl,rfl,rfl,h1,r1⟩:=trodAll_cons r0
 obtain ⟨v2,vs2,d2,ds2,p2,q2,rfl,rfl,rfl,h2,r2⟩:=trodAll_cons r1
 obtain ⟨rfl,rfl,rfl⟩:=trodAll_nil r2
 obtain rfl:args = #[v0,v1,v2]:=by cases args;simp_all
 obtain ⟨rfl,rfl⟩:=trodVars_none hV
 clear hA0
 simp only [List.append_nil] at hW'
 obtain ⟨fuel0,hf0⟩:=h0
 obtain ⟨a0,len0,cap0,rfl⟩:=okWide_slice Tryz.underlying22 (hval 0 22 v0 rfl rfl)
 obtain ⟨y0,hF0⟩:=LF.read_bytes hf0
 obtain ⟨b0,c0,he,_,_⟩:=LF.SlC.shape hF0
 obtain ⟨rfl,rfl,rfl⟩:a0 = b0∧len0 = y0.length∧cap0 = c0:=by simpa using he
 obtain ⟨y1,rfl,l1,g1,hw1⟩:=open_int Tryz.underlying5 (hval 1 5 v1 rfl rfl) h1
 obtain ⟨y2,rfl,l2,g2,hw2⟩:=open_int Tryz.underlying5 (hval 2 5 v2 rfl rfl) h2
 have hlt:∀ x ∈ p0 ++ (p1 ++ p2),x.block < W.heap.size:=fun x hx=>by simpa using hW'.lt x hx
 have k1:0 ≤ y1∧y1 ≤ 255:=u8_wf hw1
 have k2:0 ≤ y2∧y2 ≤ 255:=u8_wf hw2
 obtain ⟨u1,rfl⟩:∃ u:Nat,y1 = (u:Int):=⟨y1.toNat,by omega⟩
 obtain ⟨u2,rfl⟩:∃ u:Nat,y2 = (u:Int):=⟨y2.toNat,by omega⟩
 refine (LS.FileScalps_any y0 a0 cap0 u1 u2 (by omega) (by omega) (fun b=>b < W.heap.size) W hF0 (fun _ h=>h) (pow hL)).mono fun e W' ⟨he,bel⟩=>?_
 subst he
 refine ⟨_,rfl,_,_,_,[],p0 ++ (p1 ++ p2),[],hW',?_,?_,rfl,bel.frame _,fun h=>by cases h⟩
 · exact trodAll_mk1 (shut_bool Tryz.underlying4 _)
 · exact trodAll_mk3 (Below.trod laidOut (by kernel_rfl) (of_decide_eq_true (by kernel_rfl)) ⟨fuel0,hf0⟩ bel (fun x hx=>hlt x (by simp [hx]))) (Below.trod laidOut (by kernel_rfl) (of_decide_eq_true (by kernel_rfl)) h1 bel (fun x hx=>hlt x (by simp [hx]))) (Below.trod laidOut (by kernel_rfl) (of_decide_eq_true (by kernel_rfl)) h2 bel (fun x hx=>hlt x (by simp [hx])))
theorem wit1 (os:Os):((laidWorld os).forCall (fun _ _=>0) ⟨#[],#[.slice none 0 0, .int .u8 0, .int .u8 0],[]⟩).variablesRefB Tryz.checked.prog = true:=by kernel_rfl
theorem wit2 (os:Os):((((laidWorld os).forCall (fun _ _=>0) ⟨#[],#[.slice none 0 0, .int .u8 0, .int .u8 0],[]⟩).heap.toList.drop Tryz.checked.prog.globals.size).take ((begin Tryz.checked.prog (fun _ _=>0) default).world.heap.size - Tryz.checked.prog.globals.size)) =
 (begin Tryz.checked.prog (fun _ _=>0) default).world.heap.toList.drop Tryz.checked.prog.globals.size:=by kernel_rfl
theorem wit3 (os:Os):Input.okWideB Tryz.checked.prog ((laidWorld os).forCall (fun _ _=>0) ⟨#[],#[.slice none 0 0, .int .u8 0, .int .u8 0],[]⟩) 4 ⟨#[],#[.slice none 0 0, .int .u8 0, .int .u8 0],[]⟩ = true:=by kernel_rfl
theorem wit4 (os:Os) {H:Type} (enc:TypeId × Value→H) :
 (OpenSpec.ofChange Rows.fileScalpsSpec).preRow enc Tryz.checked.prog Tryz.f4 Rows.fileScalpsRow.domain false Rows.fileScalpsRow.laid ((laidWorld os).forCall (fun _ _=>0) ⟨#[],#[.slice none 0 0, .int .u8 0, .int .u8 0],[]⟩).memory #[.slice none 0 0, .int .u8 0, .int .u8 0]:=by
 obtain ⟨places,hx⟩:=reads os enc
 exact OpenSpec.preRow_of_cond 8 hx (by kernel_rfl) (fun k hk=>by cases hk) (by kernel_rfl) (laid_met os _)
theorem noInit:Tryz.checked.prog.inits.idxOf? 4 = none:=by kernel_rfl
theorem lifted (os:Os) (started:os.Started) (H:Type) (enc:TypeId × Value→H) (F:Stop.Interp) :
 ReturnsInHanded {} Tryz.checked os 4 .any ((OpenSpec.ofChange Rows.fileScalpsSpec).preRow enc Tryz.prog Tryz.f4 Rows.fileScalpsRow.domain false Rows.fileScalpsRow.laid) (((OpenSpec.ofChange Rows.fileScalpsSpec).at F).post enc Tryz.prog Tryz.f4 false true false false):=by
 refine returnsInHanded_of_row (C:=Tryz.checked) (s:=OpenSpec.ofChange Rows.fileScalpsSpec) own started noInit Tryz.func4
  (witness_row_atRef (enc:=enc) (C:=Tryz.checked) false (laidWorld os) #[.slice none 0 0, .int .u8 0, .int .u8 0] rfl (wit1 os) (wit2 os) (wit3 os) (wit4 os enc)) ?_
 intro W base args ds gs before hval hW _ _ _ hL _ _
 exact contract H enc W base args ds gs before hval hW hL
theorem nam : Tryz.pinned.checked.prog.funcNamed "laurel/laurellaw11.FileScalps" = some 4 := by kernel_rfl
theorem and2 {a b:Bool} (ha:a = true) (hb:b = true):(a && b) = true:=by rw [ha,hb];rfl
theorem facts:joinedFacts Tryz.pinned.checked.prog 4 Tryz.f4 (OpenSpec.ofChange Rows.fileScalpsSpec).bare Rows.fileScalpsRow = true:=by
 unfold joinedFacts
 repeat' (with_reducible apply and2)
 all_goals (as_aux_lemma=>kernel_rfl)
theorem looks:true = Tryz.pinned.checked.prog.looks []:=by kernel_rfl
theorem stand5:Tryz.pinned.checked.prog.wantsStandIn 5 = false:=by kernel_rfl
theorem stand22:Tryz.pinned.checked.prog.wantsStandIn 22 = false:=by kernel_rfl
theorem said:Rows.FileScalpsSaid:=
 OpenClaim.holds_of_cond 4 Tryz.f4 rfl rfl rfl rfl rfl rfl rfl ⟨rfl,rfl,rfl,rfl,rfl⟩ rfl rfl rfl rfl rfl nam Tryz.func4 facts
  (of_decide_eq_true (by kernel_rfl)) (by unfold Func.isWrapper;first | (rw [if_pos (by decide +kernel)];kernel_rfl) | (rw [if_neg (by decide +kernel)];exact ⟨rfl,rfl⟩))
  (fun os started H enc _ F=>by rw [OpenClaim.pre_eq_preRow];exact lifted os started H enc F)
theorem plain (f : FuncId) (fn : Func) (hf : Tryz.pinned.checked.prog.funcNamed "laurel/laurellaw11.FileScalps" = some f) (hfn : Tryz.pinned.checked.prog.funcs[f]? = some fn) :
 true = Tryz.pinned.checked.prog.looks []∧∀ (j:Nat) t,fn.params[j]? = some t→Tryz.pinned.checked.prog.wantsStandIn t = false:=by
 obtain rfl:f = 4:=(Option.some.inj (nam.symm.trans hf)).symm
 obtain rfl:fn = Tryz.f4:=(Option.some.inj (Tryz.func4.symm.trans hfn)).symm
 refine ⟨looks,fun j t ht=>?_⟩
 rw [Tryz.params4] at ht
 have hm:=Array.mem_of_getElem? ht
 have hm2:t = 5 ∨ t = 22:=by
  simp at hm
  first
   | exact hm
   | exact hm.symm
   | (rcases hm with h | h <;> simp [h])
   | (rcases hm with h | h | h <;> simp [h])
 rcases hm2 with rfl | rfl
 · exact stand5
 · exact stand22
theorem card:Rows.FileScalpsCardSaid:=
 Claim7.holds_tied_plain_at .later [] _ _ _ _ said (fun _ h=>by cases h) (by as_aux_lemma=>kernel_rfl) (fun _ h=>by cases h) fileScalps_row_tie rfl ⟨rfl,rfl⟩ (by as_aux_lemma=>kernel_rfl) rfl plain (by as_aux_lemma=>kernel_rfl)
end Go.Proofs.YtffjknkcogmnbaaGreatDoor.fileScalps
