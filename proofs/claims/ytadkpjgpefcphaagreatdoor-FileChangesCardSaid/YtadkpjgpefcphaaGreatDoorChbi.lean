/- Parts of the proof of a law of layer 11 (file): LfW61, LfW62, LfW105, LfC101, LfW104. The conditions stand in each theorem. -/
import Derived.Test.YtadkpjgpefcphaaGreatDoorProg
import Derived.Test.YtadkpjgpefcphaaGreatDoorChab
import Derived.Test.YtadkpjgpefcphaaGreatDoorChac
import Derived.Test.YtadkpjgpefcphaaGreatDoorChae
import Derived.Test.YtadkpjgpefcphaaGreatDoorChal
import Derived.Test.YtadkpjgpefcphaaGreatDoorCham
import Derived.Test.YtadkpjgpefcphaaGreatDoorChan
import Derived.Test.YtadkpjgpefcphaaGreatDoorChaq
import Derived.Test.YtadkpjgpefcphaaGreatDoorChav
import Derived.Test.YtadkpjgpefcphaaGreatDoorChba
import Derived.Test.YtadkpjgpefcphaaGreatDoorChbb
import Derived.Test.YtadkpjgpefcphaaGreatDoorChbe
import Derived.Test.YtadkpjgpefcphaaGreatDoorChbf
import Derived.Test.YtadkpjgpefcphaaGreatDoorChbg
set_option linter.all false
set_option linter.unusedVariables false
set_option linter.unusedSimpArgs false
namespace Go.Proofs.LF
open Go.RowKit Go.Sort
set_option maxHeartbeats 4000000
set_option maxRecDepth 100000
attribute [local go_sem] bs_toList bs_size bs_get
theorem putR_any (l:List Fl) (x:Fl) (al ap an:Option Addr) (cl cp cn:Nat) (S:Nat→Prop) (w:World) (hl:LSl rdFl S w (.slice al l.length cl) l) (hp:Pth S w (.slice ap x.p.length cp) x.p) (hi:Ints S w (.slice an x.l.length cn) x.l) (hS:∀ b,S b→b < w.heap.size) (ll:l.length ≤ 100000) (lx:∀ y ∈ l,y.p.length ≤ 1000) (lp:x.p.length ≤ 1000) :
 Calls Tryz.prog 141 #[.slice al l.length cl, .agg #[.slice ap x.p.length cp, .slice an x.l.length cn]] w fun e w'=>∃ v,e = .returned v∧RowS rdFl 159 S (w.heap.size + 1) w' v (putR x l)∧Below w.heap.size w w':=by
 obtain ⟨_,_,he,hc,hm,hat⟩:=hl.at
 cases he
 obtain ⟨i0,hi0,hz0,hz1,hz2⟩:=info_parts Tryz.info159
 have HAT:=hid hat
 have HP:=hid hp
 have HI:=hid hi
 have HS:=hid hS
 have hS1:Hid (∀ b,S b→b < w.heap.size + 1):=fun b hb=>by have:=hS b hb;omega
 have HLX:=hid lx
 have HPG:=hid (putG_false x l [])
 unfold maxLen at hm
 clear hl hat hp hi hS lx
 obtain ⟨W1,hW1⟩:∃ W1,w.alloc (.cells #[.slice ap x.p.length cp, .slice an x.l.length cn] 159) = W1:=⟨_,rfl⟩
 obtain ⟨B0,hB0⟩:∃ B0,w.heap.size = B0:=⟨_,rfl⟩
 have hblk:W1.heap[B0]? = some (.cells #[.slice ap x.p.length cp, .slice an x.l.length cn] 159 (0,0)):=by rw [← hW1,← hB0];exact heap_alloc_new _ _
 have f0:W1.cell? ⟨B0,0,none⟩ = some (.slice ap x.p.length cp):=cg_ hblk (k:=0) rfl
 have f1:W1.cell? ⟨B0,1,none⟩ = some (.slice an x.l.length cn):=cg_ hblk (k:=1) rfl
 have hbw:Below w.heap.size w W1:=by rw [← hW1];exact (Below.refl _ _).alloc (nl_ _) _
 have hz1':W1.heap.size = w.heap.size + 1:=by rw [← hW1];simp
 have F0:=hid f0
 have F1:=hid f1
 have HBW:=hid hbw
 have HZ1:=hid hz1'
 have HB0:=hid hB0
 clear hblk f0 f1 hbw hz1'
 go_enter Tryz.func141,Tryz.ntmps141
 go_wp2_with fail
 go_loopw [5,6,7] (fun v dv iv wr=>∃ (k:Nat) (d:Bool) (acc:List Fl),k ≤ l.length∧iv = .int .i64 k∧dv = .bool d∧RowS rdFl 159 S (w.heap.size + 1) wr v acc∧acc.length ≤ 2 * k + 1∧Hid (putG x false [] l = putG x d acc (l.drop k))∧Hid (Below (w.heap.size + 1) W1 wr)) (fun _ _ i _=>l.length - (intOf i).toNat)
 case atStart=>exact ⟨0,false,[],by omega,rfl,rfl,by have:=HZ1.out;rw [← this];exact RowS.nil _,by simp,rfl,Below.refl _ _⟩
 case round=>
  obtain ⟨k,d,acc,hk,rfl,rfl,hrow,hacc,hput,hB⟩:=hrel
  have hzr:=hB.out.size
  have hz1w:=HZ1.out
  have hb0:=HB0.out
  have hBw:Below w.heap.size w wr:=HBW.out.trans (hB.out.mono (by omega))
  have e0:wr.cell? ⟨B0,0,none⟩ = some (.slice ap x.p.length cp):=bc_ hB.out (by omega) F0.out
  have e1:wr.cell? ⟨B0,1,none⟩ = some (.slice an x.l.length cn):=bc_ hB.out (by omega) F1.out
  have ha:Agree S w wr:=Ag_b hBw HS.out
  have HX:Hid (∀ W,Below w.heap.size w W→rdFl.R S W x [.slice ap x.p.length cp, .slice an x.l.length cn]):=fun W hW=>⟨ap,cp,an,cn,rfl,HP.out.agree (Ag_b hW HS.out),HI.out.agree (Ag_b hW HS.out)⟩
  by_cases hlt:k < l.length
  · have hlt':(k:Int) < (l.length:Int):=by omega
    have i1:(0:Int) ≤ (k:Int):=by omega
    obtain ⟨g,o,cs1,rfl,hg,⟨ay,cy,am,cm,rfl,hPy,hIy⟩,hcell⟩:=HAT.out k hlt
    have hdk:l.drop k = l[k] :: l.drop (k + 1):=List.drop_eq_getElem_cons hlt
    have hmem:l[k] ∈ l:=List.getElem_mem hlt
    have c0:=ha.cell hg (hcell 0 _ rfl)
    have c1:=ha.cell hg (hcell 1 _ rfl)
    rw [Nat.add_zero] at c0
    rw [← Nat.add_assoc] at c1
    have hgl:=HS.out g hg
    obtain ⟨y,hy⟩:∃ y,l[k] = y:=⟨_,rfl⟩
    rw [hy] at hPy hIy c0 c1 hdk hmem
    have ly:=HLX.out y hmem
    have hp1:=hput.out
    rw [hdk] at hp1
    have HY:Hid (∀ W,Below w.heap.size w W→rdFl.R S W y [.slice ay y.p.length cy, .slice am y.l.length cm]):=fun W hW=>⟨ay,cy,am,cm,rfl,hPy.agree (Ag_b hW HS.out),hIy.agree (Ag_b hW HS.out)⟩
    have hSr:∀ b,S b→b < wr.heap.size:=fun b hb=>by have:=HS.out b hb;omega
    have HSr:=hid hSr
    have HPU:=hid hp1
    have HBW2:=hid hBw
    have AHx:∀ W,Below wr.heap.size wr W→Calls Tryz.prog 150 #[.slice ap x.p.length cp, .slice ay y.p.length cy] W fun e w'=>e = .returned (.bool (decide (cmpP x.p y.p < 0)))∧Below W.heap.size W w':=fun W hW=>Ahead_any x.p y.p ap ay cp cy S W (HP.out.agree (Ag_b (hBw.trans (hW.mono (by omega))) HS.out)) (hPy.agree (Ag_b (hBw.trans (hW.mono (by omega))) HS.out)) (fun b hb=>by have:=HS.out b hb;have:=hW.size;omega) (by omega) (by omega)
    have AH:=hid AHx
    have HCS:Hid (∀ W,Below wr.heap.size wr W→(fun w':World=>w'.cell? ⟨B0,0,none⟩ = some (.slice ap x.p.length cp)∧w'.cell? ⟨B0,1,none⟩ = some (.slice an x.l.length cn)∧w'.cell? ⟨g,o + k * 2,none⟩ = some (.slice ay y.p.length cy)) W):=fun W hW=>⟨bc_ hW (by omega) e0,bc_ hW (by omega) e1,bc_ hW (by omega) c0⟩
    clear hcell hPy hIy hdk hmem hp1 hy hBw hSr AHx ha hput
    cases d with
    | true=>
      have hrow2:=hid (hrow.below HSr.out (Below.refl _ _).drew)
      go_wp2_with fail
      refine (wpIn_wide (n:=9)).1 ?_
      refine region_held (fun w':World=>w'.cell? ⟨B0,0,none⟩ = some (.slice ap x.p.length cp)∧w'.cell? ⟨B0,1,none⟩ = some (.slice an x.l.length cn)∧w'.cell? ⟨g,o + k * 2,none⟩ = some (.slice ay y.p.length cy)) (by kernel_rfl) ?_
      have hS0:(fun w':World=>w'.cell? ⟨B0,0,none⟩ = some (.slice ap x.p.length cp)∧w'.cell? ⟨B0,1,none⟩ = some (.slice an x.l.length cn)∧w'.cell? ⟨g,o + k * 2,none⟩ = some (.slice ay y.p.length cy)) wr.drew:=⟨e0,e1,c0⟩
      refine tkY 0 14 (.bool true) rfl rfl hS0 (fun w' hs=>?_) ?_
      · go_simp
      refine tkY 1 15 (.bool false) rfl rfl hS0 (fun w' hs=>?_) ?_
      · go_simp
      refine tkY 2 16 (.bool false) rfl rfl hS0 (fun w' hs=>?_) ?_
      · go_simp
      refine tkN 3 17 rfl rfl hS0 ?_
      refine tkN 4 18 rfl rfl hS0 ?_
      refine tkN 5 19 rfl rfl hS0 ?_
      refine tkN 6 20 rfl rfl hS0 ?_
      refine tkN 7 21 rfl rfl hS0 ?_
      refine tkN 8 22 rfl rfl hS0 ?_
      refine tkN 9 23 rfl rfl hS0 ?_
      refine tkN 10 24 rfl rfl hS0 ?_
      refine tkY 11 25 (.bool false) rfl rfl hS0 (fun w' hs=>?_) ?_
      · go_simp
      refine AnyH_done (by kernel_rfl) ?_
      go_simp
      go_wp2_with (at_builtin;(refine (wpList_push (r:=rdFl) (e:=159) (S:=S) (lo:=w.heap.size + 1) rfl _ _ _ rfl i0 _ 48 Tryz.underlying38 hi0 hz0 hz1 hz2 rfl (by omega) rfl (hrow.below HSr.out (((Below.refl _ _).alloc (nl_ _) _).drew)) hS1.out ?_ y [.slice ay y.p.length cy, .slice am y.l.length cm] wr.heap.size rfl ?_ (HY.out _ ((HBW2.out.alloc (by omega) _).drew)) ?_ ?_ ?_);(simp;omega);exact heap_alloc_new _ _;(try simp only [List.length_append,List.length_cons,List.length_nil]);(unfold maxLen;omega);(try simp only [List.length_append,List.length_cons,List.length_nil]);omega;intro V1 W1 HR1 HG1 HT1 HL1))
      have hp2:=HPU.out
      simp only [putG,Bool.not_true,Bool.false_and,Bool.false_eq_true,if_false] at hp2
      have hp2:=hid hp2
      go_roundw
      case rel=>exact ⟨k + 1,true,acc ++ [y],by omega,by go_num,rfl,HR1,by simp;omega,hp2,HL1 _ ((hB.out.alloc (by omega) _).drew)⟩
      case measure=>simp [intOf];omega
    | false=>
      by_cases hah:cmpP x.p y.p < 0
      · have HTK:=hid (decide_eq_true hah)
        have hp2:=HPU.out
        rw [putG,decide_eq_true hah] at hp2
        simp only [Bool.not_false,Bool.and_true,if_true] at hp2
        have hp2:=hid hp2
        clear hah
        go_wp2_with fail
        refine (wpIn_wide (n:=9)).1 ?_
        refine region_held (fun w':World=>w'.cell? ⟨B0,0,none⟩ = some (.slice ap x.p.length cp)∧w'.cell? ⟨B0,1,none⟩ = some (.slice an x.l.length cn)∧w'.cell? ⟨g,o + k * 2,none⟩ = some (.slice ay y.p.length cy)) (by kernel_rfl) ?_
        have hS0:(fun w':World=>w'.cell? ⟨B0,0,none⟩ = some (.slice ap x.p.length cp)∧w'.cell? ⟨B0,1,none⟩ = some (.slice an x.l.length cn)∧w'.cell? ⟨g,o + k * 2,none⟩ = some (.slice ay y.p.length cy)) wr.drew:=⟨e0,e1,c0⟩
        refine tkY 0 14 (.bool false) rfl rfl hS0 (fun w' hs=>?_) ?_
        · go_simp
        refine tkY 1 15 (.bool true) rfl rfl hS0 (fun w' hs=>?_) ?_
        · go_simp
        refine tkY 2 16 (.bool true) rfl rfl hS0 (fun w' hs=>?_) ?_
        · go_simp
        refine tkY 3 17 (.pointer (some ⟨B0,0,none⟩)) rfl rfl hS0 (fun w' hs=>?_) ?_
        · go_simp
        refine tkY 4 18 (.slice ap x.p.length cp) rfl rfl hS0 (fun w' hs=>?_) ?_
        · go_simp
        refine tkY 5 19 (.slice (some ⟨g,o,none⟩) l.length cl) rfl rfl hS0 (fun w' hs=>?_) ?_
        · go_simp
        refine tkY 6 20 (.int .i64 k) rfl rfl hS0 (fun w' hs=>?_) ?_
        · go_simp
        refine tkY 7 21 (.pointer (some ⟨g,o + k * 2,none⟩)) rfl rfl hS0 (fun w' hs=>?_) ?_
        · go_simp
        refine tkY 8 22 (.pointer (some ⟨g,o + k * 2,none⟩)) rfl rfl hS0 (fun w' hs=>?_) ?_
        · go_simp
        refine tkY 9 23 (.slice ay y.p.length cy) rfl rfl hS0 (fun w' hs=>?_) ?_
        · go_simp
        refine AnyH_one (i:=10) (by kernel_rfl) rfl (by kernel_rfl) (fun K hK=>?_)
        go_simp
        refine ⟨trivial,(callsIn_wide.2 (AH.out _ (Below.refl _ _).drew)).mono ?_⟩
        rintro e w8 ⟨rfl,hb8⟩
        have hb8':Below wr.heap.size wr w8:=(Below.refl _ _).drew.trans hb8
        have hS8:=HCS.out w8 hb8'
        rw [HTK.out]
        refine hK _ _ ⟨hS8,?_⟩
        clear hK
        refine tkY 11 25 (.bool true) rfl rfl hS8 (fun w' hs=>?_) ?_
        · go_simp
        refine AnyH_done (by kernel_rfl) ?_
        go_simp
        have hz8:=hb8'.size
        have HB8:=hid (HBW2.out.trans (hb8'.mono (by omega)))
        have hrow8:=hid (hrow.below HSr.out hb8')
        have hS88:∀ b,S b→b < w8.heap.size:=fun b hb=>by have:=HSr.out b hb;omega
        have HS88:=hid hS88
        have HC1:=hid (bc_ hb8' (by omega) c1)
        obtain ⟨q0,q1,q2⟩:=hS8
        have q3:=bc_ hb8' (by omega) e1
        clear hS88 hS0 e0 e1 c0 c1
        go_wp2_with (at_builtin;first
         | ((refine (wpList_push (r := rdFl) (e := 159) (S := S) (lo := w.heap.size + 1) rfl _ _ _ rfl i0 _ 48 Tryz.underlying38 hi0 hz0 hz1 hz2 rfl (by omega) rfl (hrow8.out.below HS88.out ((Below.refl _ _).alloc (nl_ _) _)) hS1.out ?_ x [.slice ap x.p.length cp, .slice an x.l.length cn] w8.heap.size rfl ?_ (HX.out _ (HB8.out.alloc (by omega) _)) ?_ ?_ ?_); (simp; omega); exact heap_alloc_new _ _; (try simp only [List.length_append, List.length_cons, List.length_nil]); (unfold maxLen; omega); (try simp only [List.length_append, List.length_cons, List.length_nil]); omega; intro V1 W1 HR1 HG1 HT1 HL1);
            have hl1:=hid (HL1 _ (((Below.refl w8.heap.size w8).alloc (nl_ _) _).mono (by omega)));
            have hzl1:=hl1.out.size;
            have y0:=bc_ hl1.out (by omega) q2;
            have y1:=bc_ hl1.out (by omega) HC1.out)
         | (refine (wpList_push (r:=rdFl) (e:=159) (S:=S) (lo:=w.heap.size + 1) rfl _ _ _ rfl i0 _ 48 Tryz.underlying38 hi0 hz0 hz1 hz2 rfl (by omega) rfl (HR1.below (fun b hb=>by have:=HS88.out b hb;omega) ((Below.refl _ _).alloc (nl_ _) _)) hS1.out ?_ y [.slice ay y.p.length cy, .slice am y.l.length cm] W1.heap.size rfl ?_ (HY.out _ ((HB8.out.trans (hl1.out.mono (by omega))).alloc (by omega) _)) ?_ ?_ ?_);(simp;omega);exact heap_alloc_new _ _;(try simp only [List.length_append,List.length_cons,List.length_nil]);(unfold maxLen;omega);(try simp only [List.length_append,List.length_cons,List.length_nil]);omega;intro V2 W2 HR2 HG2 HT2 HL2))
        go_roundw
        case rel=>exact ⟨k + 1,true,acc ++ [x] ++ [y],by omega,by go_num,rfl,HR2,by simp;omega,hp2,HL2 _ (((hB.out.trans (hb8'.mono (by omega))).trans hl1.out).alloc (by omega) _)⟩
        case measure=>simp [intOf];omega
      · have HTK:=hid (decide_eq_false hah)
        have hp2:=HPU.out
        rw [putG,decide_eq_false hah] at hp2
        simp only [Bool.not_false,Bool.and_false,Bool.false_eq_true,if_false] at hp2
        have hp2:=hid hp2
        clear hah
        go_wp2_with fail
        refine (wpIn_wide (n:=9)).1 ?_
        refine region_held (fun w':World=>w'.cell? ⟨B0,0,none⟩ = some (.slice ap x.p.length cp)∧w'.cell? ⟨B0,1,none⟩ = some (.slice an x.l.length cn)∧w'.cell? ⟨g,o + k * 2,none⟩ = some (.slice ay y.p.length cy)) (by kernel_rfl) ?_
        have hS0:(fun w':World=>w'.cell? ⟨B0,0,none⟩ = some (.slice ap x.p.length cp)∧w'.cell? ⟨B0,1,none⟩ = some (.slice an x.l.length cn)∧w'.cell? ⟨g,o + k * 2,none⟩ = some (.slice ay y.p.length cy)) wr.drew:=⟨e0,e1,c0⟩
        refine tkY 0 14 (.bool false) rfl rfl hS0 (fun w' hs=>?_) ?_
        · go_simp
        refine tkY 1 15 (.bool true) rfl rfl hS0 (fun w' hs=>?_) ?_
        · go_simp
        refine tkY 2 16 (.bool true) rfl rfl hS0 (fun w' hs=>?_) ?_
        · go_simp
        refine tkY 3 17 (.pointer (some ⟨B0,0,none⟩)) rfl rfl hS0 (fun w' hs=>?_) ?_
        · go_simp
        refine tkY 4 18 (.slice ap x.p.length cp) rfl rfl hS0 (fun w' hs=>?_) ?_
        · go_simp
        refine tkY 5 19 (.slice (some ⟨g,o,none⟩) l.length cl) rfl rfl hS0 (fun w' hs=>?_) ?_
        · go_simp
        refine tkY 6 20 (.int .i64 k) rfl rfl hS0 (fun w' hs=>?_) ?_
        · go_simp
        refine tkY 7 21 (.pointer (some ⟨g,o + k * 2,none⟩)) rfl rfl hS0 (fun w' hs=>?_) ?_
        · go_simp
        refine tkY 8 22 (.pointer (some ⟨g,o + k * 2,none⟩)) rfl rfl hS0 (fun w' hs=>?_) ?_
        · go_simp
        refine tkY 9 23 (.slice ay y.p.length cy) rfl rfl hS0 (fun w' hs=>?_) ?_
        · go_simp
        refine AnyH_one (i:=10) (by kernel_rfl) rfl (by kernel_rfl) (fun K hK=>?_)
        go_simp
        refine ⟨trivial,(callsIn_wide.2 (AH.out _ (Below.refl _ _).drew)).mono ?_⟩
        rintro e w8 ⟨rfl,hb8⟩
        have hb8':Below wr.heap.size wr w8:=(Below.refl _ _).drew.trans hb8
        have hS8:=HCS.out w8 hb8'
        rw [HTK.out]
        refine hK _ _ ⟨hS8,?_⟩
        clear hK
        refine tkY 11 25 (.bool false) rfl rfl hS8 (fun w' hs=>?_) ?_
        · go_simp
        refine AnyH_done (by kernel_rfl) ?_
        go_simp
        have hz8:=hb8'.size
        have HB8:=hid (HBW2.out.trans (hb8'.mono (by omega)))
        have hrow8:=hid (hrow.below HSr.out hb8')
        have hS88:∀ b,S b→b < w8.heap.size:=fun b hb=>by have:=HSr.out b hb;omega
        have HS88:=hid hS88
        have q1:=bc_ hb8' (by omega) c1
        obtain ⟨q0,q3,q2⟩:=hS8
        clear hS88 hS0 e0 e1 c0 c1
        go_wp2_with (at_builtin;(refine (wpList_push (r:=rdFl) (e:=159) (S:=S) (lo:=w.heap.size + 1) rfl _ _ _ rfl i0 _ 48 Tryz.underlying38 hi0 hz0 hz1 hz2 rfl (by omega) rfl (hrow8.out.below HS88.out ((Below.refl _ _).alloc (nl_ _) _)) hS1.out ?_ y [.slice ay y.p.length cy, .slice am y.l.length cm] w8.heap.size rfl ?_ (HY.out _ (HB8.out.alloc (by omega) _)) ?_ ?_ ?_);(simp;omega);exact heap_alloc_new _ _;(try simp only [List.length_append,List.length_cons,List.length_nil]);(unfold maxLen;omega);(try simp only [List.length_append,List.length_cons,List.length_nil]);omega;intro V1 W1 HR1 HG1 HT1 HL1))
        go_roundw
        case rel=>exact ⟨k + 1,false,acc ++ [y],by omega,by go_num,rfl,HR1,by simp;omega,hp2,HL1 _ ((hB.out.trans (hb8'.mono (by omega))).alloc (by omega) _)⟩
        case measure=>simp [intOf];omega
  · have hlt':¬ (k:Int) < (l.length:Int):=by omega
    obtain rfl:k = l.length:=by omega
    have hp1:=hput.out
    have hpg:=HPG.out
    rw [List.drop_length] at hp1
    rw [hp1,List.nil_append] at hpg
    have hSr:∀ b,S b→b < wr.heap.size:=fun b hb=>by have:=HS.out b hb;omega
    have HBW2:=hid hBw
    cases d with
    | true=>
      simp only [putG,if_true] at hpg
      subst hpg
      go_wp2_with fail
      go_ret
      have hbb:=HB0.out
      subst hbb
      exact ⟨_,rfl,hrow,HBW2.out⟩
    | false=>
      simp only [putG,Bool.false_eq_true,if_false] at hpg
      have HPGG:=hid hpg
      have hrow2:=hid hrow
      clear hpg hp1
      go_wp2_with (at_builtin;(refine (wpList_push (r:=rdFl) (e:=159) (S:=S) (lo:=w.heap.size + 1) rfl _ _ _ rfl i0 _ 48 Tryz.underlying38 hi0 hz0 hz1 hz2 rfl (by omega) rfl (hrow2.out.below hSr ((Below.refl _ _).alloc (nl_ _) _)) hS1.out ?_ x [.slice ap x.p.length cp, .slice an x.l.length cn] wr.heap.size rfl ?_ (HX.out _ (HBW2.out.alloc (by omega) _)) ?_ ?_ ?_);(simp;omega);exact heap_alloc_new _ _;(try simp only [List.length_append,List.length_cons,List.length_nil]);(unfold maxLen;omega);(try simp only [List.length_append,List.length_cons,List.length_nil]);omega;intro V1 W1 HR1 HG1 HT1 HL1))
      go_ret
      have hbb:=HB0.out
      subst hbb
      refine ⟨_,rfl,by rw [← HPGG.out];exact HR1,(HBW.out.trans ((HL1 _ (hB.out.alloc (by omega) _)).mono (by omega)))⟩
end Go.Proofs.LF
namespace Go.Proofs.LF
open Go.RowKit Go.Sort
set_option maxHeartbeats 4000000
set_option maxRecDepth 100000
attribute [local go_sem] bs_toList bs_size bs_get
theorem equal_any (a b:List Fl) (p:List Ky) (aa ab ap:Option Addr) (ca cb cp:Nat) (S:Nat→Prop) (w:World) (ha:LSl rdFl S w (.slice aa a.length ca) a) (hb:LSl rdFl S w (.slice ab b.length cb) b) (hp:Pth S w (.slice ap p.length cp) p) (hS:∀ b,S b→b < w.heap.size)
 (la:a.length ≤ 100000∧∀ x ∈ a,x.p.length ≤ 1000∧x.l.length ≤ 1000) (lb:b.length ≤ 100000∧∀ x ∈ b,x.p.length ≤ 1000∧x.l.length ≤ 1000) (lp:p.length ≤ 1000) :
 Calls Tryz.prog 112 #[.slice aa a.length ca, .slice ab b.length cb, .slice ap p.length cp] w fun e w'=>e = .returned (.bool (eqR a b p))∧Below w.heap.size w w':=by
 have FA:∀ w1,Below w.heap.size w w1→Calls Tryz.prog 113 #[.slice aa a.length ca, .slice ap p.length cp] w1 fun e w'=>e = .returned (.int .i64 (fiI a p))∧Below w1.heap.size w1 w':=fun w1 hB=>Find_any a p aa ap ca cp S w1 (ha.agree (Ag_b hB hS)) (hp.agree (Ag_b hB hS)) (fun b hb=>by have:=hS b hb;have:=hB.size;omega) la.1 (fun x hx=>(la.2 x hx).1) lp
 have FB:∀ w1,Below w.heap.size w w1→Calls Tryz.prog 113 #[.slice ab b.length cb, .slice ap p.length cp] w1 fun e w'=>e = .returned (.int .i64 (fiI b p))∧Below w1.heap.size w1 w':=fun w1 hB=>Find_any b p ab ap cb cp S w1 (hb.agree (Ag_b hB hS)) (hp.agree (Ag_b hB hS)) (fun b hb=>by have:=hS b hb;have:=hB.size;omega) lb.1 (fun x hx=>(lb.2 x hx).1) lp
 have HAx:=hid ha
 have HBx:=hid hb
 have HS:=hid hS
 have HLA:=hid la.2
 have HLB:=hid lb.2
 obtain ⟨la,_⟩:=la
 obtain ⟨lb,_⟩:=lb
 clear ha hb hp hS
 rcases fi_cases a p with ⟨i,hi,a1,a2,_⟩ | ⟨a1,a2⟩
 · rcases fi_cases b p with ⟨k,hk,b1,b2,_⟩ | ⟨b1,b2⟩
   · have HE:=hid (eqR_some a2 b2)
     rw [a1] at FA
     rw [b1] at FB
     obtain ⟨_,_,he,_,hma,hat⟩:=HAx.out.at
     cases he
     obtain ⟨_,_,he,_,hmb,hbt⟩:=HBx.out.at
     cases he
     unfold maxLen at hma hmb
     obtain ⟨g,o,cs1,rfl,hg,⟨ax,cx,an,cn,rfl,_,hI⟩,hcell⟩:=hat i hi
     obtain ⟨g',o',cs2,rfl,hg',⟨ay,cy,an',cn',rfl,_,hI'⟩,hcell'⟩:=hbt k hk
     have hx9:=HLA.out a[i] (List.getElem_mem hi)
     have hy9:=HLB.out b[k] (List.getElem_mem hk)
     have e1:=hcell 1 _ rfl
     have e2:=hcell' 1 _ rfl
     obtain ⟨x,hx⟩:∃ x,a[i] = x:=⟨_,rfl⟩
     obtain ⟨y,hy⟩:∃ y,b[k] = y:=⟨_,rfl⟩
     rw [hx] at hI e1 HE hx9
     rw [hy] at hI' e2 HE hy9
     rw [← Nat.add_assoc] at e1 e2
     have AL:∀ w1,Below w.heap.size w w1→Calls Tryz.prog 149 #[.slice an x.l.length cn, .slice an' y.l.length cn'] w1 fun e w'=>e = .returned (.bool (decide (x.l = y.l)))∧Below w1.heap.size w1 w':=fun w1 hB=>alikeI_any x.l y.l an an' cn cn' S w1 (hI.agree (Ag_b hB HS.out)) (hI'.agree (Ag_b hB HS.out)) (by omega) (by omega)
     have FA:=hid FA
     have FB:=hid FB
     have AL:=hid AL
     have hgl:=HS.out g hg
     have hgl':=HS.out g' hg'
     have v1:(0:Int) ≤ (i:Int):=by omega
     have v2:(i:Int) < (a.length:Int):=by omega
     have v3:(0:Int) ≤ (k:Int):=by omega
     have v4:(k:Int) < (b.length:Int):=by omega
     have v5:¬ (i:Int) < 0:=by omega
     have v6:¬ (k:Int) < 0:=by omega
     clear hcell hcell' hI hI' a1 a2 b1 b2 hat hbt hx hy
     go_enter Tryz.func112,Tryz.ntmps112
     go_wp2_with fail
     refine (FA.out w (Below.refl _ _)).mono ?_
     rintro e w1 ⟨rfl,hb1⟩
     have HB1:=hid hb1
     clear hb1
     go_wp2_with fail
     refine (FB.out w1 HB1.out).mono ?_
     rintro e w2 ⟨rfl,hb2⟩
     have HB2:=hid (HB1.out.trans (hb2.mono HB1.out.size))
     clear hb2
     have hz2:=HB2.out.size
     have c1:=bc_ HB2.out (by omega) e1
     have d1:=bc_ HB2.out (by omega) e2
     go_wp2_with fail
     refine (wpIn_wide (n:=9)).1 ?_
     refine region_held (fun w':World=>w'.cell? ⟨g,o + i * 2 + 1,none⟩ = some (.slice an x.l.length cn)∧w'.cell? ⟨g',o' + k * 2 + 1,none⟩ = some (.slice an' y.l.length cn')) (by kernel_rfl) ?_
     have hS0:(fun w':World=>w'.cell? ⟨g,o + i * 2 + 1,none⟩ = some (.slice an x.l.length cn)∧w'.cell? ⟨g',o' + k * 2 + 1,none⟩ = some (.slice an' y.l.length cn')) w2.drew:=⟨c1,d1⟩
     refine tkY 0 27 (.slice (some ⟨g,o,none⟩) a.length ca) rfl rfl hS0 (fun w' hs=>?_) ?_
     · go_simp
     refine tkY 1 28 (.int .i64 i) rfl rfl hS0 (fun w' hs=>?_) ?_
     · go_simp
     refine tkY 2 29 (.pointer (some ⟨g,o + i * 2,none⟩)) rfl rfl hS0 (fun w' hs=>?_) ?_
     · go_simp
     refine tkY 3 30 (.pointer (some ⟨g,o + i * 2 + 1,none⟩)) rfl rfl hS0 (fun w' hs=>?_) ?_
     · go_simp
     refine tkY 4 31 (.slice an x.l.length cn) rfl rfl hS0 (fun w' hs=>?_) ?_
     · go_simp
     refine tkY 5 32 (.slice (some ⟨g',o',none⟩) b.length cb) rfl rfl hS0 (fun w' hs=>?_) ?_
     · go_simp
     refine tkY 6 33 (.int .i64 k) rfl rfl hS0 (fun w' hs=>?_) ?_
     · go_simp
     refine tkY 7 34 (.pointer (some ⟨g',o' + k * 2,none⟩)) rfl rfl hS0 (fun w' hs=>?_) ?_
     · go_simp
     refine tkY 8 35 (.pointer (some ⟨g',o' + k * 2 + 1,none⟩)) rfl rfl hS0 (fun w' hs=>?_) ?_
     · go_simp
     refine tkY 9 36 (.slice an' y.l.length cn') rfl rfl hS0 (fun w' hs=>?_) ?_
     · go_simp
     refine AnyH_one (i:=10) (by kernel_rfl) rfl (by kernel_rfl) (fun K hK=>?_)
     go_simp
     refine ⟨trivial,(callsIn_wide.2 (AL.out _ ((HB2.out).drew))).mono ?_⟩
     rintro e w8 ⟨rfl,hb8⟩
     have hz8:=hb8.size
     simp at hz8
     have hS8:(fun w':World=>w'.cell? ⟨g,o + i * 2 + 1,none⟩ = some (.slice an x.l.length cn)∧w'.cell? ⟨g',o' + k * 2 + 1,none⟩ = some (.slice an' y.l.length cn')) w8:=⟨bc_ hb8 (by simp;omega) c1,bc_ hb8 (by simp;omega) d1⟩
     refine hK _ _ ⟨hS8,?_⟩
     clear hK
     refine tkY 11 6 (.bool (decide (x.l = y.l))) rfl rfl hS8 (fun w' hs=>?_) ?_
     · go_simp
     refine AnyH_done (by kernel_rfl) ?_
     go_simp
     go_wp2_with fail
     go_ret
     exact ⟨ret_bool HE.out.symm,HB2.out.trans (Below.mono ⟨hb8.os,hb8.tape,hb8.output,hb8.size,hb8.block⟩ HB2.out.size)⟩
   · have HE:=hid (eqR_l a2 b2)
     rw [a1] at FA
     rw [b1] at FB
     have FA:=hid FA
     have FB:=hid FB
     have v5:¬ (i:Int) < 0:=by omega
     have v6:(0:Int) ≤ (i:Int):=by omega
     clear a1 a2 b1 b2
     go_enter Tryz.func112,Tryz.ntmps112
     go_wp2_with fail
     refine (FA.out w (Below.refl _ _)).mono ?_
     rintro e w1 ⟨rfl,hb1⟩
     have HB1:=hid hb1
     clear hb1
     go_wp2_with fail
     refine (FB.out w1 HB1.out).mono ?_
     rintro e w2 ⟨rfl,hb2⟩
     have HB2:=hid (HB1.out.trans (hb2.mono HB1.out.size))
     clear hb2
     go_wp2_with fail
     go_ret
     exact ⟨ret_bool HE.out.symm,HB2.out⟩
 · rcases fi_cases b p with ⟨k,hk,b1,b2,_⟩ | ⟨b1,b2⟩
   · have HE:=hid (eqR_r a2 b2)
     rw [a1] at FA
     rw [b1] at FB
     have FA:=hid FA
     have FB:=hid FB
     have v5:¬ (k:Int) < 0:=by omega
     have v6:(0:Int) ≤ (k:Int):=by omega
     clear a1 a2 b1 b2
     go_enter Tryz.func112,Tryz.ntmps112
     go_wp2_with fail
     refine (FA.out w (Below.refl _ _)).mono ?_
     rintro e w1 ⟨rfl,hb1⟩
     have HB1:=hid hb1
     clear hb1
     go_wp2_with fail
     refine (FB.out w1 HB1.out).mono ?_
     rintro e w2 ⟨rfl,hb2⟩
     have HB2:=hid (HB1.out.trans (hb2.mono HB1.out.size))
     clear hb2
     go_wp2_with fail
     go_ret
     exact ⟨ret_bool HE.out.symm,HB2.out⟩
   · have HE:=hid (eqR_no a2 b2)
     rw [a1] at FA
     rw [b1] at FB
     have FA:=hid FA
     have FB:=hid FB
     clear a1 a2 b1 b2
     go_enter Tryz.func112,Tryz.ntmps112
     go_wp2_with fail
     refine (FA.out w (Below.refl _ _)).mono ?_
     rintro e w1 ⟨rfl,hb1⟩
     have HB1:=hid hb1
     clear hb1
     go_wp2_with fail
     refine (FB.out w1 HB1.out).mono ?_
     rintro e w2 ⟨rfl,hb2⟩
     have HB2:=hid (HB1.out.trans (hb2.mono HB1.out.size))
     clear hb2
     go_wp2_with fail
     go_ret
     exact ⟨ret_bool HE.out.symm,HB2.out⟩
end Go.Proofs.LF
namespace Go.Proofs.LF
open Go.RowKit Go.Sort
set_option maxHeartbeats 4000000
set_option maxRecDepth 100000
attribute [local go_sem] bs_toList bs_size bs_get
theorem Tryz.info120':(Tryz.prog.info? 120).map (fun i=>(i.zero,i.size,i.bytes)) = some (some (.agg #[.slice none 0 0, .bool false, .bool false, .slice none 0 0, .slice none 0 0]),5,80):=by kernel_rfl
theorem changes_any (l:List Ch) (al:Option Addr) (cl:Nat) (S:Nat→Prop) (w:World) (hv:ChSl S w (.slice al l.length cl) l) (hS:∀ b,S b→b < w.heap.size) (hl:l.length ≤ 1000) (hsm:∀ x ∈ l,x.p.length ≤ 1000∧x.old.length ≤ 1000∧x.new.length ≤ 1000) :
 Calls Tryz.prog 65 #[.slice al l.length cl] w fun e w'=>∃ a c,e = .returned (.slice a l.length c)∧ChSl (Rg w.heap.size w'.heap.size) w' (.slice a l.length c) l∧Below w.heap.size w w':=by
 obtain ⟨i0,hi0,hz0,hz1,hz2⟩:=info_parts Tryz.info120'
 obtain ⟨al',cl',ee,_,hcm,hat⟩:=LSl.at hv
 obtain ⟨rfl,rfl⟩:al = al'∧cl = cl':=by cases ee;exact ⟨rfl,rfl⟩
 have HAT:=hid hat
 have HS:=hid hS
 have HSM:=hid hsm
 unfold maxLen at hcm
 clear hv hS hsm ee hat
 go_enter Tryz.func65,Tryz.ntmps65
 go_wp2_with fail
 go_loopw [3,8] (fun v i wr=>∃ (k:Nat) (cs:List Value),k ≤ l.length∧i = .int .i64 k∧wr.ownsRow w.heap.size 120 5 v k cs∧Hid (LCs rdCh (Rx w.heap.size wr.heap.size v) wr (l.take k) cs)∧Hid (Below w.heap.size w wr)) (fun _ i _=>l.length - (intOf i).toNat)
 case atStart=>exact ⟨0,[],by omega,rfl,World.ownsRow_nil _ _ _ _,rfl,Below.refl _ _⟩
 case round=>
  obtain ⟨k,cs,hk,rfl,hown,hlc,HB⟩:=hrel
  have hzr:=HB.out.size
  by_cases hlt:k < l.length
  · have hlt':(k:Int) < (l.length:Int):=by omega
    obtain ⟨g,o,cs1,rfl,hg,⟨ap,cp,ao,co,an,cn,rfl,hP,hO,hN⟩,hcl⟩:=HAT.out k hlt
    have hag:=Ag_b (S:=S) HB.out HS.out
    have c0:=hag.cell hg (hcl 0 _ rfl)
    have c1:=hag.cell hg (hcl 1 _ rfl)
    have c2:=hag.cell hg (hcl 2 _ rfl)
    have c3:=hag.cell hg (hcl 3 _ rfl)
    have c4:=hag.cell hg (hcl 4 _ rfl)
    rw [Nat.add_zero] at c0
    simp only [← Nat.add_assoc] at c1 c2 c3 c4
    have hsm:=HSM.out l[k] (List.getElem_mem hlt)
    have htk:l.take (k + 1) = l.take k ++ [l[k]]:=List.take_succ_eq_append_getElem hlt
    obtain ⟨x,hx⟩:∃ x,l[k] = x:=⟨_,rfl⟩
    rw [hx] at hP hO hN c0 c1 c2 c3 c4 hsm htk
    obtain ⟨W4,hW4⟩:∃ W4,wr.alloc (.cells #[.slice ap x.p.length cp, .bool x.had, .bool x.has, .slice ao x.old.length co, .slice an x.new.length cn] 68) = W4:=⟨_,rfl⟩
    have hz4:W4.heap.size = wr.heap.size + 1:=by rw [← hW4];simp
    have hb4:Below wr.heap.size wr W4:=by rw [← hW4];exact (Below.refl _ _).alloc (nl_ _) _
    have hnb:W4.heap[wr.heap.size]? = some (.cells #[.slice ap x.p.length cp, .bool x.had, .bool x.has, .slice ao x.old.length co, .slice an x.new.length cn] 68 (0,0)):=by rw [← hW4];exact heap_alloc_new _ _
    have hag4:=Ag_b (S:=S) (HB.out.trans (hb4.mono hzr)).drew HS.out
    have PA:=hid (path_any x.p ap cp S W4.drew (hP.agree hag4) (fun b hb=>by have:=HS.out b hb;show b < W4.heap.size;omega) hsm.1)
    have hS0:W4.drew.cell? ⟨wr.heap.size,0,none⟩ = some (.slice ap x.p.length cp)∧W4.drew.cell? ⟨wr.heap.size,1,none⟩ = some (.bool x.had)∧W4.drew.cell? ⟨wr.heap.size,2,none⟩ = some (.bool x.has)∧W4.drew.cell? ⟨wr.heap.size,3,none⟩ = some (.slice ao x.old.length co)∧W4.drew.cell? ⟨wr.heap.size,4,none⟩ = some (.slice an x.new.length cn):=⟨cg_ hnb (k:=0) rfl,cg_ hnb (k:=1) rfl,cg_ hnb (k:=2) rfl,cg_ hnb (k:=3) rfl,cg_ hnb (k:=4) rfl⟩
    have how4:=ob_ hown hb4.drew (nl_ _)
    have HLC4:Hid (LCs rdCh (Rx w.heap.size W4.heap.size u3) W4 (l.take k) cs):=(hlc.out.agree (fun b hb=>hb4.block b hb.2.1)).wide fun b hb=>⟨hb.1,by have:=hb.2.1;omega,hb.2.2⟩
    have HO4:=hid (hO.agree hag4)
    have HN4:=hid (hN.agree hag4)
    have HSM1:=hid hsm
    have HTK:=hid htk
    have HS0:=hid hS0
    have HW4:=hid hW4
    have HB4:=hid (HB.out.trans (hb4.mono hzr))
    have hw4:wr.heap.size < W4.heap.size:=by omega
    have hul:∀ b,u3.ownBlock = some b→w.heap.size ≤ b∧b < wr.heap.size:=fun b hb=>hown.lt b hb
    have HUL:=hid hul
    have hkb:k ≤ 1000:=by omega
    clear hcl hP hO hN hx hag hag4 htk hsm hS0 hW4 hb4 hnb hz4 hlc hown hul
    go_upto_region 5 with (rw [HW4.out])
    try rw [HW4.out]
    clear c0 c1 c2 c3 c4
    refine (wpIn_wide (n:=9)).1 ?_
    refine region_held (fun w':World=>w'.cell? ⟨wr.heap.size,0,none⟩ = some (.slice ap x.p.length cp)∧w'.cell? ⟨wr.heap.size,1,none⟩ = some (.bool x.had)∧w'.cell? ⟨wr.heap.size,2,none⟩ = some (.bool x.has)∧w'.cell? ⟨wr.heap.size,3,none⟩ = some (.slice ao x.old.length co)∧w'.cell? ⟨wr.heap.size,4,none⟩ = some (.slice an x.new.length cn)) (by kernel_rfl) ?_
    have hS0:=HS0.out
    refine tkY 0 12 (u3) rfl rfl hS0 (fun w' hs=>?_) ?_
    · go_simp
    refine tkY 1 13 (.pointer (some ⟨wr.heap.size,0,none⟩)) rfl rfl hS0 (fun w' hs=>?_) ?_
    · go_simp
    refine tkY 2 14 (.slice ap x.p.length cp) rfl rfl hS0 (fun w' hs=>?_) ?_
    · obtain ⟨y0,y1,y2,y3,y4⟩:=hs
      go_simp
    refine tkY 4 16 (.pointer (some ⟨wr.heap.size,1,none⟩)) rfl rfl hS0 (fun w' hs=>?_) ?_
    · go_simp
    refine tkY 5 17 (.bool x.had) rfl rfl hS0 (fun w' hs=>?_) ?_
    · obtain ⟨y0,y1,y2,y3,y4⟩:=hs
      go_simp
    refine tkY 6 18 (.pointer (some ⟨wr.heap.size,2,none⟩)) rfl rfl hS0 (fun w' hs=>?_) ?_
    · go_simp
    refine tkY 7 19 (.bool x.has) rfl rfl hS0 (fun w' hs=>?_) ?_
    · obtain ⟨y0,y1,y2,y3,y4⟩:=hs
      go_simp
    refine tkY 8 20 (.pointer (some ⟨wr.heap.size,3,none⟩)) rfl rfl hS0 (fun w' hs=>?_) ?_
    · go_simp
    refine tkY 9 21 (.slice ao x.old.length co) rfl rfl hS0 (fun w' hs=>?_) ?_
    · obtain ⟨y0,y1,y2,y3,y4⟩:=hs
      go_simp
    refine tkY 11 23 (.pointer (some ⟨wr.heap.size,4,none⟩)) rfl rfl hS0 (fun w' hs=>?_) ?_
    · go_simp
    refine tkY 12 24 (.slice an x.new.length cn) rfl rfl hS0 (fun w' hs=>?_) ?_
    · obtain ⟨y0,y1,y2,y3,y4⟩:=hs
      go_simp
    refine AnyH_one (i:=3) (by kernel_rfl) rfl (by kernel_rfl) (fun K hK=>?_)
    go_simp
    refine ⟨trivial,(callsIn_wide.2 PA.out).mono ?_⟩
    rintro e w5 ⟨ap1,cp1,rfl,hp5,hb5⟩
    have hz5:W4.heap.size ≤ w5.heap.size:=hb5.size
    have hS1:w5.cell? ⟨wr.heap.size,0,none⟩ = some (.slice ap x.p.length cp)∧w5.cell? ⟨wr.heap.size,1,none⟩ = some (.bool x.had)∧w5.cell? ⟨wr.heap.size,2,none⟩ = some (.bool x.has)∧w5.cell? ⟨wr.heap.size,3,none⟩ = some (.slice ao x.old.length co)∧w5.cell? ⟨wr.heap.size,4,none⟩ = some (.slice an x.new.length cn):=⟨bc_ hb5 hw4 hS0.1,bc_ hb5 hw4 hS0.2.1,bc_ hb5 hw4 hS0.2.2.1,bc_ hb5 hw4 hS0.2.2.2.1,bc_ hb5 hw4 hS0.2.2.2.2⟩
    have DO:=hid (dup_any x.old ao co S w5 (HO4.out.agree (Ag_b hb5 fun b hb=>by have:=HS.out b hb;show b < W4.heap.size;omega)) (fun b hb=>by have:=HS.out b hb;omega) HSM1.out.2.1)
    have HB5:=hid hb5
    have HP5:=hid hp5
    refine hK _ _ ⟨hS1,?_⟩
    clear hK hb5 hp5 hS0 PA
    refine AnyH_one (i:=10) (by kernel_rfl) rfl (by kernel_rfl) (fun K hK=>?_)
    go_simp
    refine ⟨trivial,(callsIn_wide.2 DO.out).mono ?_⟩
    rintro e w6 ⟨ao1,co1,rfl,ho6,hb6⟩
    have hz6:=hb6.size
    have hS2:w6.cell? ⟨wr.heap.size,0,none⟩ = some (.slice ap x.p.length cp)∧w6.cell? ⟨wr.heap.size,1,none⟩ = some (.bool x.had)∧w6.cell? ⟨wr.heap.size,2,none⟩ = some (.bool x.has)∧w6.cell? ⟨wr.heap.size,3,none⟩ = some (.slice ao x.old.length co)∧w6.cell? ⟨wr.heap.size,4,none⟩ = some (.slice an x.new.length cn):=⟨bc_ hb6 (by omega) hS1.1,bc_ hb6 (by omega) hS1.2.1,bc_ hb6 (by omega) hS1.2.2.1,bc_ hb6 (by omega) hS1.2.2.2.1,bc_ hb6 (by omega) hS1.2.2.2.2⟩
    have h56:=HB5.out.trans (hb6.mono hz5)
    have DN:=hid (dup_any x.new an cn S w6 (HN4.out.agree (Ag_b h56 fun b hb=>by have:=HS.out b hb;show b < W4.heap.size;omega)) (fun b hb=>by have:=HS.out b hb;omega) HSM1.out.2.2)
    have HB6:=hid hb6
    have HO6:=hid ho6
    refine hK _ _ ⟨hS2,?_⟩
    clear hK hb6 ho6 hS1 DO h56
    refine AnyH_one (i:=13) (by kernel_rfl) rfl (by kernel_rfl) (fun K hK=>?_)
    go_simp
    refine ⟨trivial,(callsIn_wide.2 DN.out).mono ?_⟩
    rintro e w7 ⟨an1,cn1,rfl,hn7,hb7⟩
    have hz7:=hb7.size
    have hS3:w7.cell? ⟨wr.heap.size,0,none⟩ = some (.slice ap x.p.length cp)∧w7.cell? ⟨wr.heap.size,1,none⟩ = some (.bool x.had)∧w7.cell? ⟨wr.heap.size,2,none⟩ = some (.bool x.has)∧w7.cell? ⟨wr.heap.size,3,none⟩ = some (.slice ao x.old.length co)∧w7.cell? ⟨wr.heap.size,4,none⟩ = some (.slice an x.new.length cn):=⟨bc_ hb7 (by omega) hS2.1,bc_ hb7 (by omega) hS2.2.1,bc_ hb7 (by omega) hS2.2.2.1,bc_ hb7 (by omega) hS2.2.2.2.1,bc_ hb7 (by omega) hS2.2.2.2.2⟩
    have h57:Below W4.heap.size W4.drew w7:=HB5.out.trans ((HB6.out.trans (hb7.mono hz6)).mono hz5)
    have HB7:=hid hb7
    have HN7:=hid hn7
    have H57:=hid h57
    refine hK _ _ ⟨hS3,?_⟩
    clear hK hb7 hn7 hS2 DN h57
    refine tkY 14 26 (.agg #[.slice ap1 x.p.length cp1, .bool x.had, .bool x.has, .slice ao1 x.old.length co1, .slice an1 x.new.length cn1]) rfl rfl hS3 (fun w' hs=>?_) ?_
    · go_simp
    refine AnyH_one (i:=15) (by kernel_rfl) rfl (by kernel_rfl) (fun K hK=>?_)
    go_simp
    have hbb:Below w7.heap.size w7 (w7.alloc (.cells #[.slice ap1 x.p.length cp1, .bool x.had, .bool x.has, .slice ao1 x.old.length co1, .slice an1 x.new.length cn1] 120)):=(Below.refl _ _).alloc (nl_ _) _
    have hS4:(w7.alloc (.cells #[.slice ap1 x.p.length cp1, .bool x.had, .bool x.has, .slice ao1 x.old.length co1, .slice an1 x.new.length cn1] 120)).cell? ⟨wr.heap.size,0,none⟩ = some (.slice ap x.p.length cp)∧(w7.alloc (.cells #[.slice ap1 x.p.length cp1, .bool x.had, .bool x.has, .slice ao1 x.old.length co1, .slice an1 x.new.length cn1] 120)).cell? ⟨wr.heap.size,1,none⟩ = some (.bool x.had)∧(w7.alloc (.cells #[.slice ap1 x.p.length cp1, .bool x.had, .bool x.has, .slice ao1 x.old.length co1, .slice an1 x.new.length cn1] 120)).cell? ⟨wr.heap.size,2,none⟩ = some (.bool x.has)∧(w7.alloc (.cells #[.slice ap1 x.p.length cp1, .bool x.had, .bool x.has, .slice ao1 x.old.length co1, .slice an1 x.new.length cn1] 120)).cell? ⟨wr.heap.size,3,none⟩ = some (.slice ao x.old.length co)∧(w7.alloc (.cells #[.slice ap1 x.p.length cp1, .bool x.had, .bool x.has, .slice ao1 x.old.length co1, .slice an1 x.new.length cn1] 120)).cell? ⟨wr.heap.size,4,none⟩ = some (.slice an x.new.length cn):=⟨bc_ hbb (by omega) hS3.1,bc_ hbb (by omega) hS3.2.1,bc_ hbb (by omega) hS3.2.2.1,bc_ hbb (by omega) hS3.2.2.2.1,bc_ hbb (by omega) hS3.2.2.2.2⟩
    refine hK _ _ ⟨hS4,?_⟩
    clear hK
    have how7:=ob_ how4 (HB5.out.trans ((HB6.out.trans (HB7.out.mono hz6)).mono hz5)) (nl_ _)
    obtain ⟨a9,c9,w9,hr9,hown9,hgrow9,hat9⟩:=run_append_ao (P:=Tryz.prog) (w7.alloc (.cells #[.slice ap1 x.p.length cp1, .bool x.had, .bool x.has, .slice ao1 x.old.length co1, .slice an1 x.new.length cn1] 120)) 109 109 w.heap.size 120 i0 _ 5 80 Tryz.underlying109 hi0 hz0 hz1 hz2 rfl (by omega) u3 k cs (how7.alloc _) (some ⟨w7.heap.size,0,none⟩) 1 1 [.slice ap1 x.p.length cp1, .bool x.had, .bool x.has, .slice ao1 x.old.length co1, .slice an1 x.new.length cn1] rfl (fun h=>by cases h) (fun ad had=>by cases had;exact World.news_of_block (cs:=#[.slice ap1 x.p.length cp1, .bool x.had, .bool x.has, .slice ao1 x.old.length co1, .slice an1 x.new.length cn1]) (t:=120) (fr:=(0,0)) (heap_alloc_new _ _)) (by simp [Value.oneCell']) (by unfold maxLen;omega) (by omega) (by simp;omega)
    have hnr:u3.ownBlock ≠ some wr.heap.size:=fun e=>by have:=(HUL.out _ e).2;omega
    have hS5:w9.cell? ⟨wr.heap.size,0,none⟩ = some (.slice ap x.p.length cp)∧w9.cell? ⟨wr.heap.size,1,none⟩ = some (.bool x.had)∧w9.cell? ⟨wr.heap.size,2,none⟩ = some (.bool x.has)∧w9.cell? ⟨wr.heap.size,3,none⟩ = some (.slice ao x.old.length co)∧w9.cell? ⟨wr.heap.size,4,none⟩ = some (.slice an x.new.length cn):=⟨grown_cell hgrow9 hnr hS4.1,grown_cell hgrow9 hnr hS4.2.1,grown_cell hgrow9 hnr hS4.2.2.1,grown_cell hgrow9 hnr hS4.2.2.2.1,grown_cell hgrow9 hnr hS4.2.2.2.2⟩
    refine AnyH_one (i:=16) (by kernel_rfl) rfl (by kernel_rfl) (fun K hK=>?_)
    refine wpIn_value (fun _=>trivial) rfl (exec_append rfl rfl rfl hr9) ?_
    refine hK _ _ ⟨hS5,?_⟩
    clear hK hr9 hS3 hS4
    refine tkY 17 3 (.slice a9 (k + 1) c9) rfl rfl hS5 (fun w' hs=>?_) ?_
    · go_simp
    refine AnyH_done (by kernel_rfl) ?_
    go_simp
    obtain ⟨g9,cap9,he9,hg9,hlt9⟩:=hown9.form (by omega)
    cases he9
    have st:Step w.heap.size W4 (w7.alloc (.cells #[.slice ap1 x.p.length cp1, .bool x.had, .bool x.has, .slice ao1 x.old.length co1, .slice an1 x.new.length cn1] 120)) w9 u3 g9:=⟨⟨H57.out.os,H57.out.tape,H57.out.output,Nat.le_trans H57.out.size hbb.size,fun b hb=>(hbb.block b (by omega)).trans (H57.out.block b hb)⟩,⟨hgrow9.os,hgrow9.tape,hgrow9.output,hgrow9.size,hgrow9.block⟩,by omega,fun b hb=>by have:=HUL.out b hb;omega,hat9 g9 rfl,hlt9⟩
    have hv9:(Value.slice (some ⟨g9,0,none⟩) (k + 1) c9).ownBlock = some g9:=rfl
    have n1:=st.keep (Stable.lcs _ _) hv9 HLC4.out
    have n2:=st.lift (Stable.pth _ _) hv9 HP5.out (nl_ _) (by simp;omega) (((HB6.out.trans (HB7.out.mono hz6)).alloc (by omega) _))
    have n3:=st.lift (Stable.ints _ _) hv9 HO6.out (by omega) (by simp;omega) (HB7.out.alloc (by omega) _)
    have n4:=st.lift (Stable.ints _ _) hv9 HN7.out (by omega) (by simp) ((Below.refl _ _).alloc (nl_ _) _)
    have n5:=hid (st.out HB4.out)
    have n6:Hid (LCs rdCh (Rx w.heap.size w9.heap.size (.slice (some ⟨g9,0,none⟩) (k + 1) c9)) w9 (l.take (k + 1)) (cs ++ [.slice ap1 x.p.length cp1, .bool x.had, .bool x.has, .slice ao1 x.old.length co1, .slice an1 x.new.length cn1])):=by
     rw [Hid,HTK.out]
     exact n1.app (LCs.single ⟨ap1,cp1,ao1,co1,an1,cn1,rfl,n2,n3,n4⟩)
    have HOW9:=hid hown9
    clear n1 n2 n3 n4 st hown9 hgrow9 hat9 hS5 hbb how4 how7
    go_wp2_with fail
    go_roundw
    case rel=>exact ⟨k + 1,_,by omega,by go_num,HOW9.out,n6,n5⟩
    case measure=>simp [intOf];omega
  · obtain rfl:k = l.length:=by omega
    have hlt':¬ (l.length:Int) < (l.length:Int):=by omega
    rw [List.take_length] at hlc
    go_wp2_with fail
    obtain ⟨a9,c9,rfl,_,_⟩:=owns_shape hown
    go_ret
    exact ⟨a9,c9,rfl,⟨cs,SlC.of_owns hown,hlc.out.wide fun b hb=>⟨hb.1,hb.2.1⟩⟩,HB.out⟩
end Go.Proofs.LF
namespace Go.Proofs.LF
open Go.RowKit Go.Sort
theorem ck_sm {D:List Ch} (h:ckC D = 0):SmCh D:=fun c hc=>by
 obtain ⟨h1,h2,h3,_⟩:=ckOne_zero ((ckC_zero h).2.1 c hc)
 refine ⟨by omega,fun k hk=>?_,by omega,by omega⟩
 simp only [okNm,List.all_eq_true,Bool.not_eq_true'] at h2
 have:=badNm_len (h2 k hk)
 omega
end Go.Proofs.LF
namespace Go.Proofs.LF
open Go.RowKit Go.Sort
set_option maxHeartbeats 4000000
set_option maxRecDepth 100000
attribute [local go_sem] bs_toList bs_size bs_get
def AftR (l m:List Ch) (w:World) (e:Ending) (w':World):Prop:=
 ∃ a c,e = .returned (.tuple #[.slice a (aftL l m).length c, .int .i64 (aftE l m)])∧ChSl (US (Rg w.heap.size w'.heap.size) w') w' (.slice a (aftL l m).length c) (aftL l m)∧Below w.heap.size w w'
theorem AftR.bad {l m:List Ch} {w w':World} {E:Int} (h:aftE l m = E) (h0:E ≠ 0) (hb:Below w.heap.size w w'):AftR l m w (.returned (.tuple #[.slice none 0 0, .int .i64 E])) w':=by
 subst h
 have h1:aftL l m = []:=by rw [aftL,if_neg h0]
 unfold AftR
 rw [h1]
 exact ⟨none,0,rfl,⟨[],⟨rfl,none,0,rfl,nl_ _,by simp [maxLen],fun _=>rfl, .inl rfl⟩,rfl⟩,hb⟩
end Go.Proofs.LF
