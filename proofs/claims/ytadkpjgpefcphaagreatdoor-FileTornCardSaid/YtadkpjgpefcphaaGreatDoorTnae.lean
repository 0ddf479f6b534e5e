/- Parts of the proof of a law of layer 11 (file): LfW7, LfW40b, LfW8, LfW9, LfW10, LfYear, LfW11. The conditions stand in each theorem. -/
import Derived.Laws.EntriesVeiled
import Derived.Shelf.RegionOpenPlain
import Derived.Test.YtadkpjgpefcphaaGreatDoorProg
import Derived.Test.YtadkpjgpefcphaaGreatDoorTnaa
import Derived.Test.YtadkpjgpefcphaaGreatDoorTnac
import Derived.Test.YtadkpjgpefcphaaGreatDoorTnad
set_option linter.all false
set_option linter.unusedVariables false
set_option linter.unusedSimpArgs false
namespace Go.Proofs.LF
open Go.RowKit
set_option maxHeartbeats 2000000
set_option maxRecDepth 100000
attribute [local go_sem] bs_toList bs_size bs_get
theorem Tryz.info71:(Tryz.prog.info? 71).map (fun i=>(i.zero,i.size,i.bytes)) = some (some (.agg #[.string ByteArray.empty, .bool false, .int .i64 0]),3,32):=by kernel_rfl
theorem Tryz.size71:(Tryz.prog.info? 71).map (·.size) = some 3:=by kernel_rfl
theorem with_any (p:List Ky) (k:Ky) (a:Option Addr) (c:Nat) (S:Nat→Prop) (w:World) (hv:Pth S w (.slice a p.length c) p) (hS:∀ b,S b→b < w.heap.size) (hlen:p.length ≤ 1000) :
 Calls Tryz.prog 180 #[.slice a p.length c, .agg #[.string (bs k.n), .bool k.h, .int .i64 k.x]] w fun e w'=>∃ a' c',e = .returned (.slice a' (p.length + 1) c')∧Pth (Rg w.heap.size w'.heap.size) w' (.slice a' (p.length + 1) c') (p ++ [k])∧Below w.heap.size w w':=by
 obtain ⟨i0,hi0,hz0,hz1,hz2⟩:=info_parts Tryz.info71
 have hcap:=SlC.caps hv
 have hmk0:∃ mc:Array Value,mc.size = (p.length + 1) * 3∧∀ W:World,(Instr.makeSlice 65 (.int .i64 (p.length:Int)) (.int .i64 ((p.length:Int) + 1))).run Tryz.prog W = .ok (.slice (some ⟨W.heap.size,0,none⟩) p.length (p.length + 1)) (W.alloc (.cells mc 71)):=
  ⟨_,by rw [madeCells_size,hz1],fun W=>run_makeK (P:=Tryz.prog) 65 71 i0 _ Tryz.underlying65 hi0 hz0 .i64 .i64 p.length (p.length + 1) (by omega) (by rw [hz2];omega) (by omega) W⟩
 obtain ⟨mc,hmc,hmk⟩:=hmk0
 have HZ:=hid hmc
 clear hmc
 have hfin:∀ (W w3:World) (v':Value),w3.ownsRow w.heap.size 71 3 v' (p.length + 1) (p.flatMap Ky.cells ++ [.string (bs k.n), .bool k.h, .int .i64 k.x])→W.grownBy w3 (some (w.heap.size + 1))→Below w.heap.size w W →
  ∃ a' c',(Ending.returned v' = .returned (.slice a' (p.length + 1) c'))∧Pth (Rg w.heap.size w3.heap.size) w3 (.slice a' (p.length + 1) c') (p ++ [k])∧Below w.heap.size w w3:=by
  intro W w3 v' hown hg hb
  have hs:=SlC.of_owns hown
  obtain ⟨a',c',rfl,_⟩:=hs.shape
  refine ⟨a',c',rfl,?_,hb.grown hg hb.size (fun j hj=>by cases hj;omega)⟩
  unfold Pth
  rw [List.length_append,List.flatMap_append]
  exact hs
 have HF:=hid hfin
 clear hfin
 go_enter Tryz.func180,Tryz.ntmps180
 go_wp2_with (first
  | (refine wpList_copyHead rfl (.tmp 12) (.tmp 13) 65 65 rfl 71 3 Tryz.underlying65 Tryz.size71 w.heap.size (w.heap.size + 1) p.length (p.length + 1) a c rfl rfl mc (by have:=heap_alloc_new (w.alloc (.cells #[.string (bs k.n), .bool k.h, .int .i64 k.x] 71)) (.cells mc 71);simpa using this) (by omega) (by omega) (by unfold maxLen;omega) HZ.out (p.flatMap Ky.cells) (len_keys p) hcap.2.2 (SlC.news hv (Ag_b (B:=w.heap.size) (((Below.refl _ _).alloc (nl_ _) _).alloc (by simp) _) hS)) (one_keys p) ?_;intro W hW1 hW2 hW3;have f0:=grown_cell hW2 (b:=w.heap.size) (o:=0) (by simp) (v := .string (bs k.n)) (by simp);have f1:=grown_cell hW2 (b:=w.heap.size) (o:=1) (by simp) (v := .bool k.h) (by simp);have f2:=grown_cell hW2 (b:=w.heap.size) (o:=2) (by simp) (v := .int .i64 k.x) (by simp);simp only [World.size_alloc] at hW3;have HW3:=hid hW3;clear hW3)
  | (at_builtin;go_loud (refine wpList_append_own _ rfl (.tmp 15) (.tmp 17) 65 rfl w.heap.size 71 i0 _ 3 32 Tryz.underlying65 hi0 hz0 hz1 hz2 rfl (by omega) (.slice (some ⟨w.heap.size + 1,0,none⟩) p.length (p.length + 1)) p.length (p.flatMap Ky.cells) rfl (hW1.alloc _) ⟨W.heap.size,0,none⟩ 1 1 [.string (bs k.n), .bool k.h, .int .i64 k.x] rfl rfl (World.news_of_block (cs:=#[.string (bs k.n), .bool k.h, .int .i64 k.x]) (t:=71) (fr:=(0,0)) (heap_alloc_new _ _)) (by simp [Value.oneCell']) (by unfold maxLen;omega) (by omega) (by have:=HW3.out;simp;omega) ?_);intro v' w3 hown3 hgrow3 _))
 go_ret
 refine HF.out _ w3 v' hown3 hgrow3 ?_
 exact ((((Below.refl _ _).alloc (nl_ _) _).alloc (by simp) _).grown hW2 (by simp;omega) (fun j hj=>by cases hj;omega)).alloc (by have:=HW3.out;omega) _
end Go.Proofs.LF
namespace Go.Proofs.LF
open Go.RowKit
set_option maxHeartbeats 4000000
set_option maxRecDepth 100000
theorem Tryz.info85j:(Tryz.prog.info? 85).map (fun i=>(i.zero,i.size,i.bytes)) = some (some (.agg #[.string ByteArray.empty, .slice none 0 0, .slice none 0 0]),3,64):=by kernel_rfl
theorem ins_room (g n i cap:Nat) (cur:Array Value) (cs:List Value) (x y z:Value) (vb B:Nat) (w:World) (hi:i < n) (hbg:B ≤ g) (hg:w.heap[g]? = some (.cells cur 85 (0,0))) (hroom:n + 1 ≤ cap) (hcap:cap ≤ maxLen) (hcs:cur.size = cap * 3) (htk:cur.toList.take (n * 3) = cs)
 (hvb:w.heap[vb]? = some (.cells #[x,y,z] 85 (0,0))) (hne:vb ≠ g) (h1:∀ u ∈ cs,u.oneCell' = true) (h1v:∀ u ∈ [x,y,z],u.oneCell' = true) :
 Calls Tryz.prog 205 #[.slice (some ⟨g,0,none⟩) n cap, .int .i64 i, .slice (some ⟨vb,0,none⟩) 1 1] w (InsR (.slice (some ⟨g,0,none⟩) n cap) n i cs [x,y,z] B w):=by
 have hsz:(Tryz.prog.info? 85).map (·.size) = some 3:=by
  obtain ⟨i0,hi0,hz0,hz1,hz2⟩:=info_parts Tryz.info85j
  rw [hi0];simp [hz1]
 have hso:∀ W:World,(Go.sizeOf 85).run Tryz.prog W = .ok 3 W:=fun W=>by
  obtain ⟨i0,hi0,hz0,hz1,hz2⟩:=info_parts Tryz.info85j
  simp [Go.sizeOf,typeInfo,hi0,hz1]
 have hnews:∀ (j:Nat) (u:Value),[x,y,z][j]? = some u→∀ W:World,W.heap[vb]? = w.heap[vb]?→W.cell? ((⟨vb,0,none⟩:Addr).add j) = some u:=fun j u hj W hW=>
  World.news_of_block (w:=W) (cs:=#[x,y,z]) (t:=85) (fr:=(0,0)) (hW.trans hvb) j u hj
 have hcl:cs.length = n * 3:=by rw [← htk,List.length_take,Array.length_toList,hcs];omega
 have hdl:(cs.drop (i * 3)).length = 3 * (n - i):=by rw [List.length_drop,hcl];omega
 have hcl2:cur.toList.length = cap * 3:=by rw [Array.length_toList,hcs]
 have hov:∀ lb cb,(callFunc 240 #[.slice (some ⟨vb,0,none⟩) 1 1, .slice (some ⟨g,(i + 1) * 3,none⟩) lb cb]).run Tryz.prog w = .ok (.value (.bool false)) w:=fun lb cb=>by
  rw [run_callFunc_extern Tryz.func240 (by kernel_rfl) (by kernel_rfl) (by kernel_rfl) (e:=Extern.SlicesOverlaps.overlaps #[22,22] #[4]) (by kernel_rfl),
   Lib.run_overlaps_apart w 22 4 85 Tryz.underlying22 3 hso ⟨vb,0,none⟩ ⟨g,(i + 1) * 3,none⟩ 1 1 lb cb hne 85 85 3 (cap * 3) (by simp [World.shape?,hvb]) (by simp [World.shape?,hg,hcs]) (by omega) (by simp [World.frozen?,hvb]) (by simp [World.frozen?,hvb])]
  rfl
 unfold maxLen at hcap
 obtain ⟨c1,hc1⟩:∃ c1,c1 = cur.toList.take ((i + 1) * 3) ++ cs.drop (i * 3) ++ cur.toList.drop ((i + 1) * 3 + (cs.drop (i * 3)).length):=⟨_,rfl⟩
 obtain ⟨k1,k2,k3⟩:=ins_cells (news:=[x,y,z]) (k:=3) rfl htk hcl (Nat.le_of_lt hi) hroom hcl2 hc1
 have hcp1:∀ ty dc sc,(Builtin.copy_ #[22,22] ty #[.slice (some ⟨g,(i + 1) * 3,none⟩) (n - i) dc, .slice (some ⟨g,i * 3,none⟩) (n + 1 - i) sc]).run Tryz.prog w.drew = .ok (goInt (n - i:Nat)) (w.drew.setRow g c1.toArray):=fun ty dc sc=>by
  have:=run_copy_rowK (P:=Tryz.prog) w.drew 22 22 ty 85 3 g ((i + 1) * 3) (n - i) dc (n - i) ⟨g,i * 3,none⟩ (n + 1 - i) sc cur 85 (cs.drop (i * 3)) Tryz.underlying22 hsz hg (by simp only [Nat.min_def];split <;> omega) hdl
   (fun j v hj=>by
     rw [Addr.add_lit]
     rw [List.getElem?_drop,← htk,List.getElem?_take] at hj
     split at hj
     · have hgd:w.drew.heap[g]? = some (.cells cur 85 (0,0)):=hg
       simp only [World.cell?,hgd];simpa using hj
     · cases hj) (by rw [hdl,hcs];omega) (fun v hv=>h1 v (List.mem_of_mem_drop hv))
  rw [this,hc1]
 obtain ⟨W1,hW1⟩:∃ W1,w.drew.setRow g c1.toArray = W1:=⟨_,rfl⟩
 have hg1:W1.heap[g]? = some (.cells c1.toArray 85 (0,0)):=by rw [← hW1];exact setRow_at hg
 have hvb1:W1.heap[vb]? = w.heap[vb]?:=by rw [← hW1];exact setRow_other w.drew g vb _ (fun e=>hne e)
 have hcp2:∀ ty dc,(Builtin.copy_ #[22,22] ty #[.slice (some ⟨g,i * 3,none⟩) (n + 1 - i) dc, .slice (some ⟨vb,0,none⟩) 1 1]).run Tryz.prog W1 = .ok (goInt (1:Nat)) (W1.setRow g (c1.take (i * 3) ++ [x,y,z] ++ c1.drop (i * 3 + [x,y,z].length)).toArray):=fun ty dc=>by
  have:=run_copy_rowK (P:=Tryz.prog) W1 22 22 ty 85 3 g (i * 3) (n + 1 - i) dc 1 ⟨vb,0,none⟩ 1 1 c1.toArray 85 [x,y,z] Tryz.underlying22 hsz hg1 (by simp only [Nat.min_def];split <;> omega) rfl
   (fun j v hj=>hnews j v hj W1 hvb1) (by simp [k3];omega) h1v
  simpa using this
 rw [hW1] at hcp1
 obtain ⟨c2,hc2⟩:∃ c2,c1.take (i * 3) ++ [x,y,z] ++ c1.drop (i * 3 + [x,y,z].length) = c2:=⟨_,rfl⟩
 rw [hc2] at hcp2 k1 k2
 have hin:¬ ((i:Int) = (n:Int)):=by omega
 have hle:¬ ((cap:Int) < (n:Int) + (1:Int)):=by omega
 have hb1:(0:Int) ≤ (i:Int) + (1:Int):=by omega
 have hii:(i:Int) ≤ (n:Int):=by omega
 have htn:((i:Int) + (1:Int)).toNat = i + 1:=by omega
 have hb2:¬ (cap = i + 1):=by omega
 have hb3:(i:Int) ≤ (n:Int) + (1:Int):=by omega
 have hb4:¬ (cap = i):=by omega
 have hgrw:w.grownBy (W1.setRow g c2.toArray) (some g):=by
  rw [← hW1]
  refine ⟨rfl,rfl,rfl,by simp [World.setRow],fun k hk hne'=>?_⟩
  exact (setRow_other _ g k _ (fun e=>hne' (by rw [e]))).trans (setRow_other _ g k _ (fun e=>hne' (by rw [e])))
 have hg2:(W1.setRow g c2.toArray).heap[g]? = some (.cells c2.toArray 85 (0,0)):=setRow_at hg1
 have mixed:Tryz.prog.follows Departure.mixedOrders = true:=by kernel_rfl
 have hw1:IntKind.i64.wrap ((i:Int) + (1:Int)) = (i:Int) + (1:Int):=by rw [IntKind.wrap_i64];omega
 have hb5:¬ (i + 1 = cap):=by omega
 go_enter Tryz.func205,Tryz.ntmps205
 go_wp2_with (first | simp only [hov] | fail)
 go_region_law_o (refine step_copyRow rfl _ _ 22 22 rfl _ _ (by simp [Act.eval,Act.put]) (by simp [Act.eval,Act.put]) (hcp1 _ _ _) ?_)
 go_wp2_with (at_builtin;refine wpList_copyRow rfl _ _ 22 22 rfl _ _ rfl rfl (hcp2 _ _) ?_)
 go_ret
 exact ⟨some ⟨g,0,none⟩,cap,rfl,⟨by simp [hcl];omega, .inr ⟨g,cap,c2.toArray,rfl,hbg,hg2,hroom,by unfold maxLen;omega,by simpa using k2,by simpa using k1⟩⟩,hgrw,fun g' hg' => .inl hg'⟩
theorem ins_grow (g n i cap:Nat) (cur:Array Value) (cs:List Value) (x y z:Value) (vb B:Nat) (w:World) (hi:i < n) (hbg:B ≤ w.heap.size) (hg:w.heap[g]? = some (.cells cur 85 (0,0))) (hnc:n ≤ cap) (hroom:cap < n + 1) (hcs:cur.size = cap * 3) (htk:cur.toList.take (n * 3) = cs) (hn:n ≤ 1000)
 (hvb:w.heap[vb]? = some (.cells #[x,y,z] 85 (0,0))) (h1:∀ u ∈ cs,u.oneCell' = true) (h1v:∀ u ∈ [x,y,z],u.oneCell' = true) :
 Calls Tryz.prog 205 #[.slice (some ⟨g,0,none⟩) n cap, .int .i64 i, .slice (some ⟨vb,0,none⟩) 1 1] w (InsR (.slice (some ⟨g,0,none⟩) n cap) n i cs [x,y,z] B w):=by
 obtain ⟨i0,hi0,hz0,hz1,hz2⟩:=info_parts Tryz.info85j
 have hsz:(Tryz.prog.info? 85).map (·.size) = some 3:=by rw [hi0];simp [hz1]
 have hgw:g < w.heap.size:=(Array.getElem?_eq_some_iff.1 hg).1
 have hvw:vb < w.heap.size:=(Array.getElem?_eq_some_iff.1 hvb).1
 have hcl:cs.length = n * 3:=by rw [← htk,List.length_take,Array.length_toList,hcs];omega
 have hdl:(cs.drop (i * 3)).length = 3 * (n - i):=by rw [List.length_drop,hcl];omega
 have hcell:∀ (j:Nat) (u:Value),cs[j]? = some u→∀ W:World,W.heap[g]? = w.heap[g]?→W.cell? ⟨g,j,none⟩ = some u:=fun j u hj W hW=>by
  rw [← htk,List.getElem?_take] at hj
  split at hj
  · simp only [World.cell?,hW,hg];simpa using hj
  · cases hj
 have hold:(Builtin.firstCells i0.size i (.slice (some ⟨g,0,none⟩) i cap)).run Tryz.prog w.drew = .ok (cs.take (i * 3)).toArray w.drew:=by
  rw [hz1]
  exact run_firstCells_some w.drew 3 i ⟨g,0,none⟩ i cap (cs.take (i * 3)) (by rw [List.length_take];omega) (fun j v hj=>by
   rw [Addr.add_lit]
   rw [List.getElem?_take] at hj
   split at hj
   · rw [Nat.zero_add];exact hcell j v hj _ rfl
   · cases hj)
 obtain ⟨G,hG⟩:∃ G,G = grownCap w (n + 1) cap 85:=⟨_,rfl⟩
 obtain ⟨zs,hzs⟩:∃ zs:List Value,zs = (Builtin.zeroCells (Value.agg #[.string ByteArray.empty, .slice none 0 0, .slice none 0 0]).cells (n + 1 - i) ++ Builtin.zeroCells (Value.agg #[.string ByteArray.empty, .slice none 0 0, .slice none 0 0]).cells (G - (n + 1))).toList:=⟨_,rfl⟩
 have hGn:n + 1 ≤ G:=by rw [hG];exact grownCap_ge w _ _ _
 have hG63:G ≤ 9223372036854775807:=by
  have:=grownCap_le_maxLen w (n + 1) cap 85 (by unfold maxLen;omega)
  rw [← hG] at this
  unfold maxLen at this
  omega
 have hc3:(Value.agg #[.string ByteArray.empty, .slice none 0 0, .slice none 0 0]).cells.size = 3:=rfl
 have hzl:zs.length = (n + 1 - i) * 3 + (G - (n + 1)) * 3:=by
  rw [hzs,Array.length_toList,Array.size_append]
  simp only [Builtin.zeroCells,Array.size_map,Array.size_range,hc3]
 obtain ⟨r0,hr0⟩:∃ r0,r0 = cs.take (i * 3) ++ zs:=⟨_,rfl⟩
 have hrl:r0.length = G * 3:=by rw [hr0,List.length_append,List.length_take,hzl];omega
 obtain ⟨c1,hc1⟩:∃ c1,c1 = r0.take (i * 3) ++ [x,y,z] ++ r0.drop (i * 3 + [x,y,z].length):=⟨_,rfl⟩
 obtain ⟨k1,k2,k3⟩:=ins_cells2 (n:=n) (k:=3) rfl hcl (Nat.le_of_lt hi) hr0 (by rw [hzl];omega) hc1
 have hik:i + (n + 1 - i) = n + 1:=by omega
 have hrz:∀ ty,(Builtin.append_ #[22,3] ty #[.slice (some ⟨g,0,none⟩) i cap, .int .i64 ((n:Int) + (1:Int) - (i:Int))]).run Tryz.prog w = .ok (.slice (some ⟨w.heap.size,0,none⟩) (n + 1) G) (w.drew.alloc (.cells r0.toArray 85)):=fun ty=>by
  have h:=Lib.run_append_grow_zeros (P:=Tryz.prog) w 22 3 ty 85 i0 _ .i64 .i64 Tryz.underlying22 Tryz.underlying3 hi0 hz0 (some ⟨g,0,none⟩) i cap (cs.take (i * 3)) hold (n + 1 - i) (by omega) (by omega) (by omega) (by omega) (by rw [hz2];omega) (by rw [hz2,hik];exact growslice_fits hroom (by omega))
  rw [hik,← hG] at h
  rw [show (n:Int) + (1:Int) - (i:Int) = ((n + 1 - i:Nat):Int) by omega,h,hr0,hzs]
  refine congrArg (fun r=>Result.ok _ (w.drew.alloc (.cells r 85))) ?_
  apply Array.ext'
  simp
 obtain ⟨W1,hW1⟩:∃ W1,w.drew.alloc (.cells r0.toArray 85) = W1:=⟨_,rfl⟩
 have hn1:W1.heap[w.heap.size]? = some (.cells r0.toArray 85 (0,0)):=by rw [← hW1];exact heap_alloc_new w.drew _
 have hg1:W1.heap[g]? = w.heap[g]?:=by rw [← hW1];exact heap_alloc_old w.drew _ hgw
 have hv1:W1.heap[vb]? = w.heap[vb]?:=by rw [← hW1];exact heap_alloc_old w.drew _ hvw
 have hb1:Below w.heap.size w W1:=by rw [← hW1];exact (Below.refl _ _).drew.alloc (nl_ _) _
 rw [hW1] at hrz
 have hcp1:∀ (W:World),W.heap = W1.heap→∀ ty dc,(Builtin.copy_ #[22,22] ty #[.slice (some ⟨w.heap.size,i * 3,none⟩) (n + 1 - i) dc, .slice (some ⟨vb,0,none⟩) 1 1]).run Tryz.prog W = .ok (goInt (1:Nat)) (W.setRow w.heap.size c1.toArray):=fun W hW ty dc=>by
  have:=run_copy_rowK (P:=Tryz.prog) W 22 22 ty 85 3 w.heap.size (i * 3) (n + 1 - i) dc 1 ⟨vb,0,none⟩ 1 1 r0.toArray 85 [x,y,z] Tryz.underlying22 hsz (by rw [hW];exact hn1) (by simp only [Nat.min_def];split <;> omega) rfl
   (fun j v hj=>World.news_of_block (w:=W) (cs:=#[x,y,z]) (t:=85) (fr:=(0,0)) (by rw [hW,hv1];exact hvb) j v hj) (by simp [hrl];omega) h1v
  rw [this,hc1]
 obtain ⟨W2,hW2⟩:∃ W2,W1.setRow w.heap.size c1.toArray = W2:=⟨_,rfl⟩
 have hn2:W2.heap[w.heap.size]? = some (.cells c1.toArray 85 (0,0)):=by rw [← hW2];exact setRow_at hn1
 have hg2:W2.heap[g]? = w.heap[g]?:=by rw [← hW2];exact (setRow_other W1 _ g _ (by omega)).trans hg1
 have hb2:Below w.heap.size w W2:=by rw [← hW2];exact setRow_below hb1 (nl_ _) _
 have hcp2:∀ ty dc sc,(Builtin.copy_ #[22,22] ty #[.slice (some ⟨w.heap.size,(i + 1) * 3,none⟩) (n - i) dc, .slice (some ⟨g,i * 3,none⟩) (n - i) sc]).run Tryz.prog W2.drew = .ok (goInt (n - i:Nat)) (W2.drew.setRow w.heap.size (c1.take ((i + 1) * 3) ++ cs.drop (i * 3) ++ c1.drop ((i + 1) * 3 + (cs.drop (i * 3)).length)).toArray):=fun ty dc sc=>by
  have:=run_copy_rowK (P:=Tryz.prog) W2.drew 22 22 ty 85 3 w.heap.size ((i + 1) * 3) (n - i) dc (n - i) ⟨g,i * 3,none⟩ (n - i) sc c1.toArray 85 (cs.drop (i * 3)) Tryz.underlying22 hsz hn2 (Nat.min_self _).symm hdl
   (fun j v hj=>by
     rw [Addr.add_lit]
     rw [List.getElem?_drop] at hj
     exact hcell _ v hj W2.drew hg2) (by simp [k3,hrl];omega) (fun v hv=>h1 v (List.mem_of_mem_drop hv))
  simpa using this
 obtain ⟨c2,hc2⟩:∃ c2,c1.take ((i + 1) * 3) ++ cs.drop (i * 3) ++ c1.drop ((i + 1) * 3 + (cs.drop (i * 3)).length) = c2:=⟨_,rfl⟩
 rw [hc2] at hcp2 k1 k2
 have hn3:(W2.drew.setRow w.heap.size c2.toArray).heap[w.heap.size]? = some (.cells c2.toArray 85 (0,0)):=setRow_at hn2
 have hb3:Below w.heap.size w (W2.drew.setRow w.heap.size c2.toArray):=setRow_below hb2.drew (nl_ _) _
 have hin:¬ ((i:Int) = (n:Int)):=by omega
 have hlt:(cap:Int) < (n:Int) + (1:Int):=by omega
 have hb1:(0:Int) ≤ (i:Int) + (1:Int):=by omega
 have hii:(i:Int) ≤ (n:Int):=by omega
 have hic:(i:Int) ≤ (cap:Int):=by omega
 have htn:((i:Int) + (1:Int)).toNat = i + 1:=by omega
 have hb2':¬ (G = i + 1):=by omega
 have hb3':(i:Int) ≤ (n:Int) + (1:Int):=by omega
 have hb4:¬ (cap = i):=by omega
 have hb5:¬ (i + 1 = G):=by omega
 have hb6:¬ (G = i):=by omega
 have mixed:Tryz.prog.follows Departure.mixedOrders = true:=by kernel_rfl
 have hw1:IntKind.i64.wrap ((i:Int) + (1:Int)) = (i:Int) + (1:Int):=by rw [IntKind.wrap_i64];omega
 have hE:∀ W:World,W.drew.heap = W.heap:=fun _=>rfl
 clear hcell hold hG hzs hr0 hc1 hc2
 go_enter Tryz.func205,Tryz.ntmps205
 go_wp2_with (first
  | (at_builtin;refine Lib.wpList_append_run _ rfl _ _ _ _ rfl _ _ rfl rfl _ _ (hrz _) ?_)
  | (at_builtin;refine wpList_copyRow rfl _ _ 22 22 rfl _ _ rfl rfl (hcp1 _ rfl _ _) ?_))
 go_region_law_o (refine step_copyRow rfl _ _ 22 22 rfl _ _ (by simp [Act.eval,Act.put]) (by simp [Act.eval,Act.put]) (hcp2 _ _ _) ?_)
 go_wp2
 go_ret
 exact ⟨some ⟨w.heap.size,0,none⟩,G,rfl,⟨by simp [hcl];omega, .inr ⟨w.heap.size,G,c2.toArray,rfl,hbg,hn3,hGn,by unfold maxLen;omega,by simpa [hrl] using k2,by simpa using k1⟩⟩,⟨hb3.os,hb3.tape,hb3.output,hb3.size,fun k hk _=>hb3.block k hk⟩,fun g' hg' => .inr (by simpa [Value.ownBlock] using hg'.symm)⟩
theorem ins_any (v:Value) (n i:Nat) (cs:List Value) (x y z:Value) (vb B:Nat) (w:World) (hown:w.ownsRow B 85 3 v n cs) (hi:i ≤ n) (hvb:w.heap[vb]? = some (.cells #[x,y,z] 85 (0,0))) (hne:v.ownBlock ≠ some vb)
 (h1:∀ u ∈ cs,u.oneCell' = true) (h1v:∀ u ∈ [x,y,z],u.oneCell' = true) (hn:n ≤ 1000) (hB:B ≤ w.heap.size) :
 Calls Tryz.prog 205 #[v, .int .i64 i, .slice (some ⟨vb,0,none⟩) 1 1] w (InsR v n i cs [x,y,z] B w):=by
 by_cases hin:i = n
 · subst hin
   exact ins_end v i cs x y z vb B w hown hvb h1v hn hB
 · rcases hown.2 with ⟨rfl,rfl⟩ | ⟨g,cap,cur,rfl,hbg,hg,hnc,hcap,hcs,htk⟩
   · omega
   · by_cases hroom:n + 1 ≤ cap
     · exact ins_room g n i cap cur cs x y z vb B w (by omega) hbg hg hroom hcap hcs htk hvb (fun e=>hne (by rw [e];rfl)) h1 h1v
     · exact ins_grow g n i cap cur cs x y z vb B w (by omega) hB hg hnc (by omega) hcs htk hn hvb h1 h1v
end Go.Proofs.LF
namespace Go.Proofs.LF
open Go.RowKit
set_option maxHeartbeats 20000000
set_option maxRecDepth 100000
attribute [local go_sem] bs_toList bs_size bs_get Oper.semAt_some
structure NdV where
 up:List Ky
 ua:Option Addr
 uc:Nat
 n:List UInt8
 l:List Int
 an:Option Addr
 cn:Nat
 s:Fo
 ab:Option Addr
 cb:Nat
def NdV.dat (x:NdV):NdD:=⟨x.up,x.n,x.l,x.s⟩
def NdV.encs (x:NdV):Array Value:=#[.slice x.ua x.up.length x.uc, .agg #[.string (bs x.n), .slice x.an x.l.length x.cn, .slice x.ab x.s.len x.cb]]
def NdV.E (S:Nat→Prop) (W:World) (x:NdV):Prop:=
 Pth S W (.slice x.ua x.up.length x.uc) x.up∧Ints S W (.slice x.an x.l.length x.cn) x.l∧FSl S W (.slice x.ab x.s.len x.cb) x.s ∧
 x.n.length ≤ 1000∧x.l.length ≤ 1000∧x.s.len ≤ 1000∧x.s.Sm∧x.up.length ≤ 900
def PushR (J Jx:List NdD→(Nat→Prop)→World→Prop) (pre xs:List NdD) (O:Nat→Prop) (W:World) (e:Ending) (W':World):Prop:=
 (e = .returned (.bool true)∧∃ O',J (pre ++ xs) O' W'∧Keep O W W'∧(∀ b,O' b→O b ∨ W.heap.size ≤ b)∧(∀ b,O' b→b < W'.heap.size)) ∨
 (e = .returned (.bool false)∧∃ q O',q <+: xs∧Jx (pre ++ q) O' W'∧Keep O W W')
theorem push_any (G:List NdD→Prop) (l Yb Db:Nat) (J Jx:List NdD→(Nat→Prop)→World→Prop)
 (hJ:∀ pre O A B,J pre O A→Below A.heap.size A B→J pre O B)
 (hY:∀ m pre x O W1,J pre O W1→G (pre ++ [x.dat])→NdV.E (fun b=>b < W1.heap.size∧¬ O b) W1 x→YieldAt Fence.wide m Tryz.prog l (NdV.encs x) W1 fun e W'=>
   (e = .returned (.bool true)∧∃ O',J (pre ++ [x.dat]) O' W'∧Keep O W1 W'∧(∀ b,O' b→O b ∨ W1.heap.size ≤ b)∧(∀ b,O' b→b < W'.heap.size)) ∨
   (e = .returned (.bool false)∧∃ O',Jx (pre ++ [x.dat]) O' W'∧Keep O W1 W')) (m:Nat) :
 ∀ (n:Nat) (y:Fo) (up:List Ky) (ua:Option Addr) (uc:Nat) (a:Option Addr) (c:Nat) (pre:List NdD) (S O:Nat→Prop) (W:World),y.cnt < m→J pre O W →
  W.cell? ⟨Yb,0,none⟩ = some (.func (.yield l) #[] #[])→W.cell? ⟨Db,0,none⟩ = some (.func (.func 179) #[] #[.pointer (some ⟨Yb,0,none⟩), .pointer (some ⟨Db,0,none⟩)]) →
  (Yb < W.heap.size∧¬ O Yb)→(Db < W.heap.size∧¬ O Db)→Pth S W (.slice ua up.length uc) up→FSl S W (.slice a y.len c) y→(∀ b,S b→b < W.heap.size∧¬ O b)→(∀ b,O b→b < W.heap.size) →
  y.len ≤ 1000→y.Sm→up.length + y.cnt ≤ 900→(∀ q,q <+: nodesL up y→G (pre ++ q)) →
  CallsIn Fence.wide n Tryz.prog 179 #[.slice ua up.length uc, .slice a y.len c, .pointer (some ⟨Yb,0,none⟩), .pointer (some ⟨Db,0,none⟩)] W (PushR J Jx pre (nodesL up y) O W):=by
 induction m with
 | zero=>intro _ y _ _ _ _ _ _ _ _ _ h;omega
 | succ m ih=>
 intro n y up ua uc a c pre S O W hcnt hJ0 hyc hdc hyb hdb hup hv hS hO hlen hsm hdep hGn
 have HG:=hid hGn
 clear hGn
 obtain ⟨_,_,he,hc,hm,hat⟩:=hv.at
 cases he
 have IH:=hid ih
 have HY:=hid hY
 have HJ:=hid hJ
 have HS:=hid hS
 have HO:=hid hO
 clear ih hY hJ hS hO
 unfold maxLen at hm
 refine callsIn_of_wp Tryz.func179 rfl trivial ?_ rfl
 simp only [Tryz.ntmps179,List.size_toArray,List.length_cons,List.length_nil,Nat.reduceAdd,Nat.reduceSub,Array.replicate_succ,Array.replicate_zero,List.push_toArray,List.append_toArray,List.nil_append,List.cons_append]
 gi_wp2_with fail
 gi_loopw [11] (fun i wr=>∃ (k:Nat) (Ok:Nat→Prop),k ≤ y.len∧i = .int .i64 k∧Hid (J (pre ++ nodesL up (y.take k)) Ok wr)∧Hid (Keep O W wr)∧Hid (∀ b,Ok b→O b ∨ W.heap.size ≤ b)∧Hid (∀ b,Ok b→b < wr.heap.size)) (fun i _=>y.len - (intOf i).toNat)
 case atStart=>exact ⟨0,O,by omega,rfl,by simpa [Hid,Fo.take,nodesL] using hJ0,Keep.refl _ _,fun b h => .inl h,HO.out⟩
 case round=>
  obtain ⟨k,Ok,hk,rfl,HJk,HK,HOk,HOz⟩:=hrel
  have HAT:=hid hat
  clear hat
  by_cases hlt:k < y.len
  · obtain ⟨g,o,nm,l',s,r,an,cn,ab,cb,rfl,hg1,hd,hc0,hc1,hc2,hI,hF⟩:=HAT.out k hlt
    have ha:Agree S W wr:=HK.out.agree HS.out
    have c0:=ha.cell hg1 hc0
    have c1:=ha.cell hg1 hc1
    have c2:=ha.cell hg1 hc2
    have yc:=HK.out.cell hyb.1 hyb.2 hyc
    have dc:=HK.out.cell hdb.1 hdb.2 hdc
    obtain ⟨s1,s2,s3,s4,_⟩:nm.length ≤ 1000∧l'.length ≤ 1000∧s.len ≤ 1000∧s.Sm∧r.Sm:=by have:=hsm.drop (i:=k);rwa [hd] at this
    have s5:=Fo.cnt_at hd
    have HD:=hid hd
    clear hc0 hc1 hc2 hd
    gi_wp2_with fail
    have hbel:Below wr.heap.size wr (wr.alloc (.cells #[.string (bs nm), .slice an l'.length cn, .slice ab s.len cb] 85)).drew:=((Below.refl _ _).alloc (nl_ _) _).drew
    have HJ1:=hid (HJ.out _ _ _ _ HJk.out hbel)
    have HK1:Hid (Keep O W (wr.alloc (.cells #[.string (bs nm), .slice an l'.length cn, .slice ab s.len cb] 85)).drew):=HK.out.trans (Keep.of_below hbel)
    have hSx:∀ b,S b→b < wr.heap.size∧¬ Ok b:=fun b hb=>by
     have h1:=HS.out b hb
     have h2:=HK.out.size
     refine ⟨by omega,fun h=>?_⟩
     rcases HOk.out b h with h3 | h3
     · exact h1.2 h3
     · omega
    have hE0:NdV.E (fun b=>b < (wr.alloc (.cells #[.string (bs nm), .slice an l'.length cn, .slice ab s.len cb] 85)).drew.heap.size∧¬ Ok b) (wr.alloc (.cells #[.string (bs nm), .slice an l'.length cn, .slice ab s.len cb] 85)).drew ⟨up,ua,uc,nm,l',an,cn,s,ab,cb⟩:=by
     have hw:∀ b,S b→b < (wr.alloc (.cells #[.string (bs nm), .slice an l'.length cn, .slice ab s.len cb] 85)).drew.heap.size∧¬ Ok b:=fun b hb=>⟨by have:=(hSx b hb).1;simp;omega,(hSx b hb).2⟩
     have ha1:Agree S W (wr.alloc (.cells #[.string (bs nm), .slice an l'.length cn, .slice ab s.len cb] 85)).drew:=HK1.out.agree HS.out
     exact ⟨(hup.agree ha1).wide hw,(hI.agree ha1).wide hw,(hF.agree ha1).wide hw,s1,s2,s3,s4,by simp only;omega⟩
    have hg0:G (pre ++ nodesL up (y.take k) ++ [NdV.dat ⟨up,ua,uc,nm,l',an,cn,s,ab,cb⟩]):=by
     rw [List.append_assoc]
     refine HG.out _ (List.IsPrefix.trans ?_ (nodesL_pre (k:=k + 1)))
     rw [nodesL_take HD.out]
     exact ⟨nodesL (up ++ [kyOf nm l']) s,by simp [NdV.dat]⟩
    have hyr:=HY.out (n - 1) _ ⟨up,ua,uc,nm,l',an,cn,s,ab,cb⟩ Ok _ HJ1.out hg0 hE0
    clear hg0
    refine region_held (fun w'=>w'.cell? ⟨Yb,0,none⟩ = some (.func (.yield l) #[] #[])∧w'.cell? ⟨Db,0,none⟩ = some (.func (.func 179) #[] #[.pointer (some ⟨Yb,0,none⟩), .pointer (some ⟨Db,0,none⟩)]) ∧
     w'.cell? ⟨wr.heap.size,0,none⟩ = some (.string (bs nm))∧w'.cell? ⟨wr.heap.size,1,none⟩ = some (.slice an l'.length cn)∧w'.cell? ⟨wr.heap.size,2,none⟩ = some (.slice ab s.len cb)) (by kernel_rfl) ?_
    have hS0:(fun w':World=>w'.cell? ⟨Yb,0,none⟩ = some (.func (.yield l) #[] #[])∧w'.cell? ⟨Db,0,none⟩ = some (.func (.func 179) #[] #[.pointer (some ⟨Yb,0,none⟩), .pointer (some ⟨Db,0,none⟩)]) ∧
     w'.cell? ⟨wr.heap.size,0,none⟩ = some (.string (bs nm))∧w'.cell? ⟨wr.heap.size,1,none⟩ = some (.slice an l'.length cn)∧w'.cell? ⟨wr.heap.size,2,none⟩ = some (.slice ab s.len cb)) (wr.alloc (.cells #[.string (bs nm), .slice an l'.length cn, .slice ab s.len cb] 85)).drew:=
     ⟨bc_ hbel (by have:=HK.out.size;omega) yc,bc_ hbel (by have:=HK.out.size;omega) dc,by simp,by simp,by simp⟩
    refine AnyH_takeD (fun _=>trivial) (by kernel_rfl) 0 15 (.func (.yield l) #[] #[]) rfl rfl (by kernel_rfl) (by kernel_rfl) (by kernel_rfl) (fun _ _ _ h=>h) (.inl ⟨by rfl,fun w' hs=>?_⟩) hS0 ?_
    · obtain ⟨q0,q1,q2,q3,q4⟩:=hs
      go_simp
    refine AnyH_takeD (fun _=>trivial) (by kernel_rfl) 1 16 (.slice ua up.length uc) rfl rfl (by kernel_rfl) (by kernel_rfl) (by kernel_rfl) (fun _ _ _ h=>h) (.inl ⟨by rfl,fun w' hs=>?_⟩) hS0 ?_
    · go_simp
    refine AnyH_takeD (fun _=>trivial) (by kernel_rfl) 2 17 (.agg #[.string (bs nm), .slice an l'.length cn, .slice ab s.len cb]) rfl rfl (by kernel_rfl) (by kernel_rfl) (by kernel_rfl) (fun _ _ _ h=>h) (.inl ⟨by rfl,fun w' hs=>?_⟩) hS0 ?_
    · obtain ⟨q0,q1,q2,q3,q4⟩:=hs
      go_simp
    refine AnyH_one (i:=3) (by kernel_rfl) rfl (by rfl) (fun K hK=>?_)
    obtain ⟨fn,tmps,assign,body,hy,hR⟩:=hyr
    dsimp only [NdV.encs] at hy
    go_simp
    refine ⟨fun h=>(by cases h),hR.mono ?_⟩
    have hYo:¬ Ok Yb:=fun h=>by rcases HOk.out _ h with h | h;exact hyb.2 h;omega
    have hDo:¬ Ok Db:=fun h=>by rcases HOk.out _ h with h | h;exact hdb.2 h;omega
    have hBo:¬ Ok wr.heap.size:=fun h=>by have:=HOz.out _ h;omega
    have hz0:=HK.out.size
    have hSk:∀ W3,Keep Ok (wr.alloc (.cells #[.string (bs nm), .slice an l'.length cn, .slice ab s.len cb] 85)).drew W3→(fun w':World=>w'.cell? ⟨Yb,0,none⟩ = some (.func (.yield l) #[] #[])∧w'.cell? ⟨Db,0,none⟩ = some (.func (.func 179) #[] #[.pointer (some ⟨Yb,0,none⟩), .pointer (some ⟨Db,0,none⟩)]) ∧
     w'.cell? ⟨wr.heap.size,0,none⟩ = some (.string (bs nm))∧w'.cell? ⟨wr.heap.size,1,none⟩ = some (.slice an l'.length cn)∧w'.cell? ⟨wr.heap.size,2,none⟩ = some (.slice ab s.len cb)) W3:=fun W3 h3=>
     ⟨h3.cell (by simp;omega) hYo hS0.1,h3.cell (by simp;omega) hDo hS0.2.1,h3.cell (by simp) hBo hS0.2.2.1,h3.cell (by simp) hBo hS0.2.2.2.1,h3.cell (by simp) hBo hS0.2.2.2.2⟩
    have hkO:∀ W3,Keep Ok (wr.alloc (.cells #[.string (bs nm), .slice an l'.length cn, .slice ab s.len cb] 85)).drew W3→Keep O W W3:=fun W3 h3=>
     ⟨h3.os.trans HK1.out.os,h3.tape.trans HK1.out.tape,h3.output.trans HK1.out.output,Nat.le_trans HK1.out.size h3.size,fun b hb ho=>(h3.block b (by have:=HK1.out.size;omega) (fun h=>by rcases HOk.out _ h with h | h;exact ho h;omega)).trans (HK1.out.block b hb ho)⟩
    rintro e W3 (⟨rfl,O1,hJ3,hk3,ho3,hz3⟩ | ⟨rfl,O1,hx3,hk3⟩)
    · have hS3:=hSk W3 hk3
      have hkW3:=hkO W3 hk3
      refine hK _ _ ⟨hS3,?_⟩
      refine AnyH_takeD (fun _=>trivial) (by kernel_rfl) 4 19 (.bool false) rfl rfl (by kernel_rfl) (by kernel_rfl) (by kernel_rfl) (fun _ _ _ h=>h) (.inl ⟨by rfl,fun w' hs=>?_⟩) hS3 ?_
      · go_simp
      refine AnyH_takeD (fun _=>trivial) (by kernel_rfl) 5 20 (.bool false) rfl rfl (by kernel_rfl) (by kernel_rfl) (by kernel_rfl) (fun _ _ _ h=>h) (.inl ⟨by rfl,fun w' hs=>?_⟩) hS3 ?_
      · go_simp
      refine AnyH_takeD (fun _=>trivial) (by kernel_rfl) 6 21 (.func (.func 179) #[] #[.pointer (some ⟨Yb,0,none⟩), .pointer (some ⟨Db,0,none⟩)]) rfl rfl (by kernel_rfl) (by kernel_rfl) (by kernel_rfl) (fun _ _ _ h=>h) (.inl ⟨by rfl,fun w' hs=>?_⟩) hS3 ?_
      · obtain ⟨q0,q1,q2,q3,q4⟩:=hs
        go_simp
      refine AnyH_takeD (fun _=>trivial) (by kernel_rfl) 7 22 (.slice ua up.length uc) rfl rfl (by kernel_rfl) (by kernel_rfl) (by kernel_rfl) (fun _ _ _ h=>h) (.inl ⟨by rfl,fun w' hs=>?_⟩) hS3 ?_
      · go_simp
      refine AnyH_takeD (fun _=>trivial) (by kernel_rfl) 8 23 (.agg #[.string (bs nm), .slice an l'.length cn, .slice ab s.len cb]) rfl rfl (by kernel_rfl) (by kernel_rfl) (by kernel_rfl) (fun _ _ _ h=>h) (.inl ⟨by rfl,fun w' hs=>?_⟩) hS3 ?_
      · obtain ⟨q0,q1,q2,q3,q4⟩:=hs
        go_simp
      refine AnyH_takeD (fun _=>trivial) (by kernel_rfl) 11 26 (.pointer (some ⟨wr.heap.size,2,none⟩)) rfl rfl (by kernel_rfl) (by kernel_rfl) (by kernel_rfl) (fun _ _ _ h=>h) (.inl ⟨by rfl,fun w' hs=>?_⟩) hS3 ?_
      · go_simp
      refine AnyH_takeD (fun _=>trivial) (by kernel_rfl) 12 27 (.slice ab s.len cb) rfl rfl (by kernel_rfl) (by kernel_rfl) (by kernel_rfl) (fun _ _ _ h=>h) (.inl ⟨by rfl,fun w' hs=>?_⟩) hS3 ?_
      · obtain ⟨q0,q1,q2,q3,q4⟩:=hs
        go_simp
      refine AnyH_one (i:=9) (by kernel_rfl) rfl (by rfl) (fun K hK=>?_)
      go_simp
      have hz3':=hk3.size
      simp at hz3'
      have haW3:Agree S W W3:=hkW3.agree HS.out
      refine ⟨trivial,fun h=>(by cases h),(callsIn_wide.2 (key_any nm l' an cn _ S _ (hI.agree haW3) (fun b hb=>by have:=(hSx b hb).1;omega) ab s.len cb rfl)).mono ?_⟩
      rintro e W4 ⟨rfl,hb4⟩
      have hz4:=hb4.size
      have hS4:=hSk W4 (hk3.trans (Keep.of_below hb4))
      have hkW4:=hkO W4 (hk3.trans (Keep.of_below hb4))
      have hJ4:=HJ.out _ _ _ _ hJ3 hb4
      refine hK _ _ ⟨hS4,?_⟩
      refine AnyH_one (i:=10) (by kernel_rfl) rfl (by rfl) (fun K hK=>?_)
      go_simp
      have haW4:Agree S W W4:=hkW4.agree HS.out
      refine ⟨trivial,fun h=>(by cases h),(callsIn_wide.2 (with_any up (kyOf nm l') ua uc S _ (hup.agree haW4) (fun b hb=>by have:=(hSx b hb).1;omega) (by omega))).mono ?_⟩
      rintro e W5 ⟨a5,c5,rfl,hp5,hb5⟩
      have hz5:=hb5.size
      have hS5:=hSk W5 ((hk3.trans (Keep.of_below hb4)).trans (Keep.of_below hb5))
      have hkW5:=hkO W5 ((hk3.trans (Keep.of_below hb4)).trans (Keep.of_below hb5))
      have hJ5:=HJ.out _ _ _ _ hJ4 hb5
      refine hK _ _ ⟨hS5,?_⟩
      refine AnyH_one (i:=13) (by kernel_rfl) rfl (by rfl) (fun K hK=>?_)
      have hD1:(pre ++ nodesL up (y.take k) ++ [NdV.dat ⟨up,ua,uc,nm,l',an,cn,s,ab,cb⟩]) ++ nodesL (up ++ [kyOf nm l']) s = pre ++ nodesL up (y.take (k + 1)):=by
       rw [nodesL_take HD.out];simp [NdV.dat]
      have hO15:∀ b,O1 b→b < W3.heap.size∧(Ok b ∨ wr.heap.size < b):=fun b hb=>⟨hz3 b hb,(ho3 b hb).imp id (fun h=>by simp at h;omega)⟩
      have hY1:¬ O1 Yb:=fun h=>by rcases (hO15 _ h).2 with h | h;exact hYo h;omega
      have hD1':¬ O1 Db:=fun h=>by rcases (hO15 _ h).2 with h | h;exact hDo h;omega
      have hB1:¬ O1 wr.heap.size:=fun h=>by rcases (hO15 _ h).2 with h | h;exact hBo h;omega
      have hOk1:∀ b,O1 b→O b ∨ W.heap.size ≤ b:=fun b hb=>by rcases (hO15 b hb).2 with h | h;exact HOk.out b h;exact .inr (by omega)
      have hcall:=IH.out (n - 1) s (up ++ [kyOf nm l']) a5 c5 ab cb _ (fun b=>b < W5.heap.size∧¬ O1 b) O1 W5 (by omega) hJ5 hS5.1 hS5.2.1 ⟨by omega,hY1⟩ ⟨by omega,hD1'⟩
       (by rw [List.length_append];exact hp5.wide fun b hb=>⟨hb.2,fun h=>by have:=(hO15 b h).1;have:=hb.1;omega⟩)
       ((hF.agree (hkW5.agree HS.out)).wide fun b hb=>⟨by have:=(hSx b hb).1;omega,fun h=>by rcases (hO15 b h).2 with h | h;exact (hSx b hb).2 h;have:=(hSx b hb).1;omega⟩)
       (fun b hb=>hb) (fun b hb=>by have:=(hO15 b hb).1;omega) s3 s4 (by rw [List.length_append];simp;omega)
       (fun q hq=>by
         rw [List.append_assoc,List.append_assoc]
         refine HG.out _ (List.IsPrefix.trans ?_ (nodesL_pre (k:=k + 1)))
         rw [nodesL_take HD.out]
         obtain ⟨t,ht⟩:=hq
         exact ⟨t,by rw [← ht];simp [NdV.dat]⟩)
      rw [List.length_append] at hcall
      simp only [List.length_cons,List.length_nil,Nat.zero_add] at hcall
      go_simp
      refine ⟨trivial,fun h=>(by cases h),hcall.mono ?_⟩
      have hS6:∀ W6,Keep O1 W5 W6→(fun w':World=>w'.cell? ⟨Yb,0,none⟩ = some (.func (.yield l) #[] #[])∧w'.cell? ⟨Db,0,none⟩ = some (.func (.func 179) #[] #[.pointer (some ⟨Yb,0,none⟩), .pointer (some ⟨Db,0,none⟩)]) ∧
       w'.cell? ⟨wr.heap.size,0,none⟩ = some (.string (bs nm))∧w'.cell? ⟨wr.heap.size,1,none⟩ = some (.slice an l'.length cn)∧w'.cell? ⟨wr.heap.size,2,none⟩ = some (.slice ab s.len cb)) W6:=fun W6 h6=>
       ⟨h6.cell (by omega) hY1 hS5.1,h6.cell (by omega) hD1' hS5.2.1,h6.cell (by omega) hB1 hS5.2.2.1,h6.cell (by omega) hB1 hS5.2.2.2.1,h6.cell (by omega) hB1 hS5.2.2.2.2⟩
      have hkW6:∀ W6,Keep O1 W5 W6→Keep O W W6:=fun W6 h6=>
       ⟨h6.os.trans hkW5.os,h6.tape.trans hkW5.tape,h6.output.trans hkW5.output,Nat.le_trans hkW5.size h6.size,fun b hb ho=>(h6.block b (by have:=hkW5.size;omega) (fun h=>by rcases hOk1 b h with h | h;exact ho h;omega)).trans (hkW5.block b hb ho)⟩
      rintro e W6 (⟨rfl,O2,hJ6,hk6,ho6,hz6⟩ | ⟨rfl,q,O2,hq,hx6,hk6⟩)
      · have hS6':=hS6 W6 hk6
        have hkW6':=hid (hkW6 W6 hk6)
        have hz6':=hk6.size
        refine hK _ _ ⟨hS6',?_⟩
        refine AnyH_takeD (fun _=>trivial) (by kernel_rfl) 14 29 (.bool false) rfl rfl (by kernel_rfl) (by kernel_rfl) (by kernel_rfl) (fun _ _ _ h=>h) (.inl ⟨by rfl,fun w' hs=>?_⟩) hS6' ?_
        · go_simp
        refine AnyH_takeD (fun _=>trivial) (by kernel_rfl) 15 30 (.bool false) rfl rfl (by kernel_rfl) (by kernel_rfl) (by kernel_rfl) (fun _ _ _ h=>h) (.inl ⟨by rfl,fun w' hs=>?_⟩) hS6' ?_
        · go_simp
        refine AnyH_done (by kernel_rfl) ?_
        have HJ6:=hid (hD1 ▸ hJ6)
        have HO6:Hid (∀ b,O2 b→O b ∨ W.heap.size ≤ b):=fun b hb=>by rcases ho6 b hb with h | h;exact hOk1 b h;exact .inr (by omega)
        have HZ6:=hid hz6
        clear hz6 ho6 hJ6 hD1 hcall hS5 hS4 hS3 hSk hkO hS0 hOk1 hO15 hSx hJ5 hJ4 hJ3 hz3 ho3 hE0
        gi_wp2_with fail
        go_roundw
        case rel=>exact ⟨k + 1,O2,by omega,by go_num,HJ6,hkW6',HO6,HZ6⟩
        case measure=>simp [intOf];omega
      · have hS6':=hS6 W6 hk6
        have hkW6':=hid (hkW6 W6 hk6)
        refine hK _ _ ⟨hS6',?_⟩
        refine AnyH_takeD (fun _=>trivial) (by kernel_rfl) 14 29 (.bool true) rfl rfl (by kernel_rfl) (by kernel_rfl) (by kernel_rfl) (fun _ _ _ h=>h) (.inl ⟨by rfl,fun w' hs=>?_⟩) hS6' ?_
        · go_simp
        refine AnyH_takeD (fun _=>trivial) (by kernel_rfl) 15 30 (.bool true) rfl rfl (by kernel_rfl) (by kernel_rfl) (by kernel_rfl) (fun _ _ _ h=>h) (.inl ⟨by rfl,fun w' hs=>?_⟩) hS6' ?_
        · go_simp
        refine AnyH_done (by kernel_rfl) ?_
        have hpre:(nodesL up (y.take k) ++ (⟨up,nm,l',s⟩ :: q)) <+: nodesL up y:=by
         refine List.IsPrefix.trans ?_ (nodesL_pre (k:=k + 1))
         rw [nodesL_take HD.out]
         obtain ⟨t,ht⟩:=hq
         exact ⟨t,by rw [← ht];simp⟩
        have HX:Hid (∃ q' O',q' <+: nodesL up y∧Jx (pre ++ q') O' W6∧Keep O W W6):=⟨_,O2,hpre,by simpa [NdV.dat] using hx6,hkW6'.out⟩
        clear hx6 hD1 hcall hS5 hS4 hS3 hSk hkO hS0 hOk1 hO15 hSx hJ5 hJ4 hJ3 hz3 ho3 hE0 hpre
        gi_wp2_with fail
        go_ret
        exact .inr ⟨rfl,HX.out⟩
    · have hS3:=hSk W3 hk3
      have hkW3:=hkO W3 hk3
      refine hK _ _ ⟨hS3,?_⟩
      refine AnyH_takeD (fun _=>trivial) (by kernel_rfl) 4 19 (.bool true) rfl rfl (by kernel_rfl) (by kernel_rfl) (by kernel_rfl) (fun _ _ _ h=>h) (.inl ⟨by rfl,fun w' hs=>?_⟩) hS3 ?_
      · go_simp
      refine AnyH_takeD (fun _=>trivial) (by kernel_rfl) 5 20 (.bool true) rfl rfl (by kernel_rfl) (by kernel_rfl) (by kernel_rfl) (fun _ _ _ h=>h) (.inl ⟨by rfl,fun w' hs=>?_⟩) hS3 ?_
      · go_simp
      refine AnyH_takeD (fun _=>trivial) (by kernel_rfl) 6 21 (undef) rfl rfl (by kernel_rfl) (by kernel_rfl) (by kernel_rfl) (fun _ _ _ h=>h) (.inr ⟨by kernel_rfl,rfl⟩) hS3 ?_
      refine AnyH_takeD (fun _=>trivial) (by kernel_rfl) 7 22 (undef) rfl rfl (by kernel_rfl) (by kernel_rfl) (by kernel_rfl) (fun _ _ _ h=>h) (.inr ⟨by kernel_rfl,rfl⟩) hS3 ?_
      refine AnyH_takeD (fun _=>trivial) (by kernel_rfl) 8 23 (undef) rfl rfl (by kernel_rfl) (by kernel_rfl) (by kernel_rfl) (fun _ _ _ h=>h) (.inr ⟨by kernel_rfl,rfl⟩) hS3 ?_
      refine AnyH_takeD (fun _=>trivial) (by kernel_rfl) 9 24 (undef) rfl rfl (by kernel_rfl) (by kernel_rfl) (by kernel_rfl) (fun _ _ _ h=>h) (.inr ⟨by kernel_rfl,rfl⟩) hS3 ?_
      refine AnyH_takeD (fun _=>trivial) (by kernel_rfl) 10 25 (undef) rfl rfl (by kernel_rfl) (by kernel_rfl) (by kernel_rfl) (fun _ _ _ h=>h) (.inr ⟨by kernel_rfl,rfl⟩) hS3 ?_
      refine AnyH_takeD (fun _=>trivial) (by kernel_rfl) 11 26 (undef) rfl rfl (by kernel_rfl) (by kernel_rfl) (by kernel_rfl) (fun _ _ _ h=>h) (.inr ⟨by kernel_rfl,rfl⟩) hS3 ?_
      refine AnyH_takeD (fun _=>trivial) (by kernel_rfl) 12 27 (undef) rfl rfl (by kernel_rfl) (by kernel_rfl) (by kernel_rfl) (fun _ _ _ h=>h) (.inr ⟨by kernel_rfl,rfl⟩) hS3 ?_
      refine AnyH_takeD (fun _=>trivial) (by kernel_rfl) 13 28 (undef) rfl rfl (by kernel_rfl) (by kernel_rfl) (by kernel_rfl) (fun _ _ _ h=>h) (.inr ⟨by kernel_rfl,rfl⟩) hS3 ?_
      refine AnyH_takeD (fun _=>trivial) (by kernel_rfl) 14 29 (undef) rfl rfl (by kernel_rfl) (by kernel_rfl) (by kernel_rfl) (fun _ _ _ h=>h) (.inr ⟨by kernel_rfl,rfl⟩) hS3 ?_
      refine AnyH_takeD (fun _=>trivial) (by kernel_rfl) 15 30 (.bool true) rfl rfl (by kernel_rfl) (by kernel_rfl) (by kernel_rfl) (fun _ _ _ h=>h) (.inl ⟨by rfl,fun w' hs=>?_⟩) hS3 ?_
      · go_simp
      refine AnyH_done (by kernel_rfl) ?_
      have hpre:(nodesL up (y.take k) ++ [⟨up,nm,l',s⟩]) <+: nodesL up y:=by
       refine List.IsPrefix.trans ?_ (nodesL_pre (k:=k + 1))
       rw [nodesL_take HD.out]
       exact ⟨nodesL (up ++ [kyOf nm l']) s,by simp⟩
      have HX:Hid (∃ q' O',q' <+: nodesL up y∧Jx (pre ++ q') O' W3∧Keep O W W3):=⟨_,O1,hpre,by simpa [NdV.dat] using hx3,hkW3⟩
      clear hx3 hS3 hSk hkO hS0 hSx hE0 hpre
      simp only [Act.put,List.setIfInBounds_toArray,List.set_cons_succ,List.set_cons_zero]
      gi_wp2_with fail
      go_ret
      exact .inr ⟨rfl,HX.out⟩
  · gi_wp2_with fail
    go_ret
    obtain rfl:k = y.len:=by omega
    exact .inl ⟨rfl,Ok,by have:=HJk.out;rwa [Fo.take_len] at this,HK.out,HOk.out,HOz.out⟩
end Go.Proofs.LF
namespace Go.Proofs.LF
open Go.RowKit
set_option maxHeartbeats 4000000
set_option maxRecDepth 100000
attribute [local go_sem] bs_toList bs_size bs_get Oper.semAt_some
theorem seq1_any (G:List NdD→Prop) (l B1 B2:Nat) (J Jx:List NdD→(Nat→Prop)→World→Prop)
 (hJ:∀ pre O A B,J pre O A→Below A.heap.size A B→J pre O B)
 (hY:∀ m pre x O W1,J pre O W1→G (pre ++ [x.dat])→NdV.E (fun b=>b < W1.heap.size∧¬ O b) W1 x→YieldAt Fence.wide m Tryz.prog l (NdV.encs x) W1 fun e W'=>
   (e = .returned (.bool true)∧∃ O',J (pre ++ [x.dat]) O' W'∧Keep O W1 W'∧(∀ b,O' b→O b ∨ W1.heap.size ≤ b)∧(∀ b,O' b→b < W'.heap.size)) ∨
   (e = .returned (.bool false)∧∃ O',Jx (pre ++ [x.dat]) O' W'∧Keep O W1 W'))
 (n:Nat) (y:Fo) (up:List Ky) (ua:Option Addr) (uc:Nat) (a:Option Addr) (c:Nat) (S O:Nat→Prop) (W:World) (hJ0:J [] O W)
  (h1:W.cell? ⟨B1,0,none⟩ = some (.slice ua up.length uc)) (h2:W.cell? ⟨B2,0,none⟩ = some (.slice a y.len c))
  (hB1:B1 < W.heap.size) (hB2:B2 < W.heap.size) (hup:Pth S W (.slice ua up.length uc) up) (hv:FSl S W (.slice a y.len c) y) (hS:∀ b,S b→b < W.heap.size∧¬ O b) (hO:∀ b,O b→b < W.heap.size)
  (hlen:y.len ≤ 1000) (hsm:y.Sm) (hdep:up.length + y.cnt ≤ 900) (hG:∀ q,q <+: nodesL up y→G q) :
  CallsIn Fence.wide n Tryz.prog 178 #[.func (.yield l) #[] #[], .pointer (some ⟨B1,0,none⟩), .pointer (some ⟨B2,0,none⟩)] W fun e W'=>(∃ v,e = .returned v)∧((∃ O',J (nodesL up y) O' W') ∨ (∃ pre O',pre <+: nodesL up y∧Jx pre O' W')):=by
 have hb:Below W.heap.size W ((W.alloc (.cells #[.func (.yield l) #[] #[]] 247)).alloc (.cells #[.func (.func 179) #[] #[.pointer (some ⟨W.heap.size,0,none⟩), .pointer (some ⟨W.heap.size + 1,0,none⟩)]] 248)):=((Below.refl _ _).alloc (nl_ _) _).alloc (by simp) _
 have hp:=push_any G l W.heap.size (W.heap.size + 1) J Jx hJ hY (y.cnt + 1) (n - 1) y up ua uc a c [] S O _ (by omega) (hJ _ _ _ _ hJ0 hb) (bc_ ((Below.refl _ _).alloc (nl_ _) _) (by simp) (by simp)) (by simp) ⟨by simp;omega,fun h=>by have:=hO _ h;omega⟩ ⟨by simp,fun h=>by have:=hO _ h;omega⟩
  (hup.agree (Ag_b hb fun b h=>(hS b h).1)) (hv.agree (Ag_b hb fun b h=>(hS b h).1)) (fun b h=>⟨by have:=(hS b h).1;simp;omega,(hS b h).2⟩) (fun b h=>by have:=hO b h;simp;omega) hlen hsm hdep (fun q hq=>by simpa using hG q hq)
 have HP:=hid hp
 clear hp hJ hY hJ0 hS hO
 refine callsIn_of_wp Tryz.func178 rfl trivial ?_ rfl
 simp only [Tryz.ntmps178,List.size_toArray,List.length_cons,List.length_nil,Nat.reduceAdd,Nat.reduceSub,Array.replicate_succ,Array.replicate_zero,List.push_toArray,List.append_toArray,List.nil_append,List.cons_append]
 gi_wp2_with (first | ((try refine ⟨trivial,fun h=>(by cases h),?_⟩);gi_at_call 179;refine HP.out.mono ?_;rintro e W6 (⟨rfl,O2,hJ6,hk6,_⟩ | ⟨rfl,q,O2,hq,hx6,hk6⟩)))
 · go_end0
   exact ⟨⟨_,rfl⟩, .inl ⟨O2,by simpa using hJ6⟩⟩
 · go_end0
   exact ⟨⟨_,rfl⟩, .inr ⟨q,O2,hq,by simpa using hx6⟩⟩
theorem nodes_any (ua:Option Addr) (un uc:Nat) (a:Option Addr) (yn c:Nat) (w:World) :
 Calls Tryz.prog 88 #[.slice ua un uc, .slice a yn c] w fun e w'=>e = .returned (.func (.func 178) #[] #[.pointer (some ⟨w.heap.size,0,none⟩), .pointer (some ⟨w.heap.size + 1,0,none⟩)])∧w' = (w.alloc (.cells #[.slice ua un uc] 65)).alloc (.cells #[.slice a yn c] 22):=by
 go_enter Tryz.func88,Tryz.ntmps88
 go_wp2
 go_ret
 exact ⟨rfl,rfl⟩
theorem nodes_seq (B1 B2:Nat) (y:Fo) (up:List Ky) (ua:Option Addr) (uc:Nat) (a:Option Addr) (c:Nat) (S:Nat→Prop) (w:World)
 (h1:w.cell? ⟨B1,0,none⟩ = some (.slice ua up.length uc)) (h2:w.cell? ⟨B2,0,none⟩ = some (.slice a y.len c))
 (hB1:B1 < w.heap.size) (hB2:B2 < w.heap.size) (hup:Pth S w (.slice ua up.length uc) up) (hv:FSl S w (.slice a y.len c) y) (hS:∀ b,S b→b < w.heap.size)
 (hlen:y.len ≤ 1000) (hsm:y.Sm) (hdep:up.length + y.cnt ≤ 900) :
 SeqI Tryz.prog 178 #[.pointer (some ⟨B1,0,none⟩), .pointer (some ⟨B2,0,none⟩)] NdV.dat NdV.encs NdV.E (nodesL up y) w (fun b=>S b ∨ b = B1 ∨ b = B2):=by
 intro l J Jx O W hb hT hO hJ _ hY h0 n
 have hz:=hb.size
 exact seq1_any (· <+: nodesL up y) l B1 B2 J Jx hJ hY n y up ua uc a c S O W h0 (bc_ hb hB1 h1) (bc_ hb hB2 h2) (by omega) (by omega) (hup.agree (Ag_b hb hS)) (hv.agree (Ag_b hb hS)) (fun b h=>⟨by have:=hS b h;omega,hT b (.inl h)⟩) hO hlen hsm hdep (fun _ h=>h)
theorem NdV.E_agree {S:Nat→Prop} {w w':World} {x:NdV} (h:NdV.E S w x) (ha:Agree S w w'):NdV.E S w' x:=⟨h.1.agree ha,h.2.1.agree ha,h.2.2.1.agree ha,h.2.2.2⟩
theorem NdV.E_wide {S S':Nat→Prop} {w:World} {x:NdV} (h:NdV.E S w x) (hs:∀ b,S b→S' b):NdV.E S' w x:=⟨h.1.wide hs,h.2.1.wide hs,h.2.2.1.wide hs,h.2.2.2⟩
theorem enters178:∀ (args:Array Value) (W:World),(callFunc 178 args).run Tryz.prog W = .ok (.enter 178 args) W:=by
 intro args W
 simp [go_sem]
theorem box_cell {W:World} {B:Nat} {v:Value} {t:TypeId} (h:W.heap[B]? = some (.cells #[v] t (0,0))):W.cell? ⟨B,0,none⟩ = some v∧W.frozen? ⟨B,0,none⟩ = false:=by
 constructor <;> simp [World.cell?,World.frozen?,h]
theorem box_set {W:World} {B:Nat} {v u:Value} {t:TypeId} (h:W.heap[B]? = some (.cells #[v] t (0,0))):(W.setCell ⟨B,0,none⟩ u).heap[B]? = some (.cells #[u] t (0,0)):=by
 simp [World.setCell,Array.getElem?_modify,h]
theorem box_new (W:World) (v:Value) (t:TypeId):(W.alloc (.cells #[v] t)).heap[W.heap.size]? = some (.cells #[v] t (0,0)):=World.alloc_heap_new W _
theorem box_alloc {W:World} {B:Nat} {x:Obj} (o:Obj) (h:W.heap[B]? = some x):(W.alloc o).heap[B]? = some x:=
 (Below.heap_alloc W o B (Array.getElem?_eq_some_iff.1 h).1).trans h
theorem below_putObj {B D:Nat} {w W:World} {o:Obj} (h:Below B w W) (hD:B ≤ D):Below B w (W.putObj D o):=
 ⟨h.os,h.tape,h.output,by have:=h.size;simpa using this,fun k hk=>(World.putObj_heap_other (by omega)).trans (h.block k hk)⟩
theorem few_any (y:Fo) (a:Option Addr) (c:Nat) (S:Nat→Prop) (w:World) (hv:FSl S w (.slice a y.len c) y) (hS:∀ b,S b→b < w.heap.size) (hlen:y.len ≤ 1000) (hsm:y.Sm) (hcnt:y.cnt ≤ 900) :
 Calls Tryz.prog 94 #[.slice a y.len c] w fun e w'=>e = .returned (.bool (decide (y.cnt ≤ 60)))∧Below w.heap.size w w':=by
 refine (callsIn_wide (n:=9)).1 ?_
 refine callsIn_of_wp_marks Tryz.func94 rfl trivial ?_ rfl
 simp only [Tryz.ntmps94,List.size_toArray,List.length_cons,List.length_nil,Nat.reduceAdd,Nat.reduceSub,Array.replicate_succ,Array.replicate_zero,List.push_toArray,List.append_toArray,List.nil_append,List.cons_append]
 gi_wp2_with (first | (refine ⟨trivial,?_⟩;gi_at_call 88;refine (callsIn_wide.2 (nodes_any _ _ _ _ _ _ _)).mono ?_;rintro e w' ⟨rfl,rfl⟩) | (gi_at_call 88;refine (callsIn_wide.2 (nodes_any _ _ _ _ _ _ _)).mono ?_;rintro e w' ⟨rfl,rfl⟩))
 obtain ⟨W0,hW0⟩:∃ W0,((((w.alloc (.cells #[.bool false] 4)).alloc (.cells #[.int .i64 0] 3)).alloc (.cells #[.slice none 0 0] 65)).alloc (.cells #[.slice a y.len c] 22)) = W0:=⟨_,rfl⟩
 have hz:W0.heap.size = w.heap.size + 4:=by rw [← hW0];simp
 have hb0:W0.heap[w.heap.size]? = some (.cells #[.bool false] 4 (0,0)):=by rw [← hW0];exact box_alloc _ (box_alloc _ (box_alloc _ (box_new _ _ _)))
 have hb1:W0.heap[w.heap.size + 1]? = some (.cells #[.int .i64 0] 3 (0,0)):=by rw [← hW0];have:=box_alloc (.cells #[.slice a y.len c] 22) (box_alloc (.cells #[.slice none 0 0] 65) (box_new (w.alloc (.cells #[.bool false] 4)) (.int .i64 0) 3));simpa using this
 have hb2:W0.cell? ⟨w.heap.size + 1 + 1,0,none⟩ = some (.slice none 0 0):=by rw [← hW0];have:=(box_cell (box_alloc (.cells #[.slice a y.len c] 22) (box_new ((w.alloc (.cells #[.bool false] 4)).alloc (.cells #[.int .i64 0] 3)) (.slice none 0 0) 65))).1;simpa using this
 have hb3:W0.cell? ⟨w.heap.size + 1 + 1 + 1,0,none⟩ = some (.slice a y.len c):=by rw [← hW0];have:=(box_cell (box_new (((w.alloc (.cells #[.bool false] 4)).alloc (.cells #[.int .i64 0] 3)).alloc (.cells #[.slice none 0 0] 65)) (.slice a y.len c) 22)).1;simpa using this
 have hbel:Below w.heap.size w W0:=by rw [← hW0];exact ((((Below.refl _ _).alloc (nl_ _) _).alloc (by simp) _).alloc (by simp;omega) _).alloc (by simp;omega) _
 rw [hW0]
 clear hW0
 refine range_law (n:=9) (gf:=178) (lb:=#[.pointer (some ⟨w.heap.size + 1 + 1,0,none⟩), .pointer (some ⟨w.heap.size + 1 + 1 + 1,0,none⟩)]) rfl enters178
  (nodes_seq (w.heap.size + 1 + 1) (w.heap.size + 1 + 1 + 1) y [] none 0 a c S W0 hb2 hb3 (by omega) (by omega) ⟨rfl,none,0,rfl,nl_ _,by simp [maxLen],fun _=>rfl, .inl rfl⟩ (hv.agree (Ag_b hbel hS)) (fun b h=>by have:=hS b h;omega) hlen hsm (by simpa using hcnt))
  NdV.E_agree NdV.E_wide (fun _=>rfl)
  (fun pre O W=>O = (fun b=>b = w.heap.size ∨ b = w.heap.size + 1)∧W.heap[w.heap.size]? = some (.cells #[.bool false] 4 (0,0))∧W.heap[w.heap.size + 1]? = some (.cells #[.int .i64 (pre.length:Int)] 3 (0,0))∧pre.length ≤ 60∧Below w.heap.size w W)
  (fun cd pre O W=>cd = .ret∧O = (fun b=>b = w.heap.size ∨ b = w.heap.size + 1)∧W.heap[w.heap.size]? = some (.cells #[.bool false] 4 (0,0))∧60 < pre.length∧Below w.heap.size w W)
  ?dep ?depx (fun b=>b = w.heap.size ∨ b = w.heap.size + 1) ?o0 ?ot ⟨rfl,hb0,hb1,by simp,hbel⟩
  (fun x _ a₁ _=>a₁ = { tmps:=#[.slice a y.len c,undef, .pointer (some ⟨w.heap.size,0,none⟩), .pointer (some ⟨w.heap.size + 1,0,none⟩), .slice a y.len c, .func (.func 178) #[] #[.pointer (some ⟨w.heap.size + 1 + 1,0,none⟩), .pointer (some ⟨w.heap.size + 1 + 1 + 1,0,none⟩)], .slice x.ua x.up.length x.uc, .agg #[.string (bs x.n), .slice x.an x.l.length x.cn, .slice x.ab x.s.len x.cb],undef,undef,undef,undef],defers:=[] })
  (fun _ _ _ _ _ h _=>h) ?assign ?body ?done ?stop
 case dep=>
  rintro pre O A B ⟨rfl,h1,h2,h3,h4⟩ e1 e2 e3 e4 hh
  have hA:=h4.size
  have l1:=(Array.getElem?_eq_some_iff.1 h1).1
  have l2:=(Array.getElem?_eq_some_iff.1 h2).1
  exact ⟨rfl,(hh _ l1 (.inl (.inl rfl))).trans h1,(hh _ l2 (.inl (.inr rfl))).trans h2,h3,e1.trans h4.os,e2.trans h4.tape,e3.trans h4.output,by omega,fun k hk=>(hh k (by omega) (.inr (by omega))).trans (h4.block k hk)⟩
 case depx=>
  rintro cd pre O A B ⟨rfl,rfl,h1,h3,h4⟩ e1 e2 e3 e4 hh
  have hA:=h4.size
  have l1:=(Array.getElem?_eq_some_iff.1 h1).1
  exact ⟨rfl,rfl,(hh _ l1 (.inl (.inl rfl))).trans h1,h3,e1.trans h4.os,e2.trans h4.tape,e3.trans h4.output,by omega,fun k hk=>(hh k (by omega) (.inr (by omega))).trans (h4.block k hk)⟩
 case o0=>
  intro b hb
  refine ⟨by omega,fun h=>?_⟩
  rcases h with h | h | h
  · have:=hS b h;omega
  · omega
  · omega
 case ot=>
  intro b h
  rcases h with h | h | h
  · have:=hS b h;omega
  · omega
  · omega
 case assign=>
  intro l m x S' W K hE hK
  gi_wp2
  exact hK _ _ (Below.refl _ _) (by simp [NdV.encs])
 case body=>
  rintro l m pre x O lo a₁ W - ⟨rfl,h1,h2,h3,hB⟩ hlo hlo2 hOlo hE rfl
  obtain ⟨c1,f1⟩:=box_cell h1
  obtain ⟨c2,f2⟩:=box_cell h2
  by_cases hlt:60 < (pre.length:Int) + 1
  · gi_wp2
    have hz1:W.heap.size ≤ ((W.setCell ⟨w.heap.size + 1,0,none⟩ (.int .i64 ((pre.length:Int) + 1))).setCell ⟨w.heap.size,0,none⟩ (.bool false)).heap.size:=by simp [World.setCell]
    refine ⟨_,⟨rfl,rfl,?_,by simp;omega,(hB.setCell (p:=⟨w.heap.size + 1,0,none⟩) (by simp) _).setCell (p:=⟨w.heap.size,0,none⟩) (nl_ _) _⟩,(Keep.setCell (O:=fun b=>b = w.heap.size ∨ b = w.heap.size + 1) (p:=⟨w.heap.size + 1,0,none⟩) (.inr rfl)).trans (Keep.setCell (p:=⟨w.heap.size,0,none⟩) (.inl rfl)),fun b hb => .inl hb⟩
    exact box_set ((Below.heap_setCell _ _ _ _ (by simp)).trans h1)
  · gi_wp2
    refine ⟨_,⟨rfl,(Below.heap_setCell _ _ _ _ (by simp)).trans h1,?_,by simp;omega,hB.setCell (p:=⟨w.heap.size + 1,0,none⟩) (by simp) _⟩,Keep.setCell (O:=fun b=>b = w.heap.size ∨ b = w.heap.size + 1) (p:=⟨w.heap.size + 1,0,none⟩) (.inr rfl),fun b hb => .inl hb,fun b hb=>?_⟩
    · have:=box_set (u := .int .i64 ((pre.length:Int) + 1)) h2
      rw [List.length_append,List.length_singleton]
      exact this
    · have:=hOlo b hb
      simp [World.setCell];omega
 case done=>
  rintro D O W ⟨rfl,h1,h2,h3,hB⟩ hD hK
  obtain ⟨c1,f1⟩:=box_cell h1
  gi_wp2
  refine ⟨by simp, .inl ⟨_,_,rfl,run_takeDeferred ((Below.heap_setCell _ _ _ _ (by simp;omega)).trans hK),?_⟩⟩
  have hbx:((W.setCell ⟨w.heap.size,0,none⟩ (.bool true)).putObj D (.deferred none)).heap[w.heap.size]? = some (.cells #[.bool true] 4 (0,0)):=(World.putObj_heap_other (by omega)).trans (box_set h1)
  have hc:=(box_cell hbx).1
  refine ⟨.bool true,by simp [results,Tryz.results94,go_sem,hc],ret_bool ?_,below_putObj (hB.setCell (p:=⟨w.heap.size,0,none⟩) (nl_ _) _) (by omega)⟩
  rw [nodesL_length] at h3
  simpa using h3
 case stop=>
  rintro D cd pre O W hp ⟨rfl,rfl,h1,h3,hB⟩ hD hK
  gi_wp2
  refine ⟨by simp, .inl ⟨_,_,rfl,run_takeDeferred hK,?_⟩⟩
  have hbx:(W.putObj D (.deferred none)).heap[w.heap.size]? = some (.cells #[.bool false] 4 (0,0)):=(World.putObj_heap_other (by omega)).trans h1
  have hc:=(box_cell hbx).1
  refine ⟨.bool false,by simp [results,Tryz.results94,go_sem,hc],ret_bool ?_,below_putObj hB (by omega)⟩
  have:=hp.length_le
  rw [nodesL_length] at this
  symm
  rw [decide_eq_false_iff_not];omega
def chkY (y:Fo):Int:=if y.cnt ≤ 60 then ordF 0 y else 2
theorem Check_any (y:Fo) (a:Option Addr) (c:Nat) (S:Nat→Prop) (w:World) (hv:FSl S w (.slice a y.len c) y) (hS:∀ b,S b→b < w.heap.size) (hlen:y.len ≤ 1000) (hsm:y.Sm) (hcnt:y.cnt ≤ 900) :
 Calls Tryz.prog 23 #[.slice a y.len c] w fun e w'=>e = .returned (.int .i64 (chkY y))∧Below w.heap.size w w':=by
 by_cases h60:y.cnt ≤ 60
 · have hd:decide (y.cnt ≤ 60) = true:=decide_eq_true h60
   go_enter Tryz.func23,Tryz.ntmps23
   go_wp2_with fail
   refine (few_any y a c S w hv hS hlen hsm hcnt).mono ?_
   rintro e w1 ⟨rfl,hb1⟩
   have hz:=hb1.size
   go_wp2_with fail
   refine (ordered_any (y.cnt + 1) y 0 a c S w1 (by omega) (by omega) (by omega) (hv.agree (Ag_b hb1 hS)) (fun b h=>by have:=hS b h;omega) hlen hsm).mono ?_
   rintro e w2 ⟨rfl,hb2⟩
   go_wp2_with fail
   go_ret
   exact ⟨ret_int (by simp [chkY,h60]),hb1.trans (hb2.mono hz)⟩
 · have hd:decide (y.cnt ≤ 60) = false:=decide_eq_false h60
   go_enter Tryz.func23,Tryz.ntmps23
   go_wp2_with fail
   refine (few_any y a c S w hv hS hlen hsm hcnt).mono ?_
   rintro e w1 ⟨rfl,hb1⟩
   go_wp2_with fail
   go_ret
   exact ⟨ret_int (by simp [chkY,h60]),hb1⟩
end Go.Proofs.LF
namespace Go.Proofs.LF
open Go.RowKit
set_option maxHeartbeats 4000000
set_option maxRecDepth 100000
attribute [local go_sem] bs_toList bs_size bs_get
theorem Tryz.info85:(Tryz.prog.info? 85).map (fun i=>(i.zero,i.size,i.bytes)) = some (some (.agg #[.string ByteArray.empty, .slice none 0 0, .slice none 0 0]),3,64):=by kernel_rfl
theorem eqInts_any (l m:List Int) (an am:Option Addr) (cn cm:Nat) (S:Nat→Prop) (w:World) (hl:Ints S w (.slice an l.length cn) l) (hm:Ints S w (.slice am m.length cm) m) (hlen:l.length ≤ 100000) (hlen2:m.length ≤ 100000) :
 Calls Tryz.prog 47 #[.slice an l.length cn, .slice am m.length cm] w fun e w'=>e = .returned (.bool (decide (l = m)))∧Below w.heap.size w w':=by
 by_cases hne:l.length = m.length
 · have hne':((l.length:Int) != (m.length:Int)) = false:=by simp;omega
   have HN:=hid hne
   clear hne
   go_enter Tryz.func47,Tryz.ntmps47
   go_wp2_with fail
   go_loopw [13] (fun i wr=>∃ (k d:Nat),k ≤ l.length∧i = .int .i64 k∧wr = w.drewN d∧Hid (l.take k = m.take k)) (fun i _=>l.length - (intOf i).toNat)
   case atStart=>exact ⟨0,0,by omega,rfl,rfl,by simp [Hid]⟩
   case round=>
    obtain ⟨k,d,hk,rfl,rfl,H2⟩:=hrel
    by_cases hlt:k < l.length
    · obtain ⟨g,o,rfl,_,_,_,hcell⟩:=SlC.cells hl (by omega)
      obtain ⟨g',o',rfl,_,_,_,hcell'⟩:=SlC.cells hm (by have:=HN.out;omega)
      have hlt':k < m.length:=by have:=HN.out;omega
      have hx:w.cell? ⟨g,o + k,none⟩ = some (.int .i64 l[k]):=hcell k _ (by simp [hlt])
      have hx':w.cell? ⟨g',o' + k,none⟩ = some (.int .i64 m[k]):=hcell' k _ (by simp [hlt'])
      clear hcell hcell'
      have i1:(0:Int) ≤ (k:Int):=by omega
      have i2:(k:Int) < (l.length:Int):=by omega
      have i3:(k:Int) < (m.length:Int):=by omega
      by_cases he:l[k] = m[k]
      · have he':(l[k] != m[k]) = false:=by simpa using he
        have HE:=hid he
        clear he
        go_wp2_with fail
        go_quiet (fail)
        go_wp2_with fail
        go_roundw
        case rel=>exact ⟨k + 1,_,by omega,by go_num,rfl,by rw [Hid,List.take_succ_eq_append_getElem hlt,List.take_succ_eq_append_getElem hlt',H2.out,HE.out]⟩
        case measure=>simp [intOf];omega
      · have he':(l[k] != m[k]) = true:=by simpa using he
        have HE:=hid he
        clear he
        go_wp2_with fail
        go_quiet (fail)
        go_wp2_with fail
        go_ret
        refine ⟨ret_bool ?_,below_drewN (below_drewN (Below.refl _ _) _) _⟩
        symm
        rw [decide_eq_false_iff_not]
        rintro rfl
        exact HE.out rfl
    · go_wp2_with fail
      go_ret
      obtain rfl:k = l.length:=by omega
      refine ⟨ret_bool ?_,below_drewN (Below.refl _ _) _⟩
      symm
      have:=H2.out
      rw [List.take_length,HN.out,List.take_length] at this
      exact decide_eq_true this
 · have hne':((l.length:Int) != (m.length:Int)) = true:=by simp;omega
   have HN:=hid hne
   clear hne
   go_enter Tryz.func47,Tryz.ntmps47
   go_wp2_with fail
   go_ret
   refine ⟨ret_bool ?_,Below.refl _ _⟩
   symm
   rw [decide_eq_false_iff_not]
   rintro rfl
   exact HN.out rfl
theorem Fo.drop_eq {i:Nat} {y z r s r' s':Fo} {n n':List UInt8} {l l':List Int} (h:y.drop i = .cons n l s r) (h':z.drop i = .cons n' l' s' r') (e:y = z):n = n'∧l = l'∧s = s':=by
 subst e;rw [h] at h';cases h';exact ⟨rfl,rfl,rfl⟩
theorem Fo.take_eq {i:Nat} {y z r s r':Fo} {n:List UInt8} {l:List Int} (h:y.drop i = .cons n l s r) (h':z.drop i = .cons n l s r') (e:y.take i = z.take i):y.take (i + 1) = z.take (i + 1):=by
 rw [Fo.take_succ h,Fo.take_succ h',e]
theorem enters99:∀ (args:Array Value) (W:World),(callFunc 99 args).run Tryz.prog W = .ok (.enter 99 args) W:=by
 intro args W
 simp [go_sem]
def NodeEqC (g:Nat) (m:Nat):Prop:=∀ (n:List UInt8) (l:List Int) (s:Fo) (an:Option Addr) (cn:Nat) (ab:Option Addr) (cb:Nat) (n':List UInt8) (l':List Int) (s':Fo) (an':Option Addr) (cn':Nat) (ab':Option Addr) (cb':Nat) (S:Nat→Prop) (w:World),
 s.cnt < m→Ints S w (.slice an l.length cn) l→FSl S w (.slice ab s.len cb) s→Ints S w (.slice an' l'.length cn') l'→FSl S w (.slice ab' s'.len cb') s'→(∀ b,S b→b < w.heap.size)→l.length ≤ 1000→s.len ≤ 1000→s.Sm→l'.length ≤ 1000→s'.len ≤ 1000→s'.Sm →
 Calls Tryz.prog g #[.agg #[.string (bs n), .slice an l.length cn, .slice ab s.len cb], .agg #[.string (bs n'), .slice an' l'.length cn', .slice ab' s'.len cb']] w fun e w'=>e = .returned (.bool (decide (n = n'∧l = l'∧s = s')))∧Below w.heap.size w w'
theorem eqNodes_any (m:Nat) (hcl:NodeEqC 99 m) (y z:Fo) (ay:Option Addr) (cy:Nat) (az:Option Addr) (cz:Nat) (S:Nat→Prop) (w:World) (hm:y.cnt < m + 1) (hy:FSl S w (.slice ay y.len cy) y) (hz:FSl S w (.slice az z.len cz) z) (hS:∀ b,S b→b < w.heap.size) (ly:y.len ≤ 1000) (lz:z.len ≤ 1000) (sy:y.Sm) (sz:z.Sm) :
 Calls Tryz.prog 98 #[.slice ay y.len cy, .slice az z.len cz, .func (.func 99) #[] #[]] w fun e w'=>e = .returned (.bool (decide (y = z)))∧Below w.heap.size w w':=by
 obtain ⟨_,_,he,hc,hm1,hat⟩:=hy.at
 cases he
 obtain ⟨_,_,he,hc',hm2,hat'⟩:=hz.at
 cases he
 unfold maxLen at hm1 hm2
 have HC:=hid hcl
 clear hcl
 have hE:=enters99
 by_cases hne:y.len = z.len
 · have hne':((y.len:Int) != (z.len:Int)) = false:=by simp;omega
   have HN:=hid hne
   clear hne
   go_enter Tryz.func98,Tryz.ntmps98
   go_wp2_with fail
   go_loopw [17] (fun i wr=>∃ k:Nat,k ≤ y.len∧i = .int .i64 k∧Hid (y.take k = z.take k)∧Below w.heap.size w wr) (fun i _=>y.len - (intOf i).toNat)
   case atStart=>exact ⟨0,by omega,rfl,by simp [Hid,Fo.take],Below.refl _ _⟩
   case round=>
    obtain ⟨k,hk,rfl,H2,hB⟩:=hrel
    have HAT:=hid hat
    have HAT':=hid hat'
    clear hat hat'
    by_cases hlt:k < y.len
    · obtain ⟨g,o,n,l,s,r,an,cn,ab,cb,rfl,hg1,hd,hc0,hc1,hc2,hI,hF⟩:=HAT.out k hlt
      obtain ⟨g',o',n',l',s',r',an',cn',ab',cb',rfl,hg1',hd',hc0',hc1',hc2',hI',hF'⟩:=HAT'.out k (by have:=HN.out;omega)
      have hlt':(k:Int) < (z.len:Int):=by have:=HN.out;omega
      have ha:Agree S w wr:=Ag_b hB hS
      have c0:=ha.cell hg1 hc0
      have c1:=ha.cell hg1 hc1
      have c2:=ha.cell hg1 hc2
      have d0:=ha.cell hg1' hc0'
      have d1:=ha.cell hg1' hc1'
      have d2:=ha.cell hg1' hc2'
      obtain ⟨s1,s2,s3,s4,_⟩:n.length ≤ 1000∧l.length ≤ 1000∧s.len ≤ 1000∧s.Sm∧r.Sm:=by have:=sy.drop (i:=k);rwa [hd] at this
      obtain ⟨p1,p2,p3,p4,_⟩:n'.length ≤ 1000∧l'.length ≤ 1000∧s'.len ≤ 1000∧s'.Sm∧r'.Sm:=by have:=sz.drop (i:=k);rwa [hd'] at this
      have s5:=Fo.cnt_at hd
      have HD:=hid hd
      have HD':=hid hd'
      have hsz:=hB.size
      have lg:=hS _ hg1'
      have lg':g' < wr.heap.size:=by omega
      have hbx:Below w.heap.size w (wr.alloc (.cells #[.string (bs n), .slice an l.length cn, .slice ab s.len cb] 85)):=hB.alloc hsz _
      have e0:=(Ag_b hbx hS).cell hg1' hc0'
      have e1:=(Ag_b hbx hS).cell hg1' hc1'
      have e2:=(Ag_b hbx hS).cell hg1' hc2'
      clear hbx
      clear hc0 hc1 hc2 hd hc0' hc1' hc2' hd'
      go_wp2_with fail
      have hb2:Below w.heap.size w ((wr.alloc (.cells #[.string (bs n), .slice an l.length cn, .slice ab s.len cb] 85)).alloc (.cells #[.string (bs n'), .slice an' l'.length cn', .slice ab' s'.len cb'] 85)):=(hB.alloc hsz _).alloc (by simp;omega) _
      have ha2:=Ag_b hb2 hS
      have HB2:=hid hb2
      refine (HC.out n l s an cn ab cb n' l' s' an' cn' ab' cb' S _ (by omega) (hI.agree ha2) (hF.agree ha2) (hI'.agree ha2) (hF'.agree ha2) (fun b h=>by have:=hS b h;simp;omega) s2 s3 s4 p2 p3 p4).mono ?_
      rintro e w1 ⟨rfl,hb1⟩
      clear hb2 ha2
      by_cases he:n = n'∧l = l'∧s = s'
      · have he':decide (n = n'∧l = l'∧s = s') = true:=decide_eq_true he
        have HE:=hid he
        clear he
        rw [he']
        go_wp2_with fail
        go_roundw
        case rel=>exact ⟨k + 1,by omega,by go_num,by obtain ⟨rfl,rfl,rfl⟩:=HE.out;exact Fo.take_eq HD.out HD'.out H2.out,HB2.out.trans (hb1.mono HB2.out.size)⟩
        case measure=>simp [intOf];omega
      · have he':decide (n = n'∧l = l'∧s = s') = false:=decide_eq_false he
        have HE:=hid he
        clear he
        rw [he']
        go_wp2_with fail
        go_ret
        refine ⟨ret_bool ?_,HB2.out.trans (hb1.mono HB2.out.size)⟩
        symm
        rw [decide_eq_false_iff_not]
        exact fun e=>HE.out (Fo.drop_eq HD.out HD'.out e)
    · go_wp2_with fail
      go_ret
      obtain rfl:k = y.len:=by omega
      refine ⟨ret_bool ?_,hB⟩
      symm
      have:=H2.out
      rw [Fo.take_len,HN.out,Fo.take_len] at this
      exact decide_eq_true this
 · have hne':((y.len:Int) != (z.len:Int)) = true:=by simp;omega
   have HN:=hid hne
   clear hne
   go_enter Tryz.func98,Tryz.ntmps98
   go_wp2_with fail
   go_ret
   refine ⟨ret_bool ?_,Below.refl _ _⟩
   symm
   rw [decide_eq_false_iff_not]
   rintro rfl
   exact HN.out rfl
theorem alike_any (m:Nat):NodeEqC 99 m∧∀ (y z:Fo) (ay:Option Addr) (cy:Nat) (az:Option Addr) (cz:Nat) (S:Nat→Prop) (w:World),y.cnt < m→FSl S w (.slice ay y.len cy) y→FSl S w (.slice az z.len cz) z→(∀ b,S b→b < w.heap.size)→y.len ≤ 1000→z.len ≤ 1000→y.Sm→z.Sm →
 Calls Tryz.prog 25 #[.slice ay y.len cy, .slice az z.len cz] w fun e w'=>e = .returned (.bool (decide (y = z)))∧Below w.heap.size w w':=by
 induction m with
 | zero=>exact ⟨fun _ _ _ _ _ _ _ _ _ _ _ _ _ _ _ _ h=>by omega,fun _ _ _ _ _ _ _ _ h=>by omega⟩
 | succ m ih=>
   have key:∀ (y z:Fo) (ay:Option Addr) (cy:Nat) (az:Option Addr) (cz:Nat) (S:Nat→Prop) (w:World),y.cnt < m + 1→FSl S w (.slice ay y.len cy) y→FSl S w (.slice az z.len cz) z→(∀ b,S b→b < w.heap.size)→y.len ≤ 1000→z.len ≤ 1000→y.Sm→z.Sm →
    Calls Tryz.prog 25 #[.slice ay y.len cy, .slice az z.len cz] w fun e w'=>e = .returned (.bool (decide (y = z)))∧Below w.heap.size w w':=by
    intro y z ay cy az cz S w hm hy hz hS ly lz sy sz
    have hq:=eqNodes_any m ih.1 y z ay cy az cz S w hm hy hz hS ly lz sy sz
    have HQ:=hid hq
    clear hq ih
    go_enter Tryz.func25,Tryz.ntmps25
    go_wp2_with fail
    refine HQ.out.mono ?_
    rintro e w1 ⟨rfl,hb1⟩
    go_wp2_with fail
    go_ret
    exact ⟨rfl,hb1⟩
   refine ⟨?_,key⟩
   have KEY:=hid key
   clear key ih
   intro n l s an cn ab cb n' l' s' an' cn' ab' cb' S w hm hI hF hI' hF' hS l1 l2 sm1 l3 l4 sm2
   have hb:Below w.heap.size w ((w.alloc (.cells #[.string (bs n), .slice an l.length cn, .slice ab s.len cb] 85)).alloc (.cells #[.string (bs n'), .slice an' l'.length cn', .slice ab' s'.len cb'] 85)):=((Below.refl _ _).alloc (nl_ _) _).alloc (by simp) _
   have HB:=hid hb
   clear hb
   by_cases h1:n = n'
   · have t1:(n == n') = true:=by simpa using h1
     have H1:=hid h1
     clear h1
     go_enter Tryz.func99,Tryz.ntmps99
     go_wp2_with fail
     refine (eqInts_any l l' an an' cn cn' S _ (hI.agree (Ag_b HB.out hS)) (hI'.agree (Ag_b HB.out hS)) (by omega) (by omega)).mono ?_
     rintro e w1 ⟨rfl,hb1⟩
     have x2:=bc_ hb1 (b:=w.heap.size) (o:=2) (v := .slice ab s.len cb) (by simp;omega) (by simp)
     have x2':=bc_ hb1 (b:=w.heap.size + 1) (o:=2) (v := .slice ab' s'.len cb') (by simp) (by simp)
     have HB1:=hid (HB.out.trans (hb1.mono HB.out.size))
     by_cases h2:l = l'
     · have t2:decide (l = l') = true:=decide_eq_true h2
       have H2:=hid h2
       clear h2
       rw [t2]
       go_wp2_with fail
       refine (KEY.out s s' ab cb ab' cb' S _ hm (hF.agree (Ag_b HB1.out hS)) (hF'.agree (Ag_b HB1.out hS)) (fun b h=>by have:=hS b h;have:=HB1.out.size;omega) l2 l4 sm1 sm2).mono ?_
       rintro e w2 ⟨rfl,hb2⟩
       go_wp2_with fail
       go_ret
       exact ⟨ret_bool (by have:=H1.out;have:=H2.out;subst n';subst l';simp),HB1.out.trans (hb2.mono HB1.out.size)⟩
     · have t2:decide (l = l') = false:=decide_eq_false h2
       have H2:=hid h2
       clear h2
       rw [t2]
       go_wp2_with fail
       go_ret
       exact ⟨ret_bool (by symm;rw [decide_eq_false_iff_not];exact fun e=>H2.out e.2.1),HB1.out⟩
   · have t1:(n == n') = false:=by simpa using h1
     have H1:=hid h1
     clear h1
     go_enter Tryz.func99,Tryz.ntmps99
     go_wp2_with fail
     go_ret
     exact ⟨ret_bool (by symm;rw [decide_eq_false_iff_not];exact fun e=>H1.out e.1),HB.out⟩
end Go.Proofs.LF
namespace Go.Proofs.LF
theorem len_cnt:∀ z:Fo,z.len ≤ z.cnt
 | .nil=>nl_ _
 | .cons _ _ _ r=>by have:=len_cnt r;simp only [Fo.len,Fo.cnt];omega
theorem ordG_cons {bad:Ky→Ky→Bool} {n:List UInt8} {l:List Int} {s r:Fo} {d:Int} {p:Option Ky} (h:ordG bad d p (.cons n l s r) = 0):d ≤ 3∧(∀ q,p = some q→bad q (kyOf n l) = false)∧ordG bad (d + 1) none s = 0∧ordG bad d (some (kyOf n l)) r = 0:=by
 simp only [ordG] at h
 by_cases h1:3 < d
 · rw [if_pos h1] at h;omega
 rw [if_neg h1] at h
 by_cases h2:badNm n = true
 · rw [if_pos h2] at h;omega
 rw [if_neg h2] at h
 by_cases h3:4 < (l.length:Int)
 · rw [if_pos h3] at h;omega
 rw [if_neg h3] at h
 by_cases h4:badNs l = true
 · rw [if_pos h4] at h;omega
 rw [if_neg h4] at h
 have h0:(∀ q,p = some q→bad q (kyOf n l) = false)∧(if ordG bad (d + 1) none s ≠ 0 then ordG bad (d + 1) none s else ordG bad d (some (kyOf n l)) r) = 0:=by
  cases p with
  | none=>dsimp only at h;rw [if_neg (by simp)] at h;exact ⟨(fun q e=>by cases e),h⟩
  | some q=>
    dsimp only at h
    have a5:¬ (bad q (kyOf n l) = true):=fun e=>by rw [if_pos e] at h;omega
    rw [if_neg a5] at h
    exact ⟨(fun q' e=>by cases e;simpa using a5),h⟩
 have a6:¬ (ordG bad (d + 1) none s ≠ 0):=fun e=>by have h:=h0.2;rw [if_pos e] at h;exact e h
 have h7:=h0.2
 rw [if_neg a6] at h7
 exact ⟨by omega,h0.1,by simpa using a6,h7⟩
theorem ordG_srt:∀ (y:Fo) (d:Int) (p:Option Ky) (u:List Ky),ordG geK d p y = 0→Srt (flsL u y)∧∀ q,p = some q→∀ x ∈ flsL u y,∃ k t,x.p = u ++ k :: t∧byK q k < 0
 | .nil,_,_,u,_=>by simp [flsL_nil,Srt]
 | .cons n l s r,d,p,u,h=>by
   obtain ⟨hd3,hp,h1',h⟩:=ordG_cons h
   ·
    obtain ⟨s1,_⟩:=ordG_srt s (d + 1) none (u ++ [kyOf n l]) h1'
    obtain ⟨s2,t2⟩:=ordG_srt r d (some (kyOf n l)) u h
    have t2:=t2 _ rfl
    refine ⟨?_,?_⟩
    · rw [flsL_cons]
      unfold Srt at *
      rw [List.pairwise_cons,List.pairwise_append]
      refine ⟨fun x hx=>?_,s1,s2,fun a ha b hb=>?_⟩
      · rcases List.mem_append.1 hx with hx | hx
        · obtain ⟨k,t,hk⟩:=flsL_pre s _ x hx
          rw [hk];exact cmpP_pre _ _ (by simp)
        · obtain ⟨k,t,hk,hb⟩:=t2 x hx
          rw [hk,cmpP_same]
          simp only [cmpP]
          rw [if_pos (by omega)];exact hb
      · obtain ⟨k,t,hk⟩:=flsL_pre s _ a ha
        obtain ⟨k',t',hk',hb'⟩:=t2 b hb
        rw [hk,hk',List.append_assoc,cmpP_same]
        simp only [List.singleton_append,cmpP]
        rw [if_pos (by omega)];exact hb'
    · rintro q rfl x hx
      have hq:byK q (kyOf n l) < 0:=by
       have:=hp q rfl
       simp only [geK,decide_eq_false_iff_not] at this;omega
      rw [flsL_cons] at hx
      rcases List.mem_cons.1 hx with rfl | hx
      · exact ⟨_,[],rfl,hq⟩
      · rcases List.mem_append.1 hx with hx | hx
        · obtain ⟨k,t,hk⟩:=flsL_pre s _ x hx
          exact ⟨kyOf n l,k :: t,by rw [hk];simp,hq⟩
        · obtain ⟨k,t,hk,hb⟩:=t2 x hx
          exact ⟨k,t,hk,byK_ord.trans hq hb⟩
end Go.Proofs.LF
namespace Go.Proofs.LF
open Go.RowKit
set_option maxHeartbeats 4000000
set_option maxRecDepth 100000
attribute [local go_sem] bs_toList bs_size bs_get
section
variable {P:Program} (w:World)
theorem run_append_str_at (base:Nat) (t u ty e:TypeId) (i:TypeInfo) (ht:P.underlying t = some (.slice e)) (hu:P.underlying u = some .string) (hi:P.info? e = some i) (hz:i.zero = some (.int .u8 0))
 (hsize:i.size = 1) (hby:i.bytes = 1)
 (v:Value) (n:Nat) (xs:List Value) (hown:w.ownsRow base e 1 v n xs) (s:ByteArray)
 (h63:n + s.size ≤ maxLen) (hbytes:n + s.size ≤ 140737488355328) (hbase:base ≤ w.heap.size) :
 ∃ v' w',(Builtin.append_ #[t,u] ty #[v, .string s]).run P w = .ok v' w'∧w'.ownsRow base e 1 v' (n + s.size) (xs ++ Lib.strCells s)∧w.grownBy w' v.ownBlock ∧
  (∀ g,v'.ownBlock = some g→v.ownBlock = some g ∨ w.heap.size ≤ g):=by
 obtain ⟨v',w',hr,h2,h3,h4⟩:=Lib.run_append_own_string (P:=P) w base t u ty e i ht hu hi hz hsize hby v n xs hown s h63 hbytes hbase
 refine ⟨v',w',hr,h2,h3,?_⟩
 have hsmall:n + s.size ≤ 9223372036854775807:=by simp only [maxLen] at h63;omega
 have hxl:xs.length = n:=by simpa using hown.1
 rcases hown.2 with ⟨rfl,rfl⟩ | ⟨g,cap,cur,rfl,hbg,hg,hnc,hcm,hcs,htake⟩
 · obtain ⟨v2,w2,hr2,k2,k3,_⟩:=Lib.run_append_own_string (P:=P) w w.heap.size t u ty e i ht hu hi hz hsize hby (.slice none 0 0) 0 [] (World.ownsRow_nil _ _ _ _) s h63 hbytes (nl_ _)
   rw [hr] at hr2
   cases hr2
   exact fun g hg => .inr (k2.lt g hg).1
 · by_cases hroom:n + s.size ≤ cap
   · have hcs':cur.size = cap:=by simpa using hcs
     have hr2:=Lib.run_append_room_string (P:=P) w t u ty e i ht hu hi hsize g n cap cur hg s hroom (by omega)
     rw [hr] at hr2
     cases hr2
     exact fun g' hg' => .inl hg'
   · have holds:∀ j u,xs[j]? = some u→w.cell? ((⟨g,0,none⟩:Addr).add j) = some u:=hown.cells (g:=g) rfl
     have hr2:=Lib.run_append_grow_string (P:=P) w t u ty e i (.int .u8 0) ht hu hi hz ⟨g,0,none⟩ n cap xs (by rw [hsize];simpa using hxl) holds s (by omega) (by omega) (by rw [hby];exact growslice_fits (by omega) (by omega))
     rw [hr] at hr2
     cases hr2
     intro g' hg'
     right
     simp [Value.ownBlock] at hg'
     omega
theorem wpList_append_str {ops:Array Oper} {rest:List Oper} {o:Oper} {a:Act} {Q:Exit→Act→World→Prop} (hgd:o.guard = none) (sl x:Operand) (t u:TypeId)
 (ho:o.op = .call { callee := .builtin .append,args:=#[sl,x],argTypes:=#[t,u] })
 (base:Nat) (e:TypeId) (i:TypeInfo) (ht:P.underlying t = some (.slice e)) (hu:P.underlying u = some .string) (hi:P.info? e = some i) (hz:i.zero = some (.int .u8 0))
 (hsize:i.size = 1) (hby:i.bytes = 1)
 (v:Value) (n:Nat) (xs:List Value) (hs:a.eval sl = v) (hown:w.ownsRow base e 1 v n xs) (s:ByteArray) (hx:a.eval x = .string s)
 (h63:n + s.size ≤ maxLen) (hbytes:n + s.size ≤ 140737488355328) (hbase:base ≤ w.heap.size)
 (h:∀ v' w',w'.ownsRow base e 1 v' (n + s.size) (xs ++ Lib.strCells s)→w.grownBy w' v.ownBlock→(∀ g,v'.ownBlock = some g→v.ownBlock = some g ∨ w.heap.size ≤ g)→wpList P ops Q rest (a.put o.dst v') w'):wpList P ops Q (o :: rest) a w:=by
 refine wpList_plain hgd fun K hK=>?_
 obtain ⟨v',w',hr,h2,h3,h4⟩:=run_append_str_at (P:=P) w base t u o.type e i ht hu hi hz hsize hby v n xs hown s h63 hbytes hbase
 unfold Oper.wp execOp
 simp only [ho,resolve,invoke,builtin,Sem.run_bind,Sem.run_pure,Result.andThen_ok,List.map_toArray,List.map_cons,List.map_nil,hs,hx,hr]
 exact hK _ _ (h v' w' h2 h3 h4)
end
def Bld (b:Nat) (v:Value) (l:List UInt8) (W:World):Prop:=
 ∃ p,(p = .pointer none ∨ p = .pointer (some ⟨b,0,none⟩))∧W.heap[b]? = some (.cells #[p,v] 144 (0,0))∧W.ownsRow b 5 1 v l.length (Lib.byteCells l)∧v.ownBlock ≠ some b
def BldU (b:Nat) (v:Value) (l:List UInt8) (W:World):Prop:=
 W.heap[b]? = some (.cells #[.pointer (some ⟨b,0,none⟩),v] 144 (0,0))∧W.ownsRow b 5 1 v l.length (Lib.byteCells l)∧v.ownBlock ≠ some b
theorem Bld.lt {b:Nat} {v:Value} {l:List UInt8} {W:World} (h:Bld b v l W):b < W.heap.size:=by
 obtain ⟨p,_,h,_⟩:=h
 exact (Array.getElem?_eq_some_iff.1 h).1
theorem Bld.is {b:Nat} {v:Value} {l:List UInt8} {W:World} (h:Bld b v l W):Lib.IsBuilder 144 5 b b (Lib.byteCells l) W:=by
 obtain ⟨p,hp,h1,h2,h3⟩:=h
 rcases hp with rfl | rfl
 · exact .inl ⟨nl_ _,v,h1,by rw [Lib.byteCells_length];exact h2,h3⟩
 · exact .inr ⟨nl_ _,v,h1,by rw [Lib.byteCells_length];exact h2,h3⟩
def BldO (b:Nat) (v:Value):Nat→Prop:=fun k=>k = b ∨ v.ownBlock = some k
theorem Bld.agree {b:Nat} {v:Value} {l:List UInt8} {W W':World} (h:Bld b v l W) (ha:∀ k,BldO b v k→W'.heap[k]? = W.heap[k]?):Bld b v l W':=by
 obtain ⟨p,hp,h1,h2,h3⟩:=h
 refine ⟨p,hp,(ha b (.inl rfl)).trans h1,?_,h3⟩
 refine ⟨h2.1,h2.2.imp id ?_⟩
 rintro ⟨g,cap,cur,rfl,hb,hg,r⟩
 exact ⟨g,cap,cur,rfl,hb,(ha g (.inr rfl)).trans hg,r⟩
theorem BldO.lt {b:Nat} {v:Value} {l:List UInt8} {W:World} (h:Bld b v l W):∀ k,BldO b v k→k < W.heap.size:=by
 rintro k (rfl | hk)
 · exact h.lt
 · obtain ⟨_,_,_,h2,_⟩:=h
   exact (h2.lt k hk).2
theorem BldO.ge {b:Nat} {v:Value} {l:List UInt8} {W:World} (h:Bld b v l W):∀ k,BldO b v k→b ≤ k:=by
 rintro k (rfl | hk)
 · exact nl_ _
 · obtain ⟨_,_,_,h2,_⟩:=h
   exact (h2.lt k hk).1
theorem copyCheck_any (b:Nat) (v:Value) (l:List UInt8) (w:World) (h:Bld b v l w) :
 Calls Tryz.prog 181 #[.pointer (some ⟨b,0,none⟩)] w fun e w'=>e = .returned (.tuple #[])∧BldU b v l w'∧Keep (· = b) w w'∧w'.heap.size = w.heap.size:=by
 obtain ⟨p,hp,h1,h2,h3⟩:=h
 rcases hp with rfl | rfl
 · refine (Any.Builder_copyCheck_fresh (ρ:=Tryz.lays156_ren) { Tryz.lays156 with } Tryz.Builder_Extra_156.toX72 b w (by simp [World.cell?,h1]) (by simp [World.shape?,h1];decide) (by simp [World.frozen?,h1])).mono ?_
   rintro e w' ⟨rfl,rfl⟩
   refine ⟨rfl,⟨?_,?_,h3⟩,Keep.setCell rfl,by simp [World.setCell]⟩
   · simp [World.setCell,Array.getElem?_modify,h1]
   · refine ⟨h2.1,h2.2.imp id ?_⟩
     rintro ⟨g,cap,cur,rfl,hb,hg,r⟩
     exact ⟨g,cap,cur,rfl,hb,(Below.heap_setCell _ _ _ _ (by simpa [Value.ownBlock] using h3)).trans hg,r⟩
 · refine (Any.Builder_copyCheck_used (ρ:=Tryz.lays156_ren) { Tryz.lays156 with } Tryz.Builder_Extra_156.toX72 b w (by simp [World.cell?,h1])).mono ?_
   rintro e w' ⟨rfl,rfl⟩
   exact ⟨rfl,⟨h1,h2,h3⟩,Keep.refl _ _,rfl⟩
theorem Tryz.info5:(Tryz.prog.info? 5).map (fun i=>(i.zero,i.size,i.bytes)) = some (some (.int .u8 0),1,1):=by kernel_rfl
theorem WriteByte_any (b:Nat) (v:Value) (l:List UInt8) (c:UInt8) (w:World) (h:Bld b v l w) (hlen:l.length ≤ 100000000) :
 Calls Tryz.prog 89 #[.pointer (some ⟨b,0,none⟩), .int .u8 c.toNat] w fun e w'=>e = .returned .nilIface∧∃ v',Bld b v' (l ++ [c]) w'∧Keep (BldO b v) w w'∧(∀ k,BldO b v' k→BldO b v k ∨ w.heap.size ≤ k):=by
 have hlt:=h.lt
 obtain ⟨i0,hi0,hz0,hz1,hz2⟩:=info_parts Tryz.info5
 go_enter Tryz.func89,Tryz.ntmps89
 go_wp2_with fail
 refine (copyCheck_any b v l w h).mono ?_
 rintro e w1 ⟨rfl,⟨hbk,hown,hne⟩,hk1,hs1'⟩
 have hs1:=hid hs1'
 clear hs1'
 have c0:w1.cell? ⟨b,0,none⟩ = some (.pointer (some ⟨b,0,none⟩)):=by simp [World.cell?,hbk]
 have c1:w1.cell? ⟨b,1,none⟩ = some v:=by simp [World.cell?,hbk]
 go_wp2_with (at_builtin;refine wpList_append_lies _ rfl _ _ _ rfl b 5 i0 _ 1 1 Tryz.underlying57 hi0 hz0 hz1 hz2 rfl (by omega) v l.length (Lib.byteCells l) rfl (hown.alloc _) ⟨w1.heap.size,0,none⟩ 1 1 [.int .u8 c.toNat] rfl rfl (World.news_of_block (cs:=#[.int .u8 c.toNat]) (t:=5) (fr:=(0,0)) (heap_alloc_new _ _)) (by simp [Value.oneCell']) (by omega) (by unfold maxLen;omega) (by omega) (by have:=hs1.out;simp;omega) (w1.heap.size + 1) (by simp) ?_)
 have hs1:=hs1.out
 intro g cap w2 hown' hgrow hat hltt
 have hb2:w2.heap[b]? = some (.cells #[.pointer (some ⟨b,0,none⟩),v] 144 (0,0)):=by
  rw [hgrow.block b (by simp;omega) (fun e=>hne e.symm),Below.heap_alloc w1 _ b (by omega)]
  exact hbk
 have d0:w2.cell? ⟨b,0,none⟩ = some (.pointer (some ⟨b,0,none⟩)):=by simp [World.cell?,hb2]
 have d1:w2.cell? ⟨b,1,none⟩ = some v:=by simp [World.cell?,hb2]
 have f1:w2.frozen? ⟨b,1,none⟩ = false:=by simp [World.frozen?,hb2]
 have hgb:g ≠ b:=by
  rcases hat with hat | hat
  · rintro rfl;exact hne hat
  · omega
 go_wp2_with fail
 go_ret
 refine ⟨rfl, .slice (some ⟨g,0,none⟩) (l.length + 1) cap,⟨_, .inr rfl,?_,?_,?_⟩,?_,?_⟩
 · simp [World.setCell,Array.getElem?_modify,hb2]
 · refine ⟨by have:=hown'.1;simpa [Lib.byteCells] using this, .inr ?_⟩
   rcases hown'.2 with ⟨h,_⟩ | ⟨g',cap',cur,hv,hb,hg,r⟩
   · cases h
   · cases hv
     refine ⟨g,cap,cur,by simp,hb,(Below.heap_setCell _ _ _ _ hgb).trans hg,?_⟩
     simpa [Lib.byteCells] using r
 · simp [Value.ownBlock,hgb]
 · refine ((hk1.mono fun k _ h => .inl h).trans ⟨?_,?_,?_,?_,?_⟩)
   · exact hgrow.os
   · exact hgrow.tape
   · exact hgrow.output
   · have:=hgrow.size;simp [World.setCell] at *;omega
   · intro k hk ho
     have e1:k ≠ b:=fun e=>ho (.inl e)
     rw [Below.heap_setCell _ _ _ _ (by simpa using e1),hgrow.block k (by simp;omega) (fun e=>ho (.inr e.symm)),Below.heap_alloc w1 _ k hk]
 · rintro k (rfl | hk)
   · exact .inl (.inl rfl)
   · simp [Value.ownBlock] at hk
     subst hk
     rcases hat with hat | hat
     · exact .inl (.inr hat)
     · exact .inr (by omega)
theorem WriteString_any (b:Nat) (v:Value) (l s:List UInt8) (w:World) (h:Bld b v l w) (hlen:l.length ≤ 100000000) (hs:s.length ≤ 100000000) :
 Calls Tryz.prog 91 #[.pointer (some ⟨b,0,none⟩), .string (bs s)] w fun e w'=>e = .returned (.tuple #[.int .i64 s.length, .nilIface])∧∃ v',Bld b v' (l ++ s) w'∧Keep (BldO b v) w w'∧(∀ k,BldO b v' k→BldO b v k ∨ w.heap.size ≤ k):=by
 have hlt:=h.lt
 obtain ⟨i0,hi0,hz0,hz1,hz2⟩:=info_parts Tryz.info5
 go_enter Tryz.func91,Tryz.ntmps91
 go_wp2_with fail
 refine (copyCheck_any b v l w h).mono ?_
 rintro e w1 ⟨rfl,⟨hbk,hown,hne⟩,hk1,hs1'⟩
 have hs1:=hid hs1'
 clear hs1'
 have c0:w1.cell? ⟨b,0,none⟩ = some (.pointer (some ⟨b,0,none⟩)):=by simp [World.cell?,hbk]
 have c1:w1.cell? ⟨b,1,none⟩ = some v:=by simp [World.cell?,hbk]
 go_wp2_with (at_builtin;refine wpList_append_str _ rfl _ _ _ _ rfl b 5 i0 Tryz.underlying57 Tryz.underlying9 hi0 hz0 hz1 hz2 v l.length (Lib.byteCells l) rfl hown (bs s) rfl (by unfold maxLen;rw [bs_size];omega) (by rw [bs_size];omega) (by have:=hs1.out;omega) ?_)
 have hs1:=hs1.out
 intro v' w2 hown' hgrow hat
 have hb2:w2.heap[b]? = some (.cells #[.pointer (some ⟨b,0,none⟩),v] 144 (0,0)):=by
  rw [hgrow.block b (by omega) (fun e=>hne e.symm)]
  exact hbk
 have d0:w2.cell? ⟨b,0,none⟩ = some (.pointer (some ⟨b,0,none⟩)):=by simp [World.cell?,hb2]
 have d1:w2.cell? ⟨b,1,none⟩ = some v:=by simp [World.cell?,hb2]
 have f1:w2.frozen? ⟨b,1,none⟩ = false:=by simp [World.frozen?,hb2]
 have hgb:v'.ownBlock ≠ some b:=by
  intro h
  rcases hat b h with hat | hat
  · exact hne hat
  · omega
 obtain ⟨ao,n',cap,rfl⟩:∃ ao n' cap,v' = .slice ao n' cap:=by
  rcases hown'.2 with ⟨hv,_⟩ | ⟨g,cap,cur,hv,_⟩
  · exact ⟨_,_,_,hv⟩
  · exact ⟨_,_,_,hv⟩
 go_wp2_with fail
 go_ret2
 refine ⟨by simp, .slice ao n' cap,⟨_, .inr rfl,?_,?_,hgb⟩,?_,?_⟩
 · simp [World.setCell,Array.getElem?_modify,hb2]
 · have e1:Lib.byteCells l ++ Lib.strCells (bs s) = Lib.byteCells (l ++ s):=by simp [Lib.byteCells,Lib.strCells,bs_data]
   rw [e1] at hown'
   rw [List.length_append]
   refine ⟨hown'.1,hown'.2.imp id ?_⟩
   rintro ⟨g',cap',cur,hv,hb,hg,r⟩
   refine ⟨g',cap',cur,hv,hb,(Below.heap_setCell _ _ _ _ ?_).trans hg,r⟩
   rintro rfl
   exact hgb (by rw [hv];rfl)
 · refine ((hk1.mono fun k _ h => .inl h).trans ⟨?_,?_,?_,?_,?_⟩)
   · exact hgrow.os
   · exact hgrow.tape
   · exact hgrow.output
   · have:=hgrow.size;simp [World.setCell] at *;omega
   · intro k hk ho
     have e1:k ≠ b:=fun e=>ho (.inl e)
     rw [Below.heap_setCell _ _ _ _ (by simpa using e1),hgrow.block k (by omega) (fun e=>ho (.inr e.symm))]
 · rintro k (rfl | hk)
   · exact .inl (.inl rfl)
   · rcases hat k hk with hat | hat
     · exact .inl (.inr hat)
     · exact .inr (by omega)
end Go.Proofs.LF
