/- Going down a matrix: all the way; All blocks of a matrix: at most one; All blocks of a matrix: none, or what there is; The iterators over cells: what the makers hand back; The bits of a word, lowest first (plain); The cells of a block, row by row (plain); A region that draws its order, in a round of a loop over a function (at the wide fence): the walk of Ord serves there as well. Nothing here names the program; A range over a function at the wide fence: the loop's variables may be boxed by each round; the law in a form to apply. Nothing here names the program; A range over a function whose iterator may itself range over another: which blocks a round turns is named. Nothing here names the program; The cells of a block, as an iterator; A new variable of many cells that is stored into at once; a value that is put together. Nothing here names the program. -/
import Derived.Test.YtddffnonlmfhdaaGreatDoorX06
import Derived.Laws.EntriesVeiled
import Derived.OrdersIn
import Derived.RangeFuncNested
import Derived.Test.YtddffnonlmfhdaaGreatDoorX01
import Derived.RangeFuncBound
import Derived.RangeFuncCalls
import Derived.RangeFuncLeaves
import Derived.RangeFuncBox
import Derived.Shelf.Abstract
import Derived.Shelf.RegionOpen
import Derived.TacticsInMore
import Derived.LoopNIn
import Derived.LoopIn
import Derived.Laws.NewFold
import Derived.Deep.MidRow
set_option linter.unusedVariables false
set_option linter.unusedSimpArgs false
set_option maxHeartbeats 16000000
set_option maxRecDepth 100000
namespace Go.Proofs.YtddffnonlmfhdaaGreatDoor
open Go.RowKit
theorem down_step (w:World) (O:Nat→Option QRo) (p side dep cnt m:Nat) (r:List Nat) (pv lv:Value) (h:QuI w O p side dep cnt m 1 [r] pv lv) (hr:Wd r) (hm:m ≤ 4) (g1 g3 g4:Nat) (k1:∃ ty,Blk w g1 ty #[.pointer (some ⟨p,0,none⟩)]) (k3:∃ ty,Blk w g3 ty #[.slice none 0 0])
  (k4:∃ ty,Blk w g4 ty #[.func (.func 156) #[] #[.pointer (some ⟨g1,0,none⟩),.pointer (some ⟨g3,0,none⟩),.pointer (some ⟨g4,0,none⟩)]]) (l k:Nat) (hk:k + (l + 1) = m) (IH:Calls Tryz.prog 156 #[.int .i64 ((k + 1:Nat):Int),.int .i64 (l:Int),.int .i64 0,.int .i64 0,.pointer (some ⟨g1,0,none⟩),.pointer (some ⟨g3,0,none⟩),.pointer (some ⟨g4,0,none⟩)] w (fun e w' => e = .returned (.tuple #[])∧DownQ w g3 r w')) :
  Calls Tryz.prog 156 #[.int .i64 (k:Int),.int .i64 ((l + 1:Nat):Int),.int .i64 0,.int .i64 0,.pointer (some ⟨g1,0,none⟩),.pointer (some ⟨g3,0,none⟩),.pointer (some ⟨g4,0,none⟩)] w (fun e w' => e = .returned (.tuple #[])∧DownQ w g3 r w'):=by
 obtain ⟨pg,pc,e,-,-,-,-,-⟩:=own_cells h.rp (by omega)
 subst e
 have c1:w.cell? ⟨g1,0,none⟩ = some (.pointer (some ⟨p,0,none⟩)):=by obtain ⟨ty,k⟩:=k1;exact k.cell 0
 have c4:w.cell? ⟨g4,0,none⟩ = some (.func (.func 156) #[] #[.pointer (some ⟨g1,0,none⟩),.pointer (some ⟨g3,0,none⟩),.pointer (some ⟨g4,0,none⟩)]):=by obtain ⟨ty,k⟩:=k4;exact k.cell 0
 obtain ⟨n,hn⟩:∃ n,m + 1 = n:=⟨_,rfl⟩
 have q3:w.cell? ⟨p,3,none⟩ = some (.slice (some ⟨pg,0,none⟩) n pc):=by rw [← hn];exact h.blk.cell 3
 have hkn:(k:Int) < (n:Int):=by omega
 have hrg:w.rangeAt pg (k * 4) (four ((k:Int) + 2)):=range_four (k:=k) h (fun j u hu => by
  have hj:j < 4:=by have:=(List.getElem?_eq_some_iff.1 hu).1;simpa [four] using this
  have hq:qsC m 1 = ((List.range m).flatMap fun (i:Nat) => four ((i:Int) + 2)) ++ four 1:=rfl
  have hlen:((List.range m).flatMap fun (i:Nat) => four ((i:Int) + 2)).length = m * 4:=by
   have:=qsC_len m 1
   rw [hq,List.length_append] at this
   simp only [four,List.length_cons,List.length_nil] at this ⊢
   omega
  rw [hq,List.getElem?_append_left (by omega),flat_get (fun (i:Nat) => four ((i:Int) + 2)) 4 (fun _ => rfl) (List.range m) k j k (by rw [List.getElem?_range (by omega)]) hj]
  exact hu)
 have hsz:(Tryz.prog.info? 225).map (·.size) = some (four ((k:Int) + 2)).length:=by kernel_rfl
 clear h k1 k3 k4 hn
 have hw1:IntKind.i64.wrap ((k:Int) + 2 - 1) = ((k + 1:Nat):Int):=by rw [IntKind.wrap_i64];omega
 have hw2:IntKind.i64.wrap (((l + 1:Nat):Int) - 1) = (l:Int):=by rw [IntKind.wrap_i64];omega
 have z1:((k:Int) + 2 == 0) = false:=by simp;omega
 have z2:(((l + 1:Nat):Int) == 0) = false:=by simp;omega
 go_enter Tryz.func156,Tryz.ntmps156
 generalize ((l + 1:Nat):Int) = lI at hw2 z2 ⊢
 generalize hx:(k:Int) + 2 = xI at hw1 z1 hrg hsz ⊢
 have HX:=Lib.hid (idx_four xI)
 clear hx
 go_wp2_with (first | (refine wpList_load_mid rfl 225 _ rfl pg (k * 4) rfl (four xI) (.array 4 3) hrg Tryz.underlying225 rfl hsz ?_) | fail)
 clear c1 q3 hrg hsz
 generalize (four xI).toArray = arr at HX ⊢
 go_loopw [22] (fun a wr => ∃ j:Nat,j ≤ 4∧a = .int .i64 (j:Int)∧Hid (j = 0∧wr = w ∨ 0 < j∧DownQ w g3 r wr)) (fun a _ => (4 - intOf a).toNat)
 case atStart => exact ⟨0,by omega,rfl,Lib.hid (.inl ⟨rfl,rfl⟩)⟩
 case round =>
  obtain ⟨j,hj,rfl,hq⟩:=hrel
  by_cases hlt:j < 4
  ·by_cases h0:j = 0
   ·subst h0
    obtain rfl:wr = w:=by rcases hq.out with ⟨-,e⟩ | ⟨e,-⟩ <;> first | exact e | omega
    clear hq hlt
    have hix:(Instr.index 225 (.agg arr) (.int .i64 0)).run Tryz.prog wr = .ok (.int .i64 xI) wr:=HX.out wr 0 (by decide)
    have b1:bits .or .i64 0 0 = 0:=by decide
    have b2:bits .and .i64 0 1 = 0:=by decide
    go_wp2_with fail
    refine IH.mono ?_
    clear IH
    rintro e W1 ⟨rfl,D⟩
    have FIN:=Lib.hid D
    clear D
    go_wp2
    go_roundw
    case rel => exact ⟨1,by omega,by go_num,Lib.hid (.inr ⟨by omega,FIN.out⟩)⟩
    case measure => simp [intOf] <;> omega
   ·have hix:(Instr.index 225 (.agg arr) (.int .i64 (j:Int))).run Tryz.prog wr = .ok (.int .i64 0) wr:=by have:=HX.out wr j hlt;rwa [if_neg h0] at this
    have hltI:(j:Int) < (4:Int):=by omega
    have hkw:IntKind.i64.wrap ((j:Int) + 1) = (j:Int) + 1:=IntWalk.i64_in _ (by omega)
    have hge:(0:Int) ≤ (j:Int):=by omega
    have hD:=Lib.hid (show 0 < j + 1∧DownQ w g3 r wr from by rcases hq.out with ⟨e,-⟩ | ⟨-,e⟩;exact absurd e h0;exact ⟨by omega,e⟩)
    clear hq
    go_wp2
    go_roundw
    case rel => exact ⟨j + 1,by omega,by go_num,Lib.hid (.inr hD.out)⟩
    case measure => simp [intOf] <;> omega
  ·obtain rfl:j = 4:=by omega
   have FIN:=Lib.hid (show DownQ w g3 r wr by rcases hq.out with ⟨e,-⟩ | ⟨-,e⟩;exact absurd e (by decide);exact e)
   clear hq
   go_wp2
   (try simp only [Exit.inBlock,Exit.then])
   exact bodyPost_end (results_none rfl _ _ _) rfl ⟨rfl,FIN.out⟩
theorem down_full (w:World) (O:Nat→Option QRo) (p side dep cnt m:Nat) (r:List Nat) (pv lv:Value) (h:QuI w O p side dep cnt m 1 [r] pv lv) (hr:Wd r) (hm:m ≤ 4) (g1 g3 g4:Nat) (k1:∃ ty,Blk w g1 ty #[.pointer (some ⟨p,0,none⟩)]) (k3:∃ ty,Blk w g3 ty #[.slice none 0 0])
  (k4:∃ ty,Blk w g4 ty #[.func (.func 156) #[] #[.pointer (some ⟨g1,0,none⟩),.pointer (some ⟨g3,0,none⟩),.pointer (some ⟨g4,0,none⟩)]]):∀ (l k:Nat),k + l = m →
  Calls Tryz.prog 156 #[.int .i64 (k:Int),.int .i64 (l:Int),.int .i64 0,.int .i64 0,.pointer (some ⟨g1,0,none⟩),.pointer (some ⟨g3,0,none⟩),.pointer (some ⟨g4,0,none⟩)] w (fun e w' => e = .returned (.tuple #[])∧DownQ w g3 r w')
 | 0,k,hk => by
  obtain rfl:k = m:=by omega
  exact down_leaf w O p side dep cnt k r pv lv h hr hm g1 g3 g4 k1 k3
 | l + 1,k,hk => down_step w O p side dep cnt m r pv lv h hr hm g1 g3 g4 k1 k3 k4 l k hk (down_full w O p side dep cnt m r pv lv h hr hm g1 g3 g4 k1 k3 k4 l (k + 1) (by omega))
end Go.Proofs.YtddffnonlmfhdaaGreatDoor
namespace Go.Proofs.YtddffnonlmfhdaaGreatDoor
open Go.RowKit
def AllQ (w:World) (b:Option (List Nat)) (e:Ending) (w':World):Prop:=
 Below w.heap.size w w'∧match b with
 | none => e = .returned (.slice none 0 0)
 | some r => ∃ A c,e = .returned (.slice A 1 c)∧w'.ownsRow 0 196 66 (.slice A 1 c) 1 (plC r)∧∀ k,(Value.slice A 1 c).ownBlock = some k→w.heap.size ≤ k
theorem below_of_upd {w V W:World} {g:Nat} (hb:Below w.heap.size w V) (hu:Upd (fun k => k = g) V W) (hg:w.heap.size ≤ g):Below w.heap.size w W:=
 hb.trans (show Below w.heap.size V W from ⟨hu.os,hu.tape,hu.output,hu.size,fun k hk => hu.block k (Nat.lt_of_lt_of_le hk hb.size) (fun e => by omega)⟩)
abbrev allF (g1 g3 g4:Nat):Value:=.func (.func 156) #[] #[.pointer (some ⟨g1,0,none⟩),.pointer (some ⟨g3,0,none⟩),.pointer (some ⟨g4,0,none⟩)]
theorem all_blocks (w:World) (p:Nat):let V:=(((w.alloc (.cells #[.pointer (some ⟨p,0,none⟩)] 121)).alloc (.cells #[.slice none 0 0] 192)).alloc (.cells #[.nilFunc] 227))
  Blk V w.heap.size 121 #[.pointer (some ⟨p,0,none⟩)]∧Blk V (w.heap.size + 1) 192 #[.slice none 0 0]∧Blk V (w.heap.size + 1 + 1) 227 #[.nilFunc]∧Below w.heap.size w V:=by
 intro V
 have k1:=Blk.new w 121 #[.pointer (some ⟨p,0,none⟩)]
 have k2:=Blk.new (w.alloc (.cells #[.pointer (some ⟨p,0,none⟩)] 121)) 192 #[.slice none 0 0]
 have k3:=Blk.new ((w.alloc (.cells #[.pointer (some ⟨p,0,none⟩)] 121)).alloc (.cells #[.slice none 0 0] 192)) 227 #[.nilFunc]
 simp only [World.size_alloc] at k2 k3
 refine ⟨(k1.upd ((Upd.refl (fun _ => False) _).alloc _) (fun h => h)).upd ((Upd.refl (fun _ => False) _).alloc _) (fun h => h),k2.upd ((Upd.refl (fun _ => False) _).alloc _) (fun h => h),k3,?_⟩
 exact (((Below.refl _ _).alloc (Nat.le_refl _) _).alloc (by simp) _).alloc (by simp;omega) _
theorem qall_some (w:World) (O:Nat→Option QRo) (p side dep cnt m:Nat) (r:List Nat) (pv lv:Value) (h:QuI w O p side dep cnt m 1 [r] pv lv) (hr:Wd r) (hs:1 ≤ side) (hd:m + 1 = dep) (hd4:dep ≤ 4) :
  Calls Tryz.prog 119 #[.pointer (some ⟨p,0,none⟩)] w (AllQ w (some r)):=by
 have q0:((w.alloc (.cells #[.pointer (some ⟨p,0,none⟩)] 121)).alloc (.cells #[.slice none 0 0] 192)).cell? ⟨p,0,none⟩ = some (.int .i64 (side:Int)):=(h.blk.upd (((Upd.refl (fun _ => False) w).alloc _).alloc _) (fun h => h)).cell 0
 have hcon:=qis_any _ p side hs q0
 clear q0
 have H:=Lib.hid h
 have HA:=Lib.hid (all_blocks w p)
 obtain ⟨g,hg⟩:∃ g,w.heap.size = g:=⟨_,rfl⟩
 clear h
 go_enter Tryz.func119,Tryz.ntmps119
 go_wp2_with fail
 refine hcon.mono ?_
 clear hcon
 rintro e w' ⟨rfl,hw⟩
 subst w'
 go_upto_region 5 with (fail)
 obtain ⟨k1,k3,k4,hb⟩:=HA.out
 generalize (((w.alloc (.cells #[.pointer (some ⟨p,0,none⟩)] 121)).alloc (.cells #[.slice none 0 0] 192)).alloc (.cells #[.nilFunc] 227)) = V at k1 k3 k4 hb ⊢
 rw [hg] at k1 k3 k4
 have q4:V.cell? ⟨g + 1 + 1,0,none⟩ = some .nilFunc:=k4.cell 0
 have f4:V.frozen? ⟨g + 1 + 1,0,none⟩ = false:=k4.frozen 0
 have us:=(Upd.refl (fun k => k = g + 1 + 1) V).setCell (p:=⟨g + 1 + 1,0,none⟩) (.inl rfl) (allF g (g + 1) (g + 1 + 1))
 have HV:=Lib.hid (show Blk (V.setCell ⟨g + 1 + 1,0,none⟩ (allF g (g + 1) (g + 1 + 1))) g 121 #[.pointer (some ⟨p,0,none⟩)]∧Blk (V.setCell ⟨g + 1 + 1,0,none⟩ (allF g (g + 1) (g + 1 + 1))) (g + 1) 192 #[.slice none 0 0]∧Blk (V.setCell ⟨g + 1 + 1,0,none⟩ (allF g (g + 1) (g + 1 + 1))) (g + 1 + 1) 227 #[allF g (g + 1) (g + 1 + 1)]∧Below w.heap.size w (V.setCell ⟨g + 1 + 1,0,none⟩ (allF g (g + 1) (g + 1 + 1))) from
  ⟨k1.upd us (by omega),k3.upd us (by omega),k4.set 0 _,below_of_upd hb us (by omega)⟩)
 clear k1 k3 k4 hb us
 go_upto_region 6 with (fail)
 generalize V.setCell ⟨g + 1 + 1,0,none⟩ (allF g (g + 1) (g + 1 + 1)) = V1 at HV ⊢
 clear q4 f4
 have SR:=Lib.hid (show ∀ W,Below V1.heap.size V1 W→Blk W g 121 #[.pointer (some ⟨p,0,none⟩)]∧Blk W (g + 1) 192 #[.slice none 0 0]∧Blk W (g + 1 + 1) 227 #[allF g (g + 1) (g + 1 + 1)]∧Below w.heap.size w W∧QuI W O p side dep cnt m 1 [r] pv lv from fun W hb => by
  obtain ⟨k1,k3,k4,b⟩:=HV.out
  have hu:=Upd.of_below hb (fun _ => False)
  have hbw:=b.trans (hb.mono b.size)
  exact ⟨k1.upd hu (fun h => h),k3.upd hu (fun h => h),k4.upd hu (fun h => h),hbw,H.out.upd (Upd.of_below hbw (fun _ => False)) (fun _ _ => id)⟩)
 obtain ⟨j1,j3,j4,bw,hi⟩:=SR.out V1.drew (Below.refl _ _).drew
 have hS:V1.drew.cell? ⟨g + 1 + 1,0,none⟩ = some (allF g (g + 1) (g + 1 + 1))∧V1.drew.cell? ⟨g,0,none⟩ = some (.pointer (some ⟨p,0,none⟩))∧V1.drew.cell? ⟨p,1,none⟩ = some (.int .i64 (dep:Int)):=⟨j4.cell 0,j1.cell 0,hi.blk.cell 1⟩
 have hw1:IntKind.i64.wrap ((dep:Int) - 1) = (m:Int):=by rw [IntKind.wrap_i64];omega
 have hcon:Calls Tryz.prog 156 #[.int .i64 0,.int .i64 (m:Int),.int .i64 0,.int .i64 0,.pointer (some ⟨g,0,none⟩),.pointer (some ⟨g + 1,0,none⟩),.pointer (some ⟨g + 1 + 1,0,none⟩)] V1.drew (fun e w' => e = .returned (.tuple #[])∧DownQ V1.drew (g + 1) r w'):=down_full V1.drew O p side dep cnt m r pv lv hi hr (by omega) g (g + 1) (g + 1 + 1) ⟨_,j1⟩ ⟨_,j3⟩ ⟨_,j4⟩ m 0 (by omega)
 have BW:=Lib.hid bw
 clear j1 j3 j4 bw hi
 refine wp_region_ord (fun W => W.cell? ⟨g + 1 + 1,0,none⟩ = some (allF g (g + 1) (g + 1 + 1))∧W.cell? ⟨g,0,none⟩ = some (.pointer (some ⟨p,0,none⟩))∧W.cell? ⟨p,1,none⟩ = some (.int .i64 (dep:Int))) 6 [(0,true),(1,true),(2,true),(3,true),(4,true),(5,true),(6,false)] (by kernel_rfl) (by kernel_rfl) (fun _ _ d _ _ h => by cases d <;> exact h) hS ?_
 generalize V1.drew = V2 at hS hcon BW ⊢
 iterate 6 (refine ord_takeA rfl ?_;(try simp only [Act.put,gA,gS,gZ,sA,sZ,sS]))
 refine ord_do rfl rfl (fun K hK => ?_)
 go_simp
 refine hcon.mono ?_
 clear hcon
 rintro e W3 ⟨rfl,D⟩
 refine hK _ _ (fun h => absurd rfl h) ?_
 clear hK K hS
 (try simp only [Act.put,gA,gS,gZ,sA,sZ,sS])
 refine ord_done ?_
 obtain ⟨A,c,d1,d2,d3,d4⟩:=D
 have FIN:=Lib.hid (show AllQ w (some r) (.returned (.slice A 1 c)) W3 from ⟨below_of_upd BW.out d3 (by omega),A,c,rfl,d2,fun k hk => Nat.le_trans BW.out.size (d4 k hk)⟩)
 clear d2 d3 d4
 have hso:=sort_01 1 (Nat.le_refl _) A c (.func (.func 158) #[] #[]) W3
 go_wp2_with fail
 refine hso.mono ?_
 clear hso
 rintro e w' ⟨⟨v,rfl⟩,hw⟩
 subst w'
 go_wp2
 go_ret
 exact FIN.out
end Go.Proofs.YtddffnonlmfhdaaGreatDoor
namespace Go.Proofs.YtddffnonlmfhdaaGreatDoor
open Go.RowKit
theorem qall_none (w:World) (O:Nat→Option QRo) (p side dep cnt:Nat) (pv lv:Value) (h:QuI w O p side dep cnt 0 0 [] pv lv) (hs:1 ≤ side) (hd1:1 ≤ dep) (hd4:dep ≤ 4) :
  Calls Tryz.prog 119 #[.pointer (some ⟨p,0,none⟩)] w (AllQ w none):=by
 have q0:((w.alloc (.cells #[.pointer (some ⟨p,0,none⟩)] 121)).alloc (.cells #[.slice none 0 0] 192)).cell? ⟨p,0,none⟩ = some (.int .i64 (side:Int)):=(h.blk.upd (((Upd.refl (fun _ => False) w).alloc _).alloc _) (fun h => h)).cell 0
 have hcon:=qis_any _ p side hs q0
 clear q0
 have H:=Lib.hid h
 have HA:=Lib.hid (all_blocks w p)
 obtain ⟨g,hg⟩:∃ g,w.heap.size = g:=⟨_,rfl⟩
 clear h
 go_enter Tryz.func119,Tryz.ntmps119
 go_wp2_with fail
 refine hcon.mono ?_
 clear hcon
 rintro e w' ⟨rfl,hw⟩
 subst w'
 go_upto_region 5 with (fail)
 obtain ⟨k1,k3,k4,hb⟩:=HA.out
 generalize (((w.alloc (.cells #[.pointer (some ⟨p,0,none⟩)] 121)).alloc (.cells #[.slice none 0 0] 192)).alloc (.cells #[.nilFunc] 227)) = V at k1 k3 k4 hb ⊢
 rw [hg] at k1 k3 k4
 have q4:V.cell? ⟨g + 1 + 1,0,none⟩ = some .nilFunc:=k4.cell 0
 have f4:V.frozen? ⟨g + 1 + 1,0,none⟩ = false:=k4.frozen 0
 have us:=(Upd.refl (fun k => k = g + 1 + 1) V).setCell (p:=⟨g + 1 + 1,0,none⟩) (.inl rfl) (allF g (g + 1) (g + 1 + 1))
 have HV:=Lib.hid (show Blk (V.setCell ⟨g + 1 + 1,0,none⟩ (allF g (g + 1) (g + 1 + 1))) g 121 #[.pointer (some ⟨p,0,none⟩)]∧Blk (V.setCell ⟨g + 1 + 1,0,none⟩ (allF g (g + 1) (g + 1 + 1))) (g + 1) 192 #[.slice none 0 0]∧Blk (V.setCell ⟨g + 1 + 1,0,none⟩ (allF g (g + 1) (g + 1 + 1))) (g + 1 + 1) 227 #[allF g (g + 1) (g + 1 + 1)]∧Below w.heap.size w (V.setCell ⟨g + 1 + 1,0,none⟩ (allF g (g + 1) (g + 1 + 1))) from
  ⟨k1.upd us (by omega),k3.upd us (by omega),k4.set 0 _,below_of_upd hb us (by omega)⟩)
 clear k1 k3 k4 hb us
 go_upto_region 6 with (fail)
 generalize V.setCell ⟨g + 1 + 1,0,none⟩ (allF g (g + 1) (g + 1 + 1)) = V1 at HV ⊢
 clear q4 f4
 have SR:=Lib.hid (show ∀ W,Below V1.heap.size V1 W→Blk W g 121 #[.pointer (some ⟨p,0,none⟩)]∧Blk W (g + 1) 192 #[.slice none 0 0]∧Blk W (g + 1 + 1) 227 #[allF g (g + 1) (g + 1 + 1)]∧Below w.heap.size w W∧QuI W O p side dep cnt 0 0 [] pv lv from fun W hb => by
  obtain ⟨k1,k3,k4,b⟩:=HV.out
  have hu:=Upd.of_below hb (fun _ => False)
  have hbw:=b.trans (hb.mono b.size)
  exact ⟨k1.upd hu (fun h => h),k3.upd hu (fun h => h),k4.upd hu (fun h => h),hbw,H.out.upd (Upd.of_below hbw (fun _ => False)) (fun _ _ => id)⟩)
 obtain ⟨j1,j3,j4,bw,hi⟩:=SR.out V1.drew (Below.refl _ _).drew
 have hS:V1.drew.cell? ⟨g + 1 + 1,0,none⟩ = some (allF g (g + 1) (g + 1 + 1))∧V1.drew.cell? ⟨g,0,none⟩ = some (.pointer (some ⟨p,0,none⟩))∧V1.drew.cell? ⟨p,1,none⟩ = some (.int .i64 (dep:Int)):=⟨j4.cell 0,j1.cell 0,hi.blk.cell 1⟩
 have hw1:IntKind.i64.wrap ((dep:Int) - 1) = (dep:Int) - 1:=by rw [IntKind.wrap_i64];omega
 have hcon:=down_none V1.drew O p side dep cnt pv lv hi ((dep:Int) - 1) g (g + 1) (g + 1 + 1) (j1.cell 0)
 have h3:V1.drew.cell? ⟨g + 1,0,none⟩ = some (.slice none 0 0):=j3.cell 0
 have BW:=Lib.hid bw
 clear j1 j3 j4 bw hi
 refine wp_region_ord (fun W => W.cell? ⟨g + 1 + 1,0,none⟩ = some (allF g (g + 1) (g + 1 + 1))∧W.cell? ⟨g,0,none⟩ = some (.pointer (some ⟨p,0,none⟩))∧W.cell? ⟨p,1,none⟩ = some (.int .i64 (dep:Int))) 6 [(0,true),(1,true),(2,true),(3,true),(4,true),(5,true),(6,false)] (by kernel_rfl) (by kernel_rfl) (fun _ _ d _ _ h => by cases d <;> exact h) hS ?_
 generalize V1.drew = V2 at hS hcon h3 BW ⊢
 iterate 6 (refine ord_takeA rfl ?_;(try simp only [Act.put,gA,gS,gZ,sA,sZ,sS]))
 refine ord_do rfl rfl (fun K hK => ?_)
 go_simp
 refine hcon.mono ?_
 clear hcon
 rintro e W3 ⟨rfl,hw⟩
 subst W3
 refine hK _ _ (fun h => absurd rfl h) ?_
 clear hK K hS
 (try simp only [Act.put,gA,gS,gZ,sA,sZ,sS])
 refine ord_done ?_
 have FIN:=Lib.hid (show AllQ w none (.returned (.slice none 0 0)) V2 from ⟨BW.out,rfl⟩)
 have hso:=sort_01 0 (Nat.zero_le _) none 0 (.func (.func 158) #[] #[]) V2
 go_wp2_with fail
 refine hso.mono ?_
 clear hso
 rintro e w' ⟨⟨v,rfl⟩,hw⟩
 subst w'
 go_wp2
 go_ret
 exact FIN.out
theorem qall_any (w:World) (F:Nat→Prop) (p side:Nat) (b:Option (List Nat)) (h:QuS w F p side b):Calls Tryz.prog 119 #[.pointer (some ⟨p,0,none⟩)] w (AllQ w b):=by
 obtain ⟨O,dep,cnt,m,last,L,pv,lv,hq,ok,-⟩:=h
 cases b with
 | none =>
  obtain ⟨rfl,rfl,rfl,rfl⟩:=ok.no rfl
  exact qall_none w O p side dep 0 pv lv hq ok.s1 ok.d1 ok.d2
 | some r =>
  obtain ⟨hm,rfl,rfl,rfl,hr⟩:=ok.is r rfl
  exact qall_some w O p side dep _ m r pv lv hq hr ok.s1 hm ok.d2
end Go.Proofs.YtddffnonlmfhdaaGreatDoor
namespace Go.Proofs.YtddffnonlmfhdaaGreatDoor
open Go.RowKit
theorem bcells_any (r:List Nat) (hr:Wd r) (w:World):Calls Tryz.prog 159 #[wdV r] w (fun e w' => e = .returned (.func (.func 186) #[] #[.pointer (some ⟨w.heap.size,0,none⟩)])∧w' = w.alloc (.cells (wdC r).toArray 168)):=by
 unfold wdV
 go_enter Tryz.func159,Tryz.ntmps159
 go_wp2
 go_ret
 exact ⟨rfl,rfl⟩
def CellsQ (w:World) (b:Option (List Nat)) (e:Ending) (w':World):Prop:=
 ∃ g A n c,w.heap.size ≤ g∧e = .returned (.func (.func 120) #[] #[.pointer (some ⟨g,0,none⟩)])∧Blk w' g 192 #[.slice A n c]∧Below w.heap.size w w' ∧
  match b with
  | none => n = 0
  | some r => n = 1∧w'.ownsRow 0 196 66 (.slice A 1 c) 1 (plC r)∧∀ k,(Value.slice A 1 c).ownBlock = some k→w.heap.size ≤ k
theorem cells_blk (w W:World) (v:Value) (hb:Below w.heap.size w W):Blk (W.alloc (.cells #[v] 192)) W.heap.size 192 #[v]∧Below w.heap.size w (W.alloc (.cells #[v] 192)):=
 ⟨Blk.new W 192 #[v],hb.alloc hb.size _⟩
theorem mcells_any (w:World) (F:Nat→Prop) (p side:Nat) (b:Option (List Nat)) (h:QuS w F p side b):Calls Tryz.prog 74 #[.pointer (some ⟨p,0,none⟩)] w (CellsQ w b):=by
 have ha:=qall_any w F p side b h
 clear h
 cases b with
 | none =>
  go_enter Tryz.func74,Tryz.ntmps74
  go_wp2_with fail
  refine ha.mono ?_
  clear ha
  rintro e W ⟨hb,rfl⟩
  have C:=Lib.hid (cells_blk w W (.slice none 0 0) hb)
  have HB:=Lib.hid hb
  clear hb
  go_wp2
  go_ret
  exact ⟨W.heap.size,none,0,0,HB.out.size,rfl,C.out.1,C.out.2,rfl⟩
 | some r =>
  go_enter Tryz.func74,Tryz.ntmps74
  go_wp2_with fail
  refine ha.mono ?_
  clear ha
  rintro e W ⟨hb,A,c,rfl,own,pl⟩
  have C:=Lib.hid (cells_blk w W (.slice A 1 c) hb)
  have HB:=Lib.hid (And.intro hb (And.intro own pl))
  clear hb own pl
  go_wp2
  go_ret
  exact ⟨W.heap.size,A,1,c,HB.out.1.size,rfl,C.out.1,C.out.2,rfl,HB.out.2.1.alloc _,HB.out.2.2⟩
end Go.Proofs.YtddffnonlmfhdaaGreatDoor
namespace Go.Proofs.YtddffnonlmfhdaaGreatDoor
def bitsL:Nat→Nat→Nat→List Nat
 | 0,_,_ => []
 | n + 1,o,x => if x % 2 = 1 then o :: bitsL n (o + 1) (x / 2) else bitsL n (o + 1) (x / 2)
theorem and_pred_odd {x:Nat} (h:x % 2 = 1):x &&& (x - 1) = x - 1:=by
 apply Nat.eq_of_testBit_eq
 intro j
 rw [Nat.testBit_and]
 cases j with
 | zero => simp [Nat.testBit_zero];omega
 | succ j =>
  rw [Nat.testBit_succ,Nat.testBit_succ]
  have:(x - 1) / 2 = x / 2:=by omega
  rw [this,Bool.and_self]
theorem and_pred_even {y:Nat} (h:y ≠ 0):(2 * y) &&& (2 * y - 1) = 2 * (y &&& (y - 1)):=by
 apply Nat.eq_of_testBit_eq
 intro j
 rw [Nat.testBit_and]
 cases j with
 | zero => simp [Nat.testBit_zero]
 | succ j =>
  rw [Nat.testBit_succ,Nat.testBit_succ,Nat.testBit_succ]
  have h1:(2 * y - 1) / 2 = y - 1:=by omega
  have h2:2 * y / 2 = y:=by omega
  have h3:2 * (y &&& (y - 1)) / 2 = y &&& (y - 1):=by omega
  rw [h1,h2,h3,Nat.testBit_and]
theorem bitsL_zero:∀ n o,bitsL n o 0 = []
 | 0,_ => rfl
 | n + 1,o => by
  rw [bitsL,if_neg (by decide)]
  exact bitsL_zero n (o + 1)
theorem bitsL_step:∀ (n o x:Nat),x ≠ 0→x < 2 ^ n→bitsL n o x = (o + Lib.ctz n x) :: bitsL n o (x &&& (x - 1))
 | 0,o,x,h0,h => by simp at h;omega
 | n + 1,o,x,h0,h => by
  by_cases hx:x % 2 = 1
  ·have hc:Lib.ctz (n + 1) x = 0:=by rw [Lib.ctz,if_neg h0,Lib.ctzFrom,if_pos hx]
   rw [and_pred_odd hx,hc,bitsL,if_pos hx,bitsL,if_neg (by omega)]
   have:(x - 1) / 2 = x / 2:=by omega
   rw [this]
   rfl
  ·obtain ⟨y,rfl⟩:∃ y,x = 2 * y:=⟨x / 2,by omega⟩
   have hy:y ≠ 0:=by omega
   have hd:2 * y / 2 = y:=by omega
   have hc:Lib.ctz (n + 1) (2 * y) = Lib.ctz n y + 1:=by rw [Lib.ctz,if_neg h0,Lib.ctz,if_neg hy,Lib.ctzFrom,if_neg hx,hd,Nat.add_comm]
   have hd2:2 * (y &&& (y - 1)) / 2 = y &&& (y - 1):=by omega
   rw [and_pred_even hy,hc,bitsL,if_neg hx,bitsL,if_neg (by omega),hd,hd2,bitsL_step n (o + 1) y hy (by rw [Nat.pow_succ] at h;omega)]
   congr 1
   omega
theorem bitsL_mem:∀ (n o x j:Nat),j ∈ bitsL n o x ↔ ∃ i,i < n∧j = o + i∧x.testBit i = true
 | 0,o,x,j => by simp [bitsL]
 | n + 1,o,x,j => by
  have ih:=bitsL_mem n (o + 1) (x / 2) j
  have hz:x.testBit 0 = decide (x % 2 = 1):=Nat.testBit_zero x
  constructor
  ·intro h
   rw [bitsL] at h
   have key:j = o∧x % 2 = 1 ∨ j ∈ bitsL n (o + 1) (x / 2):=by
    split at h
    ·rcases List.mem_cons.1 h with h | h
     ·exact .inl ⟨h,by assumption⟩
     ·exact .inr h
    ·exact .inr h
   rcases key with ⟨rfl,hx⟩ | hm
   ·exact ⟨0,by omega,rfl,by rw [hz];exact decide_eq_true hx⟩
   ·obtain ⟨i,hi,rfl,ht⟩:=ih.1 hm
    exact ⟨i + 1,by omega,by omega,by rw [Nat.testBit_succ];exact ht⟩
  ·rintro ⟨i,hi,rfl,ht⟩
   rw [bitsL]
   cases i with
   | zero =>
    rw [hz] at ht
    rw [if_pos (of_decide_eq_true ht)]
    exact List.mem_cons_self
   | succ i =>
    have hm:o + (i + 1) ∈ bitsL n (o + 1) (x / 2):=ih.2 ⟨i,by omega,by omega,by rw [← Nat.testBit_succ];exact ht⟩
    split
    ·exact List.mem_cons_of_mem _ hm
    ·exact hm
end Go.Proofs.YtddffnonlmfhdaaGreatDoor
namespace Go.Proofs.YtddffnonlmfhdaaGreatDoor
def rowL (k x:Nat):List (Nat × Nat):=(bitsL 64 0 x).map (fun c => (k,c))
def celL:Nat→List Nat→List (Nat × Nat)
 | _,[] => []
 | k,x :: r => rowL k x ++ celL (k + 1) r
def qcL:Option (List Nat)→List (Nat × Nat)
 | none => []
 | some r => celL 0 r
theorem rowL_mem {k x i j:Nat}:(i,j) ∈ rowL k x ↔ i = k∧j < 64∧x.testBit j = true:=by
 unfold rowL
 simp only [List.mem_map,bitsL_mem,Prod.mk.injEq]
 constructor
 ·rintro ⟨c,⟨t,h1,h2,h3⟩,rfl,rfl⟩
  rw [Nat.zero_add] at h2
  subst h2
  exact ⟨rfl,h1,h3⟩
 ·rintro ⟨rfl,h1,h2⟩
  exact ⟨j,⟨j,h1,(Nat.zero_add j).symm,h2⟩,rfl,rfl⟩
theorem celL_mem:∀ (r:List Nat) (k i j:Nat),(i,j) ∈ celL k r ↔ ∃ t,i = k + t∧∃ x,r[t]? = some x∧j < 64∧x.testBit j = true
 | [],k,i,j => by simp [celL]
 | x :: r,k,i,j => by
  rw [celL,List.mem_append,rowL_mem,celL_mem r (k + 1) i j]
  constructor
  ·rintro (⟨rfl,h1,h2⟩ | ⟨t,rfl,h⟩)
   ·exact ⟨0,rfl,x,rfl,h1,h2⟩
   ·exact ⟨t + 1,by omega,h⟩
  ·rintro ⟨t,rfl,y,h1,h2⟩
   cases t with
   | zero =>
    rw [List.getElem?_cons_zero] at h1
    injection h1 with h1
    subst h1
    exact .inl ⟨rfl,h2⟩
   | succ t => exact .inr ⟨t,by omega,y,h1,h2⟩
theorem bitsL_up:∀ (n o x:Nat),(bitsL n o x).Pairwise (· < ·)
 | 0,_,_ => List.Pairwise.nil
 | n + 1,o,x => by
  have ih:=bitsL_up n (o + 1) (x / 2)
  rw [bitsL]
  split
  ·refine List.pairwise_cons.2 ⟨fun j hj => ?_,ih⟩
   obtain ⟨i,-,rfl,-⟩:=(bitsL_mem n (o + 1) (x / 2) j).1 hj
   omega
  ·exact ih
def ltC (a b:Nat × Nat):Prop:=a.1 < b.1 ∨ a.1 = b.1∧a.2 < b.2
theorem rowL_up (k x:Nat):(rowL k x).Pairwise ltC:=by
 unfold rowL
 rw [List.pairwise_map]
 exact (bitsL_up 64 0 x).imp (fun h => .inr ⟨rfl,h⟩)
theorem celL_up:∀ (r:List Nat) (k:Nat),(celL k r).Pairwise ltC
 | [],_ => List.Pairwise.nil
 | x :: r,k => by
  rw [celL,List.pairwise_append]
  refine ⟨rowL_up k x,celL_up r (k + 1),fun a ha b hb => .inl ?_⟩
  obtain ⟨a1,a2⟩:=a
  obtain ⟨b1,b2⟩:=b
  obtain ⟨rfl,-⟩:=rowL_mem.1 ha
  obtain ⟨t,rfl,-⟩:=(celL_mem r _ _ _).1 hb
  show a1 < _
  omega
theorem ltC_ne {a b:Nat × Nat} (h:ltC a b):a ≠ b:=by
 rintro rfl
 rcases h with h | ⟨-,h⟩ <;> exact absurd h (Nat.lt_irrefl _)
theorem qcL_up (b:Option (List Nat)):(qcL b).Pairwise ltC:=by
 cases b with
 | none => exact List.Pairwise.nil
 | some r => exact celL_up r 0
theorem qcL_nodup (b:Option (List Nat)):(qcL b).Nodup:=(qcL_up b).imp ltC_ne
theorem qcL_mem {b:Option (List Nat)} (hw:Wd (oldW b)) {i j:Nat}:(i,j) ∈ qcL b ↔ i < 64∧j < 64∧bitO b i j = true:=by
 cases b with
 | none => simp [qcL,bitO]
 | some r =>
  show (i,j) ∈ celL 0 r ↔ _
  rw [celL_mem]
  have hl:=hw.len
  have hl:r.length = 64:=hl
  constructor
  ·rintro ⟨t,rfl,x,h1,h2,h3⟩
   have ht:=(List.getElem?_eq_some_iff.1 h1).1
   rw [Nat.zero_add]
   refine ⟨by omega,h2,?_⟩
   show bitW r t j = true
   unfold bitW
   rw [h1]
   exact h3
  ·rintro ⟨h1,h2,h3⟩
   refine ⟨i,(Nat.zero_add i).symm,r[i]'(by omega),List.getElem?_eq_getElem _,h2,?_⟩
   have h3:bitW r i j = true:=h3
   unfold bitW at h3
   rw [List.getElem?_eq_getElem (by omega)] at h3
   exact h3
theorem bitsL_len:∀ (n o x:Nat),(bitsL n o x).length = pcN n x
 | 0,_,_ => rfl
 | n + 1,o,x => by
  rw [bitsL,pcN]
  split
  ·rw [List.length_cons,bitsL_len n];omega
  ·rw [bitsL_len n];omega
theorem celL_len:∀ (r:List Nat) (k:Nat),(celL k r).length = lenB r
 | [],_ => rfl
 | x :: r,k => by
  rw [celL,List.length_append,celL_len r,rowL,List.length_map,bitsL_len]
  rfl
theorem qcL_len {b:Option (List Nat)}:(qcL b).length = lenB (oldW b):=by
 cases b with
 | none => exact lenB_zero.symm
 | some r => exact celL_len r 0
theorem celL_row (x:Nat):celL 0 (x :: List.replicate 63 0) = rowL 0 x:=by
 have h:∀ (n k:Nat),celL k (List.replicate n 0) = []:=fun n => by
  induction n with
  | zero => intro k;rfl
  | succ n ih => intro k;rw [List.replicate_succ,celL,ih,rowL,bitsL_zero];rfl
 rw [celL,h,List.append_nil]
end Go.Proofs.YtddffnonlmfhdaaGreatDoor
namespace Go.Proofs.YtddffnonlmfhdaaGreatDoor
open Go
section
variable {P:Program} {ops:Array Oper} {Q:Exit→Act→World→Prop} {md:Region.Mode} {S:World→Prop} {n m l:Nat}
theorem callsIn_round {f:FuncId} {args:Array Value} {w:World} {R:Ending→World→Prop} (h:Calls P f args w R):CallsIn (Fence.wide.inRound l) m P f args w R:=
 (callsIn_wide (n:=m)).2 h
theorem rowsIn_wide {row:String} {args:Array Value} {w:World} {R:Value→World→Prop} (h:Rows P row args w R):RowsIn Fence.wide m P row args w R:=by
 intro c cs _
 obtain ⟨v,w',hr,hs⟩:=h c cs
 exact ⟨v,w',hr,stepsIn_wide.2 hs⟩
theorem rowsIn_round {row:String} {args:Array Value} {w:World} {R:Value→World→Prop} (h:Rows P row args w R):RowsIn (Fence.wide.inRound l) m P row args w R:=
 rowsIn_wide h

theorem wpIn_of_wp_round {o:Oper} {a:Act} {w:World} {K:Act→World→Prop} (hnd:∀ c,o.op ≠ .defer c) (h:o.wp P a w K Q):o.wpIn (Fence.wide.inRound l) m P a w K Q:=by
 unfold Oper.wp at h
 refine ⟨fun _ _ => trivial,?_⟩
 rw [Oper.semAt_eq _ _ _ hnd]
 generalize (execOp a.eval o).run P w = r at *
 cases r with
 | ok x w' =>
  cases x <;> simp only [Oper.upon,Oper.uponIn] at h ⊢ <;>
   first
    | exact h
    | exact h.elim
    | exact ⟨fun h => by simp [Fence.wide] at h,callsIn_round h⟩
    | exact ⟨fun h => by simp [Fence.wide] at h,rowsIn_round h⟩
 | halt x w' => cases x <;> simp only [Oper.upon,Oper.uponIn] at h ⊢ <;> exact h

theorem wpOpIn_of_wpOp {i:Nat} {a:Act} {w:World} {K:Act→World→Prop} (hnd:∀ o ∈ ops,∀ c,o.op ≠ .defer c) (hQ:¬ LetsOut Q) (h:wpOp P ops Q i K a w):wpOpIn (Fence.wide.inRound l) m P ops Q i K a w:=by
 unfold wpOp at h
 unfold wpOpIn
 split
 ·rename_i ho;simpa only [ho] using h
 ·rename_i o ho
  simp only [ho] at h
  split
  ·rename_i hw
   simp only [hw,if_true] at h
   rcases h with h | h
   ·exact wpIn_of_wp_round (hnd o (Array.mem_of_getElem? ho)) h
   ·exact absurd h.2 hQ
  ·rename_i hw
   simp only [hw] at h
   exact ⟨fun _ _ => trivial,h⟩

theorem wpAnyIn_of_wpAny (hnd:∀ o ∈ ops,∀ c,o.op ≠ .defer c) (hQ:¬ LetsOut Q):∀ (fuel:Nat) (listed:Array Bool) (a:Act) (w:World),
  wpAny P md ops Q fuel listed a w→wpAnyIn (Fence.wide.inRound l) m P md ops Q fuel listed a w
 | 0,_,_,_,h => h
 | fuel + 1,_,_,_,h => ⟨h.1,fun i hi => wpOpIn_mono (fun a' w' h' => wpAnyIn_of_wpAny hnd hQ fuel _ a' w' h') (wpOpIn_of_wpOp hnd hQ (h.2 i hi))⟩

def noDefer (l:List Oper):Bool:=l.all fun o => match o.op with | .defer _ => false | _ => true
theorem noDefer_spec {l:List Oper} (h:noDefer l = true):∀ o ∈ l.toArray,∀ c,o.op ≠ .defer c:=by
 intro o ho c hc
 have:=List.all_eq_true.1 h o (by simpa using ho)
 simp [hc] at this

theorem wpIn_region_ord {rid:Nat} {a:Act} {w:World} {ol:List Oper} (S:World→Prop) (n:Nat) (σ:List (Nat × Bool)) (hm:P.follows .mixedOrders = true) (hB:ordB .any ol.toArray n σ = true) (hnd:noDefer ol = true)
  (hLQ:¬ LetsOut Q) (hQ:∀ c a d v w,Q (.panic c) (Act.put a d v) w→Q (.panic c) a w) (hS:S w.drew) (h:wpOrd P ol.toArray Q S n σ a w.drew):(Code.region rid ol.toArray true).wpIn (Fence.wide.inRound l) m P Q a w:=by
 simp only [ordB,Bool.and_eq_true,Bool.or_eq_true,decide_eq_true_eq] at hB
 obtain ⟨⟨⟨hsel,hlen⟩,hp⟩,hB'⟩:=hB
 refine wpIn_region_any hm (wpAnyIn_of_wpAny (noDefer_spec hnd) hLQ _ _ _ _ (wpAny_of_C (S:=S) (n:=n) _ _ _ _ ?_))
 rw [← hlen]
 refine wpAnyC_ord hsel hQ ol.toArray.size σ _ a w.drew (hp.imp id fun h p hpr hp2 => ?_) (down_start _) (by rw [hlen];exact hB') (fun _ => hS) h
 have:=List.all_eq_true.1 h p hpr
 simpa [hp2] using this
end
end Go.Proofs.YtddffnonlmfhdaaGreatDoor
namespace Go.Proofs.YtddffnonlmfhdaaGreatDoor
open Go.RowKit
theorem Blk.keep {W W':World} {g:Nat} {t:TypeId} {cs:Array Value} {row:Option Nat} (h:Blk W g t cs) (hg:W.grownBy W' row) {B:Nat} (hr:∀ r,row = some r→B ≤ r∧∃ o:Obj,W.heap[r]? = some o∧o.isCells = false):Blk W' g t cs:=
 h.grown hg (fun e => by
  obtain ⟨_,o,ho,hc⟩:=hr g e.symm
  rw [show W.heap[g]? = _ from h] at ho
  cases ho
  cases hc)

theorem wp_range {α:Type} {P:Program} {g:Operand} {ps:Array Tmp} {assign body:Code} {Q:Exit→Act→World→Prop} {a:Act} {w:World} (n:Nat)
  (h1:1 ≤ n) {gf:Nat} {lb:Array Value} (hg:a.eval g = .func (.func gf) #[] lb) (eg:∀ args w,(callFunc gf args).run P w = .ok (.enter gf args) w)
  {encs:α→Array Value} {Kp:World→World→Prop} {S Sp:List α→Prop} {N:Nat} {w0:World} (hseq:SeqStopsK Fence.wide (n - 1) P gf lb encs Kp S Sp N w0)
  (hKt:∀ {A B C:World},Kp A B→Kp B C→Kp A C) (hKb:∀ (W:World) (l:Nat) (o o':Obj),w.heap.size ≤ l→W.heap[l]? = some o→o.isCells = false→o.isWalk = false→Kp W (W.putObj l o')) (hb0:Below w0.heap.size w0 w) (hps:∀ x,(encs x).size = ps.size)
  (I:List α→World→Prop) (Ix:Code→List α→World→Prop) (hI:OwnFrom w.heap.size I) (hIx:∀ c,OwnFrom w.heap.size (Ix c)) (h0:I [] w)
  (upd:Array Value→α→Nat→Array Value) (Bx:α→Nat→World→Prop) (hBx:∀ x b,OwnFrom w.heap.size (fun (_:Unit) W => Bx x b W))
  (hassign:∀ (l:Nat) (pre:List α) (x:α) (W:World) (K:Act→World→Prop),I pre W→(∀ b W',KeepsFrom w.heap.size W W'→Kp W W'→I pre W'→Bx x b W'→K { tmps:=upd a.tmps x b,defers:=[] } W') →
   assign.wpIn (Fence.wide.inRound l) (n - 1 - 1) P (Exit.then K (fun _ _ _ => False)) { tmps:=(ps.zip (encs x)).foldl (fun t (p,v) => t.setIfInBounds p v) a.tmps,defers:=[] } W)
  (hbody:∀ (l:Nat) (pre:List α) (x:α) (b:Nat) (W:World),w.heap.size ≤ l→(∃ r,W.heap[l]? = some (.loop r))→I pre W→Bx x b W→pre.length < N →
   body.wpIn (Fence.wide.inRound l) (n - 1 - 1) P (ownPostG w.heap.size Kp I Ix (pre ++ [x]) W) { tmps:=upd a.tmps x b,defers:=[] } W)
  (hdone:∀ (D:Nat) (xs:List α) (W:World),w.heap.size ≤ D→S xs→I xs W→W.heap[D]? = some (.deferred (some []))→Q .normal { a with defers:={ target:=.collected D,args:=#[] } :: a.defers } W)
  (hstop:∀ (D:Nat) (c:Code) (pre:List α) (W:World),w.heap.size ≤ D→Sp pre→Ix c pre W→W.heap[D]? = some (.deferred (some []))→c.wp P Q { a with defers:={ target:=.collected D,args:=#[] } :: a.defers } W) :
  (Code.rangeFunc g ps assign body).wp P Q a w:=by
 refine (wpIn_wide (n:=n)).1 ?_
 refine wpIn_rangeFunc_ownH rfl h1 hg trivial eg hseq hKt hKb hb0 hps I Ix hI hIx h0 (fun x a' W => ∃ b,a' = { tmps:=upd a.tmps x b,defers:=[] }∧Bx x b W) ?_ ?_ ?_ hdone ?_
 ·rintro x a' s W W' row ⟨b,hb,hx⟩ hgr hr
  exact ⟨b,hb,hBx x b () W W' row hx hgr hr⟩
 ·intro l pre x W K hi hK
  exact hassign l pre x W K hi (fun b W' h1 h2 h3 h4 => hK _ _ h1 h2 h3 ⟨b,rfl,h4⟩)
 ·rintro l pre x a' W hl hr hi ⟨b,rfl,hb⟩ hlt
  exact hbody l pre x b W hl hr hi hb hlt
 ·intro D c pre W hD hp hi hd
  exact wpIn_wide.2 (hstop D c pre W hD hp hi hd)
end Go.Proofs.YtddffnonlmfhdaaGreatDoor
namespace Go.Proofs.YtddffnonlmfhdaaGreatDoor
open Go.RowKit
def RgM (lb:Nat) (A:World):Prop:=∀ v q,A.cell? ⟨lb,0,none⟩ = some v→v.ownBlock = some q→q < A.heap.size
def AlwM (lb:Nat) (F:Nat→Prop) (A:World) (q:Nat):Prop:=F q ∨ ∃ v,A.cell? ⟨lb,0,none⟩ = some v∧v.ownBlock = some q
def KpM (lb:Nat) (F:Nat→Prop) (A B:World):Prop:=
 RgM lb A→Upd (AlwM lb F A) A B∧∀ v q,B.cell? ⟨lb,0,none⟩ = some v→v.ownBlock = some q→q < B.heap.size∧(q < A.heap.size→∃ u,A.cell? ⟨lb,0,none⟩ = some u∧u.ownBlock = some q)
def Prv (lb:Nat) (F:Nat→Prop) (A:World) (q:Nat):Prop:=q < A.heap.size∧¬ AlwM lb F A q
def OwnP {β:Type} (lb:Nat) (F:Nat→Prop) (B:Nat) (I:β→World→Prop):Prop:=
 ∀ s A A' row,I s A→A.grownBy A' row→(∀ k,row = some k→B ≤ k∧Prv lb F A k)→I s A'
theorem OwnP.put {β:Type} {lb:Nat} {F:Nat→Prop} {B:Nat} {I:β→World→Prop} (h:OwnP lb F B I) {s:β} {W:World} {k:Nat} (o:Obj) (hs:I s W) (hB:B ≤ k) (hk:Prv lb F W k):I s (W.putObj k o):=
 h s W _ (some k) hs (grownBy_putObj' W k o) (fun r e => by cases e;exact ⟨hB,hk⟩)
theorem OwnP.set {β:Type} {lb:Nat} {F:Nat→Prop} {B:Nat} {I:β→World→Prop} (h:OwnP lb F B I) {s:β} {W:World} {p:Addr} (v:Value) (hs:I s W) (hB:B ≤ p.block) (hk:Prv lb F W p.block):I s (W.setCell p v):=
 h s W _ (some p.block) hs ((Upd.refl (fun k => k = p.block) W).setCell (.inl rfl) v |>.to_grown (fun i _ e => by rw [e])) (fun r e => by cases e;exact ⟨hB,hk⟩)
theorem OwnP.alloc {β:Type} {lb:Nat} {F:Nat→Prop} {B:Nat} {I:β→World→Prop} (h:OwnP lb F B I) {s:β} {W:World} (o:Obj) (hs:I s W):I s (W.alloc o):=
 h s W _ none hs (World.grownBy_alloc W o none) (fun r e => by cases e)
theorem OwnP.below {β:Type} {lb:Nat} {F:Nat→Prop} {B:Nat} {I:β→World→Prop} (h:OwnP lb F B I) {s:β} {W W':World} (hs:I s W) (hb:Below W.heap.size W W'):I s W':=
 h s W _ none hs ((Upd.of_below hb (fun _ => False)).to_grown (fun _ _ e => e.elim)) (fun r e => by cases e)
theorem OwnP.from {β:Type} {lb:Nat} {F:Nat→Prop} {B B':Nat} {I:β→World→Prop} (h:OwnP lb F B I) (hB:B ≤ B'):OwnP lb F B' I:=
 fun s A A' row hs hg hr => h s A A' row hs hg (fun k hk => ⟨Nat.le_trans hB (hr k hk).1,(hr k hk).2⟩)
theorem OwnP.monoF {β:Type} {lb:Nat} {F F':Nat→Prop} {B:Nat} {I:β→World→Prop} (h:OwnP lb F B I) (hF:∀ q,F q→F' q):OwnP lb F' B I:=
 fun s A A' row hs hg hr => h s A A' row hs hg (fun k hk => ⟨(hr k hk).1,(hr k hk).2.1,fun ha => (hr k hk).2.2 (ha.imp (hF k) id)⟩)
section
variable {lb:Nat} {F F':Nat→Prop} {A B C:World} {q:Nat}
theorem KpM.rg (h:KpM lb F A B) (r:RgM lb A):RgM lb B:=fun v q h1 h2 => ((h r).2 v q h1 h2).1
theorem KpM.size (h:KpM lb F A B) (r:RgM lb A):A.heap.size ≤ B.heap.size:=(h r).1.size
theorem KpM.trans (h:KpM lb F A B) (k:KpM lb F B C):KpM lb F A C:=by
 intro r
 have rB:=h.rg r
 obtain ⟨u1,r1⟩:=h r
 obtain ⟨u2,r2⟩:=k rB
 refine ⟨u1.trans u2 ?_,?_⟩
 ·intro i hi
  rcases Nat.lt_or_ge i A.heap.size with hlt | hge
  ·refine .inl ?_
   rcases hi with hi | ⟨v,hv,ho⟩
   ·exact .inl hi
   ·exact .inr ((r1 v i hv ho).2 hlt)
  ·exact .inr hge
 ·intro v q hv ho
  obtain ⟨a,b⟩:=r2 v q hv ho
  refine ⟨a,fun hlt => ?_⟩
  obtain ⟨u,hu,ho'⟩:=b (Nat.lt_of_lt_of_le hlt u1.size)
  exact (r1 u q hu ho').2 hlt
theorem KpM.mono (h:KpM lb F A B) (hF:∀ q,F q→F' q):KpM lb F' A B:=fun r =>
 ⟨(h r).1.mono (fun i _ hi => hi.imp (hF i) id),(h r).2⟩
theorem KpM.of_below (h:Below A.heap.size A B) (hl:lb < A.heap.size):KpM lb F A B:=by
 intro r
 refine ⟨Upd.of_below h _,fun v q hv ho => ?_⟩
 have hc:B.cell? ⟨lb,0,none⟩ = A.cell? ⟨lb,0,none⟩:=h.cell (p:=⟨lb,0,none⟩) hl
 rw [hc] at hv
 exact ⟨Nat.lt_of_lt_of_le (r v q hv ho) h.size,fun _ => ⟨v,hv,ho⟩⟩
theorem KpM.refl (lb:Nat) (F:Nat→Prop) (A:World):KpM lb F A A:=fun r => ⟨Upd.refl _ _,fun v q hv ho => ⟨r v q hv ho,fun _ => ⟨v,hv,ho⟩⟩⟩
theorem KpM.of_upd (h:Upd F A B) (hl:lb < A.heap.size) (hn:¬ F lb):KpM lb F A B:=by
 intro r
 refine ⟨h.mono (fun i _ hi => .inl hi),fun v q hv ho => ?_⟩
 rw [h.cell (p:=⟨lb,0,none⟩) hl hn] at hv
 exact ⟨Nat.lt_of_lt_of_le (r v q hv ho) h.size,fun _ => ⟨v,hv,ho⟩⟩
theorem KpM.shrink (h:KpM lb F A B) (hF:∀ q,F q→F' q ∨ A.heap.size ≤ q):KpM lb F' A B:=fun r =>
 ⟨(h r).1.mono (fun i hi ha => by
  rcases ha with ha | ha
  ·exact (hF i ha).elim .inl (fun hge => by omega)
  ·exact .inr ha),(h r).2⟩
theorem KpM.put (l:Nat) (o:Obj) (hF:F l) (hl:lb < A.heap.size) (hn:lb ≠ l):KpM lb F A (A.putObj l o):=by
 have hu:=Upd.of_grown (grownBy_putObj' A l o)
 have:=KpM.of_upd (lb:=lb) hu hl (fun e => hn (by injection e with e;exact e.symm))
 exact this.mono (fun q e => by injection e with e;subst e;exact hF)
theorem KpM.prv (h:KpM lb F A B) (r:RgM lb A) (p:Prv lb F A q):B.heap[q]? = A.heap[q]?∧Prv lb F B q:=by
 obtain ⟨u,hr⟩:=h r
 refine ⟨u.block q p.1 p.2,Nat.lt_of_lt_of_le p.1 u.size,?_⟩
 rintro (hf | ⟨v,hv,ho⟩)
 ·exact p.2 (.inl hf)
 ·exact p.2 (.inr ((hr v q hv ho).2 p.1))
theorem KpM.blk {t:TypeId} {cs:Array Value} (h:KpM lb F A B) (r:RgM lb A) (p:Prv lb F A q) (k:Blk A q t cs):Blk B q t cs:=(h.prv r p).1.trans k
theorem Prv.below (p:Prv lb F A q) (h:Below A.heap.size A B) (hl:lb < A.heap.size):Prv lb F B q:=by
 refine ⟨Nat.lt_of_lt_of_le p.1 h.size,?_⟩
 rintro (hf | ⟨v,hv,ho⟩)
 ·exact p.2 (.inl hf)
 ·rw [h.cell (p:=⟨lb,0,none⟩) hl] at hv
  exact p.2 (.inr ⟨v,hv,ho⟩)
theorem Prv.since (h:Below A.heap.size A B) (hl:lb < A.heap.size) (r:RgM lb A) (hF:∀ q,F q→q < A.heap.size) (h1:A.heap.size ≤ q) (h2:q < B.heap.size):Prv lb F B q:=by
 refine ⟨h2,?_⟩
 rintro (hf | ⟨v,hv,ho⟩)
 ·have:=hF q hf;omega
 ·rw [h.cell (p:=⟨lb,0,none⟩) hl] at hv
  have:=r v q hv ho;omega
theorem Prv.own {row:Option Nat} (p:Prv lb F A q) (hg:A.grownBy B row) (hl:lb < A.heap.size) (hn:row ≠ some lb):Prv lb F B q:=by
 refine ⟨Nat.lt_of_lt_of_le p.1 hg.size,?_⟩
 rintro (hf | ⟨v,hv,ho⟩)
 ·exact p.2 (.inl hf)
 ·rw [World.cell?_of_block (w:=A) (a:=⟨lb,0,none⟩) (hg.block lb hl (fun e => hn e.symm))] at hv
  exact p.2 (.inr ⟨v,hv,ho⟩)
theorem Prv.mono (p:Prv lb F A q) (hF:F' q→F q):Prv lb F' A q:=⟨p.1,fun h => p.2 (h.imp hF id)⟩
theorem RgM.of_none {v:Value} (h:A.cell? ⟨lb,0,none⟩ = some v) (hv:v.ownBlock = none):RgM lb A:=fun u q hu ho => by
 rw [h] at hu
 injection hu with hu
 rw [← hu,hv] at ho
 cases ho
theorem ownP_kpM {β:Type} {w:World} {G:Nat→Prop} {B:Nat} (hB:w.heap.size ≤ B) (hl:lb < w.heap.size) (r:RgM lb w):OwnP lb G B (fun (_:β) W => KpM lb F w W):=by
 intro s W W' row h hg hr _
 obtain ⟨u,hq⟩:=h r
 refine ⟨u.grown hg (fun k hk => .inr (Nat.le_trans hB (hr k hk).1)),fun v q hv ho => ?_⟩
 rw [World.cell?_of_block (w:=W) (a:=⟨lb,0,none⟩) (hg.block lb (Nat.lt_of_lt_of_le hl u.size) (fun e => by have:=(hr lb e.symm).1;omega))] at hv
 exact ⟨Nat.lt_of_lt_of_le (hq v q hv ho).1 hg.size,(hq v q hv ho).2⟩
end
def postM {α:Type} (lb:Nat) (F:Nat→Prop) (I:List α→World→Prop) (Ix:Code→List α→World→Prop) (xs:List α) (W:World):Exit→Act→World→Prop
 | .normal,_,W' => KpM lb F W W'∧I xs W'
 | .ret,_,W' => KpM lb F W W'∧Ix .ret xs W'
 | .exit id,_,W' => KpM lb F W W'∧Ix (.exit id) xs W'
 | .goto t,_,W' => KpM lb F W W'∧Ix (.goto t) xs W'
 | .panic _,_,_ => False
 | .outgrown,_,_ => False

def SeqM {α:Type} (P:Program) (gf:Nat) (cap:Array Value) (encs:α→Array Value) (Own:Nat→Prop) (S Sp:List α→Prop) (N:Nat) (w:World):Prop:=
 ∀ (l lb:Nat) (F:Nat→Prop) (J Jx:List α→World→Prop) (W:World),Below w.heap.size w W→OwnP lb F W.heap.size J→OwnP lb F W.heap.size Jx →
  lb < W.heap.size→RgM lb W→(∀ q,F q→q < W.heap.size∧¬ Own q)→(∀ v q,W.cell? ⟨lb,0,none⟩ = some v→v.ownBlock = some q→¬ Own q) →
  (∀ pre x W1,J pre W1→pre.length < N→YieldAt Fence.wide 0 P l (encs x) W1 fun e W' => KpM lb F W1 W'∧((e = .returned (.bool true)∧J (pre ++ [x]) W') ∨ (e = .returned (.bool false)∧Jx (pre ++ [x]) W'))) →
  J [] W→Calls P gf (#[.func (.yield l) #[] #[]] ++ cap) W fun e W' => (∃ v,e = .returned v)∧((∃ xs,S xs∧J xs W') ∨ (∃ pre,Sp pre∧Jx pre W'))

def LpM (lb:Nat) (F:Nat→Prop) (n₀:Nat) (r:Loop) (W:World):Prop:=
 RgM lb W∧Prv lb F W (n₀ + 1)∧Prv lb F W n₀∧W.heap[n₀ + 1]? = some (.loop r)∧W.heap[n₀]? = some (.deferred (some []))∧lb < n₀
section
variable {lb n₀:Nat} {F:Nat→Prop} {r r':Loop} {W W':World}
theorem LpM.own {row:Option Nat} (h:LpM lb F n₀ r W) (hg:W.grownBy W' row) (hr:∀ k,row = some k→n₀ + 2 ≤ k):LpM lb F n₀ r W':=by
 obtain ⟨h1,h2,h3,h4,h5,h6⟩:=h
 have hc:W'.cell? ⟨lb,0,none⟩ = W.cell? ⟨lb,0,none⟩:=World.cell?_of_block (w:=W) (a:=⟨lb,0,none⟩) (hg.block lb (by have:=h3.1;show lb < _;omega) (fun e => by have:=hr lb e.symm;omega))
 have hp:∀ q,Prv lb F W q→Prv lb F W' q:=fun q p => ⟨Nat.lt_of_lt_of_le p.1 hg.size,by
  rintro (hf | ⟨v,hv,ho⟩)
  ·exact p.2 (.inl hf)
  ·rw [hc] at hv;exact p.2 (.inr ⟨v,hv,ho⟩)⟩
 refine ⟨fun v q hv ho => ?_,hp _ h2,hp _ h3,(hg.block _ h2.1 (fun e => by have:=hr _ e.symm;omega)).trans h4,(hg.block _ h3.1 (fun e => by have:=hr _ e.symm;omega)).trans h5,h6⟩
 rw [hc] at hv
 exact Nat.lt_of_lt_of_le (h1 v q hv ho) hg.size
theorem LpM.kp (h:LpM lb F n₀ r W) (k:KpM lb F W W'):LpM lb F n₀ r W':=by
 obtain ⟨h1,h2,h3,h4,h5,h6⟩:=h
 exact ⟨k.rg h1,(k.prv h1 h2).2,(k.prv h1 h3).2,(k.prv h1 h2).1.trans h4,(k.prv h1 h3).1.trans h5,h6⟩
theorem LpM.put (h:LpM lb F n₀ r W):LpM lb F n₀ r' (W.putObj (n₀ + 1) (.loop r')):=by
 obtain ⟨h1,h2,h3,h4,h5,h6⟩:=h
 have hc:(W.putObj (n₀ + 1) (.loop r')).cell? ⟨lb,0,none⟩ = W.cell? ⟨lb,0,none⟩:=World.cell?_of_block (w:=W) (a:=⟨lb,0,none⟩) (World.putObj_heap_other (show lb ≠ n₀ + 1 by omega))
 have hp:∀ q,Prv lb F W q→Prv lb F (W.putObj (n₀ + 1) (.loop r')) q:=fun q p => ⟨by rw [World.putObj_size];exact p.1,by
  rintro (hf | ⟨v,hv,ho⟩)
  ·exact p.2 (.inl hf)
  ·rw [hc] at hv;exact p.2 (.inr ⟨v,hv,ho⟩)⟩
 refine ⟨fun v q hv ho => ?_,hp _ h2,hp _ h3,World.putObj_heap_same h2.1,(World.putObj_heap_other (by omega)).trans h5,h6⟩
 rw [hc] at hv
 rw [World.putObj_size]
 exact h1 v q hv ho
end
theorem leaves_M {P:Program} {fn:Func} {tmps:Array Value} {R:Ending→World→Prop} {F:Fence} {n:Nat} (Pd:Nat→Prop) (E:World→Prop) (hE:∀ w1 D,Pd D→E w1→E (w1.putObj D (.deferred none)))
  (hfin:∀ w1,E w1→∃ v,(results fn tmps).run P w1 = .ok v w1∧R (.returned v) w1):∀ (Ds:List Nat) (w:World),Ds.Nodup→(∀ D ∈ Ds,Pd D∧w.heap[D]? = some (.deferred (some [])))→E w→LeavesInM F n P fn tmps R (Ds.map (fun D => { target:=.collected D,args:=#[] })) .returning w
 | [],w,_,_,h => hfin w h
 | D :: Ds,w,hn,hd,h => by
  obtain ⟨h1,h2⟩:=hd D (by simp)
  rw [List.nodup_cons] at hn
  refine ⟨by simp,.inl ⟨D,_,rfl,run_takeDeferred h2,?_⟩⟩
  refine leaves_M Pd E hE hfin Ds _ hn.2 (fun D' hD' => ?_) (hE w D h1 h)
  obtain ⟨h3,h4⟩:=hd D' (by simp [hD'])
  exact ⟨h3,((grownBy_putObj' w D (.deferred none)).block D' (Array.getElem?_eq_some_iff.1 h4).1 (fun e => by injection e with e;exact hn.1 (e ▸ hD'))).trans h4⟩

theorem leaves_own {P:Program} {fn:Func} {tmps:Array Value} {R:Ending→World→Prop} {n lb B:Nat} {F:Nat→Prop} {G:Fence} (E:World→Prop) (hE:OwnP lb F B (fun (_:Unit) w => E w)) (hlb:lb < B)
  (hfin:∀ w1,E w1→∃ v,(results fn tmps).run P w1 = .ok v w1∧R (.returned v) w1) (Ds:List Nat) (w:World) (hn:Ds.Nodup) (hd:∀ D ∈ Ds,B ≤ D∧Prv lb F w D∧w.heap[D]? = some (.deferred (some []))) (hw:lb < w.heap.size) (h:E w) :
  LeavesInM G n P fn tmps R (Ds.map (fun D => { target:=.collected D,args:=#[] })) .returning w:=by
 refine leaves_M (fun D => D ∈ Ds∧B ≤ D) (fun w1 => E w1∧lb < w1.heap.size∧∀ D ∈ Ds,Prv lb F w1 D) ?_ (fun w1 h1 => hfin w1 h1.1) Ds w hn (fun D hD => ⟨⟨hD,(hd D hD).1⟩,(hd D hD).2.2⟩) ⟨h,hw,fun D hD => (hd D hD).2.1⟩
 rintro w1 D ⟨hD,hB⟩ ⟨h1,h2,h3⟩
 exact ⟨hE.put (s:=()) _ h1 hB (h3 D hD),by rw [World.putObj_size];exact h2,fun D' hD' => (h3 D' hD').own (grownBy_putObj' w1 D (.deferred none)) h2 (fun e => by injection e with e;omega)⟩

theorem wp_rangeM {α:Type} {P:Program} {g:Operand} {ps:Array Tmp} {assign body:Code} {Q:Exit→Act→World→Prop} {a:Act} {w:World}
  {gf:Nat} {cap:Array Value} (hg:a.eval g = .func (.func gf) #[] cap) (eg:∀ args w,(callFunc gf args).run P w = .ok (.enter gf args) w)
  {encs:α→Array Value} {Own:Nat→Prop} {S Sp:List α→Prop} {N:Nat} {w0:World} (hseq:SeqM P gf cap encs Own S Sp N w0) (hb0:Below w0.heap.size w0 w) (hOwn:∀ q,Own q→q < w0.heap.size) (hps:∀ x,(encs x).size = ps.size)
  (lb:Nat) (F:Nat→Prop) (hlb:lb < w.heap.size) (hr:RgM lb w) (hF:∀ q,F q→q < w.heap.size∧¬ Own q) (hrow:∀ v q,w.cell? ⟨lb,0,none⟩ = some v→v.ownBlock = some q→¬ Own q)
  (I:List α→World→Prop) (Ix:Code→List α→World→Prop) (hI:OwnP lb F w.heap.size I) (hIx:∀ c,OwnP lb F w.heap.size (Ix c)) (h0:I [] w)
  (upd:Array Value→α→Nat→Array Value) (Bx:α→Nat→World→Prop) (hBx:∀ x b,OwnFrom w.heap.size (fun (_:Unit) W => Bx x b W))
  (hassign:∀ (l:Nat) (pre:List α) (x:α) (W:World) (K:Act→World→Prop),RgM lb W→w.heap.size ≤ W.heap.size→I pre W→(∀ b W',KpM lb F W W'→I pre W'→Bx x b W'→K { tmps:=upd a.tmps x b,defers:=[] } W') →
   assign.wpIn (Fence.wide.inRound l) 0 P (Exit.then K (fun _ _ _ => False)) { tmps:=(ps.zip (encs x)).foldl (fun t (p,v) => t.setIfInBounds p v) a.tmps,defers:=[] } W)
  (hbody:∀ (l:Nat) (pre:List α) (x:α) (b:Nat) (W:World),RgM lb W→w.heap.size ≤ W.heap.size→I pre W→Bx x b W→pre.length < N →
   body.wpIn (Fence.wide.inRound l) 0 P (postM lb F I Ix (pre ++ [x]) W) { tmps:=upd a.tmps x b,defers:=[] } W)
  (hdone:∀ (xs:List α) (W:World),S xs→I xs W→RgM lb W→Prv lb F W w.heap.size→W.heap[w.heap.size]? = some (.deferred (some []))→Q .normal { a with defers:={ target:=.collected w.heap.size,args:=#[] } :: a.defers } W)
  (hstop:∀ (c:Code) (pre:List α) (W:World),Sp pre→Ix c pre W→RgM lb W→Prv lb F W w.heap.size→W.heap[w.heap.size]? = some (.deferred (some []))→c.wp P Q { a with defers:={ target:=.collected w.heap.size,args:=#[] } :: a.defers } W) :
  (Code.rangeFunc g ps assign body).wp P Q a w:=by
 refine (wpIn_wide (n:=0)).1 (wpIn_rangeFunc ?_)
 intro fn _
 let rec':LoopState→Option Code→Loop:=fun st pe => { state:=st,pending:=pe,fn,tmps:=a.tmps,params:=ps,assign,body,defers:=w.heap.size }
 obtain ⟨R,hR⟩:∃ R,R = rec':=⟨_,rfl⟩
 obtain ⟨W1,hW1⟩:∃ W1,(w.alloc (.deferred (some []))).alloc (.loop (R .ready none)) = W1:=⟨_,rfl⟩
 have hbw:Below w.heap.size w W1:=by rw [← hW1];exact ((Below.refl _ w).alloc (Nat.le_refl _) _).alloc (by simp) _
 have hz1:W1.heap.size = w.heap.size + 2:=by rw [← hW1];simp
 have hL1:LpM lb F w.heap.size (R .ready none) W1:=by
  refine ⟨(KpM.of_below (F:=F) hbw hlb).rg hr,Prv.since hbw hlb hr (fun q h => (hF q h).1) (by omega) (by omega),Prv.since hbw hlb hr (fun q h => (hF q h).1) (by omega) (by omega),?_,?_,hlb⟩
  ·rw [← hW1];have:=World.alloc_heap_new (w.alloc (.deferred (some []))) (.loop (R .ready none));rwa [World.size_alloc] at this
  ·rw [← hW1];exact (Below.heap_alloc _ _ _ (by simp)).trans (World.alloc_heap_new w _)
 have hI1:I [] W1:=by rw [← hW1];exact hI.alloc _ (hI.alloc _ h0)
 have hc1:W1.cell? ⟨lb,0,none⟩ = w.cell? ⟨lb,0,none⟩:=hbw.cell (p:=⟨lb,0,none⟩) hlb
 refine ⟨w.heap.size + 1,[{ target:=.collected w.heap.size,args:=#[] }],W1,{ target:=.fn (.func gf) cap,args:=#[.func (.yield (w.heap.size + 1)) #[] #[]] },W1,gf,
  #[.func (.yield (w.heap.size + 1)) #[] #[]] ++ cap,W1,?_,?_,fun _ _ => trivial,?_,fun h => by simp [Fence.wide] at h,?_⟩
 ·rw [← hW1,hR];exact run_enterLoop_outer _ _ _ _ _
 ·simp only [resolve,hg]
  simp [go_sem]
 ·simp [invoke,go_sem,eg]
 refine callsIn_wide.2 ((hseq (w.heap.size + 1) lb (fun q => F q ∨ q = w.heap.size + 1)
  (fun pre W => (I pre W∧w.heap.size ≤ W.heap.size)∧LpM lb F w.heap.size (R .ready none) W)
  (fun pre W => ∃ c,(Ix c pre W∧w.heap.size ≤ W.heap.size)∧LpM lb F w.heap.size (R .done (some c)) W) W1 (hb0.trans (hbw.mono hb0.size))
  ?_ ?_ (by omega) hL1.1 ?_ ?_ ?_ ⟨⟨hI1,by omega⟩,hL1⟩).mono ?_)
 ·rintro s A B row ⟨⟨h1,h2⟩,h3⟩ hg hrr
  exact ⟨⟨hI s A B row h1 hg (fun k hk => ⟨by have:=(hrr k hk).1;omega,(hrr k hk).2.mono .inl⟩),Nat.le_trans h2 hg.size⟩,h3.own hg (fun k hk => by have:=(hrr k hk).1;omega)⟩
 ·rintro s A B row ⟨c,⟨h1,h2⟩,h3⟩ hg hrr
  exact ⟨c,⟨hIx c s A B row h1 hg (fun k hk => ⟨by have:=(hrr k hk).1;omega,(hrr k hk).2.mono .inl⟩),Nat.le_trans h2 hg.size⟩,h3.own hg (fun k hk => by have:=(hrr k hk).1;omega)⟩
 ·rintro q (hq | rfl)
  ·exact ⟨by have:=(hF q hq).1;omega,(hF q hq).2⟩
  ·exact ⟨by omega,fun ho => by have h1:=hOwn _ ho;have:=hb0.size;omega⟩
 ·intro v q hv ho
  rw [hc1] at hv
  exact hrow v q hv ho
 ·-- one round
  rintro pre x W ⟨⟨hi,hsz⟩,hl⟩ hlen
  have hy:=run_yield (P:=P) (args:=encs x) hl.2.2.2.1 (by rw [hR];exact hps x)
  rw [hR] at hy
  refine ⟨fn,_,assign,body,hy,roundIn_of_wpIn trivial (hassign _ pre x W _ hl.1 hsz hi ?_)⟩
  clear hy
  intro b Wa hka hia hbx
  have hla:=hl.kp hka
  have hsa:=Nat.le_trans hsz (hka.size hl.1)
  refine ⟨_,run_beginRound hla.2.2.2.1 (by rw [hR]),?_⟩
  have hlb1:LpM lb F w.heap.size { R .ready none with state:=.busy } (Wa.putObj (w.heap.size + 1) (.loop { R .ready none with state:=.busy })):=hla.put
  have hib:=hI.put (.loop { R .ready none with state:=.busy }) hia (Nat.le_succ w.heap.size) hla.2.1
  have hbb:=(hBx x b).putObj (s:=()) (.loop { R .ready none with state:=.busy }) hbx (Nat.le_succ w.heap.size) hla.2.2.2.1 rfl
  have hkb:KpM lb (fun q => F q ∨ q = w.heap.size + 1) W (Wa.putObj (w.heap.size + 1) (.loop { R .ready none with state:=.busy })):=
   (hka.mono (fun _ h => .inl h)).trans (KpM.put _ _ (.inr rfl) (by omega) (by omega))
  have hsb:w.heap.size ≤ (Wa.putObj (w.heap.size + 1) (.loop { R .ready none with state:=.busy })).heap.size:=by rw [World.putObj_size];exact hsa
  revert hlb1 hib hbb hkb hsb
  generalize Wa.putObj (w.heap.size + 1) (.loop { R .ready none with state:=.busy }) = Wb
  intro hlb1 hib hbb hkb hsb
  refine wpIn_mono (hbody _ pre x b Wb hlb1.1 hsb hib hbb hlen) ?_
  have fin:∀ (jump:Option Code) (W3:World),KpM lb F Wb W3→∃ W4,(Instr.endRound (w.heap.size + 1) jump).run P W3 = .ok (.bool jump.isNone) W4 ∧
    LpM lb F w.heap.size (R (if jump.isNone then .ready else .done) jump) W4∧KpM lb (fun q => F q ∨ q = w.heap.size + 1) W W4∧w.heap.size ≤ W4.heap.size∧(∀ c,Ix c (pre ++ [x]) W3→Ix c (pre ++ [x]) W4)∧(I (pre ++ [x]) W3→I (pre ++ [x]) W4):=by
   intro jump W3 hk3
   have hl3:=hlb1.kp hk3
   have h3:=run_endRound (P:=P) jump hl3.2.2.2.1
   have hs3:=Nat.le_trans hsb (hk3.size hlb1.1)
   refine ⟨_,h3,?_,?_,by rw [World.putObj_size];exact hs3,fun c hc => (hIx c).put _ hc (Nat.le_succ _) hl3.2.1,fun hc => hI.put _ hc (Nat.le_succ _) hl3.2.1⟩
   ·have:=hl3.put (r':={ R .ready none with state:=(if jump.isNone then .ready else .done),pending:=jump })
    rw [hR] at this ⊢
    exact this
   ·exact hkb.trans ((hk3.mono (fun _ h => .inl h)).trans (KpM.put _ _ (.inr rfl) (by omega) (by omega)))
  rintro e a3 W3 hp
  cases e with
  | normal =>
   obtain ⟨W4,h1,h2,h3,h4,_,h6⟩:=fin none W3 hp.1
   exact ⟨_,_,h1,h3,.inl ⟨rfl,⟨h6 hp.2,h4⟩,h2⟩⟩
  | ret =>
   obtain ⟨W4,h1,h2,h3,h4,h5,_⟩:=fin (some .ret) W3 hp.1
   exact ⟨_,_,h1,h3,.inr ⟨rfl,.ret,⟨h5 _ hp.2,h4⟩,h2⟩⟩
  | exit id =>
   obtain ⟨W4,h1,h2,h3,h4,h5,_⟩:=fin (some (.exit id)) W3 hp.1
   exact ⟨_,_,h1,h3,.inr ⟨rfl,.exit id,⟨h5 _ hp.2,h4⟩,h2⟩⟩
  | goto t =>
   obtain ⟨W4,h1,h2,h3,h4,h5,_⟩:=fin (some (.goto t)) W3 hp.1
   exact ⟨_,_,h1,h3,.inr ⟨rfl,.goto t,⟨h5 _ hp.2,h4⟩,h2⟩⟩
  | panic ch => exact hp.elim
  | outgrown => exact hp.elim
 ·-- behind the iterator
  rintro e W2 ⟨⟨v,rfl⟩,(⟨xs,hS,⟨hi,hs⟩,hl⟩ | ⟨pre,hSp,c,⟨hi,hs⟩,hl⟩)⟩
  ·have h3:=run_endLoop (P:=P) hl.2.2.2.1 (by rw [hR];simp)
   have hl4:=hl.put (r':={ R .ready none with state:=.exhausted })
   rw [hR] at h3
   rw [hR] at hl4
   exact ⟨none,_,h3,hdone xs _ hS (hI.put _ hi (Nat.le_succ _) hl.2.1) hl4.1 hl4.2.2.1 hl4.2.2.2.2.1⟩
  ·have h3:=run_endLoop (P:=P) hl.2.2.2.1 (by rw [hR];simp)
   have hl4:=hl.put (r':={ R .done (some c) with state:=.exhausted })
   rw [hR] at h3
   rw [hR] at hl4
   exact ⟨some c,_,h3,wpIn_wide.2 (hstop c pre _ hSp ((hIx c).put _ hi (Nat.le_succ _) hl.2.1) hl4.1 hl4.2.2.1 hl4.2.2.2.2.1)⟩
end Go.Proofs.YtddffnonlmfhdaaGreatDoor
namespace Go.Proofs.YtddffnonlmfhdaaGreatDoor
open Go.RowKit Go.Shelf
attribute [local go_sem] Oper.semAt_some
section
variable {F:Fence} {nF:Nat} {P:Program} {ops:Array Oper} {rest:List Oper} {op:Oper} {a:Act} {w:World} {Q:Exit→Act→World→Prop}
theorem wpListIn_load_mid (hgd:op.guard = none) (ty:TypeId) (x:Operand) (ho:op.op = .load ty x) (b o:Nat) (hx:a.eval x = .pointer (some ⟨b,o,none⟩)) (cs:List Value) (d:TypeDesc) (hc:w.rangeAt b o cs)
  (hu:P.underlying ty = some d) (hd:d.isRow = true) (hi:(P.info? ty).map (·.size) = some cs.length) (h:wpListIn F nF P ops Q rest (a.put op.dst (.agg cs.toArray)) w):wpListIn F nF P ops Q (op :: rest) a w:=by
 refine wpListIn_plain hgd fun K hK => ?_
 unfold Oper.wpIn
 refine ⟨by simp [Oper.about,ho],?_⟩
 rw [Oper.semAt_plain F _ _ (by rw [ho];intro c hc';cases hc')]
 simp only [execOp,ho,hx,run_loadAt_mid w b o ty cs d hc hu hd hi,Sem.run_bind,Result.andThen_ok]
 exact hK _ _ h
end
def subL {α:Type} (L:List α) (Q:α→Prop) (hQ:∀ x ∈ L,Q x):List {x:α // Q x}:=L.attachWith Q hQ
theorem subL_len {α:Type} (L:List α) (Q:α→Prop) (hQ:∀ x ∈ L,Q x):(subL L Q hQ).length = L.length:=List.length_attachWith
theorem subL_at {α:Type} {L:List α} {Q:α→Prop} {hQ:∀ x ∈ L,Q x} {k:Nat} {x:α} (h:L[k]? = some x):∃ hx:Q x,(subL L Q hQ).take (k + 1) = (subL L Q hQ).take k ++ [⟨x,hx⟩]:=by
 refine ⟨hQ x (List.mem_of_getElem? h),?_⟩
 have h5:=(List.getElem?_eq_some_iff.1 h).1
 have h6:=(List.getElem?_eq_some_iff.1 h).2
 rw [List.take_add_one]
 congr 1
 unfold subL
 rw [List.getElem?_attachWith]
 simp [h5,h6]
theorem subL_all {α:Type} {L:List α} {Q:α→Prop} {hQ:∀ x ∈ L,Q x} {k:Nat} (h:L.drop k = []):(subL L Q hQ).take k = subL L Q hQ:=by
 rw [List.take_of_length_le]
 rw [subL_len]
 exact List.drop_eq_nil_iff.1 h
theorem drop_head {α:Type} {L M:List α} {k:Nat} {x:α} (h:L.drop k = x :: M):L[k]? = some x∧L.drop (k + 1) = M:=by
 constructor
 ·rw [← List.head?_drop,h];rfl
 ·rw [← List.tail_drop,h];rfl
theorem rowL_step {k y:Nat} (h0:y ≠ 0) (h:y < 18446744073709551616):rowL k y = (k,Lib.ctz 64 y) :: rowL k (y &&& (y - 1)):=by
 unfold rowL
 rw [bitsL_step 64 0 y h0 (by simpa using h),List.map_cons,Nat.zero_add]
theorem celL_drop {r:List Nat} {k x:Nat} (h:r[k]? = some x):celL k (r.drop k) = rowL k x ++ celL (k + 1) (r.drop (k + 1)):=by
 have h1:=(List.getElem?_eq_some_iff.1 h).1
 rw [List.drop_eq_getElem_cons h1,celL,(List.getElem?_eq_some_iff.1 h).2]
theorem and_pred_le {y:Nat} (h:y ≠ 0):y &&& (y - 1) < y:=Nat.lt_of_le_of_lt Nat.and_le_right (by omega)
def encC {Q:Nat × Nat→Prop} (x:{x:Nat × Nat // Q x}):Array Value:=#[.agg #[.int .i64 (x.1.1:Int),.int .i64 (x.1.2:Int)]]
def TabB (q:Nat):Prop:=q = 1
theorem TabW.lt {w:World} (h:TabW w):1 < w.heap.size:=World.block_lt_of_cell? w _ (h 0 (by decide))
theorem TabW.kp {lb:Nat} {F:Nat→Prop} {A B:World} (h:TabW A) (k:KpM lb F A B) (r:RgM lb A) (p:Prv lb F A 1):TabW B:=
 h.upd (k r).1 h.lt p.2

theorem bcells_in (l lb b:Nat) (F:Nat→Prop) (r:List Nat) (hr:Wd r) (Q:Nat × Nat→Prop) (hQ:∀ x ∈ celL 0 r,Q x) (J Jx:List {x:Nat × Nat // Q x}→World→Prop) (W:World) (hJ:OwnP lb F W.heap.size J)
  (hrg:RgM lb W) (hp:Prv lb F W 1) (hT:TabW W) (hb:Blk W b 168 (wdC r).toArray)
  (hY:∀ pre x W1,J pre W1→pre.length < (celL 0 r).length→YieldAt Fence.wide 0 Tryz.prog l (encC x) W1 fun e W' => KpM lb F W1 W'∧((e = .returned (.bool true)∧J (pre ++ [x]) W') ∨ (e = .returned (.bool false)∧Jx (pre ++ [x]) W'))) (h0:J [] W) :
  Calls Tryz.prog 186 #[.func (.yield l) #[] #[],.pointer (some ⟨b,0,none⟩)] W fun e W' => (∃ v,e = .returned v) ∧
   ((∃ ys,ys = subL (celL 0 r) Q hQ∧J ys W') ∨ (∃ pre,(∃ k,k ≤ (celL 0 r).length∧pre = (subL (celL 0 r) Q hQ).take k)∧Jx pre W')):=by
 have hlo:W.rangeAt b 0 (wdC r):=range_blk hb
 have hsz:=info_wd hr
 have H:=Lib.hid (And.intro hr (And.intro hJ (And.intro hY (And.intro hrg (And.intro hp (And.intro hT h0))))))
 have HX:=Lib.hid (show ∀ (W:World) (k x:Nat),r[k]? = some x→(Instr.index 168 (.agg (wdC r).toArray) (.int .i64 (k:Int))).run Tryz.prog W = .ok (.int .u64 (x:Int)) W from fun W k x h => index_wd hr h)
 clear hr hJ hY hrg hp hT h0 hb
 refine (callsIn_wide (n:=1)).1 ?_
 refine callsIn_of_wp Tryz.func186 rfl trivial ?_ rfl
 simp only [Tryz.ntmps186,List.size_toArray,List.length_cons,List.length_nil,Nat.reduceAdd,Nat.reduceSub,Array.replicate_succ,Array.replicate_zero,List.push_toArray,List.append_toArray,List.nil_append,List.cons_append]
 gi_wp2_with (refine wpListIn_load_mid rfl 168 _ rfl b 0 rfl (wdC r) (.array 64 166) hlo Tryz.underlying168 rfl hsz ?_)
 clear hlo hsz
 gi_loopw [6] (fun i wr => ∃ k c:Nat,k ≤ 64∧i = .int .i64 k∧Hid ((celL 0 r).drop c = celL k (r.drop k)∧c ≤ (celL 0 r).length∧J ((subL (celL 0 r) Q hQ).take c) wr∧RgM lb wr∧Prv lb F wr 1∧TabW wr)) (fun i _ => 64 - (intOf i).toNat)
 case atStart => exact ⟨0,0,Nat.zero_le _,rfl,Lib.hid ⟨rfl,Nat.zero_le _,by simpa using H.out.2.2.2.2.2.2,H.out.2.2.2.1,H.out.2.2.2.2.1,H.out.2.2.2.2.2.1⟩⟩
 case round =>
  obtain ⟨k,c,hk,rfl,hI⟩:=hrel
  by_cases hlt:k < 64
  ·have hltI:(k:Int) < (64:Int):=by omega
   have hkw:IntKind.i64.wrap ((k:Int) + 1) = (k:Int) + 1:=IntWalk.i64_in _ (by omega)
   obtain ⟨x,hx⟩:∃ x,r[k]? = some x:=⟨r[k]'(by rw [H.out.1.len];exact hlt),List.getElem?_eq_getElem _⟩
   have hix:=HX.out wr k x hx
   have HK:=Lib.hid (And.intro (celL_drop hx) (H.out.1.fit x (List.mem_of_getElem? hx)))
   clear hx
   gi_wp2
   clear hix
   gi_loopw [4] (fun a wr => ∃ y c:Nat,a = .int .u64 (y:Int)∧Hid (y < 18446744073709551616∧(celL 0 r).drop c = rowL k y ++ celL (k + 1) (r.drop (k + 1))∧c ≤ (celL 0 r).length∧J ((subL (celL 0 r) Q hQ).take c) wr∧RgM lb wr∧Prv lb F wr 1∧TabW wr)) (fun a _ => (intOf a).toNat)
   case atStart => exact ⟨x,c,rfl,Lib.hid ⟨HK.out.2,hI.out.1.trans HK.out.1,hI.out.2⟩⟩
   case round =>
    obtain ⟨y,c,rfl,hY⟩:=hrel
    by_cases h0:y = 0
    ·subst h0
     have HE:=Lib.hid (show (celL 0 r).drop c = celL (k + 1) (r.drop (k + 1)) by have:=hY.out.2.1;rwa [show rowL k 0 = [] from by unfold rowL;rw [bitsL_zero];rfl,List.nil_append] at this)
     gi_wp2
     go_roundw
     case rel => exact ⟨k + 1,c,by omega,by go_num,Lib.hid ⟨HE.out,hY.out.2.2⟩⟩
     case measure => simp [intOf];omega
    ·have e1:((y:Int) == 0) = false:=by simp;omega
     obtain ⟨hy,hd,hc,hJ,hrg,hp,hT⟩:=hY.out
     rw [rowL_step h0 hy,List.cons_append] at hd
     obtain ⟨hat,hdr⟩:=drop_head hd
     obtain ⟨hq,htk⟩:=subL_at (Q:=Q) (hQ:=hQ) hat
     have hcl:=(List.getElem?_eq_some_iff.1 hat).1
     obtain ⟨fn,tmps,assign,body,hyy,hR⟩:=H.out.2.2.1 _ ⟨(k,Lib.ctz 64 y),hq⟩ wr hJ (by rw [List.length_take,subL_len];omega)
     dsimp only [encC] at hyy
     have hcon:=tz_any y hy h0 wr hT
     have hb1:IntKind.u64.wrap ((y:Int) - 1) = ((y - 1:Nat):Int):=by rw [IntKind.wrap_u64];omega
     have hb2:bits .and .u64 (y:Int) ((y - 1:Nat):Int) = ((y &&& (y - 1):Nat):Int):=bits_and_u64_nat y (y - 1) hy (by omega)
     have HZ:=Lib.hid (And.intro hy (And.intro hdr (And.intro hcl (And.intro htk (And.intro hrg (And.intro hp hT))))))
     clear hy hd hc hJ hrg hp hT hat hdr htk hcl
     gi_wp2_with (refine ⟨trivial,?_⟩;gi_at_call 187;refine (callsIn_wide.2 hcon).mono ?_;clear hcon;rintro e w1 ⟨rfl,hw⟩;subst w1)
     refine hR.mono ?_
     rintro e W3 ⟨hk3,(⟨rfl,hJ3⟩ | ⟨rfl,hJx3⟩)⟩
     ·have HN:=Lib.hid (show y &&& (y - 1) < 18446744073709551616∧(celL 0 r).drop (c + 1) = rowL k (y &&& (y - 1)) ++ celL (k + 1) (r.drop (k + 1))∧c + 1 ≤ (celL 0 r).length∧J ((subL (celL 0 r) Q hQ).take (c + 1)) W3∧RgM lb W3∧Prv lb F W3 1∧TabW W3 from
       ⟨Nat.lt_of_lt_of_le (and_pred_le h0) (Nat.le_of_lt HZ.out.1),HZ.out.2.1,HZ.out.2.2.1,by rw [HZ.out.2.2.2.1];exact hJ3,hk3.rg HZ.out.2.2.2.2.1,(hk3.prv HZ.out.2.2.2.2.1 HZ.out.2.2.2.2.2.1).2,HZ.out.2.2.2.2.2.2.kp hk3 HZ.out.2.2.2.2.1 HZ.out.2.2.2.2.2.1⟩)
      have HM:=Lib.hid (and_pred_le h0)
      clear hJ3 hk3 hR hyy
      gi_wp2
      go_roundw
      case rel => exact ⟨y &&& (y - 1),c + 1,rfl,HN⟩
      case measure => have:=HM.out;simp only [intOf];omega
     ·clear hR hyy
      gi_wp2
      refine bodyPost_ret (results_none rfl _ _ _) rfl ?_
      exact ⟨⟨_,rfl⟩,.inr ⟨_,⟨c + 1,HZ.out.2.2.1,HZ.out.2.2.2.1.symm⟩,hJx3⟩⟩
  ·obtain rfl:k = 64:=by omega
   have HE:=Lib.hid (show (celL 0 r).drop c = [] by rw [hI.out.1,List.drop_of_length_le (by rw [H.out.1.len];exact Nat.le_refl _)];rfl)
   gi_wp2
   go_end0
   exact ⟨⟨_,rfl⟩,.inl ⟨_,rfl,by have:=hI.out.2.2.1;rwa [subL_all HE.out] at this⟩⟩
theorem bcells_stops (w:World) (b:Nat) (r:List Nat) (hr:Wd r) (Q:Nat × Nat→Prop) (hQ:∀ x ∈ celL 0 r,Q x) (hb:Blk w b 168 (wdC r).toArray) (hT:TabW w) :
  SeqM Tryz.prog 186 #[.pointer (some ⟨b,0,none⟩)] encC TabB (fun ys => ys = subL (celL 0 r) Q hQ) (fun pre => ∃ k,k ≤ (celL 0 r).length∧pre = (subL (celL 0 r) Q hQ).take k) (celL 0 r).length w:=
 fun l lb F J Jx W hW hJ _ _ hrg hF hrow hY h0 =>
  have hu:=Upd.of_below hW (fun _ => False)
  have hTW:=hT.upd hu hT.lt id
  bcells_in l lb b F r hr Q hQ J Jx W hJ hrg ⟨hTW.lt,fun ha => ha.elim (fun hf => (hF _ hf).2 rfl) (fun ⟨v,hv,ho⟩ => hrow v _ hv ho rfl)⟩ hTW (hb.upd hu id) hY h0
end Go.Proofs.YtddffnonlmfhdaaGreatDoor
namespace Go.Proofs.YtddffnonlmfhdaaGreatDoor
open Go.RowKit
theorem setCell_new (w:World) (cur:Array Value) (t:TypeId) (o:Nat) (v:Value):(w.alloc (.cells cur t)).setCell ⟨w.heap.size,o,none⟩ v = w.alloc (.cells (cur.setIfInBounds o v) t):=by
 unfold World.setCell World.alloc
 simp only
 congr 1
 apply Array.ext_getElem?
 intro k
 rw [Array.getElem?_modify,Array.getElem?_push,Array.getElem?_push]
 by_cases h:k = w.heap.size
 ·subst h;simp
 ·rw [if_neg (fun e => h e.symm),if_neg h,if_neg h]
theorem setCells_new (w:World) (t:TypeId):∀ (vs:List Value) (o:Nat) (cur:Array Value),o + vs.length ≤ cur.size →
  ∃ cur':Array Value,(w.alloc (.cells cur t)).setCells w.heap.size o vs = w.alloc (.cells cur' t)∧cur'.toList = cur.toList.take o ++ vs ++ cur.toList.drop (o + vs.length)
 | [],o,cur,_ => ⟨cur,rfl,by simp⟩
 | v :: r,o,cur,hl => by
  simp only [List.length_cons] at hl
  obtain ⟨c',e1,e3⟩:=setCells_new w t r (o + 1) (cur.setIfInBounds o v) (by simp;omega)
  refine ⟨c',?_,?_⟩
  ·show ((w.alloc (.cells cur t)).setCell ⟨w.heap.size,o,none⟩ v).setCells w.heap.size (o + 1) r = _
   rw [setCell_new,e1]
  rw [e3,Array.toList_setIfInBounds,List.drop_set_of_lt (by omega),List.take_set]
  have h1:(cur.toList.take (o + 1)).set o v = cur.toList.take o ++ [v]:=by
   rw [List.take_add_one,List.getElem?_eq_getElem (by simp;omega)]
   rw [List.set_append_right _ _ (by simp;omega)]
   have:o - (cur.toList.take o).length = 0:=by simp;omega
   rw [this]
   rfl
  rw [h1]
  simp [Nat.add_assoc,Nat.add_comm 1]
theorem setCells_all (w:World) (t:TypeId) (vs:List Value) (cur:Array Value) (h:vs.length = cur.size):(w.alloc (.cells cur t)).setCells w.heap.size 0 vs = w.alloc (.cells vs.toArray t):=by
 obtain ⟨c',e1,e2⟩:=setCells_new w t vs 0 cur (by omega)
 rw [e1]
 congr 2
 have:c'.toList = vs:=by rw [e2];simp;omega
 rw [← this]
section
variable {P:Program} {ops:Array Oper} {rest:List Oper} {a:Act} {w:World} {Q:Exit→Act→World→Prop}
theorem wpList_alloc_store {op1 op2:Oper} (g1:op1.guard = none) (g2:op2.guard = none) (ty:TypeId) (x y:Operand) (o1:op1.op = .alloc ty) (o2:op2.op = .store ty x y) (cells:List Value)
  (hz:∃ Z:Array Value,Z.size = cells.length∧∀ w,(zeroValue ty).run P w = .ok (.agg Z) w)
  (hx:(a.put op1.dst (.pointer (some ⟨w.heap.size,0,none⟩))).eval x = .pointer (some ⟨w.heap.size,0,none⟩)) (hy:(a.put op1.dst (.pointer (some ⟨w.heap.size,0,none⟩))).eval y = .agg cells.toArray)
  (hi:(P.info? ty).map (·.size) = some cells.length) (h1:∀ u ∈ cells,u.oneCell' = true)
  (h:wpList P ops Q rest ((a.put op1.dst (.pointer (some ⟨w.heap.size,0,none⟩))).put op2.dst undef) (w.alloc (.cells cells.toArray ty))):wpList P ops Q (op1 :: op2 :: rest) a w:=by
 obtain ⟨Z,hs,hz⟩:=hz
 refine wpList_plain g1 fun K hK => ?_
 unfold Oper.wp execOp
 have hr:(Instr.alloc ty true (.tuple #[])).run P w = .ok (.pointer (some ⟨w.heap.size,0,none⟩)) (w.alloc (.cells Z ty)):=by
  unfold Instr.alloc newVar newRow
  simp only [Sem.run_bind,hz,Result.andThen_ok,Value.cells,run_newObj_alloc,Sem.run_pure]
 simp only [o1,Sem.run_bind,hr,Result.andThen_ok,Sem.run_pure]
 refine hK _ _ ?_
 have hb:=Blk.new w ty Z
 refine wpList_store_mid g2 ty x y o2 w.heap.size 0 cells.toArray hx hy (fun j hj => ⟨by rw [Nat.zero_add,hb.cell j,Array.getElem?_eq_getElem (by simpa [hs] using hj)];rfl,hb.frozen _⟩) (by simpa using hi) (all_oneCell_toArray h1) ?_
 rw [List.toList_toArray,setCells_all w ty cells Z hs.symm]
 exact h
theorem wpList_build {op:Oper} (g:op.guard = none) (ty:TypeId) (parts:Array (Nat × Operand)) (ho:op.op = .build ty parts) (vals:Array (Nat × Value)) (v:Value) (hv:parts.map (fun (i,x) => (i,a.eval x)) = vals)
  (hb:(Instr.build ty vals).run P w = .ok v w) (h:wpList P ops Q rest (a.put op.dst v) w):wpList P ops Q (op :: rest) a w:=by
 refine wpList_plain g fun K hK => ?_
 unfold Oper.wp execOp
 simp only [ho,hv,Sem.run_bind,hb,Result.andThen_ok,Sem.run_pure]
 exact hK _ _ h
end
end Go.Proofs.YtddffnonlmfhdaaGreatDoor
