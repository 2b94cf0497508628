/- Matrices of bits: Put. (Written by mkAzE.py.); Matrices of bits: Join; Graphs: an edge that comes; Graphs: an edge that comes (the walk); Edges: cut to what this seat wants; Edges: cut to what this seat wants; Edges: cut to what this seat wants. -/
import Derived.Deep.Cut
import Derived.Test.YtddffnonlmfhdaaGreatDoorX08
import Derived.Test.YtddffnonlmfhdaaGreatDoorX05
import Derived.Test.YtddffnonlmfhdaaGreatDoorX04
set_option linter.unusedVariables false
set_option linter.unusedSimpArgs false
set_option maxHeartbeats 16000000
set_option maxRecDepth 100000
namespace Go.Proofs.YtddffnonlmfhdaaGreatDoor
open Go.RowKit
theorem eqin_blk (W:World) {r s:List Nat} (hr:Wd r) (hs:Wd s):(Op.equalIn 10000 168 (.agg (wdC r).toArray) (.agg (wdC s).toArray)).run Tryz.prog W = .ok (decide (r = s)) W:=by
 obtain ⟨i0,hi0⟩:=Option.isSome_iff_exists.1 info_u64
 show (Op.equalIn (9999 + 1) _ _ _).run _ _ = _
 rw [run_equalIn_array (P:=Tryz.prog) W 9999 _ _ Tryz.underlying168 hi0,cells_u64]
 rw [eqItems_wd W 9998 hr.len hs.len _ (fun i hi => List.mem_range.1 hi),all_eq hr.len hs.len]
def noPan2 (Q:Exit→Act→World→Prop):Exit→Act→World→Prop
 | .panic _,_,_ => False
 | e,a,w => Q e a w
theorem wp_noPan2 {P:Program} {c:Code} {Q:Exit→Act→World→Prop} {a:Act} {w:World} (h:c.wp P (noPan2 Q) a w):c.wp P Q a w:=fun b k cs => by
 obtain ⟨e,a',w',hq,ha⟩:=h b k cs
 refine ⟨e,a',w',?_,ha⟩
 cases e <;> first | exact hq | exact hq.elim
theorem corn_fit {x:List Nat} (hx:Wd x) {side:Nat} (h:∀ i j,bitW x i j = true→i < side∧j < side):cornW x side = x:=by
 conv => rhs;rw [wd_wf hx]
 unfold cornW
 apply wf_congr
 intro i hi
 have hb:∀ j,bitW x i j = (x.getD i 0).testBit j:=fun j => by unfold bitW;rw [List.getD_eq_getElem?_getD]
 by_cases hs:i < side
 ·rw [if_pos hs]
  apply Nat.eq_of_testBit_eq
  intro j
  rw [Nat.testBit_and,Nat.testBit_two_pow_sub_one]
  by_cases hj:(x.getD i 0).testBit j = true
  ·have:=(h i j (by rw [hb];exact hj)).2
   rw [hj,Bool.true_and]
   exact decide_eq_true this
  ·rw [eq_false_of_ne_true hj,Bool.false_and]
 ·rw [if_neg hs]
  apply Nat.eq_of_testBit_eq
  intro j
  by_cases hj:(x.getD i 0).testBit j = true
  ·exact absurd (h i j (by rw [hb];exact hj)).1 hs
  ·rw [Nat.zero_testBit];exact (eq_false_of_ne_true hj).symm
theorem qput_any (w:World) (F:Nat→Prop) (p side:Nat) (b:Option (List Nat)) (h:QuS w F p side b) (hs64:side ≤ 64) (x:List Nat) (hx:Wd x) (hfit:cornW x side = x) :
  Calls Tryz.prog 180 #[.pointer (some ⟨p,0,none⟩),.int .i64 0,.int .i64 0,wdV x] w (fun e w' => e = .returned (.tuple #[.bool (decide (0 < lenB (List.zipWith lessN x (oldW b)))),.int .i64 0])∧QTo w F p side (joinO b x) w'):=by
 have hs1:1 ≤ side:=by obtain ⟨O,dep,cnt,m,last,L,pv,lv,hq,ok,-⟩:=h;exact ok.s1
 have k0:=Blk.new w 168 (wdC x).toArray
 have u0:Below w.heap.size w (w.alloc (.cells (wdC x).toArray 168)):=(Below.refl _ _).alloc (Nat.le_refl _) _
 have hsz:=info_wd hx
 have hsz2:(Tryz.prog.info? 168).map (·.size) = some (wdC x).toArray.size:=by simpa using hsz
 have h1c:(wdC x).toArray.all (·.oneCell') = true:=all_oneCell_toArray (one_wd _)
 have H:=Lib.hid (And.intro (h.below u0) (And.intro k0 u0))
 have q0:(w.alloc (.cells (wdC x).toArray 168)).cell? ⟨p,0,none⟩ = some (.int .i64 (side:Int)):=by obtain ⟨O,dep,cnt,m,last,L,pv,lv,hq,ok,-⟩:=h.below u0;exact hq.blk.cell 0
 clear k0 u0 h
 unfold wdV
 go_enter Tryz.func180,Tryz.ntmps180
 go_upto_region 1 with (fail)
 generalize w.alloc (.cells (wdC x).toArray 168) = W1 at H q0 ⊢
 have his:=qis_any W1 p side hs1 q0
 have hhas:=qhas_any W1 p side hs1 (by omega) q0
 go_wp2_with fail
 refine his.mono ?_
 clear his
 rintro e V1 ⟨rfl,hw1⟩
 subst V1
 go_wp2_with fail
 refine hhas.mono ?_
 clear hhas
 rintro e V1 ⟨rfl,hw1⟩
 subst V1
 go_upto_region 5 with (fail)
 have hw0:IntKind.i64.wrap 0 = 0:=by decide
 have hws:IntKind.i64.wrap (side:Int) = (side:Int):=IntWalk.i64_in _ (by omega)
 have hmn:min (64:Int) (side:Int) = (side:Int):=by omega
 have SR:=Lib.hid (show ∀ V,Below W1.heap.size W1 V→(fun V => V.rangeAt w.heap.size 0 (wdC x)∧V.cell? ⟨p,0,none⟩ = some (.int .i64 (side:Int))) V from fun V hb => by
  have hu:=Upd.of_below hb (fun _ => False)
  obtain ⟨O,dep,cnt,m,last,L,pv,lv,hq,ok,-⟩:=H.out.1.below hb
  exact ⟨range_blk (H.out.2.1.upd hu id),hq.blk.cell 0⟩)
 clear q0
 go_cut [10,11] from 10 (fun s10 s11 wc => ∃ g10:Nat,s10 = .pointer (some ⟨g10,0,none⟩)∧s11 = .int .i64 0∧Hid (Below W1.heap.size W1 wc∧wc.rangeAt g10 0 (wdC x)))
 case first =>
  have hB0:=Lib.hid (show Below W1.heap.size W1 W1.drew from (Below.refl _ _).drew)
  have hS:=SR.out _ hB0.out
  refine wp_noPan2 ?_
  refine wp_region_any2 (fun V => V.rangeAt w.heap.size 0 (wdC x)∧V.cell? ⟨p,0,none⟩ = some (.int .i64 (side:Int))) (by kernel_rfl) (by kernel_rfl) hS ?_
  refine any_start (fun hd => ?_)
  generalize W1.drew = V0 at hB0 hS ⊢
  (refine any_load (i:=0) rfl (by kernel_rfl) hd (Nat.le_refl _) (fun _ _ d _ _ h => by cases d <;> exact h) hS (by first | with_reducible rfl | kernel_rfl) 168 _ rfl w.heap.size 0 rfl (wdC x) (.array 64 166) (fun _ h => h.1) Tryz.underlying168 rfl hsz ?_;clear hd;intro hd;(try simp only [Act.put,gA,gS,gZ,sA,sZ,sS]))
  (refine any_takeA (i:=1) rfl hd hS ?_;clear hd;intro hd;(try simp only [Act.put,gA,gS,gZ,sA,sZ,sS]))
  (refine any_takeA (i:=2) rfl hd hS ?_;clear hd;intro hd;(try simp only [Act.put,gA,gS,gZ,sA,sZ,sS]))
  (refine any_takeA (i:=3) rfl hd hS ?_;clear hd;intro hd;(try simp only [Act.put,gA,gS,gZ,sA,sZ,sS]))
  (refine any_takeA (i:=4) rfl hd hS ?_;clear hd;intro hd;(try simp only [Act.put,gA,gS,gZ,sA,sZ,sS]))
  (refine any_takeA (i:=5) rfl hd hS ?_;clear hd;intro hd;(try simp only [Act.put,gA,gS,gZ,sA,sZ,sS]))
  (refine any_takeA (i:=6) rfl hd hS ?_;clear hd;intro hd;(try simp only [Act.put,gA,gS,gZ,sA,sZ,sS]))
  (refine any_takeA (i:=7) rfl hd hS ?_;clear hd;intro hd;(try simp only [Act.put,gA,gS,gZ,sA,sZ,sS]))
  (refine any_takeA (i:=9) rfl hd hS ?_;clear hd;intro hd;(try simp only [Act.put,gA,gS,gZ,sA,sZ,sS]))
  (refine any_takeA (i:=10) rfl hd hS ?_;clear hd;intro hd;(try simp only [Act.put,gA,gS,gZ,sA,sZ,sS]))
  (refine any_takeA (i:=11) rfl hd hS ?_;clear hd;intro hd;(try simp only [Act.put,gA,gS,gZ,sA,sZ,sS]))
  (refine any_takeA (i:=12) rfl hd hS ?_;clear hd;intro hd;(try simp only [Act.put,gA,gS,gZ,sA,sZ,sS]))
  (refine any_takeA (i:=13) rfl hd hS ?_;clear hd;intro hd;(try simp only [Act.put,gA,gS,gZ,sA,sZ,sS]))
  (refine any_takeA (i:=14) rfl hd hS ?_;clear hd;intro hd;(try simp only [Act.put,gA,gS,gZ,sA,sZ,sS]))
  (refine any_takeA (i:=15) rfl hd hS ?_;clear hd;intro hd;(try simp only [Act.put,gA,gS,gZ,sA,sZ,sS]))
  refine any_run hd (L:=[8,16,21]) (by kernel_rfl) (by decide) (fun i hi hd2 => ?_)
  clear hd
  have hd:=hd2
  clear hd2
  simp only [List.mem_cons,List.not_mem_nil,or_false] at hi
  rcases hi with rfl | rfl | rfl
  ·refine any_do rfl rfl (fun K hK => ?_)
   go_simp
   refine hK _ _ hS ?_
   clear hK K
   (try simp only [Act.put,gA,gS,gZ,sA,sZ,sS])
   refine any_run hd (L:=[16,21]) (by kernel_rfl) (by decide) (fun i hi hd2 => ?_)
   clear hd
   have hd:=hd2
   clear hd2
   simp only [List.mem_cons,List.not_mem_nil,or_false] at hi
   rcases hi with rfl | rfl
   ·refine any_do rfl rfl (fun K hK => ?_)
    go_simp
    refine hK _ _ hS ?_
    clear hK K
    (try simp only [Act.put,gA,gS,gZ,sA,sZ,sS])
    refine any_run hd (L:=[17,21]) (by kernel_rfl) (by decide) (fun i hi hd2 => ?_)
    clear hd
    have hd:=hd2
    clear hd2
    simp only [List.mem_cons,List.not_mem_nil,or_false] at hi
    rcases hi with rfl | rfl
    ·refine any_do rfl rfl (fun K hK => ?_)
     go_simp
     refine (bcorner_any V0 x hx side hs64).mono ?_
     rintro e V1 ⟨rfl,b5⟩
     rw [hfit]
     have hB1:=Lib.hid (hB0.out.trans (b5.mono hB0.out.size))
     have hS1:=SR.out _ hB1.out
     refine hK _ _ hS1 ?_
     clear hK K b5
     (try simp only [Act.put,gA,gS,gZ,sA,sZ,sS])
     have hS:=hS1
     (refine any_takeA (i:=18) rfl hd hS ?_;clear hd;intro hd;(try simp only [Act.put,gA,gS,gZ,sA,sZ,sS]))
     (refine any_takeA (i:=19) rfl hd hS ?_;clear hd;intro hd;(try simp only [Act.put,gA,gS,gZ,sA,sZ,sS]))
     (refine any_takeA (i:=20) rfl hd hS ?_;clear hd;intro hd;(try simp only [Act.put,gA,gS,gZ,sA,sZ,sS]))
     refine any_run hd (L:=[21]) (by kernel_rfl) (by decide) (fun i hi hd2 => ?_)
     clear hd
     have hd:=hd2
     clear hd2
     obtain rfl:=List.mem_singleton.1 hi
     clear hi
     refine any_do rfl rfl (fun K hK => ?_)
     go_simp
     have hB2:=Lib.hid (show Below W1.heap.size W1 (V1.alloc (.cells #[Value.int .u64 0,.int .u64 0,.int .u64 0,.int .u64 0,.int .u64 0,.int .u64 0,.int .u64 0,.int .u64 0,.int .u64 0,.int .u64 0,.int .u64 0,.int .u64 0,.int .u64 0,.int .u64 0,.int .u64 0,.int .u64 0,.int .u64 0,.int .u64 0,.int .u64 0,.int .u64 0,.int .u64 0,.int .u64 0,.int .u64 0,.int .u64 0,.int .u64 0,.int .u64 0,.int .u64 0,.int .u64 0,.int .u64 0,.int .u64 0,.int .u64 0,.int .u64 0,.int .u64 0,.int .u64 0,.int .u64 0,.int .u64 0,.int .u64 0,.int .u64 0,.int .u64 0,.int .u64 0,.int .u64 0,.int .u64 0,.int .u64 0,.int .u64 0,.int .u64 0,.int .u64 0,.int .u64 0,.int .u64 0,.int .u64 0,.int .u64 0,.int .u64 0,.int .u64 0,.int .u64 0,.int .u64 0,.int .u64 0,.int .u64 0,.int .u64 0,.int .u64 0,.int .u64 0,.int .u64 0,.int .u64 0,.int .u64 0,.int .u64 0,.int .u64 0] 168)) from hB1.out.alloc hB1.out.size _)
     have hG2:=Lib.hid (And.intro (Blk.new V1 168 #[Value.int .u64 0,.int .u64 0,.int .u64 0,.int .u64 0,.int .u64 0,.int .u64 0,.int .u64 0,.int .u64 0,.int .u64 0,.int .u64 0,.int .u64 0,.int .u64 0,.int .u64 0,.int .u64 0,.int .u64 0,.int .u64 0,.int .u64 0,.int .u64 0,.int .u64 0,.int .u64 0,.int .u64 0,.int .u64 0,.int .u64 0,.int .u64 0,.int .u64 0,.int .u64 0,.int .u64 0,.int .u64 0,.int .u64 0,.int .u64 0,.int .u64 0,.int .u64 0,.int .u64 0,.int .u64 0,.int .u64 0,.int .u64 0,.int .u64 0,.int .u64 0,.int .u64 0,.int .u64 0,.int .u64 0,.int .u64 0,.int .u64 0,.int .u64 0,.int .u64 0,.int .u64 0,.int .u64 0,.int .u64 0,.int .u64 0,.int .u64 0,.int .u64 0,.int .u64 0,.int .u64 0,.int .u64 0,.int .u64 0,.int .u64 0,.int .u64 0,.int .u64 0,.int .u64 0,.int .u64 0,.int .u64 0,.int .u64 0,.int .u64 0,.int .u64 0]) hB1.out.size)
     have hS2:=SR.out _ hB2.out
     refine hK _ _ hS2 ?_
     clear hK K
     (try simp only [Act.put,gA,gS,gZ,sA,sZ,sS])
     generalize hgg:V1.heap.size = g10 at hG2
     generalize V1.alloc (.cells #[Value.int .u64 0,.int .u64 0,.int .u64 0,.int .u64 0,.int .u64 0,.int .u64 0,.int .u64 0,.int .u64 0,.int .u64 0,.int .u64 0,.int .u64 0,.int .u64 0,.int .u64 0,.int .u64 0,.int .u64 0,.int .u64 0,.int .u64 0,.int .u64 0,.int .u64 0,.int .u64 0,.int .u64 0,.int .u64 0,.int .u64 0,.int .u64 0,.int .u64 0,.int .u64 0,.int .u64 0,.int .u64 0,.int .u64 0,.int .u64 0,.int .u64 0,.int .u64 0,.int .u64 0,.int .u64 0,.int .u64 0,.int .u64 0,.int .u64 0,.int .u64 0,.int .u64 0,.int .u64 0,.int .u64 0,.int .u64 0,.int .u64 0,.int .u64 0,.int .u64 0,.int .u64 0,.int .u64 0,.int .u64 0,.int .u64 0,.int .u64 0,.int .u64 0,.int .u64 0,.int .u64 0,.int .u64 0,.int .u64 0,.int .u64 0,.int .u64 0,.int .u64 0,.int .u64 0,.int .u64 0,.int .u64 0,.int .u64 0,.int .u64 0,.int .u64 0] 168) = V2 at hB2 hG2 hS2 ⊢
     (try simp only [hgg])
     have kz:=zero64_blk.mp (hG2.out).1
     have hth:V2.there g10 0 (wdC x).toArray.size:=by have:=there_blk2 kz;simpa [wdC_len,zero64_len,hx.len] using this
     have zg:=(hG2.out).2
     have us:=Upd.setCells (F:=fun q => q = g10) (b:=g10) (.inl rfl) (wdC x) 0 (Upd.refl _ V2)
     have bF:=hB2.out.trans (us.below (fun q _ e => by omega) hB2.out.size)
     have HE:=Lib.hid (And.intro bF (World.rangeAt_setCells_same V2 g10 0 (wdC x) (by simpa using hth)))
     clear kz us bF zg
     refine any_run hd (L:=[22]) (by kernel_rfl) (by decide) (fun i hi hd2 => ?_)
     clear hd
     have hd:=hd2
     clear hd2
     obtain rfl:=List.mem_singleton.1 hi
     clear hi
     refine any_do rfl rfl (fun K hK => ?_)
     refine wp_store_mid 168 _ _ rfl g10 0 (wdC x).toArray rfl rfl hth hsz2 h1c ?_
     have hS:=SR.out _ HE.out.1
     refine hK _ _ hS ?_
     clear hK K hth
     (try simp only [Act.put,gA,gS,gZ,sA,sZ,sS])
     (refine any_takeA (i:=23) rfl hd hS ?_;clear hd;intro hd;(try simp only [Act.put,gA,gS,gZ,sA,sZ,sS]))
     refine any_done (by kernel_rfl) ?_
     clear hd hS
     dsimp only [noPan2]
     go_wp2
     go_meet
     case rel => exact ⟨_,rfl,rfl,HE⟩
    ·refine any_do rfl rfl (fun K hK => ?_)
     go_simp
     have hB3:=Lib.hid (show Below W1.heap.size W1 (V0.alloc (.cells #[Value.int .u64 0,.int .u64 0,.int .u64 0,.int .u64 0,.int .u64 0,.int .u64 0,.int .u64 0,.int .u64 0,.int .u64 0,.int .u64 0,.int .u64 0,.int .u64 0,.int .u64 0,.int .u64 0,.int .u64 0,.int .u64 0,.int .u64 0,.int .u64 0,.int .u64 0,.int .u64 0,.int .u64 0,.int .u64 0,.int .u64 0,.int .u64 0,.int .u64 0,.int .u64 0,.int .u64 0,.int .u64 0,.int .u64 0,.int .u64 0,.int .u64 0,.int .u64 0,.int .u64 0,.int .u64 0,.int .u64 0,.int .u64 0,.int .u64 0,.int .u64 0,.int .u64 0,.int .u64 0,.int .u64 0,.int .u64 0,.int .u64 0,.int .u64 0,.int .u64 0,.int .u64 0,.int .u64 0,.int .u64 0,.int .u64 0,.int .u64 0,.int .u64 0,.int .u64 0,.int .u64 0,.int .u64 0,.int .u64 0,.int .u64 0,.int .u64 0,.int .u64 0,.int .u64 0,.int .u64 0,.int .u64 0,.int .u64 0,.int .u64 0,.int .u64 0] 168)) from hB0.out.alloc hB0.out.size _)
     have hG3:=Lib.hid (And.intro (Blk.new V0 168 #[Value.int .u64 0,.int .u64 0,.int .u64 0,.int .u64 0,.int .u64 0,.int .u64 0,.int .u64 0,.int .u64 0,.int .u64 0,.int .u64 0,.int .u64 0,.int .u64 0,.int .u64 0,.int .u64 0,.int .u64 0,.int .u64 0,.int .u64 0,.int .u64 0,.int .u64 0,.int .u64 0,.int .u64 0,.int .u64 0,.int .u64 0,.int .u64 0,.int .u64 0,.int .u64 0,.int .u64 0,.int .u64 0,.int .u64 0,.int .u64 0,.int .u64 0,.int .u64 0,.int .u64 0,.int .u64 0,.int .u64 0,.int .u64 0,.int .u64 0,.int .u64 0,.int .u64 0,.int .u64 0,.int .u64 0,.int .u64 0,.int .u64 0,.int .u64 0,.int .u64 0,.int .u64 0,.int .u64 0,.int .u64 0,.int .u64 0,.int .u64 0,.int .u64 0,.int .u64 0,.int .u64 0,.int .u64 0,.int .u64 0,.int .u64 0,.int .u64 0,.int .u64 0,.int .u64 0,.int .u64 0,.int .u64 0,.int .u64 0,.int .u64 0,.int .u64 0]) hB0.out.size)
     have hS3:=SR.out _ hB3.out
     refine hK _ _ hS3 ?_
     clear hK K
     (try simp only [Act.put,gA,gS,gZ,sA,sZ,sS])
     generalize hgg:V0.heap.size = g10 at hG3
     generalize V0.alloc (.cells #[Value.int .u64 0,.int .u64 0,.int .u64 0,.int .u64 0,.int .u64 0,.int .u64 0,.int .u64 0,.int .u64 0,.int .u64 0,.int .u64 0,.int .u64 0,.int .u64 0,.int .u64 0,.int .u64 0,.int .u64 0,.int .u64 0,.int .u64 0,.int .u64 0,.int .u64 0,.int .u64 0,.int .u64 0,.int .u64 0,.int .u64 0,.int .u64 0,.int .u64 0,.int .u64 0,.int .u64 0,.int .u64 0,.int .u64 0,.int .u64 0,.int .u64 0,.int .u64 0,.int .u64 0,.int .u64 0,.int .u64 0,.int .u64 0,.int .u64 0,.int .u64 0,.int .u64 0,.int .u64 0,.int .u64 0,.int .u64 0,.int .u64 0,.int .u64 0,.int .u64 0,.int .u64 0,.int .u64 0,.int .u64 0,.int .u64 0,.int .u64 0,.int .u64 0,.int .u64 0,.int .u64 0,.int .u64 0,.int .u64 0,.int .u64 0,.int .u64 0,.int .u64 0,.int .u64 0,.int .u64 0,.int .u64 0,.int .u64 0,.int .u64 0,.int .u64 0] 168) = V3 at hB3 hG3 hS3 ⊢
     (try simp only [hgg])
     refine any_run hd (L:=[17]) (by kernel_rfl) (by decide) (fun i hi hd2 => ?_)
     clear hd
     have hd:=hd2
     clear hd2
     obtain rfl:=List.mem_singleton.1 hi
     clear hi
     refine any_do rfl rfl (fun K hK => ?_)
     go_simp
     refine (bcorner_any V3 x hx side hs64).mono ?_
     rintro e V4 ⟨rfl,b5⟩
     rw [hfit]
     have hB4:=Lib.hid (hB3.out.trans (b5.mono hB3.out.size))
     have hS4:=SR.out _ hB4.out
     have hG4:=Lib.hid (And.intro ((hG3.out).1.upd (Upd.of_below b5 (fun _ => False)) id) (hG3.out).2)
     refine hK _ _ hS4 ?_
     clear hK K b5
     (try simp only [Act.put,gA,gS,gZ,sA,sZ,sS])
     have hS:=hS4
     (refine any_takeA (i:=18) rfl hd hS ?_;clear hd;intro hd;(try simp only [Act.put,gA,gS,gZ,sA,sZ,sS]))
     (refine any_takeA (i:=19) rfl hd hS ?_;clear hd;intro hd;(try simp only [Act.put,gA,gS,gZ,sA,sZ,sS]))
     (refine any_takeA (i:=20) rfl hd hS ?_;clear hd;intro hd;(try simp only [Act.put,gA,gS,gZ,sA,sZ,sS]))
     have kz:=zero64_blk.mp (hG4.out).1
     have hth:V4.there g10 0 (wdC x).toArray.size:=by have:=there_blk2 kz;simpa [wdC_len,zero64_len,hx.len] using this
     have zg:=(hG4.out).2
     have us:=Upd.setCells (F:=fun q => q = g10) (b:=g10) (.inl rfl) (wdC x) 0 (Upd.refl _ V4)
     have bF:=hB4.out.trans (us.below (fun q _ e => by omega) hB4.out.size)
     have HE:=Lib.hid (And.intro bF (World.rangeAt_setCells_same V4 g10 0 (wdC x) (by simpa using hth)))
     clear kz us bF zg
     refine any_run hd (L:=[22]) (by kernel_rfl) (by decide) (fun i hi hd2 => ?_)
     clear hd
     have hd:=hd2
     clear hd2
     obtain rfl:=List.mem_singleton.1 hi
     clear hi
     refine any_do rfl rfl (fun K hK => ?_)
     refine wp_store_mid 168 _ _ rfl g10 0 (wdC x).toArray rfl rfl hth hsz2 h1c ?_
     have hS:=SR.out _ HE.out.1
     refine hK _ _ hS ?_
     clear hK K hth
     (try simp only [Act.put,gA,gS,gZ,sA,sZ,sS])
     (refine any_takeA (i:=23) rfl hd hS ?_;clear hd;intro hd;(try simp only [Act.put,gA,gS,gZ,sA,sZ,sS]))
     refine any_done (by kernel_rfl) ?_
     clear hd hS
     dsimp only [noPan2]
     go_wp2
     go_meet
     case rel => exact ⟨_,rfl,rfl,HE⟩
   ·refine any_do rfl rfl (fun K hK => ?_)
    go_simp
    have hB5:=Lib.hid (show Below W1.heap.size W1 (V0.alloc (.cells #[Value.int .u64 0,.int .u64 0,.int .u64 0,.int .u64 0,.int .u64 0,.int .u64 0,.int .u64 0,.int .u64 0,.int .u64 0,.int .u64 0,.int .u64 0,.int .u64 0,.int .u64 0,.int .u64 0,.int .u64 0,.int .u64 0,.int .u64 0,.int .u64 0,.int .u64 0,.int .u64 0,.int .u64 0,.int .u64 0,.int .u64 0,.int .u64 0,.int .u64 0,.int .u64 0,.int .u64 0,.int .u64 0,.int .u64 0,.int .u64 0,.int .u64 0,.int .u64 0,.int .u64 0,.int .u64 0,.int .u64 0,.int .u64 0,.int .u64 0,.int .u64 0,.int .u64 0,.int .u64 0,.int .u64 0,.int .u64 0,.int .u64 0,.int .u64 0,.int .u64 0,.int .u64 0,.int .u64 0,.int .u64 0,.int .u64 0,.int .u64 0,.int .u64 0,.int .u64 0,.int .u64 0,.int .u64 0,.int .u64 0,.int .u64 0,.int .u64 0,.int .u64 0,.int .u64 0,.int .u64 0,.int .u64 0,.int .u64 0,.int .u64 0,.int .u64 0] 168)) from hB0.out.alloc hB0.out.size _)
    have hG5:=Lib.hid (And.intro (Blk.new V0 168 #[Value.int .u64 0,.int .u64 0,.int .u64 0,.int .u64 0,.int .u64 0,.int .u64 0,.int .u64 0,.int .u64 0,.int .u64 0,.int .u64 0,.int .u64 0,.int .u64 0,.int .u64 0,.int .u64 0,.int .u64 0,.int .u64 0,.int .u64 0,.int .u64 0,.int .u64 0,.int .u64 0,.int .u64 0,.int .u64 0,.int .u64 0,.int .u64 0,.int .u64 0,.int .u64 0,.int .u64 0,.int .u64 0,.int .u64 0,.int .u64 0,.int .u64 0,.int .u64 0,.int .u64 0,.int .u64 0,.int .u64 0,.int .u64 0,.int .u64 0,.int .u64 0,.int .u64 0,.int .u64 0,.int .u64 0,.int .u64 0,.int .u64 0,.int .u64 0,.int .u64 0,.int .u64 0,.int .u64 0,.int .u64 0,.int .u64 0,.int .u64 0,.int .u64 0,.int .u64 0,.int .u64 0,.int .u64 0,.int .u64 0,.int .u64 0,.int .u64 0,.int .u64 0,.int .u64 0,.int .u64 0,.int .u64 0,.int .u64 0,.int .u64 0,.int .u64 0]) hB0.out.size)
    have hS5:=SR.out _ hB5.out
    refine hK _ _ hS5 ?_
    clear hK K
    (try simp only [Act.put,gA,gS,gZ,sA,sZ,sS])
    generalize hgg:V0.heap.size = g10 at hG5
    generalize V0.alloc (.cells #[Value.int .u64 0,.int .u64 0,.int .u64 0,.int .u64 0,.int .u64 0,.int .u64 0,.int .u64 0,.int .u64 0,.int .u64 0,.int .u64 0,.int .u64 0,.int .u64 0,.int .u64 0,.int .u64 0,.int .u64 0,.int .u64 0,.int .u64 0,.int .u64 0,.int .u64 0,.int .u64 0,.int .u64 0,.int .u64 0,.int .u64 0,.int .u64 0,.int .u64 0,.int .u64 0,.int .u64 0,.int .u64 0,.int .u64 0,.int .u64 0,.int .u64 0,.int .u64 0,.int .u64 0,.int .u64 0,.int .u64 0,.int .u64 0,.int .u64 0,.int .u64 0,.int .u64 0,.int .u64 0,.int .u64 0,.int .u64 0,.int .u64 0,.int .u64 0,.int .u64 0,.int .u64 0,.int .u64 0,.int .u64 0,.int .u64 0,.int .u64 0,.int .u64 0,.int .u64 0,.int .u64 0,.int .u64 0,.int .u64 0,.int .u64 0,.int .u64 0,.int .u64 0,.int .u64 0,.int .u64 0,.int .u64 0,.int .u64 0,.int .u64 0,.int .u64 0] 168) = V5 at hB5 hG5 hS5 ⊢
    (try simp only [hgg])
    refine any_run hd (L:=[16]) (by kernel_rfl) (by decide) (fun i hi hd2 => ?_)
    clear hd
    have hd:=hd2
    clear hd2
    obtain rfl:=List.mem_singleton.1 hi
    clear hi
    refine any_do rfl rfl (fun K hK => ?_)
    go_simp
    refine hK _ _ hS5 ?_
    clear hK K
    (try simp only [Act.put,gA,gS,gZ,sA,sZ,sS])
    refine any_run hd (L:=[17]) (by kernel_rfl) (by decide) (fun i hi hd2 => ?_)
    clear hd
    have hd:=hd2
    clear hd2
    obtain rfl:=List.mem_singleton.1 hi
    clear hi
    refine any_do rfl rfl (fun K hK => ?_)
    go_simp
    refine (bcorner_any V5 x hx side hs64).mono ?_
    rintro e V6 ⟨rfl,b5⟩
    rw [hfit]
    have hB6:=Lib.hid (hB5.out.trans (b5.mono hB5.out.size))
    have hS6:=SR.out _ hB6.out
    have hG6:=Lib.hid (And.intro ((hG5.out).1.upd (Upd.of_below b5 (fun _ => False)) id) (hG5.out).2)
    refine hK _ _ hS6 ?_
    clear hK K b5
    (try simp only [Act.put,gA,gS,gZ,sA,sZ,sS])
    have hS:=hS6
    (refine any_takeA (i:=18) rfl hd hS ?_;clear hd;intro hd;(try simp only [Act.put,gA,gS,gZ,sA,sZ,sS]))
    (refine any_takeA (i:=19) rfl hd hS ?_;clear hd;intro hd;(try simp only [Act.put,gA,gS,gZ,sA,sZ,sS]))
    (refine any_takeA (i:=20) rfl hd hS ?_;clear hd;intro hd;(try simp only [Act.put,gA,gS,gZ,sA,sZ,sS]))
    have kz:=zero64_blk.mp (hG6.out).1
    have hth:V6.there g10 0 (wdC x).toArray.size:=by have:=there_blk2 kz;simpa [wdC_len,zero64_len,hx.len] using this
    have zg:=(hG6.out).2
    have us:=Upd.setCells (F:=fun q => q = g10) (b:=g10) (.inl rfl) (wdC x) 0 (Upd.refl _ V6)
    have bF:=hB6.out.trans (us.below (fun q _ e => by omega) hB6.out.size)
    have HE:=Lib.hid (And.intro bF (World.rangeAt_setCells_same V6 g10 0 (wdC x) (by simpa using hth)))
    clear kz us bF zg
    refine any_run hd (L:=[22]) (by kernel_rfl) (by decide) (fun i hi hd2 => ?_)
    clear hd
    have hd:=hd2
    clear hd2
    obtain rfl:=List.mem_singleton.1 hi
    clear hi
    refine any_do rfl rfl (fun K hK => ?_)
    refine wp_store_mid 168 _ _ rfl g10 0 (wdC x).toArray rfl rfl hth hsz2 h1c ?_
    have hS:=SR.out _ HE.out.1
    refine hK _ _ hS ?_
    clear hK K hth
    (try simp only [Act.put,gA,gS,gZ,sA,sZ,sS])
    (refine any_takeA (i:=23) rfl hd hS ?_;clear hd;intro hd;(try simp only [Act.put,gA,gS,gZ,sA,sZ,sS]))
    refine any_done (by kernel_rfl) ?_
    clear hd hS
    dsimp only [noPan2]
    go_wp2
    go_meet
    case rel => exact ⟨_,rfl,rfl,HE⟩
  ·refine any_do rfl rfl (fun K hK => ?_)
   go_simp
   refine hK _ _ hS ?_
   clear hK K
   (try simp only [Act.put,gA,gS,gZ,sA,sZ,sS])
   refine any_run hd (L:=[8,21]) (by kernel_rfl) (by decide) (fun i hi hd2 => ?_)
   clear hd
   have hd:=hd2
   clear hd2
   simp only [List.mem_cons,List.not_mem_nil,or_false] at hi
   rcases hi with rfl | rfl
   ·refine any_do rfl rfl (fun K hK => ?_)
    go_simp
    refine hK _ _ hS ?_
    clear hK K
    (try simp only [Act.put,gA,gS,gZ,sA,sZ,sS])
    refine any_run hd (L:=[17,21]) (by kernel_rfl) (by decide) (fun i hi hd2 => ?_)
    clear hd
    have hd:=hd2
    clear hd2
    simp only [List.mem_cons,List.not_mem_nil,or_false] at hi
    rcases hi with rfl | rfl
    ·refine any_do rfl rfl (fun K hK => ?_)
     go_simp
     refine (bcorner_any V0 x hx side hs64).mono ?_
     rintro e V7 ⟨rfl,b5⟩
     rw [hfit]
     have hB7:=Lib.hid (hB0.out.trans (b5.mono hB0.out.size))
     have hS7:=SR.out _ hB7.out
     refine hK _ _ hS7 ?_
     clear hK K b5
     (try simp only [Act.put,gA,gS,gZ,sA,sZ,sS])
     have hS:=hS7
     (refine any_takeA (i:=18) rfl hd hS ?_;clear hd;intro hd;(try simp only [Act.put,gA,gS,gZ,sA,sZ,sS]))
     (refine any_takeA (i:=19) rfl hd hS ?_;clear hd;intro hd;(try simp only [Act.put,gA,gS,gZ,sA,sZ,sS]))
     (refine any_takeA (i:=20) rfl hd hS ?_;clear hd;intro hd;(try simp only [Act.put,gA,gS,gZ,sA,sZ,sS]))
     refine any_run hd (L:=[21]) (by kernel_rfl) (by decide) (fun i hi hd2 => ?_)
     clear hd
     have hd:=hd2
     clear hd2
     obtain rfl:=List.mem_singleton.1 hi
     clear hi
     refine any_do rfl rfl (fun K hK => ?_)
     go_simp
     have hB8:=Lib.hid (show Below W1.heap.size W1 (V7.alloc (.cells #[Value.int .u64 0,.int .u64 0,.int .u64 0,.int .u64 0,.int .u64 0,.int .u64 0,.int .u64 0,.int .u64 0,.int .u64 0,.int .u64 0,.int .u64 0,.int .u64 0,.int .u64 0,.int .u64 0,.int .u64 0,.int .u64 0,.int .u64 0,.int .u64 0,.int .u64 0,.int .u64 0,.int .u64 0,.int .u64 0,.int .u64 0,.int .u64 0,.int .u64 0,.int .u64 0,.int .u64 0,.int .u64 0,.int .u64 0,.int .u64 0,.int .u64 0,.int .u64 0,.int .u64 0,.int .u64 0,.int .u64 0,.int .u64 0,.int .u64 0,.int .u64 0,.int .u64 0,.int .u64 0,.int .u64 0,.int .u64 0,.int .u64 0,.int .u64 0,.int .u64 0,.int .u64 0,.int .u64 0,.int .u64 0,.int .u64 0,.int .u64 0,.int .u64 0,.int .u64 0,.int .u64 0,.int .u64 0,.int .u64 0,.int .u64 0,.int .u64 0,.int .u64 0,.int .u64 0,.int .u64 0,.int .u64 0,.int .u64 0,.int .u64 0,.int .u64 0] 168)) from hB7.out.alloc hB7.out.size _)
     have hG8:=Lib.hid (And.intro (Blk.new V7 168 #[Value.int .u64 0,.int .u64 0,.int .u64 0,.int .u64 0,.int .u64 0,.int .u64 0,.int .u64 0,.int .u64 0,.int .u64 0,.int .u64 0,.int .u64 0,.int .u64 0,.int .u64 0,.int .u64 0,.int .u64 0,.int .u64 0,.int .u64 0,.int .u64 0,.int .u64 0,.int .u64 0,.int .u64 0,.int .u64 0,.int .u64 0,.int .u64 0,.int .u64 0,.int .u64 0,.int .u64 0,.int .u64 0,.int .u64 0,.int .u64 0,.int .u64 0,.int .u64 0,.int .u64 0,.int .u64 0,.int .u64 0,.int .u64 0,.int .u64 0,.int .u64 0,.int .u64 0,.int .u64 0,.int .u64 0,.int .u64 0,.int .u64 0,.int .u64 0,.int .u64 0,.int .u64 0,.int .u64 0,.int .u64 0,.int .u64 0,.int .u64 0,.int .u64 0,.int .u64 0,.int .u64 0,.int .u64 0,.int .u64 0,.int .u64 0,.int .u64 0,.int .u64 0,.int .u64 0,.int .u64 0,.int .u64 0,.int .u64 0,.int .u64 0,.int .u64 0]) hB7.out.size)
     have hS8:=SR.out _ hB8.out
     refine hK _ _ hS8 ?_
     clear hK K
     (try simp only [Act.put,gA,gS,gZ,sA,sZ,sS])
     generalize hgg:V7.heap.size = g10 at hG8
     generalize V7.alloc (.cells #[Value.int .u64 0,.int .u64 0,.int .u64 0,.int .u64 0,.int .u64 0,.int .u64 0,.int .u64 0,.int .u64 0,.int .u64 0,.int .u64 0,.int .u64 0,.int .u64 0,.int .u64 0,.int .u64 0,.int .u64 0,.int .u64 0,.int .u64 0,.int .u64 0,.int .u64 0,.int .u64 0,.int .u64 0,.int .u64 0,.int .u64 0,.int .u64 0,.int .u64 0,.int .u64 0,.int .u64 0,.int .u64 0,.int .u64 0,.int .u64 0,.int .u64 0,.int .u64 0,.int .u64 0,.int .u64 0,.int .u64 0,.int .u64 0,.int .u64 0,.int .u64 0,.int .u64 0,.int .u64 0,.int .u64 0,.int .u64 0,.int .u64 0,.int .u64 0,.int .u64 0,.int .u64 0,.int .u64 0,.int .u64 0,.int .u64 0,.int .u64 0,.int .u64 0,.int .u64 0,.int .u64 0,.int .u64 0,.int .u64 0,.int .u64 0,.int .u64 0,.int .u64 0,.int .u64 0,.int .u64 0,.int .u64 0,.int .u64 0,.int .u64 0,.int .u64 0] 168) = V8 at hB8 hG8 hS8 ⊢
     (try simp only [hgg])
     have kz:=zero64_blk.mp (hG8.out).1
     have hth:V8.there g10 0 (wdC x).toArray.size:=by have:=there_blk2 kz;simpa [wdC_len,zero64_len,hx.len] using this
     have zg:=(hG8.out).2
     have us:=Upd.setCells (F:=fun q => q = g10) (b:=g10) (.inl rfl) (wdC x) 0 (Upd.refl _ V8)
     have bF:=hB8.out.trans (us.below (fun q _ e => by omega) hB8.out.size)
     have HE:=Lib.hid (And.intro bF (World.rangeAt_setCells_same V8 g10 0 (wdC x) (by simpa using hth)))
     clear kz us bF zg
     refine any_run hd (L:=[22]) (by kernel_rfl) (by decide) (fun i hi hd2 => ?_)
     clear hd
     have hd:=hd2
     clear hd2
     obtain rfl:=List.mem_singleton.1 hi
     clear hi
     refine any_do rfl rfl (fun K hK => ?_)
     refine wp_store_mid 168 _ _ rfl g10 0 (wdC x).toArray rfl rfl hth hsz2 h1c ?_
     have hS:=SR.out _ HE.out.1
     refine hK _ _ hS ?_
     clear hK K hth
     (try simp only [Act.put,gA,gS,gZ,sA,sZ,sS])
     (refine any_takeA (i:=23) rfl hd hS ?_;clear hd;intro hd;(try simp only [Act.put,gA,gS,gZ,sA,sZ,sS]))
     refine any_done (by kernel_rfl) ?_
     clear hd hS
     dsimp only [noPan2]
     go_wp2
     go_meet
     case rel => exact ⟨_,rfl,rfl,HE⟩
    ·refine any_do rfl rfl (fun K hK => ?_)
     go_simp
     have hB9:=Lib.hid (show Below W1.heap.size W1 (V0.alloc (.cells #[Value.int .u64 0,.int .u64 0,.int .u64 0,.int .u64 0,.int .u64 0,.int .u64 0,.int .u64 0,.int .u64 0,.int .u64 0,.int .u64 0,.int .u64 0,.int .u64 0,.int .u64 0,.int .u64 0,.int .u64 0,.int .u64 0,.int .u64 0,.int .u64 0,.int .u64 0,.int .u64 0,.int .u64 0,.int .u64 0,.int .u64 0,.int .u64 0,.int .u64 0,.int .u64 0,.int .u64 0,.int .u64 0,.int .u64 0,.int .u64 0,.int .u64 0,.int .u64 0,.int .u64 0,.int .u64 0,.int .u64 0,.int .u64 0,.int .u64 0,.int .u64 0,.int .u64 0,.int .u64 0,.int .u64 0,.int .u64 0,.int .u64 0,.int .u64 0,.int .u64 0,.int .u64 0,.int .u64 0,.int .u64 0,.int .u64 0,.int .u64 0,.int .u64 0,.int .u64 0,.int .u64 0,.int .u64 0,.int .u64 0,.int .u64 0,.int .u64 0,.int .u64 0,.int .u64 0,.int .u64 0,.int .u64 0,.int .u64 0,.int .u64 0,.int .u64 0] 168)) from hB0.out.alloc hB0.out.size _)
     have hG9:=Lib.hid (And.intro (Blk.new V0 168 #[Value.int .u64 0,.int .u64 0,.int .u64 0,.int .u64 0,.int .u64 0,.int .u64 0,.int .u64 0,.int .u64 0,.int .u64 0,.int .u64 0,.int .u64 0,.int .u64 0,.int .u64 0,.int .u64 0,.int .u64 0,.int .u64 0,.int .u64 0,.int .u64 0,.int .u64 0,.int .u64 0,.int .u64 0,.int .u64 0,.int .u64 0,.int .u64 0,.int .u64 0,.int .u64 0,.int .u64 0,.int .u64 0,.int .u64 0,.int .u64 0,.int .u64 0,.int .u64 0,.int .u64 0,.int .u64 0,.int .u64 0,.int .u64 0,.int .u64 0,.int .u64 0,.int .u64 0,.int .u64 0,.int .u64 0,.int .u64 0,.int .u64 0,.int .u64 0,.int .u64 0,.int .u64 0,.int .u64 0,.int .u64 0,.int .u64 0,.int .u64 0,.int .u64 0,.int .u64 0,.int .u64 0,.int .u64 0,.int .u64 0,.int .u64 0,.int .u64 0,.int .u64 0,.int .u64 0,.int .u64 0,.int .u64 0,.int .u64 0,.int .u64 0,.int .u64 0]) hB0.out.size)
     have hS9:=SR.out _ hB9.out
     refine hK _ _ hS9 ?_
     clear hK K
     (try simp only [Act.put,gA,gS,gZ,sA,sZ,sS])
     generalize hgg:V0.heap.size = g10 at hG9
     generalize V0.alloc (.cells #[Value.int .u64 0,.int .u64 0,.int .u64 0,.int .u64 0,.int .u64 0,.int .u64 0,.int .u64 0,.int .u64 0,.int .u64 0,.int .u64 0,.int .u64 0,.int .u64 0,.int .u64 0,.int .u64 0,.int .u64 0,.int .u64 0,.int .u64 0,.int .u64 0,.int .u64 0,.int .u64 0,.int .u64 0,.int .u64 0,.int .u64 0,.int .u64 0,.int .u64 0,.int .u64 0,.int .u64 0,.int .u64 0,.int .u64 0,.int .u64 0,.int .u64 0,.int .u64 0,.int .u64 0,.int .u64 0,.int .u64 0,.int .u64 0,.int .u64 0,.int .u64 0,.int .u64 0,.int .u64 0,.int .u64 0,.int .u64 0,.int .u64 0,.int .u64 0,.int .u64 0,.int .u64 0,.int .u64 0,.int .u64 0,.int .u64 0,.int .u64 0,.int .u64 0,.int .u64 0,.int .u64 0,.int .u64 0,.int .u64 0,.int .u64 0,.int .u64 0,.int .u64 0,.int .u64 0,.int .u64 0,.int .u64 0,.int .u64 0,.int .u64 0,.int .u64 0] 168) = V9 at hB9 hG9 hS9 ⊢
     (try simp only [hgg])
     refine any_run hd (L:=[17]) (by kernel_rfl) (by decide) (fun i hi hd2 => ?_)
     clear hd
     have hd:=hd2
     clear hd2
     obtain rfl:=List.mem_singleton.1 hi
     clear hi
     refine any_do rfl rfl (fun K hK => ?_)
     go_simp
     refine (bcorner_any V9 x hx side hs64).mono ?_
     rintro e V10 ⟨rfl,b5⟩
     rw [hfit]
     have hB10:=Lib.hid (hB9.out.trans (b5.mono hB9.out.size))
     have hS10:=SR.out _ hB10.out
     have hG10:=Lib.hid (And.intro ((hG9.out).1.upd (Upd.of_below b5 (fun _ => False)) id) (hG9.out).2)
     refine hK _ _ hS10 ?_
     clear hK K b5
     (try simp only [Act.put,gA,gS,gZ,sA,sZ,sS])
     have hS:=hS10
     (refine any_takeA (i:=18) rfl hd hS ?_;clear hd;intro hd;(try simp only [Act.put,gA,gS,gZ,sA,sZ,sS]))
     (refine any_takeA (i:=19) rfl hd hS ?_;clear hd;intro hd;(try simp only [Act.put,gA,gS,gZ,sA,sZ,sS]))
     (refine any_takeA (i:=20) rfl hd hS ?_;clear hd;intro hd;(try simp only [Act.put,gA,gS,gZ,sA,sZ,sS]))
     have kz:=zero64_blk.mp (hG10.out).1
     have hth:V10.there g10 0 (wdC x).toArray.size:=by have:=there_blk2 kz;simpa [wdC_len,zero64_len,hx.len] using this
     have zg:=(hG10.out).2
     have us:=Upd.setCells (F:=fun q => q = g10) (b:=g10) (.inl rfl) (wdC x) 0 (Upd.refl _ V10)
     have bF:=hB10.out.trans (us.below (fun q _ e => by omega) hB10.out.size)
     have HE:=Lib.hid (And.intro bF (World.rangeAt_setCells_same V10 g10 0 (wdC x) (by simpa using hth)))
     clear kz us bF zg
     refine any_run hd (L:=[22]) (by kernel_rfl) (by decide) (fun i hi hd2 => ?_)
     clear hd
     have hd:=hd2
     clear hd2
     obtain rfl:=List.mem_singleton.1 hi
     clear hi
     refine any_do rfl rfl (fun K hK => ?_)
     refine wp_store_mid 168 _ _ rfl g10 0 (wdC x).toArray rfl rfl hth hsz2 h1c ?_
     have hS:=SR.out _ HE.out.1
     refine hK _ _ hS ?_
     clear hK K hth
     (try simp only [Act.put,gA,gS,gZ,sA,sZ,sS])
     (refine any_takeA (i:=23) rfl hd hS ?_;clear hd;intro hd;(try simp only [Act.put,gA,gS,gZ,sA,sZ,sS]))
     refine any_done (by kernel_rfl) ?_
     clear hd hS
     dsimp only [noPan2]
     go_wp2
     go_meet
     case rel => exact ⟨_,rfl,rfl,HE⟩
   ·refine any_do rfl rfl (fun K hK => ?_)
    go_simp
    have hB11:=Lib.hid (show Below W1.heap.size W1 (V0.alloc (.cells #[Value.int .u64 0,.int .u64 0,.int .u64 0,.int .u64 0,.int .u64 0,.int .u64 0,.int .u64 0,.int .u64 0,.int .u64 0,.int .u64 0,.int .u64 0,.int .u64 0,.int .u64 0,.int .u64 0,.int .u64 0,.int .u64 0,.int .u64 0,.int .u64 0,.int .u64 0,.int .u64 0,.int .u64 0,.int .u64 0,.int .u64 0,.int .u64 0,.int .u64 0,.int .u64 0,.int .u64 0,.int .u64 0,.int .u64 0,.int .u64 0,.int .u64 0,.int .u64 0,.int .u64 0,.int .u64 0,.int .u64 0,.int .u64 0,.int .u64 0,.int .u64 0,.int .u64 0,.int .u64 0,.int .u64 0,.int .u64 0,.int .u64 0,.int .u64 0,.int .u64 0,.int .u64 0,.int .u64 0,.int .u64 0,.int .u64 0,.int .u64 0,.int .u64 0,.int .u64 0,.int .u64 0,.int .u64 0,.int .u64 0,.int .u64 0,.int .u64 0,.int .u64 0,.int .u64 0,.int .u64 0,.int .u64 0,.int .u64 0,.int .u64 0,.int .u64 0] 168)) from hB0.out.alloc hB0.out.size _)
    have hG11:=Lib.hid (And.intro (Blk.new V0 168 #[Value.int .u64 0,.int .u64 0,.int .u64 0,.int .u64 0,.int .u64 0,.int .u64 0,.int .u64 0,.int .u64 0,.int .u64 0,.int .u64 0,.int .u64 0,.int .u64 0,.int .u64 0,.int .u64 0,.int .u64 0,.int .u64 0,.int .u64 0,.int .u64 0,.int .u64 0,.int .u64 0,.int .u64 0,.int .u64 0,.int .u64 0,.int .u64 0,.int .u64 0,.int .u64 0,.int .u64 0,.int .u64 0,.int .u64 0,.int .u64 0,.int .u64 0,.int .u64 0,.int .u64 0,.int .u64 0,.int .u64 0,.int .u64 0,.int .u64 0,.int .u64 0,.int .u64 0,.int .u64 0,.int .u64 0,.int .u64 0,.int .u64 0,.int .u64 0,.int .u64 0,.int .u64 0,.int .u64 0,.int .u64 0,.int .u64 0,.int .u64 0,.int .u64 0,.int .u64 0,.int .u64 0,.int .u64 0,.int .u64 0,.int .u64 0,.int .u64 0,.int .u64 0,.int .u64 0,.int .u64 0,.int .u64 0,.int .u64 0,.int .u64 0,.int .u64 0]) hB0.out.size)
    have hS11:=SR.out _ hB11.out
    refine hK _ _ hS11 ?_
    clear hK K
    (try simp only [Act.put,gA,gS,gZ,sA,sZ,sS])
    generalize hgg:V0.heap.size = g10 at hG11
    generalize V0.alloc (.cells #[Value.int .u64 0,.int .u64 0,.int .u64 0,.int .u64 0,.int .u64 0,.int .u64 0,.int .u64 0,.int .u64 0,.int .u64 0,.int .u64 0,.int .u64 0,.int .u64 0,.int .u64 0,.int .u64 0,.int .u64 0,.int .u64 0,.int .u64 0,.int .u64 0,.int .u64 0,.int .u64 0,.int .u64 0,.int .u64 0,.int .u64 0,.int .u64 0,.int .u64 0,.int .u64 0,.int .u64 0,.int .u64 0,.int .u64 0,.int .u64 0,.int .u64 0,.int .u64 0,.int .u64 0,.int .u64 0,.int .u64 0,.int .u64 0,.int .u64 0,.int .u64 0,.int .u64 0,.int .u64 0,.int .u64 0,.int .u64 0,.int .u64 0,.int .u64 0,.int .u64 0,.int .u64 0,.int .u64 0,.int .u64 0,.int .u64 0,.int .u64 0,.int .u64 0,.int .u64 0,.int .u64 0,.int .u64 0,.int .u64 0,.int .u64 0,.int .u64 0,.int .u64 0,.int .u64 0,.int .u64 0,.int .u64 0,.int .u64 0,.int .u64 0,.int .u64 0] 168) = V11 at hB11 hG11 hS11 ⊢
    (try simp only [hgg])
    refine any_run hd (L:=[8]) (by kernel_rfl) (by decide) (fun i hi hd2 => ?_)
    clear hd
    have hd:=hd2
    clear hd2
    obtain rfl:=List.mem_singleton.1 hi
    clear hi
    refine any_do rfl rfl (fun K hK => ?_)
    go_simp
    refine hK _ _ hS11 ?_
    clear hK K
    (try simp only [Act.put,gA,gS,gZ,sA,sZ,sS])
    refine any_run hd (L:=[17]) (by kernel_rfl) (by decide) (fun i hi hd2 => ?_)
    clear hd
    have hd:=hd2
    clear hd2
    obtain rfl:=List.mem_singleton.1 hi
    clear hi
    refine any_do rfl rfl (fun K hK => ?_)
    go_simp
    refine (bcorner_any V11 x hx side hs64).mono ?_
    rintro e V12 ⟨rfl,b5⟩
    rw [hfit]
    have hB12:=Lib.hid (hB11.out.trans (b5.mono hB11.out.size))
    have hS12:=SR.out _ hB12.out
    have hG12:=Lib.hid (And.intro ((hG11.out).1.upd (Upd.of_below b5 (fun _ => False)) id) (hG11.out).2)
    refine hK _ _ hS12 ?_
    clear hK K b5
    (try simp only [Act.put,gA,gS,gZ,sA,sZ,sS])
    have hS:=hS12
    (refine any_takeA (i:=18) rfl hd hS ?_;clear hd;intro hd;(try simp only [Act.put,gA,gS,gZ,sA,sZ,sS]))
    (refine any_takeA (i:=19) rfl hd hS ?_;clear hd;intro hd;(try simp only [Act.put,gA,gS,gZ,sA,sZ,sS]))
    (refine any_takeA (i:=20) rfl hd hS ?_;clear hd;intro hd;(try simp only [Act.put,gA,gS,gZ,sA,sZ,sS]))
    have kz:=zero64_blk.mp (hG12.out).1
    have hth:V12.there g10 0 (wdC x).toArray.size:=by have:=there_blk2 kz;simpa [wdC_len,zero64_len,hx.len] using this
    have zg:=(hG12.out).2
    have us:=Upd.setCells (F:=fun q => q = g10) (b:=g10) (.inl rfl) (wdC x) 0 (Upd.refl _ V12)
    have bF:=hB12.out.trans (us.below (fun q _ e => by omega) hB12.out.size)
    have HE:=Lib.hid (And.intro bF (World.rangeAt_setCells_same V12 g10 0 (wdC x) (by simpa using hth)))
    clear kz us bF zg
    refine any_run hd (L:=[22]) (by kernel_rfl) (by decide) (fun i hi hd2 => ?_)
    clear hd
    have hd:=hd2
    clear hd2
    obtain rfl:=List.mem_singleton.1 hi
    clear hi
    refine any_do rfl rfl (fun K hK => ?_)
    refine wp_store_mid 168 _ _ rfl g10 0 (wdC x).toArray rfl rfl hth hsz2 h1c ?_
    have hS:=SR.out _ HE.out.1
    refine hK _ _ hS ?_
    clear hK K hth
    (try simp only [Act.put,gA,gS,gZ,sA,sZ,sS])
    (refine any_takeA (i:=23) rfl hd hS ?_;clear hd;intro hd;(try simp only [Act.put,gA,gS,gZ,sA,sZ,sS]))
    refine any_done (by kernel_rfl) ?_
    clear hd hS
    dsimp only [noPan2]
    go_wp2
    go_meet
    case rel => exact ⟨_,rfl,rfl,HE⟩
  ·refine any_do rfl rfl (fun K hK => ?_)
   go_simp
   have hB13:=Lib.hid (show Below W1.heap.size W1 (V0.alloc (.cells #[Value.int .u64 0,.int .u64 0,.int .u64 0,.int .u64 0,.int .u64 0,.int .u64 0,.int .u64 0,.int .u64 0,.int .u64 0,.int .u64 0,.int .u64 0,.int .u64 0,.int .u64 0,.int .u64 0,.int .u64 0,.int .u64 0,.int .u64 0,.int .u64 0,.int .u64 0,.int .u64 0,.int .u64 0,.int .u64 0,.int .u64 0,.int .u64 0,.int .u64 0,.int .u64 0,.int .u64 0,.int .u64 0,.int .u64 0,.int .u64 0,.int .u64 0,.int .u64 0,.int .u64 0,.int .u64 0,.int .u64 0,.int .u64 0,.int .u64 0,.int .u64 0,.int .u64 0,.int .u64 0,.int .u64 0,.int .u64 0,.int .u64 0,.int .u64 0,.int .u64 0,.int .u64 0,.int .u64 0,.int .u64 0,.int .u64 0,.int .u64 0,.int .u64 0,.int .u64 0,.int .u64 0,.int .u64 0,.int .u64 0,.int .u64 0,.int .u64 0,.int .u64 0,.int .u64 0,.int .u64 0,.int .u64 0,.int .u64 0,.int .u64 0,.int .u64 0] 168)) from hB0.out.alloc hB0.out.size _)
   have hG13:=Lib.hid (And.intro (Blk.new V0 168 #[Value.int .u64 0,.int .u64 0,.int .u64 0,.int .u64 0,.int .u64 0,.int .u64 0,.int .u64 0,.int .u64 0,.int .u64 0,.int .u64 0,.int .u64 0,.int .u64 0,.int .u64 0,.int .u64 0,.int .u64 0,.int .u64 0,.int .u64 0,.int .u64 0,.int .u64 0,.int .u64 0,.int .u64 0,.int .u64 0,.int .u64 0,.int .u64 0,.int .u64 0,.int .u64 0,.int .u64 0,.int .u64 0,.int .u64 0,.int .u64 0,.int .u64 0,.int .u64 0,.int .u64 0,.int .u64 0,.int .u64 0,.int .u64 0,.int .u64 0,.int .u64 0,.int .u64 0,.int .u64 0,.int .u64 0,.int .u64 0,.int .u64 0,.int .u64 0,.int .u64 0,.int .u64 0,.int .u64 0,.int .u64 0,.int .u64 0,.int .u64 0,.int .u64 0,.int .u64 0,.int .u64 0,.int .u64 0,.int .u64 0,.int .u64 0,.int .u64 0,.int .u64 0,.int .u64 0,.int .u64 0,.int .u64 0,.int .u64 0,.int .u64 0,.int .u64 0]) hB0.out.size)
   have hS13:=SR.out _ hB13.out
   refine hK _ _ hS13 ?_
   clear hK K
   (try simp only [Act.put,gA,gS,gZ,sA,sZ,sS])
   generalize hgg:V0.heap.size = g10 at hG13
   generalize V0.alloc (.cells #[Value.int .u64 0,.int .u64 0,.int .u64 0,.int .u64 0,.int .u64 0,.int .u64 0,.int .u64 0,.int .u64 0,.int .u64 0,.int .u64 0,.int .u64 0,.int .u64 0,.int .u64 0,.int .u64 0,.int .u64 0,.int .u64 0,.int .u64 0,.int .u64 0,.int .u64 0,.int .u64 0,.int .u64 0,.int .u64 0,.int .u64 0,.int .u64 0,.int .u64 0,.int .u64 0,.int .u64 0,.int .u64 0,.int .u64 0,.int .u64 0,.int .u64 0,.int .u64 0,.int .u64 0,.int .u64 0,.int .u64 0,.int .u64 0,.int .u64 0,.int .u64 0,.int .u64 0,.int .u64 0,.int .u64 0,.int .u64 0,.int .u64 0,.int .u64 0,.int .u64 0,.int .u64 0,.int .u64 0,.int .u64 0,.int .u64 0,.int .u64 0,.int .u64 0,.int .u64 0,.int .u64 0,.int .u64 0,.int .u64 0,.int .u64 0,.int .u64 0,.int .u64 0,.int .u64 0,.int .u64 0,.int .u64 0,.int .u64 0,.int .u64 0,.int .u64 0] 168) = V13 at hB13 hG13 hS13 ⊢
   (try simp only [hgg])
   refine any_run hd (L:=[8,16]) (by kernel_rfl) (by decide) (fun i hi hd2 => ?_)
   clear hd
   have hd:=hd2
   clear hd2
   simp only [List.mem_cons,List.not_mem_nil,or_false] at hi
   rcases hi with rfl | rfl
   ·refine any_do rfl rfl (fun K hK => ?_)
    go_simp
    refine hK _ _ hS13 ?_
    clear hK K
    (try simp only [Act.put,gA,gS,gZ,sA,sZ,sS])
    refine any_run hd (L:=[16]) (by kernel_rfl) (by decide) (fun i hi hd2 => ?_)
    clear hd
    have hd:=hd2
    clear hd2
    obtain rfl:=List.mem_singleton.1 hi
    clear hi
    refine any_do rfl rfl (fun K hK => ?_)
    go_simp
    refine hK _ _ hS13 ?_
    clear hK K
    (try simp only [Act.put,gA,gS,gZ,sA,sZ,sS])
    refine any_run hd (L:=[17]) (by kernel_rfl) (by decide) (fun i hi hd2 => ?_)
    clear hd
    have hd:=hd2
    clear hd2
    obtain rfl:=List.mem_singleton.1 hi
    clear hi
    refine any_do rfl rfl (fun K hK => ?_)
    go_simp
    refine (bcorner_any V13 x hx side hs64).mono ?_
    rintro e V14 ⟨rfl,b5⟩
    rw [hfit]
    have hB14:=Lib.hid (hB13.out.trans (b5.mono hB13.out.size))
    have hS14:=SR.out _ hB14.out
    have hG14:=Lib.hid (And.intro ((hG13.out).1.upd (Upd.of_below b5 (fun _ => False)) id) (hG13.out).2)
    refine hK _ _ hS14 ?_
    clear hK K b5
    (try simp only [Act.put,gA,gS,gZ,sA,sZ,sS])
    have hS:=hS14
    (refine any_takeA (i:=18) rfl hd hS ?_;clear hd;intro hd;(try simp only [Act.put,gA,gS,gZ,sA,sZ,sS]))
    (refine any_takeA (i:=19) rfl hd hS ?_;clear hd;intro hd;(try simp only [Act.put,gA,gS,gZ,sA,sZ,sS]))
    (refine any_takeA (i:=20) rfl hd hS ?_;clear hd;intro hd;(try simp only [Act.put,gA,gS,gZ,sA,sZ,sS]))
    have kz:=zero64_blk.mp (hG14.out).1
    have hth:V14.there g10 0 (wdC x).toArray.size:=by have:=there_blk2 kz;simpa [wdC_len,zero64_len,hx.len] using this
    have zg:=(hG14.out).2
    have us:=Upd.setCells (F:=fun q => q = g10) (b:=g10) (.inl rfl) (wdC x) 0 (Upd.refl _ V14)
    have bF:=hB14.out.trans (us.below (fun q _ e => by omega) hB14.out.size)
    have HE:=Lib.hid (And.intro bF (World.rangeAt_setCells_same V14 g10 0 (wdC x) (by simpa using hth)))
    clear kz us bF zg
    refine any_run hd (L:=[22]) (by kernel_rfl) (by decide) (fun i hi hd2 => ?_)
    clear hd
    have hd:=hd2
    clear hd2
    obtain rfl:=List.mem_singleton.1 hi
    clear hi
    refine any_do rfl rfl (fun K hK => ?_)
    refine wp_store_mid 168 _ _ rfl g10 0 (wdC x).toArray rfl rfl hth hsz2 h1c ?_
    have hS:=SR.out _ HE.out.1
    refine hK _ _ hS ?_
    clear hK K hth
    (try simp only [Act.put,gA,gS,gZ,sA,sZ,sS])
    (refine any_takeA (i:=23) rfl hd hS ?_;clear hd;intro hd;(try simp only [Act.put,gA,gS,gZ,sA,sZ,sS]))
    refine any_done (by kernel_rfl) ?_
    clear hd hS
    dsimp only [noPan2]
    go_wp2
    go_meet
    case rel => exact ⟨_,rfl,rfl,HE⟩
   ·refine any_do rfl rfl (fun K hK => ?_)
    go_simp
    refine hK _ _ hS13 ?_
    clear hK K
    (try simp only [Act.put,gA,gS,gZ,sA,sZ,sS])
    refine any_run hd (L:=[8]) (by kernel_rfl) (by decide) (fun i hi hd2 => ?_)
    clear hd
    have hd:=hd2
    clear hd2
    obtain rfl:=List.mem_singleton.1 hi
    clear hi
    refine any_do rfl rfl (fun K hK => ?_)
    go_simp
    refine hK _ _ hS13 ?_
    clear hK K
    (try simp only [Act.put,gA,gS,gZ,sA,sZ,sS])
    refine any_run hd (L:=[17]) (by kernel_rfl) (by decide) (fun i hi hd2 => ?_)
    clear hd
    have hd:=hd2
    clear hd2
    obtain rfl:=List.mem_singleton.1 hi
    clear hi
    refine any_do rfl rfl (fun K hK => ?_)
    go_simp
    refine (bcorner_any V13 x hx side hs64).mono ?_
    rintro e V15 ⟨rfl,b5⟩
    rw [hfit]
    have hB15:=Lib.hid (hB13.out.trans (b5.mono hB13.out.size))
    have hS15:=SR.out _ hB15.out
    have hG15:=Lib.hid (And.intro ((hG13.out).1.upd (Upd.of_below b5 (fun _ => False)) id) (hG13.out).2)
    refine hK _ _ hS15 ?_
    clear hK K b5
    (try simp only [Act.put,gA,gS,gZ,sA,sZ,sS])
    have hS:=hS15
    (refine any_takeA (i:=18) rfl hd hS ?_;clear hd;intro hd;(try simp only [Act.put,gA,gS,gZ,sA,sZ,sS]))
    (refine any_takeA (i:=19) rfl hd hS ?_;clear hd;intro hd;(try simp only [Act.put,gA,gS,gZ,sA,sZ,sS]))
    (refine any_takeA (i:=20) rfl hd hS ?_;clear hd;intro hd;(try simp only [Act.put,gA,gS,gZ,sA,sZ,sS]))
    have kz:=zero64_blk.mp (hG15.out).1
    have hth:V15.there g10 0 (wdC x).toArray.size:=by have:=there_blk2 kz;simpa [wdC_len,zero64_len,hx.len] using this
    have zg:=(hG15.out).2
    have us:=Upd.setCells (F:=fun q => q = g10) (b:=g10) (.inl rfl) (wdC x) 0 (Upd.refl _ V15)
    have bF:=hB15.out.trans (us.below (fun q _ e => by omega) hB15.out.size)
    have HE:=Lib.hid (And.intro bF (World.rangeAt_setCells_same V15 g10 0 (wdC x) (by simpa using hth)))
    clear kz us bF zg
    refine any_run hd (L:=[22]) (by kernel_rfl) (by decide) (fun i hi hd2 => ?_)
    clear hd
    have hd:=hd2
    clear hd2
    obtain rfl:=List.mem_singleton.1 hi
    clear hi
    refine any_do rfl rfl (fun K hK => ?_)
    refine wp_store_mid 168 _ _ rfl g10 0 (wdC x).toArray rfl rfl hth hsz2 h1c ?_
    have hS:=SR.out _ HE.out.1
    refine hK _ _ hS ?_
    clear hK K hth
    (try simp only [Act.put,gA,gS,gZ,sA,sZ,sS])
    (refine any_takeA (i:=23) rfl hd hS ?_;clear hd;intro hd;(try simp only [Act.put,gA,gS,gZ,sA,sZ,sS]))
    refine any_done (by kernel_rfl) ?_
    clear hd hS
    dsimp only [noPan2]
    go_wp2
    go_meet
    case rel => exact ⟨_,rfl,rfl,HE⟩
 case rest =>
  obtain ⟨g10,rfl,rfl,hE⟩:=hcut
  have hn:=eqin_blk wc hx hx
  rw [decide_eq_true rfl] at hn
  have r7:=(SR.out _ hE.out.1).1
  have r10:=hE.out.2
  have hcon:=qor_all wc F p side b (H.out.1.below hE.out.1) x hx
  unfold wdV at hcon
  go_wp2_with (first | (refine wpList_load_mid rfl 168 _ rfl g10 0 rfl (wdC x) (.array 64 166) r10 Tryz.underlying168 rfl hsz ?_) | (refine wpList_load_mid rfl 168 _ rfl w.heap.size 0 rfl (wdC x) (.array 64 166) r7 Tryz.underlying168 rfl hsz ?_) | fail)
  refine hcon.mono ?_
  rintro e W6 ⟨rfl,hto⟩
  have FIN:=Lib.hid (QTo.after (H.out.2.2.trans (hE.out.1.mono H.out.2.2.size)) hto)
  clear hto
  go_wp2
  refine bodyPost_ret (v:=.tuple #[.bool (decide (0 < lenB (List.zipWith lessN x (oldW b)))),.int .i64 0]) (by simp [results,Tryz.f180,go_sem]) rfl ⟨rfl,FIN.out⟩
end Go.Proofs.YtddffnonlmfhdaaGreatDoor
namespace Go.Proofs.YtddffnonlmfhdaaGreatDoor
open Go.RowKit
def joinQ (b:Option (List Nat)):Option (List Nat)→Option (List Nat)
 | none => b
 | some r => joinO b r
def moreQ (b:Option (List Nat)):Option (List Nat)→Bool
 | none => false
 | some r => decide (0 < lenB (List.zipWith lessN r (oldW b)))
theorem range_pl {w:World} {g:Nat} {t:TypeId} {r:List Nat} (h:Blk w g t (plC r).toArray):w.rangeAt g 2 (wdC r):=fun j v hv => by
 rw [h.cell (2 + j),Nat.add_comm]
 simpa [plC] using hv
theorem qjoin_any (w:World) (F F':Nat→Prop) (p q side:Nat) (b b':Option (List Nat)) (h:QuS w F p side b) (h':QuS w F' q side b') :
  Calls Tryz.prog 151 #[.pointer (some ⟨p,0,none⟩),.pointer (some ⟨q,0,none⟩)] w (fun e w' => e = .returned (.tuple #[.bool (moreQ b b'),.int .i64 0])∧QTo w F p side (joinQ b b') w'):=by
 have hs1:1 ≤ side:=by obtain ⟨O,dep,cnt,m,last,L,pv,lv,hq,ok,-⟩:=h;exact ok.s1
 have qp:w.cell? ⟨p,0,none⟩ = some (.int .i64 (side:Int)):=by obtain ⟨O,dep,cnt,m,last,L,pv,lv,hq,ok,-⟩:=h;exact hq.blk.cell 0
 have qq:w.cell? ⟨q,0,none⟩ = some (.int .i64 (side:Int)):=by obtain ⟨O,dep,cnt,m,last,L,pv,lv,hq,ok,-⟩:=h';exact hq.blk.cell 0
 have his:=qis_any w p side hs1 qp
 have his2:=qis_any w q side hs1 qq
 have bN:=fun n => (show Below w.heap.size w (w.drewN n) from ⟨rfl,rfl,rfl,Nat.le_refl _,fun _ _ => rfl⟩)
 have hall:=fun n => qall_any (w.drewN n) F' q side b' (h'.below (bN n))
 have hw':Hid (∀ r,b' = some r→Wd r):=by obtain ⟨O,dep,cnt,m,last,L,pv,lv,hq,ok,-⟩:=h';exact Lib.hid (fun r e => (ok.is r e).2.2.2.2)
 have hu0:=Lib.hid bN
 clear bN
 have H:=Lib.hid h
 clear h h'
 go_enter Tryz.func151,Tryz.ntmps151
 go_wp2_with fail
 refine his.mono ?_
 clear his
 rintro e V1 ⟨rfl,hw1⟩
 subst V1
 go_wp2_with fail
 refine his2.mono ?_
 clear his2
 rintro e V1 ⟨rfl,hw1⟩
 subst V1
 go_upto_region 3 with (fail)
 go_quiet (fail)
 go_wp2_with fail
 refine (hall _).mono ?_
 rintro e V1 ⟨hb1,hm⟩
 have hu1:=Lib.hid ((hu0.out _).trans (hb1.mono (hu0.out _).size))
 clear hb1 hu0 hall
 cases b' with
 | none =>
  obtain rfl:=hm
  have FIN:=Lib.hid (show QTo w F p side (joinQ b none) V1 from ⟨F,H.out.below hu1.out,Upd.of_below hu1.out F,fun k hk => .inl hk⟩)
  go_wp2_with fail
  refine wp_loop_rounds 1 ?_
  rw [rounds_succ]
  go_wp2_with fail
  refine bodyPost_ret (v:=.tuple #[.bool false,.int .i64 0]) (by simp [results,Tryz.f151,go_sem]) rfl ⟨rfl,FIN.out⟩
 | some r =>
  obtain ⟨A,c,rfl,hm⟩:=hm
  have hr:=hw'.out r rfl
  have H1:=Lib.hid hm
  obtain ⟨ga,cc,e,hob,-,-,-,hcell⟩:=own_cells hm.1 (by decide)
  injection e with e1 e2 e3
  subst e1
  subst e3
  have rA:V1.rangeAt ga 0 (plC r):=fun j v hv => by rw [Nat.zero_add];exact (hcell j v hv).1
  have hsz:=info_pl hr
  have h1c:=plC_one r
  have k2:=Blk.new V1 196 (plC r).toArray
  have b2:Below V1.heap.size V1 (V1.alloc (.cells (plC r).toArray 196)):=(Below.refl _ _).alloc (Nat.le_refl _) _
  have HX:=Lib.hid (And.intro k2 (hu1.out.trans (b2.mono hu1.out.size)))
  clear k2 b2 hcell hm e2 hob
  go_upto_region 7 with (fail)
  refine wp_loop_rounds 2 ?_
  rw [rounds_succ]
  go_upto_region 9 with (first | (refine wpList_load_mid rfl 196 _ rfl ga 0 rfl (plC r) (.struct _) rA Tryz.underlying196 rfl hsz ?_) | (refine wpList_alloc_store rfl rfl 196 _ _ rfl rfl (plC r) ⟨_,by rw [plC_len hr];exact zero_placed.choose_spec.1,zero_placed.choose_spec.2⟩ rfl rfl hsz h1c ?_) | fail)
  clear rA hsz h1c
  generalize hg2:V1.heap.size = g2 at HX ⊢
  generalize V1.alloc (.cells (plC r).toArray 196) = V2 at HX ⊢
  clear hg2
  have r2:=range_pl HX.out.1
  have q0:V2.cell? ⟨g2,0,none⟩ = some (.int .i64 0):=by rw [HX.out.1.cell 0];simp [plC]
  have q1:V2.cell? ⟨g2,1,none⟩ = some (.int .i64 0):=by rw [HX.out.1.cell 1];simp [plC]
  have hsz:=info_wd hr
  have hcon:=qor_all V2 F p side b (H.out.below HX.out.2) r hr
  unfold wdV at hcon
  go_wp2_with (first | (refine wpList_load_mid rfl 168 _ rfl g2 2 rfl (wdC r) (.array 64 166) r2 Tryz.underlying168 rfl hsz ?_) | fail)
  refine hcon.mono ?_
  rintro e V3 ⟨rfl,hto⟩
  have FIN:=Lib.hid (show QTo w F p side (joinQ b (some r)) V3 from QTo.after HX.out.2 hto)
  clear hto hcon r2 q0 q1 hsz
  cases hd:decide (0 < lenB (List.zipWith lessN r (oldW b)))
  ·go_wp2
   rw [rounds_succ]
   go_wp2
   refine bodyPost_ret (v:=.tuple #[.bool false,.int .i64 0]) (by simp [results,Tryz.f151,go_sem]) rfl ⟨by rw [show moreQ b (some r) = false from hd],FIN.out⟩
  ·go_wp2
   rw [rounds_succ]
   go_wp2
   refine bodyPost_ret (v:=.tuple #[.bool true,.int .i64 0]) (by simp [results,Tryz.f151,go_sem]) rfl ⟨by rw [show moreQ b (some r) = true from hd],FIN.out⟩
end Go.Proofs.YtddffnonlmfhdaaGreatDoor
namespace Go.Proofs.YtddffnonlmfhdaaGreatDoor
open Go.RowKit
def fset {α:Type} (f:Nat→α) (j:Nat) (x:α):Nat→α:=fun k => if k = j then x else f k
theorem fset_same {α:Type} (f:Nat→α) (j:Nat) (x:α):fset f j x j = x:=if_pos rfl
theorem fset_other {α:Type} (f:Nat→α) {j k:Nat} (x:α) (h:k ≠ j):fset f j x k = f k:=if_neg h
theorem rowV_set (f:Nat→Value) (n j:Nat) (x:Value):(rowV f n).set j x = rowV (fset f j x) n:=by
 apply List.ext_getElem?
 intro i
 rw [List.getElem?_set]
 unfold rowV fset
 simp only [List.length_map,List.length_range,List.getElem?_map]
 by_cases hij:j = i
 ·subst hij
  by_cases hj:j < n
  ·simp [hj]
  ·simp [hj]
 ·rw [if_neg hij]
  by_cases hi:i < n
  ·simp [hi,Ne.symm hij]
  ·simp [hi]
section
variable {w w':World} {O:Nat→Option Ro} {p r g j c:Nat} {N:List Txt} {U V:Nat→List Hp} {cnt:Int} {nv iv ov:Value} {fo fi:Nat→Value}
theorem GrI.setO (h:GrI w O p N U V cnt ⟨r,nv,.slice (some ⟨g,0,none⟩) N.length c,iv,fo,fi⟩) (hj:j < N.length) {v:Value} {L:List Hp} (o:w'.ownsRow 0 103 2 v L.length (hpCells L)) (u:Upd (fun k => (fo j).ownBlock = some k) w w')
  (pl:∀ k,v.ownBlock = some k→(fo j).ownBlock = some k ∨ w.heap.size ≤ k):GrNext w (fun k => O k ≠ none) p N (fset U j L) V cnt (w'.setCell ⟨g,j,none⟩ v):=by
 have us:=(Upd.refl (fun k => k = g) w').setCell (p:=⟨g,j,none⟩) (.inl rfl) v
 have hg:O g = some .o:=h.oo g rfl
 have fresh:∀ k,w.heap.size ≤ k→O k = none:=fun k hk => by
  cases e:O k with
  | none => rfl
  | some t => have:=h.lt k (by simp [e]);omega
 have hv:∀ k,v.ownBlock = some k→O k = some (.oo j) ∨ O k = none∧w.heap.size ≤ k:=fun k hk => by
  rcases pl k hk with h1 | h1
  ·exact .inl (h.oU j k h1)
  ·exact .inr ⟨fresh k h1,h1⟩
 have keep:∀ k t,O k = some t→(t = Ro.oo j→False)→(if v.ownBlock = some k then some (Ro.oo j) else O k) = some t:=fun k t e ht => by
  rw [if_neg,e]
  intro hk
  rcases hv k hk with h1 | h1
  ·rw [h1] at e;injection e with e;exact ht e.symm
  ·rw [h1.1] at e;cases e
 have no:∀ k t,O k = some t→(t = Ro.oo j→False)→(t = Ro.o→False)→¬ (fo j).ownBlock = some k∧¬ k = g:=fun k t e h1 h2 =>
  ⟨fun hk => (by have:=h.oU j k hk;rw [e] at this;injection this with this;exact h1 this),fun hk => (by rw [hk,hg] at e;injection e with e;exact h2 e.symm)⟩
 have no1:∀ k t,O k = some t→(t = Ro.oo j→False)→¬ (fo j).ownBlock = some k:=fun k t e h1 hk => by
  have:=h.oU j k hk;rw [e] at this;injection this with this;exact h1 this
 have nvg:∀ k,v.ownBlock = some k→¬ k = g:=fun k hk e => by
  subst e
  rcases hv k hk with h1 | h1
  ·rw [hg] at h1;cases h1
  ·rw [hg] at h1;cases h1.1
 have k2:=fun {x:Value} {base e size n:Nat} {xs:List Value} (hx:w.ownsRow base e size x n xs) (hr:∀ k,x.ownBlock = some k→¬ (fo j).ownBlock = some k∧¬ k = g) => ownsRow_upd (ownsRow_upd hx u fun k hk => (hr k hk).1) us fun k hk => (hr k hk).2
 have b:=no _ _ h.op nofun nofun
 have bm:=no _ _ h.om nofun nofun
 refine ⟨_,⟨fun k => if v.ownBlock = some k then some (Ro.oo j) else O k,⟨r,nv,.slice (some ⟨g,0,none⟩) N.length c,iv,fset fo j v,fi⟩,⟨(h.blk.upd u b.1).upd us b.2,(h.map.upd u bm.1).upd us bm.2,k2 h.rn fun k hk => no _ _ (h.on k hk) nofun nofun,?_,k2 h.ri fun k hk => no _ _ (h.oi k hk) nofun nofun,?_,fun i => k2 (h.fi i) fun k hk => no _ _ (h.oV i k hk) nofun nofun,
  keep _ _ h.op nofun,keep _ _ h.om nofun,fun k hk => keep _ _ (h.on k hk) nofun,fun k hk => keep _ _ (h.oo k hk) nofun,fun k hk => keep _ _ (h.oi k hk) nofun,?_,fun i k hk => keep _ _ (h.oV i k hk) nofun,?_,?_⟩,rfl⟩,?_,?_⟩
 ·have h1:=own_setCell (ownsRow_upd h.ro u fun k hk => no1 _ _ (h.oo k hk) nofun) (i:=j) (by omega) v
  rw [rowV_set] at h1
  exact h1
 ·intro i
  by_cases e:i = j
  ·subst e
   show World.ownsRow _ _ _ _ (fset fo i v i) (fset U i L i).length (hpCells (fset U i L i))
   rw [fset_same,fset_same]
   exact ownsRow_upd o us nvg
  ·show World.ownsRow _ _ _ _ (fset fo j v i) (fset U j L i).length (hpCells (fset U j L i))
   rw [fset_other _ _ e,fset_other _ _ e]
   exact k2 (h.fo i) fun k hk => no _ _ (h.oU i k hk) (fun h => by injection h with h;exact e h) nofun
 ·intro i k hk
  by_cases e:i = j
  ·subst e
   have hk:(fset fo i v i).ownBlock = some k:=hk
   rw [fset_same] at hk
   exact if_pos hk
  ·have hk:(fset fo j v i).ownBlock = some k:=hk
   rw [fset_other _ _ e] at hk
   exact keep _ _ (h.oU i k hk) (fun h => by injection h with h;exact e h)
 ·intro k hk
  (try dsimp only at hk)
  by_cases h1:v.ownBlock = some k
  ·exact Nat.lt_of_lt_of_le (o.lt k h1).2 us.size
  ·rw [if_neg h1] at hk
   exact Nat.lt_of_lt_of_le (h.lt k hk) (Nat.le_trans u.size us.size)
 ·intro k hk
  refine ⟨?_,(h.out k hk).2⟩
  show fset fo j v k = _
  rw [fset_other _ _ (by omega)]
  exact (h.out k hk).1
 ·exact (u.mono (fun k _ hk => by rw [h.oU j k hk];nofun)).trans us (fun k hk => .inl (by rw [hk,hg];nofun))
 ·intro k hk
  (try dsimp only at hk ⊢)
  by_cases h1:v.ownBlock = some k
  ·rcases hv k h1 with h2 | h2
   ·rw [h2];exact .inl nofun
   ·exact .inr h2.2
  ·rw [if_neg h1] at hk
   exact .inl hk
theorem GrI.setI (h:GrI w O p N U V cnt ⟨r,nv,ov,.slice (some ⟨g,0,none⟩) N.length c,fo,fi⟩) (hj:j < N.length) {v:Value} {L:List Hp} (o:w'.ownsRow 0 103 2 v L.length (hpCells L)) (u:Upd (fun k => (fi j).ownBlock = some k) w w')
  (pl:∀ k,v.ownBlock = some k→(fi j).ownBlock = some k ∨ w.heap.size ≤ k):GrNext w (fun k => O k ≠ none) p N U (fset V j L) cnt (w'.setCell ⟨g,j,none⟩ v):=by
 have us:=(Upd.refl (fun k => k = g) w').setCell (p:=⟨g,j,none⟩) (.inl rfl) v
 have hg:O g = some .i:=h.oi g rfl
 have fresh:∀ k,w.heap.size ≤ k→O k = none:=fun k hk => by
  cases e:O k with
  | none => rfl
  | some t => have:=h.lt k (by simp [e]);omega
 have hv:∀ k,v.ownBlock = some k→O k = some (.ii j) ∨ O k = none∧w.heap.size ≤ k:=fun k hk => by
  rcases pl k hk with h1 | h1
  ·exact .inl (h.oV j k h1)
  ·exact .inr ⟨fresh k h1,h1⟩
 have keep:∀ k t,O k = some t→(t = Ro.ii j→False)→(if v.ownBlock = some k then some (Ro.ii j) else O k) = some t:=fun k t e ht => by
  rw [if_neg,e]
  intro hk
  rcases hv k hk with h1 | h1
  ·rw [h1] at e;injection e with e;exact ht e.symm
  ·rw [h1.1] at e;cases e
 have no:∀ k t,O k = some t→(t = Ro.ii j→False)→(t = Ro.i→False)→¬ (fi j).ownBlock = some k∧¬ k = g:=fun k t e h1 h2 =>
  ⟨fun hk => (by have:=h.oV j k hk;rw [e] at this;injection this with this;exact h1 this),fun hk => (by rw [hk,hg] at e;injection e with e;exact h2 e.symm)⟩
 have no1:∀ k t,O k = some t→(t = Ro.ii j→False)→¬ (fi j).ownBlock = some k:=fun k t e h1 hk => by
  have:=h.oV j k hk;rw [e] at this;injection this with this;exact h1 this
 have nvg:∀ k,v.ownBlock = some k→¬ k = g:=fun k hk e => by
  subst e
  rcases hv k hk with h1 | h1
  ·rw [hg] at h1;cases h1
  ·rw [hg] at h1;cases h1.1
 have k2:=fun {x:Value} {base e size n:Nat} {xs:List Value} (hx:w.ownsRow base e size x n xs) (hr:∀ k,x.ownBlock = some k→¬ (fi j).ownBlock = some k∧¬ k = g) => ownsRow_upd (ownsRow_upd hx u fun k hk => (hr k hk).1) us fun k hk => (hr k hk).2
 have b:=no _ _ h.op nofun nofun
 have bm:=no _ _ h.om nofun nofun
 refine ⟨_,⟨fun k => if v.ownBlock = some k then some (Ro.ii j) else O k,⟨r,nv,ov,.slice (some ⟨g,0,none⟩) N.length c,fo,fset fi j v⟩,⟨(h.blk.upd u b.1).upd us b.2,(h.map.upd u bm.1).upd us bm.2,k2 h.rn fun k hk => no _ _ (h.on k hk) nofun nofun,k2 h.ro fun k hk => no _ _ (h.oo k hk) nofun nofun,?_,fun i => k2 (h.fo i) fun k hk => no _ _ (h.oU i k hk) nofun nofun,?_,
  keep _ _ h.op nofun,keep _ _ h.om nofun,fun k hk => keep _ _ (h.on k hk) nofun,fun k hk => keep _ _ (h.oo k hk) nofun,fun k hk => keep _ _ (h.oi k hk) nofun,fun i k hk => keep _ _ (h.oU i k hk) nofun,?_,?_,?_⟩,rfl⟩,?_,?_⟩
 ·have h1:=own_setCell (ownsRow_upd h.ri u fun k hk => no1 _ _ (h.oi k hk) nofun) (i:=j) (by omega) v
  rw [rowV_set] at h1
  exact h1
 ·intro i
  by_cases e:i = j
  ·subst e
   show World.ownsRow _ _ _ _ (fset fi i v i) (fset V i L i).length (hpCells (fset V i L i))
   rw [fset_same,fset_same]
   exact ownsRow_upd o us nvg
  ·show World.ownsRow _ _ _ _ (fset fi j v i) (fset V j L i).length (hpCells (fset V j L i))
   rw [fset_other _ _ e,fset_other _ _ e]
   exact k2 (h.fi i) fun k hk => no _ _ (h.oV i k hk) (fun h => by injection h with h;exact e h) nofun
 ·intro i k hk
  by_cases e:i = j
  ·subst e
   have hk:(fset fi i v i).ownBlock = some k:=hk
   rw [fset_same] at hk
   exact if_pos hk
  ·have hk:(fset fi j v i).ownBlock = some k:=hk
   rw [fset_other _ _ e] at hk
   exact keep _ _ (h.oV i k hk) (fun h => by injection h with h;exact e h)
 ·intro k hk
  (try dsimp only at hk)
  by_cases h1:v.ownBlock = some k
  ·exact Nat.lt_of_lt_of_le (o.lt k h1).2 us.size
  ·rw [if_neg h1] at hk
   exact Nat.lt_of_lt_of_le (h.lt k hk) (Nat.le_trans u.size us.size)
 ·intro k hk
  refine ⟨(h.out k hk).1,?_⟩
  show fset fi j v k = _
  rw [fset_other _ _ (by omega)]
  exact (h.out k hk).2
 ·exact (u.mono (fun k _ hk => by rw [h.oV j k hk];nofun)).trans us (fun k hk => .inl (by rw [hk,hg];nofun))
 ·intro k hk
  (try dsimp only at hk ⊢)
  by_cases h1:v.ownBlock = some k
  ·rcases hv k h1 with h2 | h2
   ·rw [h2];exact .inl nofun
   ·exact .inr h2.2
  ·rw [if_neg h1] at hk
   exact .inl hk
theorem GrI.setC {D:GrD} (h:GrI w O p N U V cnt D) (x:Int):GrNext w (fun k => O k ≠ none) p N U V x (w.setCell ⟨p,4,none⟩ (.int .i64 x)):=by
 have us:=(Upd.refl (fun k => k = p) w).setCell (p:=⟨p,4,none⟩) (.inl rfl) (.int .i64 x)
 have no:∀ k t,O k = some t→(t = Ro.p→False)→¬ k = p:=fun k t e ht hk => by
  rw [hk,h.op] at e;injection e with e;exact ht e.symm
 exact ⟨_,⟨O,D,⟨h.blk.set 4 _,h.map.upd us (no _ _ h.om nofun),ownsRow_upd h.rn us fun k hk => no _ _ (h.on k hk) nofun,ownsRow_upd h.ro us fun k hk => no _ _ (h.oo k hk) nofun,ownsRow_upd h.ri us fun k hk => no _ _ (h.oi k hk) nofun,
  fun j => ownsRow_upd (h.fo j) us fun k hk => no _ _ (h.oU j k hk) nofun,fun j => ownsRow_upd (h.fi j) us fun k hk => no _ _ (h.oV j k hk) nofun,h.op,h.om,h.on,h.oo,h.oi,h.oU,h.oV,fun k hk => Nat.lt_of_lt_of_le (h.lt k hk) us.size,h.out⟩,rfl⟩,
  us.mono (fun k _ hk => by rw [hk,h.op];nofun),fun k hk => .inl hk⟩
end
end Go.Proofs.YtddffnonlmfhdaaGreatDoor
namespace Go.Proofs.YtddffnonlmfhdaaGreatDoor
open Go.RowKit
theorem row_get {w:World} {n:Nat} {v:Value} {f:Nat→Value} {t:TypeId} (h:w.ownsRow 0 t 1 v n (rowV f n)) {k:Nat} (hk:k < n) :
  ∃ g c,v = .slice (some ⟨g,0,none⟩) n c∧v.ownBlock = some g∧w.cell? ⟨g,k,none⟩ = some (f k)∧w.frozen? ⟨g,k,none⟩ = false:=by
 obtain ⟨g,c,e,e2,-,-,-,hc⟩:=own_cells h (Nat.lt_of_le_of_lt (Nat.zero_le _) hk)
 exact ⟨g,c,e,e2,hc k _ (rowV_at hk)⟩
def hopsU (N:List Txt) (U:Nat→List Hp) (x:Ed):Nat→List Hp:=fset U (idxT N x.fr) (putH (U (idxT N x.fr)) ⟨x.lb,idxT N x.to⟩)
def hopsV (N:List Txt) (V:Nat→List Hp) (x:Ed):Nat→List Hp:=fset V (idxT N x.to) (putH (V (idxT N x.to)) ⟨x.lb,idxT N x.fr⟩)
def EdgeP (w:World) (F:Nat→Prop) (p:Nat) (N:List Txt) (U V:Nat→List Hp) (cnt:Int) (x:Ed) (e:Ending) (w':World):Prop:=
 e = .returned (.tuple #[])∧GrNext w F p (addN (addN N x.fr) x.to) (hopsU (addN (addN N x.fr) x.to) U x) (hopsV (addN (addN N x.fr) x.to) V x) (cnt + 1) w'
theorem addN_len (N:List Txt) (s:Txt):(addN N s).length ≤ N.length + 1:=by
 unfold addN
 split
 ·omega
 ·simp
theorem edge_any (w:World) (F:Nat→Prop) (p:Nat) (N:List Txt) (U V:Nat→List Hp) (cnt:Int) (x:Ed) (h:GrAt w F p N U V cnt) (hx:EdOk x) (hl:N.length ≤ 900000) (hU:∀ k,Rises ltH (U k)∧(U k).length ≤ 1000000) (hV:∀ k,Rises ltH (V k)∧(V k).length ≤ 1000000) (hc:0 ≤ cnt∧cnt ≤ 1000000) :
  Calls Tryz.prog 46 #[.pointer (some ⟨p,0,none⟩),x.agg] w (EdgeP w F p N U V cnt x):=by
 obtain ⟨s0,s1,s2⟩:=x
 have k0:=Blk.new w 32 #[.string s0,.string s1,.string s2]
 have u0:Below w.heap.size w (w.alloc (.cells #[.string s0,.string s1,.string s2] 32)):=(Below.refl _ _).alloc (Nat.le_refl _) _
 have HG:=Lib.hid (And.intro (h.below u0) (And.intro k0 (And.intro u0 (And.intro hU (And.intro hV h.lt)))))
 clear h k0 u0 hU hV
 unfold Ed.agg
 dsimp only
 go_enter Tryz.func46,Tryz.ntmps46
 go_upto_region 1 with (fail)
 generalize w.alloc (.cells #[.string s0,.string s1,.string s2] 32) = W0 at HG ⊢
 have SR:=Lib.hid (show ∀ W,Upd F W0 W→W.cell? ⟨w.heap.size,0,none⟩ = some (.string s0)∧W.cell? ⟨w.heap.size,2,none⟩ = some (.string s2) from fun W hu => by
  have kb:=HG.out.2.1.upd hu (fun e => by have:=HG.out.2.2.2.2.2 _ e;omega)
  exact ⟨kb.cell 0,kb.cell 2⟩)
 have hS:=SR.out W0.drew (Upd.refl _ _).drew
 have HD:=Lib.hid (HG.out.1.below (w':=W0.drew) (Below.refl _ _).drew)
 have HU0:=Lib.hid (show Upd F W0 W0.drew from (Upd.refl _ _).drew)
 refine wp_region_ord (fun W => W.cell? ⟨w.heap.size,0,none⟩ = some (.string s0)∧W.cell? ⟨w.heap.size,2,none⟩ = some (.string s2)) 10 [(0,true),(1,true),(2,true),(4,true),(5,true),(6,true),(3,false),(7,false),(8,true),(9,true)] (by kernel_rfl) (by kernel_rfl) (fun _ _ d _ _ h => by cases d <;> exact h) hS ?_
 generalize W0.drew = W1 at HD HU0 hS ⊢
 iterate 6 (refine ord_takeA rfl ?_;(try simp only [Act.put,gA,gS,gZ,sA,sZ,sS]))
 refine ord_do rfl rfl (fun K hK => ?_)
 go_simp
 refine (node_any W1 F p N U V cnt s0 HD.out hx.1 (by omega)).mono ?_
 rintro e W2 ⟨rfl,F2,g2,u2,n2⟩
 have H2:=Lib.hid (And.intro g2 (And.intro (HU0.out.trans u2 (fun _ h => .inl h)) (show ∀ k,F2 k→F k ∨ W0.heap.size ≤ k from fun k hk => (n2 k hk).imp id fun h => Nat.le_trans HU0.out.size h)))
 clear g2 u2 n2
 refine hK _ _ (fun _ => SR.out _ H2.out.2.1) ?_
 clear hK K hS HD HU0
 (try simp only [Act.put,gA,gS,gZ,sA,sZ,sS])
 refine ord_do rfl rfl (fun K hK => ?_)
 go_simp
 refine (node_any W2 F2 p (addN N s0) U V cnt s2 H2.out.1 hx.2.2 (by have:=addN_len N s0;omega)).mono ?_
 rintro e W3 ⟨rfl,F3,g3,u3,n3⟩
 have H3:=Lib.hid (And.intro g3 (And.intro (H2.out.2.1.trans u3 H2.out.2.2) (show ∀ k,F3 k→F k ∨ W0.heap.size ≤ k from fun k hk => by
  rcases n3 k hk with h | h
  ·exact H2.out.2.2 k h
  ·exact .inr (Nat.le_trans H2.out.2.1.size h))))
 clear g3 u3 n3
 refine hK _ _ (fun _ => SR.out _ H3.out.2.1) ?_
 clear hK K H2
 (try simp only [Act.put,gA,gS,gZ,sA,sZ,sS])
 have hS:=SR.out _ H3.out.2.1
 (refine ord_takeA rfl ?_;(try simp only [Act.put,gA,gS,gZ,sA,sZ,sS]))
 (refine ord_takeA rfl ?_;(try simp only [Act.put,gA,gS,gZ,sA,sZ,sS]))
 refine ord_done ?_
 clear hS
 have GX:=Lib.hid (show ∀ W,Upd F W0 W→W.cell? ⟨w.heap.size,1,none⟩ = some (.string s1) from fun W hu => by
  have kb:=HG.out.2.1.upd hu (fun e => by have:=HG.out.2.2.2.2.2 _ e;omega)
  exact kb.cell 1)
 have hgx:=HG.out.2.1.lt
 have hi0:idxT (addN (addN N s0) s2) s0 = idxT N s0:=by rw [idxT_addN (mem_addN.2 (.inr rfl)),idxT_new]
 have hi2:idxT (addN (addN N s0) s2) s2 = idxT (addN N s0) s2:=idxT_new _ _
 have hm0:idxT N s0 < (addN (addN N s0) s2).length:=by rw [← hi0];exact idxT_lt (mem_addN.2 (.inl (mem_addN.2 (.inr rfl))))
 have hm2:idxT (addN N s0) s2 < (addN (addN N s0) s2).length:=by rw [← hi2];exact idxT_lt (mem_addN.2 (.inr rfl))
 obtain ⟨i,hi⟩:∃ u,idxT N s0 = u:=⟨_,rfl⟩
 obtain ⟨j,hj⟩:∃ u,idxT (addN N s0) s2 = u:=⟨_,rfl⟩
 have hNl:(addN (addN N s0) s2).length ≤ 1000000:=by have:=addN_len N s0;have:=addN_len (addN N s0) s2;omega
 unfold EdgeP
 dsimp only
 obtain ⟨M,hM⟩:∃ u,addN (addN N s0) s2 = u:=⟨_,rfl⟩
 rw [hM] at hNl hi0 hi2 hm0 hm2 H3 ⊢
 rw [hi] at hi0 hm0 ⊢
 rw [hj] at hi2 hm2 ⊢
 have HI:=Lib.hid (And.intro hM (And.intro hi0 hi2))
 clear hi hj hM hi0 hi2
 -- out
 have H5:Hid (GrAt W3 F3 p M U V cnt∧Upd F W0 W3∧∀ k,F3 k→F k ∨ W0.heap.size ≤ k):=H3
 obtain ⟨O,⟨r,nv,ov,iv,fo,fi⟩,hg,hFO⟩:=H5.out.1
 obtain ⟨g,c,e,eo,cu,fu⟩:=row_get hg.ro hm0
 dsimp only at e
 subst e
 obtain ⟨A,cA,eA,-,-⟩:=own_form (hg.fo i)
 dsimp only at eA cu
 rw [eA] at cu
 have own0:=hg.fo i
 dsimp only at own0
 rw [eA] at own0
 have hup:=HG.out.2.2.2.1 i
 obtain ⟨L,hL⟩:∃ L,U i = L:=⟨_,rfl⟩
 obtain ⟨l,hl0⟩:∃ l,L.length = l:=⟨_,rfl⟩
 rw [hL] at hup own0 eA cu
 have hcon:=put_any W3.drew 0 A cA L ⟨s1,(j:Int)⟩ own0 hup.1 (Nat.zero_le _) (by omega)
 rw [hl0] at hcon eA cu
 unfold Hp.agg at hcon
 dsimp only at hcon
 have q2:W3.cell? ⟨p,2,none⟩ = some (.slice (some ⟨g,0,none⟩) M.length c):=hg.blk.cell 2
 have og:O g = some .o:=hg.oo g rfl
 have npg:p ≠ g:=fun e => by rw [← e,hg.op] at og;cases og
 have hgx5:∀ k,O k ≠ none→¬ k = w.heap.size:=fun k hk e => by
  have h1:=H5.out.2.2 k (by rw [hFO];exact hk)
  rcases h1 with h1 | h1
  ·have:=HG.out.2.2.2.2.2 _ h1;omega
  ·omega
 have STAY:=Lib.hid (show ∀ W,Upd (fun k => (fo i).ownBlock = some k) W3 W→W.cell? ⟨p,2,none⟩ = some (.slice (some ⟨g,0,none⟩) M.length c)∧W.cell? ⟨g,i,none⟩ = some (.slice A l cA)∧W.cell? ⟨w.heap.size,1,none⟩ = some (.string s1) from fun W hu => by
  have no:∀ k,(fo i).ownBlock = some k→O k = some (.oo i):=fun k hk => hg.oU i k hk
  refine ⟨(hg.blk.upd hu (fun e => by have:=no p e;rw [hg.op] at this;cases this)).cell 2,?_,?_⟩
  ·rw [← cu]
   exact hu.cell (p:=⟨g,i,none⟩) (hg.lt g (by rw [og];nofun)) (fun e => by have:=no g e;rw [og] at this;cases this)
  ·rw [← GX.out _ H5.out.2.1]
   exact hu.cell (p:=⟨w.heap.size,1,none⟩) (Nat.lt_of_lt_of_le hgx H5.out.2.1.size) (fun e => hgx5 _ (by rw [no _ e];nofun) rfl))
 have FRO:=Lib.hid (show ∀ W,Upd (fun k => (fo i).ownBlock = some k) W3 W→W.frozen? ⟨g,i,none⟩ = false from fun W hu => by
  have no:∀ k,(fo i).ownBlock = some k→O k = some (.oo i):=fun k hk => hg.oU i k hk
  exact (row_get (ownsRow_upd hg.ro hu (fun k hk e => by
   have h1:=no k e
   rw [hg.oo k hk] at h1
   cases h1)) hm0).elim fun g' h => by
    obtain ⟨c',e1,-,-,h4⟩:=h
    injection e1 with e1
    injection e1 with e1
    injection e1 with e1
    rw [e1]
    exact h4)
 have HGG:=Lib.hid (And.intro hg (And.intro hFO (And.intro eA (And.intro hL hl0))))
 have hS:=STAY.out W3.drew (Upd.refl _ _).drew
 clear hg hFO eA hL own0 hup og npg hgx5 q2 cu fu eo
 have hml:(i:Int) < (M.length:Int):=by omega
 go_upto_region 2 with (fail)
 refine wp_region_ord (fun W => W.cell? ⟨p,2,none⟩ = some (.slice (some ⟨g,0,none⟩) M.length c)∧W.cell? ⟨g,i,none⟩ = some (.slice A l cA)∧W.cell? ⟨w.heap.size,1,none⟩ = some (.string s1)) 18 [(0,true),(1,true),(2,true),(3,true),(4,true),(5,true),(6,true),(7,true),(8,true),(9,true),(10,true),(11,true),(12,true),(13,true),(14,true),(15,true),(16,false),(17,true),(18,false)] (by kernel_rfl) (by kernel_rfl) (fun _ _ d _ _ h => by cases d <;> exact h) hS ?_
 have HU5:=Lib.hid (show Upd (fun _ => False) W3 W3.drew from (Upd.refl _ _).drew)
 generalize W3.drew = W4 at HU5 hS hcon ⊢
 iterate 16 (refine ord_takeA rfl ?_;(try simp only [Act.put,gA,gS,gZ,sA,sZ,sS]))
 refine ord_do rfl rfl (fun K hK => ?_)
 go_simp
 refine hcon.mono ?_
 clear hcon hS
 rintro e W6 ⟨A6,c6,rfl,o6,u6,p6⟩
 have u7:Upd (fun k => (fo i).ownBlock = some k) W3 W6:=(HU5.out.mono (fun _ _ h => h.elim)).trans u6 (fun k hk => .inl (by rw [HGG.out.2.2.1];exact hk))
 have NX:=Lib.hid (HGG.out.1.setO hm0 o6 u7 (fun k hk => (p6 k hk).imp (fun h => by show (fo i).ownBlock = some k;rw [HGG.out.2.2.1];exact h) (fun h => Nat.le_trans HU5.out.size h)))
 have hS:=STAY.out _ u7
 have r6:=hS.2.1
 have f6:=FRO.out _ u7
 clear u6 u7 o6 p6
 refine hK _ _ (fun _ => hS) ?_
 clear hK K
 (try simp only [Act.put,gA,gS,gZ,sA,sZ,sS])
 (refine ord_takeA rfl ?_;(try simp only [Act.put,gA,gS,gZ,sA,sZ,sS]))
 refine ord_do rfl rfl (fun K hK => ?_)
 go_simp
 refine hK _ _ (fun h => absurd rfl h) ?_
 clear hK K hS r6 f6
 (try simp only [Act.put,gA,gS,gZ,sA,sZ,sS])
 refine ord_done ?_
 generalize W6.setCell ⟨g,i,none⟩ _ = W7 at NX ⊢
 have H7:Hid (∃ F9,GrAt W7 F9 p M (fset U i (putH (U i) ⟨s1,(j:Int)⟩)) V cnt∧Upd F W0 W7∧∀ k,F9 k→F k ∨ W0.heap.size ≤ k):=by
  obtain ⟨F9,g9,u9,n9⟩:=NX.out
  refine Lib.hid ⟨F9,by rw [HGG.out.2.2.2.1];exact g9,H5.out.2.1.trans u9 (fun k hk => H5.out.2.2 k (by rw [HGG.out.2.1];exact hk)),fun k hk => ?_⟩
  rcases n9 k hk with h | h
  ·exact H5.out.2.2 k (by rw [HGG.out.2.1];exact h)
  ·exact .inr (Nat.le_trans H5.out.2.1.size h)
 clear NX HGG STAY FRO HU5 H5 hml
 clear H3
 obtain ⟨F7,hF7⟩:=H7.out
 have H7b:=Lib.hid hF7
 clear hF7 H7
 -- in
 have H5:Hid (GrAt W7 F7 p M (fset U i (putH (U i) ⟨s1,(j:Int)⟩)) V cnt∧Upd F W0 W7∧∀ k,F7 k→F k ∨ W0.heap.size ≤ k):=H7b
 obtain ⟨O,⟨r,nv,ov,iv,fo,fi⟩,hg,hFO⟩:=H5.out.1
 obtain ⟨g,c,e,eo,cu,fu⟩:=row_get hg.ri hm2
 dsimp only at e
 subst e
 obtain ⟨A,cA,eA,-,-⟩:=own_form (hg.fi j)
 dsimp only at eA cu
 rw [eA] at cu
 have own0:=hg.fi j
 dsimp only at own0
 rw [eA] at own0
 have hup:=HG.out.2.2.2.2.1 j
 obtain ⟨L,hL⟩:∃ L,V j = L:=⟨_,rfl⟩
 obtain ⟨l,hl0⟩:∃ l,L.length = l:=⟨_,rfl⟩
 rw [hL] at hup own0 eA cu
 have hcon:=put_any W7.drew 0 A cA L ⟨s1,(i:Int)⟩ own0 hup.1 (Nat.zero_le _) (by omega)
 rw [hl0] at hcon eA cu
 unfold Hp.agg at hcon
 dsimp only at hcon
 have q2:W7.cell? ⟨p,3,none⟩ = some (.slice (some ⟨g,0,none⟩) M.length c):=hg.blk.cell 3
 have og:O g = some .i:=hg.oi g rfl
 have npg:p ≠ g:=fun e => by rw [← e,hg.op] at og;cases og
 have hgx5:∀ k,O k ≠ none→¬ k = w.heap.size:=fun k hk e => by
  have h1:=H5.out.2.2 k (by rw [hFO];exact hk)
  rcases h1 with h1 | h1
  ·have:=HG.out.2.2.2.2.2 _ h1;omega
  ·omega
 have STAY:=Lib.hid (show ∀ W,Upd (fun k => (fi j).ownBlock = some k) W7 W→W.cell? ⟨p,3,none⟩ = some (.slice (some ⟨g,0,none⟩) M.length c)∧W.cell? ⟨g,j,none⟩ = some (.slice A l cA)∧W.cell? ⟨w.heap.size,1,none⟩ = some (.string s1) from fun W hu => by
  have no:∀ k,(fi j).ownBlock = some k→O k = some (.ii j):=fun k hk => hg.oV j k hk
  refine ⟨(hg.blk.upd hu (fun e => by have:=no p e;rw [hg.op] at this;cases this)).cell 3,?_,?_⟩
  ·rw [← cu]
   exact hu.cell (p:=⟨g,j,none⟩) (hg.lt g (by rw [og];nofun)) (fun e => by have:=no g e;rw [og] at this;cases this)
  ·rw [← GX.out _ H5.out.2.1]
   exact hu.cell (p:=⟨w.heap.size,1,none⟩) (Nat.lt_of_lt_of_le hgx H5.out.2.1.size) (fun e => hgx5 _ (by rw [no _ e];nofun) rfl))
 have FRO:=Lib.hid (show ∀ W,Upd (fun k => (fi j).ownBlock = some k) W7 W→W.frozen? ⟨g,j,none⟩ = false from fun W hu => by
  have no:∀ k,(fi j).ownBlock = some k→O k = some (.ii j):=fun k hk => hg.oV j k hk
  exact (row_get (ownsRow_upd hg.ri hu (fun k hk e => by
   have h1:=no k e
   rw [hg.oi k hk] at h1
   cases h1)) hm2).elim fun g' h => by
    obtain ⟨c',e1,-,-,h4⟩:=h
    injection e1 with e1
    injection e1 with e1
    injection e1 with e1
    rw [e1]
    exact h4)
 have HGG:=Lib.hid (And.intro hg (And.intro hFO (And.intro eA (And.intro hL hl0))))
 have hS:=STAY.out W7.drew (Upd.refl _ _).drew
 clear hg hFO eA hL own0 hup og npg hgx5 q2 cu fu eo
 have hml:(j:Int) < (M.length:Int):=by omega
 go_upto_region 3 with (fail)
 refine wp_region_ord (fun W => W.cell? ⟨p,3,none⟩ = some (.slice (some ⟨g,0,none⟩) M.length c)∧W.cell? ⟨g,j,none⟩ = some (.slice A l cA)∧W.cell? ⟨w.heap.size,1,none⟩ = some (.string s1)) 18 [(0,true),(1,true),(2,true),(3,true),(4,true),(5,true),(6,true),(7,true),(8,true),(9,true),(10,true),(11,true),(12,true),(13,true),(14,true),(15,true),(16,false),(17,true),(18,false)] (by kernel_rfl) (by kernel_rfl) (fun _ _ d _ _ h => by cases d <;> exact h) hS ?_
 have HU5:=Lib.hid (show Upd (fun _ => False) W7 W7.drew from (Upd.refl _ _).drew)
 generalize W7.drew = W4 at HU5 hS hcon ⊢
 iterate 16 (refine ord_takeA rfl ?_;(try simp only [Act.put,gA,gS,gZ,sA,sZ,sS]))
 refine ord_do rfl rfl (fun K hK => ?_)
 go_simp
 refine hcon.mono ?_
 clear hcon hS
 rintro e W6 ⟨A6,c6,rfl,o6,u6,p6⟩
 have u7:Upd (fun k => (fi j).ownBlock = some k) W7 W6:=(HU5.out.mono (fun _ _ h => h.elim)).trans u6 (fun k hk => .inl (by rw [HGG.out.2.2.1];exact hk))
 have NX:=Lib.hid (HGG.out.1.setI hm2 o6 u7 (fun k hk => (p6 k hk).imp (fun h => by show (fi j).ownBlock = some k;rw [HGG.out.2.2.1];exact h) (fun h => Nat.le_trans HU5.out.size h)))
 have hS:=STAY.out _ u7
 have r6:=hS.2.1
 have f6:=FRO.out _ u7
 clear u6 u7 o6 p6
 refine hK _ _ (fun _ => hS) ?_
 clear hK K
 (try simp only [Act.put,gA,gS,gZ,sA,sZ,sS])
 (refine ord_takeA rfl ?_;(try simp only [Act.put,gA,gS,gZ,sA,sZ,sS]))
 refine ord_do rfl rfl (fun K hK => ?_)
 go_simp
 refine hK _ _ (fun h => absurd rfl h) ?_
 clear hK K hS r6 f6
 (try simp only [Act.put,gA,gS,gZ,sA,sZ,sS])
 refine ord_done ?_
 generalize W6.setCell ⟨g,j,none⟩ _ = W9 at NX ⊢
 have H9:Hid (∃ F9,GrAt W9 F9 p M (fset U i (putH (U i) ⟨s1,(j:Int)⟩)) (fset V j (putH (V j) ⟨s1,(i:Int)⟩)) cnt∧Upd F W0 W9∧∀ k,F9 k→F k ∨ W0.heap.size ≤ k):=by
  obtain ⟨F9,g9,u9,n9⟩:=NX.out
  refine Lib.hid ⟨F9,by rw [HGG.out.2.2.2.1];exact g9,H5.out.2.1.trans u9 (fun k hk => H5.out.2.2 k (by rw [HGG.out.2.1];exact hk)),fun k hk => ?_⟩
  rcases n9 k hk with h | h
  ·exact H5.out.2.2 k (by rw [HGG.out.2.1];exact h)
  ·exact .inr (Nat.le_trans H5.out.2.1.size h)
 clear NX HGG STAY FRO HU5 H5 hml
 clear H7b
 obtain ⟨F9,hF9⟩:=H9.out
 obtain ⟨O,D,hg,hFO⟩:=hF9.1
 have q4:W9.cell? ⟨p,4,none⟩ = some (.int .i64 cnt):=hg.blk.cell 4
 have f4:W9.frozen? ⟨p,4,none⟩ = false:=hg.blk.frozen 4
 have hw:IntKind.i64.wrap (cnt + 1) = cnt + 1:=by rw [IntKind.wrap_i64];omega
 have NX:=Lib.hid (hg.setC (cnt + 1))
 have HF:=Lib.hid (And.intro hF9 hFO)
 clear hF9 hFO hg H9
 go_wp2
 generalize W9.setCell ⟨p,4,none⟩ (.int .i64 (cnt + 1)) = WZ at NX ⊢
 go_end0
 refine ⟨rfl,?_⟩
 unfold hopsU hopsV
 dsimp only
 rw [HI.out.1,HI.out.2.1,HI.out.2.2]
 obtain ⟨FZ,gz,uz,nz⟩:=NX.out
 refine ⟨FZ,gz,?_,?_⟩
 ·exact ((Upd.of_below HG.out.2.2.1 F).trans HF.out.1.2.1 (fun k h => .inl h)).trans uz (fun k hk => (HF.out.1.2.2 k (by rw [HF.out.2];exact hk)).imp id fun h => Nat.le_trans HG.out.2.2.1.size h)
 ·intro k hk
  have hw0:=HG.out.2.2.1.size
  rcases nz k hk with h | h
  ·exact (HF.out.1.2.2 k (by rw [HF.out.2];exact h)).imp id fun h => Nat.le_trans hw0 h
  ·exact .inr (Nat.le_trans hw0 (Nat.le_trans HF.out.1.2.1.size h))
end Go.Proofs.YtddffnonlmfhdaaGreatDoor
namespace Go.Proofs.YtddffnonlmfhdaaGreatDoor
open Go.RowKit
def ofN (N:List Txt) (E:List Ed):List Txt:=if ofI N E = 0 then gN N E else []
def ofE (N:List Txt) (E:List Ed):List Ed:=if ofI N E = 0 then gE E else []
def OfQ (w:World) (N:List Txt) (E:List Ed) (e:Ending) (w':World):Prop:=
 ∃ A c B d,e = .returned (.tuple #[twoV A (ofN N E).length c B (ofE N E).length d,.int .i64 (ofI N E)])∧w'.ownsRow w.heap.size 9 1 (.slice A (ofN N E).length c) (ofN N E).length (txtCells (ofN N E))∧w'.ownsRow w.heap.size 32 3 (.slice B (ofE N E).length d) (ofE N E).length (edCells (ofE N E))∧Below w.heap.size w w'
theorem OfQ.nil {w w':World} {N:List Txt} {E:List Ed} {z:Int} (h:ofI N E = z) (hz:z ≠ 0) (hb:Below w.heap.size w w'):OfQ w N E (.returned (.tuple #[twoV none 0 0 none 0 0,.int .i64 z])) w':=by
 subst h
 unfold OfQ ofN ofE
 rw [if_neg hz,if_neg hz]
 exact ⟨none,0,none,0,rfl,World.ownsRow_nil _ _ _ _,World.ownsRow_nil _ _ _ _,hb⟩
theorem OfP.q {w w':World} {N:List Txt} {E:List Ed} {e:Ending} (h:OfP w N E e w'):OfQ w N E e w':=by
 rcases h with ⟨hn,rfl,hb⟩ | ⟨hn,⟨hc,A,c,B,d,rfl,o1,o2,hb⟩ | ⟨hc,rfl,hb⟩⟩
 ·exact OfQ.nil (by rw [ofI,if_pos hn]) (by decide) hb
 ·have h0:ofI N E = 0:=by rw [ofI,if_neg (by rw [hn];simp),hc]
  unfold OfQ ofN ofE
  rw [if_pos h0,if_pos h0,h0]
  exact ⟨A,c,B,d,rfl,o1,o2,hb⟩
 ·exact OfQ.nil (by rw [ofI,if_neg (by rw [hn];simp)]) hc hb
theorem of_any (w:World) (A:Option Addr) (c:Nat) (B:Option Addr) (d:Nat) (N:List Txt) (E:List Ed) (h:ForG w A c B d N E) (hb:(N.length + E.length * 2) * 16 ≤ 140737488355328) :
  Calls Tryz.prog 108 #[.slice A N.length c,.slice B E.length d] w (OfQ w N E):=(eof_any w A c B d N E h hb).mono fun _ _ h => h.q
end Go.Proofs.YtddffnonlmfhdaaGreatDoor
namespace Go.Proofs.YtddffnonlmfhdaaGreatDoor
open Go.RowKit
theorem check_caps {N:List Txt} {E:List Ed} (h:checkI N E = 0):formB N E = true∧namedB N E = true∧capsI N E = 0:=by
 unfold checkI at h
 split at h
 ·cases h
 split at h
 ·cases h
 ·rename_i h1 h2
  exact ⟨by simpa using h1,by simpa using h2,h⟩
theorem caps_le {N:List Txt} {E:List Ed} (h:capsI N E = 0):N.length ≤ 32∧(setOf ltT (lbs E)).length ≤ 16∧E.length ≤ 256∧(textL N E).length ≤ 2048:=by
 unfold capsI at h
 split at h
 ·cases h
 split at h
 ·cases h
 split at h
 ·cases h
 split at h
 ·cases h
 ·omega
theorem setOf_eq {α:Type} [DecidableEq α] {lt:α→α→Bool} (hs:Sto lt) {L M:List α} (hu:upB lt M = true) (hm:∀ x,x ∈ M ↔ x ∈ L):setOf lt L = M:=
 (SetOf.is hs ⟨rises_of_up hs hu,hm⟩).symm
end Go.Proofs.YtddffnonlmfhdaaGreatDoor
namespace Go.Proofs.YtddffnonlmfhdaaGreatDoor
open Go.RowKit
theorem own_le2 {w:World} {base e size n:Nat} {v:Value} {xs:List Value} (h:w.ownsRow base e size v n xs):∃ A c,v = .slice A n c∧n ≤ c∧RowR w A xs:=by
 obtain ⟨A,c,rfl,hc,-⟩:=own_form h
 exact ⟨A,c,rfl,hc,RowR.of_own h⟩
end Go.Proofs.YtddffnonlmfhdaaGreatDoor
