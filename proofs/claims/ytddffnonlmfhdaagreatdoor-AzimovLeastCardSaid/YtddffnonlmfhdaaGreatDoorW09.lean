/- Blocks of bits: the product. (Written by mkAzC.py.); Matrices of bits: or of any block, Put. (Written by mkAzD.py.); Matrices of bits: Put. (Written by mkAzE.py.); Matrices of bits: Join; Graphs: an edge that comes. -/
import Derived.Test.YtddffnonlmfhdaaGreatDoorW08
import Derived.Test.YtddffnonlmfhdaaGreatDoorW05
import Derived.Deep.Cut
set_option linter.unusedVariables false
set_option linter.unusedSimpArgs false
set_option maxHeartbeats 16000000
set_option maxRecDepth 100000
namespace Go.Proofs.YtddffnonlmfhdaaGreatDoor
open Go.RowKit
def orL (b:List Nat):List Nat→Nat→Nat
 | [],v => v
 | c :: l,v => orL b l (v ||| b.getD c 0)
def mulW (a b:List Nat):List Nat:=wf (fun i => orL b (bitsL 64 0 (a.getD i 0)) 0)
theorem orL_fit {b:List Nat} (h:Wd b):∀ (l:List Nat) (v:Nat),v < 18446744073709551616→orL b l v < 18446744073709551616
 | [],_,hv => hv
 | c :: l,v,hv => orL_fit h l _ (Nat.or_lt_two_pow (n:=64) hv (getD_fit h c))
theorem mulW_wd (a:List Nat) {b:List Nat} (h:Wd b):Wd (mulW a b):=wf_wd (fun _ _ => orL_fit h _ _ (by decide))
theorem orL_bit (b:List Nat) (j:Nat):∀ (l:List Nat) (v:Nat),(orL b l v).testBit j = true ↔ v.testBit j = true ∨ ∃ c ∈ l,(b.getD c 0).testBit j = true
 | [],v => by simp [orL]
 | c :: l,v => by
  rw [orL,orL_bit b j l,Nat.testBit_or,Bool.or_eq_true]
  constructor
  ·rintro ((h | h) | ⟨d,hd,h⟩)
   ·exact .inl h
   ·exact .inr ⟨c,List.mem_cons_self,h⟩
   ·exact .inr ⟨d,List.mem_cons_of_mem _ hd,h⟩
  ·rintro (h | ⟨d,hd,h⟩)
   ·exact .inl (.inl h)
   ·rcases List.mem_cons.1 hd with rfl | hd
    ·exact .inl (.inr h)
    ·exact .inr ⟨d,hd,h⟩
theorem mul_bit {a b:List Nat} (_ha:Wd a) (_hb:Wd b) {i j:Nat} (hi:i < 64):bitW (mulW a b) i j = true ↔ ∃ k,k < 64∧bitW a i k = true∧bitW b k j = true:=by
 unfold bitW mulW
 rw [wf_at _ hi,Option.getD_some,orL_bit]
 constructor
 ·rintro (h | ⟨c,hc,h⟩)
  ·simp at h
  ·obtain ⟨t,ht,rfl,hb⟩:=(bitsL_mem _ _ _ _).1 hc
   rw [Nat.zero_add] at h
   exact ⟨t,ht,hb,h⟩
 ·rintro ⟨k,hk,h1,h2⟩
  exact .inr ⟨k,(bitsL_mem _ _ _ _).2 ⟨k,hk,(Nat.zero_add k).symm,h1⟩,h2⟩
theorem wf_mid {f g:Nat→Nat} {k:Nat} (h:k < 64) (v u:Nat):(wf (fun i => if i < k then f i else if i = k then v else g i)).set k u = wf (fun i => if i < k then f i else if i = k then u else g i):=by
 rw [wf_set _ h]
 apply wf_congr
 intro i _
 by_cases e:i = k
 ·subst e;rw [if_pos rfl,if_neg (Nat.lt_irrefl i),if_pos rfl]
 ·rw [if_neg e]
  by_cases e2:i < k
  ·rw [if_pos e2,if_pos e2]
  ·rw [if_neg e2,if_neg e2,if_neg e,if_neg e]
theorem wf_in {f:Nat→Nat} {k:Nat}:wf (fun i => if i < k then f i else 0) = wf (fun i => if i < k then f i else if i = k then 0 else 0):=wf_congr (fun i _ => by
 by_cases e:i < k
 ·rw [if_pos e,if_pos e]
 ·rw [if_neg e,if_neg e];split <;> rfl)
theorem wf_out {f:Nat→Nat} {k:Nat}:wf (fun i => if i < k then f i else if i = k then f k else 0) = wf (fun i => if i < k + 1 then f i else 0):=wf_congr (fun i _ => by
 by_cases e:i < k
 ·rw [if_pos e,if_pos (by omega)]
 ·rw [if_neg e]
  by_cases e2:i = k
  ·subst e2;rw [if_pos rfl,if_pos (by omega)]
  ·rw [if_neg e2,if_neg (by omega)])
theorem bmul_any (w:World) (a b:List Nat) (ha:Wd a) (hb:Wd b) (hT:TabW w):Calls Tryz.prog 200 #[wdV a,wdV b] w (Sam w (wdV (mulW a b))):=by
 have k0:=(((Blk.new w 168 (wdC a).toArray).alloc (.cells (wdC b).toArray 168)).alloc (.cells #[Value.int .u64 0,.int .u64 0,.int .u64 0,.int .u64 0,.int .u64 0,.int .u64 0,.int .u64 0,.int .u64 0,.int .u64 0,.int .u64 0,.int .u64 0,.int .u64 0,.int .u64 0,.int .u64 0,.int .u64 0,.int .u64 0,.int .u64 0,.int .u64 0,.int .u64 0,.int .u64 0,.int .u64 0,.int .u64 0,.int .u64 0,.int .u64 0,.int .u64 0,.int .u64 0,.int .u64 0,.int .u64 0,.int .u64 0,.int .u64 0,.int .u64 0,.int .u64 0,.int .u64 0,.int .u64 0,.int .u64 0,.int .u64 0,.int .u64 0,.int .u64 0,.int .u64 0,.int .u64 0,.int .u64 0,.int .u64 0,.int .u64 0,.int .u64 0,.int .u64 0,.int .u64 0,.int .u64 0,.int .u64 0,.int .u64 0,.int .u64 0,.int .u64 0,.int .u64 0,.int .u64 0,.int .u64 0,.int .u64 0,.int .u64 0,.int .u64 0,.int .u64 0,.int .u64 0,.int .u64 0,.int .u64 0,.int .u64 0,.int .u64 0,.int .u64 0] 168)).alloc (.cells #[Value.int .u64 0,.int .u64 0,.int .u64 0,.int .u64 0,.int .u64 0,.int .u64 0,.int .u64 0,.int .u64 0,.int .u64 0,.int .u64 0,.int .u64 0,.int .u64 0,.int .u64 0,.int .u64 0,.int .u64 0,.int .u64 0,.int .u64 0,.int .u64 0,.int .u64 0,.int .u64 0,.int .u64 0,.int .u64 0,.int .u64 0,.int .u64 0,.int .u64 0,.int .u64 0,.int .u64 0,.int .u64 0,.int .u64 0,.int .u64 0,.int .u64 0,.int .u64 0,.int .u64 0,.int .u64 0,.int .u64 0,.int .u64 0,.int .u64 0,.int .u64 0,.int .u64 0,.int .u64 0,.int .u64 0,.int .u64 0,.int .u64 0,.int .u64 0,.int .u64 0,.int .u64 0,.int .u64 0,.int .u64 0,.int .u64 0,.int .u64 0,.int .u64 0,.int .u64 0,.int .u64 0,.int .u64 0,.int .u64 0,.int .u64 0,.int .u64 0,.int .u64 0,.int .u64 0,.int .u64 0,.int .u64 0,.int .u64 0,.int .u64 0,.int .u64 0] 168)
 have k1:=((Blk.new (w.alloc (.cells (wdC a).toArray 168)) 168 (wdC b).toArray).alloc (.cells #[Value.int .u64 0,.int .u64 0,.int .u64 0,.int .u64 0,.int .u64 0,.int .u64 0,.int .u64 0,.int .u64 0,.int .u64 0,.int .u64 0,.int .u64 0,.int .u64 0,.int .u64 0,.int .u64 0,.int .u64 0,.int .u64 0,.int .u64 0,.int .u64 0,.int .u64 0,.int .u64 0,.int .u64 0,.int .u64 0,.int .u64 0,.int .u64 0,.int .u64 0,.int .u64 0,.int .u64 0,.int .u64 0,.int .u64 0,.int .u64 0,.int .u64 0,.int .u64 0,.int .u64 0,.int .u64 0,.int .u64 0,.int .u64 0,.int .u64 0,.int .u64 0,.int .u64 0,.int .u64 0,.int .u64 0,.int .u64 0,.int .u64 0,.int .u64 0,.int .u64 0,.int .u64 0,.int .u64 0,.int .u64 0,.int .u64 0,.int .u64 0,.int .u64 0,.int .u64 0,.int .u64 0,.int .u64 0,.int .u64 0,.int .u64 0,.int .u64 0,.int .u64 0,.int .u64 0,.int .u64 0,.int .u64 0,.int .u64 0,.int .u64 0,.int .u64 0] 168)).alloc (.cells #[Value.int .u64 0,.int .u64 0,.int .u64 0,.int .u64 0,.int .u64 0,.int .u64 0,.int .u64 0,.int .u64 0,.int .u64 0,.int .u64 0,.int .u64 0,.int .u64 0,.int .u64 0,.int .u64 0,.int .u64 0,.int .u64 0,.int .u64 0,.int .u64 0,.int .u64 0,.int .u64 0,.int .u64 0,.int .u64 0,.int .u64 0,.int .u64 0,.int .u64 0,.int .u64 0,.int .u64 0,.int .u64 0,.int .u64 0,.int .u64 0,.int .u64 0,.int .u64 0,.int .u64 0,.int .u64 0,.int .u64 0,.int .u64 0,.int .u64 0,.int .u64 0,.int .u64 0,.int .u64 0,.int .u64 0,.int .u64 0,.int .u64 0,.int .u64 0,.int .u64 0,.int .u64 0,.int .u64 0,.int .u64 0,.int .u64 0,.int .u64 0,.int .u64 0,.int .u64 0,.int .u64 0,.int .u64 0,.int .u64 0,.int .u64 0,.int .u64 0,.int .u64 0,.int .u64 0,.int .u64 0,.int .u64 0,.int .u64 0,.int .u64 0,.int .u64 0] 168)
 have k2:=(Blk.new ((w.alloc (.cells (wdC a).toArray 168)).alloc (.cells (wdC b).toArray 168)) 168 #[Value.int .u64 0,.int .u64 0,.int .u64 0,.int .u64 0,.int .u64 0,.int .u64 0,.int .u64 0,.int .u64 0,.int .u64 0,.int .u64 0,.int .u64 0,.int .u64 0,.int .u64 0,.int .u64 0,.int .u64 0,.int .u64 0,.int .u64 0,.int .u64 0,.int .u64 0,.int .u64 0,.int .u64 0,.int .u64 0,.int .u64 0,.int .u64 0,.int .u64 0,.int .u64 0,.int .u64 0,.int .u64 0,.int .u64 0,.int .u64 0,.int .u64 0,.int .u64 0,.int .u64 0,.int .u64 0,.int .u64 0,.int .u64 0,.int .u64 0,.int .u64 0,.int .u64 0,.int .u64 0,.int .u64 0,.int .u64 0,.int .u64 0,.int .u64 0,.int .u64 0,.int .u64 0,.int .u64 0,.int .u64 0,.int .u64 0,.int .u64 0,.int .u64 0,.int .u64 0,.int .u64 0,.int .u64 0,.int .u64 0,.int .u64 0,.int .u64 0,.int .u64 0,.int .u64 0,.int .u64 0,.int .u64 0,.int .u64 0,.int .u64 0,.int .u64 0]).alloc (.cells #[Value.int .u64 0,.int .u64 0,.int .u64 0,.int .u64 0,.int .u64 0,.int .u64 0,.int .u64 0,.int .u64 0,.int .u64 0,.int .u64 0,.int .u64 0,.int .u64 0,.int .u64 0,.int .u64 0,.int .u64 0,.int .u64 0,.int .u64 0,.int .u64 0,.int .u64 0,.int .u64 0,.int .u64 0,.int .u64 0,.int .u64 0,.int .u64 0,.int .u64 0,.int .u64 0,.int .u64 0,.int .u64 0,.int .u64 0,.int .u64 0,.int .u64 0,.int .u64 0,.int .u64 0,.int .u64 0,.int .u64 0,.int .u64 0,.int .u64 0,.int .u64 0,.int .u64 0,.int .u64 0,.int .u64 0,.int .u64 0,.int .u64 0,.int .u64 0,.int .u64 0,.int .u64 0,.int .u64 0,.int .u64 0,.int .u64 0,.int .u64 0,.int .u64 0,.int .u64 0,.int .u64 0,.int .u64 0,.int .u64 0,.int .u64 0,.int .u64 0,.int .u64 0,.int .u64 0,.int .u64 0,.int .u64 0,.int .u64 0,.int .u64 0,.int .u64 0] 168)
 have k3:=Blk.new (((w.alloc (.cells (wdC a).toArray 168)).alloc (.cells (wdC b).toArray 168)).alloc (.cells #[Value.int .u64 0,.int .u64 0,.int .u64 0,.int .u64 0,.int .u64 0,.int .u64 0,.int .u64 0,.int .u64 0,.int .u64 0,.int .u64 0,.int .u64 0,.int .u64 0,.int .u64 0,.int .u64 0,.int .u64 0,.int .u64 0,.int .u64 0,.int .u64 0,.int .u64 0,.int .u64 0,.int .u64 0,.int .u64 0,.int .u64 0,.int .u64 0,.int .u64 0,.int .u64 0,.int .u64 0,.int .u64 0,.int .u64 0,.int .u64 0,.int .u64 0,.int .u64 0,.int .u64 0,.int .u64 0,.int .u64 0,.int .u64 0,.int .u64 0,.int .u64 0,.int .u64 0,.int .u64 0,.int .u64 0,.int .u64 0,.int .u64 0,.int .u64 0,.int .u64 0,.int .u64 0,.int .u64 0,.int .u64 0,.int .u64 0,.int .u64 0,.int .u64 0,.int .u64 0,.int .u64 0,.int .u64 0,.int .u64 0,.int .u64 0,.int .u64 0,.int .u64 0,.int .u64 0,.int .u64 0,.int .u64 0,.int .u64 0,.int .u64 0,.int .u64 0] 168)) 168 #[Value.int .u64 0,.int .u64 0,.int .u64 0,.int .u64 0,.int .u64 0,.int .u64 0,.int .u64 0,.int .u64 0,.int .u64 0,.int .u64 0,.int .u64 0,.int .u64 0,.int .u64 0,.int .u64 0,.int .u64 0,.int .u64 0,.int .u64 0,.int .u64 0,.int .u64 0,.int .u64 0,.int .u64 0,.int .u64 0,.int .u64 0,.int .u64 0,.int .u64 0,.int .u64 0,.int .u64 0,.int .u64 0,.int .u64 0,.int .u64 0,.int .u64 0,.int .u64 0,.int .u64 0,.int .u64 0,.int .u64 0,.int .u64 0,.int .u64 0,.int .u64 0,.int .u64 0,.int .u64 0,.int .u64 0,.int .u64 0,.int .u64 0,.int .u64 0,.int .u64 0,.int .u64 0,.int .u64 0,.int .u64 0,.int .u64 0,.int .u64 0,.int .u64 0,.int .u64 0,.int .u64 0,.int .u64 0,.int .u64 0,.int .u64 0,.int .u64 0,.int .u64 0,.int .u64 0,.int .u64 0,.int .u64 0,.int .u64 0,.int .u64 0,.int .u64 0]
 simp only [World.size_alloc] at k1 k2 k3
 have u0:Below w.heap.size w ((((w.alloc (.cells (wdC a).toArray 168)).alloc (.cells (wdC b).toArray 168)).alloc (.cells #[Value.int .u64 0,.int .u64 0,.int .u64 0,.int .u64 0,.int .u64 0,.int .u64 0,.int .u64 0,.int .u64 0,.int .u64 0,.int .u64 0,.int .u64 0,.int .u64 0,.int .u64 0,.int .u64 0,.int .u64 0,.int .u64 0,.int .u64 0,.int .u64 0,.int .u64 0,.int .u64 0,.int .u64 0,.int .u64 0,.int .u64 0,.int .u64 0,.int .u64 0,.int .u64 0,.int .u64 0,.int .u64 0,.int .u64 0,.int .u64 0,.int .u64 0,.int .u64 0,.int .u64 0,.int .u64 0,.int .u64 0,.int .u64 0,.int .u64 0,.int .u64 0,.int .u64 0,.int .u64 0,.int .u64 0,.int .u64 0,.int .u64 0,.int .u64 0,.int .u64 0,.int .u64 0,.int .u64 0,.int .u64 0,.int .u64 0,.int .u64 0,.int .u64 0,.int .u64 0,.int .u64 0,.int .u64 0,.int .u64 0,.int .u64 0,.int .u64 0,.int .u64 0,.int .u64 0,.int .u64 0,.int .u64 0,.int .u64 0,.int .u64 0,.int .u64 0] 168)).alloc (.cells #[Value.int .u64 0,.int .u64 0,.int .u64 0,.int .u64 0,.int .u64 0,.int .u64 0,.int .u64 0,.int .u64 0,.int .u64 0,.int .u64 0,.int .u64 0,.int .u64 0,.int .u64 0,.int .u64 0,.int .u64 0,.int .u64 0,.int .u64 0,.int .u64 0,.int .u64 0,.int .u64 0,.int .u64 0,.int .u64 0,.int .u64 0,.int .u64 0,.int .u64 0,.int .u64 0,.int .u64 0,.int .u64 0,.int .u64 0,.int .u64 0,.int .u64 0,.int .u64 0,.int .u64 0,.int .u64 0,.int .u64 0,.int .u64 0,.int .u64 0,.int .u64 0,.int .u64 0,.int .u64 0,.int .u64 0,.int .u64 0,.int .u64 0,.int .u64 0,.int .u64 0,.int .u64 0,.int .u64 0,.int .u64 0,.int .u64 0,.int .u64 0,.int .u64 0,.int .u64 0,.int .u64 0,.int .u64 0,.int .u64 0,.int .u64 0,.int .u64 0,.int .u64 0,.int .u64 0,.int .u64 0,.int .u64 0,.int .u64 0,.int .u64 0,.int .u64 0] 168)):=by (repeat (first | exact Below.refl _ _ | apply Below.drew | refine Below.alloc ?_ (by first | exact Nat.le_refl _ | (simp;done) | (simp;omega)) _ | refine Below.setCell ?_ (by first | exact Nat.le_refl _ | (simp;done) | (simp;omega)) _))
 have H:=Lib.hid (And.intro k0 (And.intro k1 (And.intro (zero64_blk.mp k2) (And.intro (zero64_blk.mp k3) (And.intro u0 (And.intro ha (And.intro hb (And.intro (hT.upd (Upd.of_below u0 (fun _ => False)) hT.lt id) hT.lt))))))))
 have HIx:=Lib.hid (show ∀ (W:World) (k x:Nat),a[k]? = some x→(Instr.index 168 (.agg (wdC a).toArray) (.int .i64 (k:Int))).run Tryz.prog W = .ok (.int .u64 (x:Int)) W from fun W k x h => index_wd ha h)
 clear k0 k1 k2 k3 u0
 unfold wdV
 go_enter Tryz.func200,Tryz.ntmps200
 go_upto_region 2 with (fail)
 generalize (((w.alloc (.cells (wdC a).toArray 168)).alloc (.cells (wdC b).toArray 168)).alloc (.cells #[Value.int .u64 0,.int .u64 0,.int .u64 0,.int .u64 0,.int .u64 0,.int .u64 0,.int .u64 0,.int .u64 0,.int .u64 0,.int .u64 0,.int .u64 0,.int .u64 0,.int .u64 0,.int .u64 0,.int .u64 0,.int .u64 0,.int .u64 0,.int .u64 0,.int .u64 0,.int .u64 0,.int .u64 0,.int .u64 0,.int .u64 0,.int .u64 0,.int .u64 0,.int .u64 0,.int .u64 0,.int .u64 0,.int .u64 0,.int .u64 0,.int .u64 0,.int .u64 0,.int .u64 0,.int .u64 0,.int .u64 0,.int .u64 0,.int .u64 0,.int .u64 0,.int .u64 0,.int .u64 0,.int .u64 0,.int .u64 0,.int .u64 0,.int .u64 0,.int .u64 0,.int .u64 0,.int .u64 0,.int .u64 0,.int .u64 0,.int .u64 0,.int .u64 0,.int .u64 0,.int .u64 0,.int .u64 0,.int .u64 0,.int .u64 0,.int .u64 0,.int .u64 0,.int .u64 0,.int .u64 0,.int .u64 0,.int .u64 0,.int .u64 0,.int .u64 0] 168)).alloc (.cells #[Value.int .u64 0,.int .u64 0,.int .u64 0,.int .u64 0,.int .u64 0,.int .u64 0,.int .u64 0,.int .u64 0,.int .u64 0,.int .u64 0,.int .u64 0,.int .u64 0,.int .u64 0,.int .u64 0,.int .u64 0,.int .u64 0,.int .u64 0,.int .u64 0,.int .u64 0,.int .u64 0,.int .u64 0,.int .u64 0,.int .u64 0,.int .u64 0,.int .u64 0,.int .u64 0,.int .u64 0,.int .u64 0,.int .u64 0,.int .u64 0,.int .u64 0,.int .u64 0,.int .u64 0,.int .u64 0,.int .u64 0,.int .u64 0,.int .u64 0,.int .u64 0,.int .u64 0,.int .u64 0,.int .u64 0,.int .u64 0,.int .u64 0,.int .u64 0,.int .u64 0,.int .u64 0,.int .u64 0,.int .u64 0,.int .u64 0,.int .u64 0,.int .u64 0,.int .u64 0,.int .u64 0,.int .u64 0,.int .u64 0,.int .u64 0,.int .u64 0,.int .u64 0,.int .u64 0,.int .u64 0,.int .u64 0,.int .u64 0,.int .u64 0,.int .u64 0] 168) = W0 at H ⊢
 have hrg:=range_blk H.out.1
 have hsz:=info_wd ha
 go_wp2_with (refine wpList_load_mid rfl 168 _ rfl w.heap.size 0 rfl (wdC a) (.array 64 166) hrg Tryz.underlying168 rfl hsz ?_)
 clear hrg hsz
 go_loopw [9] (fun i wr => ∃ k:Nat,k ≤ 64∧i = .int .i64 k∧Hid (Upd (fun q => q = w.heap.size + 1 + 1 + 1) W0 wr∧Blk wr (w.heap.size + 1 + 1 + 1) 168 (wdC (wf (fun i => if i < k then orL b (bitsL 64 0 (a.getD i 0)) 0 else 0))).toArray)) (fun i _ => 64 - (intOf i).toNat)
 case atStart => exact ⟨0,Nat.zero_le _,rfl,Lib.hid ⟨Upd.refl _ _,by rw [wf_none (fun i => orL b (bitsL 64 0 (a.getD i 0)) 0) (fun _ => 0),← zero_wf];exact H.out.2.2.2.1⟩⟩
 case round =>
  obtain ⟨k,hk,rfl,hI⟩:=hrel
  by_cases hlt:k < 64
  ·have hltI:(k:Int) < (64:Int):=by omega
   have hkw:IntKind.i64.wrap ((k:Int) + 1) = (k:Int) + 1:=IntWalk.i64_in _ (by omega)
   obtain ⟨x,hx⟩:∃ x,a[k]? = some x:=⟨a[k]'(by rw [ha.len];exact hlt),List.getElem?_eq_getElem _⟩
   have hxd:a.getD k 0 = x:=by rw [List.getD_eq_getElem?_getD,hx];rfl
   have hix:=HIx.out wr k x hx
   have hx64:=ha.fit x (List.mem_of_getElem? hx)
   have HX:=Lib.hid (And.intro hxd hx64)
   clear hx hxd hx64
   go_wp2
   clear hix
   go_loopw [7] (fun t wr => ∃ y v:Nat,t = .int .u64 (y:Int)∧Hid (y < 18446744073709551616∧v < 18446744073709551616∧orL b (bitsL 64 0 y) v = orL b (bitsL 64 0 x) 0∧Upd (fun q => q = w.heap.size + 1 + 1 + 1) W0 wr∧Blk wr (w.heap.size + 1 + 1 + 1) 168 (wdC (wf (fun i => if i < k then orL b (bitsL 64 0 (a.getD i 0)) 0 else if i = k then v else 0))).toArray)) (fun t _ => (intOf t).toNat)
   case atStart => exact ⟨x,0,rfl,Lib.hid ⟨HX.out.2,by decide,rfl,hI.out.1,by rw [← wf_in];exact hI.out.2⟩⟩
   case round =>
    obtain ⟨y,v,rfl,hJ⟩:=hrel
    by_cases h0:y = 0
    ·subst h0
     have HE:=Lib.hid (show Upd (fun q => q = w.heap.size + 1 + 1 + 1) W0 wr∧Blk wr (w.heap.size + 1 + 1 + 1) 168 (wdC (wf (fun i => if i < k + 1 then orL b (bitsL 64 0 (a.getD i 0)) 0 else 0))).toArray from by
      obtain ⟨-,-,h3,h4,h5⟩:=hJ.out
      rw [bitsL_zero,orL] at h3
      refine ⟨h4,?_⟩
      rw [← wf_out (f:=fun i => orL b (bitsL 64 0 (a.getD i 0)) 0),HX.out.1,← h3]
      exact h5)
     go_wp2
     go_roundw
     case rel => exact ⟨k + 1,by omega,by go_num,HE⟩
     case measure => simp [intOf];omega
    ·have e1:((y:Int) == 0) = false:=by simp;omega
     obtain ⟨hy,hv,hor,hu,kp⟩:=hJ.out
     obtain ⟨c,hc⟩:∃ c,Lib.ctz 64 y = c:=⟨_,rfl⟩
     have hc64:c < 64:=by rw [← hc];exact (Lib.lowest_bit 64 y h0 hy).2
     have hT2:=H.out.2.2.2.2.2.2.2.1.upd hu (by have:=H.out.2.2.2.2.1.size;have:=H.out.2.2.2.2.2.2.2.2;omega) (by have:=H.out.2.2.2.2.2.2.2.2;omega)
     have hcon:=tz_any y hy h0 wr.drew hT2
     rw [hc] at hcon
     have kb:=H.out.2.1.upd hu (by omega)
     obtain ⟨z,hz⟩:∃ z,b.getD c 0 = z:=⟨_,rfl⟩
     have hz64:z < 18446744073709551616:=by rw [← hz];exact getD_fit hb c
     have cb:wr.drew.cell? ⟨w.heap.size + 1,c,none⟩ = some (.int .u64 (z:Int)):=(kb.drew.cell c).trans (by
      have hbl:c < b.length:=by rw [hb.len];exact hc64
      have:=wdC_at (r:=b) (k:=c) (x:=z) (by rw [← hz,List.getD_eq_getElem?_getD,List.getElem?_eq_getElem hbl];rfl)
      simpa using this)
     have cp:wr.drew.cell? ⟨w.heap.size + 1 + 1 + 1,k,none⟩ = some (.int .u64 (v:Int)):=(kp.drew.cell k).trans (by
      have:=wdC_at (wf_at (fun i => if i < k then orL b (bitsL 64 0 (a.getD i 0)) 0 else if i = k then v else 0) hlt)
      rw [if_neg (Nat.lt_irrefl k),if_pos rfl] at this
      simpa using this)
     have fp:=kp.drew.frozen k
     have hbo:=bits_or_u64_nat v z hv hz64
     have hb1:IntKind.u64.wrap ((y:Int) - 1) = ((y - 1:Nat):Int):=by rw [IntKind.wrap_u64];omega
     have hb2:bits .and .u64 (y:Int) ((y - 1:Nat):Int) = ((y &&& (y - 1):Nat):Int):=bits_and_u64_nat y (y - 1) hy (by omega)
     obtain ⟨u,hu2⟩:∃ u,v ||| z = u:=⟨_,rfl⟩
     rw [hu2] at hbo
     have HN:=Lib.hid (show y &&& (y - 1) < 18446744073709551616∧u < 18446744073709551616∧orL b (bitsL 64 0 (y &&& (y - 1))) u = orL b (bitsL 64 0 x) 0∧Upd (fun q => q = w.heap.size + 1 + 1 + 1) W0 (wr.drew.setCell ⟨w.heap.size + 1 + 1 + 1,k,none⟩ (.int .u64 (u:Int)))∧Blk (wr.drew.setCell ⟨w.heap.size + 1 + 1 + 1,k,none⟩ (.int .u64 (u:Int))) (w.heap.size + 1 + 1 + 1) 168 (wdC (wf (fun i => if i < k then orL b (bitsL 64 0 (a.getD i 0)) 0 else if i = k then u else 0))).toArray from by
      refine ⟨Nat.lt_of_lt_of_le (and_pred_le h0) (Nat.le_of_lt hy),by rw [← hu2];exact Nat.or_lt_two_pow (n:=64) hv hz64,?_,hu.drew.setCell (p:=⟨w.heap.size + 1 + 1 + 1,k,none⟩) (.inl rfl) _,?_⟩
      ·rw [← hor,bitsL_step 64 0 y h0 (by simpa using hy),Nat.zero_add,orL,hc,hz,hu2]
      ·have:=kp.drew.set k (.int .u64 (u:Int))
       rw [wdC_set,wf_mid hlt v u] at this
       exact this)
     have HM:=Lib.hid (and_pred_le h0)
     clear hy hv hor hu kp hc hz hu2 kb hT2 hz64
     go_upto_region 7 with (fail)
     have hcI:(c:Int) < (64:Int):=by omega
     have hS:wr.drew.cell? ⟨w.heap.size + 1 + 1 + 1,k,none⟩ = some (.int .u64 (v:Int))∧wr.drew.cell? ⟨w.heap.size + 1,c,none⟩ = some (.int .u64 (z:Int)):=⟨cp,cb⟩
     refine wp_region_ord (fun W => W.cell? ⟨w.heap.size + 1 + 1 + 1,k,none⟩ = some (.int .u64 (v:Int))∧W.cell? ⟨w.heap.size + 1,c,none⟩ = some (.int .u64 (z:Int))) 9 [(0,true),(1,true),(2,true),(3,true),(4,false),(5,true),(6,true),(7,true),(8,true),(9,false)] (by kernel_rfl) (by kernel_rfl) (fun _ _ d _ _ h => by cases d <;> exact h) hS ?_
     generalize wr.drew = V0 at hS fp HN hcon ⊢
     clear cp cb
     iterate 4 (refine ord_takeA rfl ?_;(try simp only [Act.put,gA,gS,gZ,sA,sZ,sS]))
     refine ord_do rfl rfl (fun K hK => ?_)
     go_simp
     refine hcon.mono ?_
     clear hcon
     rintro e V1 ⟨rfl,hw1⟩
     subst V1
     refine hK _ _ (fun _ => hS) ?_
     clear hK K
     (try simp only [Act.put,gA,gS,gZ,sA,sZ,sS])
     iterate 4 (refine ord_takeA rfl ?_;(try simp only [Act.put,gA,gS,gZ,sA,sZ,sS]))
     refine ord_do rfl rfl (fun K hK => ?_)
     go_simp
     refine hK _ _ (fun h => absurd rfl h) ?_
     clear hK K hS fp hbo
     (try simp only [Act.put,gA,gS,gZ,sA,sZ,sS])
     refine ord_done ?_
     generalize V0.setCell ⟨w.heap.size + 1 + 1 + 1,k,none⟩ (.int .u64 (u:Int)) = V1 at HN ⊢
     go_wp2
     go_roundw
     case rel => exact ⟨y &&& (y - 1),u,rfl,HN⟩
     case measure => have:=HM.out;simp only [intOf];omega
  ·obtain rfl:k = 64:=by omega
   have kP:=hI.out.2
   rw [wf_done (fun i => orL b (bitsL 64 0 (a.getD i 0)) 0) (fun _ => 0)] at kP
   have hwd:=mulW_wd a hb
   have hrg:=range_blk kP
   have hsz:=info_wd hwd
   have hth:wr.there (w.heap.size + 1 + 1) 0 (wdC (mulW a b)).toArray.size:=by have:=there_blk2 (H.out.2.2.1.upd hI.out.1 (by omega));simpa [wdC_len,zero64_len,hwd.len] using this
   have hsz2:(Tryz.prog.info? 168).map (·.size) = some (wdC (mulW a b)).toArray.size:=by simpa using hsz
   have h1c:(wdC (mulW a b)).toArray.all (·.oneCell') = true:=all_oneCell_toArray (one_wd _)
   have bw:=H.out.2.2.2.2.1.trans (hI.out.1.below (fun q _ e => by omega) H.out.2.2.2.2.1.size)
   have FIN:=Lib.hid (show Below w.heap.size w (wr.setCells (w.heap.size + 1 + 1) 0 (wdC (mulW a b)))∧(wr.setCells (w.heap.size + 1 + 1) 0 (wdC (mulW a b))).rangeAt (w.heap.size + 1 + 1) 0 (wdC (mulW a b)) from
    ⟨bw.trans ((Upd.setCells (F:=fun q => q = w.heap.size + 1 + 1) (.inl rfl) (wdC (mulW a b)) 0 (Upd.refl _ wr)).below (fun q _ e => by omega) bw.size),World.rangeAt_setCells_same _ _ _ _ (by simpa using hth)⟩)
   change wr.rangeAt (w.heap.size + 1 + 1 + 1) 0 (wdC (mulW a b)) at hrg
   clear kP hI bw
   go_upto_region 9 with (fail)
   go_wp2_with (first | (refine wpList_load_mid rfl 168 _ rfl (w.heap.size + 1 + 1 + 1) 0 rfl (wdC (mulW a b)) (.array 64 166) hrg Tryz.underlying168 rfl hsz ?_) | (refine wpList_store_mid rfl 168 _ _ rfl (w.heap.size + 1 + 1) 0 (wdC (mulW a b)).toArray rfl rfl hth hsz2 h1c ?_) | fail)
   have hlv:=run_loadVar_mid (P:=Tryz.prog) _ (w.heap.size + 1 + 1) 0 168 (wdC (mulW a b)) (.array 64 166) FIN.out.2 Tryz.underlying168 rfl hsz
   refine bodyPost_ret (v:=.agg (wdC (mulW a b)).toArray) (by simp [results,Tryz.f200,Act.put,asAddr,hlv,Result.andThen,Sem.run_bind]) rfl ⟨rfl,FIN.out.1⟩
end Go.Proofs.YtddffnonlmfhdaaGreatDoor
namespace Go.Proofs.YtddffnonlmfhdaaGreatDoor
open Go.RowKit
section
variable {P:Program} {ops:Array Oper} {Q:Exit→Act→World→Prop} {md:Region.Mode} {S:World→Prop} {n:Nat}
theorem any_load {i f:Nat} {listed:Array Bool} {a:Act} {w:World} {oi:Oper} (hi:ops[i]? = some oi) (hB:(Region.noSelect ops && Region.free md ops listed i && (Region.ready md ops listed).contains i) = true)
  (hd:Down md ops listed) (hn:ops.size ≤ n) (hQ:∀ c a d v w,Q (.panic c) (Act.put a d v) w→Q (.panic c) a w) (hS:S w)
  (hw:Region.wanted oi (yielded ops a.tmps) = true) (ty:TypeId) (x:Operand) (ho:oi.op = .load ty x) (b o:Nat) (hx:a.eval x = .pointer (some ⟨b,o,none⟩)) (cs:List Value) (d:TypeDesc) (hc:∀ w,S w→w.rangeAt b o cs)
  (hu:P.underlying ty = some d) (hdr:d.isRow = true) (hinf:(P.info? ty).map (·.size) = some cs.length)
  (h:Down md ops (listed.setIfInBounds i true)→wpAnyC P md ops Q S n f (listed.setIfInBounds i true) (a.put oi.dst (.agg cs.toArray)) w):wpAnyC P md ops Q S n (f + 1) listed a w:=
 any_take hi hB hd hn hQ hS hw (fun w hw => by
  unfold execOp
  simp only [ho,hx,run_loadAt_mid w b o ty cs d (hc w hw) hu hdr hinf,Sem.run_bind,Result.andThen_ok]
  rfl) h
end
def joinO (b:Option (List Nat)) (x:List Nat):Option (List Nat):=if x = zero64 then b else some (List.zipWith orN (oldW b) x)
theorem less_zero {o:List Nat}:lenB (List.zipWith lessN zero64 o) = 0:=by
 have h:∀ (n:Nat) (o:List Nat),lenB (List.zipWith lessN (List.replicate n 0) o) = 0:=fun n => by
  induction n with
  | zero => intro o;rfl
  | succ n ih =>
   intro o
   cases o with
   | nil => rfl
   | cons y o =>
    rw [List.replicate_succ,List.zipWith_cons_cons]
    have e:lessN 0 y = 0:=by simp [lessN]
    have:=ih o
    unfold lenB at this ⊢
    rw [List.map_cons,List.sum_cons,this,e]
    decide
 exact h 64 o
theorem qor_zero (w:World) (p:Nat):Calls Tryz.prog 106 #[.pointer (some ⟨p,0,none⟩),.int .i64 0,.int .i64 0,wdV zero64] w (Sam w (.bool false)):=by
 have k0:=Blk.new w 168 (wdC zero64).toArray
 have u0:Below w.heap.size w (w.alloc (.cells (wdC zero64).toArray 168)):=(Below.refl _ _).alloc (Nat.le_refl _) _
 have hrg:=range_blk k0
 have hsz:=info_wd zero64_wd
 have heq:∀ W,(binOp .eql 168 (.agg (wdC zero64).toArray) (.agg #[Value.int .u64 0,.int .u64 0,.int .u64 0,.int .u64 0,.int .u64 0,.int .u64 0,.int .u64 0,.int .u64 0,.int .u64 0,.int .u64 0,.int .u64 0,.int .u64 0,.int .u64 0,.int .u64 0,.int .u64 0,.int .u64 0,.int .u64 0,.int .u64 0,.int .u64 0,.int .u64 0,.int .u64 0,.int .u64 0,.int .u64 0,.int .u64 0,.int .u64 0,.int .u64 0,.int .u64 0,.int .u64 0,.int .u64 0,.int .u64 0,.int .u64 0,.int .u64 0,.int .u64 0,.int .u64 0,.int .u64 0,.int .u64 0,.int .u64 0,.int .u64 0,.int .u64 0,.int .u64 0,.int .u64 0,.int .u64 0,.int .u64 0,.int .u64 0,.int .u64 0,.int .u64 0,.int .u64 0,.int .u64 0,.int .u64 0,.int .u64 0,.int .u64 0,.int .u64 0,.int .u64 0,.int .u64 0,.int .u64 0,.int .u64 0,.int .u64 0,.int .u64 0,.int .u64 0,.int .u64 0,.int .u64 0,.int .u64 0,.int .u64 0,.int .u64 0])).run Tryz.prog W = .ok (.bool true) W:=fun W => by
  have h2:=eql_blk W zero64_wd zero64_wd
  rw [decide_eq_true rfl] at h2
  rw [zl_eq]
  exact h2
 have H:=Lib.hid u0
 clear k0 u0
 unfold wdV
 go_enter Tryz.func106,Tryz.ntmps106
 go_upto_region 1 with (fail)
 generalize w.alloc (.cells (wdC zero64).toArray 168) = W0 at H hrg ⊢
 go_wp2_with (first | (refine wpList_load_mid rfl 168 _ rfl w.heap.size 0 rfl (wdC zero64) (.array 64 166) hrg Tryz.underlying168 rfl hsz ?_) | fail)
 go_ret
 exact ⟨rfl,H.out⟩
theorem qor_all (w:World) (F:Nat→Prop) (p side:Nat) (b:Option (List Nat)) (h:QuS w F p side b) (x:List Nat) (hx:Wd x) :
  Calls Tryz.prog 106 #[.pointer (some ⟨p,0,none⟩),.int .i64 0,.int .i64 0,wdV x] w (fun e w' => e = .returned (.bool (decide (0 < lenB (List.zipWith lessN x (oldW b)))))∧QTo w F p side (joinO b x) w'):=by
 by_cases hz:x = zero64
 ·subst hz
  refine (qor_zero w p).mono ?_
  rintro e w' ⟨rfl,hb⟩
  refine ⟨by rw [less_zero];rfl,?_⟩
  unfold joinO
  rw [if_pos rfl]
  exact ⟨F,h.below hb,Upd.of_below hb F,fun k hk => .inl hk⟩
 ·unfold joinO
  rw [if_neg hz]
  exact qor_any w F p side b h x hx hz
theorem qhas_any (w:World) (p side:Nat) (hs:1 ≤ side) (hs2:side ≤ 1024) (q0:w.cell? ⟨p,0,none⟩ = some (.int .i64 (side:Int))):Calls Tryz.prog 197 #[.pointer (some ⟨p,0,none⟩),.int .i64 0,.int .i64 0] w (Only w (.bool true)):=by
 have hw:IntKind.i64.wrap ((side:Int) - 1) = ((side - 1:Nat):Int):=by rw [IntKind.wrap_i64];omega
 have hd:(((side - 1:Nat):Int)).tdiv 64 = (((side - 1) / 64:Nat):Int):=by rw [Int.tdiv_eq_ediv_of_nonneg (by omega)];omega
 have hw2:IntKind.i64.wrap ((((side - 1) / 64:Nat):Int)) = (((side - 1) / 64:Nat):Int):=IntWalk.i64_in _ (by omega)
 have h0:(0:Int) ≤ (((side - 1) / 64:Nat):Int):=by omega
 generalize (((side - 1) / 64:Nat):Int) = q at hd hw2 h0
 generalize (((side - 1:Nat):Int)) = s1 at hw hd
 go_enter Tryz.func197,Tryz.ntmps197
 go_wp2
 go_ret
 exact ⟨rfl,rfl⟩
end Go.Proofs.YtddffnonlmfhdaaGreatDoor
namespace Go.Proofs.YtddffnonlmfhdaaGreatDoor
open Go.RowKit
theorem eqin_blk (W:World) {r s:List Nat} (hr:Wd r) (hs:Wd s):(Op.equalIn 10000 168 (.agg (wdC r).toArray) (.agg (wdC s).toArray)).run Tryz.prog W = .ok (decide (r = s)) W:=by
 obtain ⟨i0,hi0⟩:=Option.isSome_iff_exists.1 info_u64
 show (Op.equalIn (9999 + 1) _ _ _).run _ _ = _
 rw [run_equalIn_array (P:=Tryz.prog) W 9999 _ _ Tryz.underlying168 hi0,cells_u64]
 rw [eqItems_wd W 9998 hr.len hs.len _ (fun i hi => List.mem_range.1 hi),all_eq hr.len hs.len]
def noPan2 (Q:Exit→Act→World→Prop):Exit→Act→World→Prop
 | .panic _,_,_ => False
 | e,a,w => Q e a w
theorem wp_noPan2 {P:Program} {c:Code} {Q:Exit→Act→World→Prop} {a:Act} {w:World} (h:c.wp P (noPan2 Q) a w):c.wp P Q a w:=fun b k cs => by
 obtain ⟨e,a',w',hq,ha⟩:=h b k cs
 refine ⟨e,a',w',?_,ha⟩
 cases e <;> first | exact hq | exact hq.elim
theorem corn_fit {x:List Nat} (hx:Wd x) {side:Nat} (h:∀ i j,bitW x i j = true→i < side∧j < side):cornW x side = x:=by
 conv => rhs;rw [wd_wf hx]
 unfold cornW
 apply wf_congr
 intro i hi
 have hb:∀ j,bitW x i j = (x.getD i 0).testBit j:=fun j => by unfold bitW;rw [List.getD_eq_getElem?_getD]
 by_cases hs:i < side
 ·rw [if_pos hs]
  apply Nat.eq_of_testBit_eq
  intro j
  rw [Nat.testBit_and,Nat.testBit_two_pow_sub_one]
  by_cases hj:(x.getD i 0).testBit j = true
  ·have:=(h i j (by rw [hb];exact hj)).2
   rw [hj,Bool.true_and]
   exact decide_eq_true this
  ·rw [eq_false_of_ne_true hj,Bool.false_and]
 ·rw [if_neg hs]
  apply Nat.eq_of_testBit_eq
  intro j
  by_cases hj:(x.getD i 0).testBit j = true
  ·exact absurd (h i j (by rw [hb];exact hj)).1 hs
  ·rw [Nat.zero_testBit];exact (eq_false_of_ne_true hj).symm
theorem qput_any (w:World) (F:Nat→Prop) (p side:Nat) (b:Option (List Nat)) (h:QuS w F p side b) (hs64:side ≤ 64) (x:List Nat) (hx:Wd x) (hfit:cornW x side = x) :
  Calls Tryz.prog 180 #[.pointer (some ⟨p,0,none⟩),.int .i64 0,.int .i64 0,wdV x] w (fun e w' => e = .returned (.tuple #[.bool (decide (0 < lenB (List.zipWith lessN x (oldW b)))),.int .i64 0])∧QTo w F p side (joinO b x) w'):=by
 have hs1:1 ≤ side:=by obtain ⟨O,dep,cnt,m,last,L,pv,lv,hq,ok,-⟩:=h;exact ok.s1
 have k0:=Blk.new w 168 (wdC x).toArray
 have u0:Below w.heap.size w (w.alloc (.cells (wdC x).toArray 168)):=(Below.refl _ _).alloc (Nat.le_refl _) _
 have hsz:=info_wd hx
 have hsz2:(Tryz.prog.info? 168).map (·.size) = some (wdC x).toArray.size:=by simpa using hsz
 have h1c:(wdC x).toArray.all (·.oneCell') = true:=all_oneCell_toArray (one_wd _)
 have H:=Lib.hid (And.intro (h.below u0) (And.intro k0 u0))
 have q0:(w.alloc (.cells (wdC x).toArray 168)).cell? ⟨p,0,none⟩ = some (.int .i64 (side:Int)):=by obtain ⟨O,dep,cnt,m,last,L,pv,lv,hq,ok,-⟩:=h.below u0;exact hq.blk.cell 0
 clear k0 u0 h
 unfold wdV
 go_enter Tryz.func180,Tryz.ntmps180
 go_upto_region 1 with (fail)
 generalize w.alloc (.cells (wdC x).toArray 168) = W1 at H q0 ⊢
 have his:=qis_any W1 p side hs1 q0
 have hhas:=qhas_any W1 p side hs1 (by omega) q0
 go_wp2_with fail
 refine his.mono ?_
 clear his
 rintro e V1 ⟨rfl,hw1⟩
 subst V1
 go_wp2_with fail
 refine hhas.mono ?_
 clear hhas
 rintro e V1 ⟨rfl,hw1⟩
 subst V1
 go_upto_region 5 with (fail)
 have hw0:IntKind.i64.wrap 0 = 0:=by decide
 have hws:IntKind.i64.wrap (side:Int) = (side:Int):=IntWalk.i64_in _ (by omega)
 have hmn:min (64:Int) (side:Int) = (side:Int):=by omega
 have SR:=Lib.hid (show ∀ V,Below W1.heap.size W1 V→(fun V => V.rangeAt w.heap.size 0 (wdC x)∧V.cell? ⟨p,0,none⟩ = some (.int .i64 (side:Int))) V from fun V hb => by
  have hu:=Upd.of_below hb (fun _ => False)
  obtain ⟨O,dep,cnt,m,last,L,pv,lv,hq,ok,-⟩:=H.out.1.below hb
  exact ⟨range_blk (H.out.2.1.upd hu id),hq.blk.cell 0⟩)
 clear q0
 go_cut [10,11] from 10 (fun s10 s11 wc => ∃ g10:Nat,s10 = .pointer (some ⟨g10,0,none⟩)∧s11 = .int .i64 0∧Hid (Below W1.heap.size W1 wc∧wc.rangeAt g10 0 (wdC x)))
 case first =>
  have hB0:=Lib.hid (show Below W1.heap.size W1 W1.drew from (Below.refl _ _).drew)
  have hS:=SR.out _ hB0.out
  refine wp_noPan2 ?_
  refine wp_region_any2 (fun V => V.rangeAt w.heap.size 0 (wdC x)∧V.cell? ⟨p,0,none⟩ = some (.int .i64 (side:Int))) (by kernel_rfl) (by kernel_rfl) hS ?_
  refine any_start (fun hd => ?_)
  generalize W1.drew = V0 at hB0 hS ⊢
  (refine any_load (i:=0) rfl (by kernel_rfl) hd (Nat.le_refl _) (fun _ _ d _ _ h => by cases d <;> exact h) hS (by first | with_reducible rfl | kernel_rfl) 168 _ rfl w.heap.size 0 rfl (wdC x) (.array 64 166) (fun _ h => h.1) Tryz.underlying168 rfl hsz ?_;clear hd;intro hd;(try simp only [Act.put,gA,gS,gZ,sA,sZ,sS]))
  (refine any_takeA (i:=1) rfl hd hS ?_;clear hd;intro hd;(try simp only [Act.put,gA,gS,gZ,sA,sZ,sS]))
  (refine any_takeA (i:=2) rfl hd hS ?_;clear hd;intro hd;(try simp only [Act.put,gA,gS,gZ,sA,sZ,sS]))
  (refine any_takeA (i:=3) rfl hd hS ?_;clear hd;intro hd;(try simp only [Act.put,gA,gS,gZ,sA,sZ,sS]))
  (refine any_takeA (i:=4) rfl hd hS ?_;clear hd;intro hd;(try simp only [Act.put,gA,gS,gZ,sA,sZ,sS]))
  (refine any_takeA (i:=5) rfl hd hS ?_;clear hd;intro hd;(try simp only [Act.put,gA,gS,gZ,sA,sZ,sS]))
  (refine any_takeA (i:=6) rfl hd hS ?_;clear hd;intro hd;(try simp only [Act.put,gA,gS,gZ,sA,sZ,sS]))
  (refine any_takeA (i:=7) rfl hd hS ?_;clear hd;intro hd;(try simp only [Act.put,gA,gS,gZ,sA,sZ,sS]))
  (refine any_takeA (i:=9) rfl hd hS ?_;clear hd;intro hd;(try simp only [Act.put,gA,gS,gZ,sA,sZ,sS]))
  (refine any_takeA (i:=10) rfl hd hS ?_;clear hd;intro hd;(try simp only [Act.put,gA,gS,gZ,sA,sZ,sS]))
  (refine any_takeA (i:=11) rfl hd hS ?_;clear hd;intro hd;(try simp only [Act.put,gA,gS,gZ,sA,sZ,sS]))
  (refine any_takeA (i:=12) rfl hd hS ?_;clear hd;intro hd;(try simp only [Act.put,gA,gS,gZ,sA,sZ,sS]))
  (refine any_takeA (i:=13) rfl hd hS ?_;clear hd;intro hd;(try simp only [Act.put,gA,gS,gZ,sA,sZ,sS]))
  (refine any_takeA (i:=14) rfl hd hS ?_;clear hd;intro hd;(try simp only [Act.put,gA,gS,gZ,sA,sZ,sS]))
  (refine any_takeA (i:=15) rfl hd hS ?_;clear hd;intro hd;(try simp only [Act.put,gA,gS,gZ,sA,sZ,sS]))
  refine any_run hd (L:=[8,16,21]) (by kernel_rfl) (by decide) (fun i hi hd2 => ?_)
  clear hd
  have hd:=hd2
  clear hd2
  simp only [List.mem_cons,List.not_mem_nil,or_false] at hi
  rcases hi with rfl | rfl | rfl
  ·refine any_do rfl rfl (fun K hK => ?_)
   go_simp
   refine hK _ _ hS ?_
   clear hK K
   (try simp only [Act.put,gA,gS,gZ,sA,sZ,sS])
   refine any_run hd (L:=[16,21]) (by kernel_rfl) (by decide) (fun i hi hd2 => ?_)
   clear hd
   have hd:=hd2
   clear hd2
   simp only [List.mem_cons,List.not_mem_nil,or_false] at hi
   rcases hi with rfl | rfl
   ·refine any_do rfl rfl (fun K hK => ?_)
    go_simp
    refine hK _ _ hS ?_
    clear hK K
    (try simp only [Act.put,gA,gS,gZ,sA,sZ,sS])
    refine any_run hd (L:=[17,21]) (by kernel_rfl) (by decide) (fun i hi hd2 => ?_)
    clear hd
    have hd:=hd2
    clear hd2
    simp only [List.mem_cons,List.not_mem_nil,or_false] at hi
    rcases hi with rfl | rfl
    ·refine any_do rfl rfl (fun K hK => ?_)
     go_simp
     refine (bcorner_any V0 x hx side hs64).mono ?_
     rintro e V1 ⟨rfl,b5⟩
     rw [hfit]
     have hB1:=Lib.hid (hB0.out.trans (b5.mono hB0.out.size))
     have hS1:=SR.out _ hB1.out
     refine hK _ _ hS1 ?_
     clear hK K b5
     (try simp only [Act.put,gA,gS,gZ,sA,sZ,sS])
     have hS:=hS1
     (refine any_takeA (i:=18) rfl hd hS ?_;clear hd;intro hd;(try simp only [Act.put,gA,gS,gZ,sA,sZ,sS]))
     (refine any_takeA (i:=19) rfl hd hS ?_;clear hd;intro hd;(try simp only [Act.put,gA,gS,gZ,sA,sZ,sS]))
     (refine any_takeA (i:=20) rfl hd hS ?_;clear hd;intro hd;(try simp only [Act.put,gA,gS,gZ,sA,sZ,sS]))
     refine any_run hd (L:=[21]) (by kernel_rfl) (by decide) (fun i hi hd2 => ?_)
     clear hd
     have hd:=hd2
     clear hd2
     obtain rfl:=List.mem_singleton.1 hi
     clear hi
     refine any_do rfl rfl (fun K hK => ?_)
     go_simp
     have hB2:=Lib.hid (show Below W1.heap.size W1 (V1.alloc (.cells #[Value.int .u64 0,.int .u64 0,.int .u64 0,.int .u64 0,.int .u64 0,.int .u64 0,.int .u64 0,.int .u64 0,.int .u64 0,.int .u64 0,.int .u64 0,.int .u64 0,.int .u64 0,.int .u64 0,.int .u64 0,.int .u64 0,.int .u64 0,.int .u64 0,.int .u64 0,.int .u64 0,.int .u64 0,.int .u64 0,.int .u64 0,.int .u64 0,.int .u64 0,.int .u64 0,.int .u64 0,.int .u64 0,.int .u64 0,.int .u64 0,.int .u64 0,.int .u64 0,.int .u64 0,.int .u64 0,.int .u64 0,.int .u64 0,.int .u64 0,.int .u64 0,.int .u64 0,.int .u64 0,.int .u64 0,.int .u64 0,.int .u64 0,.int .u64 0,.int .u64 0,.int .u64 0,.int .u64 0,.int .u64 0,.int .u64 0,.int .u64 0,.int .u64 0,.int .u64 0,.int .u64 0,.int .u64 0,.int .u64 0,.int .u64 0,.int .u64 0,.int .u64 0,.int .u64 0,.int .u64 0,.int .u64 0,.int .u64 0,.int .u64 0,.int .u64 0] 168)) from hB1.out.alloc hB1.out.size _)
     have hG2:=Lib.hid (And.intro (Blk.new V1 168 #[Value.int .u64 0,.int .u64 0,.int .u64 0,.int .u64 0,.int .u64 0,.int .u64 0,.int .u64 0,.int .u64 0,.int .u64 0,.int .u64 0,.int .u64 0,.int .u64 0,.int .u64 0,.int .u64 0,.int .u64 0,.int .u64 0,.int .u64 0,.int .u64 0,.int .u64 0,.int .u64 0,.int .u64 0,.int .u64 0,.int .u64 0,.int .u64 0,.int .u64 0,.int .u64 0,.int .u64 0,.int .u64 0,.int .u64 0,.int .u64 0,.int .u64 0,.int .u64 0,.int .u64 0,.int .u64 0,.int .u64 0,.int .u64 0,.int .u64 0,.int .u64 0,.int .u64 0,.int .u64 0,.int .u64 0,.int .u64 0,.int .u64 0,.int .u64 0,.int .u64 0,.int .u64 0,.int .u64 0,.int .u64 0,.int .u64 0,.int .u64 0,.int .u64 0,.int .u64 0,.int .u64 0,.int .u64 0,.int .u64 0,.int .u64 0,.int .u64 0,.int .u64 0,.int .u64 0,.int .u64 0,.int .u64 0,.int .u64 0,.int .u64 0,.int .u64 0]) hB1.out.size)
     have hS2:=SR.out _ hB2.out
     refine hK _ _ hS2 ?_
     clear hK K
     (try simp only [Act.put,gA,gS,gZ,sA,sZ,sS])
     generalize hgg:V1.heap.size = g10 at hG2
     generalize V1.alloc (.cells #[Value.int .u64 0,.int .u64 0,.int .u64 0,.int .u64 0,.int .u64 0,.int .u64 0,.int .u64 0,.int .u64 0,.int .u64 0,.int .u64 0,.int .u64 0,.int .u64 0,.int .u64 0,.int .u64 0,.int .u64 0,.int .u64 0,.int .u64 0,.int .u64 0,.int .u64 0,.int .u64 0,.int .u64 0,.int .u64 0,.int .u64 0,.int .u64 0,.int .u64 0,.int .u64 0,.int .u64 0,.int .u64 0,.int .u64 0,.int .u64 0,.int .u64 0,.int .u64 0,.int .u64 0,.int .u64 0,.int .u64 0,.int .u64 0,.int .u64 0,.int .u64 0,.int .u64 0,.int .u64 0,.int .u64 0,.int .u64 0,.int .u64 0,.int .u64 0,.int .u64 0,.int .u64 0,.int .u64 0,.int .u64 0,.int .u64 0,.int .u64 0,.int .u64 0,.int .u64 0,.int .u64 0,.int .u64 0,.int .u64 0,.int .u64 0,.int .u64 0,.int .u64 0,.int .u64 0,.int .u64 0,.int .u64 0,.int .u64 0,.int .u64 0,.int .u64 0] 168) = V2 at hB2 hG2 hS2 ⊢
     (try simp only [hgg])
     have kz:=zero64_blk.mp (hG2.out).1
     have hth:V2.there g10 0 (wdC x).toArray.size:=by have:=there_blk2 kz;simpa [wdC_len,zero64_len,hx.len] using this
     have zg:=(hG2.out).2
     have us:=Upd.setCells (F:=fun q => q = g10) (b:=g10) (.inl rfl) (wdC x) 0 (Upd.refl _ V2)
     have bF:=hB2.out.trans (us.below (fun q _ e => by omega) hB2.out.size)
     have HE:=Lib.hid (And.intro bF (World.rangeAt_setCells_same V2 g10 0 (wdC x) (by simpa using hth)))
     clear kz us bF zg
     refine any_run hd (L:=[22]) (by kernel_rfl) (by decide) (fun i hi hd2 => ?_)
     clear hd
     have hd:=hd2
     clear hd2
     obtain rfl:=List.mem_singleton.1 hi
     clear hi
     refine any_do rfl rfl (fun K hK => ?_)
     refine wp_store_mid 168 _ _ rfl g10 0 (wdC x).toArray rfl rfl hth hsz2 h1c ?_
     have hS:=SR.out _ HE.out.1
     refine hK _ _ hS ?_
     clear hK K hth
     (try simp only [Act.put,gA,gS,gZ,sA,sZ,sS])
     (refine any_takeA (i:=23) rfl hd hS ?_;clear hd;intro hd;(try simp only [Act.put,gA,gS,gZ,sA,sZ,sS]))
     refine any_done (by kernel_rfl) ?_
     clear hd hS
     dsimp only [noPan2]
     go_wp2
     go_meet
     case rel => exact ⟨_,rfl,rfl,HE⟩
    ·refine any_do rfl rfl (fun K hK => ?_)
     go_simp
     have hB3:=Lib.hid (show Below W1.heap.size W1 (V0.alloc (.cells #[Value.int .u64 0,.int .u64 0,.int .u64 0,.int .u64 0,.int .u64 0,.int .u64 0,.int .u64 0,.int .u64 0,.int .u64 0,.int .u64 0,.int .u64 0,.int .u64 0,.int .u64 0,.int .u64 0,.int .u64 0,.int .u64 0,.int .u64 0,.int .u64 0,.int .u64 0,.int .u64 0,.int .u64 0,.int .u64 0,.int .u64 0,.int .u64 0,.int .u64 0,.int .u64 0,.int .u64 0,.int .u64 0,.int .u64 0,.int .u64 0,.int .u64 0,.int .u64 0,.int .u64 0,.int .u64 0,.int .u64 0,.int .u64 0,.int .u64 0,.int .u64 0,.int .u64 0,.int .u64 0,.int .u64 0,.int .u64 0,.int .u64 0,.int .u64 0,.int .u64 0,.int .u64 0,.int .u64 0,.int .u64 0,.int .u64 0,.int .u64 0,.int .u64 0,.int .u64 0,.int .u64 0,.int .u64 0,.int .u64 0,.int .u64 0,.int .u64 0,.int .u64 0,.int .u64 0,.int .u64 0,.int .u64 0,.int .u64 0,.int .u64 0,.int .u64 0] 168)) from hB0.out.alloc hB0.out.size _)
     have hG3:=Lib.hid (And.intro (Blk.new V0 168 #[Value.int .u64 0,.int .u64 0,.int .u64 0,.int .u64 0,.int .u64 0,.int .u64 0,.int .u64 0,.int .u64 0,.int .u64 0,.int .u64 0,.int .u64 0,.int .u64 0,.int .u64 0,.int .u64 0,.int .u64 0,.int .u64 0,.int .u64 0,.int .u64 0,.int .u64 0,.int .u64 0,.int .u64 0,.int .u64 0,.int .u64 0,.int .u64 0,.int .u64 0,.int .u64 0,.int .u64 0,.int .u64 0,.int .u64 0,.int .u64 0,.int .u64 0,.int .u64 0,.int .u64 0,.int .u64 0,.int .u64 0,.int .u64 0,.int .u64 0,.int .u64 0,.int .u64 0,.int .u64 0,.int .u64 0,.int .u64 0,.int .u64 0,.int .u64 0,.int .u64 0,.int .u64 0,.int .u64 0,.int .u64 0,.int .u64 0,.int .u64 0,.int .u64 0,.int .u64 0,.int .u64 0,.int .u64 0,.int .u64 0,.int .u64 0,.int .u64 0,.int .u64 0,.int .u64 0,.int .u64 0,.int .u64 0,.int .u64 0,.int .u64 0,.int .u64 0]) hB0.out.size)
     have hS3:=SR.out _ hB3.out
     refine hK _ _ hS3 ?_
     clear hK K
     (try simp only [Act.put,gA,gS,gZ,sA,sZ,sS])
     generalize hgg:V0.heap.size = g10 at hG3
     generalize V0.alloc (.cells #[Value.int .u64 0,.int .u64 0,.int .u64 0,.int .u64 0,.int .u64 0,.int .u64 0,.int .u64 0,.int .u64 0,.int .u64 0,.int .u64 0,.int .u64 0,.int .u64 0,.int .u64 0,.int .u64 0,.int .u64 0,.int .u64 0,.int .u64 0,.int .u64 0,.int .u64 0,.int .u64 0,.int .u64 0,.int .u64 0,.int .u64 0,.int .u64 0,.int .u64 0,.int .u64 0,.int .u64 0,.int .u64 0,.int .u64 0,.int .u64 0,.int .u64 0,.int .u64 0,.int .u64 0,.int .u64 0,.int .u64 0,.int .u64 0,.int .u64 0,.int .u64 0,.int .u64 0,.int .u64 0,.int .u64 0,.int .u64 0,.int .u64 0,.int .u64 0,.int .u64 0,.int .u64 0,.int .u64 0,.int .u64 0,.int .u64 0,.int .u64 0,.int .u64 0,.int .u64 0,.int .u64 0,.int .u64 0,.int .u64 0,.int .u64 0,.int .u64 0,.int .u64 0,.int .u64 0,.int .u64 0,.int .u64 0,.int .u64 0,.int .u64 0,.int .u64 0] 168) = V3 at hB3 hG3 hS3 ⊢
     (try simp only [hgg])
     refine any_run hd (L:=[17]) (by kernel_rfl) (by decide) (fun i hi hd2 => ?_)
     clear hd
     have hd:=hd2
     clear hd2
     obtain rfl:=List.mem_singleton.1 hi
     clear hi
     refine any_do rfl rfl (fun K hK => ?_)
     go_simp
     refine (bcorner_any V3 x hx side hs64).mono ?_
     rintro e V4 ⟨rfl,b5⟩
     rw [hfit]
     have hB4:=Lib.hid (hB3.out.trans (b5.mono hB3.out.size))
     have hS4:=SR.out _ hB4.out
     have hG4:=Lib.hid (And.intro ((hG3.out).1.upd (Upd.of_below b5 (fun _ => False)) id) (hG3.out).2)
     refine hK _ _ hS4 ?_
     clear hK K b5
     (try simp only [Act.put,gA,gS,gZ,sA,sZ,sS])
     have hS:=hS4
     (refine any_takeA (i:=18) rfl hd hS ?_;clear hd;intro hd;(try simp only [Act.put,gA,gS,gZ,sA,sZ,sS]))
     (refine any_takeA (i:=19) rfl hd hS ?_;clear hd;intro hd;(try simp only [Act.put,gA,gS,gZ,sA,sZ,sS]))
     (refine any_takeA (i:=20) rfl hd hS ?_;clear hd;intro hd;(try simp only [Act.put,gA,gS,gZ,sA,sZ,sS]))
     have kz:=zero64_blk.mp (hG4.out).1
     have hth:V4.there g10 0 (wdC x).toArray.size:=by have:=there_blk2 kz;simpa [wdC_len,zero64_len,hx.len] using this
     have zg:=(hG4.out).2
     have us:=Upd.setCells (F:=fun q => q = g10) (b:=g10) (.inl rfl) (wdC x) 0 (Upd.refl _ V4)
     have bF:=hB4.out.trans (us.below (fun q _ e => by omega) hB4.out.size)
     have HE:=Lib.hid (And.intro bF (World.rangeAt_setCells_same V4 g10 0 (wdC x) (by simpa using hth)))
     clear kz us bF zg
     refine any_run hd (L:=[22]) (by kernel_rfl) (by decide) (fun i hi hd2 => ?_)
     clear hd
     have hd:=hd2
     clear hd2
     obtain rfl:=List.mem_singleton.1 hi
     clear hi
     refine any_do rfl rfl (fun K hK => ?_)
     refine wp_store_mid 168 _ _ rfl g10 0 (wdC x).toArray rfl rfl hth hsz2 h1c ?_
     have hS:=SR.out _ HE.out.1
     refine hK _ _ hS ?_
     clear hK K hth
     (try simp only [Act.put,gA,gS,gZ,sA,sZ,sS])
     (refine any_takeA (i:=23) rfl hd hS ?_;clear hd;intro hd;(try simp only [Act.put,gA,gS,gZ,sA,sZ,sS]))
     refine any_done (by kernel_rfl) ?_
     clear hd hS
     dsimp only [noPan2]
     go_wp2
     go_meet
     case rel => exact ⟨_,rfl,rfl,HE⟩
   ·refine any_do rfl rfl (fun K hK => ?_)
    go_simp
    have hB5:=Lib.hid (show Below W1.heap.size W1 (V0.alloc (.cells #[Value.int .u64 0,.int .u64 0,.int .u64 0,.int .u64 0,.int .u64 0,.int .u64 0,.int .u64 0,.int .u64 0,.int .u64 0,.int .u64 0,.int .u64 0,.int .u64 0,.int .u64 0,.int .u64 0,.int .u64 0,.int .u64 0,.int .u64 0,.int .u64 0,.int .u64 0,.int .u64 0,.int .u64 0,.int .u64 0,.int .u64 0,.int .u64 0,.int .u64 0,.int .u64 0,.int .u64 0,.int .u64 0,.int .u64 0,.int .u64 0,.int .u64 0,.int .u64 0,.int .u64 0,.int .u64 0,.int .u64 0,.int .u64 0,.int .u64 0,.int .u64 0,.int .u64 0,.int .u64 0,.int .u64 0,.int .u64 0,.int .u64 0,.int .u64 0,.int .u64 0,.int .u64 0,.int .u64 0,.int .u64 0,.int .u64 0,.int .u64 0,.int .u64 0,.int .u64 0,.int .u64 0,.int .u64 0,.int .u64 0,.int .u64 0,.int .u64 0,.int .u64 0,.int .u64 0,.int .u64 0,.int .u64 0,.int .u64 0,.int .u64 0,.int .u64 0] 168)) from hB0.out.alloc hB0.out.size _)
    have hG5:=Lib.hid (And.intro (Blk.new V0 168 #[Value.int .u64 0,.int .u64 0,.int .u64 0,.int .u64 0,.int .u64 0,.int .u64 0,.int .u64 0,.int .u64 0,.int .u64 0,.int .u64 0,.int .u64 0,.int .u64 0,.int .u64 0,.int .u64 0,.int .u64 0,.int .u64 0,.int .u64 0,.int .u64 0,.int .u64 0,.int .u64 0,.int .u64 0,.int .u64 0,.int .u64 0,.int .u64 0,.int .u64 0,.int .u64 0,.int .u64 0,.int .u64 0,.int .u64 0,.int .u64 0,.int .u64 0,.int .u64 0,.int .u64 0,.int .u64 0,.int .u64 0,.int .u64 0,.int .u64 0,.int .u64 0,.int .u64 0,.int .u64 0,.int .u64 0,.int .u64 0,.int .u64 0,.int .u64 0,.int .u64 0,.int .u64 0,.int .u64 0,.int .u64 0,.int .u64 0,.int .u64 0,.int .u64 0,.int .u64 0,.int .u64 0,.int .u64 0,.int .u64 0,.int .u64 0,.int .u64 0,.int .u64 0,.int .u64 0,.int .u64 0,.int .u64 0,.int .u64 0,.int .u64 0,.int .u64 0]) hB0.out.size)
    have hS5:=SR.out _ hB5.out
    refine hK _ _ hS5 ?_
    clear hK K
    (try simp only [Act.put,gA,gS,gZ,sA,sZ,sS])
    generalize hgg:V0.heap.size = g10 at hG5
    generalize V0.alloc (.cells #[Value.int .u64 0,.int .u64 0,.int .u64 0,.int .u64 0,.int .u64 0,.int .u64 0,.int .u64 0,.int .u64 0,.int .u64 0,.int .u64 0,.int .u64 0,.int .u64 0,.int .u64 0,.int .u64 0,.int .u64 0,.int .u64 0,.int .u64 0,.int .u64 0,.int .u64 0,.int .u64 0,.int .u64 0,.int .u64 0,.int .u64 0,.int .u64 0,.int .u64 0,.int .u64 0,.int .u64 0,.int .u64 0,.int .u64 0,.int .u64 0,.int .u64 0,.int .u64 0,.int .u64 0,.int .u64 0,.int .u64 0,.int .u64 0,.int .u64 0,.int .u64 0,.int .u64 0,.int .u64 0,.int .u64 0,.int .u64 0,.int .u64 0,.int .u64 0,.int .u64 0,.int .u64 0,.int .u64 0,.int .u64 0,.int .u64 0,.int .u64 0,.int .u64 0,.int .u64 0,.int .u64 0,.int .u64 0,.int .u64 0,.int .u64 0,.int .u64 0,.int .u64 0,.int .u64 0,.int .u64 0,.int .u64 0,.int .u64 0,.int .u64 0,.int .u64 0] 168) = V5 at hB5 hG5 hS5 ⊢
    (try simp only [hgg])
    refine any_run hd (L:=[16]) (by kernel_rfl) (by decide) (fun i hi hd2 => ?_)
    clear hd
    have hd:=hd2
    clear hd2
    obtain rfl:=List.mem_singleton.1 hi
    clear hi
    refine any_do rfl rfl (fun K hK => ?_)
    go_simp
    refine hK _ _ hS5 ?_
    clear hK K
    (try simp only [Act.put,gA,gS,gZ,sA,sZ,sS])
    refine any_run hd (L:=[17]) (by kernel_rfl) (by decide) (fun i hi hd2 => ?_)
    clear hd
    have hd:=hd2
    clear hd2
    obtain rfl:=List.mem_singleton.1 hi
    clear hi
    refine any_do rfl rfl (fun K hK => ?_)
    go_simp
    refine (bcorner_any V5 x hx side hs64).mono ?_
    rintro e V6 ⟨rfl,b5⟩
    rw [hfit]
    have hB6:=Lib.hid (hB5.out.trans (b5.mono hB5.out.size))
    have hS6:=SR.out _ hB6.out
    have hG6:=Lib.hid (And.intro ((hG5.out).1.upd (Upd.of_below b5 (fun _ => False)) id) (hG5.out).2)
    refine hK _ _ hS6 ?_
    clear hK K b5
    (try simp only [Act.put,gA,gS,gZ,sA,sZ,sS])
    have hS:=hS6
    (refine any_takeA (i:=18) rfl hd hS ?_;clear hd;intro hd;(try simp only [Act.put,gA,gS,gZ,sA,sZ,sS]))
    (refine any_takeA (i:=19) rfl hd hS ?_;clear hd;intro hd;(try simp only [Act.put,gA,gS,gZ,sA,sZ,sS]))
    (refine any_takeA (i:=20) rfl hd hS ?_;clear hd;intro hd;(try simp only [Act.put,gA,gS,gZ,sA,sZ,sS]))
    have kz:=zero64_blk.mp (hG6.out).1
    have hth:V6.there g10 0 (wdC x).toArray.size:=by have:=there_blk2 kz;simpa [wdC_len,zero64_len,hx.len] using this
    have zg:=(hG6.out).2
    have us:=Upd.setCells (F:=fun q => q = g10) (b:=g10) (.inl rfl) (wdC x) 0 (Upd.refl _ V6)
    have bF:=hB6.out.trans (us.below (fun q _ e => by omega) hB6.out.size)
    have HE:=Lib.hid (And.intro bF (World.rangeAt_setCells_same V6 g10 0 (wdC x) (by simpa using hth)))
    clear kz us bF zg
    refine any_run hd (L:=[22]) (by kernel_rfl) (by decide) (fun i hi hd2 => ?_)
    clear hd
    have hd:=hd2
    clear hd2
    obtain rfl:=List.mem_singleton.1 hi
    clear hi
    refine any_do rfl rfl (fun K hK => ?_)
    refine wp_store_mid 168 _ _ rfl g10 0 (wdC x).toArray rfl rfl hth hsz2 h1c ?_
    have hS:=SR.out _ HE.out.1
    refine hK _ _ hS ?_
    clear hK K hth
    (try simp only [Act.put,gA,gS,gZ,sA,sZ,sS])
    (refine any_takeA (i:=23) rfl hd hS ?_;clear hd;intro hd;(try simp only [Act.put,gA,gS,gZ,sA,sZ,sS]))
    refine any_done (by kernel_rfl) ?_
    clear hd hS
    dsimp only [noPan2]
    go_wp2
    go_meet
    case rel => exact ⟨_,rfl,rfl,HE⟩
  ·refine any_do rfl rfl (fun K hK => ?_)
   go_simp
   refine hK _ _ hS ?_
   clear hK K
   (try simp only [Act.put,gA,gS,gZ,sA,sZ,sS])
   refine any_run hd (L:=[8,21]) (by kernel_rfl) (by decide) (fun i hi hd2 => ?_)
   clear hd
   have hd:=hd2
   clear hd2
   simp only [List.mem_cons,List.not_mem_nil,or_false] at hi
   rcases hi with rfl | rfl
   ·refine any_do rfl rfl (fun K hK => ?_)
    go_simp
    refine hK _ _ hS ?_
    clear hK K
    (try simp only [Act.put,gA,gS,gZ,sA,sZ,sS])
    refine any_run hd (L:=[17,21]) (by kernel_rfl) (by decide) (fun i hi hd2 => ?_)
    clear hd
    have hd:=hd2
    clear hd2
    simp only [List.mem_cons,List.not_mem_nil,or_false] at hi
    rcases hi with rfl | rfl
    ·refine any_do rfl rfl (fun K hK => ?_)
     go_simp
     refine (bcorner_any V0 x hx side hs64).mono ?_
     rintro e V7 ⟨rfl,b5⟩
     rw [hfit]
     have hB7:=Lib.hid (hB0.out.trans (b5.mono hB0.out.size))
     have hS7:=SR.out _ hB7.out
     refine hK _ _ hS7 ?_
     clear hK K b5
     (try simp only [Act.put,gA,gS,gZ,sA,sZ,sS])
     have hS:=hS7
     (refine any_takeA (i:=18) rfl hd hS ?_;clear hd;intro hd;(try simp only [Act.put,gA,gS,gZ,sA,sZ,sS]))
     (refine any_takeA (i:=19) rfl hd hS ?_;clear hd;intro hd;(try simp only [Act.put,gA,gS,gZ,sA,sZ,sS]))
     (refine any_takeA (i:=20) rfl hd hS ?_;clear hd;intro hd;(try simp only [Act.put,gA,gS,gZ,sA,sZ,sS]))
     refine any_run hd (L:=[21]) (by kernel_rfl) (by decide) (fun i hi hd2 => ?_)
     clear hd
     have hd:=hd2
     clear hd2
     obtain rfl:=List.mem_singleton.1 hi
     clear hi
     refine any_do rfl rfl (fun K hK => ?_)
     go_simp
     have hB8:=Lib.hid (show Below W1.heap.size W1 (V7.alloc (.cells #[Value.int .u64 0,.int .u64 0,.int .u64 0,.int .u64 0,.int .u64 0,.int .u64 0,.int .u64 0,.int .u64 0,.int .u64 0,.int .u64 0,.int .u64 0,.int .u64 0,.int .u64 0,.int .u64 0,.int .u64 0,.int .u64 0,.int .u64 0,.int .u64 0,.int .u64 0,.int .u64 0,.int .u64 0,.int .u64 0,.int .u64 0,.int .u64 0,.int .u64 0,.int .u64 0,.int .u64 0,.int .u64 0,.int .u64 0,.int .u64 0,.int .u64 0,.int .u64 0,.int .u64 0,.int .u64 0,.int .u64 0,.int .u64 0,.int .u64 0,.int .u64 0,.int .u64 0,.int .u64 0,.int .u64 0,.int .u64 0,.int .u64 0,.int .u64 0,.int .u64 0,.int .u64 0,.int .u64 0,.int .u64 0,.int .u64 0,.int .u64 0,.int .u64 0,.int .u64 0,.int .u64 0,.int .u64 0,.int .u64 0,.int .u64 0,.int .u64 0,.int .u64 0,.int .u64 0,.int .u64 0,.int .u64 0,.int .u64 0,.int .u64 0,.int .u64 0] 168)) from hB7.out.alloc hB7.out.size _)
     have hG8:=Lib.hid (And.intro (Blk.new V7 168 #[Value.int .u64 0,.int .u64 0,.int .u64 0,.int .u64 0,.int .u64 0,.int .u64 0,.int .u64 0,.int .u64 0,.int .u64 0,.int .u64 0,.int .u64 0,.int .u64 0,.int .u64 0,.int .u64 0,.int .u64 0,.int .u64 0,.int .u64 0,.int .u64 0,.int .u64 0,.int .u64 0,.int .u64 0,.int .u64 0,.int .u64 0,.int .u64 0,.int .u64 0,.int .u64 0,.int .u64 0,.int .u64 0,.int .u64 0,.int .u64 0,.int .u64 0,.int .u64 0,.int .u64 0,.int .u64 0,.int .u64 0,.int .u64 0,.int .u64 0,.int .u64 0,.int .u64 0,.int .u64 0,.int .u64 0,.int .u64 0,.int .u64 0,.int .u64 0,.int .u64 0,.int .u64 0,.int .u64 0,.int .u64 0,.int .u64 0,.int .u64 0,.int .u64 0,.int .u64 0,.int .u64 0,.int .u64 0,.int .u64 0,.int .u64 0,.int .u64 0,.int .u64 0,.int .u64 0,.int .u64 0,.int .u64 0,.int .u64 0,.int .u64 0,.int .u64 0]) hB7.out.size)
     have hS8:=SR.out _ hB8.out
     refine hK _ _ hS8 ?_
     clear hK K
     (try simp only [Act.put,gA,gS,gZ,sA,sZ,sS])
     generalize hgg:V7.heap.size = g10 at hG8
     generalize V7.alloc (.cells #[Value.int .u64 0,.int .u64 0,.int .u64 0,.int .u64 0,.int .u64 0,.int .u64 0,.int .u64 0,.int .u64 0,.int .u64 0,.int .u64 0,.int .u64 0,.int .u64 0,.int .u64 0,.int .u64 0,.int .u64 0,.int .u64 0,.int .u64 0,.int .u64 0,.int .u64 0,.int .u64 0,.int .u64 0,.int .u64 0,.int .u64 0,.int .u64 0,.int .u64 0,.int .u64 0,.int .u64 0,.int .u64 0,.int .u64 0,.int .u64 0,.int .u64 0,.int .u64 0,.int .u64 0,.int .u64 0,.int .u64 0,.int .u64 0,.int .u64 0,.int .u64 0,.int .u64 0,.int .u64 0,.int .u64 0,.int .u64 0,.int .u64 0,.int .u64 0,.int .u64 0,.int .u64 0,.int .u64 0,.int .u64 0,.int .u64 0,.int .u64 0,.int .u64 0,.int .u64 0,.int .u64 0,.int .u64 0,.int .u64 0,.int .u64 0,.int .u64 0,.int .u64 0,.int .u64 0,.int .u64 0,.int .u64 0,.int .u64 0,.int .u64 0,.int .u64 0] 168) = V8 at hB8 hG8 hS8 ⊢
     (try simp only [hgg])
     have kz:=zero64_blk.mp (hG8.out).1
     have hth:V8.there g10 0 (wdC x).toArray.size:=by have:=there_blk2 kz;simpa [wdC_len,zero64_len,hx.len] using this
     have zg:=(hG8.out).2
     have us:=Upd.setCells (F:=fun q => q = g10) (b:=g10) (.inl rfl) (wdC x) 0 (Upd.refl _ V8)
     have bF:=hB8.out.trans (us.below (fun q _ e => by omega) hB8.out.size)
     have HE:=Lib.hid (And.intro bF (World.rangeAt_setCells_same V8 g10 0 (wdC x) (by simpa using hth)))
     clear kz us bF zg
     refine any_run hd (L:=[22]) (by kernel_rfl) (by decide) (fun i hi hd2 => ?_)
     clear hd
     have hd:=hd2
     clear hd2
     obtain rfl:=List.mem_singleton.1 hi
     clear hi
     refine any_do rfl rfl (fun K hK => ?_)
     refine wp_store_mid 168 _ _ rfl g10 0 (wdC x).toArray rfl rfl hth hsz2 h1c ?_
     have hS:=SR.out _ HE.out.1
     refine hK _ _ hS ?_
     clear hK K hth
     (try simp only [Act.put,gA,gS,gZ,sA,sZ,sS])
     (refine any_takeA (i:=23) rfl hd hS ?_;clear hd;intro hd;(try simp only [Act.put,gA,gS,gZ,sA,sZ,sS]))
     refine any_done (by kernel_rfl) ?_
     clear hd hS
     dsimp only [noPan2]
     go_wp2
     go_meet
     case rel => exact ⟨_,rfl,rfl,HE⟩
    ·refine any_do rfl rfl (fun K hK => ?_)
     go_simp
     have hB9:=Lib.hid (show Below W1.heap.size W1 (V0.alloc (.cells #[Value.int .u64 0,.int .u64 0,.int .u64 0,.int .u64 0,.int .u64 0,.int .u64 0,.int .u64 0,.int .u64 0,.int .u64 0,.int .u64 0,.int .u64 0,.int .u64 0,.int .u64 0,.int .u64 0,.int .u64 0,.int .u64 0,.int .u64 0,.int .u64 0,.int .u64 0,.int .u64 0,.int .u64 0,.int .u64 0,.int .u64 0,.int .u64 0,.int .u64 0,.int .u64 0,.int .u64 0,.int .u64 0,.int .u64 0,.int .u64 0,.int .u64 0,.int .u64 0,.int .u64 0,.int .u64 0,.int .u64 0,.int .u64 0,.int .u64 0,.int .u64 0,.int .u64 0,.int .u64 0,.int .u64 0,.int .u64 0,.int .u64 0,.int .u64 0,.int .u64 0,.int .u64 0,.int .u64 0,.int .u64 0,.int .u64 0,.int .u64 0,.int .u64 0,.int .u64 0,.int .u64 0,.int .u64 0,.int .u64 0,.int .u64 0,.int .u64 0,.int .u64 0,.int .u64 0,.int .u64 0,.int .u64 0,.int .u64 0,.int .u64 0,.int .u64 0] 168)) from hB0.out.alloc hB0.out.size _)
     have hG9:=Lib.hid (And.intro (Blk.new V0 168 #[Value.int .u64 0,.int .u64 0,.int .u64 0,.int .u64 0,.int .u64 0,.int .u64 0,.int .u64 0,.int .u64 0,.int .u64 0,.int .u64 0,.int .u64 0,.int .u64 0,.int .u64 0,.int .u64 0,.int .u64 0,.int .u64 0,.int .u64 0,.int .u64 0,.int .u64 0,.int .u64 0,.int .u64 0,.int .u64 0,.int .u64 0,.int .u64 0,.int .u64 0,.int .u64 0,.int .u64 0,.int .u64 0,.int .u64 0,.int .u64 0,.int .u64 0,.int .u64 0,.int .u64 0,.int .u64 0,.int .u64 0,.int .u64 0,.int .u64 0,.int .u64 0,.int .u64 0,.int .u64 0,.int .u64 0,.int .u64 0,.int .u64 0,.int .u64 0,.int .u64 0,.int .u64 0,.int .u64 0,.int .u64 0,.int .u64 0,.int .u64 0,.int .u64 0,.int .u64 0,.int .u64 0,.int .u64 0,.int .u64 0,.int .u64 0,.int .u64 0,.int .u64 0,.int .u64 0,.int .u64 0,.int .u64 0,.int .u64 0,.int .u64 0,.int .u64 0]) hB0.out.size)
     have hS9:=SR.out _ hB9.out
     refine hK _ _ hS9 ?_
     clear hK K
     (try simp only [Act.put,gA,gS,gZ,sA,sZ,sS])
     generalize hgg:V0.heap.size = g10 at hG9
     generalize V0.alloc (.cells #[Value.int .u64 0,.int .u64 0,.int .u64 0,.int .u64 0,.int .u64 0,.int .u64 0,.int .u64 0,.int .u64 0,.int .u64 0,.int .u64 0,.int .u64 0,.int .u64 0,.int .u64 0,.int .u64 0,.int .u64 0,.int .u64 0,.int .u64 0,.int .u64 0,.int .u64 0,.int .u64 0,.int .u64 0,.int .u64 0,.int .u64 0,.int .u64 0,.int .u64 0,.int .u64 0,.int .u64 0,.int .u64 0,.int .u64 0,.int .u64 0,.int .u64 0,.int .u64 0,.int .u64 0,.int .u64 0,.int .u64 0,.int .u64 0,.int .u64 0,.int .u64 0,.int .u64 0,.int .u64 0,.int .u64 0,.int .u64 0,.int .u64 0,.int .u64 0,.int .u64 0,.int .u64 0,.int .u64 0,.int .u64 0,.int .u64 0,.int .u64 0,.int .u64 0,.int .u64 0,.int .u64 0,.int .u64 0,.int .u64 0,.int .u64 0,.int .u64 0,.int .u64 0,.int .u64 0,.int .u64 0,.int .u64 0,.int .u64 0,.int .u64 0,.int .u64 0] 168) = V9 at hB9 hG9 hS9 ⊢
     (try simp only [hgg])
     refine any_run hd (L:=[17]) (by kernel_rfl) (by decide) (fun i hi hd2 => ?_)
     clear hd
     have hd:=hd2
     clear hd2
     obtain rfl:=List.mem_singleton.1 hi
     clear hi
     refine any_do rfl rfl (fun K hK => ?_)
     go_simp
     refine (bcorner_any V9 x hx side hs64).mono ?_
     rintro e V10 ⟨rfl,b5⟩
     rw [hfit]
     have hB10:=Lib.hid (hB9.out.trans (b5.mono hB9.out.size))
     have hS10:=SR.out _ hB10.out
     have hG10:=Lib.hid (And.intro ((hG9.out).1.upd (Upd.of_below b5 (fun _ => False)) id) (hG9.out).2)
     refine hK _ _ hS10 ?_
     clear hK K b5
     (try simp only [Act.put,gA,gS,gZ,sA,sZ,sS])
     have hS:=hS10
     (refine any_takeA (i:=18) rfl hd hS ?_;clear hd;intro hd;(try simp only [Act.put,gA,gS,gZ,sA,sZ,sS]))
     (refine any_takeA (i:=19) rfl hd hS ?_;clear hd;intro hd;(try simp only [Act.put,gA,gS,gZ,sA,sZ,sS]))
     (refine any_takeA (i:=20) rfl hd hS ?_;clear hd;intro hd;(try simp only [Act.put,gA,gS,gZ,sA,sZ,sS]))
     have kz:=zero64_blk.mp (hG10.out).1
     have hth:V10.there g10 0 (wdC x).toArray.size:=by have:=there_blk2 kz;simpa [wdC_len,zero64_len,hx.len] using this
     have zg:=(hG10.out).2
     have us:=Upd.setCells (F:=fun q => q = g10) (b:=g10) (.inl rfl) (wdC x) 0 (Upd.refl _ V10)
     have bF:=hB10.out.trans (us.below (fun q _ e => by omega) hB10.out.size)
     have HE:=Lib.hid (And.intro bF (World.rangeAt_setCells_same V10 g10 0 (wdC x) (by simpa using hth)))
     clear kz us bF zg
     refine any_run hd (L:=[22]) (by kernel_rfl) (by decide) (fun i hi hd2 => ?_)
     clear hd
     have hd:=hd2
     clear hd2
     obtain rfl:=List.mem_singleton.1 hi
     clear hi
     refine any_do rfl rfl (fun K hK => ?_)
     refine wp_store_mid 168 _ _ rfl g10 0 (wdC x).toArray rfl rfl hth hsz2 h1c ?_
     have hS:=SR.out _ HE.out.1
     refine hK _ _ hS ?_
     clear hK K hth
     (try simp only [Act.put,gA,gS,gZ,sA,sZ,sS])
     (refine any_takeA (i:=23) rfl hd hS ?_;clear hd;intro hd;(try simp only [Act.put,gA,gS,gZ,sA,sZ,sS]))
     refine any_done (by kernel_rfl) ?_
     clear hd hS
     dsimp only [noPan2]
     go_wp2
     go_meet
     case rel => exact ⟨_,rfl,rfl,HE⟩
   ·refine any_do rfl rfl (fun K hK => ?_)
    go_simp
    have hB11:=Lib.hid (show Below W1.heap.size W1 (V0.alloc (.cells #[Value.int .u64 0,.int .u64 0,.int .u64 0,.int .u64 0,.int .u64 0,.int .u64 0,.int .u64 0,.int .u64 0,.int .u64 0,.int .u64 0,.int .u64 0,.int .u64 0,.int .u64 0,.int .u64 0,.int .u64 0,.int .u64 0,.int .u64 0,.int .u64 0,.int .u64 0,.int .u64 0,.int .u64 0,.int .u64 0,.int .u64 0,.int .u64 0,.int .u64 0,.int .u64 0,.int .u64 0,.int .u64 0,.int .u64 0,.int .u64 0,.int .u64 0,.int .u64 0,.int .u64 0,.int .u64 0,.int .u64 0,.int .u64 0,.int .u64 0,.int .u64 0,.int .u64 0,.int .u64 0,.int .u64 0,.int .u64 0,.int .u64 0,.int .u64 0,.int .u64 0,.int .u64 0,.int .u64 0,.int .u64 0,.int .u64 0,.int .u64 0,.int .u64 0,.int .u64 0,.int .u64 0,.int .u64 0,.int .u64 0,.int .u64 0,.int .u64 0,.int .u64 0,.int .u64 0,.int .u64 0,.int .u64 0,.int .u64 0,.int .u64 0,.int .u64 0] 168)) from hB0.out.alloc hB0.out.size _)
    have hG11:=Lib.hid (And.intro (Blk.new V0 168 #[Value.int .u64 0,.int .u64 0,.int .u64 0,.int .u64 0,.int .u64 0,.int .u64 0,.int .u64 0,.int .u64 0,.int .u64 0,.int .u64 0,.int .u64 0,.int .u64 0,.int .u64 0,.int .u64 0,.int .u64 0,.int .u64 0,.int .u64 0,.int .u64 0,.int .u64 0,.int .u64 0,.int .u64 0,.int .u64 0,.int .u64 0,.int .u64 0,.int .u64 0,.int .u64 0,.int .u64 0,.int .u64 0,.int .u64 0,.int .u64 0,.int .u64 0,.int .u64 0,.int .u64 0,.int .u64 0,.int .u64 0,.int .u64 0,.int .u64 0,.int .u64 0,.int .u64 0,.int .u64 0,.int .u64 0,.int .u64 0,.int .u64 0,.int .u64 0,.int .u64 0,.int .u64 0,.int .u64 0,.int .u64 0,.int .u64 0,.int .u64 0,.int .u64 0,.int .u64 0,.int .u64 0,.int .u64 0,.int .u64 0,.int .u64 0,.int .u64 0,.int .u64 0,.int .u64 0,.int .u64 0,.int .u64 0,.int .u64 0,.int .u64 0,.int .u64 0]) hB0.out.size)
    have hS11:=SR.out _ hB11.out
    refine hK _ _ hS11 ?_
    clear hK K
    (try simp only [Act.put,gA,gS,gZ,sA,sZ,sS])
    generalize hgg:V0.heap.size = g10 at hG11
    generalize V0.alloc (.cells #[Value.int .u64 0,.int .u64 0,.int .u64 0,.int .u64 0,.int .u64 0,.int .u64 0,.int .u64 0,.int .u64 0,.int .u64 0,.int .u64 0,.int .u64 0,.int .u64 0,.int .u64 0,.int .u64 0,.int .u64 0,.int .u64 0,.int .u64 0,.int .u64 0,.int .u64 0,.int .u64 0,.int .u64 0,.int .u64 0,.int .u64 0,.int .u64 0,.int .u64 0,.int .u64 0,.int .u64 0,.int .u64 0,.int .u64 0,.int .u64 0,.int .u64 0,.int .u64 0,.int .u64 0,.int .u64 0,.int .u64 0,.int .u64 0,.int .u64 0,.int .u64 0,.int .u64 0,.int .u64 0,.int .u64 0,.int .u64 0,.int .u64 0,.int .u64 0,.int .u64 0,.int .u64 0,.int .u64 0,.int .u64 0,.int .u64 0,.int .u64 0,.int .u64 0,.int .u64 0,.int .u64 0,.int .u64 0,.int .u64 0,.int .u64 0,.int .u64 0,.int .u64 0,.int .u64 0,.int .u64 0,.int .u64 0,.int .u64 0,.int .u64 0,.int .u64 0] 168) = V11 at hB11 hG11 hS11 ⊢
    (try simp only [hgg])
    refine any_run hd (L:=[8]) (by kernel_rfl) (by decide) (fun i hi hd2 => ?_)
    clear hd
    have hd:=hd2
    clear hd2
    obtain rfl:=List.mem_singleton.1 hi
    clear hi
    refine any_do rfl rfl (fun K hK => ?_)
    go_simp
    refine hK _ _ hS11 ?_
    clear hK K
    (try simp only [Act.put,gA,gS,gZ,sA,sZ,sS])
    refine any_run hd (L:=[17]) (by kernel_rfl) (by decide) (fun i hi hd2 => ?_)
    clear hd
    have hd:=hd2
    clear hd2
    obtain rfl:=List.mem_singleton.1 hi
    clear hi
    refine any_do rfl rfl (fun K hK => ?_)
    go_simp
    refine (bcorner_any V11 x hx side hs64).mono ?_
    rintro e V12 ⟨rfl,b5⟩
    rw [hfit]
    have hB12:=Lib.hid (hB11.out.trans (b5.mono hB11.out.size))
    have hS12:=SR.out _ hB12.out
    have hG12:=Lib.hid (And.intro ((hG11.out).1.upd (Upd.of_below b5 (fun _ => False)) id) (hG11.out).2)
    refine hK _ _ hS12 ?_
    clear hK K b5
    (try simp only [Act.put,gA,gS,gZ,sA,sZ,sS])
    have hS:=hS12
    (refine any_takeA (i:=18) rfl hd hS ?_;clear hd;intro hd;(try simp only [Act.put,gA,gS,gZ,sA,sZ,sS]))
    (refine any_takeA (i:=19) rfl hd hS ?_;clear hd;intro hd;(try simp only [Act.put,gA,gS,gZ,sA,sZ,sS]))
    (refine any_takeA (i:=20) rfl hd hS ?_;clear hd;intro hd;(try simp only [Act.put,gA,gS,gZ,sA,sZ,sS]))
    have kz:=zero64_blk.mp (hG12.out).1
    have hth:V12.there g10 0 (wdC x).toArray.size:=by have:=there_blk2 kz;simpa [wdC_len,zero64_len,hx.len] using this
    have zg:=(hG12.out).2
    have us:=Upd.setCells (F:=fun q => q = g10) (b:=g10) (.inl rfl) (wdC x) 0 (Upd.refl _ V12)
    have bF:=hB12.out.trans (us.below (fun q _ e => by omega) hB12.out.size)
    have HE:=Lib.hid (And.intro bF (World.rangeAt_setCells_same V12 g10 0 (wdC x) (by simpa using hth)))
    clear kz us bF zg
    refine any_run hd (L:=[22]) (by kernel_rfl) (by decide) (fun i hi hd2 => ?_)
    clear hd
    have hd:=hd2
    clear hd2
    obtain rfl:=List.mem_singleton.1 hi
    clear hi
    refine any_do rfl rfl (fun K hK => ?_)
    refine wp_store_mid 168 _ _ rfl g10 0 (wdC x).toArray rfl rfl hth hsz2 h1c ?_
    have hS:=SR.out _ HE.out.1
    refine hK _ _ hS ?_
    clear hK K hth
    (try simp only [Act.put,gA,gS,gZ,sA,sZ,sS])
    (refine any_takeA (i:=23) rfl hd hS ?_;clear hd;intro hd;(try simp only [Act.put,gA,gS,gZ,sA,sZ,sS]))
    refine any_done (by kernel_rfl) ?_
    clear hd hS
    dsimp only [noPan2]
    go_wp2
    go_meet
    case rel => exact ⟨_,rfl,rfl,HE⟩
  ·refine any_do rfl rfl (fun K hK => ?_)
   go_simp
   have hB13:=Lib.hid (show Below W1.heap.size W1 (V0.alloc (.cells #[Value.int .u64 0,.int .u64 0,.int .u64 0,.int .u64 0,.int .u64 0,.int .u64 0,.int .u64 0,.int .u64 0,.int .u64 0,.int .u64 0,.int .u64 0,.int .u64 0,.int .u64 0,.int .u64 0,.int .u64 0,.int .u64 0,.int .u64 0,.int .u64 0,.int .u64 0,.int .u64 0,.int .u64 0,.int .u64 0,.int .u64 0,.int .u64 0,.int .u64 0,.int .u64 0,.int .u64 0,.int .u64 0,.int .u64 0,.int .u64 0,.int .u64 0,.int .u64 0,.int .u64 0,.int .u64 0,.int .u64 0,.int .u64 0,.int .u64 0,.int .u64 0,.int .u64 0,.int .u64 0,.int .u64 0,.int .u64 0,.int .u64 0,.int .u64 0,.int .u64 0,.int .u64 0,.int .u64 0,.int .u64 0,.int .u64 0,.int .u64 0,.int .u64 0,.int .u64 0,.int .u64 0,.int .u64 0,.int .u64 0,.int .u64 0,.int .u64 0,.int .u64 0,.int .u64 0,.int .u64 0,.int .u64 0,.int .u64 0,.int .u64 0,.int .u64 0] 168)) from hB0.out.alloc hB0.out.size _)
   have hG13:=Lib.hid (And.intro (Blk.new V0 168 #[Value.int .u64 0,.int .u64 0,.int .u64 0,.int .u64 0,.int .u64 0,.int .u64 0,.int .u64 0,.int .u64 0,.int .u64 0,.int .u64 0,.int .u64 0,.int .u64 0,.int .u64 0,.int .u64 0,.int .u64 0,.int .u64 0,.int .u64 0,.int .u64 0,.int .u64 0,.int .u64 0,.int .u64 0,.int .u64 0,.int .u64 0,.int .u64 0,.int .u64 0,.int .u64 0,.int .u64 0,.int .u64 0,.int .u64 0,.int .u64 0,.int .u64 0,.int .u64 0,.int .u64 0,.int .u64 0,.int .u64 0,.int .u64 0,.int .u64 0,.int .u64 0,.int .u64 0,.int .u64 0,.int .u64 0,.int .u64 0,.int .u64 0,.int .u64 0,.int .u64 0,.int .u64 0,.int .u64 0,.int .u64 0,.int .u64 0,.int .u64 0,.int .u64 0,.int .u64 0,.int .u64 0,.int .u64 0,.int .u64 0,.int .u64 0,.int .u64 0,.int .u64 0,.int .u64 0,.int .u64 0,.int .u64 0,.int .u64 0,.int .u64 0,.int .u64 0]) hB0.out.size)
   have hS13:=SR.out _ hB13.out
   refine hK _ _ hS13 ?_
   clear hK K
   (try simp only [Act.put,gA,gS,gZ,sA,sZ,sS])
   generalize hgg:V0.heap.size = g10 at hG13
   generalize V0.alloc (.cells #[Value.int .u64 0,.int .u64 0,.int .u64 0,.int .u64 0,.int .u64 0,.int .u64 0,.int .u64 0,.int .u64 0,.int .u64 0,.int .u64 0,.int .u64 0,.int .u64 0,.int .u64 0,.int .u64 0,.int .u64 0,.int .u64 0,.int .u64 0,.int .u64 0,.int .u64 0,.int .u64 0,.int .u64 0,.int .u64 0,.int .u64 0,.int .u64 0,.int .u64 0,.int .u64 0,.int .u64 0,.int .u64 0,.int .u64 0,.int .u64 0,.int .u64 0,.int .u64 0,.int .u64 0,.int .u64 0,.int .u64 0,.int .u64 0,.int .u64 0,.int .u64 0,.int .u64 0,.int .u64 0,.int .u64 0,.int .u64 0,.int .u64 0,.int .u64 0,.int .u64 0,.int .u64 0,.int .u64 0,.int .u64 0,.int .u64 0,.int .u64 0,.int .u64 0,.int .u64 0,.int .u64 0,.int .u64 0,.int .u64 0,.int .u64 0,.int .u64 0,.int .u64 0,.int .u64 0,.int .u64 0,.int .u64 0,.int .u64 0,.int .u64 0,.int .u64 0] 168) = V13 at hB13 hG13 hS13 ⊢
   (try simp only [hgg])
   refine any_run hd (L:=[8,16]) (by kernel_rfl) (by decide) (fun i hi hd2 => ?_)
   clear hd
   have hd:=hd2
   clear hd2
   simp only [List.mem_cons,List.not_mem_nil,or_false] at hi
   rcases hi with rfl | rfl
   ·refine any_do rfl rfl (fun K hK => ?_)
    go_simp
    refine hK _ _ hS13 ?_
    clear hK K
    (try simp only [Act.put,gA,gS,gZ,sA,sZ,sS])
    refine any_run hd (L:=[16]) (by kernel_rfl) (by decide) (fun i hi hd2 => ?_)
    clear hd
    have hd:=hd2
    clear hd2
    obtain rfl:=List.mem_singleton.1 hi
    clear hi
    refine any_do rfl rfl (fun K hK => ?_)
    go_simp
    refine hK _ _ hS13 ?_
    clear hK K
    (try simp only [Act.put,gA,gS,gZ,sA,sZ,sS])
    refine any_run hd (L:=[17]) (by kernel_rfl) (by decide) (fun i hi hd2 => ?_)
    clear hd
    have hd:=hd2
    clear hd2
    obtain rfl:=List.mem_singleton.1 hi
    clear hi
    refine any_do rfl rfl (fun K hK => ?_)
    go_simp
    refine (bcorner_any V13 x hx side hs64).mono ?_
    rintro e V14 ⟨rfl,b5⟩
    rw [hfit]
    have hB14:=Lib.hid (hB13.out.trans (b5.mono hB13.out.size))
    have hS14:=SR.out _ hB14.out
    have hG14:=Lib.hid (And.intro ((hG13.out).1.upd (Upd.of_below b5 (fun _ => False)) id) (hG13.out).2)
    refine hK _ _ hS14 ?_
    clear hK K b5
    (try simp only [Act.put,gA,gS,gZ,sA,sZ,sS])
    have hS:=hS14
    (refine any_takeA (i:=18) rfl hd hS ?_;clear hd;intro hd;(try simp only [Act.put,gA,gS,gZ,sA,sZ,sS]))
    (refine any_takeA (i:=19) rfl hd hS ?_;clear hd;intro hd;(try simp only [Act.put,gA,gS,gZ,sA,sZ,sS]))
    (refine any_takeA (i:=20) rfl hd hS ?_;clear hd;intro hd;(try simp only [Act.put,gA,gS,gZ,sA,sZ,sS]))
    have kz:=zero64_blk.mp (hG14.out).1
    have hth:V14.there g10 0 (wdC x).toArray.size:=by have:=there_blk2 kz;simpa [wdC_len,zero64_len,hx.len] using this
    have zg:=(hG14.out).2
    have us:=Upd.setCells (F:=fun q => q = g10) (b:=g10) (.inl rfl) (wdC x) 0 (Upd.refl _ V14)
    have bF:=hB14.out.trans (us.below (fun q _ e => by omega) hB14.out.size)
    have HE:=Lib.hid (And.intro bF (World.rangeAt_setCells_same V14 g10 0 (wdC x) (by simpa using hth)))
    clear kz us bF zg
    refine any_run hd (L:=[22]) (by kernel_rfl) (by decide) (fun i hi hd2 => ?_)
    clear hd
    have hd:=hd2
    clear hd2
    obtain rfl:=List.mem_singleton.1 hi
    clear hi
    refine any_do rfl rfl (fun K hK => ?_)
    refine wp_store_mid 168 _ _ rfl g10 0 (wdC x).toArray rfl rfl hth hsz2 h1c ?_
    have hS:=SR.out _ HE.out.1
    refine hK _ _ hS ?_
    clear hK K hth
    (try simp only [Act.put,gA,gS,gZ,sA,sZ,sS])
    (refine any_takeA (i:=23) rfl hd hS ?_;clear hd;intro hd;(try simp only [Act.put,gA,gS,gZ,sA,sZ,sS]))
    refine any_done (by kernel_rfl) ?_
    clear hd hS
    dsimp only [noPan2]
    go_wp2
    go_meet
    case rel => exact ⟨_,rfl,rfl,HE⟩
   ·refine any_do rfl rfl (fun K hK => ?_)
    go_simp
    refine hK _ _ hS13 ?_
    clear hK K
    (try simp only [Act.put,gA,gS,gZ,sA,sZ,sS])
    refine any_run hd (L:=[8]) (by kernel_rfl) (by decide) (fun i hi hd2 => ?_)
    clear hd
    have hd:=hd2
    clear hd2
    obtain rfl:=List.mem_singleton.1 hi
    clear hi
    refine any_do rfl rfl (fun K hK => ?_)
    go_simp
    refine hK _ _ hS13 ?_
    clear hK K
    (try simp only [Act.put,gA,gS,gZ,sA,sZ,sS])
    refine any_run hd (L:=[17]) (by kernel_rfl) (by decide) (fun i hi hd2 => ?_)
    clear hd
    have hd:=hd2
    clear hd2
    obtain rfl:=List.mem_singleton.1 hi
    clear hi
    refine any_do rfl rfl (fun K hK => ?_)
    go_simp
    refine (bcorner_any V13 x hx side hs64).mono ?_
    rintro e V15 ⟨rfl,b5⟩
    rw [hfit]
    have hB15:=Lib.hid (hB13.out.trans (b5.mono hB13.out.size))
    have hS15:=SR.out _ hB15.out
    have hG15:=Lib.hid (And.intro ((hG13.out).1.upd (Upd.of_below b5 (fun _ => False)) id) (hG13.out).2)
    refine hK _ _ hS15 ?_
    clear hK K b5
    (try simp only [Act.put,gA,gS,gZ,sA,sZ,sS])
    have hS:=hS15
    (refine any_takeA (i:=18) rfl hd hS ?_;clear hd;intro hd;(try simp only [Act.put,gA,gS,gZ,sA,sZ,sS]))
    (refine any_takeA (i:=19) rfl hd hS ?_;clear hd;intro hd;(try simp only [Act.put,gA,gS,gZ,sA,sZ,sS]))
    (refine any_takeA (i:=20) rfl hd hS ?_;clear hd;intro hd;(try simp only [Act.put,gA,gS,gZ,sA,sZ,sS]))
    have kz:=zero64_blk.mp (hG15.out).1
    have hth:V15.there g10 0 (wdC x).toArray.size:=by have:=there_blk2 kz;simpa [wdC_len,zero64_len,hx.len] using this
    have zg:=(hG15.out).2
    have us:=Upd.setCells (F:=fun q => q = g10) (b:=g10) (.inl rfl) (wdC x) 0 (Upd.refl _ V15)
    have bF:=hB15.out.trans (us.below (fun q _ e => by omega) hB15.out.size)
    have HE:=Lib.hid (And.intro bF (World.rangeAt_setCells_same V15 g10 0 (wdC x) (by simpa using hth)))
    clear kz us bF zg
    refine any_run hd (L:=[22]) (by kernel_rfl) (by decide) (fun i hi hd2 => ?_)
    clear hd
    have hd:=hd2
    clear hd2
    obtain rfl:=List.mem_singleton.1 hi
    clear hi
    refine any_do rfl rfl (fun K hK => ?_)
    refine wp_store_mid 168 _ _ rfl g10 0 (wdC x).toArray rfl rfl hth hsz2 h1c ?_
    have hS:=SR.out _ HE.out.1
    refine hK _ _ hS ?_
    clear hK K hth
    (try simp only [Act.put,gA,gS,gZ,sA,sZ,sS])
    (refine any_takeA (i:=23) rfl hd hS ?_;clear hd;intro hd;(try simp only [Act.put,gA,gS,gZ,sA,sZ,sS]))
    refine any_done (by kernel_rfl) ?_
    clear hd hS
    dsimp only [noPan2]
    go_wp2
    go_meet
    case rel => exact ⟨_,rfl,rfl,HE⟩
 case rest =>
  obtain ⟨g10,rfl,rfl,hE⟩:=hcut
  have hn:=eqin_blk wc hx hx
  rw [decide_eq_true rfl] at hn
  have r7:=(SR.out _ hE.out.1).1
  have r10:=hE.out.2
  have hcon:=qor_all wc F p side b (H.out.1.below hE.out.1) x hx
  unfold wdV at hcon
  go_wp2_with (first | (refine wpList_load_mid rfl 168 _ rfl g10 0 rfl (wdC x) (.array 64 166) r10 Tryz.underlying168 rfl hsz ?_) | (refine wpList_load_mid rfl 168 _ rfl w.heap.size 0 rfl (wdC x) (.array 64 166) r7 Tryz.underlying168 rfl hsz ?_) | fail)
  refine hcon.mono ?_
  rintro e W6 ⟨rfl,hto⟩
  have FIN:=Lib.hid (QTo.after (H.out.2.2.trans (hE.out.1.mono H.out.2.2.size)) hto)
  clear hto
  go_wp2
  refine bodyPost_ret (v:=.tuple #[.bool (decide (0 < lenB (List.zipWith lessN x (oldW b)))),.int .i64 0]) (by simp [results,Tryz.f180,go_sem]) rfl ⟨rfl,FIN.out⟩
end Go.Proofs.YtddffnonlmfhdaaGreatDoor
namespace Go.Proofs.YtddffnonlmfhdaaGreatDoor
open Go.RowKit
def joinQ (b:Option (List Nat)):Option (List Nat)→Option (List Nat)
 | none => b
 | some r => joinO b r
def moreQ (b:Option (List Nat)):Option (List Nat)→Bool
 | none => false
 | some r => decide (0 < lenB (List.zipWith lessN r (oldW b)))
theorem range_pl {w:World} {g:Nat} {t:TypeId} {r:List Nat} (h:Blk w g t (plC r).toArray):w.rangeAt g 2 (wdC r):=fun j v hv => by
 rw [h.cell (2 + j),Nat.add_comm]
 simpa [plC] using hv
theorem qjoin_any (w:World) (F F':Nat→Prop) (p q side:Nat) (b b':Option (List Nat)) (h:QuS w F p side b) (h':QuS w F' q side b') :
  Calls Tryz.prog 151 #[.pointer (some ⟨p,0,none⟩),.pointer (some ⟨q,0,none⟩)] w (fun e w' => e = .returned (.tuple #[.bool (moreQ b b'),.int .i64 0])∧QTo w F p side (joinQ b b') w'):=by
 have hs1:1 ≤ side:=by obtain ⟨O,dep,cnt,m,last,L,pv,lv,hq,ok,-⟩:=h;exact ok.s1
 have qp:w.cell? ⟨p,0,none⟩ = some (.int .i64 (side:Int)):=by obtain ⟨O,dep,cnt,m,last,L,pv,lv,hq,ok,-⟩:=h;exact hq.blk.cell 0
 have qq:w.cell? ⟨q,0,none⟩ = some (.int .i64 (side:Int)):=by obtain ⟨O,dep,cnt,m,last,L,pv,lv,hq,ok,-⟩:=h';exact hq.blk.cell 0
 have his:=qis_any w p side hs1 qp
 have his2:=qis_any w q side hs1 qq
 have bN:=fun n => (show Below w.heap.size w (w.drewN n) from ⟨rfl,rfl,rfl,Nat.le_refl _,fun _ _ => rfl⟩)
 have hall:=fun n => qall_any (w.drewN n) F' q side b' (h'.below (bN n))
 have hw':Hid (∀ r,b' = some r→Wd r):=by obtain ⟨O,dep,cnt,m,last,L,pv,lv,hq,ok,-⟩:=h';exact Lib.hid (fun r e => (ok.is r e).2.2.2.2)
 have hu0:=Lib.hid bN
 clear bN
 have H:=Lib.hid h
 clear h h'
 go_enter Tryz.func151,Tryz.ntmps151
 go_wp2_with fail
 refine his.mono ?_
 clear his
 rintro e V1 ⟨rfl,hw1⟩
 subst V1
 go_wp2_with fail
 refine his2.mono ?_
 clear his2
 rintro e V1 ⟨rfl,hw1⟩
 subst V1
 go_upto_region 3 with (fail)
 go_quiet (fail)
 go_wp2_with fail
 refine (hall _).mono ?_
 rintro e V1 ⟨hb1,hm⟩
 have hu1:=Lib.hid ((hu0.out _).trans (hb1.mono (hu0.out _).size))
 clear hb1 hu0 hall
 cases b' with
 | none =>
  obtain rfl:=hm
  have FIN:=Lib.hid (show QTo w F p side (joinQ b none) V1 from ⟨F,H.out.below hu1.out,Upd.of_below hu1.out F,fun k hk => .inl hk⟩)
  go_wp2_with fail
  refine wp_loop_rounds 1 ?_
  rw [rounds_succ]
  go_wp2_with fail
  refine bodyPost_ret (v:=.tuple #[.bool false,.int .i64 0]) (by simp [results,Tryz.f151,go_sem]) rfl ⟨rfl,FIN.out⟩
 | some r =>
  obtain ⟨A,c,rfl,hm⟩:=hm
  have hr:=hw'.out r rfl
  have H1:=Lib.hid hm
  obtain ⟨ga,cc,e,hob,-,-,-,hcell⟩:=own_cells hm.1 (by decide)
  injection e with e1 e2 e3
  subst e1
  subst e3
  have rA:V1.rangeAt ga 0 (plC r):=fun j v hv => by rw [Nat.zero_add];exact (hcell j v hv).1
  have hsz:=info_pl hr
  have h1c:=plC_one r
  have k2:=Blk.new V1 196 (plC r).toArray
  have b2:Below V1.heap.size V1 (V1.alloc (.cells (plC r).toArray 196)):=(Below.refl _ _).alloc (Nat.le_refl _) _
  have HX:=Lib.hid (And.intro k2 (hu1.out.trans (b2.mono hu1.out.size)))
  clear k2 b2 hcell hm e2 hob
  go_upto_region 7 with (fail)
  refine wp_loop_rounds 2 ?_
  rw [rounds_succ]
  go_upto_region 9 with (first | (refine wpList_load_mid rfl 196 _ rfl ga 0 rfl (plC r) (.struct _) rA Tryz.underlying196 rfl hsz ?_) | (refine wpList_alloc_store rfl rfl 196 _ _ rfl rfl (plC r) ⟨_,by rw [plC_len hr];exact zero_placed.choose_spec.1,zero_placed.choose_spec.2⟩ rfl rfl hsz h1c ?_) | fail)
  clear rA hsz h1c
  generalize hg2:V1.heap.size = g2 at HX ⊢
  generalize V1.alloc (.cells (plC r).toArray 196) = V2 at HX ⊢
  clear hg2
  have r2:=range_pl HX.out.1
  have q0:V2.cell? ⟨g2,0,none⟩ = some (.int .i64 0):=by rw [HX.out.1.cell 0];simp [plC]
  have q1:V2.cell? ⟨g2,1,none⟩ = some (.int .i64 0):=by rw [HX.out.1.cell 1];simp [plC]
  have hsz:=info_wd hr
  have hcon:=qor_all V2 F p side b (H.out.below HX.out.2) r hr
  unfold wdV at hcon
  go_wp2_with (first | (refine wpList_load_mid rfl 168 _ rfl g2 2 rfl (wdC r) (.array 64 166) r2 Tryz.underlying168 rfl hsz ?_) | fail)
  refine hcon.mono ?_
  rintro e V3 ⟨rfl,hto⟩
  have FIN:=Lib.hid (show QTo w F p side (joinQ b (some r)) V3 from QTo.after HX.out.2 hto)
  clear hto hcon r2 q0 q1 hsz
  cases hd:decide (0 < lenB (List.zipWith lessN r (oldW b)))
  ·go_wp2
   rw [rounds_succ]
   go_wp2
   refine bodyPost_ret (v:=.tuple #[.bool false,.int .i64 0]) (by simp [results,Tryz.f151,go_sem]) rfl ⟨by rw [show moreQ b (some r) = false from hd],FIN.out⟩
  ·go_wp2
   rw [rounds_succ]
   go_wp2
   refine bodyPost_ret (v:=.tuple #[.bool true,.int .i64 0]) (by simp [results,Tryz.f151,go_sem]) rfl ⟨by rw [show moreQ b (some r) = true from hd],FIN.out⟩
end Go.Proofs.YtddffnonlmfhdaaGreatDoor
namespace Go.Proofs.YtddffnonlmfhdaaGreatDoor
open Go.RowKit
def fset {α:Type} (f:Nat→α) (j:Nat) (x:α):Nat→α:=fun k => if k = j then x else f k
theorem fset_same {α:Type} (f:Nat→α) (j:Nat) (x:α):fset f j x j = x:=if_pos rfl
theorem fset_other {α:Type} (f:Nat→α) {j k:Nat} (x:α) (h:k ≠ j):fset f j x k = f k:=if_neg h
theorem rowV_set (f:Nat→Value) (n j:Nat) (x:Value):(rowV f n).set j x = rowV (fset f j x) n:=by
 apply List.ext_getElem?
 intro i
 rw [List.getElem?_set]
 unfold rowV fset
 simp only [List.length_map,List.length_range,List.getElem?_map]
 by_cases hij:j = i
 ·subst hij
  by_cases hj:j < n
  ·simp [hj]
  ·simp [hj]
 ·rw [if_neg hij]
  by_cases hi:i < n
  ·simp [hi,Ne.symm hij]
  ·simp [hi]
section
variable {w w':World} {O:Nat→Option Ro} {p r g j c:Nat} {N:List Txt} {U V:Nat→List Hp} {cnt:Int} {nv iv ov:Value} {fo fi:Nat→Value}
theorem GrI.setO (h:GrI w O p N U V cnt ⟨r,nv,.slice (some ⟨g,0,none⟩) N.length c,iv,fo,fi⟩) (hj:j < N.length) {v:Value} {L:List Hp} (o:w'.ownsRow 0 103 2 v L.length (hpCells L)) (u:Upd (fun k => (fo j).ownBlock = some k) w w')
  (pl:∀ k,v.ownBlock = some k→(fo j).ownBlock = some k ∨ w.heap.size ≤ k):GrNext w (fun k => O k ≠ none) p N (fset U j L) V cnt (w'.setCell ⟨g,j,none⟩ v):=by
 have us:=(Upd.refl (fun k => k = g) w').setCell (p:=⟨g,j,none⟩) (.inl rfl) v
 have hg:O g = some .o:=h.oo g rfl
 have fresh:∀ k,w.heap.size ≤ k→O k = none:=fun k hk => by
  cases e:O k with
  | none => rfl
  | some t => have:=h.lt k (by simp [e]);omega
 have hv:∀ k,v.ownBlock = some k→O k = some (.oo j) ∨ O k = none∧w.heap.size ≤ k:=fun k hk => by
  rcases pl k hk with h1 | h1
  ·exact .inl (h.oU j k h1)
  ·exact .inr ⟨fresh k h1,h1⟩
 have keep:∀ k t,O k = some t→(t = Ro.oo j→False)→(if v.ownBlock = some k then some (Ro.oo j) else O k) = some t:=fun k t e ht => by
  rw [if_neg,e]
  intro hk
  rcases hv k hk with h1 | h1
  ·rw [h1] at e;injection e with e;exact ht e.symm
  ·rw [h1.1] at e;cases e
 have no:∀ k t,O k = some t→(t = Ro.oo j→False)→(t = Ro.o→False)→¬ (fo j).ownBlock = some k∧¬ k = g:=fun k t e h1 h2 =>
  ⟨fun hk => (by have:=h.oU j k hk;rw [e] at this;injection this with this;exact h1 this),fun hk => (by rw [hk,hg] at e;injection e with e;exact h2 e.symm)⟩
 have no1:∀ k t,O k = some t→(t = Ro.oo j→False)→¬ (fo j).ownBlock = some k:=fun k t e h1 hk => by
  have:=h.oU j k hk;rw [e] at this;injection this with this;exact h1 this
 have nvg:∀ k,v.ownBlock = some k→¬ k = g:=fun k hk e => by
  subst e
  rcases hv k hk with h1 | h1
  ·rw [hg] at h1;cases h1
  ·rw [hg] at h1;cases h1.1
 have k2:=fun {x:Value} {base e size n:Nat} {xs:List Value} (hx:w.ownsRow base e size x n xs) (hr:∀ k,x.ownBlock = some k→¬ (fo j).ownBlock = some k∧¬ k = g) => ownsRow_upd (ownsRow_upd hx u fun k hk => (hr k hk).1) us fun k hk => (hr k hk).2
 have b:=no _ _ h.op nofun nofun
 have bm:=no _ _ h.om nofun nofun
 refine ⟨_,⟨fun k => if v.ownBlock = some k then some (Ro.oo j) else O k,⟨r,nv,.slice (some ⟨g,0,none⟩) N.length c,iv,fset fo j v,fi⟩,⟨(h.blk.upd u b.1).upd us b.2,(h.map.upd u bm.1).upd us bm.2,k2 h.rn fun k hk => no _ _ (h.on k hk) nofun nofun,?_,k2 h.ri fun k hk => no _ _ (h.oi k hk) nofun nofun,?_,fun i => k2 (h.fi i) fun k hk => no _ _ (h.oV i k hk) nofun nofun,
  keep _ _ h.op nofun,keep _ _ h.om nofun,fun k hk => keep _ _ (h.on k hk) nofun,fun k hk => keep _ _ (h.oo k hk) nofun,fun k hk => keep _ _ (h.oi k hk) nofun,?_,fun i k hk => keep _ _ (h.oV i k hk) nofun,?_,?_⟩,rfl⟩,?_,?_⟩
 ·have h1:=own_setCell (ownsRow_upd h.ro u fun k hk => no1 _ _ (h.oo k hk) nofun) (i:=j) (by omega) v
  rw [rowV_set] at h1
  exact h1
 ·intro i
  by_cases e:i = j
  ·subst e
   show World.ownsRow _ _ _ _ (fset fo i v i) (fset U i L i).length (hpCells (fset U i L i))
   rw [fset_same,fset_same]
   exact ownsRow_upd o us nvg
  ·show World.ownsRow _ _ _ _ (fset fo j v i) (fset U j L i).length (hpCells (fset U j L i))
   rw [fset_other _ _ e,fset_other _ _ e]
   exact k2 (h.fo i) fun k hk => no _ _ (h.oU i k hk) (fun h => by injection h with h;exact e h) nofun
 ·intro i k hk
  by_cases e:i = j
  ·subst e
   have hk:(fset fo i v i).ownBlock = some k:=hk
   rw [fset_same] at hk
   exact if_pos hk
  ·have hk:(fset fo j v i).ownBlock = some k:=hk
   rw [fset_other _ _ e] at hk
   exact keep _ _ (h.oU i k hk) (fun h => by injection h with h;exact e h)
 ·intro k hk
  (try dsimp only at hk)
  by_cases h1:v.ownBlock = some k
  ·exact Nat.lt_of_lt_of_le (o.lt k h1).2 us.size
  ·rw [if_neg h1] at hk
   exact Nat.lt_of_lt_of_le (h.lt k hk) (Nat.le_trans u.size us.size)
 ·intro k hk
  refine ⟨?_,(h.out k hk).2⟩
  show fset fo j v k = _
  rw [fset_other _ _ (by omega)]
  exact (h.out k hk).1
 ·exact (u.mono (fun k _ hk => by rw [h.oU j k hk];nofun)).trans us (fun k hk => .inl (by rw [hk,hg];nofun))
 ·intro k hk
  (try dsimp only at hk ⊢)
  by_cases h1:v.ownBlock = some k
  ·rcases hv k h1 with h2 | h2
   ·rw [h2];exact .inl nofun
   ·exact .inr h2.2
  ·rw [if_neg h1] at hk
   exact .inl hk
theorem GrI.setI (h:GrI w O p N U V cnt ⟨r,nv,ov,.slice (some ⟨g,0,none⟩) N.length c,fo,fi⟩) (hj:j < N.length) {v:Value} {L:List Hp} (o:w'.ownsRow 0 103 2 v L.length (hpCells L)) (u:Upd (fun k => (fi j).ownBlock = some k) w w')
  (pl:∀ k,v.ownBlock = some k→(fi j).ownBlock = some k ∨ w.heap.size ≤ k):GrNext w (fun k => O k ≠ none) p N U (fset V j L) cnt (w'.setCell ⟨g,j,none⟩ v):=by
 have us:=(Upd.refl (fun k => k = g) w').setCell (p:=⟨g,j,none⟩) (.inl rfl) v
 have hg:O g = some .i:=h.oi g rfl
 have fresh:∀ k,w.heap.size ≤ k→O k = none:=fun k hk => by
  cases e:O k with
  | none => rfl
  | some t => have:=h.lt k (by simp [e]);omega
 have hv:∀ k,v.ownBlock = some k→O k = some (.ii j) ∨ O k = none∧w.heap.size ≤ k:=fun k hk => by
  rcases pl k hk with h1 | h1
  ·exact .inl (h.oV j k h1)
  ·exact .inr ⟨fresh k h1,h1⟩
 have keep:∀ k t,O k = some t→(t = Ro.ii j→False)→(if v.ownBlock = some k then some (Ro.ii j) else O k) = some t:=fun k t e ht => by
  rw [if_neg,e]
  intro hk
  rcases hv k hk with h1 | h1
  ·rw [h1] at e;injection e with e;exact ht e.symm
  ·rw [h1.1] at e;cases e
 have no:∀ k t,O k = some t→(t = Ro.ii j→False)→(t = Ro.i→False)→¬ (fi j).ownBlock = some k∧¬ k = g:=fun k t e h1 h2 =>
  ⟨fun hk => (by have:=h.oV j k hk;rw [e] at this;injection this with this;exact h1 this),fun hk => (by rw [hk,hg] at e;injection e with e;exact h2 e.symm)⟩
 have no1:∀ k t,O k = some t→(t = Ro.ii j→False)→¬ (fi j).ownBlock = some k:=fun k t e h1 hk => by
  have:=h.oV j k hk;rw [e] at this;injection this with this;exact h1 this
 have nvg:∀ k,v.ownBlock = some k→¬ k = g:=fun k hk e => by
  subst e
  rcases hv k hk with h1 | h1
  ·rw [hg] at h1;cases h1
  ·rw [hg] at h1;cases h1.1
 have k2:=fun {x:Value} {base e size n:Nat} {xs:List Value} (hx:w.ownsRow base e size x n xs) (hr:∀ k,x.ownBlock = some k→¬ (fi j).ownBlock = some k∧¬ k = g) => ownsRow_upd (ownsRow_upd hx u fun k hk => (hr k hk).1) us fun k hk => (hr k hk).2
 have b:=no _ _ h.op nofun nofun
 have bm:=no _ _ h.om nofun nofun
 refine ⟨_,⟨fun k => if v.ownBlock = some k then some (Ro.ii j) else O k,⟨r,nv,ov,.slice (some ⟨g,0,none⟩) N.length c,fo,fset fi j v⟩,⟨(h.blk.upd u b.1).upd us b.2,(h.map.upd u bm.1).upd us bm.2,k2 h.rn fun k hk => no _ _ (h.on k hk) nofun nofun,k2 h.ro fun k hk => no _ _ (h.oo k hk) nofun nofun,?_,fun i => k2 (h.fo i) fun k hk => no _ _ (h.oU i k hk) nofun nofun,?_,
  keep _ _ h.op nofun,keep _ _ h.om nofun,fun k hk => keep _ _ (h.on k hk) nofun,fun k hk => keep _ _ (h.oo k hk) nofun,fun k hk => keep _ _ (h.oi k hk) nofun,fun i k hk => keep _ _ (h.oU i k hk) nofun,?_,?_,?_⟩,rfl⟩,?_,?_⟩
 ·have h1:=own_setCell (ownsRow_upd h.ri u fun k hk => no1 _ _ (h.oi k hk) nofun) (i:=j) (by omega) v
  rw [rowV_set] at h1
  exact h1
 ·intro i
  by_cases e:i = j
  ·subst e
   show World.ownsRow _ _ _ _ (fset fi i v i) (fset V i L i).length (hpCells (fset V i L i))
   rw [fset_same,fset_same]
   exact ownsRow_upd o us nvg
  ·show World.ownsRow _ _ _ _ (fset fi j v i) (fset V j L i).length (hpCells (fset V j L i))
   rw [fset_other _ _ e,fset_other _ _ e]
   exact k2 (h.fi i) fun k hk => no _ _ (h.oV i k hk) (fun h => by injection h with h;exact e h) nofun
 ·intro i k hk
  by_cases e:i = j
  ·subst e
   have hk:(fset fi i v i).ownBlock = some k:=hk
   rw [fset_same] at hk
   exact if_pos hk
  ·have hk:(fset fi j v i).ownBlock = some k:=hk
   rw [fset_other _ _ e] at hk
   exact keep _ _ (h.oV i k hk) (fun h => by injection h with h;exact e h)
 ·intro k hk
  (try dsimp only at hk)
  by_cases h1:v.ownBlock = some k
  ·exact Nat.lt_of_lt_of_le (o.lt k h1).2 us.size
  ·rw [if_neg h1] at hk
   exact Nat.lt_of_lt_of_le (h.lt k hk) (Nat.le_trans u.size us.size)
 ·intro k hk
  refine ⟨(h.out k hk).1,?_⟩
  show fset fi j v k = _
  rw [fset_other _ _ (by omega)]
  exact (h.out k hk).2
 ·exact (u.mono (fun k _ hk => by rw [h.oV j k hk];nofun)).trans us (fun k hk => .inl (by rw [hk,hg];nofun))
 ·intro k hk
  (try dsimp only at hk ⊢)
  by_cases h1:v.ownBlock = some k
  ·rcases hv k h1 with h2 | h2
   ·rw [h2];exact .inl nofun
   ·exact .inr h2.2
  ·rw [if_neg h1] at hk
   exact .inl hk
theorem GrI.setC {D:GrD} (h:GrI w O p N U V cnt D) (x:Int):GrNext w (fun k => O k ≠ none) p N U V x (w.setCell ⟨p,4,none⟩ (.int .i64 x)):=by
 have us:=(Upd.refl (fun k => k = p) w).setCell (p:=⟨p,4,none⟩) (.inl rfl) (.int .i64 x)
 have no:∀ k t,O k = some t→(t = Ro.p→False)→¬ k = p:=fun k t e ht hk => by
  rw [hk,h.op] at e;injection e with e;exact ht e.symm
 exact ⟨_,⟨O,D,⟨h.blk.set 4 _,h.map.upd us (no _ _ h.om nofun),ownsRow_upd h.rn us fun k hk => no _ _ (h.on k hk) nofun,ownsRow_upd h.ro us fun k hk => no _ _ (h.oo k hk) nofun,ownsRow_upd h.ri us fun k hk => no _ _ (h.oi k hk) nofun,
  fun j => ownsRow_upd (h.fo j) us fun k hk => no _ _ (h.oU j k hk) nofun,fun j => ownsRow_upd (h.fi j) us fun k hk => no _ _ (h.oV j k hk) nofun,h.op,h.om,h.on,h.oo,h.oi,h.oU,h.oV,fun k hk => Nat.lt_of_lt_of_le (h.lt k hk) us.size,h.out⟩,rfl⟩,
  us.mono (fun k _ hk => by rw [hk,h.op];nofun),fun k hk => .inl hk⟩
end
end Go.Proofs.YtddffnonlmfhdaaGreatDoor
