/- Matrices of bits: Set, at the corner; Sorting at most one block; The lowest bit of a word; Going down a matrix: nothing, where it is empty; A block and its place as one value; a row of one of them; Going down a matrix: at its block; Going down a matrix: the walk at its block; Going down a matrix: all the way; All blocks of a matrix: at most one; All blocks of a matrix: none, or what there is; The iterators over cells: what the makers hand back; The bits of a word, lowest first (plain); The cells of a block, row by row (plain); A region that draws its order, in a round of a loop over a function (at the wide fence): the walk of Ord serves there as well. Nothing here names the program; A range over a function at the wide fence: the loop's variables may be boxed by each round; the law in a form to apply. Nothing here names the program; A range over a function whose iterator may itself range over another: which blocks a round turns is named. Nothing here names the program. -/
import Derived.Test.YtddffnonlmfhdaaGreatDoorW06
import Derived.Shelf.Spec.TrailingZeros
import Derived.Great.FillDense
import Derived.Great.BuildSlice
import Derived.Laws.EntriesVeiled
import Derived.OrdersIn
import Derived.RangeFuncNested
import Derived.Test.YtddffnonlmfhdaaGreatDoorW01
import Derived.RangeFuncBound
import Derived.RangeFuncCalls
import Derived.RangeFuncLeaves
import Derived.RangeFuncBox
set_option linter.unusedVariables false
set_option linter.unusedSimpArgs false
set_option maxHeartbeats 16000000
set_option maxRecDepth 100000
namespace Go.Proofs.YtddffnonlmfhdaaGreatDoor
open Go.RowKit
theorem pcN_pos:∀ (k x j:Nat),j < k→x.testBit j = true→0 < pcN k x
 | 0,_,_,h,_ => absurd h (Nat.not_lt_zero _)
 | k + 1,x,0,_,hb => by
  have:=low_bit x
  rw [hb] at this
  unfold pcN
  have h1:x % 2 = 1:=this
  omega
 | k + 1,x,j + 1,h,hb => by
  rw [Nat.testBit_succ] at hb
  have:=pcN_pos k (x / 2) j (by omega) hb
  unfold pcN
  omega
theorem lenB_mem:∀ {L:List Nat} {x:Nat},x ∈ L→pcN 64 x ≤ lenB L
 | y :: L,x,h => by
  unfold lenB
  rw [List.map_cons,List.sum_cons]
  rcases List.mem_cons.1 h with rfl | h
  ·omega
  ·have:=lenB_mem h
   unfold lenB at this
   omega
theorem oneB_at {i j:Nat} (hi:i < 64):(oneB i j)[i]? = some (2 ^ j):=by
 unfold oneB
 rw [List.getElem?_set,if_pos rfl,if_pos (by rw [zero64_len];exact hi)]
theorem oneB_ne {i j:Nat} (hi:i < 64):oneB i j ≠ zero64:=fun e => by
 have h:=oneB_at (i:=i) (j:=j) hi
 rw [e,zero64_at hi] at h
 injection h with h
 have:=Nat.two_pow_pos j
 omega
theorem less_one {o:List Nat} (ho:Wd o) {i j:Nat} (hi:i < 64) (hj:j < 64) (hb:bitW o i j = false):0 < lenB (List.zipWith lessN (oneB i j) o):=by
 obtain ⟨x,hx⟩:∃ x,o[i]? = some x:=⟨o[i]'(by rw [ho.len];exact hi),List.getElem?_eq_getElem _⟩
 have hz:(List.zipWith lessN (oneB i j) o)[i]? = some (lessN (2 ^ j) x):=by rw [List.getElem?_zipWith,oneB_at hi,hx]
 have hxf:=ho.fit x (List.mem_of_getElem? hx)
 have hbx:x.testBit j = false:=by unfold bitW at hb;rw [hx] at hb;exact hb
 have hp:=pcN_pos 64 (lessN (2 ^ j) x) j hj (by
  unfold lessN
  have h:=Nat.testBit_two_pow_sub_succ (x:=x) (n:=64) hxf j
  have e:2 ^ 64 - (x + 1) = 18446744073709551615 - x:=by omega
  rw [e] at h
  rw [Nat.testBit_and,h,hbx,Nat.testBit_two_pow_self]
  simp [hj])
 exact Nat.lt_of_lt_of_le hp (lenB_mem (List.mem_of_getElem? hz))
def setO (b:Option (List Nat)) (i j:Nat):Option (List Nat):=if bitO b i j = true then b else some (List.zipWith orN (oldW b) (oneB i j))
theorem bit_old {b:Option (List Nat)} {i j:Nat} (hi:i < 64) (h:bitO b i j = false):bitW (oldW b) i j = false:=by
 cases b with
 | none =>
  unfold bitW oldW
  rw [Option.getD_none,zero64_at hi]
  simp
 | some r => exact h
theorem QTo.after {w w1 w':World} {F:Nat→Prop} {p side:Nat} {b:Option (List Nat)} (hb:Below w.heap.size w w1) (h:QTo w1 F p side b w'):QTo w F p side b w':=by
 obtain ⟨F',g,u,n⟩:=h
 exact ⟨F',g,(Upd.of_below hb F).trans u (fun _ h => .inl h),fun k hk => (n k hk).imp id fun h => Nat.le_trans hb.size h⟩
theorem qset_any (w:World) (F:Nat→Prop) (p side:Nat) (b:Option (List Nat)) (h:QuS w F p side b) (i j:Nat) (hi:i < side) (hj:j < side) (hi6:i < 64) (hj6:j < 64) :
  Calls Tryz.prog 62 #[.pointer (some ⟨p,0,none⟩),.int .i64 (i:Int),.int .i64 (j:Int)] w (fun e w' => e = .returned (.tuple #[.bool (!bitO b i j),.int .i64 0])∧QTo w F p side (setO b i j) w'):=by
 have hget:=qget_any w F p side b h i j hi hj hi6 hj6
 have ri:(i:Int).tmod 64 = i:=by rw [Int.tmod_eq_emod_of_nonneg (by omega)];omega
 have rj:(j:Int).tmod 64 = j:=by rw [Int.tmod_eq_emod_of_nonneg (by omega)];omega
 have qi:(i:Int).tdiv 64 = 0:=by rw [Int.tdiv_eq_ediv_of_nonneg (by omega)];omega
 have qj:(j:Int).tdiv 64 = 0:=by rw [Int.tdiv_eq_ediv_of_nonneg (by omega)];omega
 have HH:=Lib.hid h
 have hold:∃ O dep cnt m last L pv lv,QuI w O p side dep cnt m last L pv lv∧QuOk side dep cnt m last L b:=by
  obtain ⟨O,dep,cnt,m,last,L,pv,lv,hq,ok,-⟩:=h
  exact ⟨O,dep,cnt,m,last,L,pv,lv,hq,ok⟩
 obtain ⟨_,_,_,_,_,_,_,_,-,ok⟩:=hold
 have hwo:=oldW_wd ok
 clear h ok
 cases hb:bitO b i j with
 | true =>
  rw [hb] at hget
  have e1:setO b i j = b:=by unfold setO;rw [if_pos hb]
  rw [e1]
  clear e1 hb hwo ri rj qi qj
  go_enter Tryz.func62,Tryz.ntmps62
  go_wp2_with fail
  refine hget.mono ?_
  clear hget
  rintro e W1 ⟨rfl,b1⟩
  have FIN:=Lib.hid (show QTo w F p side b W1 from ⟨F,HH.out.below b1,Upd.of_below b1 F,fun _ h => .inl h⟩)
  clear b1
  go_wp2
  refine bodyPost_ret (v:=.tuple #[.bool false,.int .i64 0]) (by simp [results,Tryz.f62,go_sem]) rfl ⟨rfl,FIN.out⟩
 | false =>
  rw [hb] at hget
  have e1:setO b i j = some (List.zipWith orN (oldW b) (oneB i j)):=by unfold setO;rw [hb];rfl
  rw [e1]
  have hpos:=less_one hwo hi6 hj6 (bit_old hi6 hb)
  have HP:=Lib.hid (decide_eq_true hpos)
  clear e1 hb hwo hpos
  go_enter Tryz.func62,Tryz.ntmps62
  go_wp2_with fail
  refine hget.mono ?_
  clear hget
  rintro e W1 ⟨rfl,b1⟩
  have k2:=Blk.new W1 83 #[.int .i64 (i:Int),.int .i64 (j:Int)]
  have u2:Below W1.heap.size W1 (W1.alloc (.cells #[.int .i64 (i:Int),.int .i64 (j:Int)] 83)):=(Below.refl _ _).alloc (Nat.le_refl _) _
  have hof:=bof_any _ W1.heap.size i j hi6 hj6 k2
  have HB2:=Lib.hid (b1.trans (u2.mono b1.size))
  unfold wdV at hof
  clear k2 u2 b1
  go_wp2_with fail
  refine hof.mono ?_
  clear hof
  rintro e V2 ⟨rfl,b2⟩
  have HB3:=Lib.hid (HB2.out.trans (b2.mono HB2.out.size))
  clear b2
  have hone:=oneB_wd (i:=i) hj6
  have k4:=Blk.new V2 168 #[Value.int .u64 0,.int .u64 0,.int .u64 0,.int .u64 0,.int .u64 0,.int .u64 0,.int .u64 0,.int .u64 0,.int .u64 0,.int .u64 0,.int .u64 0,.int .u64 0,.int .u64 0,.int .u64 0,.int .u64 0,.int .u64 0,.int .u64 0,.int .u64 0,.int .u64 0,.int .u64 0,.int .u64 0,.int .u64 0,.int .u64 0,.int .u64 0,.int .u64 0,.int .u64 0,.int .u64 0,.int .u64 0,.int .u64 0,.int .u64 0,.int .u64 0,.int .u64 0,.int .u64 0,.int .u64 0,.int .u64 0,.int .u64 0,.int .u64 0,.int .u64 0,.int .u64 0,.int .u64 0,.int .u64 0,.int .u64 0,.int .u64 0,.int .u64 0,.int .u64 0,.int .u64 0,.int .u64 0,.int .u64 0,.int .u64 0,.int .u64 0,.int .u64 0,.int .u64 0,.int .u64 0,.int .u64 0,.int .u64 0,.int .u64 0,.int .u64 0,.int .u64 0,.int .u64 0,.int .u64 0,.int .u64 0,.int .u64 0,.int .u64 0,.int .u64 0]
  have hth:(V2.alloc (.cells #[Value.int .u64 0,.int .u64 0,.int .u64 0,.int .u64 0,.int .u64 0,.int .u64 0,.int .u64 0,.int .u64 0,.int .u64 0,.int .u64 0,.int .u64 0,.int .u64 0,.int .u64 0,.int .u64 0,.int .u64 0,.int .u64 0,.int .u64 0,.int .u64 0,.int .u64 0,.int .u64 0,.int .u64 0,.int .u64 0,.int .u64 0,.int .u64 0,.int .u64 0,.int .u64 0,.int .u64 0,.int .u64 0,.int .u64 0,.int .u64 0,.int .u64 0,.int .u64 0,.int .u64 0,.int .u64 0,.int .u64 0,.int .u64 0,.int .u64 0,.int .u64 0,.int .u64 0,.int .u64 0,.int .u64 0,.int .u64 0,.int .u64 0,.int .u64 0,.int .u64 0,.int .u64 0,.int .u64 0,.int .u64 0,.int .u64 0,.int .u64 0,.int .u64 0,.int .u64 0,.int .u64 0,.int .u64 0,.int .u64 0,.int .u64 0,.int .u64 0,.int .u64 0,.int .u64 0,.int .u64 0,.int .u64 0,.int .u64 0,.int .u64 0,.int .u64 0] 168)).there V2.heap.size 0 (wdC (oneB i j)).toArray.size:=there_blk (zero64_blk.mp k4) (by simp [wdC_len,hone.len,zero64_len])
  have hsz:=info_wd hone
  have hsz2:(Tryz.prog.info? 168).map (·.size) = some (wdC (oneB i j)).toArray.size:=by simpa using hsz
  have h1c:(wdC (oneB i j)).toArray.all (·.oneCell') = true:=all_oneCell_toArray (one_wd _)
  have hrg:=World.rangeAt_setCells_same (V2.alloc (.cells #[Value.int .u64 0,.int .u64 0,.int .u64 0,.int .u64 0,.int .u64 0,.int .u64 0,.int .u64 0,.int .u64 0,.int .u64 0,.int .u64 0,.int .u64 0,.int .u64 0,.int .u64 0,.int .u64 0,.int .u64 0,.int .u64 0,.int .u64 0,.int .u64 0,.int .u64 0,.int .u64 0,.int .u64 0,.int .u64 0,.int .u64 0,.int .u64 0,.int .u64 0,.int .u64 0,.int .u64 0,.int .u64 0,.int .u64 0,.int .u64 0,.int .u64 0,.int .u64 0,.int .u64 0,.int .u64 0,.int .u64 0,.int .u64 0,.int .u64 0,.int .u64 0,.int .u64 0,.int .u64 0,.int .u64 0,.int .u64 0,.int .u64 0,.int .u64 0,.int .u64 0,.int .u64 0,.int .u64 0,.int .u64 0,.int .u64 0,.int .u64 0,.int .u64 0,.int .u64 0,.int .u64 0,.int .u64 0,.int .u64 0,.int .u64 0,.int .u64 0,.int .u64 0,.int .u64 0,.int .u64 0,.int .u64 0,.int .u64 0,.int .u64 0,.int .u64 0] 168)) V2.heap.size 0 (wdC (oneB i j)) (by simpa using hth)
  have u4:Below V2.heap.size V2 ((V2.alloc (.cells #[Value.int .u64 0,.int .u64 0,.int .u64 0,.int .u64 0,.int .u64 0,.int .u64 0,.int .u64 0,.int .u64 0,.int .u64 0,.int .u64 0,.int .u64 0,.int .u64 0,.int .u64 0,.int .u64 0,.int .u64 0,.int .u64 0,.int .u64 0,.int .u64 0,.int .u64 0,.int .u64 0,.int .u64 0,.int .u64 0,.int .u64 0,.int .u64 0,.int .u64 0,.int .u64 0,.int .u64 0,.int .u64 0,.int .u64 0,.int .u64 0,.int .u64 0,.int .u64 0,.int .u64 0,.int .u64 0,.int .u64 0,.int .u64 0,.int .u64 0,.int .u64 0,.int .u64 0,.int .u64 0,.int .u64 0,.int .u64 0,.int .u64 0,.int .u64 0,.int .u64 0,.int .u64 0,.int .u64 0,.int .u64 0,.int .u64 0,.int .u64 0,.int .u64 0,.int .u64 0,.int .u64 0,.int .u64 0,.int .u64 0,.int .u64 0,.int .u64 0,.int .u64 0,.int .u64 0,.int .u64 0,.int .u64 0,.int .u64 0,.int .u64 0,.int .u64 0] 168)).setCells V2.heap.size 0 (wdC (oneB i j))):=by
   have ua:Below V2.heap.size V2 (V2.alloc (.cells #[Value.int .u64 0,.int .u64 0,.int .u64 0,.int .u64 0,.int .u64 0,.int .u64 0,.int .u64 0,.int .u64 0,.int .u64 0,.int .u64 0,.int .u64 0,.int .u64 0,.int .u64 0,.int .u64 0,.int .u64 0,.int .u64 0,.int .u64 0,.int .u64 0,.int .u64 0,.int .u64 0,.int .u64 0,.int .u64 0,.int .u64 0,.int .u64 0,.int .u64 0,.int .u64 0,.int .u64 0,.int .u64 0,.int .u64 0,.int .u64 0,.int .u64 0,.int .u64 0,.int .u64 0,.int .u64 0,.int .u64 0,.int .u64 0,.int .u64 0,.int .u64 0,.int .u64 0,.int .u64 0,.int .u64 0,.int .u64 0,.int .u64 0,.int .u64 0,.int .u64 0,.int .u64 0,.int .u64 0,.int .u64 0,.int .u64 0,.int .u64 0,.int .u64 0,.int .u64 0,.int .u64 0,.int .u64 0,.int .u64 0,.int .u64 0,.int .u64 0,.int .u64 0,.int .u64 0,.int .u64 0,.int .u64 0,.int .u64 0,.int .u64 0,.int .u64 0] 168)):=(Below.refl _ _).alloc (Nat.le_refl _) _
   exact ua.trans ((Upd.setCells (F:=fun k => k = V2.heap.size) (a:=V2.alloc (.cells #[Value.int .u64 0,.int .u64 0,.int .u64 0,.int .u64 0,.int .u64 0,.int .u64 0,.int .u64 0,.int .u64 0,.int .u64 0,.int .u64 0,.int .u64 0,.int .u64 0,.int .u64 0,.int .u64 0,.int .u64 0,.int .u64 0,.int .u64 0,.int .u64 0,.int .u64 0,.int .u64 0,.int .u64 0,.int .u64 0,.int .u64 0,.int .u64 0,.int .u64 0,.int .u64 0,.int .u64 0,.int .u64 0,.int .u64 0,.int .u64 0,.int .u64 0,.int .u64 0,.int .u64 0,.int .u64 0,.int .u64 0,.int .u64 0,.int .u64 0,.int .u64 0,.int .u64 0,.int .u64 0,.int .u64 0,.int .u64 0,.int .u64 0,.int .u64 0,.int .u64 0,.int .u64 0,.int .u64 0,.int .u64 0,.int .u64 0,.int .u64 0,.int .u64 0,.int .u64 0,.int .u64 0,.int .u64 0,.int .u64 0,.int .u64 0,.int .u64 0,.int .u64 0,.int .u64 0,.int .u64 0,.int .u64 0,.int .u64 0,.int .u64 0,.int .u64 0] 168)) (.inl rfl) _ _ (Upd.refl _ _)).below (fun k _ e => Nat.le_of_eq e.symm) ua.size)
  have HB4:=Lib.hid (HB3.out.trans (u4.mono HB3.out.size))
  have hone2:=Lib.hid hone
  clear k4 u4 hone
  go_upto_region 5 with (first | (refine wpList_store_mid rfl 168 _ _ rfl V2.heap.size 0 (wdC (oneB i j)).toArray rfl rfl hth hsz2 h1c ?_) | fail)
  generalize (V2.alloc (.cells #[Value.int .u64 0,.int .u64 0,.int .u64 0,.int .u64 0,.int .u64 0,.int .u64 0,.int .u64 0,.int .u64 0,.int .u64 0,.int .u64 0,.int .u64 0,.int .u64 0,.int .u64 0,.int .u64 0,.int .u64 0,.int .u64 0,.int .u64 0,.int .u64 0,.int .u64 0,.int .u64 0,.int .u64 0,.int .u64 0,.int .u64 0,.int .u64 0,.int .u64 0,.int .u64 0,.int .u64 0,.int .u64 0,.int .u64 0,.int .u64 0,.int .u64 0,.int .u64 0,.int .u64 0,.int .u64 0,.int .u64 0,.int .u64 0,.int .u64 0,.int .u64 0,.int .u64 0,.int .u64 0,.int .u64 0,.int .u64 0,.int .u64 0,.int .u64 0,.int .u64 0,.int .u64 0,.int .u64 0,.int .u64 0,.int .u64 0,.int .u64 0,.int .u64 0,.int .u64 0,.int .u64 0,.int .u64 0,.int .u64 0,.int .u64 0,.int .u64 0,.int .u64 0,.int .u64 0,.int .u64 0,.int .u64 0,.int .u64 0,.int .u64 0,.int .u64 0] 168)).setCells V2.heap.size 0 (wdC (oneB i j)) = W5 at hrg HB4 ⊢
  clear hth hsz2 h1c
  have hor:=qor_any W5 F p side b (HH.out.below HB4.out) (oneB i j) hone2.out (oneB_ne hi6)
  rw [HP.out] at hor
  unfold wdV at hor
  go_wp2_with (first | (refine wpList_load_mid rfl 168 _ rfl V2.heap.size 0 rfl (wdC (oneB i j)) (.array 64 166) hrg Tryz.underlying168 rfl hsz ?_) | fail)
  refine hor.mono ?_
  clear hor hrg hsz
  rintro e W6 ⟨rfl,hto⟩
  have FIN:=Lib.hid (QTo.after HB4.out hto)
  clear hto
  go_wp2
  refine bodyPost_ret (v:=.tuple #[.bool true,.int .i64 0]) (by simp [results,Tryz.f62,go_sem]) rfl ⟨rfl,FIN.out⟩
end Go.Proofs.YtddffnonlmfhdaaGreatDoor
namespace Go.Proofs.YtddffnonlmfhdaaGreatDoor
open Go.RowKit
theorem len64_01 (n:Nat) (hn:n = 0 ∨ n = 1) (w:World):Calls Tryz.prog 210 #[.int .u64 (n:Int)] w (fun e w' => (∃ v:Int,e = .returned (.int .i64 v))∧w' = w):=by
 rcases hn with rfl | rfl
 ·go_enter Tryz.func210,Tryz.ntmps210
  go_wp2
  go_ret
  exact ⟨⟨_,rfl⟩,rfl⟩
 ·go_enter Tryz.func210,Tryz.ntmps210
  go_wp2
  go_ret
  exact ⟨⟨_,rfl⟩,rfl⟩
theorem len_01 (n:Nat) (hn:n = 0 ∨ n = 1) (w:World):Calls Tryz.prog 185 #[.int .u64 (n:Int)] w (fun e w' => (∃ v:Int,e = .returned (.int .i64 v))∧w' = w):=by
 have hcon:=len64_01 n hn w
 go_enter Tryz.func185,Tryz.ntmps185
 go_wp2_with fail
 refine hcon.mono ?_
 rintro e w' ⟨⟨v,rfl⟩,hw⟩
 subst w'
 go_wp2
 go_ret
 exact ⟨⟨v,rfl⟩,rfl⟩
theorem ins_01 (n:Nat) (hn:n ≤ 1) (A:Option Addr) (l c:Nat) (f:Value) (w:World):Calls Tryz.prog 201 #[.slice A l c,.int .i64 0,.int .i64 (n:Int),f] w (fun e w' => (∃ v,e = .returned v)∧w' = w):=by
 have h1:¬ ((1:Int) < (n:Int)):=by omega
 have h2:¬ (1 < n):=by omega
 go_enter Tryz.func201,Tryz.ntmps201
 go_wp2_with fail
 go_loopw [8] (fun i wr => i = .int .i64 1∧wr = w) (fun _ _ => 0)
 case atStart => exact ⟨rfl,rfl⟩
 case round =>
  obtain ⟨rfl,hw⟩:=hrel
  subst hw
  go_wp2
  (try simp only [Exit.inBlock,Exit.then]);first | exact bodyPost_ret (results_none rfl _ _ _) rfl ⟨⟨_,rfl⟩,rfl⟩ | exact bodyPost_end (results_none rfl _ _ _) rfl ⟨⟨_,rfl⟩,rfl⟩
theorem pdq_01 (n:Nat) (hn:n ≤ 1) (A:Option Addr) (l c:Nat) (f:Value) (lim:Int) (w:World):Calls Tryz.prog 184 #[.slice A l c,.int .i64 0,.int .i64 (n:Int),.int .i64 lim,f] w (fun e w' => (∃ v,e = .returned v)∧w' = w):=by
 have hw0:IntKind.i64.wrap (n:Int) = (n:Int):=IntWalk.i64_in _ (by omega)
 have h1:(n:Int) ≤ 12:=by omega
 have h2:n ≤ 12:=by omega
 have hcon:=ins_01 n hn A l c f
 go_enter Tryz.func184,Tryz.ntmps184
 go_wp2_with fail
 go_loopw [1,2] (fun a b wr => a = .int .i64 0∧b = .int .i64 (n:Int)∧wr = w) (fun _ _ _ => 0)
 case atStart => exact ⟨rfl,rfl,rfl⟩
 case round =>
  obtain ⟨rfl,rfl,hw⟩:=hrel
  subst hw
  go_wp2_with fail
  refine (hcon _).mono ?_
  rintro e w' ⟨⟨v,rfl⟩,hw⟩
  subst w'
  go_wp2
  (try simp only [Exit.inBlock,Exit.then]);first | exact bodyPost_ret (results_none rfl _ _ _) rfl ⟨⟨_,rfl⟩,rfl⟩ | exact bodyPost_end (results_none rfl _ _ _) rfl ⟨⟨_,rfl⟩,rfl⟩
theorem sort_01 (n:Nat) (hn:n ≤ 1) (A:Option Addr) (c:Nat) (f:Value) (w:World):Calls Tryz.prog 157 #[.slice A n c,f] w (fun e w' => (∃ v,e = .returned v)∧w' = w):=by
 have hl:=len_01 n (by omega) w
 have hw0:IntKind.u64.wrap (n:Int) = (n:Int):=by rw [IntKind.wrap_u64];omega
 have hcon:=fun lim => pdq_01 n hn A n c f lim w
 go_enter Tryz.func157,Tryz.ntmps157
 go_wp2_with fail
 refine hl.mono ?_
 rintro e w' ⟨⟨v,rfl⟩,hw⟩
 subst w'
 go_wp2_with fail
 refine (hcon v).mono ?_
 rintro e w' ⟨⟨v,rfl⟩,hw⟩
 subst w'
 go_wp2
 (try simp only [Exit.inBlock,Exit.then]);first | exact bodyPost_ret (results_none rfl _ _ _) rfl ⟨⟨_,rfl⟩,rfl⟩ | exact bodyPost_end (results_none rfl _ _ _) rfl ⟨⟨_,rfl⟩,rfl⟩
end Go.Proofs.YtddffnonlmfhdaaGreatDoor
namespace Go.Proofs.YtddffnonlmfhdaaGreatDoor
open Go.RowKit
theorem tz_core (x k idx:Nat) (w:World) (hx0:((x:Int) == 0) = false)
  (key:IntKind.u64.wrap (bits BinOp.and IntKind.u64 (x:Int) (IntKind.u64.wrap (-(x:Int))) * 285870213051353865) / 288230376151711744 = (idx:Int))
  (hi:idx < 64) (hk:k < 64) (hcell:w.cell? ⟨1,idx,none⟩ = some (.int .u8 k)) :
  Calls Tryz.prog 187 #[.int .u64 (x:Int)] w (fun e w' => e = .returned (.int .i64 k)∧w' = w):=by
 go_enter Tryz.func187,Tryz.ntmps187
 go_wp2_with (simp only [key])
 go_ret
 exact ⟨rfl,rfl⟩
def TabW (w:World):Prop:=TabAt 1 Lib.deBruijn64tab w
theorem TabW.upd {w w':World} {G:Nat→Prop} (h:TabW w) (hu:Upd G w w') (hl:1 < w.heap.size) (hg:¬ G 1):TabW w':=fun j hj => by
 rw [hu.cell hl hg]
 exact h j hj
theorem tz_any (x:Nat) (hx:x < 18446744073709551616) (hx0:x ≠ 0) (w:World) (hT:TabW w) :
  Calls Tryz.prog 187 #[.int .u64 (x:Int)] w (fun e w' => e = .returned (.int .i64 (Lib.ctz 64 x:Nat))∧w' = w):=by
 obtain ⟨hlow,hk⟩:=Lib.lowest_bit 64 x hx0 hx
 obtain ⟨hi,htab⟩:=Lib.deBruijn64_at _ hk
 have hcell:=hT _ hi
 rw [htab] at hcell
 exact tz_core x _ _ w (by simp;omega) (tz64_key x _ hx hx0 hlow) hi hk hcell
end Go.Proofs.YtddffnonlmfhdaaGreatDoor
namespace Go.Proofs.YtddffnonlmfhdaaGreatDoor
open Go.RowKit
theorem range_four {w:World} {O:Nat→Option QRo} {p side dep cnt m:Nat} {last:Int} {L:List (List Nat)} {lv:Value} {pg pc:Nat} (h:QuI w O p side dep cnt m last L (.slice (some ⟨pg,0,none⟩) (m + 1) pc) lv) {k:Nat} {x:Int} (hx:∀ j u,(four x)[j]? = some u→(qsC m last)[k * 4 + j]? = some u):w.rangeAt pg (k * 4) (four x):=fun j u hu => by
 obtain ⟨g',c',e',-,-,-,-,hc'⟩:=own_cells h.rp (by omega)
 injection e' with e'
 injection e' with e'
 injection e' with e'
 subst e'
 exact (hc' _ _ (hx j u hu)).1
theorem idx_four (x:Int) (W:World) (j:Nat) (hj:j < 4):(Instr.index 225 (.agg (four x).toArray) (.int .i64 (j:Int))).run Tryz.prog W = .ok (.int .i64 (if j = 0 then x else 0)) W:=by
 obtain rfl | rfl | rfl | rfl:j = 0 ∨ j = 1 ∨ j = 2 ∨ j = 3:=by omega
 ·kernel_rfl
 ·kernel_rfl
 ·kernel_rfl
 ·kernel_rfl
theorem idx_four0 (W:World) (j:Nat) (hj:j < 4):(Instr.index 225 (.agg (four 0).toArray) (.int .i64 (j:Int))).run Tryz.prog W = .ok (.int .i64 0) W:=by
 rw [idx_four 0 W j hj,ite_self]
theorem down_none (w:World) (O:Nat→Option QRo) (p side dep cnt:Nat) (pv lv:Value) (h:QuI w O p side dep cnt 0 0 [] pv lv) (l:Int) (g1 g3 g4:Nat) (c1:w.cell? ⟨g1,0,none⟩ = some (.pointer (some ⟨p,0,none⟩))) :
  Calls Tryz.prog 156 #[.int .i64 0,.int .i64 l,.int .i64 0,.int .i64 0,.pointer (some ⟨g1,0,none⟩),.pointer (some ⟨g3,0,none⟩),.pointer (some ⟨g4,0,none⟩)] w (fun e w' => e = .returned (.tuple #[])∧w' = w):=by
 obtain ⟨pg,pc,e,-,-,-,-,-⟩:=own_cells h.rp (by omega)
 subst e
 have q3:w.cell? ⟨p,3,none⟩ = some (.slice (some ⟨pg,0,none⟩) 1 pc):=h.blk.cell 3
 have hrg:w.rangeAt pg 0 (four 0):=range_four (k:=0) h (fun j u hu => by rw [Nat.zero_mul,Nat.zero_add];exact hu)
 have hsz:(Tryz.prog.info? 225).map (·.size) = some (four 0).length:=by kernel_rfl
 clear h
 go_enter Tryz.func156,Tryz.ntmps156
 go_wp2_with (first | (refine wpList_load_mid rfl 225 _ rfl pg 0 rfl (four 0) (.array 4 3) hrg Tryz.underlying225 rfl hsz ?_) | fail)
 clear c1 q3 hrg hsz
 have HX:=Lib.hid (idx_four0)
 generalize (four 0).toArray = arr at HX ⊢
 go_loopw [22] (fun a wr => ∃ j:Nat,j ≤ 4∧a = .int .i64 (j:Int)∧wr = w) (fun a _ => (4 - intOf a).toNat)
 case atStart => exact ⟨0,by omega,rfl,rfl⟩
 case round =>
  obtain ⟨j,hj,rfl,hw⟩:=hrel
  subst hw
  by_cases hlt:j < 4
  ·have hltI:(j:Int) < (4:Int):=by omega
   have hkw:IntKind.i64.wrap ((j:Int) + 1) = (j:Int) + 1:=IntWalk.i64_in _ (by omega)
   have hge:(0:Int) ≤ (j:Int):=by omega
   have hix:=HX.out wr j hlt
   go_wp2
   go_roundw
   case rel => exact ⟨j + 1,by omega,by go_num,by first | rfl | trivial⟩
   case measure => simp [intOf] <;> omega
  ·obtain rfl:j = 4:=by omega
   go_wp2
   (try simp only [Exit.inBlock,Exit.then])
   exact bodyPost_end (results_none rfl _ _ _) rfl (by first | exact ⟨rfl,rfl⟩ | exact ⟨rfl,trivial⟩)
end Go.Proofs.YtddffnonlmfhdaaGreatDoor
namespace Go.Proofs.YtddffnonlmfhdaaGreatDoor
open Go.RowKit
def plC (r:List Nat):List Value:=.int .i64 0 :: .int .i64 0 :: wdC r
theorem plC_len {r:List Nat} (hr:Wd r):(plC r).length = 66:=by simp [plC,wdC_len,hr.len]
theorem plC_one (r:List Nat):∀ u ∈ plC r,u.oneCell' = true:=fun u hu => by
 simp only [plC,wdC,List.mem_cons,List.mem_map] at hu
 rcases hu with rfl | rfl | ⟨x,-,rfl⟩ <;> rfl
theorem fill_placed {r:List Nat} (hr:Wd r) (cells:Array Value) (hc:cells.size = 66) :
  Instr.fill (fun i => #[(0,2),(2,64)][i]?) cells [(0,.agg #[.int .i64 0,.int .i64 0]),(1,wdV r)] = some (plC r).toArray:=by
 have hl:(wdC r).length = 64:=by rw [wdC_len,hr.len]
 obtain ⟨s1,k1⟩:=Go.Great.foldl_set 0 [.int .i64 0,.int .i64 0] 0 cells
 obtain ⟨s2,k2⟩:=Go.Great.foldl_set 2 (wdC r) 0 (([Value.int .i64 0,.int .i64 0].zipIdx 0).foldl (fun cs (x:Value × Nat) => cs.setIfInBounds (0 + x.2) x.1) cells)
 have e:Instr.fill (fun i => #[(0,2),(2,64)][i]?) cells [(0,.agg #[.int .i64 0,.int .i64 0]),(1,wdV r)] = some (((wdC r).zipIdx 0).foldl (fun cs (x:Value × Nat) => cs.setIfInBounds (2 + x.2) x.1) (([Value.int .i64 0,.int .i64 0].zipIdx 0).foldl (fun cs (x:Value × Nat) => cs.setIfInBounds (0 + x.2) x.1) cells)):=by
  simp [Instr.fill,wdV,Value.cells,hl,hc]
 rw [e]
 congr 1
 apply Array.ext_getElem?
 intro k
 rw [k2 k,s1,hc,hl]
 by_cases h2:2 + 0 ≤ k∧k < 2 + 0 + 64∧k < 66
 ·rw [if_pos h2]
  obtain ⟨j,rfl⟩:∃ j,k = j + 2:=⟨k - 2,by omega⟩
  simp [plC]
 ·rw [if_neg h2,k1 k]
  by_cases h0:k < 2
  ·rw [if_pos (by simp;omega)]
   obtain rfl | rfl:k = 0 ∨ k = 1:=by omega
   ·simp [plC]
   ·simp [plC]
  ·rw [if_neg (by simp;omega)]
   have:(plC r).length ≤ k:=by rw [plC_len hr];omega
   simp [hc,this]
   omega
theorem build_placed {r:List Nat} (hr:Wd r) (w:World):(Instr.build 196 #[(0,.agg #[.int .i64 0,.int .i64 0]),(1,wdV r)]).run Tryz.prog w = .ok (.agg (plC r).toArray) w:=by
 refine run_build w _ _ _ ?_
 obtain ⟨cells,hc,hb⟩:∃ cells:Array Value,cells.size = 66∧∀ ps,Tryz.prog.built 196 ps = Instr.fill (fun i => #[(0,2),(2,64)][i]?) cells ps:=⟨(List.replicate 2 (Value.int .i64 0) ++ List.replicate 64 (Value.int .u64 0)).toArray,by decide,fun ps => by kernel_rfl⟩
 rw [hb]
 exact fill_placed hr cells hc
theorem info_placed:(Tryz.prog.info? 196).map (fun i => (i.zero.isSome,i.size,i.bytes)) = some (true,66,528):=by kernel_rfl
theorem slice_placed {r:List Nat} (hr:Wd r) (w:World):(Instr.buildSlice 192 1 #[(0,.agg (plC r).toArray)]).run Tryz.prog w = .ok (.slice (some ⟨w.heap.size,0,none⟩) 1 1) (w.alloc (.cells (plC r).toArray 196)):=by
 obtain ⟨ie,z,hie,hz,hs⟩:∃ ie z,Tryz.prog.info? 196 = some ie∧ie.zero = some z∧ie.size = 66:=by
  have h:=info_placed
  cases hi:Tryz.prog.info? 196 with
  | none => rw [hi] at h;cases h
  | some ie =>
   rw [hi] at h
   simp only [Option.map_some,Option.some.injEq,Prod.mk.injEq] at h
   obtain ⟨h1,h2,h3⟩:=h
   obtain ⟨z,hz⟩:=Option.isSome_iff_exists.1 h1
   exact ⟨ie,z,rfl,hz,h2⟩
 refine run_buildSlice w _ 196 1 _ _ ie z Tryz.underlying192 hie hz (by rw [hs];decide) (by rw [hs];decide) ?_
 rw [hs]
 have hl:(Value.agg (plC r).toArray).cells.size = 66:=by simp [Value.cells,plC_len hr]
 have:=Go.Great.fill_whole (s:=66) (by decide) [Value.agg (plC r).toArray] ((Array.range (1 * 66)).map (z.cells[· % z.cells.size]!)) (fun v hv => by rw [List.mem_singleton.1 hv];exact hl) (by simp)
 simpa [Value.cells] using this
end Go.Proofs.YtddffnonlmfhdaaGreatDoor
namespace Go.Proofs.YtddffnonlmfhdaaGreatDoor
open Go.RowKit
def DownQ (w:World) (g3:Nat) (r:List Nat) (w':World):Prop:=
 ∃ A c,w'.cell? ⟨g3,0,none⟩ = some (.slice A 1 c)∧w'.ownsRow 0 196 66 (.slice A 1 c) 1 (plC r)∧Upd (fun k => k = g3) w w'∧∀ k,(Value.slice A 1 c).ownBlock = some k→w.heap.size ≤ k
theorem info_placed2:∃ z,z.cells.size = 66∧(Tryz.prog.info? 196).map (fun i => (i.zero,i.size,i.bytes)) = some (some z,66,528):=⟨.agg (List.replicate 2 (Value.int .i64 0) ++ List.replicate 64 (Value.int .u64 0)).toArray,by decide,by kernel_rfl⟩
theorem down_push {w:World} {r:List Nat} (hr:Wd r) (g3:Nat) (hg:g3 < w.heap.size) (hfz:w.frozen? ⟨g3,0,none⟩ = false) (hl:∃ ty,Blk w g3 ty #[.slice none 0 0]):∃ A c W2,(Builtin.append_ #[192,192] 192 #[.slice none 0 0,.slice (some ⟨w.heap.size,0,none⟩) 1 1]).run Tryz.prog (w.alloc (.cells (plC r).toArray 196)) = .ok (.slice A 1 c) W2∧Upd (fun _ => False) w W2∧W2.frozen? ⟨g3,0,none⟩ = false∧DownQ w g3 r (W2.setCell ⟨g3,0,none⟩ (.slice A 1 c)):=by
 obtain ⟨z,hz,hi⟩:=info_placed2
 obtain ⟨v2,W2,happ,own2,u2,p2⟩:=push_own w 0 192 196 66 528 z Tryz.underlying192 hi hz (by decide) (.slice none 0 0) 0 [] (World.ownsRow_nil _ _ _ _) (plC r) 1 (by rw [plC_len hr]) (plC_one r) (by omega) (by unfold maxLen;omega) (Nat.zero_le _)
 obtain ⟨A,c,rfl,-,-⟩:=own_form own2
 obtain ⟨ty,kb⟩:=hl
 have u3:Upd (fun _ => False) w W2:=u2.mono (fun k _ hk => by simp [Value.ownBlock] at hk)
 have kb2:=kb.upd u3 (fun h => h)
 have us:=(Upd.refl (fun k => k = g3) W2).setCell (p:=⟨g3,0,none⟩) (.inl rfl) (.slice A 1 c)
 have pl:∀ k,(Value.slice A 1 c).ownBlock = some k→w.heap.size ≤ k:=fun k hk => by
  rcases p2 k hk with h1 | h1
  ·simp [Value.ownBlock] at h1
  ·exact h1
 exact ⟨A,c,W2,happ,u3,kb2.frozen 0,A,c,(kb2.set 0 (.slice A 1 c)).cell 0,ownsRow_upd own2 us (fun k hk e => by have:=pl k hk;omega),(u3.mono (fun _ _ h => h.elim)).trans us (fun k hk => .inl hk),pl⟩
end Go.Proofs.YtddffnonlmfhdaaGreatDoor
namespace Go.Proofs.YtddffnonlmfhdaaGreatDoor
open Go.RowKit
section
variable {P:Program} {ops:Array Oper} {Q:Exit→Act→World→Prop} {S:World→Prop} {n:Nat}
theorem ord_build {i:Nat} {r:List (Nat × Bool)} {a:Act} {w:World} {oi:Oper} {v:Value} (hi:ops[i]? = some oi) (hw:Region.wanted oi (yielded ops a.tmps) = true) (ty:TypeId) (parts:Array (Nat × Operand)) (ho:oi.op = .build ty parts)
  (vals:Array (Nat × Value)) (hv:parts.map (fun (i,x) => (i,a.eval x)) = vals) (hb:∀ w,(Instr.build ty vals).run P w = .ok v w) (h:wpOrd P ops Q S n r (a.put oi.dst v) w):wpOrd P ops Q S n ((i,true) :: r) a w:=
 ord_take hi hw (fun w _ => by unfold execOp;simp only [ho,hv,Sem.run_bind,hb,Result.andThen_ok];rfl) h
theorem do_buildSlice {o:Oper} {a:Act} {w w':World} {K:Act→World→Prop} {v:Value} (ty:TypeId) (len:Nat) (parts:Array (Nat × Operand)) (ho:o.op = .buildSlice ty len parts)
  (vals:Array (Nat × Value)) (hv:parts.map (fun (i,x) => (i,a.eval x)) = vals) (hb:(Instr.buildSlice ty len vals).run P w = .ok v w') (h:K (a.put o.dst v) w'):o.wp P a w K Q:=by
 unfold Oper.wp execOp
 simp only [ho,hv,Sem.run_bind,hb,Result.andThen_ok]
 exact h
theorem do_append {o:Oper} {a:Act} {w w':World} {K:Act→World→Prop} {v v2 v':Value} (s x:Operand) (t:TypeId)
  (ho:o.op = .call { callee:=.builtin .append,args:=#[s,x],argTypes:=#[t,t] }) (hs:a.eval s = v) (hx:a.eval x = v2)
  (hrun:(Builtin.append_ #[t,t] o.type #[v,v2]).run P w = .ok v' w') (h:K (a.put o.dst v') w'):o.wp P a w K Q:=by
 unfold Oper.wp execOp
 simp only [ho,resolve,invoke,builtin,Sem.run_bind,Sem.run_pure,Result.andThen_ok,List.map_toArray,List.map_cons,List.map_nil,hs,hx,hrun]
 exact h
end
theorem down_leaf (w:World) (O:Nat→Option QRo) (p side dep cnt m:Nat) (r:List Nat) (pv lv:Value) (h:QuI w O p side dep cnt m 1 [r] pv lv) (hr:Wd r) (hm:m ≤ 4) (g1 g3 g4:Nat) (k1:∃ ty,Blk w g1 ty #[.pointer (some ⟨p,0,none⟩)]) (k3:∃ ty,Blk w g3 ty #[.slice none 0 0]) :
  Calls Tryz.prog 156 #[.int .i64 (m:Int),.int .i64 0,.int .i64 0,.int .i64 0,.pointer (some ⟨g1,0,none⟩),.pointer (some ⟨g3,0,none⟩),.pointer (some ⟨g4,0,none⟩)] w (fun e w' => e = .returned (.tuple #[])∧DownQ w g3 r w'):=by
 obtain ⟨pg,pc,e,-,-,-,-,-⟩:=own_cells h.rp (by omega)
 subst e
 obtain ⟨lg,lc,e,-,-,-,-,-⟩:=own_cells h.rl (by simp)
 subst e
 have c1:w.cell? ⟨g1,0,none⟩ = some (.pointer (some ⟨p,0,none⟩)):=by obtain ⟨ty,k⟩:=k1;exact k.cell 0
 obtain ⟨n,hn⟩:∃ n,m + 1 = n:=⟨_,rfl⟩
 have q3:w.cell? ⟨p,3,none⟩ = some (.slice (some ⟨pg,0,none⟩) n pc):=by rw [← hn];exact h.blk.cell 3
 have hmn:(m:Int) < (n:Int):=by omega
 have hrg:w.rangeAt pg (m * 4) (four 1):=range_four (k:=m) h (fun j u hu => by
  have hq:qsC m 1 = ((List.range m).flatMap fun (i:Nat) => four ((i:Int) + 2)) ++ four 1:=rfl
  have hlen:((List.range m).flatMap fun (i:Nat) => four ((i:Int) + 2)).length = m * 4:=by
   have:=qsC_len m 1
   rw [hq,List.length_append] at this
   simp only [four,List.length_cons,List.length_nil] at this ⊢
   omega
  rw [hq,List.getElem?_append_right (by omega),hlen,Nat.add_sub_cancel_left]
  exact hu)
 have hsz:(Tryz.prog.info? 225).map (·.size) = some (four 1).length:=by kernel_rfl
 have hszr:(Tryz.prog.info? 168).map (·.size) = some (wdC r).length:=info_wd hr
 have SR:=Lib.hid (show ∀ W,Below w.heap.size w W→W.cell? ⟨g3,0,none⟩ = some (.slice none 0 0)∧W.cell? ⟨g1,0,none⟩ = some (.pointer (some ⟨p,0,none⟩))∧W.cell? ⟨p,4,none⟩ = some (.slice (some ⟨lg,0,none⟩) 1 lc)∧W.rangeAt lg 0 (wdC r) from fun W hb => by
  have hi:=h.upd (Upd.of_below hb (fun _ => False)) (fun _ _ => id)
  obtain ⟨t1,b1⟩:=k1
  obtain ⟨t3,b3⟩:=k3
  refine ⟨(b3.upd (Upd.of_below hb (fun _ => False)) (fun h => h)).cell 0,(b1.upd (Upd.of_below hb (fun _ => False)) (fun h => h)).cell 0,hi.blk.cell 4,fun j u hu => ?_⟩
  obtain ⟨g',c',e',-,-,-,-,hc'⟩:=own_cells hi.rl (by simp)
  injection e' with e'
  injection e' with e'
  injection e' with e'
  subst e'
  rw [Nat.zero_add]
  exact (hc' j u (by simpa [lfC] using hu)).1)
 have KD:=Lib.hid (And.intro hr k3)
 clear h k1 k3 hn
 go_enter Tryz.func156,Tryz.ntmps156
 go_wp2_with (first | (refine wpList_load_mid rfl 225 _ rfl pg (m * 4) rfl (four 1) (.array 4 3) hrg Tryz.underlying225 rfl hsz ?_) | fail)
 clear c1 q3 hrg hsz
 have HX:=Lib.hid (idx_four 1)
 generalize (four 1).toArray = arr at HX ⊢
 go_loopw [22] (fun a wr => ∃ j:Nat,j ≤ 4∧a = .int .i64 (j:Int)∧Hid (j = 0∧wr = w ∨ 0 < j∧DownQ w g3 r wr)) (fun a _ => (4 - intOf a).toNat)
 case atStart => exact ⟨0,by omega,rfl,Lib.hid (.inl ⟨rfl,rfl⟩)⟩
 case round =>
  obtain ⟨j,hj,rfl,hq⟩:=hrel
  by_cases hlt:j < 4
  ·by_cases h0:j = 0
   ·subst h0
    obtain rfl:wr = w:=by rcases hq.out with ⟨-,e⟩ | ⟨e,-⟩ <;> first | exact e | omega
    clear hq hlt
    have hix:(Instr.index 225 (.agg arr) (.int .i64 0)).run Tryz.prog wr = .ok (.int .i64 1) wr:=HX.out wr 0 (by decide)
    have b1:bits .or .i64 0 0 = 0:=by decide
    have b2:bits .and .i64 0 1 = 0:=by decide
    go_upto_region 7 with (fail)
    clear b1 b2
    have HB:=Lib.hid (show Below wr.heap.size wr wr.drew from (Below.refl _ _).drew)
    have hS:=SR.out wr.drew HB.out
    refine wp_region_ord (fun W => W.cell? ⟨g3,0,none⟩ = some (.slice none 0 0)∧W.cell? ⟨g1,0,none⟩ = some (.pointer (some ⟨p,0,none⟩))∧W.cell? ⟨p,4,none⟩ = some (.slice (some ⟨lg,0,none⟩) 1 lc)∧W.rangeAt lg 0 (wdC r)) 15 [(0,true),(1,true),(2,true),(3,true),(4,true),(5,true),(6,true),(7,true),(8,true),(9,true),(10,true),(11,true),(12,true),(13,false),(14,false),(15,false)] (by kernel_rfl) (by kernel_rfl) (fun _ _ d _ _ h => by cases d <;> exact h) hS ?_
    generalize wr.drew = V0 at HB hS ⊢
    have hw00:IntKind.i64.wrap 0 = 0:=by decide
    iterate 11 (refine ord_takeA rfl ?_;(try simp only [Act.put,gA,gS,gZ,sA,sZ,sS]))
    (refine ord_load rfl (by first | with_reducible rfl | kernel_rfl) 168 _ rfl lg 0 rfl (wdC r) (.array 64 166) (fun _ h => h.2.2.2) Tryz.underlying168 rfl hszr ?_;(try simp only [Act.put,gA,gS,gZ,sA,sZ,sS]))
    have hbp:∀ W,(Instr.build 196 #[(0,.agg #[.int .i64 0,.int .i64 0]),(1,.agg (wdC r).toArray)]).run Tryz.prog W = .ok (.agg (plC r).toArray) W:=fun W => build_placed KD.out.1 W
    (refine ord_build rfl (by first | with_reducible rfl | kernel_rfl) 196 _ rfl #[(0,.agg #[.int .i64 0,.int .i64 0]),(1,.agg (wdC r).toArray)] (by first | with_reducible rfl | kernel_rfl) hbp ?_;(try simp only [Act.put,gA,gS,gZ,sA,sZ,sS]))
    clear hbp
    have hbs:=slice_placed KD.out.1 V0
    have k3:∃ ty,Blk V0 g3 ty #[.slice none 0 0]:=by obtain ⟨ty,k⟩:=KD.out.2;exact ⟨ty,k.upd (Upd.of_below HB.out (fun _ => False)) (fun h => h)⟩
    have hg3:g3 < V0.heap.size:=by obtain ⟨ty,k⟩:=k3;exact k.lt
    have hf3:V0.frozen? ⟨g3,0,none⟩ = false:=by obtain ⟨ty,k⟩:=k3;exact k.frozen 0
    obtain ⟨A,c,W2,happ,u2,f2,D⟩:=down_push KD.out.1 g3 hg3 hf3 k3
    have HD:=Lib.hid (And.intro u2 D)
    clear u2 D k3
    have hS1:=SR.out (V0.alloc (.cells (plC r).toArray 196)) (HB.out.alloc HB.out.size _)
    generalize (plC r).toArray = pla at hbs happ hS1 ⊢
    refine ord_do rfl rfl (fun K hK => ?_)
    refine do_buildSlice 192 1 _ rfl #[(0,.agg pla)] (by first | with_reducible rfl | kernel_rfl) hbs ?_
    refine hK _ _ (fun _ => hS1) ?_
    clear hK K hbs
    (try simp only [Act.put,gA,gS,gZ,sA,sZ,sS])
    refine ord_do rfl rfl (fun K hK => ?_)
    have hS2:=SR.out W2 (HB.out.trans (Below.mono (show Below V0.heap.size V0 W2 from ⟨HD.out.1.os,HD.out.1.tape,HD.out.1.output,HD.out.1.size,fun k hk => HD.out.1.block k hk (fun h => h)⟩) HB.out.size))
    refine do_append _ _ _ rfl rfl rfl happ ?_
    refine hK _ _ (fun _ => ?_) ?_
    ·exact hS2
    obtain ⟨qW,-,-,-⟩:=hS2
    clear hK K happ
    (try simp only [Act.put,gA,gS,gZ,sA,sZ,sS])
    refine ord_do rfl rfl (fun K hK => ?_)
    go_simp
    refine hK _ _ (fun h => absurd rfl h) ?_
    clear hK K
    (try simp only [Act.put,gA,gS,gZ,sA,sZ,sS])
    refine ord_done ?_
    have FIN:=Lib.hid (show DownQ wr g3 r (W2.setCell ⟨g3,0,none⟩ (.slice A 1 c)) by
     obtain ⟨-,A',c',e1,e2,e3,e4⟩:=HD.out
     exact ⟨A',c',e1,e2,(Upd.of_below HB.out _).trans e3 (fun _ h => .inl h),fun k hk => Nat.le_trans HB.out.size (e4 k hk)⟩)
    go_wp2
    go_roundw
    case rel => exact ⟨1,by omega,by go_num,Lib.hid (.inr ⟨by omega,FIN.out⟩)⟩
    case measure => simp [intOf] <;> omega
   ·have hix:(Instr.index 225 (.agg arr) (.int .i64 (j:Int))).run Tryz.prog wr = .ok (.int .i64 0) wr:=by have:=HX.out wr j hlt;rwa [if_neg h0] at this
    have hltI:(j:Int) < (4:Int):=by omega
    have hkw:IntKind.i64.wrap ((j:Int) + 1) = (j:Int) + 1:=IntWalk.i64_in _ (by omega)
    have hge:(0:Int) ≤ (j:Int):=by omega
    have hD:=Lib.hid (show 0 < j + 1∧DownQ w g3 r wr from by rcases hq.out with ⟨e,-⟩ | ⟨-,e⟩;exact absurd e h0;exact ⟨by omega,e⟩)
    clear hq
    go_wp2
    go_roundw
    case rel => exact ⟨j + 1,by omega,by go_num,Lib.hid (.inr hD.out)⟩
    case measure => simp [intOf] <;> omega
  ·obtain rfl:j = 4:=by omega
   have FIN:=Lib.hid (show DownQ w g3 r wr by rcases hq.out with ⟨e,-⟩ | ⟨-,e⟩;exact absurd e (by decide);exact e)
   clear hq
   go_wp2
   (try simp only [Exit.inBlock,Exit.then])
   exact bodyPost_end (results_none rfl _ _ _) rfl ⟨rfl,FIN.out⟩
end Go.Proofs.YtddffnonlmfhdaaGreatDoor
namespace Go.Proofs.YtddffnonlmfhdaaGreatDoor
open Go.RowKit
theorem down_step (w:World) (O:Nat→Option QRo) (p side dep cnt m:Nat) (r:List Nat) (pv lv:Value) (h:QuI w O p side dep cnt m 1 [r] pv lv) (hr:Wd r) (hm:m ≤ 4) (g1 g3 g4:Nat) (k1:∃ ty,Blk w g1 ty #[.pointer (some ⟨p,0,none⟩)]) (k3:∃ ty,Blk w g3 ty #[.slice none 0 0])
  (k4:∃ ty,Blk w g4 ty #[.func (.func 156) #[] #[.pointer (some ⟨g1,0,none⟩),.pointer (some ⟨g3,0,none⟩),.pointer (some ⟨g4,0,none⟩)]]) (l k:Nat) (hk:k + (l + 1) = m) (IH:Calls Tryz.prog 156 #[.int .i64 ((k + 1:Nat):Int),.int .i64 (l:Int),.int .i64 0,.int .i64 0,.pointer (some ⟨g1,0,none⟩),.pointer (some ⟨g3,0,none⟩),.pointer (some ⟨g4,0,none⟩)] w (fun e w' => e = .returned (.tuple #[])∧DownQ w g3 r w')) :
  Calls Tryz.prog 156 #[.int .i64 (k:Int),.int .i64 ((l + 1:Nat):Int),.int .i64 0,.int .i64 0,.pointer (some ⟨g1,0,none⟩),.pointer (some ⟨g3,0,none⟩),.pointer (some ⟨g4,0,none⟩)] w (fun e w' => e = .returned (.tuple #[])∧DownQ w g3 r w'):=by
 obtain ⟨pg,pc,e,-,-,-,-,-⟩:=own_cells h.rp (by omega)
 subst e
 have c1:w.cell? ⟨g1,0,none⟩ = some (.pointer (some ⟨p,0,none⟩)):=by obtain ⟨ty,k⟩:=k1;exact k.cell 0
 have c4:w.cell? ⟨g4,0,none⟩ = some (.func (.func 156) #[] #[.pointer (some ⟨g1,0,none⟩),.pointer (some ⟨g3,0,none⟩),.pointer (some ⟨g4,0,none⟩)]):=by obtain ⟨ty,k⟩:=k4;exact k.cell 0
 obtain ⟨n,hn⟩:∃ n,m + 1 = n:=⟨_,rfl⟩
 have q3:w.cell? ⟨p,3,none⟩ = some (.slice (some ⟨pg,0,none⟩) n pc):=by rw [← hn];exact h.blk.cell 3
 have hkn:(k:Int) < (n:Int):=by omega
 have hrg:w.rangeAt pg (k * 4) (four ((k:Int) + 2)):=range_four (k:=k) h (fun j u hu => by
  have hj:j < 4:=by have:=(List.getElem?_eq_some_iff.1 hu).1;simpa [four] using this
  have hq:qsC m 1 = ((List.range m).flatMap fun (i:Nat) => four ((i:Int) + 2)) ++ four 1:=rfl
  have hlen:((List.range m).flatMap fun (i:Nat) => four ((i:Int) + 2)).length = m * 4:=by
   have:=qsC_len m 1
   rw [hq,List.length_append] at this
   simp only [four,List.length_cons,List.length_nil] at this ⊢
   omega
  rw [hq,List.getElem?_append_left (by omega),flat_get (fun (i:Nat) => four ((i:Int) + 2)) 4 (fun _ => rfl) (List.range m) k j k (by rw [List.getElem?_range (by omega)]) hj]
  exact hu)
 have hsz:(Tryz.prog.info? 225).map (·.size) = some (four ((k:Int) + 2)).length:=by kernel_rfl
 clear h k1 k3 k4 hn
 have hw1:IntKind.i64.wrap ((k:Int) + 2 - 1) = ((k + 1:Nat):Int):=by rw [IntKind.wrap_i64];omega
 have hw2:IntKind.i64.wrap (((l + 1:Nat):Int) - 1) = (l:Int):=by rw [IntKind.wrap_i64];omega
 have z1:((k:Int) + 2 == 0) = false:=by simp;omega
 have z2:(((l + 1:Nat):Int) == 0) = false:=by simp;omega
 go_enter Tryz.func156,Tryz.ntmps156
 generalize ((l + 1:Nat):Int) = lI at hw2 z2 ⊢
 generalize hx:(k:Int) + 2 = xI at hw1 z1 hrg hsz ⊢
 have HX:=Lib.hid (idx_four xI)
 clear hx
 go_wp2_with (first | (refine wpList_load_mid rfl 225 _ rfl pg (k * 4) rfl (four xI) (.array 4 3) hrg Tryz.underlying225 rfl hsz ?_) | fail)
 clear c1 q3 hrg hsz
 generalize (four xI).toArray = arr at HX ⊢
 go_loopw [22] (fun a wr => ∃ j:Nat,j ≤ 4∧a = .int .i64 (j:Int)∧Hid (j = 0∧wr = w ∨ 0 < j∧DownQ w g3 r wr)) (fun a _ => (4 - intOf a).toNat)
 case atStart => exact ⟨0,by omega,rfl,Lib.hid (.inl ⟨rfl,rfl⟩)⟩
 case round =>
  obtain ⟨j,hj,rfl,hq⟩:=hrel
  by_cases hlt:j < 4
  ·by_cases h0:j = 0
   ·subst h0
    obtain rfl:wr = w:=by rcases hq.out with ⟨-,e⟩ | ⟨e,-⟩ <;> first | exact e | omega
    clear hq hlt
    have hix:(Instr.index 225 (.agg arr) (.int .i64 0)).run Tryz.prog wr = .ok (.int .i64 xI) wr:=HX.out wr 0 (by decide)
    have b1:bits .or .i64 0 0 = 0:=by decide
    have b2:bits .and .i64 0 1 = 0:=by decide
    go_wp2_with fail
    refine IH.mono ?_
    clear IH
    rintro e W1 ⟨rfl,D⟩
    have FIN:=Lib.hid D
    clear D
    go_wp2
    go_roundw
    case rel => exact ⟨1,by omega,by go_num,Lib.hid (.inr ⟨by omega,FIN.out⟩)⟩
    case measure => simp [intOf] <;> omega
   ·have hix:(Instr.index 225 (.agg arr) (.int .i64 (j:Int))).run Tryz.prog wr = .ok (.int .i64 0) wr:=by have:=HX.out wr j hlt;rwa [if_neg h0] at this
    have hltI:(j:Int) < (4:Int):=by omega
    have hkw:IntKind.i64.wrap ((j:Int) + 1) = (j:Int) + 1:=IntWalk.i64_in _ (by omega)
    have hge:(0:Int) ≤ (j:Int):=by omega
    have hD:=Lib.hid (show 0 < j + 1∧DownQ w g3 r wr from by rcases hq.out with ⟨e,-⟩ | ⟨-,e⟩;exact absurd e h0;exact ⟨by omega,e⟩)
    clear hq
    go_wp2
    go_roundw
    case rel => exact ⟨j + 1,by omega,by go_num,Lib.hid (.inr hD.out)⟩
    case measure => simp [intOf] <;> omega
  ·obtain rfl:j = 4:=by omega
   have FIN:=Lib.hid (show DownQ w g3 r wr by rcases hq.out with ⟨e,-⟩ | ⟨-,e⟩;exact absurd e (by decide);exact e)
   clear hq
   go_wp2
   (try simp only [Exit.inBlock,Exit.then])
   exact bodyPost_end (results_none rfl _ _ _) rfl ⟨rfl,FIN.out⟩
theorem down_full (w:World) (O:Nat→Option QRo) (p side dep cnt m:Nat) (r:List Nat) (pv lv:Value) (h:QuI w O p side dep cnt m 1 [r] pv lv) (hr:Wd r) (hm:m ≤ 4) (g1 g3 g4:Nat) (k1:∃ ty,Blk w g1 ty #[.pointer (some ⟨p,0,none⟩)]) (k3:∃ ty,Blk w g3 ty #[.slice none 0 0])
  (k4:∃ ty,Blk w g4 ty #[.func (.func 156) #[] #[.pointer (some ⟨g1,0,none⟩),.pointer (some ⟨g3,0,none⟩),.pointer (some ⟨g4,0,none⟩)]]):∀ (l k:Nat),k + l = m →
  Calls Tryz.prog 156 #[.int .i64 (k:Int),.int .i64 (l:Int),.int .i64 0,.int .i64 0,.pointer (some ⟨g1,0,none⟩),.pointer (some ⟨g3,0,none⟩),.pointer (some ⟨g4,0,none⟩)] w (fun e w' => e = .returned (.tuple #[])∧DownQ w g3 r w')
 | 0,k,hk => by
  obtain rfl:k = m:=by omega
  exact down_leaf w O p side dep cnt k r pv lv h hr hm g1 g3 g4 k1 k3
 | l + 1,k,hk => down_step w O p side dep cnt m r pv lv h hr hm g1 g3 g4 k1 k3 k4 l k hk (down_full w O p side dep cnt m r pv lv h hr hm g1 g3 g4 k1 k3 k4 l (k + 1) (by omega))
end Go.Proofs.YtddffnonlmfhdaaGreatDoor
namespace Go.Proofs.YtddffnonlmfhdaaGreatDoor
open Go.RowKit
def AllQ (w:World) (b:Option (List Nat)) (e:Ending) (w':World):Prop:=
 Below w.heap.size w w'∧match b with
 | none => e = .returned (.slice none 0 0)
 | some r => ∃ A c,e = .returned (.slice A 1 c)∧w'.ownsRow 0 196 66 (.slice A 1 c) 1 (plC r)∧∀ k,(Value.slice A 1 c).ownBlock = some k→w.heap.size ≤ k
theorem below_of_upd {w V W:World} {g:Nat} (hb:Below w.heap.size w V) (hu:Upd (fun k => k = g) V W) (hg:w.heap.size ≤ g):Below w.heap.size w W:=
 hb.trans (show Below w.heap.size V W from ⟨hu.os,hu.tape,hu.output,hu.size,fun k hk => hu.block k (Nat.lt_of_lt_of_le hk hb.size) (fun e => by omega)⟩)
abbrev allF (g1 g3 g4:Nat):Value:=.func (.func 156) #[] #[.pointer (some ⟨g1,0,none⟩),.pointer (some ⟨g3,0,none⟩),.pointer (some ⟨g4,0,none⟩)]
theorem all_blocks (w:World) (p:Nat):let V:=(((w.alloc (.cells #[.pointer (some ⟨p,0,none⟩)] 121)).alloc (.cells #[.slice none 0 0] 192)).alloc (.cells #[.nilFunc] 227))
  Blk V w.heap.size 121 #[.pointer (some ⟨p,0,none⟩)]∧Blk V (w.heap.size + 1) 192 #[.slice none 0 0]∧Blk V (w.heap.size + 1 + 1) 227 #[.nilFunc]∧Below w.heap.size w V:=by
 intro V
 have k1:=Blk.new w 121 #[.pointer (some ⟨p,0,none⟩)]
 have k2:=Blk.new (w.alloc (.cells #[.pointer (some ⟨p,0,none⟩)] 121)) 192 #[.slice none 0 0]
 have k3:=Blk.new ((w.alloc (.cells #[.pointer (some ⟨p,0,none⟩)] 121)).alloc (.cells #[.slice none 0 0] 192)) 227 #[.nilFunc]
 simp only [World.size_alloc] at k2 k3
 refine ⟨(k1.upd ((Upd.refl (fun _ => False) _).alloc _) (fun h => h)).upd ((Upd.refl (fun _ => False) _).alloc _) (fun h => h),k2.upd ((Upd.refl (fun _ => False) _).alloc _) (fun h => h),k3,?_⟩
 exact (((Below.refl _ _).alloc (Nat.le_refl _) _).alloc (by simp) _).alloc (by simp;omega) _
theorem qall_some (w:World) (O:Nat→Option QRo) (p side dep cnt m:Nat) (r:List Nat) (pv lv:Value) (h:QuI w O p side dep cnt m 1 [r] pv lv) (hr:Wd r) (hs:1 ≤ side) (hd:m + 1 = dep) (hd4:dep ≤ 4) :
  Calls Tryz.prog 119 #[.pointer (some ⟨p,0,none⟩)] w (AllQ w (some r)):=by
 have q0:((w.alloc (.cells #[.pointer (some ⟨p,0,none⟩)] 121)).alloc (.cells #[.slice none 0 0] 192)).cell? ⟨p,0,none⟩ = some (.int .i64 (side:Int)):=(h.blk.upd (((Upd.refl (fun _ => False) w).alloc _).alloc _) (fun h => h)).cell 0
 have hcon:=qis_any _ p side hs q0
 clear q0
 have H:=Lib.hid h
 have HA:=Lib.hid (all_blocks w p)
 obtain ⟨g,hg⟩:∃ g,w.heap.size = g:=⟨_,rfl⟩
 clear h
 go_enter Tryz.func119,Tryz.ntmps119
 go_wp2_with fail
 refine hcon.mono ?_
 clear hcon
 rintro e w' ⟨rfl,hw⟩
 subst w'
 go_upto_region 5 with (fail)
 obtain ⟨k1,k3,k4,hb⟩:=HA.out
 generalize (((w.alloc (.cells #[.pointer (some ⟨p,0,none⟩)] 121)).alloc (.cells #[.slice none 0 0] 192)).alloc (.cells #[.nilFunc] 227)) = V at k1 k3 k4 hb ⊢
 rw [hg] at k1 k3 k4
 have q4:V.cell? ⟨g + 1 + 1,0,none⟩ = some .nilFunc:=k4.cell 0
 have f4:V.frozen? ⟨g + 1 + 1,0,none⟩ = false:=k4.frozen 0
 have us:=(Upd.refl (fun k => k = g + 1 + 1) V).setCell (p:=⟨g + 1 + 1,0,none⟩) (.inl rfl) (allF g (g + 1) (g + 1 + 1))
 have HV:=Lib.hid (show Blk (V.setCell ⟨g + 1 + 1,0,none⟩ (allF g (g + 1) (g + 1 + 1))) g 121 #[.pointer (some ⟨p,0,none⟩)]∧Blk (V.setCell ⟨g + 1 + 1,0,none⟩ (allF g (g + 1) (g + 1 + 1))) (g + 1) 192 #[.slice none 0 0]∧Blk (V.setCell ⟨g + 1 + 1,0,none⟩ (allF g (g + 1) (g + 1 + 1))) (g + 1 + 1) 227 #[allF g (g + 1) (g + 1 + 1)]∧Below w.heap.size w (V.setCell ⟨g + 1 + 1,0,none⟩ (allF g (g + 1) (g + 1 + 1))) from
  ⟨k1.upd us (by omega),k3.upd us (by omega),k4.set 0 _,below_of_upd hb us (by omega)⟩)
 clear k1 k3 k4 hb us
 go_upto_region 6 with (fail)
 generalize V.setCell ⟨g + 1 + 1,0,none⟩ (allF g (g + 1) (g + 1 + 1)) = V1 at HV ⊢
 clear q4 f4
 have SR:=Lib.hid (show ∀ W,Below V1.heap.size V1 W→Blk W g 121 #[.pointer (some ⟨p,0,none⟩)]∧Blk W (g + 1) 192 #[.slice none 0 0]∧Blk W (g + 1 + 1) 227 #[allF g (g + 1) (g + 1 + 1)]∧Below w.heap.size w W∧QuI W O p side dep cnt m 1 [r] pv lv from fun W hb => by
  obtain ⟨k1,k3,k4,b⟩:=HV.out
  have hu:=Upd.of_below hb (fun _ => False)
  have hbw:=b.trans (hb.mono b.size)
  exact ⟨k1.upd hu (fun h => h),k3.upd hu (fun h => h),k4.upd hu (fun h => h),hbw,H.out.upd (Upd.of_below hbw (fun _ => False)) (fun _ _ => id)⟩)
 obtain ⟨j1,j3,j4,bw,hi⟩:=SR.out V1.drew (Below.refl _ _).drew
 have hS:V1.drew.cell? ⟨g + 1 + 1,0,none⟩ = some (allF g (g + 1) (g + 1 + 1))∧V1.drew.cell? ⟨g,0,none⟩ = some (.pointer (some ⟨p,0,none⟩))∧V1.drew.cell? ⟨p,1,none⟩ = some (.int .i64 (dep:Int)):=⟨j4.cell 0,j1.cell 0,hi.blk.cell 1⟩
 have hw1:IntKind.i64.wrap ((dep:Int) - 1) = (m:Int):=by rw [IntKind.wrap_i64];omega
 have hcon:Calls Tryz.prog 156 #[.int .i64 0,.int .i64 (m:Int),.int .i64 0,.int .i64 0,.pointer (some ⟨g,0,none⟩),.pointer (some ⟨g + 1,0,none⟩),.pointer (some ⟨g + 1 + 1,0,none⟩)] V1.drew (fun e w' => e = .returned (.tuple #[])∧DownQ V1.drew (g + 1) r w'):=down_full V1.drew O p side dep cnt m r pv lv hi hr (by omega) g (g + 1) (g + 1 + 1) ⟨_,j1⟩ ⟨_,j3⟩ ⟨_,j4⟩ m 0 (by omega)
 have BW:=Lib.hid bw
 clear j1 j3 j4 bw hi
 refine wp_region_ord (fun W => W.cell? ⟨g + 1 + 1,0,none⟩ = some (allF g (g + 1) (g + 1 + 1))∧W.cell? ⟨g,0,none⟩ = some (.pointer (some ⟨p,0,none⟩))∧W.cell? ⟨p,1,none⟩ = some (.int .i64 (dep:Int))) 6 [(0,true),(1,true),(2,true),(3,true),(4,true),(5,true),(6,false)] (by kernel_rfl) (by kernel_rfl) (fun _ _ d _ _ h => by cases d <;> exact h) hS ?_
 generalize V1.drew = V2 at hS hcon BW ⊢
 iterate 6 (refine ord_takeA rfl ?_;(try simp only [Act.put,gA,gS,gZ,sA,sZ,sS]))
 refine ord_do rfl rfl (fun K hK => ?_)
 go_simp
 refine hcon.mono ?_
 clear hcon
 rintro e W3 ⟨rfl,D⟩
 refine hK _ _ (fun h => absurd rfl h) ?_
 clear hK K hS
 (try simp only [Act.put,gA,gS,gZ,sA,sZ,sS])
 refine ord_done ?_
 obtain ⟨A,c,d1,d2,d3,d4⟩:=D
 have FIN:=Lib.hid (show AllQ w (some r) (.returned (.slice A 1 c)) W3 from ⟨below_of_upd BW.out d3 (by omega),A,c,rfl,d2,fun k hk => Nat.le_trans BW.out.size (d4 k hk)⟩)
 clear d2 d3 d4
 have hso:=sort_01 1 (Nat.le_refl _) A c (.func (.func 158) #[] #[]) W3
 go_wp2_with fail
 refine hso.mono ?_
 clear hso
 rintro e w' ⟨⟨v,rfl⟩,hw⟩
 subst w'
 go_wp2
 go_ret
 exact FIN.out
end Go.Proofs.YtddffnonlmfhdaaGreatDoor
namespace Go.Proofs.YtddffnonlmfhdaaGreatDoor
open Go.RowKit
theorem qall_none (w:World) (O:Nat→Option QRo) (p side dep cnt:Nat) (pv lv:Value) (h:QuI w O p side dep cnt 0 0 [] pv lv) (hs:1 ≤ side) (hd1:1 ≤ dep) (hd4:dep ≤ 4) :
  Calls Tryz.prog 119 #[.pointer (some ⟨p,0,none⟩)] w (AllQ w none):=by
 have q0:((w.alloc (.cells #[.pointer (some ⟨p,0,none⟩)] 121)).alloc (.cells #[.slice none 0 0] 192)).cell? ⟨p,0,none⟩ = some (.int .i64 (side:Int)):=(h.blk.upd (((Upd.refl (fun _ => False) w).alloc _).alloc _) (fun h => h)).cell 0
 have hcon:=qis_any _ p side hs q0
 clear q0
 have H:=Lib.hid h
 have HA:=Lib.hid (all_blocks w p)
 obtain ⟨g,hg⟩:∃ g,w.heap.size = g:=⟨_,rfl⟩
 clear h
 go_enter Tryz.func119,Tryz.ntmps119
 go_wp2_with fail
 refine hcon.mono ?_
 clear hcon
 rintro e w' ⟨rfl,hw⟩
 subst w'
 go_upto_region 5 with (fail)
 obtain ⟨k1,k3,k4,hb⟩:=HA.out
 generalize (((w.alloc (.cells #[.pointer (some ⟨p,0,none⟩)] 121)).alloc (.cells #[.slice none 0 0] 192)).alloc (.cells #[.nilFunc] 227)) = V at k1 k3 k4 hb ⊢
 rw [hg] at k1 k3 k4
 have q4:V.cell? ⟨g + 1 + 1,0,none⟩ = some .nilFunc:=k4.cell 0
 have f4:V.frozen? ⟨g + 1 + 1,0,none⟩ = false:=k4.frozen 0
 have us:=(Upd.refl (fun k => k = g + 1 + 1) V).setCell (p:=⟨g + 1 + 1,0,none⟩) (.inl rfl) (allF g (g + 1) (g + 1 + 1))
 have HV:=Lib.hid (show Blk (V.setCell ⟨g + 1 + 1,0,none⟩ (allF g (g + 1) (g + 1 + 1))) g 121 #[.pointer (some ⟨p,0,none⟩)]∧Blk (V.setCell ⟨g + 1 + 1,0,none⟩ (allF g (g + 1) (g + 1 + 1))) (g + 1) 192 #[.slice none 0 0]∧Blk (V.setCell ⟨g + 1 + 1,0,none⟩ (allF g (g + 1) (g + 1 + 1))) (g + 1 + 1) 227 #[allF g (g + 1) (g + 1 + 1)]∧Below w.heap.size w (V.setCell ⟨g + 1 + 1,0,none⟩ (allF g (g + 1) (g + 1 + 1))) from
  ⟨k1.upd us (by omega),k3.upd us (by omega),k4.set 0 _,below_of_upd hb us (by omega)⟩)
 clear k1 k3 k4 hb us
 go_upto_region 6 with (fail)
 generalize V.setCell ⟨g + 1 + 1,0,none⟩ (allF g (g + 1) (g + 1 + 1)) = V1 at HV ⊢
 clear q4 f4
 have SR:=Lib.hid (show ∀ W,Below V1.heap.size V1 W→Blk W g 121 #[.pointer (some ⟨p,0,none⟩)]∧Blk W (g + 1) 192 #[.slice none 0 0]∧Blk W (g + 1 + 1) 227 #[allF g (g + 1) (g + 1 + 1)]∧Below w.heap.size w W∧QuI W O p side dep cnt 0 0 [] pv lv from fun W hb => by
  obtain ⟨k1,k3,k4,b⟩:=HV.out
  have hu:=Upd.of_below hb (fun _ => False)
  have hbw:=b.trans (hb.mono b.size)
  exact ⟨k1.upd hu (fun h => h),k3.upd hu (fun h => h),k4.upd hu (fun h => h),hbw,H.out.upd (Upd.of_below hbw (fun _ => False)) (fun _ _ => id)⟩)
 obtain ⟨j1,j3,j4,bw,hi⟩:=SR.out V1.drew (Below.refl _ _).drew
 have hS:V1.drew.cell? ⟨g + 1 + 1,0,none⟩ = some (allF g (g + 1) (g + 1 + 1))∧V1.drew.cell? ⟨g,0,none⟩ = some (.pointer (some ⟨p,0,none⟩))∧V1.drew.cell? ⟨p,1,none⟩ = some (.int .i64 (dep:Int)):=⟨j4.cell 0,j1.cell 0,hi.blk.cell 1⟩
 have hw1:IntKind.i64.wrap ((dep:Int) - 1) = (dep:Int) - 1:=by rw [IntKind.wrap_i64];omega
 have hcon:=down_none V1.drew O p side dep cnt pv lv hi ((dep:Int) - 1) g (g + 1) (g + 1 + 1) (j1.cell 0)
 have h3:V1.drew.cell? ⟨g + 1,0,none⟩ = some (.slice none 0 0):=j3.cell 0
 have BW:=Lib.hid bw
 clear j1 j3 j4 bw hi
 refine wp_region_ord (fun W => W.cell? ⟨g + 1 + 1,0,none⟩ = some (allF g (g + 1) (g + 1 + 1))∧W.cell? ⟨g,0,none⟩ = some (.pointer (some ⟨p,0,none⟩))∧W.cell? ⟨p,1,none⟩ = some (.int .i64 (dep:Int))) 6 [(0,true),(1,true),(2,true),(3,true),(4,true),(5,true),(6,false)] (by kernel_rfl) (by kernel_rfl) (fun _ _ d _ _ h => by cases d <;> exact h) hS ?_
 generalize V1.drew = V2 at hS hcon h3 BW ⊢
 iterate 6 (refine ord_takeA rfl ?_;(try simp only [Act.put,gA,gS,gZ,sA,sZ,sS]))
 refine ord_do rfl rfl (fun K hK => ?_)
 go_simp
 refine hcon.mono ?_
 clear hcon
 rintro e W3 ⟨rfl,hw⟩
 subst W3
 refine hK _ _ (fun h => absurd rfl h) ?_
 clear hK K hS
 (try simp only [Act.put,gA,gS,gZ,sA,sZ,sS])
 refine ord_done ?_
 have FIN:=Lib.hid (show AllQ w none (.returned (.slice none 0 0)) V2 from ⟨BW.out,rfl⟩)
 have hso:=sort_01 0 (Nat.zero_le _) none 0 (.func (.func 158) #[] #[]) V2
 go_wp2_with fail
 refine hso.mono ?_
 clear hso
 rintro e w' ⟨⟨v,rfl⟩,hw⟩
 subst w'
 go_wp2
 go_ret
 exact FIN.out
theorem qall_any (w:World) (F:Nat→Prop) (p side:Nat) (b:Option (List Nat)) (h:QuS w F p side b):Calls Tryz.prog 119 #[.pointer (some ⟨p,0,none⟩)] w (AllQ w b):=by
 obtain ⟨O,dep,cnt,m,last,L,pv,lv,hq,ok,-⟩:=h
 cases b with
 | none =>
  obtain ⟨rfl,rfl,rfl,rfl⟩:=ok.no rfl
  exact qall_none w O p side dep 0 pv lv hq ok.s1 ok.d1 ok.d2
 | some r =>
  obtain ⟨hm,rfl,rfl,rfl,hr⟩:=ok.is r rfl
  exact qall_some w O p side dep _ m r pv lv hq hr ok.s1 hm ok.d2
end Go.Proofs.YtddffnonlmfhdaaGreatDoor
namespace Go.Proofs.YtddffnonlmfhdaaGreatDoor
open Go.RowKit
theorem bcells_any (r:List Nat) (hr:Wd r) (w:World):Calls Tryz.prog 159 #[wdV r] w (fun e w' => e = .returned (.func (.func 186) #[] #[.pointer (some ⟨w.heap.size,0,none⟩)])∧w' = w.alloc (.cells (wdC r).toArray 168)):=by
 unfold wdV
 go_enter Tryz.func159,Tryz.ntmps159
 go_wp2
 go_ret
 exact ⟨rfl,rfl⟩
def CellsQ (w:World) (b:Option (List Nat)) (e:Ending) (w':World):Prop:=
 ∃ g A n c,w.heap.size ≤ g∧e = .returned (.func (.func 120) #[] #[.pointer (some ⟨g,0,none⟩)])∧Blk w' g 192 #[.slice A n c]∧Below w.heap.size w w' ∧
  match b with
  | none => n = 0
  | some r => n = 1∧w'.ownsRow 0 196 66 (.slice A 1 c) 1 (plC r)∧∀ k,(Value.slice A 1 c).ownBlock = some k→w.heap.size ≤ k
theorem cells_blk (w W:World) (v:Value) (hb:Below w.heap.size w W):Blk (W.alloc (.cells #[v] 192)) W.heap.size 192 #[v]∧Below w.heap.size w (W.alloc (.cells #[v] 192)):=
 ⟨Blk.new W 192 #[v],hb.alloc hb.size _⟩
theorem mcells_any (w:World) (F:Nat→Prop) (p side:Nat) (b:Option (List Nat)) (h:QuS w F p side b):Calls Tryz.prog 74 #[.pointer (some ⟨p,0,none⟩)] w (CellsQ w b):=by
 have ha:=qall_any w F p side b h
 clear h
 cases b with
 | none =>
  go_enter Tryz.func74,Tryz.ntmps74
  go_wp2_with fail
  refine ha.mono ?_
  clear ha
  rintro e W ⟨hb,rfl⟩
  have C:=Lib.hid (cells_blk w W (.slice none 0 0) hb)
  have HB:=Lib.hid hb
  clear hb
  go_wp2
  go_ret
  exact ⟨W.heap.size,none,0,0,HB.out.size,rfl,C.out.1,C.out.2,rfl⟩
 | some r =>
  go_enter Tryz.func74,Tryz.ntmps74
  go_wp2_with fail
  refine ha.mono ?_
  clear ha
  rintro e W ⟨hb,A,c,rfl,own,pl⟩
  have C:=Lib.hid (cells_blk w W (.slice A 1 c) hb)
  have HB:=Lib.hid (And.intro hb (And.intro own pl))
  clear hb own pl
  go_wp2
  go_ret
  exact ⟨W.heap.size,A,1,c,HB.out.1.size,rfl,C.out.1,C.out.2,rfl,HB.out.2.1.alloc _,HB.out.2.2⟩
end Go.Proofs.YtddffnonlmfhdaaGreatDoor
namespace Go.Proofs.YtddffnonlmfhdaaGreatDoor
def bitsL:Nat→Nat→Nat→List Nat
 | 0,_,_ => []
 | n + 1,o,x => if x % 2 = 1 then o :: bitsL n (o + 1) (x / 2) else bitsL n (o + 1) (x / 2)
theorem and_pred_odd {x:Nat} (h:x % 2 = 1):x &&& (x - 1) = x - 1:=by
 apply Nat.eq_of_testBit_eq
 intro j
 rw [Nat.testBit_and]
 cases j with
 | zero => simp [Nat.testBit_zero];omega
 | succ j =>
  rw [Nat.testBit_succ,Nat.testBit_succ]
  have:(x - 1) / 2 = x / 2:=by omega
  rw [this,Bool.and_self]
theorem and_pred_even {y:Nat} (h:y ≠ 0):(2 * y) &&& (2 * y - 1) = 2 * (y &&& (y - 1)):=by
 apply Nat.eq_of_testBit_eq
 intro j
 rw [Nat.testBit_and]
 cases j with
 | zero => simp [Nat.testBit_zero]
 | succ j =>
  rw [Nat.testBit_succ,Nat.testBit_succ,Nat.testBit_succ]
  have h1:(2 * y - 1) / 2 = y - 1:=by omega
  have h2:2 * y / 2 = y:=by omega
  have h3:2 * (y &&& (y - 1)) / 2 = y &&& (y - 1):=by omega
  rw [h1,h2,h3,Nat.testBit_and]
theorem bitsL_zero:∀ n o,bitsL n o 0 = []
 | 0,_ => rfl
 | n + 1,o => by
  rw [bitsL,if_neg (by decide)]
  exact bitsL_zero n (o + 1)
theorem bitsL_step:∀ (n o x:Nat),x ≠ 0→x < 2 ^ n→bitsL n o x = (o + Lib.ctz n x) :: bitsL n o (x &&& (x - 1))
 | 0,o,x,h0,h => by simp at h;omega
 | n + 1,o,x,h0,h => by
  by_cases hx:x % 2 = 1
  ·have hc:Lib.ctz (n + 1) x = 0:=by rw [Lib.ctz,if_neg h0,Lib.ctzFrom,if_pos hx]
   rw [and_pred_odd hx,hc,bitsL,if_pos hx,bitsL,if_neg (by omega)]
   have:(x - 1) / 2 = x / 2:=by omega
   rw [this]
   rfl
  ·obtain ⟨y,rfl⟩:∃ y,x = 2 * y:=⟨x / 2,by omega⟩
   have hy:y ≠ 0:=by omega
   have hd:2 * y / 2 = y:=by omega
   have hc:Lib.ctz (n + 1) (2 * y) = Lib.ctz n y + 1:=by rw [Lib.ctz,if_neg h0,Lib.ctz,if_neg hy,Lib.ctzFrom,if_neg hx,hd,Nat.add_comm]
   have hd2:2 * (y &&& (y - 1)) / 2 = y &&& (y - 1):=by omega
   rw [and_pred_even hy,hc,bitsL,if_neg hx,bitsL,if_neg (by omega),hd,hd2,bitsL_step n (o + 1) y hy (by rw [Nat.pow_succ] at h;omega)]
   congr 1
   omega
theorem bitsL_mem:∀ (n o x j:Nat),j ∈ bitsL n o x ↔ ∃ i,i < n∧j = o + i∧x.testBit i = true
 | 0,o,x,j => by simp [bitsL]
 | n + 1,o,x,j => by
  have ih:=bitsL_mem n (o + 1) (x / 2) j
  have hz:x.testBit 0 = decide (x % 2 = 1):=Nat.testBit_zero x
  constructor
  ·intro h
   rw [bitsL] at h
   have key:j = o∧x % 2 = 1 ∨ j ∈ bitsL n (o + 1) (x / 2):=by
    split at h
    ·rcases List.mem_cons.1 h with h | h
     ·exact .inl ⟨h,by assumption⟩
     ·exact .inr h
    ·exact .inr h
   rcases key with ⟨rfl,hx⟩ | hm
   ·exact ⟨0,by omega,rfl,by rw [hz];exact decide_eq_true hx⟩
   ·obtain ⟨i,hi,rfl,ht⟩:=ih.1 hm
    exact ⟨i + 1,by omega,by omega,by rw [Nat.testBit_succ];exact ht⟩
  ·rintro ⟨i,hi,rfl,ht⟩
   rw [bitsL]
   cases i with
   | zero =>
    rw [hz] at ht
    rw [if_pos (of_decide_eq_true ht)]
    exact List.mem_cons_self
   | succ i =>
    have hm:o + (i + 1) ∈ bitsL n (o + 1) (x / 2):=ih.2 ⟨i,by omega,by omega,by rw [← Nat.testBit_succ];exact ht⟩
    split
    ·exact List.mem_cons_of_mem _ hm
    ·exact hm
end Go.Proofs.YtddffnonlmfhdaaGreatDoor
namespace Go.Proofs.YtddffnonlmfhdaaGreatDoor
def rowL (k x:Nat):List (Nat × Nat):=(bitsL 64 0 x).map (fun c => (k,c))
def celL:Nat→List Nat→List (Nat × Nat)
 | _,[] => []
 | k,x :: r => rowL k x ++ celL (k + 1) r
def qcL:Option (List Nat)→List (Nat × Nat)
 | none => []
 | some r => celL 0 r
theorem rowL_mem {k x i j:Nat}:(i,j) ∈ rowL k x ↔ i = k∧j < 64∧x.testBit j = true:=by
 unfold rowL
 simp only [List.mem_map,bitsL_mem,Prod.mk.injEq]
 constructor
 ·rintro ⟨c,⟨t,h1,h2,h3⟩,rfl,rfl⟩
  rw [Nat.zero_add] at h2
  subst h2
  exact ⟨rfl,h1,h3⟩
 ·rintro ⟨rfl,h1,h2⟩
  exact ⟨j,⟨j,h1,(Nat.zero_add j).symm,h2⟩,rfl,rfl⟩
theorem celL_mem:∀ (r:List Nat) (k i j:Nat),(i,j) ∈ celL k r ↔ ∃ t,i = k + t∧∃ x,r[t]? = some x∧j < 64∧x.testBit j = true
 | [],k,i,j => by simp [celL]
 | x :: r,k,i,j => by
  rw [celL,List.mem_append,rowL_mem,celL_mem r (k + 1) i j]
  constructor
  ·rintro (⟨rfl,h1,h2⟩ | ⟨t,rfl,h⟩)
   ·exact ⟨0,rfl,x,rfl,h1,h2⟩
   ·exact ⟨t + 1,by omega,h⟩
  ·rintro ⟨t,rfl,y,h1,h2⟩
   cases t with
   | zero =>
    rw [List.getElem?_cons_zero] at h1
    injection h1 with h1
    subst h1
    exact .inl ⟨rfl,h2⟩
   | succ t => exact .inr ⟨t,by omega,y,h1,h2⟩
theorem bitsL_up:∀ (n o x:Nat),(bitsL n o x).Pairwise (· < ·)
 | 0,_,_ => List.Pairwise.nil
 | n + 1,o,x => by
  have ih:=bitsL_up n (o + 1) (x / 2)
  rw [bitsL]
  split
  ·refine List.pairwise_cons.2 ⟨fun j hj => ?_,ih⟩
   obtain ⟨i,-,rfl,-⟩:=(bitsL_mem n (o + 1) (x / 2) j).1 hj
   omega
  ·exact ih
def ltC (a b:Nat × Nat):Prop:=a.1 < b.1 ∨ a.1 = b.1∧a.2 < b.2
theorem rowL_up (k x:Nat):(rowL k x).Pairwise ltC:=by
 unfold rowL
 rw [List.pairwise_map]
 exact (bitsL_up 64 0 x).imp (fun h => .inr ⟨rfl,h⟩)
theorem celL_up:∀ (r:List Nat) (k:Nat),(celL k r).Pairwise ltC
 | [],_ => List.Pairwise.nil
 | x :: r,k => by
  rw [celL,List.pairwise_append]
  refine ⟨rowL_up k x,celL_up r (k + 1),fun a ha b hb => .inl ?_⟩
  obtain ⟨a1,a2⟩:=a
  obtain ⟨b1,b2⟩:=b
  obtain ⟨rfl,-⟩:=rowL_mem.1 ha
  obtain ⟨t,rfl,-⟩:=(celL_mem r _ _ _).1 hb
  show a1 < _
  omega
theorem ltC_ne {a b:Nat × Nat} (h:ltC a b):a ≠ b:=by
 rintro rfl
 rcases h with h | ⟨-,h⟩ <;> exact absurd h (Nat.lt_irrefl _)
theorem qcL_up (b:Option (List Nat)):(qcL b).Pairwise ltC:=by
 cases b with
 | none => exact List.Pairwise.nil
 | some r => exact celL_up r 0
theorem qcL_nodup (b:Option (List Nat)):(qcL b).Nodup:=(qcL_up b).imp ltC_ne
theorem qcL_mem {b:Option (List Nat)} (hw:Wd (oldW b)) {i j:Nat}:(i,j) ∈ qcL b ↔ i < 64∧j < 64∧bitO b i j = true:=by
 cases b with
 | none => simp [qcL,bitO]
 | some r =>
  show (i,j) ∈ celL 0 r ↔ _
  rw [celL_mem]
  have hl:=hw.len
  have hl:r.length = 64:=hl
  constructor
  ·rintro ⟨t,rfl,x,h1,h2,h3⟩
   have ht:=(List.getElem?_eq_some_iff.1 h1).1
   rw [Nat.zero_add]
   refine ⟨by omega,h2,?_⟩
   show bitW r t j = true
   unfold bitW
   rw [h1]
   exact h3
  ·rintro ⟨h1,h2,h3⟩
   refine ⟨i,(Nat.zero_add i).symm,r[i]'(by omega),List.getElem?_eq_getElem _,h2,?_⟩
   have h3:bitW r i j = true:=h3
   unfold bitW at h3
   rw [List.getElem?_eq_getElem (by omega)] at h3
   exact h3
theorem bitsL_len:∀ (n o x:Nat),(bitsL n o x).length = pcN n x
 | 0,_,_ => rfl
 | n + 1,o,x => by
  rw [bitsL,pcN]
  split
  ·rw [List.length_cons,bitsL_len n];omega
  ·rw [bitsL_len n];omega
theorem celL_len:∀ (r:List Nat) (k:Nat),(celL k r).length = lenB r
 | [],_ => rfl
 | x :: r,k => by
  rw [celL,List.length_append,celL_len r,rowL,List.length_map,bitsL_len]
  rfl
theorem qcL_len {b:Option (List Nat)}:(qcL b).length = lenB (oldW b):=by
 cases b with
 | none => exact lenB_zero.symm
 | some r => exact celL_len r 0
theorem celL_row (x:Nat):celL 0 (x :: List.replicate 63 0) = rowL 0 x:=by
 have h:∀ (n k:Nat),celL k (List.replicate n 0) = []:=fun n => by
  induction n with
  | zero => intro k;rfl
  | succ n ih => intro k;rw [List.replicate_succ,celL,ih,rowL,bitsL_zero];rfl
 rw [celL,h,List.append_nil]
end Go.Proofs.YtddffnonlmfhdaaGreatDoor
namespace Go.Proofs.YtddffnonlmfhdaaGreatDoor
open Go
section
variable {P:Program} {ops:Array Oper} {Q:Exit→Act→World→Prop} {md:Region.Mode} {S:World→Prop} {n m l:Nat}
theorem callsIn_round {f:FuncId} {args:Array Value} {w:World} {R:Ending→World→Prop} (h:Calls P f args w R):CallsIn (Fence.wide.inRound l) m P f args w R:=
 (callsIn_wide (n:=m)).2 h
theorem rowsIn_wide {row:String} {args:Array Value} {w:World} {R:Value→World→Prop} (h:Rows P row args w R):RowsIn Fence.wide m P row args w R:=by
 intro c cs _
 obtain ⟨v,w',hr,hs⟩:=h c cs
 exact ⟨v,w',hr,stepsIn_wide.2 hs⟩
theorem rowsIn_round {row:String} {args:Array Value} {w:World} {R:Value→World→Prop} (h:Rows P row args w R):RowsIn (Fence.wide.inRound l) m P row args w R:=
 rowsIn_wide h

theorem wpIn_of_wp_round {o:Oper} {a:Act} {w:World} {K:Act→World→Prop} (hnd:∀ c,o.op ≠ .defer c) (h:o.wp P a w K Q):o.wpIn (Fence.wide.inRound l) m P a w K Q:=by
 unfold Oper.wp at h
 refine ⟨fun _ _ => trivial,?_⟩
 rw [Oper.semAt_eq _ _ _ hnd]
 generalize (execOp a.eval o).run P w = r at *
 cases r with
 | ok x w' =>
  cases x <;> simp only [Oper.upon,Oper.uponIn] at h ⊢ <;>
   first
    | exact h
    | exact h.elim
    | exact ⟨fun h => by simp [Fence.wide] at h,callsIn_round h⟩
    | exact ⟨fun h => by simp [Fence.wide] at h,rowsIn_round h⟩
 | halt x w' => cases x <;> simp only [Oper.upon,Oper.uponIn] at h ⊢ <;> exact h

theorem wpOpIn_of_wpOp {i:Nat} {a:Act} {w:World} {K:Act→World→Prop} (hnd:∀ o ∈ ops,∀ c,o.op ≠ .defer c) (hQ:¬ LetsOut Q) (h:wpOp P ops Q i K a w):wpOpIn (Fence.wide.inRound l) m P ops Q i K a w:=by
 unfold wpOp at h
 unfold wpOpIn
 split
 ·rename_i ho;simpa only [ho] using h
 ·rename_i o ho
  simp only [ho] at h
  split
  ·rename_i hw
   simp only [hw,if_true] at h
   rcases h with h | h
   ·exact wpIn_of_wp_round (hnd o (Array.mem_of_getElem? ho)) h
   ·exact absurd h.2 hQ
  ·rename_i hw
   simp only [hw] at h
   exact ⟨fun _ _ => trivial,h⟩

theorem wpAnyIn_of_wpAny (hnd:∀ o ∈ ops,∀ c,o.op ≠ .defer c) (hQ:¬ LetsOut Q):∀ (fuel:Nat) (listed:Array Bool) (a:Act) (w:World),
  wpAny P md ops Q fuel listed a w→wpAnyIn (Fence.wide.inRound l) m P md ops Q fuel listed a w
 | 0,_,_,_,h => h
 | fuel + 1,_,_,_,h => ⟨h.1,fun i hi => wpOpIn_mono (fun a' w' h' => wpAnyIn_of_wpAny hnd hQ fuel _ a' w' h') (wpOpIn_of_wpOp hnd hQ (h.2 i hi))⟩

def noDefer (l:List Oper):Bool:=l.all fun o => match o.op with | .defer _ => false | _ => true
theorem noDefer_spec {l:List Oper} (h:noDefer l = true):∀ o ∈ l.toArray,∀ c,o.op ≠ .defer c:=by
 intro o ho c hc
 have:=List.all_eq_true.1 h o (by simpa using ho)
 simp [hc] at this

theorem wpIn_region_ord {rid:Nat} {a:Act} {w:World} {ol:List Oper} (S:World→Prop) (n:Nat) (σ:List (Nat × Bool)) (hm:P.follows .mixedOrders = true) (hB:ordB .any ol.toArray n σ = true) (hnd:noDefer ol = true)
  (hLQ:¬ LetsOut Q) (hQ:∀ c a d v w,Q (.panic c) (Act.put a d v) w→Q (.panic c) a w) (hS:S w.drew) (h:wpOrd P ol.toArray Q S n σ a w.drew):(Code.region rid ol.toArray true).wpIn (Fence.wide.inRound l) m P Q a w:=by
 simp only [ordB,Bool.and_eq_true,Bool.or_eq_true,decide_eq_true_eq] at hB
 obtain ⟨⟨⟨hsel,hlen⟩,hp⟩,hB'⟩:=hB
 refine wpIn_region_any hm (wpAnyIn_of_wpAny (noDefer_spec hnd) hLQ _ _ _ _ (wpAny_of_C (S:=S) (n:=n) _ _ _ _ ?_))
 rw [← hlen]
 refine wpAnyC_ord hsel hQ ol.toArray.size σ _ a w.drew (hp.imp id fun h p hpr hp2 => ?_) (down_start _) (by rw [hlen];exact hB') (fun _ => hS) h
 have:=List.all_eq_true.1 h p hpr
 simpa [hp2] using this
end
end Go.Proofs.YtddffnonlmfhdaaGreatDoor
namespace Go.Proofs.YtddffnonlmfhdaaGreatDoor
open Go.RowKit
theorem Blk.keep {W W':World} {g:Nat} {t:TypeId} {cs:Array Value} {row:Option Nat} (h:Blk W g t cs) (hg:W.grownBy W' row) {B:Nat} (hr:∀ r,row = some r→B ≤ r∧∃ o:Obj,W.heap[r]? = some o∧o.isCells = false):Blk W' g t cs:=
 h.grown hg (fun e => by
  obtain ⟨_,o,ho,hc⟩:=hr g e.symm
  rw [show W.heap[g]? = _ from h] at ho
  cases ho
  cases hc)

theorem wp_range {α:Type} {P:Program} {g:Operand} {ps:Array Tmp} {assign body:Code} {Q:Exit→Act→World→Prop} {a:Act} {w:World} (n:Nat)
  (h1:1 ≤ n) {gf:Nat} {lb:Array Value} (hg:a.eval g = .func (.func gf) #[] lb) (eg:∀ args w,(callFunc gf args).run P w = .ok (.enter gf args) w)
  {encs:α→Array Value} {Kp:World→World→Prop} {S Sp:List α→Prop} {N:Nat} {w0:World} (hseq:SeqStopsK Fence.wide (n - 1) P gf lb encs Kp S Sp N w0)
  (hKt:∀ {A B C:World},Kp A B→Kp B C→Kp A C) (hKb:∀ (W:World) (l:Nat) (o o':Obj),w.heap.size ≤ l→W.heap[l]? = some o→o.isCells = false→o.isWalk = false→Kp W (W.putObj l o')) (hb0:Below w0.heap.size w0 w) (hps:∀ x,(encs x).size = ps.size)
  (I:List α→World→Prop) (Ix:Code→List α→World→Prop) (hI:OwnFrom w.heap.size I) (hIx:∀ c,OwnFrom w.heap.size (Ix c)) (h0:I [] w)
  (upd:Array Value→α→Nat→Array Value) (Bx:α→Nat→World→Prop) (hBx:∀ x b,OwnFrom w.heap.size (fun (_:Unit) W => Bx x b W))
  (hassign:∀ (l:Nat) (pre:List α) (x:α) (W:World) (K:Act→World→Prop),I pre W→(∀ b W',KeepsFrom w.heap.size W W'→Kp W W'→I pre W'→Bx x b W'→K { tmps:=upd a.tmps x b,defers:=[] } W') →
   assign.wpIn (Fence.wide.inRound l) (n - 1 - 1) P (Exit.then K (fun _ _ _ => False)) { tmps:=(ps.zip (encs x)).foldl (fun t (p,v) => t.setIfInBounds p v) a.tmps,defers:=[] } W)
  (hbody:∀ (l:Nat) (pre:List α) (x:α) (b:Nat) (W:World),w.heap.size ≤ l→(∃ r,W.heap[l]? = some (.loop r))→I pre W→Bx x b W→pre.length < N →
   body.wpIn (Fence.wide.inRound l) (n - 1 - 1) P (ownPostG w.heap.size Kp I Ix (pre ++ [x]) W) { tmps:=upd a.tmps x b,defers:=[] } W)
  (hdone:∀ (D:Nat) (xs:List α) (W:World),w.heap.size ≤ D→S xs→I xs W→W.heap[D]? = some (.deferred (some []))→Q .normal { a with defers:={ target:=.collected D,args:=#[] } :: a.defers } W)
  (hstop:∀ (D:Nat) (c:Code) (pre:List α) (W:World),w.heap.size ≤ D→Sp pre→Ix c pre W→W.heap[D]? = some (.deferred (some []))→c.wp P Q { a with defers:={ target:=.collected D,args:=#[] } :: a.defers } W) :
  (Code.rangeFunc g ps assign body).wp P Q a w:=by
 refine (wpIn_wide (n:=n)).1 ?_
 refine wpIn_rangeFunc_ownH rfl h1 hg trivial eg hseq hKt hKb hb0 hps I Ix hI hIx h0 (fun x a' W => ∃ b,a' = { tmps:=upd a.tmps x b,defers:=[] }∧Bx x b W) ?_ ?_ ?_ hdone ?_
 ·rintro x a' s W W' row ⟨b,hb,hx⟩ hgr hr
  exact ⟨b,hb,hBx x b () W W' row hx hgr hr⟩
 ·intro l pre x W K hi hK
  exact hassign l pre x W K hi (fun b W' h1 h2 h3 h4 => hK _ _ h1 h2 h3 ⟨b,rfl,h4⟩)
 ·rintro l pre x a' W hl hr hi ⟨b,rfl,hb⟩ hlt
  exact hbody l pre x b W hl hr hi hb hlt
 ·intro D c pre W hD hp hi hd
  exact wpIn_wide.2 (hstop D c pre W hD hp hi hd)
end Go.Proofs.YtddffnonlmfhdaaGreatDoor
namespace Go.Proofs.YtddffnonlmfhdaaGreatDoor
open Go.RowKit
def RgM (lb:Nat) (A:World):Prop:=∀ v q,A.cell? ⟨lb,0,none⟩ = some v→v.ownBlock = some q→q < A.heap.size
def AlwM (lb:Nat) (F:Nat→Prop) (A:World) (q:Nat):Prop:=F q ∨ ∃ v,A.cell? ⟨lb,0,none⟩ = some v∧v.ownBlock = some q
def KpM (lb:Nat) (F:Nat→Prop) (A B:World):Prop:=
 RgM lb A→Upd (AlwM lb F A) A B∧∀ v q,B.cell? ⟨lb,0,none⟩ = some v→v.ownBlock = some q→q < B.heap.size∧(q < A.heap.size→∃ u,A.cell? ⟨lb,0,none⟩ = some u∧u.ownBlock = some q)
def Prv (lb:Nat) (F:Nat→Prop) (A:World) (q:Nat):Prop:=q < A.heap.size∧¬ AlwM lb F A q
def OwnP {β:Type} (lb:Nat) (F:Nat→Prop) (B:Nat) (I:β→World→Prop):Prop:=
 ∀ s A A' row,I s A→A.grownBy A' row→(∀ k,row = some k→B ≤ k∧Prv lb F A k)→I s A'
theorem OwnP.put {β:Type} {lb:Nat} {F:Nat→Prop} {B:Nat} {I:β→World→Prop} (h:OwnP lb F B I) {s:β} {W:World} {k:Nat} (o:Obj) (hs:I s W) (hB:B ≤ k) (hk:Prv lb F W k):I s (W.putObj k o):=
 h s W _ (some k) hs (grownBy_putObj' W k o) (fun r e => by cases e;exact ⟨hB,hk⟩)
theorem OwnP.set {β:Type} {lb:Nat} {F:Nat→Prop} {B:Nat} {I:β→World→Prop} (h:OwnP lb F B I) {s:β} {W:World} {p:Addr} (v:Value) (hs:I s W) (hB:B ≤ p.block) (hk:Prv lb F W p.block):I s (W.setCell p v):=
 h s W _ (some p.block) hs ((Upd.refl (fun k => k = p.block) W).setCell (.inl rfl) v |>.to_grown (fun i _ e => by rw [e])) (fun r e => by cases e;exact ⟨hB,hk⟩)
theorem OwnP.alloc {β:Type} {lb:Nat} {F:Nat→Prop} {B:Nat} {I:β→World→Prop} (h:OwnP lb F B I) {s:β} {W:World} (o:Obj) (hs:I s W):I s (W.alloc o):=
 h s W _ none hs (World.grownBy_alloc W o none) (fun r e => by cases e)
theorem OwnP.below {β:Type} {lb:Nat} {F:Nat→Prop} {B:Nat} {I:β→World→Prop} (h:OwnP lb F B I) {s:β} {W W':World} (hs:I s W) (hb:Below W.heap.size W W'):I s W':=
 h s W _ none hs ((Upd.of_below hb (fun _ => False)).to_grown (fun _ _ e => e.elim)) (fun r e => by cases e)
theorem OwnP.from {β:Type} {lb:Nat} {F:Nat→Prop} {B B':Nat} {I:β→World→Prop} (h:OwnP lb F B I) (hB:B ≤ B'):OwnP lb F B' I:=
 fun s A A' row hs hg hr => h s A A' row hs hg (fun k hk => ⟨Nat.le_trans hB (hr k hk).1,(hr k hk).2⟩)
theorem OwnP.monoF {β:Type} {lb:Nat} {F F':Nat→Prop} {B:Nat} {I:β→World→Prop} (h:OwnP lb F B I) (hF:∀ q,F q→F' q):OwnP lb F' B I:=
 fun s A A' row hs hg hr => h s A A' row hs hg (fun k hk => ⟨(hr k hk).1,(hr k hk).2.1,fun ha => (hr k hk).2.2 (ha.imp (hF k) id)⟩)
section
variable {lb:Nat} {F F':Nat→Prop} {A B C:World} {q:Nat}
theorem KpM.rg (h:KpM lb F A B) (r:RgM lb A):RgM lb B:=fun v q h1 h2 => ((h r).2 v q h1 h2).1
theorem KpM.size (h:KpM lb F A B) (r:RgM lb A):A.heap.size ≤ B.heap.size:=(h r).1.size
theorem KpM.trans (h:KpM lb F A B) (k:KpM lb F B C):KpM lb F A C:=by
 intro r
 have rB:=h.rg r
 obtain ⟨u1,r1⟩:=h r
 obtain ⟨u2,r2⟩:=k rB
 refine ⟨u1.trans u2 ?_,?_⟩
 ·intro i hi
  rcases Nat.lt_or_ge i A.heap.size with hlt | hge
  ·refine .inl ?_
   rcases hi with hi | ⟨v,hv,ho⟩
   ·exact .inl hi
   ·exact .inr ((r1 v i hv ho).2 hlt)
  ·exact .inr hge
 ·intro v q hv ho
  obtain ⟨a,b⟩:=r2 v q hv ho
  refine ⟨a,fun hlt => ?_⟩
  obtain ⟨u,hu,ho'⟩:=b (Nat.lt_of_lt_of_le hlt u1.size)
  exact (r1 u q hu ho').2 hlt
theorem KpM.mono (h:KpM lb F A B) (hF:∀ q,F q→F' q):KpM lb F' A B:=fun r =>
 ⟨(h r).1.mono (fun i _ hi => hi.imp (hF i) id),(h r).2⟩
theorem KpM.of_below (h:Below A.heap.size A B) (hl:lb < A.heap.size):KpM lb F A B:=by
 intro r
 refine ⟨Upd.of_below h _,fun v q hv ho => ?_⟩
 have hc:B.cell? ⟨lb,0,none⟩ = A.cell? ⟨lb,0,none⟩:=h.cell (p:=⟨lb,0,none⟩) hl
 rw [hc] at hv
 exact ⟨Nat.lt_of_lt_of_le (r v q hv ho) h.size,fun _ => ⟨v,hv,ho⟩⟩
theorem KpM.refl (lb:Nat) (F:Nat→Prop) (A:World):KpM lb F A A:=fun r => ⟨Upd.refl _ _,fun v q hv ho => ⟨r v q hv ho,fun _ => ⟨v,hv,ho⟩⟩⟩
theorem KpM.of_upd (h:Upd F A B) (hl:lb < A.heap.size) (hn:¬ F lb):KpM lb F A B:=by
 intro r
 refine ⟨h.mono (fun i _ hi => .inl hi),fun v q hv ho => ?_⟩
 rw [h.cell (p:=⟨lb,0,none⟩) hl hn] at hv
 exact ⟨Nat.lt_of_lt_of_le (r v q hv ho) h.size,fun _ => ⟨v,hv,ho⟩⟩
theorem KpM.shrink (h:KpM lb F A B) (hF:∀ q,F q→F' q ∨ A.heap.size ≤ q):KpM lb F' A B:=fun r =>
 ⟨(h r).1.mono (fun i hi ha => by
  rcases ha with ha | ha
  ·exact (hF i ha).elim .inl (fun hge => by omega)
  ·exact .inr ha),(h r).2⟩
theorem KpM.put (l:Nat) (o:Obj) (hF:F l) (hl:lb < A.heap.size) (hn:lb ≠ l):KpM lb F A (A.putObj l o):=by
 have hu:=Upd.of_grown (grownBy_putObj' A l o)
 have:=KpM.of_upd (lb:=lb) hu hl (fun e => hn (by injection e with e;exact e.symm))
 exact this.mono (fun q e => by injection e with e;subst e;exact hF)
theorem KpM.prv (h:KpM lb F A B) (r:RgM lb A) (p:Prv lb F A q):B.heap[q]? = A.heap[q]?∧Prv lb F B q:=by
 obtain ⟨u,hr⟩:=h r
 refine ⟨u.block q p.1 p.2,Nat.lt_of_lt_of_le p.1 u.size,?_⟩
 rintro (hf | ⟨v,hv,ho⟩)
 ·exact p.2 (.inl hf)
 ·exact p.2 (.inr ((hr v q hv ho).2 p.1))
theorem KpM.blk {t:TypeId} {cs:Array Value} (h:KpM lb F A B) (r:RgM lb A) (p:Prv lb F A q) (k:Blk A q t cs):Blk B q t cs:=(h.prv r p).1.trans k
theorem Prv.below (p:Prv lb F A q) (h:Below A.heap.size A B) (hl:lb < A.heap.size):Prv lb F B q:=by
 refine ⟨Nat.lt_of_lt_of_le p.1 h.size,?_⟩
 rintro (hf | ⟨v,hv,ho⟩)
 ·exact p.2 (.inl hf)
 ·rw [h.cell (p:=⟨lb,0,none⟩) hl] at hv
  exact p.2 (.inr ⟨v,hv,ho⟩)
theorem Prv.since (h:Below A.heap.size A B) (hl:lb < A.heap.size) (r:RgM lb A) (hF:∀ q,F q→q < A.heap.size) (h1:A.heap.size ≤ q) (h2:q < B.heap.size):Prv lb F B q:=by
 refine ⟨h2,?_⟩
 rintro (hf | ⟨v,hv,ho⟩)
 ·have:=hF q hf;omega
 ·rw [h.cell (p:=⟨lb,0,none⟩) hl] at hv
  have:=r v q hv ho;omega
theorem Prv.own {row:Option Nat} (p:Prv lb F A q) (hg:A.grownBy B row) (hl:lb < A.heap.size) (hn:row ≠ some lb):Prv lb F B q:=by
 refine ⟨Nat.lt_of_lt_of_le p.1 hg.size,?_⟩
 rintro (hf | ⟨v,hv,ho⟩)
 ·exact p.2 (.inl hf)
 ·rw [World.cell?_of_block (w:=A) (a:=⟨lb,0,none⟩) (hg.block lb hl (fun e => hn e.symm))] at hv
  exact p.2 (.inr ⟨v,hv,ho⟩)
theorem Prv.mono (p:Prv lb F A q) (hF:F' q→F q):Prv lb F' A q:=⟨p.1,fun h => p.2 (h.imp hF id)⟩
theorem RgM.of_none {v:Value} (h:A.cell? ⟨lb,0,none⟩ = some v) (hv:v.ownBlock = none):RgM lb A:=fun u q hu ho => by
 rw [h] at hu
 injection hu with hu
 rw [← hu,hv] at ho
 cases ho
theorem ownP_kpM {β:Type} {w:World} {G:Nat→Prop} {B:Nat} (hB:w.heap.size ≤ B) (hl:lb < w.heap.size) (r:RgM lb w):OwnP lb G B (fun (_:β) W => KpM lb F w W):=by
 intro s W W' row h hg hr _
 obtain ⟨u,hq⟩:=h r
 refine ⟨u.grown hg (fun k hk => .inr (Nat.le_trans hB (hr k hk).1)),fun v q hv ho => ?_⟩
 rw [World.cell?_of_block (w:=W) (a:=⟨lb,0,none⟩) (hg.block lb (Nat.lt_of_lt_of_le hl u.size) (fun e => by have:=(hr lb e.symm).1;omega))] at hv
 exact ⟨Nat.lt_of_lt_of_le (hq v q hv ho).1 hg.size,(hq v q hv ho).2⟩
end
def postM {α:Type} (lb:Nat) (F:Nat→Prop) (I:List α→World→Prop) (Ix:Code→List α→World→Prop) (xs:List α) (W:World):Exit→Act→World→Prop
 | .normal,_,W' => KpM lb F W W'∧I xs W'
 | .ret,_,W' => KpM lb F W W'∧Ix .ret xs W'
 | .exit id,_,W' => KpM lb F W W'∧Ix (.exit id) xs W'
 | .goto t,_,W' => KpM lb F W W'∧Ix (.goto t) xs W'
 | .panic _,_,_ => False
 | .outgrown,_,_ => False

def SeqM {α:Type} (P:Program) (gf:Nat) (cap:Array Value) (encs:α→Array Value) (Own:Nat→Prop) (S Sp:List α→Prop) (N:Nat) (w:World):Prop:=
 ∀ (l lb:Nat) (F:Nat→Prop) (J Jx:List α→World→Prop) (W:World),Below w.heap.size w W→OwnP lb F W.heap.size J→OwnP lb F W.heap.size Jx →
  lb < W.heap.size→RgM lb W→(∀ q,F q→q < W.heap.size∧¬ Own q)→(∀ v q,W.cell? ⟨lb,0,none⟩ = some v→v.ownBlock = some q→¬ Own q) →
  (∀ pre x W1,J pre W1→pre.length < N→YieldAt Fence.wide 0 P l (encs x) W1 fun e W' => KpM lb F W1 W'∧((e = .returned (.bool true)∧J (pre ++ [x]) W') ∨ (e = .returned (.bool false)∧Jx (pre ++ [x]) W'))) →
  J [] W→Calls P gf (#[.func (.yield l) #[] #[]] ++ cap) W fun e W' => (∃ v,e = .returned v)∧((∃ xs,S xs∧J xs W') ∨ (∃ pre,Sp pre∧Jx pre W'))

def LpM (lb:Nat) (F:Nat→Prop) (n₀:Nat) (r:Loop) (W:World):Prop:=
 RgM lb W∧Prv lb F W (n₀ + 1)∧Prv lb F W n₀∧W.heap[n₀ + 1]? = some (.loop r)∧W.heap[n₀]? = some (.deferred (some []))∧lb < n₀
section
variable {lb n₀:Nat} {F:Nat→Prop} {r r':Loop} {W W':World}
theorem LpM.own {row:Option Nat} (h:LpM lb F n₀ r W) (hg:W.grownBy W' row) (hr:∀ k,row = some k→n₀ + 2 ≤ k):LpM lb F n₀ r W':=by
 obtain ⟨h1,h2,h3,h4,h5,h6⟩:=h
 have hc:W'.cell? ⟨lb,0,none⟩ = W.cell? ⟨lb,0,none⟩:=World.cell?_of_block (w:=W) (a:=⟨lb,0,none⟩) (hg.block lb (by have:=h3.1;show lb < _;omega) (fun e => by have:=hr lb e.symm;omega))
 have hp:∀ q,Prv lb F W q→Prv lb F W' q:=fun q p => ⟨Nat.lt_of_lt_of_le p.1 hg.size,by
  rintro (hf | ⟨v,hv,ho⟩)
  ·exact p.2 (.inl hf)
  ·rw [hc] at hv;exact p.2 (.inr ⟨v,hv,ho⟩)⟩
 refine ⟨fun v q hv ho => ?_,hp _ h2,hp _ h3,(hg.block _ h2.1 (fun e => by have:=hr _ e.symm;omega)).trans h4,(hg.block _ h3.1 (fun e => by have:=hr _ e.symm;omega)).trans h5,h6⟩
 rw [hc] at hv
 exact Nat.lt_of_lt_of_le (h1 v q hv ho) hg.size
theorem LpM.kp (h:LpM lb F n₀ r W) (k:KpM lb F W W'):LpM lb F n₀ r W':=by
 obtain ⟨h1,h2,h3,h4,h5,h6⟩:=h
 exact ⟨k.rg h1,(k.prv h1 h2).2,(k.prv h1 h3).2,(k.prv h1 h2).1.trans h4,(k.prv h1 h3).1.trans h5,h6⟩
theorem LpM.put (h:LpM lb F n₀ r W):LpM lb F n₀ r' (W.putObj (n₀ + 1) (.loop r')):=by
 obtain ⟨h1,h2,h3,h4,h5,h6⟩:=h
 have hc:(W.putObj (n₀ + 1) (.loop r')).cell? ⟨lb,0,none⟩ = W.cell? ⟨lb,0,none⟩:=World.cell?_of_block (w:=W) (a:=⟨lb,0,none⟩) (World.putObj_heap_other (show lb ≠ n₀ + 1 by omega))
 have hp:∀ q,Prv lb F W q→Prv lb F (W.putObj (n₀ + 1) (.loop r')) q:=fun q p => ⟨by rw [World.putObj_size];exact p.1,by
  rintro (hf | ⟨v,hv,ho⟩)
  ·exact p.2 (.inl hf)
  ·rw [hc] at hv;exact p.2 (.inr ⟨v,hv,ho⟩)⟩
 refine ⟨fun v q hv ho => ?_,hp _ h2,hp _ h3,World.putObj_heap_same h2.1,(World.putObj_heap_other (by omega)).trans h5,h6⟩
 rw [hc] at hv
 rw [World.putObj_size]
 exact h1 v q hv ho
end
theorem leaves_M {P:Program} {fn:Func} {tmps:Array Value} {R:Ending→World→Prop} {F:Fence} {n:Nat} (Pd:Nat→Prop) (E:World→Prop) (hE:∀ w1 D,Pd D→E w1→E (w1.putObj D (.deferred none)))
  (hfin:∀ w1,E w1→∃ v,(results fn tmps).run P w1 = .ok v w1∧R (.returned v) w1):∀ (Ds:List Nat) (w:World),Ds.Nodup→(∀ D ∈ Ds,Pd D∧w.heap[D]? = some (.deferred (some [])))→E w→LeavesInM F n P fn tmps R (Ds.map (fun D => { target:=.collected D,args:=#[] })) .returning w
 | [],w,_,_,h => hfin w h
 | D :: Ds,w,hn,hd,h => by
  obtain ⟨h1,h2⟩:=hd D (by simp)
  rw [List.nodup_cons] at hn
  refine ⟨by simp,.inl ⟨D,_,rfl,run_takeDeferred h2,?_⟩⟩
  refine leaves_M Pd E hE hfin Ds _ hn.2 (fun D' hD' => ?_) (hE w D h1 h)
  obtain ⟨h3,h4⟩:=hd D' (by simp [hD'])
  exact ⟨h3,((grownBy_putObj' w D (.deferred none)).block D' (Array.getElem?_eq_some_iff.1 h4).1 (fun e => by injection e with e;exact hn.1 (e ▸ hD'))).trans h4⟩

theorem leaves_own {P:Program} {fn:Func} {tmps:Array Value} {R:Ending→World→Prop} {n lb B:Nat} {F:Nat→Prop} {G:Fence} (E:World→Prop) (hE:OwnP lb F B (fun (_:Unit) w => E w)) (hlb:lb < B)
  (hfin:∀ w1,E w1→∃ v,(results fn tmps).run P w1 = .ok v w1∧R (.returned v) w1) (Ds:List Nat) (w:World) (hn:Ds.Nodup) (hd:∀ D ∈ Ds,B ≤ D∧Prv lb F w D∧w.heap[D]? = some (.deferred (some []))) (hw:lb < w.heap.size) (h:E w) :
  LeavesInM G n P fn tmps R (Ds.map (fun D => { target:=.collected D,args:=#[] })) .returning w:=by
 refine leaves_M (fun D => D ∈ Ds∧B ≤ D) (fun w1 => E w1∧lb < w1.heap.size∧∀ D ∈ Ds,Prv lb F w1 D) ?_ (fun w1 h1 => hfin w1 h1.1) Ds w hn (fun D hD => ⟨⟨hD,(hd D hD).1⟩,(hd D hD).2.2⟩) ⟨h,hw,fun D hD => (hd D hD).2.1⟩
 rintro w1 D ⟨hD,hB⟩ ⟨h1,h2,h3⟩
 exact ⟨hE.put (s:=()) _ h1 hB (h3 D hD),by rw [World.putObj_size];exact h2,fun D' hD' => (h3 D' hD').own (grownBy_putObj' w1 D (.deferred none)) h2 (fun e => by injection e with e;omega)⟩

theorem wp_rangeM {α:Type} {P:Program} {g:Operand} {ps:Array Tmp} {assign body:Code} {Q:Exit→Act→World→Prop} {a:Act} {w:World}
  {gf:Nat} {cap:Array Value} (hg:a.eval g = .func (.func gf) #[] cap) (eg:∀ args w,(callFunc gf args).run P w = .ok (.enter gf args) w)
  {encs:α→Array Value} {Own:Nat→Prop} {S Sp:List α→Prop} {N:Nat} {w0:World} (hseq:SeqM P gf cap encs Own S Sp N w0) (hb0:Below w0.heap.size w0 w) (hOwn:∀ q,Own q→q < w0.heap.size) (hps:∀ x,(encs x).size = ps.size)
  (lb:Nat) (F:Nat→Prop) (hlb:lb < w.heap.size) (hr:RgM lb w) (hF:∀ q,F q→q < w.heap.size∧¬ Own q) (hrow:∀ v q,w.cell? ⟨lb,0,none⟩ = some v→v.ownBlock = some q→¬ Own q)
  (I:List α→World→Prop) (Ix:Code→List α→World→Prop) (hI:OwnP lb F w.heap.size I) (hIx:∀ c,OwnP lb F w.heap.size (Ix c)) (h0:I [] w)
  (upd:Array Value→α→Nat→Array Value) (Bx:α→Nat→World→Prop) (hBx:∀ x b,OwnFrom w.heap.size (fun (_:Unit) W => Bx x b W))
  (hassign:∀ (l:Nat) (pre:List α) (x:α) (W:World) (K:Act→World→Prop),RgM lb W→w.heap.size ≤ W.heap.size→I pre W→(∀ b W',KpM lb F W W'→I pre W'→Bx x b W'→K { tmps:=upd a.tmps x b,defers:=[] } W') →
   assign.wpIn (Fence.wide.inRound l) 0 P (Exit.then K (fun _ _ _ => False)) { tmps:=(ps.zip (encs x)).foldl (fun t (p,v) => t.setIfInBounds p v) a.tmps,defers:=[] } W)
  (hbody:∀ (l:Nat) (pre:List α) (x:α) (b:Nat) (W:World),RgM lb W→w.heap.size ≤ W.heap.size→I pre W→Bx x b W→pre.length < N →
   body.wpIn (Fence.wide.inRound l) 0 P (postM lb F I Ix (pre ++ [x]) W) { tmps:=upd a.tmps x b,defers:=[] } W)
  (hdone:∀ (xs:List α) (W:World),S xs→I xs W→RgM lb W→Prv lb F W w.heap.size→W.heap[w.heap.size]? = some (.deferred (some []))→Q .normal { a with defers:={ target:=.collected w.heap.size,args:=#[] } :: a.defers } W)
  (hstop:∀ (c:Code) (pre:List α) (W:World),Sp pre→Ix c pre W→RgM lb W→Prv lb F W w.heap.size→W.heap[w.heap.size]? = some (.deferred (some []))→c.wp P Q { a with defers:={ target:=.collected w.heap.size,args:=#[] } :: a.defers } W) :
  (Code.rangeFunc g ps assign body).wp P Q a w:=by
 refine (wpIn_wide (n:=0)).1 (wpIn_rangeFunc ?_)
 intro fn _
 let rec':LoopState→Option Code→Loop:=fun st pe => { state:=st,pending:=pe,fn,tmps:=a.tmps,params:=ps,assign,body,defers:=w.heap.size }
 obtain ⟨R,hR⟩:∃ R,R = rec':=⟨_,rfl⟩
 obtain ⟨W1,hW1⟩:∃ W1,(w.alloc (.deferred (some []))).alloc (.loop (R .ready none)) = W1:=⟨_,rfl⟩
 have hbw:Below w.heap.size w W1:=by rw [← hW1];exact ((Below.refl _ w).alloc (Nat.le_refl _) _).alloc (by simp) _
 have hz1:W1.heap.size = w.heap.size + 2:=by rw [← hW1];simp
 have hL1:LpM lb F w.heap.size (R .ready none) W1:=by
  refine ⟨(KpM.of_below (F:=F) hbw hlb).rg hr,Prv.since hbw hlb hr (fun q h => (hF q h).1) (by omega) (by omega),Prv.since hbw hlb hr (fun q h => (hF q h).1) (by omega) (by omega),?_,?_,hlb⟩
  ·rw [← hW1];have:=World.alloc_heap_new (w.alloc (.deferred (some []))) (.loop (R .ready none));rwa [World.size_alloc] at this
  ·rw [← hW1];exact (Below.heap_alloc _ _ _ (by simp)).trans (World.alloc_heap_new w _)
 have hI1:I [] W1:=by rw [← hW1];exact hI.alloc _ (hI.alloc _ h0)
 have hc1:W1.cell? ⟨lb,0,none⟩ = w.cell? ⟨lb,0,none⟩:=hbw.cell (p:=⟨lb,0,none⟩) hlb
 refine ⟨w.heap.size + 1,[{ target:=.collected w.heap.size,args:=#[] }],W1,{ target:=.fn (.func gf) cap,args:=#[.func (.yield (w.heap.size + 1)) #[] #[]] },W1,gf,
  #[.func (.yield (w.heap.size + 1)) #[] #[]] ++ cap,W1,?_,?_,fun _ _ => trivial,?_,fun h => by simp [Fence.wide] at h,?_⟩
 ·rw [← hW1,hR];exact run_enterLoop_outer _ _ _ _ _
 ·simp only [resolve,hg]
  simp [go_sem]
 ·simp [invoke,go_sem,eg]
 refine callsIn_wide.2 ((hseq (w.heap.size + 1) lb (fun q => F q ∨ q = w.heap.size + 1)
  (fun pre W => (I pre W∧w.heap.size ≤ W.heap.size)∧LpM lb F w.heap.size (R .ready none) W)
  (fun pre W => ∃ c,(Ix c pre W∧w.heap.size ≤ W.heap.size)∧LpM lb F w.heap.size (R .done (some c)) W) W1 (hb0.trans (hbw.mono hb0.size))
  ?_ ?_ (by omega) hL1.1 ?_ ?_ ?_ ⟨⟨hI1,by omega⟩,hL1⟩).mono ?_)
 ·rintro s A B row ⟨⟨h1,h2⟩,h3⟩ hg hrr
  exact ⟨⟨hI s A B row h1 hg (fun k hk => ⟨by have:=(hrr k hk).1;omega,(hrr k hk).2.mono .inl⟩),Nat.le_trans h2 hg.size⟩,h3.own hg (fun k hk => by have:=(hrr k hk).1;omega)⟩
 ·rintro s A B row ⟨c,⟨h1,h2⟩,h3⟩ hg hrr
  exact ⟨c,⟨hIx c s A B row h1 hg (fun k hk => ⟨by have:=(hrr k hk).1;omega,(hrr k hk).2.mono .inl⟩),Nat.le_trans h2 hg.size⟩,h3.own hg (fun k hk => by have:=(hrr k hk).1;omega)⟩
 ·rintro q (hq | rfl)
  ·exact ⟨by have:=(hF q hq).1;omega,(hF q hq).2⟩
  ·exact ⟨by omega,fun ho => by have h1:=hOwn _ ho;have:=hb0.size;omega⟩
 ·intro v q hv ho
  rw [hc1] at hv
  exact hrow v q hv ho
 ·-- one round
  rintro pre x W ⟨⟨hi,hsz⟩,hl⟩ hlen
  have hy:=run_yield (P:=P) (args:=encs x) hl.2.2.2.1 (by rw [hR];exact hps x)
  rw [hR] at hy
  refine ⟨fn,_,assign,body,hy,roundIn_of_wpIn trivial (hassign _ pre x W _ hl.1 hsz hi ?_)⟩
  clear hy
  intro b Wa hka hia hbx
  have hla:=hl.kp hka
  have hsa:=Nat.le_trans hsz (hka.size hl.1)
  refine ⟨_,run_beginRound hla.2.2.2.1 (by rw [hR]),?_⟩
  have hlb1:LpM lb F w.heap.size { R .ready none with state:=.busy } (Wa.putObj (w.heap.size + 1) (.loop { R .ready none with state:=.busy })):=hla.put
  have hib:=hI.put (.loop { R .ready none with state:=.busy }) hia (Nat.le_succ w.heap.size) hla.2.1
  have hbb:=(hBx x b).putObj (s:=()) (.loop { R .ready none with state:=.busy }) hbx (Nat.le_succ w.heap.size) hla.2.2.2.1 rfl
  have hkb:KpM lb (fun q => F q ∨ q = w.heap.size + 1) W (Wa.putObj (w.heap.size + 1) (.loop { R .ready none with state:=.busy })):=
   (hka.mono (fun _ h => .inl h)).trans (KpM.put _ _ (.inr rfl) (by omega) (by omega))
  have hsb:w.heap.size ≤ (Wa.putObj (w.heap.size + 1) (.loop { R .ready none with state:=.busy })).heap.size:=by rw [World.putObj_size];exact hsa
  revert hlb1 hib hbb hkb hsb
  generalize Wa.putObj (w.heap.size + 1) (.loop { R .ready none with state:=.busy }) = Wb
  intro hlb1 hib hbb hkb hsb
  refine wpIn_mono (hbody _ pre x b Wb hlb1.1 hsb hib hbb hlen) ?_
  have fin:∀ (jump:Option Code) (W3:World),KpM lb F Wb W3→∃ W4,(Instr.endRound (w.heap.size + 1) jump).run P W3 = .ok (.bool jump.isNone) W4 ∧
    LpM lb F w.heap.size (R (if jump.isNone then .ready else .done) jump) W4∧KpM lb (fun q => F q ∨ q = w.heap.size + 1) W W4∧w.heap.size ≤ W4.heap.size∧(∀ c,Ix c (pre ++ [x]) W3→Ix c (pre ++ [x]) W4)∧(I (pre ++ [x]) W3→I (pre ++ [x]) W4):=by
   intro jump W3 hk3
   have hl3:=hlb1.kp hk3
   have h3:=run_endRound (P:=P) jump hl3.2.2.2.1
   have hs3:=Nat.le_trans hsb (hk3.size hlb1.1)
   refine ⟨_,h3,?_,?_,by rw [World.putObj_size];exact hs3,fun c hc => (hIx c).put _ hc (Nat.le_succ _) hl3.2.1,fun hc => hI.put _ hc (Nat.le_succ _) hl3.2.1⟩
   ·have:=hl3.put (r':={ R .ready none with state:=(if jump.isNone then .ready else .done),pending:=jump })
    rw [hR] at this ⊢
    exact this
   ·exact hkb.trans ((hk3.mono (fun _ h => .inl h)).trans (KpM.put _ _ (.inr rfl) (by omega) (by omega)))
  rintro e a3 W3 hp
  cases e with
  | normal =>
   obtain ⟨W4,h1,h2,h3,h4,_,h6⟩:=fin none W3 hp.1
   exact ⟨_,_,h1,h3,.inl ⟨rfl,⟨h6 hp.2,h4⟩,h2⟩⟩
  | ret =>
   obtain ⟨W4,h1,h2,h3,h4,h5,_⟩:=fin (some .ret) W3 hp.1
   exact ⟨_,_,h1,h3,.inr ⟨rfl,.ret,⟨h5 _ hp.2,h4⟩,h2⟩⟩
  | exit id =>
   obtain ⟨W4,h1,h2,h3,h4,h5,_⟩:=fin (some (.exit id)) W3 hp.1
   exact ⟨_,_,h1,h3,.inr ⟨rfl,.exit id,⟨h5 _ hp.2,h4⟩,h2⟩⟩
  | goto t =>
   obtain ⟨W4,h1,h2,h3,h4,h5,_⟩:=fin (some (.goto t)) W3 hp.1
   exact ⟨_,_,h1,h3,.inr ⟨rfl,.goto t,⟨h5 _ hp.2,h4⟩,h2⟩⟩
  | panic ch => exact hp.elim
  | outgrown => exact hp.elim
 ·-- behind the iterator
  rintro e W2 ⟨⟨v,rfl⟩,(⟨xs,hS,⟨hi,hs⟩,hl⟩ | ⟨pre,hSp,c,⟨hi,hs⟩,hl⟩)⟩
  ·have h3:=run_endLoop (P:=P) hl.2.2.2.1 (by rw [hR];simp)
   have hl4:=hl.put (r':={ R .ready none with state:=.exhausted })
   rw [hR] at h3
   rw [hR] at hl4
   exact ⟨none,_,h3,hdone xs _ hS (hI.put _ hi (Nat.le_succ _) hl.2.1) hl4.1 hl4.2.2.1 hl4.2.2.2.2.1⟩
  ·have h3:=run_endLoop (P:=P) hl.2.2.2.1 (by rw [hR];simp)
   have hl4:=hl.put (r':={ R .done (some c) with state:=.exhausted })
   rw [hR] at h3
   rw [hR] at hl4
   exact ⟨some c,_,h3,wpIn_wide.2 (hstop c pre _ hSp ((hIx c).put _ hi (Nat.le_succ _) hl.2.1) hl4.1 hl4.2.2.1 hl4.2.2.2.2.1)⟩
end Go.Proofs.YtddffnonlmfhdaaGreatDoor
