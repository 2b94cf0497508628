/- Matrices of bits in memory, whose cells lie in the first block; New; Matrices of bits: is, in, Side, Len, leaf, Get; Matrices of bits: Get; Blocks of bits: Of, of one cell; Blocks of bits: two held against one another; Matrices of bits: their rows as they grow; Matrices of bits: grow, at the corner; Matrices of bits: grow, at the corner, without a leaf; Blocks of bits: how many cells an union has; a row of blocks written over (the plain law); Matrices of bits: or, at the corner. -/
import Derived.Test.YtddffnonlmfhdaaGreatDoorW04
import Derived.Test.YtddffnonlmfhdaaGreatDoorW05
import Derived.ChangeKeysEq
import Derived.Test.YtddffnonlmfhdaaGreatDoorW03
set_option linter.unusedVariables false
set_option linter.unusedSimpArgs false
set_option maxHeartbeats 16000000
set_option maxRecDepth 100000
namespace Go.Proofs.YtddffnonlmfhdaaGreatDoor
open Go.RowKit
def four (x:Int):List Value:=[.int .i64 x,.int .i64 0,.int .i64 0,.int .i64 0]
def qsC (m:Nat) (last:Int):List Value:=((List.range m).flatMap fun (i:Nat) => four ((i:Int) + 2)) ++ four last
def lfC (L:List (List Nat)):List Value:=L.flatMap wdC
inductive QRo
 | p | a | l
structure QuI (w:World) (O:Nat→Option QRo) (p:Nat) (side dep cnt:Nat) (m:Nat) (last:Int) (L:List (List Nat)) (pv lv:Value):Prop where
 blk:Blk w p 179 #[.int .i64 (side:Int),.int .i64 (dep:Int),.int .i64 (cnt:Int),pv,lv]
 rp:w.ownsRow 0 225 4 pv (m + 1) (qsC m last)
 rl:w.ownsRow 0 168 64 lv L.length (lfC L)
 op:O p = some .p
 oa:∀ k,pv.ownBlock = some k→O k = some .a
 ol:∀ k,lv.ownBlock = some k→O k = some .l
 lt:∀ k,O k ≠ none→k < w.heap.size
structure QuOk (side dep cnt m:Nat) (last:Int) (L:List (List Nat)) (b:Option (List Nat)):Prop where
 s1:1 ≤ side
 s2:side ≤ 1024
 d1:1 ≤ dep
 d2:dep ≤ 4
 no:b = none→m = 0∧last = 0∧L = []∧cnt = 0
 is:∀ r,b = some r→m + 1 = dep∧last = 1∧L = [r]∧cnt = lenB r∧Wd r
def QuS (w:World) (F:Nat→Prop) (p side:Nat) (b:Option (List Nat)):Prop:=∃ O dep cnt m last L pv lv,QuI w O p side dep cnt m last L pv lv∧QuOk side dep cnt m last L b∧F = fun k => O k ≠ none
theorem QuI.upd {w w':World} {O:Nat→Option QRo} {p side dep cnt m:Nat} {last:Int} {L:List (List Nat)} {pv lv:Value} {G:Nat→Prop} (h:QuI w O p side dep cnt m last L pv lv) (hu:Upd G w w') (hd:∀ k,O k ≠ none→¬ G k):QuI w' O p side dep cnt m last L pv lv:=by
 have no:∀ k t,O k = some t→¬ G k:=fun k t e => hd k (by simp [e])
 exact ⟨h.blk.upd hu (no _ _ h.op),ownsRow_upd h.rp hu fun k hk => no _ _ (h.oa k hk),ownsRow_upd h.rl hu fun k hk => no _ _ (h.ol k hk),h.op,h.oa,h.ol,fun k hk => Nat.lt_of_lt_of_le (h.lt k hk) hu.size⟩
theorem QuS.upd {w w':World} {F G:Nat→Prop} {p side:Nat} {b:Option (List Nat)} (h:QuS w F p side b) (hu:Upd G w w') (hd:∀ k,F k→¬ G k):QuS w' F p side b:=by
 obtain ⟨O,dep,cnt,m,last,L,pv,lv,hs,ok,rfl⟩:=h
 exact ⟨O,dep,cnt,m,last,L,pv,lv,hs.upd hu hd,ok,rfl⟩
theorem QuS.below {w w':World} {F:Nat→Prop} {p side:Nat} {b:Option (List Nat)} (h:QuS w F p side b) (hb:Below w.heap.size w w'):QuS w' F p side b:=h.upd (Upd.of_below hb (fun _ => False)) (fun _ _ => id)
theorem QuS.lt {w:World} {F:Nat→Prop} {p side:Nat} {b:Option (List Nat)} (h:QuS w F p side b):∀ k,F k→k < w.heap.size:=by
 obtain ⟨O,dep,cnt,m,last,L,pv,lv,hs,ok,rfl⟩:=h
 exact hs.lt
theorem QuI.no {w:World} {O:Nat→Option QRo} {p side dep cnt m:Nat} {last:Int} {L:List (List Nat)} {pv lv:Value} (h:QuI w O p side dep cnt m last L pv lv):(∀ k,pv.ownBlock = some k→¬ k = p)∧(∀ k,lv.ownBlock = some k→¬ k = p)∧∀ k,pv.ownBlock = some k→¬ lv.ownBlock = some k:=
 ⟨fun k hk e => (by have:=h.oa k hk;rw [e,h.op] at this;cases this),fun k hk e => (by have:=h.ol k hk;rw [e,h.op] at this;cases this),fun k hk e => by have:=h.oa k hk;rw [h.ol k e] at this;cases this⟩
theorem QuI.setD {w:World} {O:Nat→Option QRo} {p side dep cnt m:Nat} {last:Int} {L:List (List Nat)} {pv lv:Value} (h:QuI w O p side dep cnt m last L pv lv) (d':Nat):QuI (w.setCell ⟨p,1,none⟩ (.int .i64 (d':Int))) O p side d' cnt m last L pv lv:=by
 have us:=(Upd.refl (fun k => k = p) w).setCell (p:=⟨p,1,none⟩) (.inl rfl) (.int .i64 (d':Int))
 exact ⟨h.blk.set 1 _,ownsRow_upd h.rp us h.no.1,ownsRow_upd h.rl us h.no.2.1,h.op,h.oa,h.ol,fun k hk => Nat.lt_of_lt_of_le (h.lt k hk) us.size⟩
theorem QuI.setC {w:World} {O:Nat→Option QRo} {p side dep cnt m:Nat} {last:Int} {L:List (List Nat)} {pv lv:Value} (h:QuI w O p side dep cnt m last L pv lv) (c':Nat):QuI (w.setCell ⟨p,2,none⟩ (.int .i64 (c':Int))) O p side dep c' m last L pv lv:=by
 have us:=(Upd.refl (fun k => k = p) w).setCell (p:=⟨p,2,none⟩) (.inl rfl) (.int .i64 (c':Int))
 exact ⟨h.blk.set 2 _,ownsRow_upd h.rp us h.no.1,ownsRow_upd h.rl us h.no.2.1,h.op,h.oa,h.ol,fun k hk => Nat.lt_of_lt_of_le (h.lt k hk) us.size⟩
def QFresh (B p side:Nat) (b:Option (List Nat)) (w':World):Prop:=∃ F,QuS w' F p side b∧∀ k,F k→B ≤ k
theorem qnew_fin (w:World) (side:Nat):QuI ((w.alloc (.cells #[.int .i64 0,.int .i64 0,.int .i64 0,.int .i64 0] 225)).alloc (.cells #[.int .i64 (side:Int),.int .i64 1,.int .i64 0,.slice (some ⟨w.heap.size,0,none⟩) 1 1,.slice none 0 0] 179)) (fun k => if k = w.heap.size + 1 then some QRo.p else if k = w.heap.size then some QRo.a else none) (w.heap.size + 1) side 1 0 0 0 [] (.slice (some ⟨w.heap.size,0,none⟩) 1 1) (.slice none 0 0):=by
 have k1:=Blk.new (w.alloc (.cells #[.int .i64 0,.int .i64 0,.int .i64 0,.int .i64 0] 225)) 179 #[.int .i64 (side:Int),.int .i64 1,.int .i64 0,.slice (some ⟨w.heap.size,0,none⟩) 1 1,.slice none 0 0]
 have hz:(w.alloc (.cells #[.int .i64 0,.int .i64 0,.int .i64 0,.int .i64 0] 225)).heap.size = w.heap.size + 1:=by simp
 rw [hz] at k1
 refine ⟨k1,?_,World.ownsRow_nil _ _ _ _,if_pos rfl,?_,?_,?_⟩
 ·have own:(w.alloc (.cells #[.int .i64 0,.int .i64 0,.int .i64 0,.int .i64 0] 225)).ownsRow 0 225 4 (.slice (some ⟨w.heap.size,0,none⟩) 1 1) (0 + 1) (qsC 0 0):=⟨rfl,.inr ⟨w.heap.size,1,#[.int .i64 0,.int .i64 0,.int .i64 0,.int .i64 0],rfl,Nat.zero_le _,heap_alloc_new w _,Nat.le_refl _,by decide,rfl,rfl⟩⟩
  exact own.alloc _
 ·intro k hk
  simp [Value.ownBlock] at hk
  subst hk
  rw [if_neg (by omega),if_pos rfl]
 ·intro k hk;simp [Value.ownBlock] at hk
 ·intro k hk
  simp only [World.size_alloc] at *
  split at hk
  ·omega
  split at hk
  ·omega
  ·exact absurd rfl hk
theorem info_four:(Tryz.prog.info? 225).map (fun i => (i.zero,i.size,i.bytes)) = some (some (.agg #[.int .i64 0,.int .i64 0,.int .i64 0,.int .i64 0]),4,32):=by kernel_rfl
theorem mk_parts (w:World):(Instr.makeSlice 176 (.int .i64 1) (.int .i64 1)).run Tryz.prog w = .ok (.slice (some ⟨w.heap.size,0,none⟩) 1 1) (w.alloc (.cells #[.int .i64 0,.int .i64 0,.int .i64 0,.int .i64 0] 225)):=by
 obtain ⟨i0,hi0,hz0,hz1,hz2⟩:=info_parts info_four
 have hr:=run_make (P:=Tryz.prog) w 176 225 i0 _ Tryz.underlying176 hi0 hz0 .i64 .i64 1 1 (by omega) (Int.le_refl _) (by rw [hz2];omega) (by omega)
 rw [hz1] at hr
 have e:madeCells (Value.agg #[.int .i64 0,.int .i64 0,.int .i64 0,.int .i64 0]).cells (Int.toNat 1 * 4) = #[.int .i64 0,.int .i64 0,.int .i64 0,.int .i64 0]:=by kernel_rfl
 rw [e] at hr
 exact hr
def QMade (w:World) (side:Nat) (e:Ending) (w':World):Prop:=∃ p,e = .returned (.tuple #[.pointer (some ⟨p,0,none⟩),.int .i64 0])∧QFresh w.heap.size p side none w'∧Below w.heap.size w w'
theorem qnew_any (w:World) (side:Nat) (h1:1 ≤ side) (h2:side ≤ 1024):Calls Tryz.prog 70 #[.int .i64 (side:Int)] w (QMade w side):=by
 have hz:((w.alloc (.cells #[.int .i64 0,.int .i64 0,.int .i64 0,.int .i64 0] 225)).alloc (.cells #[.int .i64 (side:Int),.int .i64 1,.int .i64 0,.slice (some ⟨w.heap.size,0,none⟩) 1 1,.slice none 0 0] 179)).heap.size = w.heap.size + 1 + 1:=by simp
 have u0:Below w.heap.size w ((w.alloc (.cells #[.int .i64 0,.int .i64 0,.int .i64 0,.int .i64 0] 225)).alloc (.cells #[.int .i64 (side:Int),.int .i64 1,.int .i64 0,.slice (some ⟨w.heap.size,0,none⟩) 1 1,.slice none 0 0] 179)):=by (repeat (first | exact Below.refl _ _ | apply Below.drew | refine Below.alloc ?_ (by first | exact Nat.le_refl _ | (simp;done) | (simp;omega)) _ | refine Below.setCell ?_ (by first | exact Nat.le_refl _ | (simp;done) | (simp;omega)) _))
 have H:=Lib.hid (And.intro (qnew_fin w side) u0)
 have t1:¬ ((side:Int) < 1):=by omega
 have t2:¬ ((1024:Int) < (side:Int)):=by omega
 clear u0 hz
 go_enter Tryz.func70,Tryz.ntmps70
 have hmk:=mk_parts w
 go_upto_region 4 with (fail)
 generalize (w.alloc (.cells #[.int .i64 0,.int .i64 0,.int .i64 0,.int .i64 0] 225)).alloc (.cells #[.int .i64 (side:Int),.int .i64 1,.int .i64 0,.slice (some ⟨w.heap.size,0,none⟩) 1 1,.slice none 0 0] 179) = W0 at H ⊢
 clear hmk
 go_loopw [] (fun wr => ∃ d:Nat,1 ≤ d∧d ≤ 4∧Hid (QuI wr (fun k => if k = w.heap.size + 1 then some QRo.p else if k = w.heap.size then some QRo.a else none) (w.heap.size + 1) side d 0 0 0 [] (.slice (some ⟨w.heap.size,0,none⟩) 1 1) (.slice none 0 0))∧Hid (Below w.heap.size w wr)) (fun wr => 4 - (match wr.cell? ⟨w.heap.size + 1,1,none⟩ with | some v => (intOf v).toNat | none => 0))
 case atStart => exact ⟨1,Nat.le_refl _,by decide,Lib.hid H.out.1,Lib.hid H.out.2⟩
 case round =>
  obtain ⟨d,hd1,hd4,hq,hbw⟩:=hrel
  have hlo:∀ k,(if k = w.heap.size + 1 then some QRo.p else if k = w.heap.size then some QRo.a else none) ≠ none→w.heap.size ≤ k:=fun k hk => by
   split at hk
   ·omega
   split at hk
   ·omega
   ·exact absurd rfl hk
  have hd:d = 1 ∨ d = 2 ∨ d = 3 ∨ d = 4:=by omega
  rcases hd with rfl | rfl | rfl | rfl
  ·have q1:wr.cell? ⟨w.heap.size + 1,1,none⟩ = some (.int .i64 1):=hq.out.blk.cell 1
   have f1:=hq.out.blk.frozen 1
   have HN:=Lib.hid (hq.out.setD 2)
   have HB:=Lib.hid (hbw.out.trans (((Upd.refl (fun k => k = w.heap.size + 1) wr).setCell (p:=⟨w.heap.size + 1,1,none⟩) (.inl rfl) (.int .i64 ((2:Nat):Int))).below (fun k _ e => by omega) hbw.out.size))
   by_cases hlt:(128:Int) < (side:Int)
   ·go_wp2
    go_roundw
    case rel => exact ⟨2,by decide,by decide,HN,HB⟩
    case measure =>
     have:=show (wr.setCell ⟨w.heap.size + 1,1,none⟩ (.int .i64 2)).cell? ⟨w.heap.size + 1,1,none⟩ = some (.int .i64 2) from HN.out.blk.cell 1
     simp [q1,intOf,this]
   ·have FIN:=Lib.hid (show QMade w side (.returned (.tuple #[.pointer (some ⟨w.heap.size + 1,0,none⟩),.int .i64 0])) wr from ⟨_,rfl,⟨_,⟨_,_,_,_,_,_,_,_,hq.out,⟨h1,h2,by decide,by decide,fun _ => ⟨rfl,rfl,rfl,rfl⟩,fun _ e => by cases e⟩,rfl⟩,hlo⟩,hbw.out⟩)
    clear HN HB hq hbw
    go_wp2
    refine bodyPost_ret (v:=.tuple #[.pointer (some ⟨w.heap.size + 1,0,none⟩),.int .i64 0]) (by simp [results,Tryz.f70,go_sem]) rfl FIN.out
  ·have q1:wr.cell? ⟨w.heap.size + 1,1,none⟩ = some (.int .i64 2):=hq.out.blk.cell 1
   have f1:=hq.out.blk.frozen 1
   have HN:=Lib.hid (hq.out.setD 3)
   have HB:=Lib.hid (hbw.out.trans (((Upd.refl (fun k => k = w.heap.size + 1) wr).setCell (p:=⟨w.heap.size + 1,1,none⟩) (.inl rfl) (.int .i64 ((3:Nat):Int))).below (fun k _ e => by omega) hbw.out.size))
   by_cases hlt:(256:Int) < (side:Int)
   ·go_wp2
    go_roundw
    case rel => exact ⟨3,by decide,by decide,HN,HB⟩
    case measure =>
     have:=show (wr.setCell ⟨w.heap.size + 1,1,none⟩ (.int .i64 3)).cell? ⟨w.heap.size + 1,1,none⟩ = some (.int .i64 3) from HN.out.blk.cell 1
     simp [q1,intOf,this]
   ·have FIN:=Lib.hid (show QMade w side (.returned (.tuple #[.pointer (some ⟨w.heap.size + 1,0,none⟩),.int .i64 0])) wr from ⟨_,rfl,⟨_,⟨_,_,_,_,_,_,_,_,hq.out,⟨h1,h2,by decide,by decide,fun _ => ⟨rfl,rfl,rfl,rfl⟩,fun _ e => by cases e⟩,rfl⟩,hlo⟩,hbw.out⟩)
    clear HN HB hq hbw
    go_wp2
    refine bodyPost_ret (v:=.tuple #[.pointer (some ⟨w.heap.size + 1,0,none⟩),.int .i64 0]) (by simp [results,Tryz.f70,go_sem]) rfl FIN.out
  ·have q1:wr.cell? ⟨w.heap.size + 1,1,none⟩ = some (.int .i64 3):=hq.out.blk.cell 1
   have f1:=hq.out.blk.frozen 1
   have HN:=Lib.hid (hq.out.setD 4)
   have HB:=Lib.hid (hbw.out.trans (((Upd.refl (fun k => k = w.heap.size + 1) wr).setCell (p:=⟨w.heap.size + 1,1,none⟩) (.inl rfl) (.int .i64 ((4:Nat):Int))).below (fun k _ e => by omega) hbw.out.size))
   by_cases hlt:(512:Int) < (side:Int)
   ·go_wp2
    go_roundw
    case rel => exact ⟨4,by decide,by decide,HN,HB⟩
    case measure =>
     have:=show (wr.setCell ⟨w.heap.size + 1,1,none⟩ (.int .i64 4)).cell? ⟨w.heap.size + 1,1,none⟩ = some (.int .i64 4) from HN.out.blk.cell 1
     simp [q1,intOf,this]
   ·have FIN:=Lib.hid (show QMade w side (.returned (.tuple #[.pointer (some ⟨w.heap.size + 1,0,none⟩),.int .i64 0])) wr from ⟨_,rfl,⟨_,⟨_,_,_,_,_,_,_,_,hq.out,⟨h1,h2,by decide,by decide,fun _ => ⟨rfl,rfl,rfl,rfl⟩,fun _ e => by cases e⟩,rfl⟩,hlo⟩,hbw.out⟩)
    clear HN HB hq hbw
    go_wp2
    refine bodyPost_ret (v:=.tuple #[.pointer (some ⟨w.heap.size + 1,0,none⟩),.int .i64 0]) (by simp [results,Tryz.f70,go_sem]) rfl FIN.out
  ·have q1:wr.cell? ⟨w.heap.size + 1,1,none⟩ = some (.int .i64 4):=hq.out.blk.cell 1
   have FIN:=Lib.hid (show QMade w side (.returned (.tuple #[.pointer (some ⟨w.heap.size + 1,0,none⟩),.int .i64 0])) wr from ⟨_,rfl,⟨_,⟨_,_,_,_,_,_,_,_,hq.out,⟨h1,h2,by decide,by decide,fun _ => ⟨rfl,rfl,rfl,rfl⟩,fun _ e => by cases e⟩,rfl⟩,hlo⟩,hbw.out⟩)
   clear hq hbw
   go_wp2
   refine bodyPost_ret (v:=.tuple #[.pointer (some ⟨w.heap.size + 1,0,none⟩),.int .i64 0]) (by simp [results,Tryz.f70,go_sem]) rfl FIN.out
end Go.Proofs.YtddffnonlmfhdaaGreatDoor
namespace Go.Proofs.YtddffnonlmfhdaaGreatDoor
open Go.RowKit
theorem qsC_in {m k:Nat} {last:Int} (h:k < m):(qsC m last)[k * 4]? = some (.int .i64 ((k:Int) + 2)):=by
 have hl:((List.range m).flatMap fun (i:Nat) => four ((i:Int) + 2)).length = m * 4:=by rw [flat_len _ 4 (fun _ => rfl),List.length_range]
 unfold qsC
 rw [List.getElem?_append_left (by omega)]
 have:=flat_get (fun (i:Nat) => four ((i:Int) + 2)) 4 (fun _ => rfl) (List.range m) k 0 k (by simp [h]) (by decide)
 rw [Nat.add_zero] at this
 rw [this]
 rfl
theorem qsC_last {m:Nat} {last:Int}:(qsC m last)[m * 4]? = some (.int .i64 last):=by
 have hl:((List.range m).flatMap fun (i:Nat) => four ((i:Int) + 2)).length = m * 4:=by rw [flat_len _ 4 (fun _ => rfl),List.length_range]
 unfold qsC
 rw [List.getElem?_append_right (by omega),hl,Nat.sub_self]
 rfl
theorem qis_any (w:World) (p side:Nat) (hs:1 ≤ side) (q0:w.cell? ⟨p,0,none⟩ = some (.int .i64 (side:Int))):Calls Tryz.prog 115 #[.pointer (some ⟨p,0,none⟩)] w (Only w (.bool true)):=by
 have h0:0 < side:=by omega
 go_enter Tryz.func115,Tryz.ntmps115
 go_wp2
 go_ret
 exact ⟨rfl,rfl⟩
theorem qin_any (w:World) (p side i:Nat) (hs:i < side) (q0:w.cell? ⟨p,0,none⟩ = some (.int .i64 (side:Int))):Calls Tryz.prog 116 #[.pointer (some ⟨p,0,none⟩),.int .i64 (i:Int)] w (Only w (.bool true)):=by
 have h0:(0:Int) ≤ (i:Int):=by omega
 have h1:(i:Int) < (side:Int):=by omega
 go_enter Tryz.func116,Tryz.ntmps116
 go_wp2
 go_ret
 exact ⟨rfl,rfl⟩
theorem qside_any (w:World) (p side:Nat) (hs:1 ≤ side) (q0:w.cell? ⟨p,0,none⟩ = some (.int .i64 (side:Int))):Calls Tryz.prog 104 #[.pointer (some ⟨p,0,none⟩)] w (Only w (.int .i64 (side:Int))):=by
 go_enter Tryz.func104,Tryz.ntmps104
 go_wp2_with fail
 refine (qis_any w p side hs q0).mono ?_
 rintro e w' ⟨rfl,hw⟩
 subst w'
 go_wp2
 go_ret
 exact ⟨rfl,rfl⟩
theorem qlen_any (w:World) (p side cnt:Nat) (hs:1 ≤ side) (q0:w.cell? ⟨p,0,none⟩ = some (.int .i64 (side:Int))) (q2:w.cell? ⟨p,2,none⟩ = some (.int .i64 (cnt:Int))):Calls Tryz.prog 77 #[.pointer (some ⟨p,0,none⟩)] w (Only w (.int .i64 (cnt:Int))):=by
 go_enter Tryz.func77,Tryz.ntmps77
 go_wp2_with fail
 refine (qis_any w p side hs q0).mono ?_
 rintro e w' ⟨rfl,hw⟩
 subst w'
 go_wp2
 go_ret
 exact ⟨rfl,rfl⟩
theorem leaf_any (w:World) (O:Nat→Option QRo) (p side dep cnt m:Nat) (last:Int) (L:List (List Nat)) (pv lv:Value) (h:QuI w O p side dep cnt m last L pv lv) (hd:m < dep) (hd4:dep ≤ 4) (hl:last = 0∧m = 0 ∨ last = 1∧m + 1 = dep) :
  Calls Tryz.prog 117 #[.pointer (some ⟨p,0,none⟩),.int .i64 0,.int .i64 0] w (Sam w (.int .i64 last)):=by
 have q1:w.cell? ⟨p,1,none⟩ = some (.int .i64 (dep:Int)):=h.blk.cell 1
 obtain ⟨pg,pc,e,-,-,-,-,hc⟩:=own_cells h.rp (by omega)
 subst e
 have SR:=Lib.hid (show ∀ W,Below w.heap.size w W→∀ k,k ≤ m→W.cell? ⟨p,3,none⟩ = some (.slice (some ⟨pg,0,none⟩) (m + 1) pc)∧W.cell? ⟨pg,k * 4,none⟩ = some (.int .i64 (if k < m then (k:Int) + 2 else last)) from fun W hb k hk => by
  have hi:=h.upd (Upd.of_below hb (fun _ => False)) (fun _ _ => id)
  refine ⟨hi.blk.cell 3,?_⟩
  have hcc:=(own_cells hi.rp (by omega))
  obtain ⟨g',c',e',-,-,-,-,hc'⟩:=hcc
  injection e' with e'
  injection e' with e'
  injection e' with e'
  subst e'
  by_cases hkm:k < m
  ·rw [if_pos hkm]
   exact (hc' _ _ (qsC_in hkm)).1
  ·obtain rfl:k = m:=by omega
   rw [if_neg hkm]
   exact (hc' _ _ qsC_last).1)
 obtain ⟨n,hn⟩:∃ n,m + 1 = n:=⟨_,rfl⟩
 rw [hn] at SR
 have hw1:IntKind.i64.wrap ((dep:Int) - 1) = (dep:Int) - 1:=by rw [IntKind.wrap_i64];omega
 clear h hc
 go_enter Tryz.func117,Tryz.ntmps117
 go_wp2_with fail
 clear q1
 go_loopw [7,8] (fun a l wr => ∃ k:Nat,k ≤ m∧a = .int .i64 k∧l = .int .i64 ((dep:Int) - 1 - k)∧Hid (Below w.heap.size w wr)) (fun _ l _ => (intOf l + 1).toNat)
 case atStart => exact ⟨0,Nat.zero_le _,rfl,by simp,Lib.hid (Below.refl _ _)⟩
 case round =>
  obtain ⟨k,hk,rfl,rfl,hb⟩:=hrel
  obtain ⟨l,hl0⟩:∃ l:Nat,(dep:Int) - 1 - (k:Int) = (l:Int):=⟨dep - 1 - k,by omega⟩
  rw [hl0]
  have hl10:l ≤ 10:=by omega
  have hge:(0:Int) ≤ (l:Int):=by omega
  have hkn:(k:Int) < (n:Int):=by omega
  have hS:=SR.out wr.drew hb.out.drew k hk
  have hwy:=way_any l hl10 wr.drew
  have HB:=Lib.hid hb.out.drew
  clear hb
  go_upto_region 5 with (fail)
  refine wp_region_ord (fun W => W.cell? ⟨p,3,none⟩ = some (.slice (some ⟨pg,0,none⟩) n pc)∧W.cell? ⟨pg,k * 4,none⟩ = some (.int .i64 (if k < m then (k:Int) + 2 else last))) 13 [(0,true),(1,true),(2,true),(3,true),(4,true),(5,true),(6,true),(7,true),(9,true),(8,false),(10,true),(11,true),(12,true)] (by kernel_rfl) (by kernel_rfl) (fun _ _ d _ _ h => by cases d <;> exact h) hS ?_
  generalize wr.drew = V0 at hS hwy HB ⊢
  iterate 9 (refine ord_takeA rfl ?_;(try simp only [Act.put,gA,gS,gZ,sA,sZ,sS]))
  refine ord_do rfl rfl (fun K hK => ?_)
  go_simp
  refine hwy.mono ?_
  clear hwy
  rintro e V1 ⟨rfl,b1⟩
  have HB1:=Lib.hid (HB.out.trans (b1.mono HB.out.size))
  have hS:=SR.out V1 HB1.out k hk
  refine hK _ _ (fun _ => hS) ?_
  clear hK K b1
  (try simp only [Act.put,gA,gS,gZ,sA,sZ,sS])
  iterate 3 (refine ord_takeA rfl ?_;(try simp only [Act.put,gA,gS,gZ,sA,sZ,sS]))
  refine ord_done ?_
  clear hS
  by_cases hkm:k < m
  ·rw [if_pos hkm]
   have z0:((k:Int) + 2 == 0) = false:=by simp;omega
   have z1:((l:Int) == 0) = false:=by
    have:l ≠ 0:=by omega
    simpa using this
   have w0:IntKind.i64.wrap ((k:Int) + 1) = (k:Int) + 1:=IntWalk.i64_in _ (by omega)
   have w1:IntKind.i64.wrap ((l:Int) - 1) = (l:Int) - 1:=by rw [IntKind.wrap_i64];omega
   go_wp2
   go_roundw
   case rel => exact ⟨k + 1,by omega,by go_num,by congr 1;omega,HB1⟩
   case measure => simp [intOf] <;> omega
  ·rw [if_neg hkm]
   rcases hl with ⟨rfl,hm⟩ | ⟨rfl,hm⟩
   ·go_wp2
    go_ret
    exact ⟨rfl,HB1.out⟩
   ·obtain rfl:l = 0:=by omega
    go_wp2
    go_ret
    exact ⟨rfl,HB1.out⟩
end Go.Proofs.YtddffnonlmfhdaaGreatDoor
namespace Go.Proofs.YtddffnonlmfhdaaGreatDoor
open Go.RowKit
def bitO:Option (List Nat)→Nat→Nat→Bool
 | none,_,_ => false
 | some r,i,j => bitW r i j
theorem qget_any (w:World) (F:Nat→Prop) (p side:Nat) (b:Option (List Nat)) (h:QuS w F p side b) (i j:Nat) (hi:i < side) (hj:j < side) (hi6:i < 64) (hj6:j < 64) :
  Calls Tryz.prog 73 #[.pointer (some ⟨p,0,none⟩),.int .i64 (i:Int),.int .i64 (j:Int)] w (Sam w (.tuple #[.bool (bitO b i j),.int .i64 0])):=by
 obtain ⟨O,dep,cnt,m,last,L,pv,lv,hq,ok,-⟩:=h
 have q0:w.cell? ⟨p,0,none⟩ = some (.int .i64 (side:Int)):=hq.blk.cell 0
 have d1:=ok.d1
 have d2:=ok.d2
 have s1:=ok.s1
 have qi:(i:Int).tdiv 64 = 0:=by rw [Int.tdiv_eq_ediv_of_nonneg (by omega)];omega
 have qj:(j:Int).tdiv 64 = 0:=by rw [Int.tdiv_eq_ediv_of_nonneg (by omega)];omega
 have ri:(i:Int).tmod 64 = i:=by rw [Int.tmod_eq_emod_of_nonneg (by omega)];omega
 have rj:(j:Int).tmod 64 = j:=by rw [Int.tmod_eq_emod_of_nonneg (by omega)];omega
 cases b with
 | none =>
  obtain ⟨rfl,rfl,rfl,rfl⟩:=ok.no rfl
  have hlf:=leaf_any w O p side dep 0 0 0 [] pv lv hq (by omega) d2 (.inl ⟨rfl,rfl⟩)
  clear hq ok d1 d2
  go_enter Tryz.func73,Tryz.ntmps73
  go_wp2_with fail
  refine (qis_any w p side s1 q0).mono ?_
  rintro e w' ⟨rfl,hw⟩
  subst w'
  go_wp2_with fail
  refine (qin_any w p side i hi q0).mono ?_
  rintro e w' ⟨rfl,hw⟩
  subst w'
  go_wp2_with fail
  refine (qin_any w p side j hj q0).mono ?_
  rintro e w' ⟨rfl,hw⟩
  subst w'
  go_wp2_with fail
  refine hlf.mono ?_
  clear hlf
  rintro e W1 ⟨rfl,b1⟩
  have FIN:=Lib.hid b1
  clear b1 q0
  go_wp2
  refine bodyPost_ret (v:=.tuple #[.bool false,.int .i64 0]) (by simp [results,Tryz.f73,go_sem]) rfl ⟨rfl,FIN.out⟩
 | some r =>
  obtain ⟨hm,rfl,rfl,rfl,hr⟩:=ok.is r rfl
  have hlf:=leaf_any w O p side dep (lenB r) m 1 [r] pv lv hq (by omega) d2 (.inr ⟨rfl,hm⟩)
  obtain ⟨lg,lc,e,-,-,-,-,-⟩:=own_cells hq.rl (by simp)
  subst e
  have SR:=Lib.hid (show ∀ W,Below w.heap.size w W→W.cell? ⟨p,4,none⟩ = some (.slice (some ⟨lg,0,none⟩) 1 lc)∧W.rangeAt lg 0 (wdC r) from fun W hb => by
   have hi:=hq.upd (Upd.of_below hb (fun _ => False)) (fun _ _ => id)
   refine ⟨hi.blk.cell 4,fun j u hu => ?_⟩
   obtain ⟨g',c',e',-,-,-,-,hc'⟩:=own_cells hi.rl (by simp)
   injection e' with e'
   injection e' with e'
   injection e' with e'
   subst e'
   rw [Nat.zero_add]
   exact (hc' j u (by simpa [lfC] using hu)).1)
  have HR:=Lib.hid hr
  have hsz:=info_wd hr
  clear hq ok d1 d2 hm hr
  go_enter Tryz.func73,Tryz.ntmps73
  go_wp2_with fail
  refine (qis_any w p side s1 q0).mono ?_
  rintro e w' ⟨rfl,hw⟩
  subst w'
  go_wp2_with fail
  refine (qin_any w p side i hi q0).mono ?_
  rintro e w' ⟨rfl,hw⟩
  subst w'
  go_wp2_with fail
  refine (qin_any w p side j hj q0).mono ?_
  rintro e w' ⟨rfl,hw⟩
  subst w'
  go_wp2_with fail
  refine hlf.mono ?_
  clear hlf
  rintro e W1 ⟨rfl,b1⟩
  have HB1:=Lib.hid b1
  obtain ⟨q4,hrg⟩:=SR.out W1 b1
  have hcon:=bget_any W1 r HR.out i j hi6 hj6
  clear b1 q0
  unfold wdV at hcon
  go_upto_region 8 with (fail)
  go_wp2_with (first | (refine wpList_load_mid rfl 168 _ rfl lg 0 rfl (wdC r) (.array 64 166) hrg Tryz.underlying168 rfl hsz ?_) | fail)
  refine hcon.mono ?_
  clear hcon q4 hrg SR hsz
  rintro e W2 ⟨rfl,b2⟩
  have FIN:=Lib.hid (HB1.out.trans (b2.mono HB1.out.size))
  clear b2
  go_wp2
  refine bodyPost_ret (v:=.tuple #[.bool (bitW r i j),.int .i64 0]) (by simp [results,Tryz.f73,go_sem]) rfl ⟨rfl,FIN.out⟩
end Go.Proofs.YtddffnonlmfhdaaGreatDoor
namespace Go.Proofs.YtddffnonlmfhdaaGreatDoor
open Go.RowKit
def oneB (i j:Nat):List Nat:=zero64.set i (2 ^ j)
theorem zero64_len:zero64.length = 64:=by simp [zero64]
theorem zero64_wd:Wd zero64:=⟨zero64_len,fun x hx => by
 unfold zero64 at hx
 rw [List.eq_of_mem_replicate hx]
 decide⟩
theorem zero64_at {i:Nat} (hi:i < 64):zero64[i]? = some 0:=by unfold zero64;rw [List.getElem?_replicate,if_pos hi]
theorem pow_int (j:Nat):(((2:Nat) ^ j:Nat):Int) = (2:Int) ^ j:=by push_cast;rfl
theorem pow_fit {j:Nat} (hj:j < 64):2 ^ j < 18446744073709551616:=Nat.pow_lt_pow_right (a:=2) (by decide) hj
theorem oneB_wd {i j:Nat} (hj:j < 64):Wd (oneB i j):=⟨by simp [oneB,zero64_len],fun x hx => by
 rcases List.mem_or_eq_of_mem_set hx with h | rfl
 ·exact zero64_wd.fit x h
 ·exact pow_fit hj⟩
theorem bof_any (w:World) (g0 i j:Nat) (hi:i < 64) (hj:j < 64) (hr:Blk w g0 83 #[.int .i64 (i:Int),.int .i64 (j:Int)]):Calls Tryz.prog 105 #[.slice (some ⟨g0,0,none⟩) 1 1] w (Sam w (.tuple #[wdV (oneB i j),.int .i64 0])):=by
 have k0:=(Blk.new w 168 #[Value.int .u64 0,.int .u64 0,.int .u64 0,.int .u64 0,.int .u64 0,.int .u64 0,.int .u64 0,.int .u64 0,.int .u64 0,.int .u64 0,.int .u64 0,.int .u64 0,.int .u64 0,.int .u64 0,.int .u64 0,.int .u64 0,.int .u64 0,.int .u64 0,.int .u64 0,.int .u64 0,.int .u64 0,.int .u64 0,.int .u64 0,.int .u64 0,.int .u64 0,.int .u64 0,.int .u64 0,.int .u64 0,.int .u64 0,.int .u64 0,.int .u64 0,.int .u64 0,.int .u64 0,.int .u64 0,.int .u64 0,.int .u64 0,.int .u64 0,.int .u64 0,.int .u64 0,.int .u64 0,.int .u64 0,.int .u64 0,.int .u64 0,.int .u64 0,.int .u64 0,.int .u64 0,.int .u64 0,.int .u64 0,.int .u64 0,.int .u64 0,.int .u64 0,.int .u64 0,.int .u64 0,.int .u64 0,.int .u64 0,.int .u64 0,.int .u64 0,.int .u64 0,.int .u64 0,.int .u64 0,.int .u64 0,.int .u64 0,.int .u64 0,.int .u64 0]).alloc (.cells #[Value.int .u64 0,.int .u64 0,.int .u64 0,.int .u64 0,.int .u64 0,.int .u64 0,.int .u64 0,.int .u64 0,.int .u64 0,.int .u64 0,.int .u64 0,.int .u64 0,.int .u64 0,.int .u64 0,.int .u64 0,.int .u64 0,.int .u64 0,.int .u64 0,.int .u64 0,.int .u64 0,.int .u64 0,.int .u64 0,.int .u64 0,.int .u64 0,.int .u64 0,.int .u64 0,.int .u64 0,.int .u64 0,.int .u64 0,.int .u64 0,.int .u64 0,.int .u64 0,.int .u64 0,.int .u64 0,.int .u64 0,.int .u64 0,.int .u64 0,.int .u64 0,.int .u64 0,.int .u64 0,.int .u64 0,.int .u64 0,.int .u64 0,.int .u64 0,.int .u64 0,.int .u64 0,.int .u64 0,.int .u64 0,.int .u64 0,.int .u64 0,.int .u64 0,.int .u64 0,.int .u64 0,.int .u64 0,.int .u64 0,.int .u64 0,.int .u64 0,.int .u64 0,.int .u64 0,.int .u64 0,.int .u64 0,.int .u64 0,.int .u64 0,.int .u64 0] 168)
 have k1:=Blk.new (w.alloc (.cells #[Value.int .u64 0,.int .u64 0,.int .u64 0,.int .u64 0,.int .u64 0,.int .u64 0,.int .u64 0,.int .u64 0,.int .u64 0,.int .u64 0,.int .u64 0,.int .u64 0,.int .u64 0,.int .u64 0,.int .u64 0,.int .u64 0,.int .u64 0,.int .u64 0,.int .u64 0,.int .u64 0,.int .u64 0,.int .u64 0,.int .u64 0,.int .u64 0,.int .u64 0,.int .u64 0,.int .u64 0,.int .u64 0,.int .u64 0,.int .u64 0,.int .u64 0,.int .u64 0,.int .u64 0,.int .u64 0,.int .u64 0,.int .u64 0,.int .u64 0,.int .u64 0,.int .u64 0,.int .u64 0,.int .u64 0,.int .u64 0,.int .u64 0,.int .u64 0,.int .u64 0,.int .u64 0,.int .u64 0,.int .u64 0,.int .u64 0,.int .u64 0,.int .u64 0,.int .u64 0,.int .u64 0,.int .u64 0,.int .u64 0,.int .u64 0,.int .u64 0,.int .u64 0,.int .u64 0,.int .u64 0,.int .u64 0,.int .u64 0,.int .u64 0,.int .u64 0] 168)) 168 #[Value.int .u64 0,.int .u64 0,.int .u64 0,.int .u64 0,.int .u64 0,.int .u64 0,.int .u64 0,.int .u64 0,.int .u64 0,.int .u64 0,.int .u64 0,.int .u64 0,.int .u64 0,.int .u64 0,.int .u64 0,.int .u64 0,.int .u64 0,.int .u64 0,.int .u64 0,.int .u64 0,.int .u64 0,.int .u64 0,.int .u64 0,.int .u64 0,.int .u64 0,.int .u64 0,.int .u64 0,.int .u64 0,.int .u64 0,.int .u64 0,.int .u64 0,.int .u64 0,.int .u64 0,.int .u64 0,.int .u64 0,.int .u64 0,.int .u64 0,.int .u64 0,.int .u64 0,.int .u64 0,.int .u64 0,.int .u64 0,.int .u64 0,.int .u64 0,.int .u64 0,.int .u64 0,.int .u64 0,.int .u64 0,.int .u64 0,.int .u64 0,.int .u64 0,.int .u64 0,.int .u64 0,.int .u64 0,.int .u64 0,.int .u64 0,.int .u64 0,.int .u64 0,.int .u64 0,.int .u64 0,.int .u64 0,.int .u64 0,.int .u64 0,.int .u64 0]
 simp only [World.size_alloc] at k1
 have u0:Below w.heap.size w ((w.alloc (.cells #[Value.int .u64 0,.int .u64 0,.int .u64 0,.int .u64 0,.int .u64 0,.int .u64 0,.int .u64 0,.int .u64 0,.int .u64 0,.int .u64 0,.int .u64 0,.int .u64 0,.int .u64 0,.int .u64 0,.int .u64 0,.int .u64 0,.int .u64 0,.int .u64 0,.int .u64 0,.int .u64 0,.int .u64 0,.int .u64 0,.int .u64 0,.int .u64 0,.int .u64 0,.int .u64 0,.int .u64 0,.int .u64 0,.int .u64 0,.int .u64 0,.int .u64 0,.int .u64 0,.int .u64 0,.int .u64 0,.int .u64 0,.int .u64 0,.int .u64 0,.int .u64 0,.int .u64 0,.int .u64 0,.int .u64 0,.int .u64 0,.int .u64 0,.int .u64 0,.int .u64 0,.int .u64 0,.int .u64 0,.int .u64 0,.int .u64 0,.int .u64 0,.int .u64 0,.int .u64 0,.int .u64 0,.int .u64 0,.int .u64 0,.int .u64 0,.int .u64 0,.int .u64 0,.int .u64 0,.int .u64 0,.int .u64 0,.int .u64 0,.int .u64 0,.int .u64 0] 168)).alloc (.cells #[Value.int .u64 0,.int .u64 0,.int .u64 0,.int .u64 0,.int .u64 0,.int .u64 0,.int .u64 0,.int .u64 0,.int .u64 0,.int .u64 0,.int .u64 0,.int .u64 0,.int .u64 0,.int .u64 0,.int .u64 0,.int .u64 0,.int .u64 0,.int .u64 0,.int .u64 0,.int .u64 0,.int .u64 0,.int .u64 0,.int .u64 0,.int .u64 0,.int .u64 0,.int .u64 0,.int .u64 0,.int .u64 0,.int .u64 0,.int .u64 0,.int .u64 0,.int .u64 0,.int .u64 0,.int .u64 0,.int .u64 0,.int .u64 0,.int .u64 0,.int .u64 0,.int .u64 0,.int .u64 0,.int .u64 0,.int .u64 0,.int .u64 0,.int .u64 0,.int .u64 0,.int .u64 0,.int .u64 0,.int .u64 0,.int .u64 0,.int .u64 0,.int .u64 0,.int .u64 0,.int .u64 0,.int .u64 0,.int .u64 0,.int .u64 0,.int .u64 0,.int .u64 0,.int .u64 0,.int .u64 0,.int .u64 0,.int .u64 0,.int .u64 0,.int .u64 0] 168)):=by (repeat (first | exact Below.refl _ _ | apply Below.drew | refine Below.alloc ?_ (by first | exact Nat.le_refl _ | (simp;done) | (simp;omega)) _ | refine Below.setCell ?_ (by first | exact Nat.le_refl _ | (simp;done) | (simp;omega)) _))
 have H:=Lib.hid (And.intro (hr.upd (Upd.of_below u0 (fun _ => False)) id) (And.intro (zero64_blk.mp k0) (And.intro (zero64_blk.mp k1) u0)))
 have hg0:=hr.lt
 clear k0 k1 u0 hr
 go_enter Tryz.func105,Tryz.ntmps105
 go_upto_region 2 with (fail)
 generalize (w.alloc (.cells #[Value.int .u64 0,.int .u64 0,.int .u64 0,.int .u64 0,.int .u64 0,.int .u64 0,.int .u64 0,.int .u64 0,.int .u64 0,.int .u64 0,.int .u64 0,.int .u64 0,.int .u64 0,.int .u64 0,.int .u64 0,.int .u64 0,.int .u64 0,.int .u64 0,.int .u64 0,.int .u64 0,.int .u64 0,.int .u64 0,.int .u64 0,.int .u64 0,.int .u64 0,.int .u64 0,.int .u64 0,.int .u64 0,.int .u64 0,.int .u64 0,.int .u64 0,.int .u64 0,.int .u64 0,.int .u64 0,.int .u64 0,.int .u64 0,.int .u64 0,.int .u64 0,.int .u64 0,.int .u64 0,.int .u64 0,.int .u64 0,.int .u64 0,.int .u64 0,.int .u64 0,.int .u64 0,.int .u64 0,.int .u64 0,.int .u64 0,.int .u64 0,.int .u64 0,.int .u64 0,.int .u64 0,.int .u64 0,.int .u64 0,.int .u64 0,.int .u64 0,.int .u64 0,.int .u64 0,.int .u64 0,.int .u64 0,.int .u64 0,.int .u64 0,.int .u64 0] 168)).alloc (.cells #[Value.int .u64 0,.int .u64 0,.int .u64 0,.int .u64 0,.int .u64 0,.int .u64 0,.int .u64 0,.int .u64 0,.int .u64 0,.int .u64 0,.int .u64 0,.int .u64 0,.int .u64 0,.int .u64 0,.int .u64 0,.int .u64 0,.int .u64 0,.int .u64 0,.int .u64 0,.int .u64 0,.int .u64 0,.int .u64 0,.int .u64 0,.int .u64 0,.int .u64 0,.int .u64 0,.int .u64 0,.int .u64 0,.int .u64 0,.int .u64 0,.int .u64 0,.int .u64 0,.int .u64 0,.int .u64 0,.int .u64 0,.int .u64 0,.int .u64 0,.int .u64 0,.int .u64 0,.int .u64 0,.int .u64 0,.int .u64 0,.int .u64 0,.int .u64 0,.int .u64 0,.int .u64 0,.int .u64 0,.int .u64 0,.int .u64 0,.int .u64 0,.int .u64 0,.int .u64 0,.int .u64 0,.int .u64 0,.int .u64 0,.int .u64 0,.int .u64 0,.int .u64 0,.int .u64 0,.int .u64 0,.int .u64 0,.int .u64 0,.int .u64 0,.int .u64 0] 168) = W0 at H ⊢
 go_wp2_with fail
 go_loopw [9] (fun t wr => ∃ k:Nat,k ≤ 1∧t = .int .i64 k∧Hid (Blk wr g0 83 #[.int .i64 (i:Int),.int .i64 (j:Int)])∧Hid (Blk wr w.heap.size 168 (wdC zero64).toArray)∧Hid (Blk wr (w.heap.size + 1) 168 (wdC (if k = 0 then zero64 else oneB i j)).toArray)∧Hid (Below w.heap.size w wr)) (fun t _ => 1 - (intOf t).toNat)
 case atStart => exact ⟨0,Nat.zero_le _,rfl,Lib.hid H.out.1,Lib.hid H.out.2.1,Lib.hid H.out.2.2.1,Lib.hid H.out.2.2.2⟩
 case round =>
  obtain ⟨k,hk,rfl,hC,hZ,hB,hbw⟩:=hrel
  by_cases hlt:k < 1
  ·obtain rfl:k = 0:=by omega
   have q0:wr.cell? ⟨g0,0,none⟩ = some (.int .i64 (i:Int)):=hC.out.cell 0
   have q1:wr.cell? ⟨g0,1,none⟩ = some (.int .i64 (j:Int)):=hC.out.cell 1
   have k5:=Blk.new wr 83 #[.int .i64 (i:Int),.int .i64 (j:Int)]
   have b5:Below wr.heap.size wr (wr.alloc (.cells #[.int .i64 (i:Int),.int .i64 (j:Int)] 83)):=(Below.refl _ _).alloc (Nat.le_refl _) _
   have H5:=Lib.hid (And.intro k5 (And.intro (hC.out.alloc (.cells #[.int .i64 (i:Int),.int .i64 (j:Int)] 83)) (And.intro (hZ.out.alloc (.cells #[.int .i64 (i:Int),.int .i64 (j:Int)] 83)) (And.intro (hB.out.alloc (.cells #[.int .i64 (i:Int),.int .i64 (j:Int)] 83)) (hbw.out.trans (b5.mono hbw.out.size))))))
   have hlw:w.heap.size + 1 < wr.heap.size:=hB.out.lt
   clear k5 b5 hC hZ hB hbw
   go_upto_region 5 with (fail)
   generalize wr.alloc (.cells #[.int .i64 (i:Int),.int .i64 (j:Int)] 83) = W5 at H5 ⊢
   clear q0 q1
   have q0:W5.cell? ⟨wr.heap.size,0,none⟩ = some (.int .i64 (i:Int)):=H5.out.1.cell 0
   have q1:W5.cell? ⟨wr.heap.size,1,none⟩ = some (.int .i64 (j:Int)):=H5.out.1.cell 1
   go_wp2_with fail
   refine (blkin_any i hi W5).mono ?_
   rintro e w' ⟨rfl,hw⟩
   subst w'
   go_wp2_with fail
   refine (blkin_any j hj W5).mono ?_
   rintro e w' ⟨rfl,hw⟩
   subst w'
   go_upto_region 7 with (fail)
   have kB:Blk W5 (w.heap.size + 1) 168 (wdC zero64).toArray:=H5.out.2.2.2.1
   have c3:W5.drew.cell? ⟨w.heap.size + 1,i,none⟩ = some (.int .u64 0):=(kB.drew.cell i).trans (by simpa using wdC_at (zero64_at hi))
   have f3:W5.drew.frozen? ⟨w.heap.size + 1,i,none⟩ = false:=kB.drew.frozen i
   have hS:W5.drew.cell? ⟨wr.heap.size,0,none⟩ = some (.int .i64 (i:Int))∧W5.drew.cell? ⟨wr.heap.size,1,none⟩ = some (.int .i64 (j:Int))∧W5.drew.cell? ⟨w.heap.size + 1,i,none⟩ = some (.int .u64 0):=⟨q0,q1,c3⟩
   have hiI:(i:Int) < (64:Int):=by omega
   have hj0:¬ ((j:Int) < 0):=by omega
   have HK:=Lib.hid kB
   clear q0 q1 kB
   obtain ⟨q,hq⟩:∃ q:Nat,2 ^ j = q:=⟨_,rfl⟩
   have hq64:q < 18446744073709551616:=by rw [← hq];exact pow_fit hj
   have hqi:((q:Nat):Int) = (2:Int) ^ j:=by rw [← hq,Int.natCast_pow];rfl
   have hwp:IntKind.u64.wrap ((2:Int) ^ j) = (q:Int):=by
    rw [← hqi,IntKind.wrap_u64]
    omega
   have hor:=bits_or_u64_nat 0 q (by decide) hq64
   rw [Nat.zero_or] at hor
   have hor:bits .or .u64 0 (q:Int) = (q:Int):=hor
   clear hqi hq64
   have HQ:=Lib.hid hq
   clear hq
   refine wp_region_ord (fun W => W.cell? ⟨wr.heap.size,0,none⟩ = some (.int .i64 (i:Int))∧W.cell? ⟨wr.heap.size,1,none⟩ = some (.int .i64 (j:Int))∧W.cell? ⟨w.heap.size + 1,i,none⟩ = some (.int .u64 0)) 9 [(0,true),(1,true),(2,true),(3,true),(4,true),(5,true),(6,true),(7,true),(8,true),(9,false)] (by kernel_rfl) (by kernel_rfl) (fun _ _ d _ _ h => by cases d <;> exact h) hS ?_
   iterate 9 (refine ord_takeA rfl ?_;(try simp only [Act.put,gA,gS,gZ,sA,sZ,sS]))
   refine ord_do rfl rfl (fun K hK => ?_)
   obtain ⟨z0,z1,z2⟩:=hS
   go_simp
   refine hK _ _ (fun h => absurd rfl h) ?_
   clear hK K z0 z1 z2 f3 c3
   (try simp only [Act.put,gA,gS,gZ,sA,sZ,sS])
   refine ord_done ?_
   have us:Upd (fun k => k = w.heap.size + 1) W5 ((W5.setCell ⟨w.heap.size + 1,i,none⟩ (.int .u64 (q:Int))).drew):=((Upd.refl (fun k => k = w.heap.size + 1) W5).setCell (p:=⟨w.heap.size + 1,i,none⟩) (.inl rfl) _).drew
   have HN:=Lib.hid (show Blk ((W5.setCell ⟨w.heap.size + 1,i,none⟩ (.int .u64 (q:Int))).drew) g0 83 #[.int .i64 (i:Int),.int .i64 (j:Int)]∧Blk ((W5.setCell ⟨w.heap.size + 1,i,none⟩ (.int .u64 (q:Int))).drew) w.heap.size 168 (wdC zero64).toArray∧Blk ((W5.setCell ⟨w.heap.size + 1,i,none⟩ (.int .u64 (q:Int))).drew) (w.heap.size + 1) 168 (wdC (oneB i j)).toArray∧Below w.heap.size w ((W5.setCell ⟨w.heap.size + 1,i,none⟩ (.int .u64 (q:Int))).drew) from by
    refine ⟨H5.out.2.1.upd us (by omega),H5.out.2.2.1.upd us (by omega),?_,H5.out.2.2.2.2.trans (us.below (fun k _ e => by omega) (by have:=H5.out.2.2.2.2.size;exact this))⟩
    have:=(HK.out.set i (.int .u64 (q:Int))).drew
    rw [wdC_set] at this
    unfold oneB
    rw [HQ.out]
    exact this)
   clear us H5 HK
   generalize (W5.setCell ⟨w.heap.size + 1,i,none⟩ (.int .u64 (q:Int))).drew = W6 at HN ⊢
   go_wp2
   go_roundw
   case rel => exact ⟨1,by decide,by go_num,Lib.hid HN.out.1,Lib.hid HN.out.2.1,Lib.hid HN.out.2.2.1,Lib.hid HN.out.2.2.2⟩
   case measure => simp [intOf]
  ·obtain rfl:k = 1:=by omega
   have hB2:Blk wr (w.heap.size + 1) 168 (wdC (oneB i j)).toArray:=hB.out
   have hz:=oneB_wd (i:=i) hj
   obtain ⟨r,hrr⟩:∃ r,oneB i j = r:=⟨_,rfl⟩
   rw [hrr] at hB2 hz
   have HRR:=Lib.hid hrr
   clear hrr
   have hrg:=range_blk hB2
   have hsz:=info_wd hz
   have hth:wr.there w.heap.size 0 (wdC r).toArray.size:=there_blk hZ.out (by simp [wdC_len,hz.len,zero64])
   have hsz2:(Tryz.prog.info? 168).map (·.size) = some (wdC r).toArray.size:=by simpa using hsz
   have h1c:(wdC r).toArray.all (·.oneCell') = true:=all_oneCell_toArray (one_wd _)
   have FIN:=Lib.hid (show Below w.heap.size w (wr.setCells w.heap.size 0 (wdC r))∧(wr.setCells w.heap.size 0 (wdC r)).rangeAt w.heap.size 0 (wdC r) from ⟨hbw.out.trans ((Upd.setCells (F:=fun q => q = w.heap.size) (.inl rfl) _ _ (Upd.refl _ _)).below (fun q _ e => by omega) hbw.out.size),World.rangeAt_setCells_same _ _ _ _ (by simpa using hth)⟩)
   clear hC hZ hB hbw hB2
   unfold wdV
   go_upto_region 9 with (fail)
   go_wp2_with (first | (refine wpList_load_mid rfl 168 _ rfl (w.heap.size + 1) 0 rfl (wdC r) (.array 64 166) hrg Tryz.underlying168 rfl hsz ?_) | (refine wpList_store_mid rfl 168 _ _ rfl w.heap.size 0 (wdC r).toArray rfl rfl hth hsz2 h1c ?_))
   have hlv:=run_loadVar_mid (P:=Tryz.prog) _ w.heap.size 0 168 (wdC r) (.array 64 166) FIN.out.2 Tryz.underlying168 rfl hsz
   refine bodyPost_ret (v:=.tuple #[.agg (wdC r).toArray,.int .i64 0]) (by simp [results,Tryz.f105,Act.put,asAddr,hlv,Result.andThen,Sem.run_bind]) rfl ⟨by rw [HRR.out];rfl,FIN.out.1⟩
end Go.Proofs.YtddffnonlmfhdaaGreatDoor
namespace Go.Proofs.YtddffnonlmfhdaaGreatDoor
open Go.RowKit
theorem part_wd (W:World) {r:List Nat} {i x:Nat} (h:r[i]? = some x):(part 166 (wdC r).toArray (i * 1)).run Tryz.prog W = .ok (.int .u64 (x:Int)) W:=by
 have h2:=wdC_at h
 simp [part,isAgg,run_underlying Tryz.underlying166,h2]
theorem eqItems_wd (W:World) (d:Nat) {r s:List Nat} (hr:r.length = 64) (hs:s.length = 64):∀ (is:List Nat),(∀ i ∈ is,i < 64)→(Op.eqItems (d + 1) 166 1 (wdC r).toArray (wdC s).toArray is).run Tryz.prog W = .ok (decide (∀ i ∈ is,r[i]? = s[i]?)) W
 | [],_ => by simp [Op.eqItems]
 | i :: is,hi => by
  have hi0:=hi i (by simp)
  obtain ⟨x,hx⟩:∃ x,r[i]? = some x:=⟨r[i]'(by omega),List.getElem?_eq_getElem _⟩
  obtain ⟨y,hy⟩:∃ x,s[i]? = some x:=⟨s[i]'(by omega),List.getElem?_eq_getElem _⟩
  have h9:=run_equalIn_int (P:=Tryz.prog) W d 166 .u64 .u64 (x:Int) (y:Int) Tryz.underlying166
  have ih:=eqItems_wd W d hr hs is (fun j hj => hi j (by simp [hj]))
  simp only [Op.eqItems,Sem.run_bind,part_wd W hx,part_wd W hy,Result.andThen_ok,h9]
  by_cases hxy:x = y
  ·subst hxy
   simp only [beq_self_eq_true,Bool.not_true,Bool.false_eq_true,if_false]
   rw [ih]
   simp [hx,hy]
  ·have:((x:Int) == (y:Int)) = false:=beq_eq_false_iff_ne.2 (fun e => hxy (by omega))
   rw [this]
   simp [hx,hy,hxy]
theorem all_eq {r s:List Nat} (hr:r.length = 64) (hs:s.length = 64):decide (∀ i ∈ List.range 64,r[i]? = s[i]?) = decide (r = s):=by
 rw [Bool.eq_iff_iff,decide_eq_true_iff,decide_eq_true_iff]
 constructor
 ·intro h
  apply List.ext_getElem?
  intro i
  by_cases hi:i < 64
  ·exact h i (List.mem_range.2 hi)
  ·rw [List.getElem?_eq_none (by omega),List.getElem?_eq_none (by omega)]
 ·rintro rfl i _
  rfl
theorem info_u64:(Tryz.prog.info? 166).isSome = true:=by kernel_rfl
theorem cells_u64:Tryz.prog.cellsOf 166 = 1:=by kernel_rfl
theorem eql_blk (W:World) {r s:List Nat} (hr:Wd r) (hs:Wd s):(binOp .eql 168 (.agg (wdC r).toArray) (.agg (wdC s).toArray)).run Tryz.prog W = .ok (.bool (decide (r = s))) W:=by
 obtain ⟨i0,hi0⟩:=Option.isSome_iff_exists.1 info_u64
 have e:(Op.equal 168 (.agg (wdC r).toArray) (.agg (wdC s).toArray)).run Tryz.prog W = .ok (decide (r = s)) W:=by
  show (Op.equalIn (9999 + 1) _ _ _).run _ _ = _
  rw [run_equalIn_array (P:=Tryz.prog) W 9999 _ _ Tryz.underlying168 hi0,cells_u64]
  rw [eqItems_wd W 9998 hr.len hs.len _ (fun i hi => List.mem_range.1 hi),all_eq hr.len hs.len]
 simp only [binOp]
 simp [e]
end Go.Proofs.YtddffnonlmfhdaaGreatDoor
namespace Go.Proofs.YtddffnonlmfhdaaGreatDoor
open Go.RowKit
structure QuX (w:World) (O:Nat→Option QRo) (p side dep cnt np:Nat) (xs:List Value) (nl:Nat) (ls:List Value) (pv lv:Value):Prop where
 blk:Blk w p 179 #[.int .i64 (side:Int),.int .i64 (dep:Int),.int .i64 (cnt:Int),pv,lv]
 rp:w.ownsRow 0 225 4 pv np xs
 rl:w.ownsRow 0 168 64 lv nl ls
 op:O p = some .p
 oa:∀ k,pv.ownBlock = some k→O k = some .a
 ol:∀ k,lv.ownBlock = some k→O k = some .l
 lt:∀ k,O k ≠ none→k < w.heap.size
theorem QuI.x {w:World} {O:Nat→Option QRo} {p side dep cnt m:Nat} {last:Int} {L:List (List Nat)} {pv lv:Value} (h:QuI w O p side dep cnt m last L pv lv):QuX w O p side dep cnt (m + 1) (qsC m last) L.length (lfC L) pv lv:=⟨h.blk,h.rp,h.rl,h.op,h.oa,h.ol,h.lt⟩
theorem QuX.i {w:World} {O:Nat→Option QRo} {p side dep cnt m:Nat} {last:Int} {L:List (List Nat)} {pv lv:Value} (h:QuX w O p side dep cnt (m + 1) (qsC m last) L.length (lfC L) pv lv):QuI w O p side dep cnt m last L pv lv:=⟨h.blk,h.rp,h.rl,h.op,h.oa,h.ol,h.lt⟩
theorem QuX.upd {w w':World} {O:Nat→Option QRo} {p side dep cnt np nl:Nat} {xs ls:List Value} {pv lv:Value} {G:Nat→Prop} (h:QuX w O p side dep cnt np xs nl ls pv lv) (hu:Upd G w w') (hd:∀ k,O k ≠ none→¬ G k):QuX w' O p side dep cnt np xs nl ls pv lv:=by
 have no:∀ k t,O k = some t→¬ G k:=fun k t e => hd k (by simp [e])
 exact ⟨h.blk.upd hu (no _ _ h.op),ownsRow_upd h.rp hu fun k hk => no _ _ (h.oa k hk),ownsRow_upd h.rl hu fun k hk => no _ _ (h.ol k hk),h.op,h.oa,h.ol,fun k hk => Nat.lt_of_lt_of_le (h.lt k hk) hu.size⟩
theorem QuX.below {w w':World} {O:Nat→Option QRo} {p side dep cnt np nl:Nat} {xs ls:List Value} {pv lv:Value} (h:QuX w O p side dep cnt np xs nl ls pv lv) (hb:Below w.heap.size w w'):QuX w' O p side dep cnt np xs nl ls pv lv:=h.upd (Upd.of_below hb (fun _ => False)) (fun _ _ => id)
theorem qsC_len (m:Nat) (last:Int):(qsC m last).length = (m + 1) * 4:=by
 unfold qsC
 rw [List.length_append,flat_len _ 4 (fun _ => rfl),List.length_range]
 show m * 4 + 4 = _
 omega
theorem qsC_step (m:Nat):(qsC m 0 ++ four 0).set (m * 4) (.int .i64 ((m:Int) + 2)) = qsC (m + 1) 0:=by
 have hl:((List.range m).flatMap fun (i:Nat) => four ((i:Int) + 2)).length = m * 4:=by rw [flat_len _ 4 (fun _ => rfl),List.length_range]
 unfold qsC
 rw [List.append_assoc,List.set_append_right _ _ (by omega),hl,Nat.sub_self,List.range_succ,List.flatMap_append,List.flatMap_cons,List.flatMap_nil,List.append_nil,List.append_assoc]
 rfl
theorem qsC_end (m:Nat):(qsC m 0).set (m * 4) (.int .i64 1) = qsC m 1:=by
 have hl:((List.range m).flatMap fun (i:Nat) => four ((i:Int) + 2)).length = m * 4:=by rw [flat_len _ 4 (fun _ => rfl),List.length_range]
 unfold qsC
 rw [List.set_append_right _ _ (by omega),hl,Nat.sub_self]
 rfl
theorem QuX.pushP {w w1:World} {O:Nat→Option QRo} {p side dep cnt np nl:Nat} {xs ls:List Value} {pv lv:Value} (h:QuX w O p side dep cnt np xs nl ls pv lv) {nv:Value} {n':Nat} {ys:List Value} (own:w1.ownsRow 0 225 4 nv n' ys) (u:Upd (fun k => pv.ownBlock = some k) w w1)
  (pl:∀ k,nv.ownBlock = some k→pv.ownBlock = some k ∨ w.heap.size ≤ k):∃ O',QuX (w1.setCell ⟨p,3,none⟩ nv) O' p side dep cnt n' ys nl ls nv lv∧(∀ k,O' k ≠ none→O k ≠ none ∨ w.heap.size ≤ k)∧Upd (fun k => O k ≠ none) w (w1.setCell ⟨p,3,none⟩ nv):=by
 have us:=(Upd.refl (fun k => k = p) w1).setCell (p:=⟨p,3,none⟩) (.inl rfl) nv
 have fresh:∀ k,w.heap.size ≤ k→O k = none:=fun k hk => by
  cases e:O k with
  | none => rfl
  | some t => have:=h.lt k (by simp [e]);omega
 have hn:∀ k,nv.ownBlock = some k→O k = some .a ∨ O k = none:=fun k hk => by
  rcases pl k hk with h1 | h1
  ·exact .inl (h.oa k h1)
  ·exact .inr (fresh k h1)
 have keep:∀ k t,O k = some t→(t = QRo.a→False)→(if nv.ownBlock = some k then some QRo.a else O k) = some t:=fun k t e ht => by
  rw [if_neg,e]
  intro hk
  rcases hn k hk with h1 | h1
  ·rw [h1] at e;injection e with e;exact ht e.symm
  ·rw [h1] at e;cases e
 have bp:¬ pv.ownBlock = some p:=fun e => by have:=h.oa _ e;rw [h.op] at this;cases this
 have np':∀ k,nv.ownBlock = some k→¬ k = p:=fun k hk e => by
  subst e
  rcases hn k hk with h1 | h1
  ·rw [h.op] at h1;cases h1
  ·rw [h.op] at h1;cases h1
 refine ⟨fun k => if nv.ownBlock = some k then some QRo.a else O k,?_,fun k hk => ?_,?_⟩
 ·constructor
  case blk => exact (h.blk.upd u bp).set 3 nv
  case rp => exact ownsRow_upd own us np'
  case rl => exact ownsRow_upd (ownsRow_upd h.rl u fun k hk e => (by have:=h.ol k hk;rw [h.oa k e] at this;cases this)) us fun k hk e => (by have:=h.ol k hk;rw [e,h.op] at this;cases this)
  case op => exact keep _ _ h.op nofun
  case oa => exact fun k hk => if_pos hk
  case ol => exact fun k hk => keep _ _ (h.ol k hk) nofun
  case lt =>
   intro k hk
   (try dsimp only at hk)
   by_cases h1:nv.ownBlock = some k
   ·exact Nat.lt_of_lt_of_le (own.lt k h1).2 us.size
   ·rw [if_neg h1] at hk
    exact Nat.lt_of_lt_of_le (h.lt k hk) (Nat.le_trans u.size us.size)
 ·(try dsimp only at hk)
  by_cases h1:nv.ownBlock = some k
  ·rcases pl k h1 with h2 | h2
   ·exact .inl (by rw [h.oa k h2];nofun)
   ·exact .inr h2
  ·rw [if_neg h1] at hk
   exact .inl hk
 ·exact (u.mono (fun k _ hk => by rw [h.oa k hk];nofun)).trans us (fun k hk => .inl (by rw [hk,h.op];nofun))
theorem QuX.pushL {w w1:World} {O:Nat→Option QRo} {p side dep cnt np nl:Nat} {xs ls:List Value} {pv lv:Value} (h:QuX w O p side dep cnt np xs nl ls pv lv) {nv:Value} {n':Nat} {ys:List Value} (own:w1.ownsRow 0 168 64 nv n' ys) (u:Upd (fun k => lv.ownBlock = some k) w w1)
  (pl:∀ k,nv.ownBlock = some k→lv.ownBlock = some k ∨ w.heap.size ≤ k):∃ O',QuX (w1.setCell ⟨p,4,none⟩ nv) O' p side dep cnt np xs n' ys pv nv∧(∀ k,O' k ≠ none→O k ≠ none ∨ w.heap.size ≤ k)∧Upd (fun k => O k ≠ none) w (w1.setCell ⟨p,4,none⟩ nv):=by
 have us:=(Upd.refl (fun k => k = p) w1).setCell (p:=⟨p,4,none⟩) (.inl rfl) nv
 have fresh:∀ k,w.heap.size ≤ k→O k = none:=fun k hk => by
  cases e:O k with
  | none => rfl
  | some t => have:=h.lt k (by simp [e]);omega
 have hn:∀ k,nv.ownBlock = some k→O k = some .l ∨ O k = none:=fun k hk => by
  rcases pl k hk with h1 | h1
  ·exact .inl (h.ol k h1)
  ·exact .inr (fresh k h1)
 have keep:∀ k t,O k = some t→(t = QRo.l→False)→(if nv.ownBlock = some k then some QRo.l else O k) = some t:=fun k t e ht => by
  rw [if_neg,e]
  intro hk
  rcases hn k hk with h1 | h1
  ·rw [h1] at e;injection e with e;exact ht e.symm
  ·rw [h1] at e;cases e
 have bp:¬ lv.ownBlock = some p:=fun e => by have:=h.ol _ e;rw [h.op] at this;cases this
 have np':∀ k,nv.ownBlock = some k→¬ k = p:=fun k hk e => by
  subst e
  rcases hn k hk with h1 | h1
  ·rw [h.op] at h1;cases h1
  ·rw [h.op] at h1;cases h1
 refine ⟨fun k => if nv.ownBlock = some k then some QRo.l else O k,?_,fun k hk => ?_,?_⟩
 ·constructor
  case blk => exact (h.blk.upd u bp).set 4 nv
  case rl => exact ownsRow_upd own us np'
  case rp => exact ownsRow_upd (ownsRow_upd h.rp u fun k hk e => (by have:=h.oa k hk;rw [h.ol k e] at this;cases this)) us fun k hk e => (by have:=h.oa k hk;rw [e,h.op] at this;cases this)
  case op => exact keep _ _ h.op nofun
  case ol => exact fun k hk => if_pos hk
  case oa => exact fun k hk => keep _ _ (h.oa k hk) nofun
  case lt =>
   intro k hk
   (try dsimp only at hk)
   by_cases h1:nv.ownBlock = some k
   ·exact Nat.lt_of_lt_of_le (own.lt k h1).2 us.size
   ·rw [if_neg h1] at hk
    exact Nat.lt_of_lt_of_le (h.lt k hk) (Nat.le_trans u.size us.size)
 ·(try dsimp only at hk)
  by_cases h1:nv.ownBlock = some k
  ·rcases pl k h1 with h2 | h2
   ·exact .inl (by rw [h.ol k h2];nofun)
   ·exact .inr h2
  ·rw [if_neg h1] at hk
   exact .inl hk
 ·exact (u.mono (fun k _ hk => by rw [h.ol k hk];nofun)).trans us (fun k hk => .inl (by rw [hk,h.op];nofun))
theorem QuX.setP {w:World} {O:Nat→Option QRo} {p side dep cnt np nl g cap:Nat} {xs ls:List Value} {lv:Value} (h:QuX w O p side dep cnt np xs nl ls (.slice (some ⟨g,0,none⟩) np cap) lv) {i:Nat} (hi:i < np * 4) (u:Value) :
  QuX (w.setCell ⟨g,i,none⟩ u) O p side dep cnt np (xs.set i u) nl ls (.slice (some ⟨g,0,none⟩) np cap) lv∧Upd (fun k => O k ≠ none) w (w.setCell ⟨g,i,none⟩ u):=by
 have us:=(Upd.refl (fun k => k = g) w).setCell (p:=⟨g,i,none⟩) (.inl rfl) u
 have hg:O g = some .a:=h.oa g rfl
 refine ⟨?_,us.mono (fun k _ e => by rw [e,hg];nofun)⟩
 constructor
 case blk => exact h.blk.upd us (fun e => by have:=hg;rw [← e,h.op] at this;cases this)
 case rp => exact own_setCell h.rp hi u
 case rl => exact ownsRow_upd h.rl us fun k hk e => (by have:=h.ol k hk;rw [e,hg] at this;cases this)
 case op => exact h.op
 case oa => exact h.oa
 case ol => exact h.ol
 case lt => exact fun k hk => Nat.lt_of_lt_of_le (h.lt k hk) us.size
end Go.Proofs.YtddffnonlmfhdaaGreatDoor
namespace Go.Proofs.YtddffnonlmfhdaaGreatDoor
open Go.RowKit
def GrowP (w:World) (O:Nat→Option QRo) (p side dep cnt:Nat) (r:List Nat) (e:Ending) (w':World):Prop:=
 e = .returned (.int .i64 0)∧∃ O' pv' lv',QuI w' O' p side dep cnt (dep - 1) 1 [r] pv' lv'∧Upd (fun k => O k ≠ none) w w'∧∀ k,O' k ≠ none→O k ≠ none ∨ w.heap.size ≤ k
theorem QuX.cellP {w:World} {O:Nat→Option QRo} {p side dep cnt np nl pg pc:Nat} {xs ls:List Value} {lv:Value} (h:QuX w O p side dep cnt np xs nl ls (.slice (some ⟨pg,0,none⟩) np pc) lv) (hn:0 < np) {i:Nat} {v:Value} (hi:xs[i]? = some v):w.cell? ⟨pg,i,none⟩ = some v∧w.frozen? ⟨pg,i,none⟩ = false:=by
 obtain ⟨g',c',e',-,-,-,-,hc'⟩:=own_cells h.rp hn
 injection e' with e'
 injection e' with e'
 injection e' with e'
 subst e'
 exact hc' i v hi
theorem grow_full (w:World) (O:Nat→Option QRo) (p side dep cnt m:Nat) (r:List Nat) (pv lv:Value) (h:QuI w O p side dep cnt m 1 [r] pv lv) (hd:m + 1 = dep) (hd4:dep ≤ 4) :
  Calls Tryz.prog 144 #[.pointer (some ⟨p,0,none⟩),.int .i64 0,.int .i64 0] w (GrowP w O p side dep cnt r):=by
 have hx:=h.x
 have q1:w.cell? ⟨p,1,none⟩ = some (.int .i64 (dep:Int)):=h.blk.cell 1
 obtain ⟨pg,pc,e,-,-,-,-,-⟩:=own_cells h.rp (by omega)
 subst e
 have SR:=Lib.hid (show ∀ W,Below w.heap.size w W→∀ k,k ≤ m→W.cell? ⟨p,3,none⟩ = some (.slice (some ⟨pg,0,none⟩) (m + 1) pc)∧W.cell? ⟨pg,k * 4,none⟩ = some (.int .i64 (if k < m then (k:Int) + 2 else 1)) from fun W hb k hk => by
  have hi:=hx.below hb
  refine ⟨hi.blk.cell 3,?_⟩
  by_cases hkm:k < m
  ·rw [if_pos hkm]
   exact (hi.cellP (by omega) (qsC_in hkm)).1
  ·obtain rfl:k = m:=by omega
   rw [if_neg hkm]
   exact (hi.cellP (by omega) qsC_last).1)
 have HP:=Lib.hid (show ∀ W,Below w.heap.size w W→GrowP w O p side dep cnt r (.returned (.int .i64 0)) W from fun W hb => ⟨rfl,O,_,_,by
  have hm:dep - 1 = m:=by omega
  rw [hm]
  exact (hx.below hb).i,Upd.of_below hb _,fun _ hk => .inl hk⟩)
 obtain ⟨n,hn⟩:∃ n,m + 1 = n:=⟨_,rfl⟩
 rw [hn] at SR
 have hw1:IntKind.i64.wrap ((dep:Int) - 1) = (dep:Int) - 1:=by rw [IntKind.wrap_i64];omega
 have hdm:(dep:Int) - 1 = (m:Int):=by omega
 rw [hdm] at hw1
 have hw1:IntKind.i64.wrap ((dep:Int) - 1) = (m:Int):=by rw [hdm];exact hw1
 clear h hx
 go_enter Tryz.func144,Tryz.ntmps144
 go_wp2_with fail
 clear q1
 go_loopw [7,8] (fun a l wr => ∃ k:Nat,k ≤ m∧a = .int .i64 k∧l = .int .i64 ((m:Int) - k)∧Hid (Below w.heap.size w wr)) (fun _ l _ => (intOf l).toNat)
 case atStart => exact ⟨0,Nat.zero_le _,rfl,by simp,Lib.hid (Below.refl _ _)⟩
 case round =>
  obtain ⟨k,hk,rfl,rfl,hb⟩:=hrel
  obtain ⟨l,hl0⟩:∃ l:Nat,(m:Int) - (k:Int) = (l:Int):=⟨m - k,by omega⟩
  rw [hl0]
  have hl10:l ≤ 10:=by omega
  have hkn:(k:Int) < (n:Int):=by omega
  have hwy:=way_any l hl10 wr
  by_cases hlt:k < m
  ·have hlp:0 < l:=by omega
   go_wp2_with fail
   refine hwy.mono ?_
   clear hwy
   rintro e V1 ⟨rfl,b1⟩
   have HB1:=Lib.hid (hb.out.trans (b1.mono hb.out.size))
   obtain ⟨q3,qk⟩:=SR.out V1 HB1.out k hk
   rw [if_pos hlt] at qk
   have z0:((k:Int) + 2 == 0) = false:=by simp;omega
   have w0:IntKind.i64.wrap ((k:Int) + 1) = (k:Int) + 1:=IntWalk.i64_in _ (by omega)
   have w1:IntKind.i64.wrap ((l:Int) - 1) = (l:Int) - 1:=by rw [IntKind.wrap_i64];omega
   clear b1 hb
   go_wp2
   go_roundw
   case rel => exact ⟨k + 1,by omega,by go_num,by congr 1;omega,HB1⟩
   case measure => simp [intOf] <;> omega
  ·obtain rfl:k = m:=by omega
   obtain rfl:l = 0:=by omega
   clear hwy
   go_wp2_with fail
   refine (way_any 0 (by decide) wr).mono ?_
   rintro e V1 ⟨rfl,b1⟩
   have HB1:=Lib.hid (hb.out.trans (b1.mono hb.out.size))
   obtain ⟨q3,qk⟩:=SR.out V1 HB1.out k hk
   rw [if_neg hlt] at qk
   clear b1 hb
   have FIN:=Lib.hid (HP.out V1 HB1.out)
   go_wp2
   go_ret
   exact FIN.out
end Go.Proofs.YtddffnonlmfhdaaGreatDoor
namespace Go.Proofs.YtddffnonlmfhdaaGreatDoor
open Go.RowKit
theorem info_blk:(Tryz.prog.info? 168).map (fun i => (i.zero,i.size,i.bytes)) = some (some (.agg #[Value.int .u64 0,.int .u64 0,.int .u64 0,.int .u64 0,.int .u64 0,.int .u64 0,.int .u64 0,.int .u64 0,.int .u64 0,.int .u64 0,.int .u64 0,.int .u64 0,.int .u64 0,.int .u64 0,.int .u64 0,.int .u64 0,.int .u64 0,.int .u64 0,.int .u64 0,.int .u64 0,.int .u64 0,.int .u64 0,.int .u64 0,.int .u64 0,.int .u64 0,.int .u64 0,.int .u64 0,.int .u64 0,.int .u64 0,.int .u64 0,.int .u64 0,.int .u64 0,.int .u64 0,.int .u64 0,.int .u64 0,.int .u64 0,.int .u64 0,.int .u64 0,.int .u64 0,.int .u64 0,.int .u64 0,.int .u64 0,.int .u64 0,.int .u64 0,.int .u64 0,.int .u64 0,.int .u64 0,.int .u64 0,.int .u64 0,.int .u64 0,.int .u64 0,.int .u64 0,.int .u64 0,.int .u64 0,.int .u64 0,.int .u64 0,.int .u64 0,.int .u64 0,.int .u64 0,.int .u64 0,.int .u64 0,.int .u64 0,.int .u64 0,.int .u64 0]),64,512):=by kernel_rfl
theorem one_four (x:Int):∀ u ∈ four x,u.oneCell' = true:=fun u hu => by
 simp only [four,List.mem_cons,List.not_mem_nil,or_false] at hu
 rcases hu with rfl | rfl | rfl | rfl <;> rfl
theorem zl_eq:(#[Value.int .u64 0,.int .u64 0,.int .u64 0,.int .u64 0,.int .u64 0,.int .u64 0,.int .u64 0,.int .u64 0,.int .u64 0,.int .u64 0,.int .u64 0,.int .u64 0,.int .u64 0,.int .u64 0,.int .u64 0,.int .u64 0,.int .u64 0,.int .u64 0,.int .u64 0,.int .u64 0,.int .u64 0,.int .u64 0,.int .u64 0,.int .u64 0,.int .u64 0,.int .u64 0,.int .u64 0,.int .u64 0,.int .u64 0,.int .u64 0,.int .u64 0,.int .u64 0,.int .u64 0,.int .u64 0,.int .u64 0,.int .u64 0,.int .u64 0,.int .u64 0,.int .u64 0,.int .u64 0,.int .u64 0,.int .u64 0,.int .u64 0,.int .u64 0,.int .u64 0,.int .u64 0,.int .u64 0,.int .u64 0,.int .u64 0,.int .u64 0,.int .u64 0,.int .u64 0,.int .u64 0,.int .u64 0,.int .u64 0,.int .u64 0,.int .u64 0,.int .u64 0,.int .u64 0,.int .u64 0,.int .u64 0,.int .u64 0,.int .u64 0,.int .u64 0]:Array Value) = (wdC zero64).toArray:=by kernel_rfl
theorem grow_empty (w:World) (O:Nat→Option QRo) (p side dep cnt:Nat) (pv lv:Value) (h:QuI w O p side dep cnt 0 0 [] pv lv) (hd:1 ≤ dep) (hd4:dep ≤ 4) :
  Calls Tryz.prog 144 #[.pointer (some ⟨p,0,none⟩),.int .i64 0,.int .i64 0] w (GrowP w O p side dep cnt zero64):=by
 obtain ⟨m,hm⟩:∃ m,dep = m + 1:=⟨dep - 1,by omega⟩
 subst hm
 have q1:w.cell? ⟨p,1,none⟩ = some (.int .i64 ((m + 1:Nat):Int)):=h.blk.cell 1
 have H0:=Lib.hid h.x
 have hw1:IntKind.i64.wrap (((m + 1:Nat):Int) - 1) = (m:Int):=by rw [IntKind.wrap_i64];omega
 generalize ((m + 1:Nat):Int) = dI at q1 hw1
 clear h
 go_enter Tryz.func144,Tryz.ntmps144
 go_wp2_with fail
 clear q1
 go_loopw [7,8] (fun a l wr => ∃ k:Nat,k ≤ m∧a = .int .i64 k∧l = .int .i64 ((m:Int) - k)∧Hid (∃ O1 pv1 lv1,QuX wr O1 p side (m + 1) cnt (k + 1) (qsC k 0) 0 [] pv1 lv1∧Upd (fun b => O b ≠ none) w wr∧∀ b,O1 b ≠ none→O b ≠ none ∨ w.heap.size ≤ b)) (fun _ l _ => (intOf l).toNat)
 case atStart => exact ⟨0,Nat.zero_le _,rfl,by simp,Lib.hid ⟨O,pv,lv,H0.out,Upd.refl _ _,fun _ h => .inl h⟩⟩
 case round =>
  obtain ⟨k,hk,rfl,rfl,hq⟩:=hrel
  obtain ⟨l,hl0⟩:∃ l:Nat,(m:Int) - (k:Int) = (l:Int):=⟨m - k,by omega⟩
  rw [hl0]
  have hl10:l ≤ 10:=by omega
  have hwy:=way_any l hl10 wr
  obtain ⟨O1,pv1,lv1,hx1,hu1,hn1⟩:=hq.out
  obtain ⟨pg,pc,e,-,hpc,-,-,-⟩:=own_cells hx1.rp (by omega)
  subst e
  have HX1:=Lib.hid (And.intro hx1 (And.intro hu1 hn1))
  obtain ⟨n,hn⟩:∃ n,k + 1 = n:=⟨_,rfl⟩
  have hkn:(k:Int) < (n:Int):=by omega
  clear hq hx1 hu1 hn1
  by_cases hlt:k < m
  ·have hlp:0 < l:=by omega
   go_wp2_with fail
   refine hwy.mono ?_
   clear hwy
   rintro e V1 ⟨rfl,b1⟩
   have hx2:=HX1.out.1.below b1
   have hu2:Upd (fun b => O b ≠ none) w V1:=HX1.out.2.1.trans (Upd.of_below b1 (fun _ => False)) (fun _ h => h.elim)
   have hsz:wr.heap.size ≤ V1.heap.size:=b1.size
   have q3:V1.cell? ⟨p,3,none⟩ = some (.slice (some ⟨pg,0,none⟩) n pc):=by rw [← hn];exact hx2.blk.cell 3
   have qk:V1.cell? ⟨pg,k * 4,none⟩ = some (.int .i64 0):=(hx2.cellP (by omega) qsC_last).1
   have f3:=hx2.blk.frozen 3
   obtain ⟨v2,W2,happ,own2,u2,p2⟩:=push_own V1 0 176 225 4 32 _ Tryz.underlying176 info_four rfl (by decide) (.slice (some ⟨pg,0,none⟩) (k + 1) pc) (k + 1) _ hx2.rp (four 0) 1 rfl (one_four 0) (by omega) (by unfold maxLen;omega) (Nat.zero_le _)
   obtain ⟨A2,c2,rfl,-,-⟩:=own_form own2
   obtain ⟨O2,hx3,hn3,hu3⟩:=hx2.pushP own2 u2 p2
   have kb2:Blk W2 p 179 #[.int .i64 (side:Int),.int .i64 ((m + 1:Nat):Int),.int .i64 (cnt:Int),.slice (some ⟨pg,0,none⟩) (k + 1) pc,lv1]:=hx2.blk.upd u2 (fun e => by have:=hx2.oa _ e;rw [hx2.op] at this;cases this)
   have r3:W2.cell? ⟨p,3,none⟩ = some (.slice (some ⟨pg,0,none⟩) n pc):=by rw [← hn];exact kb2.cell 3
   have g3:W2.frozen? ⟨p,3,none⟩ = false:=kb2.frozen 3
   rw [hn] at happ
   have HX3:=Lib.hid (show QuX (W2.setCell ⟨p,3,none⟩ (.slice A2 (k + 1 + 1) c2)) O2 p side (m + 1) cnt (k + 1 + 1) (qsC k 0 ++ four 0) 0 [] (.slice A2 (k + 1 + 1) c2) lv1∧Upd (fun b => O b ≠ none) w (W2.setCell ⟨p,3,none⟩ (.slice A2 (k + 1 + 1) c2))∧∀ b,O2 b ≠ none→O b ≠ none ∨ w.heap.size ≤ b from
    ⟨hx3,hu2.trans hu3 (fun b hb => HX1.out.2.2 b hb),fun b hb => by
     rcases hn3 b hb with h1 | h1
     ·exact HX1.out.2.2 b h1
     ·have:=hu2.size;exact .inr (by omega)⟩)
   obtain ⟨n2,hn2⟩:∃ n2,k + 1 + 1 = n2:=⟨_,rfl⟩
   rw [hn2] at HX3
   have hn2':n + 1 = n2:=by omega
   rw [hn2'] at happ
   have hfour:(four 0).toArray = #[.int .i64 0,.int .i64 0,.int .i64 0,.int .i64 0]:=rfl
   rw [hfour] at happ
   clear hx2 hu2 own2 u2 p2 hx3 hn3 hu3 kb2 hfour f3
   go_upto_region 8 with (first | (at_builtin;refine wpList_append_run rfl _ _ _ rfl rfl rfl happ ?_) | fail)
   generalize W2.setCell ⟨p,3,none⟩ (.slice A2 n2 c2) = W3 at HX3 ⊢
   clear q3 qk r3 g3 happ
   obtain ⟨hx3,hu3,hn3⟩:=HX3.out
   obtain ⟨pg2,pc2,e2,-,-,-,-,-⟩:=own_cells hx3.rp (by omega)
   injection e2 with e2 e3 e4
   subst e2
   subst e4
   clear e3
   have hk4:(qsC k 0 ++ four 0)[k * 4]? = some (.int .i64 0):=by rw [List.getElem?_append_left (by rw [qsC_len];omega)];exact qsC_last
   have c0:=hx3.cellP (by omega) hk4
   have q3:W3.drew.cell? ⟨p,3,none⟩ = some (.slice (some ⟨pg2,0,none⟩) n2 c2):=hx3.blk.cell 3
   have qk:W3.drew.cell? ⟨pg2,k * 4,none⟩ = some (.int .i64 0):=c0.1
   have fk:W3.drew.frozen? ⟨pg2,k * 4,none⟩ = false:=c0.2
   obtain ⟨hx4,hu4⟩:=hx3.setP (i:=k * 4) (by omega) (.int .i64 ((k:Int) + 2))
   have hst:=qsC_step k
   have hx4':QuX (W3.setCell ⟨pg2,k * 4,none⟩ (.int .i64 ((k:Int) + 2))).drew O2 p side (m + 1) cnt (k + 1 + 1) (qsC (k + 1) 0) 0 [] (.slice (some ⟨pg2,0,none⟩) n2 c2) lv1:=by
    rw [hst] at hx4
    rw [hn2]
    exact hx4.below (Below.refl _ _).drew
   have HX4:=Lib.hid (show QuX (W3.setCell ⟨pg2,k * 4,none⟩ (.int .i64 ((k:Int) + 2))).drew O2 p side (m + 1) cnt (k + 1 + 1) (qsC (k + 1) 0) 0 [] (.slice (some ⟨pg2,0,none⟩) n2 c2) lv1∧Upd (fun b => O b ≠ none) w (W3.setCell ⟨pg2,k * 4,none⟩ (.int .i64 ((k:Int) + 2))).drew∧∀ b,O2 b ≠ none→O b ≠ none ∨ w.heap.size ≤ b from ⟨hx4',(hu3.trans hu4 (fun b hb => hn3 b hb)).drew,hn3⟩)
   have hn2I:=Lib.hid (show ((n2:Nat):Int) = (k:Int) + 2 by omega)
   have hkn2:(k:Int) < (n2:Int):=by omega
   clear hx3 hu3 hn3 hx4 hu4 hst hx4' c0 hk4 HX3 hn2 hn2'
   refine wp_region_ord (fun W => W.cell? ⟨p,3,none⟩ = some (.slice (some ⟨pg2,0,none⟩) n2 c2)) 13 [(0,true),(1,true),(2,true),(3,true),(4,true),(5,true),(6,true),(7,true),(8,true),(9,true),(10,true),(11,true),(12,true),(13,false)] (by kernel_rfl) (by kernel_rfl) (fun _ _ d _ _ h => by cases d <;> exact h) q3 ?_
   iterate 13 (refine ord_takeA rfl ?_;(try simp only [Act.put,gA,gS,gZ,sA,sZ,sS]))
   refine ord_do rfl rfl (fun K hK => ?_)
   go_simp
   rw [hn2I.out]
   refine hK _ _ (fun h => absurd rfl h) ?_
   clear hK K q3 qk fk
   (try simp only [Act.put,gA,gS,gZ,sA,sZ,sS])
   refine ord_done ?_
   generalize (W3.setCell ⟨pg2,k * 4,none⟩ (.int .i64 ((k:Int) + 2))).drew = W5 at HX4 ⊢
   have q5:W5.cell? ⟨p,3,none⟩ = some (.slice (some ⟨pg2,0,none⟩) n2 c2):=HX4.out.1.blk.cell 3
   have q6:W5.cell? ⟨pg2,k * 4,none⟩ = some (.int .i64 ((k:Int) + 2)):=by
    have h5:=HX4.out.1
    have hn3:k + 1 + 1 = n2:=by have:=hn2I.out;omega
    rw [hn3] at h5
    exact (h5.cellP (by omega) (qsC_in (by omega))).1
   have w0:IntKind.i64.wrap ((k:Int) + 1) = (k:Int) + 1:=IntWalk.i64_in _ (by omega)
   have w1:IntKind.i64.wrap ((l:Int) - 1) = (l:Int) - 1:=by rw [IntKind.wrap_i64];omega
   go_wp2
   go_roundw
   case rel => exact ⟨k + 1,by omega,by go_num,by congr 1;omega,Lib.hid ⟨O2,_,lv1,HX4.out.1,HX4.out.2.1,HX4.out.2.2⟩⟩
   case measure => simp [intOf] <;> omega
  ·obtain rfl:k = m:=by omega
   obtain rfl:l = 0:=by omega
   clear hwy
   go_wp2_with fail
   refine (way_any 0 (by decide) wr).mono ?_
   rintro e V1 ⟨rfl,b1⟩
   have hx2:=HX1.out.1.below b1
   have hu2:Upd (fun b => O b ≠ none) w V1:=HX1.out.2.1.trans (Upd.of_below b1 (fun _ => False)) (fun _ h => h.elim)
   have hsz:wr.heap.size ≤ V1.heap.size:=b1.size
   have q3:V1.cell? ⟨p,3,none⟩ = some (.slice (some ⟨pg,0,none⟩) n pc):=by rw [← hn];exact hx2.blk.cell 3
   have qk:V1.cell? ⟨pg,k * 4,none⟩ = some (.int .i64 0):=(hx2.cellP (by omega) qsC_last).1
   obtain ⟨A1,c1,rfl,-,-⟩:=own_form hx2.rl
   have q4:V1.cell? ⟨p,4,none⟩ = some (.slice A1 0 c1):=hx2.blk.cell 4
   obtain ⟨v2,W2,happ,own2,u2,p2⟩:=push_own V1 0 177 168 64 512 _ Tryz.underlying177 info_blk rfl (by decide) (.slice A1 0 c1) 0 _ hx2.rl (wdC zero64) 1 (by simp [wdC_len,zero64_len]) (one_wd _) (by decide) (by decide) (Nat.zero_le _)
   rw [List.nil_append,Nat.zero_add] at own2
   obtain ⟨A2,c2,rfl,-,-⟩:=own_form own2
   obtain ⟨O2,hx3,hn3,hu3⟩:=hx2.pushL own2 u2 p2
   have kb2:Blk W2 p 179 #[.int .i64 (side:Int),.int .i64 ((k + 1:Nat):Int),.int .i64 (cnt:Int),.slice (some ⟨pg,0,none⟩) (k + 1) pc,.slice A1 0 c1]:=hx2.blk.upd u2 (fun e => by have:=hx2.ol _ e;rw [hx2.op] at this;cases this)
   have r4:W2.cell? ⟨p,4,none⟩ = some (.slice A1 0 c1):=kb2.cell 4
   have g4:W2.frozen? ⟨p,4,none⟩ = false:=kb2.frozen 4
   rw [← zl_eq] at happ
   have HX3:=Lib.hid (And.intro hx3 (And.intro (hu2.trans hu3 (fun b hb => HX1.out.2.2 b hb)) (show ∀ b,O2 b ≠ none→O b ≠ none ∨ w.heap.size ≤ b from fun b hb => by
     rcases hn3 b hb with h1 | h1
     ·exact HX1.out.2.2 b h1
     ·have:=hu2.size;exact .inr (by omega))))
   clear hx2 hu2 own2 u2 p2 hx3 hn3 hu3 kb2
   go_upto_region 13 with (first | (at_builtin;refine wpList_append_run rfl _ _ _ rfl rfl rfl happ ?_) | fail)
   generalize W2.setCell ⟨p,4,none⟩ (.slice A2 1 c2) = W3 at HX3 ⊢
   clear q3 qk q4 r4 g4 happ
   obtain ⟨hx3,hu3,hn3⟩:=HX3.out
   have c0:=hx3.cellP (by omega) (qsC_last (m:=k) (last:=0))
   have q3:W3.drew.cell? ⟨p,3,none⟩ = some (.slice (some ⟨pg,0,none⟩) n pc):=by rw [← hn];exact hx3.blk.cell 3
   have q4:W3.drew.cell? ⟨p,4,none⟩ = some (.slice A2 1 c2):=hx3.blk.cell 4
   have qk:W3.drew.cell? ⟨pg,k * 4,none⟩ = some (.int .i64 0):=c0.1
   have fk:W3.drew.frozen? ⟨pg,k * 4,none⟩ = false:=c0.2
   obtain ⟨hx4,hu4⟩:=hx3.setP (i:=k * 4) (by omega) (.int .i64 1)
   rw [qsC_end] at hx4
   have HX4:=Lib.hid (And.intro (hx4.below (show Below _ _ (W3.setCell ⟨pg,k * 4,none⟩ (.int .i64 1)).drew from (Below.refl _ _).drew)) (And.intro ((hu3.trans hu4 (fun b hb => hn3 b hb)).drew) hn3))
   have hS:W3.drew.cell? ⟨p,3,none⟩ = some (.slice (some ⟨pg,0,none⟩) n pc)∧W3.drew.cell? ⟨p,4,none⟩ = some (.slice A2 1 c2):=⟨q3,q4⟩
   clear hx3 hu3 hn3 hx4 hu4 c0 HX3 q3 q4
   refine wp_region_ord (fun W => W.cell? ⟨p,3,none⟩ = some (.slice (some ⟨pg,0,none⟩) n pc)∧W.cell? ⟨p,4,none⟩ = some (.slice A2 1 c2)) 13 [(0,true),(1,true),(2,true),(3,true),(4,true),(5,true),(6,true),(7,true),(8,true),(9,true),(10,true),(11,true),(12,true),(13,false)] (by kernel_rfl) (by kernel_rfl) (fun _ _ d _ _ h => by cases d <;> exact h) hS ?_
   iterate 13 (refine ord_takeA rfl ?_;(try simp only [Act.put,gA,gS,gZ,sA,sZ,sS]))
   refine ord_do rfl rfl (fun K hK => ?_)
   go_simp
   refine hK _ _ (fun h => absurd rfl h) ?_
   clear hK K hS qk fk
   (try simp only [Act.put,gA,gS,gZ,sA,sZ,sS])
   refine ord_done ?_
   generalize (W3.setCell ⟨pg,k * 4,none⟩ (.int .i64 1)).drew = W5 at HX4 ⊢
   have q5:W5.cell? ⟨p,3,none⟩ = some (.slice (some ⟨pg,0,none⟩) n pc):=by rw [← hn];exact HX4.out.1.blk.cell 3
   have q6:W5.cell? ⟨pg,k * 4,none⟩ = some (.int .i64 1):=(HX4.out.1.cellP (by omega) qsC_last).1
   have FIN:=Lib.hid (show GrowP w O p side (k + 1) cnt zero64 (.returned (.int .i64 0)) W5 from ⟨rfl,O2,_,_,by
    have h5:=HX4.out.1
    have e:wdC zero64 = lfC [zero64]:=by simp [lfC]
    rw [e] at h5
    exact h5.i,HX4.out.2.1,HX4.out.2.2⟩)
   clear HX4
   go_wp2
   go_ret
   first | exact FIN.out | (rw [← hn];exact FIN.out)
end Go.Proofs.YtddffnonlmfhdaaGreatDoor
namespace Go.Proofs.YtddffnonlmfhdaaGreatDoor
open Go.RowKit
theorem low_bit (y:Nat):y % 2 = (y.testBit 0).toNat:=by
 rw [Nat.testBit_zero]
 rcases Nat.mod_two_eq_zero_or_one y with h | h <;> simp [h]
theorem pcN_or:∀ (k o x n:Nat),(∀ i,i < k→n.testBit i = !o.testBit i)→pcN k (o ||| x) = pcN k o + pcN k (x &&& n)
 | 0,_,_,_,_ => rfl
 | k + 1,o,x,n,h => by
  have ih:=pcN_or k (o / 2) (x / 2) (n / 2) (fun i hi => by
   have:=h (i + 1) (by omega)
   rwa [Nat.testBit_succ,Nat.testBit_succ] at this)
  have h0:=h 0 (by omega)
  have e1:(o ||| x) / 2 = o / 2 ||| x / 2:=Nat.or_div_two
  have e2:(x &&& n) / 2 = x / 2 &&& n / 2:=Nat.and_div_two
  have m1:(o ||| x) % 2 = o % 2 + (x &&& n) % 2:=by
   rw [low_bit (o ||| x),low_bit o,low_bit (x &&& n),Nat.testBit_or,Nat.testBit_and,h0]
   cases o.testBit 0 <;> cases x.testBit 0 <;> rfl
  rw [pcN,pcN,pcN,e1,e2,ih,m1]
  omega
theorem pcN_orN (o x:Nat) (ho:o < 18446744073709551616):pcN 64 (orN o x) = pcN 64 o + pcN 64 (lessN x o):=by
 refine pcN_or 64 o x _ (fun i hi => ?_)
 have h:=Nat.testBit_two_pow_sub_succ (x:=o) (n:=64) ho i
 have e:2 ^ 64 - (o + 1) = 18446744073709551615 - o:=by omega
 rw [e] at h
 rw [h]
 simp [hi]
theorem lenB_or:∀ {o x:List Nat},(∀ y ∈ o,y < 18446744073709551616)→o.length = x.length→lenB (List.zipWith orN o x) = lenB o + lenB (List.zipWith lessN x o)
 | [],[],_,_ => rfl
 | [],_ :: _,_,h => by simp at h
 | _ :: _,[],_,h => by simp at h
 | a :: o,b :: x,hf,h => by
  have ih:=lenB_or (o:=o) (x:=x) (fun y hy => hf y (by simp [hy])) (by simpa using h)
  have hp:=pcN_orN a b (hf a (by simp))
  unfold lenB at *
  simp only [List.zipWith_cons_cons,List.map_cons,List.sum_cons]
  omega
theorem own_setAll {w:World} {base e size n g cap:Nat} {xs ys:List Value} (h:w.ownsRow base e size (.slice (some ⟨g,0,none⟩) n cap) n xs) (hy:ys.length = n * size) :
  (w.setCells g 0 ys).ownsRow base e size (.slice (some ⟨g,0,none⟩) n cap) n ys:=by
 rcases h.2 with ⟨hv,-⟩ | ⟨g',cap',cur,hv,hb,hg,h1,h2,h3,h4⟩
 ·cases hv
 injection hv with hv _ hv3
 injection hv with hv
 injection hv with hv _ _
 subst hv;subst hv3
 have hle:n * size ≤ cap * size:=Nat.mul_le_mul_right _ h1
 obtain ⟨c',e1,e2,e3⟩:=setCells_heap g ys 0 w cur e hg (by omega)
 refine ⟨hy,.inr ⟨g,cap,c',rfl,hb,e1,h1,h2,by rw [e2];exact h3,?_⟩⟩
 rw [e3,List.take_zero,List.nil_append,← hy,List.take_left]
theorem QuX.setLeaf {w:World} {O:Nat→Option QRo} {p side dep cnt np g cap:Nat} {xs ls ys:List Value} {pv:Value} (h:QuX w O p side dep cnt np xs 1 ls pv (.slice (some ⟨g,0,none⟩) 1 cap)) (hy:ys.length = 64) :
  QuX (w.setCells g 0 ys) O p side dep cnt np xs 1 ys pv (.slice (some ⟨g,0,none⟩) 1 cap)∧Upd (fun k => O k ≠ none) w (w.setCells g 0 ys):=by
 have us:=Upd.setCells (F:=fun k => k = g) (a:=w) (b:=g) (.inl rfl) ys 0 (Upd.refl _ w)
 have hg:O g = some .l:=h.ol g rfl
 refine ⟨?_,us.mono (fun k _ e => by rw [e,hg];nofun)⟩
 constructor
 case blk => exact h.blk.upd us (fun e => by have:=hg;rw [← e,h.op] at this;cases this)
 case rl => exact own_setAll h.rl (by rw [hy])
 case rp => exact ownsRow_upd h.rp us fun k hk e => (by have:=h.oa k hk;rw [e,hg] at this;cases this)
 case op => exact h.op
 case oa => exact h.oa
 case ol => exact h.ol
 case lt => exact fun k hk => Nat.lt_of_lt_of_le (h.lt k hk) us.size
end Go.Proofs.YtddffnonlmfhdaaGreatDoor
namespace Go.Proofs.YtddffnonlmfhdaaGreatDoor
open Go.RowKit
section
variable {P:Program} {ops:Array Oper} {Q:Exit→Act→World→Prop} {S:World→Prop} {n:Nat}
theorem ord_load {i:Nat} {r:List (Nat × Bool)} {a:Act} {w:World} {oi:Oper} (hi:ops[i]? = some oi) (hw:Region.wanted oi (yielded ops a.tmps) = true) (ty:TypeId) (x:Operand) (ho:oi.op = .load ty x) (b o:Nat) (hx:a.eval x = .pointer (some ⟨b,o,none⟩)) (cs:List Value) (d:TypeDesc) (hS:∀ w,S w→w.rangeAt b o cs)
  (hu:P.underlying ty = some d) (hd:d.isRow = true) (hz:(P.info? ty).map (·.size) = some cs.length) (h:wpOrd P ops Q S n r (a.put oi.dst (.agg cs.toArray)) w):wpOrd P ops Q S n ((i,true) :: r) a w:=
 ⟨_,oi,hi,yieldsIf_load_mid hw ty x ho b o hx cs d hS hu hd hz,h⟩
end
def QTo (w:World) (F:Nat→Prop) (p side:Nat) (b:Option (List Nat)) (w':World):Prop:=∃ F',QuS w' F' p side b∧Upd F w w'∧∀ k,F' k→F k ∨ w.heap.size ≤ k
def oldW (b:Option (List Nat)):List Nat:=b.getD zero64
theorem oldW_wd {side dep cnt m:Nat} {last:Int} {L:List (List Nat)} {b:Option (List Nat)} (ok:QuOk side dep cnt m last L b):Wd (oldW b):=by
 cases b with
 | none => exact zero64_wd
 | some r => exact (ok.is r rfl).2.2.2.2
theorem lenB_zero:lenB zero64 = 0:=by decide +kernel
theorem oldW_cnt {side dep cnt m:Nat} {last:Int} {L:List (List Nat)} {b:Option (List Nat)} (ok:QuOk side dep cnt m last L b):cnt = lenB (oldW b):=by
 cases b with
 | none => rw [(ok.no rfl).2.2.2];exact lenB_zero.symm
 | some r => exact (ok.is r rfl).2.2.2.1
theorem grow_any (w:World) (O:Nat→Option QRo) (p side dep cnt m:Nat) (last:Int) (L:List (List Nat)) (pv lv:Value) (b:Option (List Nat)) (h:QuI w O p side dep cnt m last L pv lv) (ok:QuOk side dep cnt m last L b) :
  Calls Tryz.prog 144 #[.pointer (some ⟨p,0,none⟩),.int .i64 0,.int .i64 0] w (GrowP w O p side dep cnt (oldW b)):=by
 cases b with
 | none =>
  obtain ⟨rfl,rfl,rfl,-⟩:=ok.no rfl
  exact grow_empty w O p side dep cnt pv lv h ok.d1 ok.d2
 | some r =>
  obtain ⟨hm,rfl,rfl,-,-⟩:=ok.is r rfl
  exact grow_full w O p side dep cnt m r pv lv h hm ok.d2
theorem qor_any (w:World) (F:Nat→Prop) (p side:Nat) (b:Option (List Nat)) (h:QuS w F p side b) (x:List Nat) (hx:Wd x) (hne:x ≠ zero64) :
  Calls Tryz.prog 106 #[.pointer (some ⟨p,0,none⟩),.int .i64 0,.int .i64 0,wdV x] w (fun e w' => e = .returned (.bool (decide (0 < lenB (List.zipWith lessN x (oldW b)))))∧QTo w F p side (some (List.zipWith orN (oldW b) x)) w'):=by
 obtain ⟨O,dep,cnt,m,last,L,pv,lv,hq,ok,rfl⟩:=h
 have k0:=Blk.new w 168 (wdC x).toArray
 have u0:Below w.heap.size w (w.alloc (.cells (wdC x).toArray 168)):=(Below.refl _ _).alloc (Nat.le_refl _) _
 have hq0:=hq.upd (Upd.of_below u0 (fun _ => False)) (fun _ _ => id)
 have hgrow:=grow_any _ O p side dep cnt m last L pv lv b hq0 ok
 have hwo:=oldW_wd ok
 have hcnt:=oldW_cnt ok
 have hrg:=range_blk k0
 have hsz:=info_wd hx
 have hcl:=lenB_or hwo.fit (hwo.len.trans hx.len.symm)
 have hlb:=lenB_le (List.zipWith orN (oldW b) x)
 rw [List.length_zipWith,hwo.len,hx.len] at hlb
 obtain ⟨o,ho⟩:∃ o,oldW b = o:=⟨_,rfl⟩
 rw [ho] at hgrow hwo hcnt hcl hlb ⊢
 have heq:∀ W,(binOp .eql 168 (.agg (wdC x).toArray) (.agg #[Value.int .u64 0,.int .u64 0,.int .u64 0,.int .u64 0,.int .u64 0,.int .u64 0,.int .u64 0,.int .u64 0,.int .u64 0,.int .u64 0,.int .u64 0,.int .u64 0,.int .u64 0,.int .u64 0,.int .u64 0,.int .u64 0,.int .u64 0,.int .u64 0,.int .u64 0,.int .u64 0,.int .u64 0,.int .u64 0,.int .u64 0,.int .u64 0,.int .u64 0,.int .u64 0,.int .u64 0,.int .u64 0,.int .u64 0,.int .u64 0,.int .u64 0,.int .u64 0,.int .u64 0,.int .u64 0,.int .u64 0,.int .u64 0,.int .u64 0,.int .u64 0,.int .u64 0,.int .u64 0,.int .u64 0,.int .u64 0,.int .u64 0,.int .u64 0,.int .u64 0,.int .u64 0,.int .u64 0,.int .u64 0,.int .u64 0,.int .u64 0,.int .u64 0,.int .u64 0,.int .u64 0,.int .u64 0,.int .u64 0,.int .u64 0,.int .u64 0,.int .u64 0,.int .u64 0,.int .u64 0,.int .u64 0,.int .u64 0,.int .u64 0,.int .u64 0])).run Tryz.prog W = .ok (.bool false) W:=fun W => by
  have h2:=eql_blk W hx zero64_wd
  rw [decide_eq_false hne,← zl_eq] at h2
  exact h2
 have HK:=Lib.hid (And.intro k0 (And.intro u0 (And.intro ok (And.intro hx (And.intro hwo (And.intro hcnt hcl))))))
 have hOw:∀ k,O k ≠ none→k < w.heap.size:=hq.lt
 have HO:=Lib.hid hOw
 clear hq hq0 ok k0 u0 hne hx hwo hcnt hcl ho hOw
 unfold wdV
 go_enter Tryz.func106,Tryz.ntmps106
 go_upto_region 1 with (fail)
 generalize w.alloc (.cells (wdC x).toArray 168) = W0 at HK hgrow hrg ⊢
 go_wp2_with (first | (refine wpList_load_mid rfl 168 _ rfl w.heap.size 0 rfl (wdC x) (.array 64 166) hrg Tryz.underlying168 rfl hsz ?_) | fail)
 refine hgrow.mono ?_
 clear hgrow hrg heq
 rintro e W1 ⟨rfl,O1,pv1,lv1,hi1,hu1,hn1⟩
 have hx1:=hi1.x
 obtain ⟨lg,lc,e1,-,-,-,-,-⟩:=own_cells hx1.rl (by simp)
 subst e1
 have hgx:¬ O w.heap.size ≠ none:=fun e => by have:=HO.out _ e;omega
 have hbx:=HK.out.1.upd hu1 hgx
 have H1:=Lib.hid (And.intro hx1 (And.intro hu1 (And.intro hn1 hbx)))
 have SR:=Lib.hid (show ∀ W,Below W1.heap.size W1 W→(fun W => W.cell? ⟨p,4,none⟩ = some (.slice (some ⟨lg,0,none⟩) 1 lc)∧W.rangeAt w.heap.size 0 (wdC x)∧W.rangeAt lg 0 (wdC o)) W from fun W hb => by
  have hi:=hx1.below hb
  refine ⟨hi.blk.cell 4,range_blk (hbx.upd (Upd.of_below hb (fun _ => False)) id),fun j u hj => ?_⟩
  obtain ⟨g',c',e',-,-,-,-,hc'⟩:=own_cells hi.rl (by simp)
  injection e' with e'
  injection e' with e'
  injection e' with e'
  subst e'
  rw [Nat.zero_add]
  exact (hc' j u (by simpa [lfC] using hj)).1)
 have hS:=SR.out W1.drew (Below.refl _ W1).drew
 have hszo:=info_wd HK.out.2.2.2.2.1
 clear hi1 hx1 hu1 hn1 hbx hgx
 go_upto_region 4 with (fail)
 have B0:=Lib.hid (show Below W1.heap.size W1 W1.drew from (Below.refl _ _).drew)
 refine wp_region_ord (fun W => W.cell? ⟨p,4,none⟩ = some (.slice (some ⟨lg,0,none⟩) 1 lc)∧W.rangeAt w.heap.size 0 (wdC x)∧W.rangeAt lg 0 (wdC o)) 11 [(0,true),(1,true),(2,true),(3,true),(4,true),(5,true),(6,true),(7,true),(8,false),(9,false),(10,true)] (by kernel_rfl) (by kernel_rfl) (fun _ _ d _ _ h => by cases d <;> exact h) hS ?_
 generalize W1.drew = V0 at B0 hS ⊢
 (refine ord_load rfl (by first | with_reducible rfl | kernel_rfl) 168 _ rfl w.heap.size 0 rfl (wdC x) (.array 64 166) (fun _ h => h.2.1) Tryz.underlying168 rfl hsz ?_;(try simp only [Act.put,gA,gS,gZ,sA,sZ,sS]))
 iterate 6 (refine ord_takeA rfl ?_;(try simp only [Act.put,gA,gS,gZ,sA,sZ,sS]))
 (refine ord_load rfl (by first | with_reducible rfl | kernel_rfl) 168 _ rfl lg 0 rfl (wdC o) (.array 64 166) (fun _ h => h.2.2) Tryz.underlying168 rfl hszo ?_;(try simp only [Act.put,gA,gS,gZ,sA,sZ,sS]))
 refine ord_do rfl rfl (fun K hK => ?_)
 have hcon:=bless_any V0 x o HK.out.2.2.2.1 HK.out.2.2.2.2.1
 unfold wdV at hcon
 go_simp
 refine hcon.mono ?_
 clear hcon
 rintro e V1 ⟨rfl,b1⟩
 have B1:=Lib.hid (B0.out.trans (b1.mono B0.out.size))
 refine hK _ _ (fun _ => SR.out _ B1.out) ?_
 clear hK K hS b1
 (try simp only [Act.put,gA,gS,gZ,sA,sZ,sS])
 refine ord_do rfl rfl (fun K hK => ?_)
 have hcon:=blen_any V1 (List.zipWith lessN x o) (less_wd HK.out.2.2.2.1 HK.out.2.2.2.2.1)
 unfold wdV at hcon
 go_simp
 refine hcon.mono ?_
 clear hcon
 rintro e V2 ⟨rfl,b2⟩
 have B2:=Lib.hid (B1.out.trans (b2.mono B1.out.size))
 have hS:=SR.out _ B2.out
 refine hK _ _ (fun _ => hS) ?_
 clear hK K b2
 (try simp only [Act.put,gA,gS,gZ,sA,sZ,sS])
 (refine ord_takeA rfl ?_;(try simp only [Act.put,gA,gS,gZ,sA,sZ,sS]))
 refine ord_done ?_
 clear hS
 go_upto_region 5 with (fail)
 have B3:=Lib.hid (show Below W1.heap.size W1 V2.drew from B2.out.drew)
 have hS:=SR.out _ B3.out
 have hnw:Wd (List.zipWith orN o x):=or_wd HK.out.2.2.2.2.1 HK.out.2.2.2.1
 refine wp_region_ord (fun W => W.cell? ⟨p,4,none⟩ = some (.slice (some ⟨lg,0,none⟩) 1 lc)∧W.rangeAt w.heap.size 0 (wdC x)∧W.rangeAt lg 0 (wdC o)) 15 [(0,true),(1,true),(2,true),(3,true),(4,true),(5,true),(6,true),(7,true),(8,true),(9,true),(10,true),(11,true),(12,true),(13,false),(14,true),(15,false)] (by kernel_rfl) (by kernel_rfl) (fun _ _ d _ _ h => by cases d <;> exact h) hS ?_
 generalize V2.drew = V3 at B3 hS ⊢
 iterate 11 (refine ord_takeA rfl ?_;(try simp only [Act.put,gA,gS,gZ,sA,sZ,sS]))
 (refine ord_load rfl (by first | with_reducible rfl | kernel_rfl) 168 _ rfl lg 0 rfl (wdC o) (.array 64 166) (fun _ h => h.2.2) Tryz.underlying168 rfl hszo ?_;(try simp only [Act.put,gA,gS,gZ,sA,sZ,sS]))
 (refine ord_load rfl (by first | with_reducible rfl | kernel_rfl) 168 _ rfl w.heap.size 0 rfl (wdC x) (.array 64 166) (fun _ h => h.2.1) Tryz.underlying168 rfl hsz ?_;(try simp only [Act.put,gA,gS,gZ,sA,sZ,sS]))
 refine ord_do rfl rfl (fun K hK => ?_)
 have hcon:=bor_any V3 o x HK.out.2.2.2.2.1 HK.out.2.2.2.1
 unfold wdV at hcon
 go_simp
 refine hcon.mono ?_
 clear hcon
 rintro e V4 ⟨rfl,b4⟩
 have B4:=Lib.hid (B3.out.trans (b4.mono B3.out.size))
 have hS:=SR.out _ B4.out
 refine hK _ _ (fun _ => hS) ?_
 clear hK K b4
 (try simp only [Act.put,gA,gS,gZ,sA,sZ,sS])
 (refine ord_takeA rfl ?_;(try simp only [Act.put,gA,gS,gZ,sA,sZ,sS]))
 have hx4:=H1.out.1.below B4.out
 have hth:V4.there lg 0 (wdC (List.zipWith orN o x)).toArray.size:=fun i hi => by
  obtain ⟨g',c',e',-,-,-,-,hc'⟩:=own_cells hx4.rl (by simp)
  injection e' with e'
  injection e' with e'
  injection e' with e'
  subst e'
  have hi:i < 64:=by simpa [wdC_len,hnw.len] using hi
  obtain ⟨y,hy⟩:∃ y,o[i]? = some y:=⟨o[i]'(by rw [HK.out.2.2.2.2.1.len];exact hi),List.getElem?_eq_getElem _⟩
  have:=hc' i _ (by simpa [lfC] using wdC_at hy)
  rw [Nat.zero_add]
  exact ⟨by rw [this.1];rfl,this.2⟩
 have hsz2:(Tryz.prog.info? 168).map (·.size) = some (wdC (List.zipWith orN o x)).toArray.size:=by simpa using info_wd hnw
 have h1c:(wdC (List.zipWith orN o x)).toArray.all (·.oneCell') = true:=all_oneCell_toArray (one_wd _)
 obtain ⟨hx5,hu5⟩:=hx4.setLeaf (ys:=wdC (List.zipWith orN o x)) (by rw [wdC_len,hnw.len])
 have H5:=Lib.hid (And.intro hx5 hu5)
 have HN:=Lib.hid hnw
 refine ord_do rfl rfl (fun K hK => ?_)
 refine wp_store_mid 168 _ _ rfl lg 0 (wdC (List.zipWith orN o x)).toArray rfl rfl hth hsz2 h1c ?_
 refine hK _ _ (fun h => absurd rfl h) ?_
 clear hK K hS hth hsz2 h1c hx4 hx5 hu5 hnw
 (try simp only [Act.put,gA,gS,gZ,sA,sZ,sS])
 refine ord_done ?_
 generalize V4.setCells lg 0 (wdC (List.zipWith orN o x)) = W5 at H5 ⊢
 have q2:W5.cell? ⟨p,2,none⟩ = some (.int .i64 (cnt:Int)):=H5.out.1.blk.cell 2
 have f2:W5.frozen? ⟨p,2,none⟩ = false:=H5.out.1.blk.frozen 2
 have hc1:=HK.out.2.2.2.2.2.1
 have hc2:=HK.out.2.2.2.2.2.2
 obtain ⟨more,hmo⟩:∃ q,lenB (List.zipWith lessN x o) = q:=⟨_,rfl⟩
 obtain ⟨all,hal⟩:∃ q,lenB (List.zipWith orN o x) = q:=⟨_,rfl⟩
 have HMO:=Lib.hid hmo
 rw [hmo,hal] at hc2
 rw [hal] at hlb
 rw [hmo]
 have hlb':all ≤ 4096:=by simpa using hlb
 have hcm:cnt + more = all:=by omega
 have hadd:IntKind.i64.wrap ((cnt:Int) + (more:Int)) = (all:Int):=by rw [IntKind.wrap_i64];omega
 have us:=(Upd.refl (fun k => k = p) W5).setCell (p:=⟨p,2,none⟩) (.inl rfl) (.int .i64 (all:Int))
 have FIN:=Lib.hid (show QTo w (fun k => O k ≠ none) p side (some (List.zipWith orN o x)) (W5.setCell ⟨p,2,none⟩ (.int .i64 (all:Int))) from by
  have h5:=H5.out.1
  have e:wdC (List.zipWith orN o x) = lfC [List.zipWith orN o x]:=by simp [lfC]
  rw [e] at h5
  have h6:=(QuX.i (L:=[List.zipWith orN o x]) h5).setC all
  have ok:=HK.out.2.2.1
  refine ⟨_,⟨O1,dep,all,dep - 1,1,_,pv1,_,h6,⟨ok.s1,ok.s2,ok.d1,ok.d2,fun e => (by cases e),fun r e => ?_⟩,rfl⟩,?_,fun k hk => ?_⟩
  ·injection e with e
   subst e
   exact ⟨by have:=ok.d1;omega,rfl,rfl,hal.symm,HN.out⟩
  ·have u1:=(Upd.of_below HK.out.2.1 (fun k => O k ≠ none)).trans H1.out.2.1 (fun k h => .inl h)
   have u2:=u1.trans (Upd.of_below B4.out (fun _ => False)) (fun _ h => h.elim)
   have hn:∀ k,O1 k ≠ none→O k ≠ none ∨ w.heap.size ≤ k:=fun k hk => by
    rcases H1.out.2.2.1 k hk with h | h
    ·exact .inl h
    ·exact .inr (Nat.le_trans HK.out.2.1.size h)
   exact (u2.trans H5.out.2 hn).trans us (fun k hk => hn k (by rw [hk,H5.out.1.op];nofun))
  ·rcases H1.out.2.2.1 k hk with h | h
   ·exact .inl h
   ·exact .inr (Nat.le_trans HK.out.2.1.size h))
 clear us hc1 hc2 hlb hlb' hmo hal hcm SR
 go_wp2
 go_ret
 exact ⟨by rw [HMO.out];rfl,FIN.out⟩
end Go.Proofs.YtddffnonlmfhdaaGreatDoor
