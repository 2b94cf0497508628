/- Matrices of bits: their rows as they grow; Matrices of bits: grow, at the corner; Matrices of bits: grow, at the corner, without a leaf; Blocks of bits: how many cells an union has; a row of blocks written over (the plain law); Matrices of bits: or, at the corner; Matrices of bits: Set, at the corner; Sorting at most one block; The lowest bit of a word; Going down a matrix: nothing, where it is empty; A block and its place as one value; a row of one of them; Going down a matrix: at its block; Going down a matrix: the walk at its block; Going down a matrix: all the way; All blocks of a matrix: at most one; All blocks of a matrix: none, or what there is; The iterators over cells: what the makers hand back; The bits of a word, lowest first (plain); A region that draws its order, in a round of a loop over a function (at the wide fence): the walk of Ord serves there as well. Nothing here names the program; A range over a function at the wide fence: the loop's variables may be boxed by each round; the law in a form to apply. Nothing here names the program. -/
import Derived.Test.YteffnejneoocgaaGreatDoorF05
import Derived.Test.YteffnejneoocgaaGreatDoorF03
import Derived.Shelf.Spec.TrailingZeros
import Derived.Great.FillDense
import Derived.Great.BuildSlice
import Derived.Laws.EntriesVeiled
import Derived.OrdersIn
import Derived.RangeFuncNested
import Derived.Test.YteffnejneoocgaaGreatDoorF01
import Derived.RangeFuncBound
import Derived.RangeFuncCalls
import Derived.RangeFuncLeaves
import Derived.RangeFuncBox
set_option linter.unusedVariables false
set_option linter.unusedSimpArgs false
set_option maxHeartbeats 16000000
set_option maxRecDepth 100000
namespace Go.Proofs.YteffnejneoocgaaGreatDoor
open Go.RowKit
structure QuX(w:World)(O:Nat→Option QRo)(p side dep cnt np:Nat)(xs:List Value)(nl:Nat)(ls:List Value)(pv lv:Value):Prop where
 blk:Blk w p 150 #[.int .i64 (side:Int),.int .i64 (dep:Int),.int .i64 (cnt:Int),pv,lv]
 rp:w.ownsRow 0 199 4 pv np xs
 rl:w.ownsRow 0 164 64 lv nl ls
 op:O p=some .p
 oa:∀k,pv.ownBlock=some k→O k=some .a
 ol:∀k,lv.ownBlock=some k→O k=some .l
 lt:∀k,O k≠none→k<w.heap.size
theorem QuI.x{w:World}{O:Nat→Option QRo}{p side dep cnt m:Nat}{last:Int}{L:List (List Nat)}{pv lv:Value}(h:QuI w O p side dep cnt m last L pv lv):QuX w O p side dep cnt (m+1) (qsC m last) L.length (lfC L) pv lv:=⟨h.blk,h.rp,h.rl,h.op,h.oa,h.ol,h.lt⟩
theorem QuX.i{w:World}{O:Nat→Option QRo}{p side dep cnt m:Nat}{last:Int}{L:List (List Nat)}{pv lv:Value}(h:QuX w O p side dep cnt (m+1) (qsC m last) L.length (lfC L) pv lv):QuI w O p side dep cnt m last L pv lv:=⟨h.blk,h.rp,h.rl,h.op,h.oa,h.ol,h.lt⟩
theorem QuX.upd{w w':World}{O:Nat→Option QRo}{p side dep cnt np nl:Nat}{xs ls:List Value}{pv lv:Value}{G:Nat→Prop}(h:QuX w O p side dep cnt np xs nl ls pv lv)(hu:Upd G w w')(hd:∀k,O k≠none→¬G k):QuX w' O p side dep cnt np xs nl ls pv lv:=by
 have no:∀k t,O k=some t→¬G k:=fun k t e=>hd k (by simp[e])
 exact⟨h.blk.upd hu (no _ _ h.op),aB h.rp hu fun k hk=>no _ _ (h.oa k hk),aB h.rl hu fun k hk=>no _ _ (h.ol k hk),h.op,h.oa,h.ol,fun k hk=>Nat.lt_of_lt_of_le (h.lt k hk) hu.size⟩
theorem QuX.below{w w':World}{O:Nat→Option QRo}{p side dep cnt np nl:Nat}{xs ls:List Value}{pv lv:Value}(h:QuX w O p side dep cnt np xs nl ls pv lv)(hb:Below w.heap.size w w'):QuX w' O p side dep cnt np xs nl ls pv lv:=h.upd (upF hb) (fun _ _=>id)
theorem wC(m:Nat)(last:Int):(qsC m last).length=(m+1)*4:=by
 unfold qsC;rw[List.length_append,dL _ 4 (fun _=>rfl),List.length_range];show m*4+4=_
 omega
theorem JJ(m:Nat):(qsC m 0++iF 0).set (m*4) (.int .i64 ((m:Int)+2))=qsC (m+1) 0:=by
 have hl:((List.range m).flatMap fun (i:Nat)=>iF ((i:Int)+2)).length=m*4:=by rw[dL _ 4 (fun _=>rfl),List.length_range]
 unfold qsC;rw[List.append_assoc,List.set_append_right _ _ (by omega),hl,Nat.sub_self,List.range_succ,List.flatMap_append,List.flatMap_cons,List.flatMap_nil,List.append_nil,List.append_assoc];rfl
theorem OC(m:Nat):(qsC m 0).set (m*4) (.int .i64 1)=qsC m 1:=by
 have hl:((List.range m).flatMap fun (i:Nat)=>iF ((i:Int)+2)).length=m*4:=by rw[dL _ 4 (fun _=>rfl),List.length_range]
 unfold qsC;rw[List.set_append_right _ _ (by omega),hl,Nat.sub_self];rfl
theorem QuX.pushP{w w1:World}{O:Nat→Option QRo}{p side dep cnt np nl:Nat}{xs ls:List Value}{pv lv:Value}(h:QuX w O p side dep cnt np xs nl ls pv lv){nv:Value}{n':Nat}{ys:List Value}(own:w1.ownsRow 0 199 4 nv n' ys)(u:Upd (fun k=>pv.ownBlock=some k) w w1)
  (pl:∀k,nv.ownBlock=some k→pv.ownBlock=some k∨w.heap.size≤k):∃O',QuX (w1.setCell ⟨p,3,none⟩ nv) O' p side dep cnt n' ys nl ls nv lv∧(∀k,O' k≠none→O k≠none∨w.heap.size≤k)∧Upd (fun k=>O k≠none) w (w1.setCell ⟨p,3,none⟩ nv):=by
 have us:=(Upd.refl (fun k=>k=p) w1).setCell (p:=⟨p,3,none⟩) (.inl rfl) nv;have fresh:∀k,w.heap.size≤k→O k=none:=fun k hk=>by
  cases e:O k with
  | none=>rfl
  | some t=>have:=h.lt k (by simp[e]);omega
 have hn:∀k,nv.ownBlock=some k→O k=some .a∨O k=none:=fun k hk=>by
  rcases pl k hk with h1|h1
  ·exact .inl (h.oa k h1)
  ·exact .inr (fresh k h1)
 have keep:∀k t,O k=some t→(t=QRo.a→False)→(if nv.ownBlock=some k then some QRo.a else O k)=some t:=fun k t e ht=>by
  rw[if_neg,e];intro hk;rcases hn k hk with h1|h1
  ·rw[h1] at e;injection e with e;exact ht e.symm
  ·rw[h1] at e;cases e
 have bp:¬pv.ownBlock=some p:=fun e=>by have:=h.oa _ e;rw[h.op] at this;cases this
 have np':∀k,nv.ownBlock=some k→¬k=p:=fun k hk e=>by
  subst e;rcases hn k hk with h1|h1
  ·rw[h.op] at h1;cases h1
  ·rw[h.op] at h1;cases h1
 refine⟨fun k=>if nv.ownBlock=some k then some QRo.a else O k,?_,fun k hk=>?_,?_⟩
 ·constructor
  case blk=>exact(h.blk.upd u bp).set 3 nv
  case rp=>exact aB own us np'
  case rl=>exact aB (aB h.rl u fun k hk e=>(by have:=h.ol k hk;rw[h.oa k e] at this;cases this)) us fun k hk e=>(by have:=h.ol k hk;rw[e,h.op] at this;cases this)
  case op=>exact keep _ _ h.op nofun
  case oa=>exact fun k hk=>if_pos hk
  case ol=>exact fun k hk=>keep _ _ (h.ol k hk) nofun
  case lt =>
   intro k hk;(try dsimp only at hk)
   by_cases h1:nv.ownBlock=some k
   ·exact Nat.lt_of_lt_of_le (own.lt k h1).2 us.size
   ·rw[if_neg h1] at hk;exact Nat.lt_of_lt_of_le (h.lt k hk) (Nat.le_trans u.size us.size)
 ·(try dsimp only at hk)
  by_cases h1:nv.ownBlock=some k
  ·rcases pl k h1 with h2|h2
   ·exact .inl (by rw[h.oa k h2];nofun)
   ·exact .inr h2
  ·rw[if_neg h1] at hk;exact .inl hk
 ·exact(u.mono (fun k _ hk=>by rw[h.oa k hk];nofun)).trans us (fun k hk=>.inl (by rw[hk,h.op];nofun))
theorem QuX.pushL{w w1:World}{O:Nat→Option QRo}{p side dep cnt np nl:Nat}{xs ls:List Value}{pv lv:Value}(h:QuX w O p side dep cnt np xs nl ls pv lv){nv:Value}{n':Nat}{ys:List Value}(own:w1.ownsRow 0 164 64 nv n' ys)(u:Upd (fun k=>lv.ownBlock=some k) w w1)
  (pl:∀k,nv.ownBlock=some k→lv.ownBlock=some k∨w.heap.size≤k):∃O',QuX (w1.setCell ⟨p,4,none⟩ nv) O' p side dep cnt np xs n' ys pv nv∧(∀k,O' k≠none→O k≠none∨w.heap.size≤k)∧Upd (fun k=>O k≠none) w (w1.setCell ⟨p,4,none⟩ nv):=by
 have us:=(Upd.refl (fun k=>k=p) w1).setCell (p:=⟨p,4,none⟩) (.inl rfl) nv;have fresh:∀k,w.heap.size≤k→O k=none:=fun k hk=>by
  cases e:O k with
  | none=>rfl
  | some t=>have:=h.lt k (by simp[e]);omega
 have hn:∀k,nv.ownBlock=some k→O k=some .l∨O k=none:=fun k hk=>by
  rcases pl k hk with h1|h1
  ·exact .inl (h.ol k h1)
  ·exact .inr (fresh k h1)
 have keep:∀k t,O k=some t→(t=QRo.l→False)→(if nv.ownBlock=some k then some QRo.l else O k)=some t:=fun k t e ht=>by
  rw[if_neg,e];intro hk;rcases hn k hk with h1|h1
  ·rw[h1] at e;injection e with e;exact ht e.symm
  ·rw[h1] at e;cases e
 have bp:¬lv.ownBlock=some p:=fun e=>by have:=h.ol _ e;rw[h.op] at this;cases this
 have np':∀k,nv.ownBlock=some k→¬k=p:=fun k hk e=>by
  subst e;rcases hn k hk with h1|h1
  ·rw[h.op] at h1;cases h1
  ·rw[h.op] at h1;cases h1
 refine⟨fun k=>if nv.ownBlock=some k then some QRo.l else O k,?_,fun k hk=>?_,?_⟩
 ·constructor
  case blk=>exact(h.blk.upd u bp).set 4 nv
  case rl=>exact aB own us np'
  case rp=>exact aB (aB h.rp u fun k hk e=>(by have:=h.oa k hk;rw[h.ol k e] at this;cases this)) us fun k hk e=>(by have:=h.oa k hk;rw[e,h.op] at this;cases this)
  case op=>exact keep _ _ h.op nofun
  case ol=>exact fun k hk=>if_pos hk
  case oa=>exact fun k hk=>keep _ _ (h.oa k hk) nofun
  case lt =>
   intro k hk;(try dsimp only at hk)
   by_cases h1:nv.ownBlock=some k
   ·exact Nat.lt_of_lt_of_le (own.lt k h1).2 us.size
   ·rw[if_neg h1] at hk;exact Nat.lt_of_lt_of_le (h.lt k hk) (Nat.le_trans u.size us.size)
 ·(try dsimp only at hk)
  by_cases h1:nv.ownBlock=some k
  ·rcases pl k h1 with h2|h2
   ·exact .inl (by rw[h.ol k h2];nofun)
   ·exact .inr h2
  ·rw[if_neg h1] at hk;exact .inl hk
 ·exact(u.mono (fun k _ hk=>by rw[h.ol k hk];nofun)).trans us (fun k hk=>.inl (by rw[hk,h.op];nofun))
theorem QuX.setP{w:World}{O:Nat→Option QRo}{p side dep cnt np nl g cap:Nat}{xs ls:List Value}{lv:Value}(h:QuX w O p side dep cnt np xs nl ls (.slice (some ⟨g,0,none⟩) np cap) lv){i:Nat}(hi:i<np*4)(u:Value) :
  QuX (w.setCell ⟨g,i,none⟩ u) O p side dep cnt np (xs.set i u) nl ls (.slice (some ⟨g,0,none⟩) np cap) lv∧Upd (fun k=>O k≠none) w (w.setCell ⟨g,i,none⟩ u):=by
 have us:=(Upd.refl (fun k=>k=g) w).setCell (p:=⟨g,i,none⟩) (.inl rfl) u;have hg:O g=some .a:=h.oa g rfl;refine⟨?_,us.mono (fun k _ e=>by rw[e,hg];nofun)⟩;constructor
 case blk=>exact h.blk.upd us (fun e=>by have:=hg;rw[← e,h.op] at this;cases this)
 case rp=>exact cC h.rp hi u
 case rl=>exact aB h.rl us fun k hk e=>(by have:=h.ol k hk;rw[e,hg] at this;cases this)
 case op=>exact h.op
 case oa=>exact h.oa
 case ol=>exact h.ol
 case lt=>exact fun k hk=>Nat.lt_of_lt_of_le (h.lt k hk) us.size
open Go.RowKit
def DE(w:World)(O:Nat→Option QRo)(p side dep cnt:Nat)(r:List Nat)(e:Ending)(w':World):Prop:=
 e=.returned (.int .i64 0)∧∃O' pv' lv',QuI w' O' p side dep cnt (dep-1) 1 [r] pv' lv'∧Upd (fun k=>O k≠none) w w'∧∀k,O' k≠none→O k≠none∨w.heap.size≤k
theorem QuX.cellP{w:World}{O:Nat→Option QRo}{p side dep cnt np nl pg pc:Nat}{xs ls:List Value}{lv:Value}(h:QuX w O p side dep cnt np xs nl ls (.slice (some ⟨pg,0,none⟩) np pc) lv)(hn:0<np){i:Nat}{v:Value}(hi:xs[i]?=some v):w.cell? ⟨pg,i,none⟩=some v∧w.frozen? ⟨pg,i,none⟩=false:=by
 obtain⟨g',c',e',-,-,-,-,hc'⟩:=aN h.rp hn;injection e' with e';injection e' with e';injection e' with e';subst e';exact hc' i v hi
theorem DF(w:World)(O:Nat→Option QRo)(p side dep cnt m:Nat)(r:List Nat)(pv lv:Value)(h:QuI w O p side dep cnt m 1 [r] pv lv)(hd:m+1=dep)(hd4:dep≤4) :
  Calls Tryz.prog 167 #[.pointer (some ⟨p,0,none⟩),.int .i64 0,.int .i64 0] w (DE w O p side dep cnt r):=by
 have hx:=h.x;have q1:w.cell? ⟨p,1,none⟩=some (.int .i64 (dep:Int)):=h.blk.cell 1;obtain⟨pg,pc,e,-,-,-,-,-⟩:=aN h.rp (by omega);subst e;have SR:=hIz (show ∀W,Below w.heap.size w W→∀k,k≤m→W.cell? ⟨p,3,none⟩=some (.slice (some ⟨pg,0,none⟩) (m+1) pc)∧W.cell? ⟨pg,k*4,none⟩=some (.int .i64 (if k<m then (k:Int)+2 else 1)) from fun W hb k hk=>by
  have hi:=hx.below hb;refine⟨hi.blk.cell 3,?_⟩;by_cases hkm:k<m
  ·rw[if_pos hkm];exact(hi.cellP (by omega) (DA hkm)).1
  ·obtain rfl:k=m:=by omega
   rw[if_neg hkm];exact(hi.cellP (by omega) iK).1)
 have HP:=hIz (show ∀W,Below w.heap.size w W→DE w O p side dep cnt r (.returned (.int .i64 0)) W from fun W hb=>⟨rfl,O,_,_,by
  have hm:dep-1=m:=by omega
  rw[hm];exact(hx.below hb).i,Upd.of_below hb _,fun _ hk=>.inl hk⟩)
 obtain⟨n,hn⟩:∃n,m+1=n:=⟨_,rfl⟩;rw[hn] at SR;have hw1:IntKind.i64.wrap ((dep:Int)-1)=(dep:Int)-1:=by rw[IntKind.wrap_i64];omega
 have hdm:(dep:Int)-1=(m:Int):=by omega
 rw[hdm] at hw1;have hw1:IntKind.i64.wrap ((dep:Int)-1)=(m:Int):=by rw[hdm];exact hw1
 clear h hx;go_enter Tryz.func167,Tryz.ntmps167;go_wp2_with fail;clear q1;go_loopw [7,8] (fun a l wr=>∃k:Nat,k≤m∧a=.int .i64 k∧l=.int .i64 ((m:Int)-k)∧Hid (Below w.heap.size w wr)) (fun _ l _=>(intOf l).toNat)
 case atStart=>exact⟨0,Nat.zero_le _,rfl,by simp,hIz bR⟩
 case round =>
  obtain⟨k,hk,rfl,rfl,hb⟩:=hrel;obtain⟨l,hl0⟩:∃l:Nat,(m:Int)-(k:Int)=(l:Int):=⟨m-k,by omega⟩;rw[hl0];have hl10:l≤10:=by omega
  have hkn:(k:Int)<(n:Int):=by omega
  have hwy:=nY l hl10 wr;by_cases hlt:k<m
  ·have hlp:0<l:=by omega
   go_wp2_with fail;refine hwy.mono ?_;clear hwy;rintro e V1 ⟨rfl,b1⟩;have HB1:=hIz (tHn hb.out b1);obtain⟨q3,qk⟩:=SR.out V1 HB1.out k hk;rw[if_pos hlt] at qk;have z0:((k:Int)+2==0)=false:=by simp;omega
   have w0:IntKind.i64.wrap ((k:Int)+1)=(k:Int)+1:=IntWalk.i64_in _ (by omega);have w1:IntKind.i64.wrap ((l:Int)-1)=(l:Int)-1:=by rw[IntKind.wrap_i64];omega
   clear b1 hb;go_wp2;go_roundw
   case rel=>exact⟨k+1,by omega,by go_num,by congr 1;omega,HB1⟩
   case measure=>simp[intOf] <;> omega
  ·obtain rfl:k=m:=by omega
   obtain rfl:l=0:=by omega
   clear hwy;go_wp2_with fail;refine(nY 0 (by decide) wr).mono ?_;rintro e V1 ⟨rfl,b1⟩;have HB1:=hIz (tHn hb.out b1);obtain⟨q3,qk⟩:=SR.out V1 HB1.out k hk;rw[if_neg hlt] at qk;clear b1 hb;have FIN:=hIz (HP.out V1 HB1.out);go_wp2;go_ret;exact FIN.out
open Go.RowKit
theorem JK:(Tryz.prog.info? 164).map (fun i=>(i.zero,i.size,i.bytes))=some (some (.agg Z64),64,512):=by kernel_rfl
theorem JL(x:Int):∀u∈iF x,u.oneCell'=true:=fun u hu=>by
 simp only[iF,List.mem_cons,List.not_mem_nil,or_false] at hu
 rcases hu with rfl|rfl|rfl|rfl <;> rfl
theorem OD:(Z64:Array Value)=(wdC aV).toArray:=by kernel_rfl
theorem grow_empty(w:World)(O:Nat→Option QRo)(p side dep cnt:Nat)(pv lv:Value)(h:QuI w O p side dep cnt 0 0 [] pv lv)(hd:1≤dep)(hd4:dep≤4) :
  Calls Tryz.prog 167 #[.pointer (some ⟨p,0,none⟩),.int .i64 0,.int .i64 0] w (DE w O p side dep cnt aV):=by
 obtain⟨m,hm⟩:∃m,dep=m+1:=⟨dep-1,by omega⟩;subst hm;have q1:w.cell? ⟨p,1,none⟩=some (.int .i64 ((m+1:Nat):Int)):=h.blk.cell 1;have H0:=hIz h.x;have hw1:IntKind.i64.wrap (((m+1:Nat):Int)-1)=(m:Int):=by rw[IntKind.wrap_i64];omega
 generalize ((m+1:Nat):Int)=dI at q1 hw1;clear h;go_enter Tryz.func167,Tryz.ntmps167;go_wp2_with fail;clear q1;go_loopw [7,8] (fun a l wr=>∃k:Nat,k≤m∧a=.int .i64 k∧l=.int .i64 ((m:Int)-k)∧Hid (∃O1 pv1 lv1,QuX wr O1 p side (m+1) cnt (k+1) (qsC k 0) 0 [] pv1 lv1∧Upd (fun b=>O b≠none) w wr∧∀b,O1 b≠none→O b≠none∨w.heap.size≤b)) (fun _ l _=>(intOf l).toNat)
 case atStart=>exact⟨0,Nat.zero_le _,rfl,by simp,hIz ⟨O,pv,lv,H0.out,Upd.refl _ _,fun _ h=>.inl h⟩⟩
 case round =>
  obtain⟨k,hk,rfl,rfl,hq⟩:=hrel;obtain⟨l,hl0⟩:∃l:Nat,(m:Int)-(k:Int)=(l:Int):=⟨m-k,by omega⟩;rw[hl0];have hl10:l≤10:=by omega
  have hwy:=nY l hl10 wr;obtain⟨O1,pv1,lv1,hx1,hu1,hn1⟩:=hq.out;obtain⟨pg,pc,e,-,hpc,-,-,-⟩:=aN hx1.rp (by omega);subst e;have HX1:=aI3 hx1 hu1 hn1;obtain⟨n,hn⟩:∃n,k+1=n:=⟨_,rfl⟩;have hkn:(k:Int)<(n:Int):=by omega
  clear hq hx1 hu1 hn1;by_cases hlt:k<m
  ·have hlp:0<l:=by omega
   go_wp2_with fail;refine hwy.mono ?_;clear hwy;rintro e V1 ⟨rfl,b1⟩;have hx2:=HX1.out.1.below b1;have hu2:Upd (fun b=>O b≠none) w V1:=HX1.out.2.1.trans (upF b1) (fun _ h=>h.elim);have hsz:wr.heap.size≤V1.heap.size:=b1.size;have q3:V1.cell? ⟨p,3,none⟩=some (.slice (some ⟨pg,0,none⟩) n pc):=by rw[← hn];exact hx2.blk.cell 3
   have qk:V1.cell? ⟨pg,k*4,none⟩=some (.int .i64 0):=(hx2.cellP (by omega) iK).1;have f3:=hx2.blk.frozen 3;obtain⟨v2,W2,happ,own2,u2,p2⟩:=cI V1 0 147 199 4 32 _ Tryz.underlying147 tX rfl (by decide) (.slice (some ⟨pg,0,none⟩) (k+1) pc) (k+1) _ hx2.rp (iF 0) 1 rfl (JL 0) (by omega) (by unfold maxLen;omega) (Nat.zero_le _);obtain⟨A2,c2,rfl,-,-⟩:=aK own2;obtain⟨O2,hx3,hn3,hu3⟩:=hx2.pushP own2 u2 p2;have kb2:Blk W2 p 150 #[.int .i64 (side:Int),.int .i64 ((m+1:Nat):Int),.int .i64 (cnt:Int),.slice (some ⟨pg,0,none⟩) (k+1) pc,lv1]:=hx2.blk.upd u2 (fun e=>by have:=hx2.oa _ e;rw[hx2.op] at this;cases this);have r3:W2.cell? ⟨p,3,none⟩=some (.slice (some ⟨pg,0,none⟩) n pc):=by rw[← hn];exact kb2.cell 3
   have g3:W2.frozen? ⟨p,3,none⟩=false:=kb2.frozen 3;rw[hn] at happ;have HX3:=hIz (show QuX (W2.setCell ⟨p,3,none⟩ (.slice A2 (k+1+1) c2)) O2 p side (m+1) cnt (k+1+1) (qsC k 0++iF 0) 0 [] (.slice A2 (k+1+1) c2) lv1∧Upd (fun b=>O b≠none) w (W2.setCell ⟨p,3,none⟩ (.slice A2 (k+1+1) c2))∧∀b,O2 b≠none→O b≠none∨w.heap.size≤b from
    ⟨hx3,hu2.trans hu3 (fun b hb=>HX1.out.2.2 b hb),fun b hb=>by
     rcases hn3 b hb with h1|h1
     ·exact HX1.out.2.2 b h1
     ·have:=hu2.size;exact .inr (by omega)⟩)
   obtain⟨n2,hn2⟩:∃n2,k+1+1=n2:=⟨_,rfl⟩;rw[hn2] at HX3;have hn2':n+1=n2:=by omega
   rw[hn2'] at happ;have hfour:(iF 0).toArray=#[.int .i64 0,.int .i64 0,.int .i64 0,.int .i64 0]:=rfl;rw[hfour] at happ;clear hx2 hu2 own2 u2 p2 hx3 hn3 hu3 kb2 hfour f3;go_upto_region 8 with (first | (at_builtin;refine wpList_append_run rfl _ _ _ rfl rfl rfl happ ?_) | fail);generalize W2.setCell ⟨p,3,none⟩ (.slice A2 n2 c2)=W3 at HX3 ⊢;clear q3 qk r3 g3 happ;obtain⟨hx3,hu3,hn3⟩:=HX3.out;obtain⟨pg2,pc2,e2,-,-,-,-,-⟩:=aN hx3.rp (by omega);injection e2 with e2 e3 e4;subst e2;subst e4;clear e3;have hk4:(qsC k 0++iF 0)[k*4]?=some (.int .i64 0):=by rw[List.getElem?_append_left (by rw[wC];omega)];exact iK
   have c0:=hx3.cellP (by omega) hk4;have q3:W3.drew.cell? ⟨p,3,none⟩=some (.slice (some ⟨pg2,0,none⟩) n2 c2):=hx3.blk.cell 3;have qk:W3.drew.cell? ⟨pg2,k*4,none⟩=some (.int .i64 0):=c0.1;have fk:W3.drew.frozen? ⟨pg2,k*4,none⟩=false:=c0.2;obtain⟨hx4,hu4⟩:=hx3.setP (i:=k*4) (by omega) (.int .i64 ((k:Int)+2));have hst:=JJ k;have hx4':QuX (W3.setCell ⟨pg2,k*4,none⟩ (.int .i64 ((k:Int)+2))).drew O2 p side (m+1) cnt (k+1+1) (qsC (k+1) 0) 0 [] (.slice (some ⟨pg2,0,none⟩) n2 c2) lv1:=by
    rw[hst] at hx4;rw[hn2];exact hx4.below bR.drew
   have HX4:=hIz (show QuX (W3.setCell ⟨pg2,k*4,none⟩ (.int .i64 ((k:Int)+2))).drew O2 p side (m+1) cnt (k+1+1) (qsC (k+1) 0) 0 [] (.slice (some ⟨pg2,0,none⟩) n2 c2) lv1∧Upd (fun b=>O b≠none) w (W3.setCell ⟨pg2,k*4,none⟩ (.int .i64 ((k:Int)+2))).drew∧∀b,O2 b≠none→O b≠none∨w.heap.size≤b from⟨hx4',(hu3.trans hu4 (fun b hb=>hn3 b hb)).drew,hn3⟩);have hn2I:=hIz (show((n2:Nat):Int)=(k:Int)+2 by omega);have hkn2:(k:Int)<(n2:Int):=by omega
   clear hx3 hu3 hn3 hx4 hu4 hst hx4' c0 hk4 HX3 hn2 hn2';refine aT (fun W=>W.cell? ⟨p,3,none⟩=some (.slice (some ⟨pg2,0,none⟩) n2 c2)) 13 [(0,true),(1,true),(2,true),(3,true),(4,true),(5,true),(6,true),(7,true),(8,true),(9,true),(10,true),(11,true),(12,true),(13,false)] (by kernel_rfl) (by kernel_rfl) (fun _ _ d _ _ h=>by cases d <;> exact h) q3 ?_
   iterate 13 refine aC rfl ?_
   refine aM rfl rfl (fun K hK=>?_);go_simp;rw[hn2I.out];refine hK _ _ (fun h=>absurd rfl h) ?_;clear hK K q3 qk fk;(try simp only[Act.put,gA,gS,gZ,sA,sZ,sS])
   refine aG ?_;generalize (W3.setCell ⟨pg2,k*4,none⟩ (.int .i64 ((k:Int)+2))).drew=W5 at HX4 ⊢;have q5:W5.cell? ⟨p,3,none⟩=some (.slice (some ⟨pg2,0,none⟩) n2 c2):=HX4.out.1.blk.cell 3;have q6:W5.cell? ⟨pg2,k*4,none⟩=some (.int .i64 ((k:Int)+2)):=by
    have h5:=HX4.out.1;have hn3:k+1+1=n2:=by have:=hn2I.out;omega
    rw[hn3] at h5;exact(h5.cellP (by omega) (DA (by omega))).1
   have w0:IntKind.i64.wrap ((k:Int)+1)=(k:Int)+1:=IntWalk.i64_in _ (by omega);have w1:IntKind.i64.wrap ((l:Int)-1)=(l:Int)-1:=by rw[IntKind.wrap_i64];omega
   go_wp2;go_roundw
   case rel=>exact⟨k+1,by omega,by go_num,by congr 1;omega,hIz ⟨O2,_,lv1,HX4.out.1,HX4.out.2.1,HX4.out.2.2⟩⟩
   case measure=>simp[intOf] <;> omega
  ·obtain rfl:k=m:=by omega
   obtain rfl:l=0:=by omega
   clear hwy;go_wp2_with fail;refine(nY 0 (by decide) wr).mono ?_;rintro e V1 ⟨rfl,b1⟩;have hx2:=HX1.out.1.below b1;have hu2:Upd (fun b=>O b≠none) w V1:=HX1.out.2.1.trans (upF b1) (fun _ h=>h.elim);have hsz:wr.heap.size≤V1.heap.size:=b1.size;have q3:V1.cell? ⟨p,3,none⟩=some (.slice (some ⟨pg,0,none⟩) n pc):=by rw[← hn];exact hx2.blk.cell 3
   have qk:V1.cell? ⟨pg,k*4,none⟩=some (.int .i64 0):=(hx2.cellP (by omega) iK).1;obtain⟨A1,c1,rfl,-,-⟩:=aK hx2.rl;have q4:V1.cell? ⟨p,4,none⟩=some (.slice A1 0 c1):=hx2.blk.cell 4;obtain⟨v2,W2,happ,own2,u2,p2⟩:=cI V1 0 148 164 64 512 _ Tryz.underlying148 JK rfl (by decide) (.slice A1 0 c1) 0 _ hx2.rl (wdC aV) 1 (by simp[bJ,bG]) (gL _) (by decide) (by decide) (Nat.zero_le _);rw[List.nil_append,Nat.zero_add] at own2;obtain⟨A2,c2,rfl,-,-⟩:=aK own2;obtain⟨O2,hx3,hn3,hu3⟩:=hx2.pushL own2 u2 p2;have kb2:Blk W2 p 150 #[.int .i64 (side:Int),.int .i64 ((k+1:Nat):Int),.int .i64 (cnt:Int),.slice (some ⟨pg,0,none⟩) (k+1) pc,.slice A1 0 c1]:=hx2.blk.upd u2 (fun e=>by have:=hx2.ol _ e;rw[hx2.op] at this;cases this);have r4:W2.cell? ⟨p,4,none⟩=some (.slice A1 0 c1):=kb2.cell 4;have g4:W2.frozen? ⟨p,4,none⟩=false:=kb2.frozen 4;rw[← OD] at happ;have HX3:=aI3 hx3 (hu2.trans hu3 (fun b hb=>HX1.out.2.2 b hb)) (show ∀b,O2 b≠none→O b≠none∨w.heap.size≤b from fun b hb=>by
     rcases hn3 b hb with h1|h1
     ·exact HX1.out.2.2 b h1
     ·have:=hu2.size;exact .inr (by omega))
   clear hx2 hu2 own2 u2 p2 hx3 hn3 hu3 kb2;go_upto_region 13 with (first | (at_builtin;refine wpList_append_run rfl _ _ _ rfl rfl rfl happ ?_) | fail);generalize W2.setCell ⟨p,4,none⟩ (.slice A2 1 c2)=W3 at HX3 ⊢;clear q3 qk q4 r4 g4 happ;obtain⟨hx3,hu3,hn3⟩:=HX3.out;have c0:=hx3.cellP (by omega) (iK (m:=k) (last:=0));have q3:W3.drew.cell? ⟨p,3,none⟩=some (.slice (some ⟨pg,0,none⟩) n pc):=by rw[← hn];exact hx3.blk.cell 3
   have q4:W3.drew.cell? ⟨p,4,none⟩=some (.slice A2 1 c2):=hx3.blk.cell 4;have qk:W3.drew.cell? ⟨pg,k*4,none⟩=some (.int .i64 0):=c0.1;have fk:W3.drew.frozen? ⟨pg,k*4,none⟩=false:=c0.2;obtain⟨hx4,hu4⟩:=hx3.setP (i:=k*4) (by omega) (.int .i64 1);rw[OC] at hx4;have HX4:=aI3 (hx4.below (show Below _ _ (W3.setCell ⟨pg,k*4,none⟩ (.int .i64 1)).drew from bR.drew)) ((hu3.trans hu4 (fun b hb=>hn3 b hb)).drew) hn3;have hS:W3.drew.cell? ⟨p,3,none⟩=some (.slice (some ⟨pg,0,none⟩) n pc)∧W3.drew.cell? ⟨p,4,none⟩=some (.slice A2 1 c2):=⟨q3,q4⟩;clear hx3 hu3 hn3 hx4 hu4 c0 HX3 q3 q4;refine aF (fun W=>W.cell? ⟨p,3,none⟩=some (.slice (some ⟨pg,0,none⟩) n pc)∧W.cell? ⟨p,4,none⟩=some (.slice A2 1 c2)) 13 [(0,true),(1,true),(2,true),(3,true),(4,true),(5,true),(6,true),(7,true),(8,true),(9,true),(10,true),(11,true),(12,true),(13,false)] hS ?_
   iterate 13 refine aC rfl ?_
   refine aM rfl rfl (fun K hK=>?_);go_simp;refine hK _ _ (fun h=>absurd rfl h) ?_;clear hK K hS qk fk;(try simp only[Act.put,gA,gS,gZ,sA,sZ,sS])
   refine aG ?_;generalize (W3.setCell ⟨pg,k*4,none⟩ (.int .i64 1)).drew=W5 at HX4 ⊢;have q5:W5.cell? ⟨p,3,none⟩=some (.slice (some ⟨pg,0,none⟩) n pc):=by rw[← hn];exact HX4.out.1.blk.cell 3
   have q6:W5.cell? ⟨pg,k*4,none⟩=some (.int .i64 1):=(HX4.out.1.cellP (by omega) iK).1;have FIN:=hIz (show DE w O p side (k+1) cnt aV (.returned (.int .i64 0)) W5 from⟨rfl,O2,_,_,by
    have h5:=HX4.out.1;have e:wdC aV=lfC [aV]:=by simp[lfC]
    rw[e] at h5;exact h5.i,HX4.out.2.1,HX4.out.2.2⟩)
   clear HX4;go_wp2;go_ret
   first | exact FIN.out | (rw[← hn];exact FIN.out)
open Go.RowKit
theorem rP(y:Nat):y % 2=(y.testBit 0).toNat:=by
 rw[Nat.testBit_zero];rcases Nat.mod_two_eq_zero_or_one y with h|h <;> simp[h]
theorem MR:∀(k o x n:Nat),(∀i,i<k→n.testBit i=!o.testBit i)→pcN k (o ||| x)=pcN k o+pcN k (x &&& n)
 | 0,_,_,_,_=>rfl
 | k+1,o,x,n,h=>by
  have ih:=MR k (o / 2) (x / 2) (n / 2) (fun i hi=>by
   have:=h (i+1) (by omega);rwa [Nat.testBit_succ,Nat.testBit_succ] at this)
  have h0:=h 0 (by omega);have e1:(o ||| x) / 2=o / 2 ||| x / 2:=Nat.or_div_two;have e2:(x &&& n) / 2=x / 2 &&& n / 2:=Nat.and_div_two;have m1:(o ||| x) % 2=o % 2+(x &&& n) % 2:=by
   rw[rP (o ||| x),rP o,rP (x &&& n),Nat.testBit_or,Nat.testBit_and,h0];cases o.testBit 0 <;> cases x.testBit 0 <;> rfl
  rw[pcN,pcN,pcN,e1,e2,ih,m1];omega
theorem OE(o x:Nat)(ho:o<18446744073709551616):pcN 64 (orN o x)=pcN 64 o+pcN 64 (bL x o):=by
 refine MR 64 o x _ (fun i hi=>?_);have h:=Nat.testBit_two_pow_sub_succ (x:=o) (n:=64) ho i;have e:2 ^ 64-(o+1)=18446744073709551615-o:=by omega
 rw[e] at h;rw[h];simp[hi]
theorem rQ:∀{o x:List Nat},(∀y∈o,y<18446744073709551616)→o.length=x.length→eP (List.zipWith orN o x)=eP o+eP (List.zipWith bL x o)
 | [],[],_,_=>rfl
 | [],_::_,_,h=>by simp at h
 | _::_,[],_,h=>by simp at h
 | a::o,b::x,hf,h=>by
  have ih:=rQ (o:=o) (x:=x) (fun y hy=>hf y (by simp[hy])) (by simpa using h);have hp:=OE a b (hf a (by simp));unfold eP at *;simp only[List.zipWith_cons_cons,List.map_cons,List.sum_cons]
  omega
theorem zS{w:World}{base e size n g cap:Nat}{xs ys:List Value}(h:w.ownsRow base e size (.slice (some ⟨g,0,none⟩) n cap) n xs)(hy:ys.length=n*size) :
  (w.setCells g 0 ys).ownsRow base e size (.slice (some ⟨g,0,none⟩) n cap) n ys:=by
 rcases h.2 with ⟨hv,-⟩|⟨g',cap',cur,hv,hb,hg,h1,h2,h3,h4⟩
 ·cases hv
 injection hv with hv _ hv3;injection hv with hv;injection hv with hv _ _;subst hv;subst hv3;have hle:n*size≤cap*size:=Nat.mul_le_mul_right _ h1;obtain⟨c',e1,e2,e3⟩:=dC g ys 0 w cur e hg (by omega);refine⟨hy,.inr ⟨g,cap,c',rfl,hb,e1,h1,h2,by rw[e2];exact h3,?_⟩⟩;rw[e3,List.take_zero,List.nil_append,← hy,List.take_left]
theorem QuX.setLeaf{w:World}{O:Nat→Option QRo}{p side dep cnt np g cap:Nat}{xs ls ys:List Value}{pv:Value}(h:QuX w O p side dep cnt np xs 1 ls pv (.slice (some ⟨g,0,none⟩) 1 cap))(hy:ys.length=64) :
  QuX (w.setCells g 0 ys) O p side dep cnt np xs 1 ys pv (.slice (some ⟨g,0,none⟩) 1 cap)∧Upd (fun k=>O k≠none) w (w.setCells g 0 ys):=by
 have us:=Upd.setCells (F:=fun k=>k=g) (a:=w) (b:=g) (.inl rfl) ys 0 (Upd.refl _ w);have hg:O g=some .l:=h.ol g rfl;refine⟨?_,us.mono (fun k _ e=>by rw[e,hg];nofun)⟩;constructor
 case blk=>exact h.blk.upd us (fun e=>by have:=hg;rw[← e,h.op] at this;cases this)
 case rl=>exact zS h.rl (by rw[hy])
 case rp=>exact aB h.rp us fun k hk e=>(by have:=h.oa k hk;rw[e,hg] at this;cases this)
 case op=>exact h.op
 case oa=>exact h.oa
 case ol=>exact h.ol
 case lt=>exact fun k hk=>Nat.lt_of_lt_of_le (h.lt k hk) us.size
open Go.RowKit
section
variable {P:Program} {ops:Array Oper} {Q:Exit→Act→World→Prop} {S:World→Prop} {n:Nat}
theorem eZ{i:Nat}{r:List (Nat × Bool)}{a:Act}{w:World}{oi:Oper}(hi:ops[i]?=some oi)(hw:Region.wanted oi (yielded ops a.tmps)=true)(ty:TypeId)(x:Operand)(ho:oi.op=.load ty x)(b o:Nat)(hx:a.eval x=.pointer (some ⟨b,o,none⟩))(cs:List Value)(d:TypeDesc)(hS:∀w,S w→w.rangeAt b o cs)
  (hu:P.underlying ty=some d) (hd:d.isRow=true) (hz:(P.info? ty).map (·.size)=some cs.length) (h:fG P ops Q S n r (a.put oi.dst (.agg cs.toArray)) w):fG P ops Q S n ((i,true)::r) a w:=
 ⟨_,oi,hi,yieldsIf_load_mid hw ty x ho b o hx cs d hS hu hd hz,h⟩
end
def QTo(w:World)(F:Nat→Prop)(p side:Nat)(b:Option (List Nat))(w':World):Prop:=∃F',QuS w' F' p side b∧Upd F w w'∧∀k,F' k→F k∨w.heap.size≤k
def fI(b:Option (List Nat)):List Nat:=b.getD aV
theorem lW{side dep cnt m:Nat}{last:Int}{L:List (List Nat)}{b:Option (List Nat)}(ok:RF side dep cnt m last L b):Wd (fI b):=by
 cases b with
 | none=>exact eJ
 | some r=>exact(ok.is r rfl).2.2.2.2
theorem DG:eP aV=0:=by decide +kernel
theorem JM{side dep cnt m:Nat}{last:Int}{L:List (List Nat)}{b:Option (List Nat)}(ok:RF side dep cnt m last L b):cnt=eP (fI b):=by
 cases b with
 | none=>rw[(ok.no rfl).2.2.2];exact DG.symm
 | some r=>exact(ok.is r rfl).2.2.2.1
theorem JN(w:World)(O:Nat→Option QRo)(p side dep cnt m:Nat)(last:Int)(L:List (List Nat))(pv lv:Value)(b:Option (List Nat))(h:QuI w O p side dep cnt m last L pv lv)(ok:RF side dep cnt m last L b) :
  Calls Tryz.prog 167 #[.pointer (some ⟨p,0,none⟩),.int .i64 0,.int .i64 0] w (DE w O p side dep cnt (fI b)):=by
 cases b with
 | none =>
  obtain⟨rfl,rfl,rfl,-⟩:=ok.no rfl;exact grow_empty w O p side dep cnt pv lv h ok.d1 ok.d2
 | some r =>
  obtain⟨hm,rfl,rfl,-,-⟩:=ok.is r rfl;exact DF w O p side dep cnt m r pv lv h hm ok.d2
theorem DH(w:World)(F:Nat→Prop)(p side:Nat)(b:Option (List Nat))(h:QuS w F p side b)(x:List Nat)(hx:Wd x)(hne:x≠aV) :
  Calls Tryz.prog 146 #[.pointer (some ⟨p,0,none⟩),.int .i64 0,.int .i64 0,wdV x] w (fun e w'=>e=.returned (.bool (decide (0<eP (List.zipWith bL x (fI b)))))∧QTo w F p side (some (List.zipWith orN (fI b) x)) w'):=by
 obtain⟨O,dep,cnt,m,last,L,pv,lv,hq,ok,rfl⟩:=h;have k0:=Blk.new w 164 (wdC x).toArray;have u0:Below w.heap.size w (w.alloc (.cells (wdC x).toArray 164)):=bR.alloc (Nat.le_refl _) _;have hq0:=hq.upd (upF u0) (fun _ _=>id);have hgrow:=JN _ O p side dep cnt m last L pv lv b hq0 ok;have hwo:=lW ok;have hcnt:=JM ok;have hrg:=bS k0;have hsz:=bO hx;have hcl:=rQ hwo.fit (hwo.len.trans hx.len.symm);have hlb:=qU (List.zipWith orN (fI b) x);rw[List.length_zipWith,hwo.len,hx.len] at hlb;obtain⟨o,ho⟩:∃o,fI b=o:=⟨_,rfl⟩;rw[ho] at hgrow hwo hcnt hcl hlb ⊢;have heq:∀W,(binOp .eql 164 (.agg (wdC x).toArray) (.agg Z64)).run Tryz.prog W=.ok (.bool false) W:=fun W=>by
  have h2:=DD W hx eJ;rw[decide_eq_false hne,← OD] at h2;exact h2
 have HK:=aI7 k0 u0 ok hx hwo hcnt hcl;have hOw:∀k,O k≠none→k<w.heap.size:=hq.lt;have HO:=hIz hOw;clear hq hq0 ok k0 u0 hne hx hwo hcnt hcl ho hOw;unfold wdV;go_enter Tryz.func146,Tryz.ntmps146;go_upto_region 1 with (fail);generalize w.alloc (.cells (wdC x).toArray 164)=W0 at HK hgrow hrg ⊢;go_wp2_with (first | (refine wpList_load_mid rfl 164 _ rfl w.heap.size 0 rfl (wdC x) (.array 64 162) hrg Tryz.underlying164 rfl hsz ?_) | fail);refine hgrow.mono ?_;clear hgrow hrg heq;rintro e W1 ⟨rfl,O1,pv1,lv1,hi1,hu1,hn1⟩;have hx1:=hi1.x;obtain⟨lg,lc,e1,-,-,-,-,-⟩:=aN hx1.rl (by simp);subst e1;have hgx:¬O w.heap.size≠none:=fun e=>by have:=HO.out _ e;omega
 have hbx:=HK.out.1.upd hu1 hgx;have H1:=aI4 hx1 hu1 hn1 hbx;have SR:=hIz (show ∀W,Below W1.heap.size W1 W→(fun W=>W.cell? ⟨p,4,none⟩=some (.slice (some ⟨lg,0,none⟩) 1 lc)∧W.rangeAt w.heap.size 0 (wdC x)∧W.rangeAt lg 0 (wdC o)) W from fun W hb=>by
  have hi:=hx1.below hb;refine⟨hi.blk.cell 4,bS (hbx.upd (upF hb) id),fun j u hj=>?_⟩;obtain⟨g',c',e',-,-,-,-,hc'⟩:=aN hi.rl (by simp);injection e' with e';injection e' with e';injection e' with e';subst e';rw[Nat.zero_add];exact(hc' j u (by simpa[lfC] using hj)).1)
 have hS:=SR.out W1.drew (Below.refl _ W1).drew;have hszo:=bO HK.out.2.2.2.2.1;clear hi1 hx1 hu1 hn1 hbx hgx;go_upto_region 4 with (fail);have B0:=hIz (show Below W1.heap.size W1 W1.drew from bR.drew);refine aF (fun W=>W.cell? ⟨p,4,none⟩=some (.slice (some ⟨lg,0,none⟩) 1 lc)∧W.rangeAt w.heap.size 0 (wdC x)∧W.rangeAt lg 0 (wdC o)) 11 [(0,true),(1,true),(2,true),(3,true),(4,true),(5,true),(6,true),(7,true),(8,false),(9,false),(10,true)] hS ?_;generalize W1.drew=V0 at B0 hS ⊢;(refine eZ rfl (by first | with_reducible rfl | kernel_rfl) 164 _ rfl w.heap.size 0 rfl (wdC x) (.array 64 162) (fun _ h=>h.2.1) Tryz.underlying164 rfl hsz ?_;(try simp only[Act.put,gA,gS,gZ,sA,sZ,sS]))
 iterate 6 refine aC rfl ?_
 (refine eZ rfl (by first | with_reducible rfl | kernel_rfl) 164 _ rfl lg 0 rfl (wdC o) (.array 64 162) (fun _ h=>h.2.2) Tryz.underlying164 rfl hszo ?_;(try simp only[Act.put,gA,gS,gZ,sA,sZ,sS]))
 refine aM rfl rfl (fun K hK=>?_);have hcon:=CR V0 x o HK.out.2.2.2.1 HK.out.2.2.2.2.1;unfold wdV at hcon;go_simp;refine hcon.mono ?_;clear hcon;rintro e V1 ⟨rfl,b1⟩;have B1:=hIz (tHn B0.out b1);refine hK _ _ (fun _=>SR.out _ B1.out) ?_;clear hK K hS b1;(try simp only[Act.put,gA,gS,gZ,sA,sZ,sS])
 refine aM rfl rfl (fun K hK=>?_);have hcon:=IE V1 (List.zipWith bL x o) (CQ HK.out.2.2.2.1 HK.out.2.2.2.2.1);unfold wdV at hcon;go_simp;refine hcon.mono ?_;clear hcon;rintro e V2 ⟨rfl,b2⟩;have B2:=hIz (tHn B1.out b2);have hS:=SR.out _ B2.out;refine hK _ _ (fun _=>hS) ?_;clear hK K b2;(try simp only[Act.put,gA,gS,gZ,sA,sZ,sS])
 refine aC rfl ?_;refine aG ?_;clear hS;go_upto_region 5 with (fail);have B3:=hIz (show Below W1.heap.size W1 V2.drew from B2.out.drew);have hS:=SR.out _ B3.out;have hnw:Wd (List.zipWith orN o x):=RA HK.out.2.2.2.2.1 HK.out.2.2.2.1;refine aF (fun W=>W.cell? ⟨p,4,none⟩=some (.slice (some ⟨lg,0,none⟩) 1 lc)∧W.rangeAt w.heap.size 0 (wdC x)∧W.rangeAt lg 0 (wdC o)) 15 [(0,true),(1,true),(2,true),(3,true),(4,true),(5,true),(6,true),(7,true),(8,true),(9,true),(10,true),(11,true),(12,true),(13,false),(14,true),(15,false)] hS ?_;generalize V2.drew=V3 at B3 hS ⊢
 iterate 11 refine aC rfl ?_
 (refine eZ rfl (by first | with_reducible rfl | kernel_rfl) 164 _ rfl lg 0 rfl (wdC o) (.array 64 162) (fun _ h=>h.2.2) Tryz.underlying164 rfl hszo ?_;(try simp only[Act.put,gA,gS,gZ,sA,sZ,sS]))
 (refine eZ rfl (by first | with_reducible rfl | kernel_rfl) 164 _ rfl w.heap.size 0 rfl (wdC x) (.array 64 162) (fun _ h=>h.2.1) Tryz.underlying164 rfl hsz ?_;(try simp only[Act.put,gA,gS,gZ,sA,sZ,sS]))
 refine aM rfl rfl (fun K hK=>?_);have hcon:=NT V3 o x HK.out.2.2.2.2.1 HK.out.2.2.2.1;unfold wdV at hcon;go_simp;refine hcon.mono ?_;clear hcon;rintro e V4 ⟨rfl,b4⟩;have B4:=hIz (tHn B3.out b4);have hS:=SR.out _ B4.out;refine hK _ _ (fun _=>hS) ?_;clear hK K b4;(try simp only[Act.put,gA,gS,gZ,sA,sZ,sS])
 refine aC rfl ?_;have hx4:=H1.out.1.below B4.out;have hth:V4.there lg 0 (wdC (List.zipWith orN o x)).toArray.size:=fun i hi=>by
  obtain⟨g',c',e',-,-,-,-,hc'⟩:=aN hx4.rl (by simp);injection e' with e';injection e' with e';injection e' with e';subst e';have hi:i<64:=by simpa[bJ,hnw.len] using hi
  obtain⟨y,hy⟩:∃y,o[i]?=some y:=⟨o[i]'(by rw[HK.out.2.2.2.2.1.len];exact hi),gEz _⟩;have:=hc' i _ (by simpa[lfC] using gH hy);rw[Nat.zero_add];exact⟨by rw[this.1];rfl,this.2⟩
 have hsz2:(Tryz.prog.info? 164).map (·.size)=some (wdC (List.zipWith orN o x)).toArray.size:=by simpa using bO hnw
 have h1c:(wdC (List.zipWith orN o x)).toArray.all (·.oneCell')=true:=all_oneCell_toArray (gL _);obtain⟨hx5,hu5⟩:=hx4.setLeaf (ys:=wdC (List.zipWith orN o x)) (by rw[bJ,hnw.len]);have H5:=aI2 hx5 hu5;have HN:=hIz hnw;refine aM rfl rfl (fun K hK=>?_);refine wp_store_mid 164 _ _ rfl lg 0 (wdC (List.zipWith orN o x)).toArray rfl rfl hth hsz2 h1c ?_;refine hK _ _ (fun h=>absurd rfl h) ?_;clear hK K hS hth hsz2 h1c hx4 hx5 hu5 hnw;(try simp only[Act.put,gA,gS,gZ,sA,sZ,sS])
 refine aG ?_;generalize V4.setCells lg 0 (wdC (List.zipWith orN o x))=W5 at H5 ⊢;have q2:W5.cell? ⟨p,2,none⟩=some (.int .i64 (cnt:Int)):=H5.out.1.blk.cell 2;have f2:W5.frozen? ⟨p,2,none⟩=false:=H5.out.1.blk.frozen 2;have hc1:=HK.out.2.2.2.2.2.1;have hc2:=HK.out.2.2.2.2.2.2;obtain⟨more,hmo⟩:∃q,eP (List.zipWith bL x o)=q:=⟨_,rfl⟩;obtain⟨all,hal⟩:∃q,eP (List.zipWith orN o x)=q:=⟨_,rfl⟩;have HMO:=hIz hmo;rw[hmo,hal] at hc2;rw[hal] at hlb;rw[hmo];have hlb':all≤4096:=by simpa using hlb
 have hcm:cnt+more=all:=by omega
 have hadd:IntKind.i64.wrap ((cnt:Int)+(more:Int))=(all:Int):=by rw[IntKind.wrap_i64];omega
 have us:=(Upd.refl (fun k=>k=p) W5).setCell (p:=⟨p,2,none⟩) (.inl rfl) (.int .i64 (all:Int));have FIN:=hIz (show QTo w (fun k=>O k≠none) p side (some (List.zipWith orN o x)) (W5.setCell ⟨p,2,none⟩ (.int .i64 (all:Int))) from by
  have h5:=H5.out.1;have e:wdC (List.zipWith orN o x)=lfC [List.zipWith orN o x]:=by simp[lfC]
  rw[e] at h5;have h6:=(QuX.i (L:=[List.zipWith orN o x]) h5).setC all;have ok:=HK.out.2.2.1;refine⟨_,⟨O1,dep,all,dep-1,1,_,pv1,_,h6,⟨ok.s1,ok.s2,ok.d1,ok.d2,fun e=>(by cases e),fun r e=>?_⟩,rfl⟩,?_,fun k hk=>?_⟩
  ·injection e with e;subst e;exact⟨by have:=ok.d1;omega,rfl,rfl,hal.symm,HN.out⟩
  ·have u1:=(Upd.of_below HK.out.2.1 (fun k=>O k≠none)).trans H1.out.2.1 (fun k h=>.inl h);have u2:=u1.trans (upF B4.out) (fun _ h=>h.elim);have hn:∀k,O1 k≠none→O k≠none∨w.heap.size≤k:=fun k hk=>by
    rcases H1.out.2.2.1 k hk with h|h
    ·exact .inl h
    ·exact .inr (Nat.le_trans HK.out.2.1.size h)
   exact(u2.trans H5.out.2 hn).trans us (fun k hk=>hn k (by rw[hk,H5.out.1.op];nofun))
  ·rcases H1.out.2.2.1 k hk with h|h
   ·exact .inl h
   ·exact .inr (Nat.le_trans HK.out.2.1.size h))
 clear us hc1 hc2 hlb hlb' hmo hal hcm SR;go_wp2;go_ret;exact⟨by rw[HMO.out];rfl,FIN.out⟩
open Go.RowKit
theorem DI:∀(k x j:Nat),j<k→x.testBit j=true→0<pcN k x
 | 0,_,_,h,_=>absurd h (Nat.not_lt_zero _)
 | k+1,x,0,_,hb=>by
  have:=rP x;rw[hb] at this;unfold pcN;have h1:x % 2=1:=this;omega
 | k+1,x,j+1,h,hb=>by
  rw[Nat.testBit_succ] at hb;have:=DI k (x / 2) j (by omega) hb;unfold pcN;omega
theorem rR:∀{L:List Nat} {x:Nat},x∈L→pcN 64 x≤eP L
 | y::L,x,h=>by
  unfold eP;rw[List.map_cons,List.sum_cons];rcases List.mem_cons.1 h with rfl|h
  ·omega
  ·have:=rR h;unfold eP at this;omega
theorem wD{i j:Nat}(hi:i<64):(lC i j)[i]?=some (2 ^ j):=by
 unfold lC;rw[List.getElem?_set,if_pos rfl,if_pos (by rw[bG];exact hi)]
theorem OF{i j:Nat}(hi:i<64):lC i j≠aV:=fun e=>by
 have h:=wD (i:=i) (j:=j) hi;rw[e,jG hi] at h;injection h with h;have:=Nat.two_pow_pos j;omega
theorem JO{o:List Nat}(ho:Wd o){i j:Nat}(hi:i<64)(hj:j<64)(hb:iJ o i j=false):0<eP (List.zipWith bL (lC i j) o):=by
 obtain⟨x,hx⟩:∃x,o[i]?=some x:=⟨o[i]'(by rw[ho.len];exact hi),gEz _⟩;have hz:(List.zipWith bL (lC i j) o)[i]?=some (bL (2 ^ j) x):=by rw[List.getElem?_zipWith,wD hi,hx]
 have hxf:=ho.fit x (mG hx);have hbx:x.testBit j=false:=by unfold iJ at hb;rw[hx] at hb;exact hb
 have hp:=DI 64 (bL (2 ^ j) x) j hj (by
  unfold bL;have h:=Nat.testBit_two_pow_sub_succ (x:=x) (n:=64) hxf j;have e:2 ^ 64-(x+1)=18446744073709551615-x:=by omega
  rw[e] at h;rw[Nat.testBit_and,h,hbx,Nat.testBit_two_pow_self];simp[hj])
 exact Nat.lt_of_lt_of_le hp (rR (mG hz))
def setO(b:Option (List Nat))(i j:Nat):Option (List Nat):=if dX b i j=true then b else some (List.zipWith orN (fI b) (lC i j))
theorem OG{b:Option (List Nat)}{i j:Nat}(hi:i<64)(h:dX b i j=false):iJ (fI b) i j=false:=by
 cases b with
 | none =>
  unfold iJ fI;rw[Option.getD_none,jG hi];simp
 | some r=>exact h
theorem QTo.after{w w1 w':World}{F:Nat→Prop}{p side:Nat}{b:Option (List Nat)}(hb:Below w.heap.size w w1)(h:QTo w1 F p side b w'):QTo w F p side b w':=by
 obtain⟨F',g,u,n⟩:=h;exact⟨F',g,(Upd.of_below hb F).trans u (fun _ h=>.inl h),fun k hk=>(n k hk).imp id fun h=>Nat.le_trans hb.size h⟩
theorem JP(w:World)(F:Nat→Prop)(p side:Nat)(b:Option (List Nat))(h:QuS w F p side b)(i j:Nat)(hi:i<side)(hj:j<side)(hi6:i<64)(hj6:j<64) :
  Calls Tryz.prog 108 #[.pointer (some ⟨p,0,none⟩),.int .i64 (i:Int),.int .i64 (j:Int)] w (fun e w'=>e=.returned (.tuple #[.bool (!dX b i j),.int .i64 0])∧QTo w F p side (setO b i j) w'):=by
 have hget:=yC w F p side b h i j hi hj hi6 hj6;have ri:(i:Int).tmod 64=i:=by rw[Int.tmod_eq_emod_of_nonneg (by omega)];omega
 have rj:(j:Int).tmod 64=j:=by rw[Int.tmod_eq_emod_of_nonneg (by omega)];omega
 have qi:(i:Int).tdiv 64=0:=by rw[Int.tdiv_eq_ediv_of_nonneg (by omega)];omega
 have qj:(j:Int).tdiv 64=0:=by rw[Int.tdiv_eq_ediv_of_nonneg (by omega)];omega
 have HH:=hIz h;have hold:∃O dep cnt m last L pv lv,QuI w O p side dep cnt m last L pv lv∧RF side dep cnt m last L b:=by
  obtain⟨O,dep,cnt,m,last,L,pv,lv,hq,ok,-⟩:=h;exact⟨O,dep,cnt,m,last,L,pv,lv,hq,ok⟩
 obtain⟨_,_,_,_,_,_,_,_,-,ok⟩:=hold;have hwo:=lW ok;clear h ok;cases hb:dX b i j with
 | true =>
  rw[hb] at hget;have e1:setO b i j=b:=by unfold setO;rw[if_pos hb]
  rw[e1];clear e1 hb hwo ri rj qi qj;go_enter Tryz.func108,Tryz.ntmps108;go_wp2_with fail;refine hget.mono ?_;clear hget;rintro e W1 ⟨rfl,b1⟩;have FIN:=hIz (show QTo w F p side b W1 from⟨F,HH.out.below b1,Upd.of_below b1 F,fun _ h=>.inl h⟩);clear b1;go_wp2;refine bodyPost_ret (v:=.tuple #[.bool false,.int .i64 0]) (by simp[results,Tryz.f108,go_sem]) rfl ⟨rfl,FIN.out⟩
 | false =>
  rw[hb] at hget;have e1:setO b i j=some (List.zipWith orN (fI b) (lC i j)):=by unfold setO;rw[hb];rfl
  rw[e1];have hpos:=JO hwo hi6 hj6 (OG hi6 hb);have HP:=hIz (decide_eq_true hpos);clear e1 hb hwo hpos;go_enter Tryz.func108,Tryz.ntmps108;go_wp2_with fail;refine hget.mono ?_;clear hget;rintro e W1 ⟨rfl,b1⟩;have k2:=Blk.new W1 100 #[.int .i64 (i:Int),.int .i64 (j:Int)];have u2:Below W1.heap.size W1 (W1.alloc (.cells #[.int .i64 (i:Int),.int .i64 (j:Int)] 100)):=bR.alloc (Nat.le_refl _) _;have hof:=OB _ W1.heap.size i j hi6 hj6 k2;have HB2:=hIz (tHn b1 u2);unfold wdV at hof;clear k2 u2 b1;go_wp2_with fail;refine hof.mono ?_;clear hof;rintro e V2 ⟨rfl,b2⟩;have HB3:=hIz (tHn HB2.out b2);clear b2;have hone:=DB (i:=i) hj6;have k4:=Blk.new V2 164 Z64;have hth:(V2.alloc (.cells Z64 164)).there V2.heap.size 0 (wdC (lC i j)).toArray.size:=kW (aY.mp k4) (by simp[bJ,hone.len,bG]);have hsz:=bO hone;have hsz2:(Tryz.prog.info? 164).map (·.size)=some (wdC (lC i j)).toArray.size:=by simpa using hsz
  have h1c:(wdC (lC i j)).toArray.all (·.oneCell')=true:=all_oneCell_toArray (gL _);have hrg:=World.rangeAt_setCells_same (V2.alloc (.cells Z64 164)) V2.heap.size 0 (wdC (lC i j)) (by simpa using hth);have u4:Below V2.heap.size V2 ((V2.alloc (.cells Z64 164)).setCells V2.heap.size 0 (wdC (lC i j))):=by
   have ua:Below V2.heap.size V2 (V2.alloc (.cells Z64 164)):=bR.alloc (Nat.le_refl _) _;exact ua.trans ((Upd.setCells (F:=fun k=>k=V2.heap.size) (a:=V2.alloc (.cells Z64 164)) (.inl rfl) _ _ (Upd.refl _ _)).below (fun k _ e=>Nat.le_of_eq e.symm) ua.size)
  have HB4:=hIz (tHn HB3.out u4);have hone2:=hIz hone;clear k4 u4 hone;go_upto_region 5 with (first | (refine wpList_store_mid rfl 164 _ _ rfl V2.heap.size 0 (wdC (lC i j)).toArray rfl rfl hth hsz2 h1c ?_) | fail);generalize (V2.alloc (.cells Z64 164)).setCells V2.heap.size 0 (wdC (lC i j))=W5 at hrg HB4 ⊢;clear hth hsz2 h1c;have hor:=DH W5 F p side b (HH.out.below HB4.out) (lC i j) hone2.out (OF hi6);rw[HP.out] at hor;unfold wdV at hor;go_wp2_with (first | (refine wpList_load_mid rfl 164 _ rfl V2.heap.size 0 rfl (wdC (lC i j)) (.array 64 162) hrg Tryz.underlying164 rfl hsz ?_) | fail);refine hor.mono ?_;clear hor hrg hsz;rintro e W6 ⟨rfl,hto⟩;have FIN:=hIz (QTo.after HB4.out hto);clear hto;go_wp2;refine bodyPost_ret (v:=.tuple #[.bool true,.int .i64 0]) (by simp[results,Tryz.f108,go_sem]) rfl ⟨rfl,FIN.out⟩
open Go.RowKit
theorem JQ(n:Nat)(hn:n=0∨n=1)(w:World):Calls Tryz.prog 131 #[.int .u64 (n:Int)] w (fun e w'=>(∃v:Int,e=.returned (.int .i64 v))∧w'=w):=by
 rcases hn with rfl|rfl
 ·go_enter Tryz.func131,Tryz.ntmps131;go_wp2;go_ret;exact⟨⟨_,rfl⟩,rfl⟩
 ·go_enter Tryz.func131,Tryz.ntmps131;go_wp2;go_ret;exact⟨⟨_,rfl⟩,rfl⟩
theorem RG(n:Nat)(hn:n=0∨n=1)(w:World):Calls Tryz.prog 91 #[.int .u64 (n:Int)] w (fun e w'=>(∃v:Int,e=.returned (.int .i64 v))∧w'=w):=by
 have hcon:=JQ n hn w;go_enter Tryz.func91,Tryz.ntmps91;go_wp2_with fail;refine hcon.mono ?_;rintro e w' ⟨⟨v,rfl⟩,hw⟩;subst w';go_wp2;go_ret;exact⟨⟨v,rfl⟩,rfl⟩
theorem RH(n:Nat)(hn:n≤1)(A:Option Addr)(l c:Nat)(f:Value)(w:World):Calls Tryz.prog 206 #[.slice A l c,.int .i64 0,.int .i64 (n:Int),f] w (fun e w'=>(∃v,e=.returned v)∧w'=w):=by
 have h1:¬((1:Int)<(n:Int)):=by omega
 have h2:¬(1<n):=by omega
 go_enter Tryz.func206,Tryz.ntmps206;go_wp2_with fail;go_loopw [8] (fun i wr=>i=.int .i64 1∧wr=w) (fun _ _=>0)
 case atStart=>exact⟨rfl,rfl⟩
 case round =>
  obtain⟨rfl,hw⟩:=hrel;subst hw;go_wp2;(try simp only[Exit.inBlock,Exit.then]);first | exact bodyPost_ret (results_none rfl _ _ _) rfl ⟨⟨_,rfl⟩,rfl⟩ | exact bodyPost_end (results_none rfl _ _ _) rfl ⟨⟨_,rfl⟩,rfl⟩
theorem RI(n:Nat)(hn:n≤1)(A:Option Addr)(l c:Nat)(f:Value)(lim:Int)(w:World):Calls Tryz.prog 197 #[.slice A l c,.int .i64 0,.int .i64 (n:Int),.int .i64 lim,f] w (fun e w'=>(∃v,e=.returned v)∧w'=w):=by
 have hw0:IntKind.i64.wrap (n:Int)=(n:Int):=IntWalk.i64_in _ (by omega);have h1:(n:Int)≤12:=by omega
 have h2:n≤12:=by omega
 have hcon:=RH n hn A l c f;go_enter Tryz.func197,Tryz.ntmps197;go_wp2_with fail;go_loopw [1,2] (fun a b wr=>a=.int .i64 0∧b=.int .i64 (n:Int)∧wr=w) (fun _ _ _=>0)
 case atStart=>exact⟨rfl,rfl,rfl⟩
 case round =>
  obtain⟨rfl,rfl,hw⟩:=hrel;subst hw;go_wp2_with fail;refine(hcon _).mono ?_;rintro e w' ⟨⟨v,rfl⟩,hw⟩;subst w';go_wp2;(try simp only[Exit.inBlock,Exit.then]);first | exact bodyPost_ret (results_none rfl _ _ _) rfl ⟨⟨_,rfl⟩,rfl⟩ | exact bodyPost_end (results_none rfl _ _ _) rfl ⟨⟨_,rfl⟩,rfl⟩
theorem DJ(n:Nat)(hn:n≤1)(A:Option Addr)(c:Nat)(f:Value)(w:World):Calls Tryz.prog 174 #[.slice A n c,f] w (fun e w'=>(∃v,e=.returned v)∧w'=w):=by
 have hl:=RG n (by omega) w;have hw0:IntKind.u64.wrap (n:Int)=(n:Int):=by rw[IntKind.wrap_u64];omega
 have hcon:=fun lim=>RI n hn A n c f lim w
 go_enter Tryz.func174,Tryz.ntmps174;go_wp2_with fail;refine hl.mono ?_;rintro e w' ⟨⟨v,rfl⟩,hw⟩;subst w';go_wp2_with fail;refine(hcon v).mono ?_;rintro e w' ⟨⟨v,rfl⟩,hw⟩;subst w';go_wp2;(try simp only[Exit.inBlock,Exit.then]);first | exact bodyPost_ret (results_none rfl _ _ _) rfl ⟨⟨_,rfl⟩,rfl⟩ | exact bodyPost_end (results_none rfl _ _ _) rfl ⟨⟨_,rfl⟩,rfl⟩
open Go.RowKit
theorem OH(x k idx:Nat)(w:World)(hx0:((x:Int)==0)=false)
  (key:IntKind.u64.wrap (bits BinOp.and IntKind.u64 (x:Int) (IntKind.u64.wrap (-(x:Int)))*285870213051353865) / 288230376151711744=(idx:Int))
  (hi:idx<64) (hk:k<64) (hcell:w.cell? ⟨1,idx,none⟩=some (.int .u8 k)) :
  Calls Tryz.prog 199 #[.int .u64 (x:Int)] w (fun e w'=>e=.returned (.int .i64 k)∧w'=w):=by
 go_enter Tryz.func199,Tryz.ntmps199;go_wp2_with (simp only[key]);go_ret;exact⟨rfl,rfl⟩
def qF(w:World):Prop:=TabAt 1 Lib.deBruijn64tab w
theorem qF.upd{w w':World}{G:Nat→Prop}(h:qF w)(hu:Upd G w w')(hl:1<w.heap.size)(hg:¬G 1):qF w':=fun j hj=>by
 rw[hu.cell hl hg];exact h j hj
theorem RJ(x:Nat)(hx:x<18446744073709551616)(hx0:x≠0)(w:World)(hT:qF w) :
  Calls Tryz.prog 199 #[.int .u64 (x:Int)] w (fun e w'=>e=.returned (.int .i64 (Lib.ctz 64 x:Nat))∧w'=w):=by
 obtain⟨hlow,hk⟩:=Lib.lowest_bit 64 x hx0 hx;obtain⟨hi,htab⟩:=Lib.deBruijn64_at _ hk;have hcell:=hT _ hi;rw[htab] at hcell;exact OH x _ _ w (by simp;omega) (tz64_key x _ hx hx0 hlow) hi hk hcell
open Go.RowKit
theorem lX{w:World}{O:Nat→Option QRo}{p side dep cnt m:Nat}{last:Int}{L:List (List Nat)}{lv:Value}{pg pc:Nat}(h:QuI w O p side dep cnt m last L (.slice (some ⟨pg,0,none⟩) (m+1) pc) lv){k:Nat}{x:Int}(hx:∀j u,(iF x)[j]?=some u→(qsC m last)[k*4+j]?=some u):w.rangeAt pg (k*4) (iF x):=fun j u hu=>by
 obtain⟨g',c',e',-,-,-,-,hc'⟩:=aN h.rp (by omega);injection e' with e';injection e' with e';injection e' with e';subst e';exact(hc' _ _ (hx j u hu)).1
theorem rS(x:Int)(W:World)(j:Nat)(hj:j<4):(Instr.index 199 (.agg (iF x).toArray) (.int .i64 (j:Int))).run Tryz.prog W=.ok (.int .i64 (if j=0 then x else 0)) W:=by
 obtain rfl|rfl|rfl|rfl:j=0∨j=1∨j=2∨j=3:=by omega
 ·kernel_rfl
 ·kernel_rfl
 ·kernel_rfl
 ·kernel_rfl
theorem DK(W:World)(j:Nat)(hj:j<4):(Instr.index 199 (.agg (iF 0).toArray) (.int .i64 (j:Int))).run Tryz.prog W=.ok (.int .i64 0) W:=by
 rw[rS 0 W j hj,ite_self]
theorem DL(w:World)(O:Nat→Option QRo)(p side dep cnt:Nat)(pv lv:Value)(h:QuI w O p side dep cnt 0 0 [] pv lv)(l:Int)(g1 g3 g4:Nat)(c1:w.cell? ⟨g1,0,none⟩=some (.pointer (some ⟨p,0,none⟩))) :
  Calls Tryz.prog 173 #[.int .i64 0,.int .i64 l,.int .i64 0,.int .i64 0,.pointer (some ⟨g1,0,none⟩),.pointer (some ⟨g3,0,none⟩),.pointer (some ⟨g4,0,none⟩)] w (fun e w'=>e=.returned (.tuple #[])∧w'=w):=by
 obtain⟨pg,pc,e,-,-,-,-,-⟩:=aN h.rp (by omega);subst e;have q3:w.cell? ⟨p,3,none⟩=some (.slice (some ⟨pg,0,none⟩) 1 pc):=h.blk.cell 3;have hrg:w.rangeAt pg 0 (iF 0):=lX (k:=0) h (fun j u hu=>by rw[Nat.zero_mul,Nat.zero_add];exact hu);have hsz:(Tryz.prog.info? 199).map (·.size)=some (iF 0).length:=by kernel_rfl
 clear h;go_enter Tryz.func173,Tryz.ntmps173;go_wp2_with (first | (refine wpList_load_mid rfl 199 _ rfl pg 0 rfl (iF 0) (.array 4 3) hrg Tryz.underlying199 rfl hsz ?_) | fail);clear c1 q3 hrg hsz;have HX:=hIz (DK);generalize (iF 0).toArray=arr at HX ⊢;go_loopw [22] (fun a wr=>∃j:Nat,j≤4∧a=.int .i64 (j:Int)∧wr=w) (fun a _=>(4-intOf a).toNat)
 case atStart=>exact⟨0,by omega,rfl,rfl⟩
 case round =>
  obtain⟨j,hj,rfl,hw⟩:=hrel;subst hw;by_cases hlt:j<4
  ·have hltI:(j:Int)<(4:Int):=by omega
   have hkw:IntKind.i64.wrap ((j:Int)+1)=(j:Int)+1:=IntWalk.i64_in _ (by omega);have hge:(0:Int)≤(j:Int):=by omega
   have hix:=HX.out wr j hlt;go_wp2;go_roundw
   case rel=>exact⟨j+1,by omega,by go_num,by first | rfl | trivial⟩
   case measure=>simp[intOf] <;> omega
  ·obtain rfl:j=4:=by omega
   go_wp2;(try simp only[Exit.inBlock,Exit.then])
   exact bodyPost_end (results_none rfl _ _ _) rfl (by first | exact⟨rfl,rfl⟩ | exact⟨rfl,trivial⟩)
open Go.RowKit
def plC(r:List Nat):List Value:=.int .i64 0::.int .i64 0::wdC r
theorem kM{r:List Nat}(hr:Wd r):(plC r).length=66:=by simp[plC,bJ,hr.len]
theorem rT(r:List Nat):∀u∈plC r,u.oneCell'=true:=fun u hu=>by
 simp only[plC,wdC,List.mem_cons,List.mem_map] at hu
 rcases hu with rfl|rfl|⟨x,-,rfl⟩ <;> rfl
theorem wE{r:List Nat}(hr:Wd r)(cells:Array Value)(hc:cells.size=66) :
  Instr.fill (fun i=>#[(0,2),(2,64)][i]?) cells [(0,.agg #[.int .i64 0,.int .i64 0]),(1,wdV r)]=some (plC r).toArray:=by
 have hl:(wdC r).length=64:=by rw[bJ,hr.len]
 obtain⟨s1,k1⟩:=Go.Great.foldl_set 0 [.int .i64 0,.int .i64 0] 0 cells;obtain⟨s2,k2⟩:=Go.Great.foldl_set 2 (wdC r) 0 (([Value.int .i64 0,.int .i64 0].zipIdx 0).foldl (fun cs (x:Value × Nat)=>cs.setIfInBounds (0+x.2) x.1) cells);have e:Instr.fill (fun i=>#[(0,2),(2,64)][i]?) cells [(0,.agg #[.int .i64 0,.int .i64 0]),(1,wdV r)]=some (((wdC r).zipIdx 0).foldl (fun cs (x:Value × Nat)=>cs.setIfInBounds (2+x.2) x.1) (([Value.int .i64 0,.int .i64 0].zipIdx 0).foldl (fun cs (x:Value × Nat)=>cs.setIfInBounds (0+x.2) x.1) cells)):=by
  simp[Instr.fill,wdV,Value.cells,hl,hc]
 rw[e];congr 1
 apply Array.ext_getElem?
 intro k;rw[k2 k,s1,hc,hl];by_cases h2:2+0≤k∧k<2+0+64∧k<66
 ·rw[if_pos h2];obtain⟨j,rfl⟩:∃j,k=j+2:=⟨k-2,by omega⟩;simp[plC]
 ·rw[if_neg h2,k1 k];by_cases h0:k<2
  ·rw[if_pos (by simp;omega)];obtain rfl|rfl:k=0∨k=1:=by omega
   ·simp[plC]
   ·simp[plC]
  ·rw[if_neg (by simp;omega)];have:(plC r).length≤k:=by rw[kM hr];omega
   simp[hc,this]
   omega
theorem tZ{r:List Nat}(hr:Wd r)(w:World):(Instr.build 240 #[(0,.agg #[.int .i64 0,.int .i64 0]),(1,wdV r)]).run Tryz.prog w=.ok (.agg (plC r).toArray) w:=by
 refine run_build w _ _ _ ?_;obtain⟨cells,hc,hb⟩:∃cells:Array Value,cells.size=66∧∀ps,Tryz.prog.built 240 ps=Instr.fill (fun i=>#[(0,2),(2,64)][i]?) cells ps:=⟨(List.replicate 2 (Value.int .i64 0)++List.replicate 64 (Value.int .u64 0)).toArray,by decide,fun ps=>by kernel_rfl⟩;rw[hb];exact wE hr cells hc
theorem wF:(Tryz.prog.info? 240).map (fun i=>(i.zero.isSome,i.size,i.bytes))=some (true,66,528):=by kernel_rfl
theorem uA{r:List Nat}(hr:Wd r)(w:World):(Instr.buildSlice 237 1 #[(0,.agg (plC r).toArray)]).run Tryz.prog w=.ok (.slice (some ⟨w.heap.size,0,none⟩) 1 1) (w.alloc (.cells (plC r).toArray 240)):=by
 obtain⟨ie,z,hie,hz,hs⟩:∃ie z,Tryz.prog.info? 240=some ie∧ie.zero=some z∧ie.size=66:=by
  have h:=wF;cases hi:Tryz.prog.info? 240 with
  | none=>rw[hi] at h;cases h
  | some ie =>
   rw[hi] at h;simp only[Option.map_some,Option.some.injEq,Prod.mk.injEq] at h
   obtain⟨h1,h2,h3⟩:=h;obtain⟨z,hz⟩:=Option.isSome_iff_exists.1 h1;exact⟨ie,z,rfl,hz,h2⟩
 refine run_buildSlice w _ 240 1 _ _ ie z Tryz.underlying237 hie hz (by rw[hs];decide) (by rw[hs];decide) ?_;rw[hs];have hl:(Value.agg (plC r).toArray).cells.size=66:=by simp[Value.cells,kM hr]
 have:=Go.Great.fill_whole (s:=66) (by decide) [Value.agg (plC r).toArray] ((Array.range (1*66)).map (z.cells[· % z.cells.size]!)) (fun v hv=>by rw[List.mem_singleton.1 hv];exact hl) (by simp);simpa[Value.cells] using this
open Go.RowKit
def lY(w:World)(g3:Nat)(r:List Nat)(w':World):Prop:=
 ∃A c,w'.cell? ⟨g3,0,none⟩=some (.slice A 1 c)∧w'.ownsRow 0 240 66 (.slice A 1 c) 1 (plC r)∧Upd (fun k=>k=g3) w w'∧∀k,(Value.slice A 1 c).ownBlock=some k→w.heap.size≤k
theorem uC:∃z,z.cells.size=66∧(Tryz.prog.info? 240).map (fun i=>(i.zero,i.size,i.bytes))=some (some z,66,528):=⟨.agg (List.replicate 2 (Value.int .i64 0)++List.replicate 64 (Value.int .u64 0)).toArray,by decide,by kernel_rfl⟩
theorem DM{w:World}{r:List Nat}(hr:Wd r)(g3:Nat)(hg:g3<w.heap.size)(hfz:w.frozen? ⟨g3,0,none⟩=false)(hl:∃ty,Blk w g3 ty #[.slice none 0 0]):∃A c W2,(Builtin.append_ #[237,237] 237 #[.slice none 0 0,.slice (some ⟨w.heap.size,0,none⟩) 1 1]).run Tryz.prog (w.alloc (.cells (plC r).toArray 240))=.ok (.slice A 1 c) W2∧Upd (fun _=>False) w W2∧W2.frozen? ⟨g3,0,none⟩=false∧lY w g3 r (W2.setCell ⟨g3,0,none⟩ (.slice A 1 c)):=by
 obtain⟨z,hz,hi⟩:=uC;obtain⟨v2,W2,happ,own2,u2,p2⟩:=cI w 0 237 240 66 528 z Tryz.underlying237 hi hz (by decide) (.slice none 0 0) 0 [] (World.ownsRow_nil _ _ _ _) (plC r) 1 (by rw[kM hr]) (rT r) (by omega) (by unfold maxLen;omega) (Nat.zero_le _);obtain⟨A,c,rfl,-,-⟩:=aK own2;obtain⟨ty,kb⟩:=hl;have u3:Upd (fun _=>False) w W2:=u2.mono (fun k _ hk=>by simp[Value.ownBlock] at hk);have kb2:=kb.upd u3 (fun h=>h);have us:=(Upd.refl (fun k=>k=g3) W2).setCell (p:=⟨g3,0,none⟩) (.inl rfl) (.slice A 1 c);have pl:∀k,(Value.slice A 1 c).ownBlock=some k→w.heap.size≤k:=fun k hk=>by
  rcases p2 k hk with h1|h1
  ·simp[Value.ownBlock] at h1
  ·exact h1
 exact⟨A,c,W2,happ,u3,kb2.frozen 0,A,c,(kb2.set 0 (.slice A 1 c)).cell 0,aB own2 us (fun k hk e=>by have:=pl k hk;omega),(u3.mono (fun _ _ h=>h.elim)).trans us (fun k hk=>.inl hk),pl⟩
open Go.RowKit
section
variable {P:Program} {ops:Array Oper} {Q:Exit→Act→World→Prop} {S:World→Prop} {n:Nat}
theorem uD{i:Nat}{r:List (Nat × Bool)}{a:Act}{w:World}{oi:Oper}{v:Value}(hi:ops[i]?=some oi)(hw:Region.wanted oi (yielded ops a.tmps)=true)(ty:TypeId)(parts:Array (Nat × Operand))(ho:oi.op=.build ty parts)
  (vals:Array (Nat × Value)) (hv:parts.map (fun (i,x)=>(i,a.eval x))=vals) (hb:∀w,(Instr.build ty vals).run P w=.ok v w) (h:fG P ops Q S n r (a.put oi.dst v) w):fG P ops Q S n ((i,true)::r) a w:=
 qS hi hw (fun w _=>by unfold execOp;simp only[ho,hv,Sem.run_bind,hb,Result.andThen_ok];rfl) h
theorem lD{o:Oper}{a:Act}{w w':World}{K:Act→World→Prop}{v:Value}(ty:TypeId)(len:Nat)(parts:Array (Nat × Operand))(ho:o.op=.buildSlice ty len parts)
  (vals:Array (Nat × Value)) (hv:parts.map (fun (i,x)=>(i,a.eval x))=vals) (hb:(Instr.buildSlice ty len vals).run P w=.ok v w') (h:K (a.put o.dst v) w'):o.wp P a w K Q:=by
 unfold Oper.wp execOp;simp only[ho,hv,Sem.run_bind,hb,Result.andThen_ok]
 exact h
theorem fE{o:Oper}{a:Act}{w w':World}{K:Act→World→Prop}{v v2 v':Value}(s x:Operand)(t:TypeId)
  (ho:o.op=.call { callee:=.builtin .append,args:=#[s,x],argTypes:=#[t,t] }) (hs:a.eval s=v) (hx:a.eval x=v2)
  (hrun:(Builtin.append_ #[t,t] o.type #[v,v2]).run P w=.ok v' w') (h:K (a.put o.dst v') w'):o.wp P a w K Q:=by
 unfold Oper.wp execOp;simp only[ho,resolve,invoke,builtin,Sem.run_bind,Sem.run_pure,Result.andThen_ok,List.map_toArray,List.map_cons,List.map_nil,hs,hx,hrun]
 exact h
end
theorem DN(w:World)(O:Nat→Option QRo)(p side dep cnt m:Nat)(r:List Nat)(pv lv:Value)(h:QuI w O p side dep cnt m 1 [r] pv lv)(hr:Wd r)(hm:m≤4)(g1 g3 g4:Nat)(k1:∃ty,Blk w g1 ty #[.pointer (some ⟨p,0,none⟩)])(k3:∃ty,Blk w g3 ty #[.slice none 0 0]) :
  Calls Tryz.prog 173 #[.int .i64 (m:Int),.int .i64 0,.int .i64 0,.int .i64 0,.pointer (some ⟨g1,0,none⟩),.pointer (some ⟨g3,0,none⟩),.pointer (some ⟨g4,0,none⟩)] w (fun e w'=>e=.returned (.tuple #[])∧lY w g3 r w'):=by
 obtain⟨pg,pc,e,-,-,-,-,-⟩:=aN h.rp (by omega);subst e;obtain⟨lg,lc,e,-,-,-,-,-⟩:=aN h.rl (by simp);subst e;have c1:w.cell? ⟨g1,0,none⟩=some (.pointer (some ⟨p,0,none⟩)):=by obtain⟨ty,k⟩:=k1;exact k.cell 0
 obtain⟨n,hn⟩:∃n,m+1=n:=⟨_,rfl⟩;have q3:w.cell? ⟨p,3,none⟩=some (.slice (some ⟨pg,0,none⟩) n pc):=by rw[← hn];exact h.blk.cell 3
 have hmn:(m:Int)<(n:Int):=by omega
 have hrg:w.rangeAt pg (m*4) (iF 1):=lX (k:=m) h (fun j u hu=>by
  have hq:qsC m 1=((List.range m).flatMap fun (i:Nat)=>iF ((i:Int)+2))++iF 1:=rfl;have hlen:((List.range m).flatMap fun (i:Nat)=>iF ((i:Int)+2)).length=m*4:=by
   have:=wC m 1;rw[hq,List.length_append] at this;simp only[iF,List.length_cons,List.length_nil] at this ⊢
   omega
  rw[hq,List.getElem?_append_right (by omega),hlen,Nat.add_sub_cancel_left];exact hu)
 have hsz:(Tryz.prog.info? 199).map (·.size)=some (iF 1).length:=by kernel_rfl
 have hszr:(Tryz.prog.info? 164).map (·.size)=some (wdC r).length:=bO hr;have SR:=hIz (show ∀W,Below w.heap.size w W→W.cell? ⟨g3,0,none⟩=some (.slice none 0 0)∧W.cell? ⟨g1,0,none⟩=some (.pointer (some ⟨p,0,none⟩))∧W.cell? ⟨p,4,none⟩=some (.slice (some ⟨lg,0,none⟩) 1 lc)∧W.rangeAt lg 0 (wdC r) from fun W hb=>by
  have hi:=h.upd (upF hb) (fun _ _=>id);obtain⟨t1,b1⟩:=k1;obtain⟨t3,b3⟩:=k3;refine⟨(b3.upd (upF hb) (fun h=>h)).cell 0,(b1.upd (upF hb) (fun h=>h)).cell 0,hi.blk.cell 4,fun j u hu=>?_⟩;obtain⟨g',c',e',-,-,-,-,hc'⟩:=aN hi.rl (by simp);injection e' with e';injection e' with e';injection e' with e';subst e';rw[Nat.zero_add];exact(hc' j u (by simpa[lfC] using hu)).1)
 have KD:=aI2 hr k3;clear h k1 k3 hn;go_enter Tryz.func173,Tryz.ntmps173;go_wp2_with (first | (refine wpList_load_mid rfl 199 _ rfl pg (m*4) rfl (iF 1) (.array 4 3) hrg Tryz.underlying199 rfl hsz ?_) | fail);clear c1 q3 hrg hsz;have HX:=hIz (rS 1);generalize (iF 1).toArray=arr at HX ⊢;go_loopw [22] (fun a wr=>∃j:Nat,j≤4∧a=.int .i64 (j:Int)∧Hid (j=0∧wr=w∨0<j∧lY w g3 r wr)) (fun a _=>(4-intOf a).toNat)
 case atStart=>exact⟨0,by omega,rfl,hIz (.inl ⟨rfl,rfl⟩)⟩
 case round =>
  obtain⟨j,hj,rfl,hq⟩:=hrel;by_cases hlt:j<4
  ·by_cases h0:j=0
   ·subst h0;obtain rfl:wr=w:=by rcases hq.out with ⟨-,e⟩|⟨e,-⟩ <;> first|exact e|omega
    clear hq hlt;have hix:(Instr.index 199 (.agg arr) (.int .i64 0)).run Tryz.prog wr=.ok (.int .i64 1) wr:=HX.out wr 0 (by decide);have b1:bits .or .i64 0 0=0:=by decide
    have b2:bits .and .i64 0 1=0:=by decide
    go_upto_region 7 with (fail);clear b1 b2;have HB:=hIz (show Below wr.heap.size wr wr.drew from bR.drew);have hS:=SR.out wr.drew HB.out;refine aF (fun W=>W.cell? ⟨g3,0,none⟩=some (.slice none 0 0)∧W.cell? ⟨g1,0,none⟩=some (.pointer (some ⟨p,0,none⟩))∧W.cell? ⟨p,4,none⟩=some (.slice (some ⟨lg,0,none⟩) 1 lc)∧W.rangeAt lg 0 (wdC r)) 15 [(0,true),(1,true),(2,true),(3,true),(4,true),(5,true),(6,true),(7,true),(8,true),(9,true),(10,true),(11,true),(12,true),(13,false),(14,false),(15,false)] hS ?_;generalize wr.drew=V0 at HB hS ⊢;have hw00:IntKind.i64.wrap 0=0:=by decide
    iterate 11 refine aC rfl ?_
    (refine eZ rfl (by first | with_reducible rfl | kernel_rfl) 164 _ rfl lg 0 rfl (wdC r) (.array 64 162) (fun _ h=>h.2.2.2) Tryz.underlying164 rfl hszr ?_;(try simp only[Act.put,gA,gS,gZ,sA,sZ,sS]))
    have hbp:∀W,(Instr.build 240 #[(0,.agg #[.int .i64 0,.int .i64 0]),(1,.agg (wdC r).toArray)]).run Tryz.prog W=.ok (.agg (plC r).toArray) W:=fun W=>tZ KD.out.1 W
    (refine uD rfl (by first | with_reducible rfl | kernel_rfl) 240 _ rfl #[(0,.agg #[.int .i64 0,.int .i64 0]),(1,.agg (wdC r).toArray)] (by first | with_reducible rfl | kernel_rfl) hbp ?_;(try simp only[Act.put,gA,gS,gZ,sA,sZ,sS]))
    clear hbp;have hbs:=uA KD.out.1 V0;have k3:∃ty,Blk V0 g3 ty #[.slice none 0 0]:=by obtain⟨ty,k⟩:=KD.out.2;exact⟨ty,k.upd (upF HB.out) (fun h=>h)⟩
    have hg3:g3<V0.heap.size:=by obtain⟨ty,k⟩:=k3;exact k.lt
    have hf3:V0.frozen? ⟨g3,0,none⟩=false:=by obtain⟨ty,k⟩:=k3;exact k.frozen 0
    obtain⟨A,c,W2,happ,u2,f2,D⟩:=DM KD.out.1 g3 hg3 hf3 k3;have HD:=aI2 u2 D;clear u2 D k3;have hS1:=SR.out (V0.alloc (.cells (plC r).toArray 240)) (HB.out.alloc HB.out.size _);generalize (plC r).toArray=pla at hbs happ hS1 ⊢;refine aM rfl rfl (fun K hK=>?_);refine lD 237 1 _ rfl #[(0,.agg pla)] (by first | with_reducible rfl | kernel_rfl) hbs ?_;refine hK _ _ (fun _=>hS1) ?_;clear hK K hbs;(try simp only[Act.put,gA,gS,gZ,sA,sZ,sS])
    refine aM rfl rfl (fun K hK=>?_);have hS2:=SR.out W2 (HB.out.trans (Below.mono (show Below V0.heap.size V0 W2 from⟨HD.out.1.os,HD.out.1.tape,HD.out.1.output,HD.out.1.size,fun k hk=>HD.out.1.block k hk (fun h=>h)⟩) HB.out.size));refine fE _ _ _ rfl rfl rfl happ ?_;refine hK _ _ (fun _=>?_) ?_
    ·exact hS2
    obtain⟨qW,-,-,-⟩:=hS2;clear hK K happ;(try simp only[Act.put,gA,gS,gZ,sA,sZ,sS])
    refine aM rfl rfl (fun K hK=>?_);go_simp;refine hK _ _ (fun h=>absurd rfl h) ?_;clear hK K;(try simp only[Act.put,gA,gS,gZ,sA,sZ,sS])
    refine aG ?_;have FIN:=hIz (show lY wr g3 r (W2.setCell ⟨g3,0,none⟩ (.slice A 1 c)) by
     obtain⟨-,A',c',e1,e2,e3,e4⟩:=HD.out;exact⟨A',c',e1,e2,(Upd.of_below HB.out _).trans e3 (fun _ h=>.inl h),fun k hk=>Nat.le_trans HB.out.size (e4 k hk)⟩)
    go_wp2;go_roundw
    case rel=>exact⟨1,by omega,by go_num,hIz (.inr ⟨by omega,FIN.out⟩)⟩
    case measure=>simp[intOf] <;> omega
   ·have hix:(Instr.index 199 (.agg arr) (.int .i64 (j:Int))).run Tryz.prog wr=.ok (.int .i64 0) wr:=by have:=HX.out wr j hlt;rwa [if_neg h0] at this
    have hltI:(j:Int)<(4:Int):=by omega
    have hkw:IntKind.i64.wrap ((j:Int)+1)=(j:Int)+1:=IntWalk.i64_in _ (by omega);have hge:(0:Int)≤(j:Int):=by omega
    have hD:=hIz (show 0<j+1∧lY w g3 r wr from by rcases hq.out with ⟨e,-⟩ | ⟨-,e⟩;exact absurd e h0;exact⟨by omega,e⟩);clear hq;go_wp2;go_roundw
    case rel=>exact⟨j+1,by omega,by go_num,hIz (.inr hD.out)⟩
    case measure=>simp[intOf] <;> omega
  ·obtain rfl:j=4:=by omega
   have FIN:=hIz (show lY w g3 r wr by rcases hq.out with ⟨e,-⟩ | ⟨-,e⟩;exact absurd e (by decide);exact e);clear hq;go_wp2;(try simp only[Exit.inBlock,Exit.then])
   exact bodyPost_end (results_none rfl _ _ _) rfl ⟨rfl,FIN.out⟩
open Go.RowKit
theorem DO(w:World)(O:Nat→Option QRo)(p side dep cnt m:Nat)(r:List Nat)(pv lv:Value)(h:QuI w O p side dep cnt m 1 [r] pv lv)(hr:Wd r)(hm:m≤4)(g1 g3 g4:Nat)(k1:∃ty,Blk w g1 ty #[.pointer (some ⟨p,0,none⟩)])(k3:∃ty,Blk w g3 ty #[.slice none 0 0])
  (k4:∃ty,Blk w g4 ty #[.func (.func 173) #[] #[.pointer (some ⟨g1,0,none⟩),.pointer (some ⟨g3,0,none⟩),.pointer (some ⟨g4,0,none⟩)]]) (l k:Nat) (hk:k+(l+1)=m) (IH:Calls Tryz.prog 173 #[.int .i64 ((k+1:Nat):Int),.int .i64 (l:Int),.int .i64 0,.int .i64 0,.pointer (some ⟨g1,0,none⟩),.pointer (some ⟨g3,0,none⟩),.pointer (some ⟨g4,0,none⟩)] w (fun e w'=>e=.returned (.tuple #[])∧lY w g3 r w')) :
  Calls Tryz.prog 173 #[.int .i64 (k:Int),.int .i64 ((l+1:Nat):Int),.int .i64 0,.int .i64 0,.pointer (some ⟨g1,0,none⟩),.pointer (some ⟨g3,0,none⟩),.pointer (some ⟨g4,0,none⟩)] w (fun e w'=>e=.returned (.tuple #[])∧lY w g3 r w'):=by
 obtain⟨pg,pc,e,-,-,-,-,-⟩:=aN h.rp (by omega);subst e;have c1:w.cell? ⟨g1,0,none⟩=some (.pointer (some ⟨p,0,none⟩)):=by obtain⟨ty,k⟩:=k1;exact k.cell 0
 have c4:w.cell? ⟨g4,0,none⟩=some (.func (.func 173) #[] #[.pointer (some ⟨g1,0,none⟩),.pointer (some ⟨g3,0,none⟩),.pointer (some ⟨g4,0,none⟩)]):=by obtain⟨ty,k⟩:=k4;exact k.cell 0
 obtain⟨n,hn⟩:∃n,m+1=n:=⟨_,rfl⟩;have q3:w.cell? ⟨p,3,none⟩=some (.slice (some ⟨pg,0,none⟩) n pc):=by rw[← hn];exact h.blk.cell 3
 have hkn:(k:Int)<(n:Int):=by omega
 have hrg:w.rangeAt pg (k*4) (iF ((k:Int)+2)):=lX (k:=k) h (fun j u hu=>by
  have hj:j<4:=by have:=(gO.1 hu).1;simpa[iF] using this
  have hq:qsC m 1=((List.range m).flatMap fun (i:Nat)=>iF ((i:Int)+2))++iF 1:=rfl;have hlen:((List.range m).flatMap fun (i:Nat)=>iF ((i:Int)+2)).length=m*4:=by
   have:=wC m 1;rw[hq,List.length_append] at this;simp only[iF,List.length_cons,List.length_nil] at this ⊢
   omega
  rw[hq,List.getElem?_append_left (by omega),cO (fun (i:Nat)=>iF ((i:Int)+2)) 4 (fun _=>rfl) (List.range m) k j k (by rw[List.getElem?_range (by omega)]) hj];exact hu)
 have hsz:(Tryz.prog.info? 199).map (·.size)=some (iF ((k:Int)+2)).length:=by kernel_rfl
 clear h k1 k3 k4 hn;have hw1:IntKind.i64.wrap ((k:Int)+2-1)=((k+1:Nat):Int):=by rw[IntKind.wrap_i64];omega
 have hw2:IntKind.i64.wrap (((l+1:Nat):Int)-1)=(l:Int):=by rw[IntKind.wrap_i64];omega
 have z1:((k:Int)+2==0)=false:=by simp;omega
 have z2:(((l+1:Nat):Int)==0)=false:=by simp;omega
 go_enter Tryz.func173,Tryz.ntmps173;generalize ((l+1:Nat):Int)=lI at hw2 z2 ⊢;generalize hx:(k:Int)+2=xI at hw1 z1 hrg hsz ⊢;have HX:=hIz (rS xI);clear hx;go_wp2_with (first | (refine wpList_load_mid rfl 199 _ rfl pg (k*4) rfl (iF xI) (.array 4 3) hrg Tryz.underlying199 rfl hsz ?_) | fail);clear c1 q3 hrg hsz;generalize (iF xI).toArray=arr at HX ⊢;go_loopw [22] (fun a wr=>∃j:Nat,j≤4∧a=.int .i64 (j:Int)∧Hid (j=0∧wr=w∨0<j∧lY w g3 r wr)) (fun a _=>(4-intOf a).toNat)
 case atStart=>exact⟨0,by omega,rfl,hIz (.inl ⟨rfl,rfl⟩)⟩
 case round =>
  obtain⟨j,hj,rfl,hq⟩:=hrel;by_cases hlt:j<4
  ·by_cases h0:j=0
   ·subst h0;obtain rfl:wr=w:=by rcases hq.out with ⟨-,e⟩|⟨e,-⟩ <;> first|exact e|omega
    clear hq hlt;have hix:(Instr.index 199 (.agg arr) (.int .i64 0)).run Tryz.prog wr=.ok (.int .i64 xI) wr:=HX.out wr 0 (by decide);have b1:bits .or .i64 0 0=0:=by decide
    have b2:bits .and .i64 0 1=0:=by decide
    go_wp2_with fail;refine IH.mono ?_;clear IH;rintro e W1 ⟨rfl,D⟩;have FIN:=hIz D;clear D;go_wp2;go_roundw
    case rel=>exact⟨1,by omega,by go_num,hIz (.inr ⟨by omega,FIN.out⟩)⟩
    case measure=>simp[intOf] <;> omega
   ·have hix:(Instr.index 199 (.agg arr) (.int .i64 (j:Int))).run Tryz.prog wr=.ok (.int .i64 0) wr:=by have:=HX.out wr j hlt;rwa [if_neg h0] at this
    have hltI:(j:Int)<(4:Int):=by omega
    have hkw:IntKind.i64.wrap ((j:Int)+1)=(j:Int)+1:=IntWalk.i64_in _ (by omega);have hge:(0:Int)≤(j:Int):=by omega
    have hD:=hIz (show 0<j+1∧lY w g3 r wr from by rcases hq.out with ⟨e,-⟩ | ⟨-,e⟩;exact absurd e h0;exact⟨by omega,e⟩);clear hq;go_wp2;go_roundw
    case rel=>exact⟨j+1,by omega,by go_num,hIz (.inr hD.out)⟩
    case measure=>simp[intOf] <;> omega
  ·obtain rfl:j=4:=by omega
   have FIN:=hIz (show lY w g3 r wr by rcases hq.out with ⟨e,-⟩ | ⟨-,e⟩;exact absurd e (by decide);exact e);clear hq;go_wp2;(try simp only[Exit.inBlock,Exit.then])
   exact bodyPost_end (results_none rfl _ _ _) rfl ⟨rfl,FIN.out⟩
theorem uE(w:World)(O:Nat→Option QRo)(p side dep cnt m:Nat)(r:List Nat)(pv lv:Value)(h:QuI w O p side dep cnt m 1 [r] pv lv)(hr:Wd r)(hm:m≤4)(g1 g3 g4:Nat)(k1:∃ty,Blk w g1 ty #[.pointer (some ⟨p,0,none⟩)])(k3:∃ty,Blk w g3 ty #[.slice none 0 0])
  (k4:∃ty,Blk w g4 ty #[.func (.func 173) #[] #[.pointer (some ⟨g1,0,none⟩),.pointer (some ⟨g3,0,none⟩),.pointer (some ⟨g4,0,none⟩)]]):∀(l k:Nat),k+l=m →
  Calls Tryz.prog 173 #[.int .i64 (k:Int),.int .i64 (l:Int),.int .i64 0,.int .i64 0,.pointer (some ⟨g1,0,none⟩),.pointer (some ⟨g3,0,none⟩),.pointer (some ⟨g4,0,none⟩)] w (fun e w'=>e=.returned (.tuple #[])∧lY w g3 r w')
 | 0,k,hk=>by
  obtain rfl:k=m:=by omega
  exact DN w O p side dep cnt k r pv lv h hr hm g1 g3 g4 k1 k3
 | l+1,k,hk=>DO w O p side dep cnt m r pv lv h hr hm g1 g3 g4 k1 k3 k4 l k hk (uE w O p side dep cnt m r pv lv h hr hm g1 g3 g4 k1 k3 k4 l (k+1) (by omega))
open Go.RowKit
def RK(w:World)(b:Option (List Nat))(e:Ending)(w':World):Prop:=
 Below w.heap.size w w'∧match b with
 | none=>e=.returned (.slice none 0 0)
 | some r=>∃A c,e=.returned (.slice A 1 c)∧w'.ownsRow 0 240 66 (.slice A 1 c) 1 (plC r)∧∀k,(Value.slice A 1 c).ownBlock=some k→w.heap.size≤k
theorem jH{w V W:World}{g:Nat}(hb:Below w.heap.size w V)(hu:Upd (fun k=>k=g) V W)(hg:w.heap.size≤g):Below w.heap.size w W:=
 hb.trans (show Below w.heap.size V W from⟨hu.os,hu.tape,hu.output,hu.size,fun k hk=>hu.block k (Nat.lt_of_lt_of_le hk hb.size) (fun e=>by omega)⟩)
abbrev qG (g1 g3 g4:Nat):Value:=.func (.func 173) #[] #[.pointer (some ⟨g1,0,none⟩),.pointer (some ⟨g3,0,none⟩),.pointer (some ⟨g4,0,none⟩)]
theorem qH(w:World)(p:Nat):let V:=(((w.alloc (.cells #[.pointer (some ⟨p,0,none⟩)] 110)).alloc (.cells #[.slice none 0 0] 237)).alloc (.cells #[.nilFunc] 260))
  Blk V w.heap.size 110 #[.pointer (some ⟨p,0,none⟩)]∧Blk V (w.heap.size+1) 237 #[.slice none 0 0]∧Blk V (w.heap.size+1+1) 260 #[.nilFunc]∧Below w.heap.size w V:=by
 intro V;have k1:=Blk.new w 110 #[.pointer (some ⟨p,0,none⟩)];have k2:=Blk.new (w.alloc (.cells #[.pointer (some ⟨p,0,none⟩)] 110)) 237 #[.slice none 0 0];have k3:=Blk.new ((w.alloc (.cells #[.pointer (some ⟨p,0,none⟩)] 110)).alloc (.cells #[.slice none 0 0] 237)) 260 #[.nilFunc];simp only[World.size_alloc] at k2 k3
 refine⟨(k1.upd ((Upd.refl (fun _=>False) _).alloc _) (fun h=>h)).upd ((Upd.refl (fun _=>False) _).alloc _) (fun h=>h),k2.upd ((Upd.refl (fun _=>False) _).alloc _) (fun h=>h),k3,?_⟩;exact((bR.alloc (Nat.le_refl _) _).alloc (by simp) _).alloc (by simp;omega) _
theorem DP(w:World)(O:Nat→Option QRo)(p side dep cnt m:Nat)(r:List Nat)(pv lv:Value)(h:QuI w O p side dep cnt m 1 [r] pv lv)(hr:Wd r)(hs:1≤side)(hd:m+1=dep)(hd4:dep≤4) :
  Calls Tryz.prog 151 #[.pointer (some ⟨p,0,none⟩)] w (RK w (some r)):=by
 have q0:((w.alloc (.cells #[.pointer (some ⟨p,0,none⟩)] 110)).alloc (.cells #[.slice none 0 0] 237)).cell? ⟨p,0,none⟩=some (.int .i64 (side:Int)):=(h.blk.upd (((Upd.refl (fun _=>False) w).alloc _).alloc _) (fun h=>h)).cell 0;have hcon:=jF _ p side hs q0;clear q0;have H:=hIz h;have HA:=hIz (qH w p);obtain⟨g,hg⟩:∃g,w.heap.size=g:=⟨_,rfl⟩;clear h;go_enter Tryz.func151,Tryz.ntmps151;go_wp2_with fail;refine hcon.mono ?_;clear hcon;rintro e w' ⟨rfl,hw⟩;subst w';go_upto_region 5 with (fail);obtain⟨k1,k3,k4,hb⟩:=HA.out;generalize (((w.alloc (.cells #[.pointer (some ⟨p,0,none⟩)] 110)).alloc (.cells #[.slice none 0 0] 237)).alloc (.cells #[.nilFunc] 260))=V at k1 k3 k4 hb ⊢;rw[hg] at k1 k3 k4;have q4:V.cell? ⟨g+1+1,0,none⟩=some .nilFunc:=k4.cell 0;have f4:V.frozen? ⟨g+1+1,0,none⟩=false:=k4.frozen 0;have us:=(Upd.refl (fun k=>k=g+1+1) V).setCell (p:=⟨g+1+1,0,none⟩) (.inl rfl) (qG g (g+1) (g+1+1));have HV:=hIz (show Blk (V.setCell ⟨g+1+1,0,none⟩ (qG g (g+1) (g+1+1))) g 110 #[.pointer (some ⟨p,0,none⟩)]∧Blk (V.setCell ⟨g+1+1,0,none⟩ (qG g (g+1) (g+1+1))) (g+1) 237 #[.slice none 0 0]∧Blk (V.setCell ⟨g+1+1,0,none⟩ (qG g (g+1) (g+1+1))) (g+1+1) 260 #[qG g (g+1) (g+1+1)]∧Below w.heap.size w (V.setCell ⟨g+1+1,0,none⟩ (qG g (g+1) (g+1+1))) from
  ⟨k1.upd us (by omega),k3.upd us (by omega),k4.set 0 _,jH hb us (by omega)⟩)
 clear k1 k3 k4 hb us;go_upto_region 6 with (fail);generalize V.setCell ⟨g+1+1,0,none⟩ (qG g (g+1) (g+1+1))=V1 at HV ⊢;clear q4 f4;have SR:=hIz (show ∀W,Below V1.heap.size V1 W→Blk W g 110 #[.pointer (some ⟨p,0,none⟩)]∧Blk W (g+1) 237 #[.slice none 0 0]∧Blk W (g+1+1) 260 #[qG g (g+1) (g+1+1)]∧Below w.heap.size w W∧QuI W O p side dep cnt m 1 [r] pv lv from fun W hb=>by
  obtain⟨k1,k3,k4,b⟩:=HV.out;have hu:=Upd.of_below hb (fun _=>False);have hbw:=tHn b hb;exact⟨k1.upd hu (fun h=>h),k3.upd hu (fun h=>h),k4.upd hu (fun h=>h),hbw,H.out.upd (upF hbw) (fun _ _=>id)⟩)
 obtain⟨j1,j3,j4,bw,hi⟩:=SR.out V1.drew bR.drew;have hS:V1.drew.cell? ⟨g+1+1,0,none⟩=some (qG g (g+1) (g+1+1))∧V1.drew.cell? ⟨g,0,none⟩=some (.pointer (some ⟨p,0,none⟩))∧V1.drew.cell? ⟨p,1,none⟩=some (.int .i64 (dep:Int)):=⟨j4.cell 0,j1.cell 0,hi.blk.cell 1⟩;have hw1:IntKind.i64.wrap ((dep:Int)-1)=(m:Int):=by rw[IntKind.wrap_i64];omega
 have hcon:Calls Tryz.prog 173 #[.int .i64 0,.int .i64 (m:Int),.int .i64 0,.int .i64 0,.pointer (some ⟨g,0,none⟩),.pointer (some ⟨g+1,0,none⟩),.pointer (some ⟨g+1+1,0,none⟩)] V1.drew (fun e w'=>e=.returned (.tuple #[])∧lY V1.drew (g+1) r w'):=uE V1.drew O p side dep cnt m r pv lv hi hr (by omega) g (g+1) (g+1+1) ⟨_,j1⟩ ⟨_,j3⟩ ⟨_,j4⟩ m 0 (by omega);have BW:=hIz bw;clear j1 j3 j4 bw hi;refine aF (fun W=>W.cell? ⟨g+1+1,0,none⟩=some (qG g (g+1) (g+1+1))∧W.cell? ⟨g,0,none⟩=some (.pointer (some ⟨p,0,none⟩))∧W.cell? ⟨p,1,none⟩=some (.int .i64 (dep:Int))) 6 [(0,true),(1,true),(2,true),(3,true),(4,true),(5,true),(6,false)] hS ?_;generalize V1.drew=V2 at hS hcon BW ⊢
 iterate 6 refine aC rfl ?_
 refine aM rfl rfl (fun K hK=>?_);go_simp;refine hcon.mono ?_;clear hcon;rintro e W3 ⟨rfl,D⟩;refine hK _ _ (fun h=>absurd rfl h) ?_;clear hK K hS;(try simp only[Act.put,gA,gS,gZ,sA,sZ,sS])
 refine aG ?_;obtain⟨A,c,d1,d2,d3,d4⟩:=D;have FIN:=hIz (show RK w (some r) (.returned (.slice A 1 c)) W3 from⟨jH BW.out d3 (by omega),A,c,rfl,d2,fun k hk=>Nat.le_trans BW.out.size (d4 k hk)⟩);clear d2 d3 d4;have hso:=DJ 1 (Nat.le_refl _) A c (.func (.func 175) #[] #[]) W3;go_wp2_with fail;refine hso.mono ?_;clear hso;rintro e w' ⟨⟨v,rfl⟩,hw⟩;subst w';go_wp2;go_ret;exact FIN.out
open Go.RowKit
theorem DQ(w:World)(O:Nat→Option QRo)(p side dep cnt:Nat)(pv lv:Value)(h:QuI w O p side dep cnt 0 0 [] pv lv)(hs:1≤side)(hd1:1≤dep)(hd4:dep≤4) :
  Calls Tryz.prog 151 #[.pointer (some ⟨p,0,none⟩)] w (RK w none):=by
 have q0:((w.alloc (.cells #[.pointer (some ⟨p,0,none⟩)] 110)).alloc (.cells #[.slice none 0 0] 237)).cell? ⟨p,0,none⟩=some (.int .i64 (side:Int)):=(h.blk.upd (((Upd.refl (fun _=>False) w).alloc _).alloc _) (fun h=>h)).cell 0;have hcon:=jF _ p side hs q0;clear q0;have H:=hIz h;have HA:=hIz (qH w p);obtain⟨g,hg⟩:∃g,w.heap.size=g:=⟨_,rfl⟩;clear h;go_enter Tryz.func151,Tryz.ntmps151;go_wp2_with fail;refine hcon.mono ?_;clear hcon;rintro e w' ⟨rfl,hw⟩;subst w';go_upto_region 5 with (fail);obtain⟨k1,k3,k4,hb⟩:=HA.out;generalize (((w.alloc (.cells #[.pointer (some ⟨p,0,none⟩)] 110)).alloc (.cells #[.slice none 0 0] 237)).alloc (.cells #[.nilFunc] 260))=V at k1 k3 k4 hb ⊢;rw[hg] at k1 k3 k4;have q4:V.cell? ⟨g+1+1,0,none⟩=some .nilFunc:=k4.cell 0;have f4:V.frozen? ⟨g+1+1,0,none⟩=false:=k4.frozen 0;have us:=(Upd.refl (fun k=>k=g+1+1) V).setCell (p:=⟨g+1+1,0,none⟩) (.inl rfl) (qG g (g+1) (g+1+1));have HV:=hIz (show Blk (V.setCell ⟨g+1+1,0,none⟩ (qG g (g+1) (g+1+1))) g 110 #[.pointer (some ⟨p,0,none⟩)]∧Blk (V.setCell ⟨g+1+1,0,none⟩ (qG g (g+1) (g+1+1))) (g+1) 237 #[.slice none 0 0]∧Blk (V.setCell ⟨g+1+1,0,none⟩ (qG g (g+1) (g+1+1))) (g+1+1) 260 #[qG g (g+1) (g+1+1)]∧Below w.heap.size w (V.setCell ⟨g+1+1,0,none⟩ (qG g (g+1) (g+1+1))) from
  ⟨k1.upd us (by omega),k3.upd us (by omega),k4.set 0 _,jH hb us (by omega)⟩)
 clear k1 k3 k4 hb us;go_upto_region 6 with (fail);generalize V.setCell ⟨g+1+1,0,none⟩ (qG g (g+1) (g+1+1))=V1 at HV ⊢;clear q4 f4;have SR:=hIz (show ∀W,Below V1.heap.size V1 W→Blk W g 110 #[.pointer (some ⟨p,0,none⟩)]∧Blk W (g+1) 237 #[.slice none 0 0]∧Blk W (g+1+1) 260 #[qG g (g+1) (g+1+1)]∧Below w.heap.size w W∧QuI W O p side dep cnt 0 0 [] pv lv from fun W hb=>by
  obtain⟨k1,k3,k4,b⟩:=HV.out;have hu:=Upd.of_below hb (fun _=>False);have hbw:=tHn b hb;exact⟨k1.upd hu (fun h=>h),k3.upd hu (fun h=>h),k4.upd hu (fun h=>h),hbw,H.out.upd (upF hbw) (fun _ _=>id)⟩)
 obtain⟨j1,j3,j4,bw,hi⟩:=SR.out V1.drew bR.drew;have hS:V1.drew.cell? ⟨g+1+1,0,none⟩=some (qG g (g+1) (g+1+1))∧V1.drew.cell? ⟨g,0,none⟩=some (.pointer (some ⟨p,0,none⟩))∧V1.drew.cell? ⟨p,1,none⟩=some (.int .i64 (dep:Int)):=⟨j4.cell 0,j1.cell 0,hi.blk.cell 1⟩;have hw1:IntKind.i64.wrap ((dep:Int)-1)=(dep:Int)-1:=by rw[IntKind.wrap_i64];omega
 have hcon:=DL V1.drew O p side dep cnt pv lv hi ((dep:Int)-1) g (g+1) (g+1+1) (j1.cell 0);have h3:V1.drew.cell? ⟨g+1,0,none⟩=some (.slice none 0 0):=j3.cell 0;have BW:=hIz bw;clear j1 j3 j4 bw hi;refine aF (fun W=>W.cell? ⟨g+1+1,0,none⟩=some (qG g (g+1) (g+1+1))∧W.cell? ⟨g,0,none⟩=some (.pointer (some ⟨p,0,none⟩))∧W.cell? ⟨p,1,none⟩=some (.int .i64 (dep:Int))) 6 [(0,true),(1,true),(2,true),(3,true),(4,true),(5,true),(6,false)] hS ?_;generalize V1.drew=V2 at hS hcon h3 BW ⊢
 iterate 6 refine aC rfl ?_
 refine aM rfl rfl (fun K hK=>?_);go_simp;refine hcon.mono ?_;clear hcon;rintro e W3 ⟨rfl,hw⟩;subst W3;refine hK _ _ (fun h=>absurd rfl h) ?_;clear hK K hS;(try simp only[Act.put,gA,gS,gZ,sA,sZ,sS])
 refine aG ?_;have FIN:=hIz (show RK w none (.returned (.slice none 0 0)) V2 from⟨BW.out,rfl⟩);have hso:=DJ 0 (Nat.zero_le _) none 0 (.func (.func 175) #[] #[]) V2;go_wp2_with fail;refine hso.mono ?_;clear hso;rintro e w' ⟨⟨v,rfl⟩,hw⟩;subst w';go_wp2;go_ret;exact FIN.out
theorem yE(w:World)(F:Nat→Prop)(p side:Nat)(b:Option (List Nat))(h:QuS w F p side b):Calls Tryz.prog 151 #[.pointer (some ⟨p,0,none⟩)] w (RK w b):=by
 obtain⟨O,dep,cnt,m,last,L,pv,lv,hq,ok,-⟩:=h;cases b with
 | none =>
  obtain⟨rfl,rfl,rfl,rfl⟩:=ok.no rfl;exact DQ w O p side dep 0 pv lv hq ok.s1 ok.d1 ok.d2
 | some r =>
  obtain⟨hm,rfl,rfl,rfl,hr⟩:=ok.is r rfl;exact DP w O p side dep _ m r pv lv hq hr ok.s1 hm ok.d2
open Go.RowKit
theorem uG(w W:World)(v:Value)(hb:Below w.heap.size w W):Blk (W.alloc (.cells #[v] 237)) W.heap.size 237 #[v]∧Below w.heap.size w (W.alloc (.cells #[v] 237)):=
 ⟨Blk.new W 237 #[v],hb.alloc hb.size _⟩
def eK:Nat→Nat→Nat→List Nat
 | 0,_,_=>[]
 | n+1,o,x=>if x % 2=1 then o::eK n (o+1) (x / 2) else eK n (o+1) (x / 2)
theorem uH{x:Nat}(h:x % 2=1):x &&& (x-1)=x-1:=by
 apply Nat.eq_of_testBit_eq
 intro j;rw[Nat.testBit_and];cases j with
 | zero=>simp[Nat.testBit_zero];omega
 | succ j =>
  rw[Nat.testBit_succ,Nat.testBit_succ];have:(x-1) / 2=x / 2:=by omega
  rw[this,Bool.and_self]
theorem rU{y:Nat}(h:y≠0):(2*y) &&& (2*y-1)=2*(y &&& (y-1)):=by
 apply Nat.eq_of_testBit_eq
 intro j;rw[Nat.testBit_and];cases j with
 | zero=>simp[Nat.testBit_zero]
 | succ j =>
  rw[Nat.testBit_succ,Nat.testBit_succ,Nat.testBit_succ];have h1:(2*y-1) / 2=y-1:=by omega
  have h2:2*y / 2=y:=by omega
  have h3:2*(y &&& (y-1)) / 2=y &&& (y-1):=by omega
  rw[h1,h2,h3,Nat.testBit_and]
theorem qI:∀n o,eK n o 0=[]
 | 0,_=>rfl
 | n+1,o=>by
  rw[eK,if_neg (by decide)];exact qI n (o+1)
theorem qJ:∀(n o x:Nat),x≠0→x<2 ^ n→eK n o x=(o+Lib.ctz n x)::eK n o (x &&& (x-1))
 | 0,o,x,h0,h=>by simp at h;omega
 | n+1,o,x,h0,h=>by
  by_cases hx:x % 2=1
  ·have hc:Lib.ctz (n+1) x=0:=by rw[Lib.ctz,if_neg h0,Lib.ctzFrom,if_pos hx]
   rw[uH hx,hc,eK,if_pos hx,eK,if_neg (by omega)];have:(x-1) / 2=x / 2:=by omega
   rw[this];rfl
  ·obtain⟨y,rfl⟩:∃y,x=2*y:=⟨x / 2,by omega⟩;have hy:y≠0:=by omega
   have hd:2*y / 2=y:=by omega
   have hc:Lib.ctz (n+1) (2*y)=Lib.ctz n y+1:=by rw[Lib.ctz,if_neg h0,Lib.ctz,if_neg hy,Lib.ctzFrom,if_neg hx,hd,Nat.add_comm]
   have hd2:2*(y &&& (y-1)) / 2=y &&& (y-1):=by omega
   rw[rU hy,hc,eK,if_neg hx,eK,if_neg (by omega),hd,hd2,qJ n (o+1) y hy (by rw[Nat.pow_succ] at h;omega)];congr 1
   omega
theorem oD:∀(n o x j:Nat),j∈eK n o x↔∃i,i<n∧j=o+i∧x.testBit i=true
 | 0,o,x,j=>by simp[eK]
 | n+1,o,x,j=>by
  have ih:=oD n (o+1) (x / 2) j;have hz:x.testBit 0=decide (x % 2=1):=Nat.testBit_zero x;constructor
  ·intro h;rw[eK] at h;have key:j=o∧x % 2=1∨j∈eK n (o+1) (x / 2):=by
    split at h
    ·rcases List.mem_cons.1 h with h|h
     ·exact .inl ⟨h,by assumption⟩
     ·exact .inr h
    ·exact .inr h
   rcases key with ⟨rfl,hx⟩|hm
   ·exact⟨0,by omega,rfl,by rw[hz];exact decide_eq_true hx⟩
   ·obtain⟨i,hi,rfl,ht⟩:=ih.1 hm;exact⟨i+1,by omega,by omega,by rw[Nat.testBit_succ];exact ht⟩
  ·rintro⟨i,hi,rfl,ht⟩;rw[eK];cases i with
   | zero =>
    rw[hz] at ht;rw[if_pos (of_decide_eq_true ht)];exact List.mem_cons_self
   | succ i =>
    have hm:o+(i+1)∈eK n (o+1) (x / 2):=ih.2 ⟨i,by omega,by omega,by rw[← Nat.testBit_succ];exact ht⟩;split
    ·exact List.mem_cons_of_mem _ hm
    ·exact hm
open Go
section
variable {P:Program} {ops:Array Oper} {Q:Exit→Act→World→Prop} {md:Region.Mode} {S:World→Prop} {n m l:Nat}
theorem rV{f:FuncId}{args:Array Value}{w:World}{R:Ending→World→Prop}(h:Calls P f args w R):CallsIn (Fence.wide.inRound l) m P f args w R:=
 (callsIn_wide (n:=m)).2 h
theorem wG{row:String}{args:Array Value}{w:World}{R:Value→World→Prop}(h:Rows P row args w R):RowsIn Fence.wide m P row args w R:=by
 intro c cs _;obtain⟨v,w',hr,hs⟩:=h c cs;exact⟨v,w',hr,stepsIn_wide.2 hs⟩
theorem uI{row:String}{args:Array Value}{w:World}{R:Value→World→Prop}(h:Rows P row args w R):RowsIn (Fence.wide.inRound l) m P row args w R:=
 wG h

theorem mR{o:Oper}{a:Act}{w:World}{K:Act→World→Prop}(hnd:∀c,o.op≠.defer c)(h:o.wp P a w K Q):o.wpIn (Fence.wide.inRound l) m P a w K Q:=by
 unfold Oper.wp at h;refine⟨fun _ _=>trivial,?_⟩;rw[Oper.semAt_eq _ _ _ hnd];generalize (execOp a.eval o).run P w=r at *;cases r with
 | ok x w' =>
  cases x <;> simp only[Oper.upon,Oper.uponIn] at h ⊢ <;>
   first
    | exact h
    | exact h.elim
    | exact⟨fun h=>by simp[Fence.wide] at h,rV h⟩
    | exact⟨fun h=>by simp[Fence.wide] at h,uI h⟩
 | halt x w'=>cases x <;> simp only[Oper.upon,Oper.uponIn] at h ⊢ <;> exact h

theorem pM{i:Nat}{a:Act}{w:World}{K:Act→World→Prop}(hnd:∀o∈ops,∀c,o.op≠.defer c)(hQ:¬LetsOut Q)(h:wpOp P ops Q i K a w):wpOpIn (Fence.wide.inRound l) m P ops Q i K a w:=by
 unfold wpOp at h;unfold wpOpIn;split
 ·rename_i ho;simpa only [ho] using h
 ·rename_i o ho
  simp only[ho] at h
  split
  ·rename_i hw
   simp only[hw,if_true] at h
   rcases h with h|h
   ·exact mR (hnd o (Array.mem_of_getElem? ho)) h
   ·exact absurd h.2 hQ
  ·rename_i hw
   simp only[hw] at h
   exact⟨fun _ _=>trivial,h⟩

theorem iQ(hnd:∀o∈ops,∀c,o.op≠.defer c)(hQ:¬LetsOut Q):∀(fuel:Nat) (listed:Array Bool) (a:Act) (w:World),
  wpAny P md ops Q fuel listed a w→wpAnyIn (Fence.wide.inRound l) m P md ops Q fuel listed a w
 | 0,_,_,_,h=>h
 | fuel+1,_,_,_,h=>⟨h.1,fun i hi=>wpOpIn_mono (fun a' w' h'=>iQ hnd hQ fuel _ a' w' h') (pM hnd hQ (h.2 i hi))⟩

def DR(l:List Oper):Bool:=l.all fun o=>match o.op with | .defer _=>false | _=>true
theorem uJ{l:List Oper}(h:DR l=true):∀o∈l.toArray,∀c,o.op≠.defer c:=by
 intro o ho c hc;have:=List.all_eq_true.1 h o (by simpa using ho);simp[hc] at this

theorem jI{rid:Nat}{a:Act}{w:World}{ol:List Oper}(S:World→Prop)(n:Nat)(σ:List (Nat × Bool))(hm:P.follows .mixedOrders=true)(hB:QO .any ol.toArray n σ=true)(hnd:DR ol=true)
  (hLQ:¬LetsOut Q) (hQ:∀c a d v w,Q (.panic c) (Act.put a d v) w→Q (.panic c) a w) (hS:S w.drew) (h:fG P ol.toArray Q S n σ a w.drew):(Code.region rid ol.toArray true).wpIn (Fence.wide.inRound l) m P Q a w:=by
 simp only[QO,Bool.and_eq_true,Bool.or_eq_true,decide_eq_true_eq] at hB
 obtain⟨⟨⟨hsel,hlen⟩,hp⟩,hB'⟩:=hB;refine wpIn_region_any hm (iQ (uJ hnd) hLQ _ _ _ _ (jR (S:=S) (n:=n) _ _ _ _ ?_));rw[← hlen];refine jS hsel hQ ol.toArray.size σ _ a w.drew (hp.imp id fun h p hpr hp2=>?_) (jQ _) (by rw[hlen];exact hB') (fun _=>hS) h;have:=List.all_eq_true.1 h p hpr;simpa[hp2] using this
end
open Go.RowKit
theorem Blk.keep{W W':World}{g:Nat}{t:TypeId}{cs:Array Value}{row:Option Nat}(h:Blk W g t cs)(hg:W.grownBy W' row){B:Nat}(hr:∀r,row=some r→B≤r∧∃o:Obj,W.heap[r]?=some o∧o.isCells=false):Blk W' g t cs:=
 h.grown hg (fun e=>by
  obtain⟨_,o,ho,hc⟩:=hr g e.symm;rw[show W.heap[g]?=_ from h] at ho;cases ho;cases hc)

theorem JR{α:Type}{P:Program}{g:Operand}{ps:Array Tmp}{assign body:Code}{Q:Exit→Act→World→Prop}{a:Act}{w:World}(n:Nat)
  (h1:1≤n) {gf:Nat} {lb:Array Value} (hg:a.eval g=.func (.func gf) #[] lb) (eg:∀args w,(callFunc gf args).run P w=.ok (.enter gf args) w)
  {encs:α→Array Value} {Kp:World→World→Prop} {S Sp:List α→Prop} {N:Nat} {w0:World} (hseq:SeqStopsK Fence.wide (n-1) P gf lb encs Kp S Sp N w0)
  (hKt:∀{A B C:World},Kp A B→Kp B C→Kp A C) (hKb:∀(W:World) (l:Nat) (o o':Obj),w.heap.size≤l→W.heap[l]?=some o→o.isCells=false→o.isWalk=false→Kp W (W.putObj l o')) (hb0:Below w0.heap.size w0 w) (hps:∀x,(encs x).size=ps.size)
  (I:List α→World→Prop) (Ix:Code→List α→World→Prop) (hI:OwnFrom w.heap.size I) (hIx:∀c,OwnFrom w.heap.size (Ix c)) (h0:I [] w)
  (upd:Array Value→α→Nat→Array Value) (Bx:α→Nat→World→Prop) (hBx:∀x b,OwnFrom w.heap.size (fun (_:Unit) W=>Bx x b W))
  (hassign:∀(l:Nat) (pre:List α) (x:α) (W:World) (K:Act→World→Prop),I pre W→(∀b W',KeepsFrom w.heap.size W W'→Kp W W'→I pre W'→Bx x b W'→K { tmps:=upd a.tmps x b,defers:=[] } W') →
   assign.wpIn (Fence.wide.inRound l) (n-1-1) P (Exit.then K (fun _ _ _=>False)) { tmps:=(ps.zip (encs x)).foldl (fun t (p,v)=>t.setIfInBounds p v) a.tmps,defers:=[] } W)
  (hbody:∀(l:Nat) (pre:List α) (x:α) (b:Nat) (W:World),w.heap.size≤l→(∃r,W.heap[l]?=some (.loop r))→I pre W→Bx x b W→pre.length<N →
   body.wpIn (Fence.wide.inRound l) (n-1-1) P (ownPostG w.heap.size Kp I Ix (pre++[x]) W) { tmps:=upd a.tmps x b,defers:=[] } W)
  (hdone:∀(D:Nat) (xs:List α) (W:World),w.heap.size≤D→S xs→I xs W→W.heap[D]?=some (.deferred (some []))→Q .normal { a with defers:={ target:=.collected D,args:=#[] }::a.defers } W)
  (hstop:∀(D:Nat) (c:Code) (pre:List α) (W:World),w.heap.size≤D→Sp pre→Ix c pre W→W.heap[D]?=some (.deferred (some []))→c.wp P Q { a with defers:={ target:=.collected D,args:=#[] }::a.defers } W) :
  (Code.rangeFunc g ps assign body).wp P Q a w:=by
 refine(wpIn_wide (n:=n)).1 ?_;refine wpIn_rangeFunc_ownH rfl h1 hg trivial eg hseq hKt hKb hb0 hps I Ix hI hIx h0 (fun x a' W=>∃b,a'={ tmps:=upd a.tmps x b,defers:=[] }∧Bx x b W) ?_ ?_ ?_ hdone ?_
 ·rintro x a' s W W' row ⟨b,hb,hx⟩ hgr hr;exact⟨b,hb,hBx x b () W W' row hx hgr hr⟩
 ·intro l pre x W K hi hK;exact hassign l pre x W K hi (fun b W' h1 h2 h3 h4=>hK _ _ h1 h2 h3 ⟨b,rfl,h4⟩)
 ·rintro l pre x a' W hl hr hi ⟨b,rfl,hb⟩ hlt;exact hbody l pre x b W hl hr hi hb hlt
 ·intro D c pre W hD hp hi hd;exact wpIn_wide.2 (hstop D c pre W hD hp hi hd)
end Go.Proofs.YteffnejneoocgaaGreatDoor
