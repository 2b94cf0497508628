/- A range over a function at the wide fence: the loop's variables may be boxed by each round; the law in a form to apply. Nothing here names the program; A range over a function whose iterator may itself range over another: which blocks a round turns is named. Nothing here names the program; The cells of a block, as an iterator; A new variable of many cells that is stored into at once; a value that is put together. Nothing here names the program; The cells of the blocks of one row: quad.cells, at one block. (Written by mkQeC.py.); All cells of a matrix, as an iterator; Blocks of bits: the diagonal, a square corner. (Written by mkAzA.py.); Blocks of bits: a square corner. (Written by mkAzB.py.). -/
import Derived.RangeFuncNested
import Derived.RangeFuncBound
import Derived.RangeFuncCalls
import Derived.RangeFuncLeaves
import Derived.RangeFuncBox
import Derived.Test.YtnokckdkaifibaaGreatDoorO06
import Derived.Test.YtnokckdkaifibaaGreatDoorO01
import Derived.Shelf.Abstract
import Derived.Shelf.RegionOpen
import Derived.TacticsInMore
import Derived.LoopNIn
import Derived.LoopIn
import Derived.Laws.NewFold
import Derived.Deep.MidRow
set_option linter.unusedVariables false
set_option linter.unusedSimpArgs false
set_option maxHeartbeats 16000000
set_option maxRecDepth 100000
namespace Go.Proofs.YtnokckdkaifibaaGreatDoor
open Go.RowKit
theorem Blk.keep{W W':World}{g:Nat}{t:TypeId}{cs:Array Value}{row:Option Nat}(h:Blk W g t cs)(hg:W.grownBy W' row){B:Nat}(hr:∀r,row=some r→B≤r∧∃o:Obj,W.heap[r]?=some o∧o.isCells=false):Blk W' g t cs:=
 h.grown hg (fun e=>by
  obtain⟨_,o,ho,hc⟩:=hr g e.symm;rw[show W.heap[g]?=_ from h] at ho;cases ho;cases hc)

theorem KZ{α:Type}{P:Program}{g:Operand}{ps:Array Tmp}{assign body:Code}{Q:Exit→Act→World→Prop}{a:Act}{w:World}(n:Nat)
  (h1:1≤n) {gf:Nat} {lb:Array Value} (hg:a.eval g=.func (.func gf) #[] lb) (eg:∀args w,(callFunc gf args).run P w=.ok (.enter gf args) w)
  {encs:α→Array Value} {Kp:World→World→Prop} {S Sp:List α→Prop} {N:Nat} {w0:World} (hseq:SeqStopsK Fence.wide (n-1) P gf lb encs Kp S Sp N w0)
  (hKt:∀{A B C:World},Kp A B→Kp B C→Kp A C) (hKb:∀(W:World) (l:Nat) (o o':Obj),w.heap.size≤l→W.heap[l]?=some o→o.isCells=false→o.isWalk=false→Kp W (W.putObj l o')) (hb0:Below w0.heap.size w0 w) (hps:∀x,(encs x).size=ps.size)
  (I:List α→World→Prop) (Ix:Code→List α→World→Prop) (hI:OwnFrom w.heap.size I) (hIx:∀c,OwnFrom w.heap.size (Ix c)) (h0:I [] w)
  (upd:Array Value→α→Nat→Array Value) (Bx:α→Nat→World→Prop) (hBx:∀x b,OwnFrom w.heap.size (fun (_:Unit) W=>Bx x b W))
  (hassign:∀(l:Nat) (pre:List α) (x:α) (W:World) (K:Act→World→Prop),I pre W→(∀b W',KeepsFrom w.heap.size W W'→Kp W W'→I pre W'→Bx x b W'→K { tmps:=upd a.tmps x b,defers:=[] } W') →
   assign.wpIn (Fence.wide.inRound l) (n-1-1) P (Exit.then K (fun _ _ _=>False)) { tmps:=(ps.zip (encs x)).foldl (fun t (p,v)=>t.setIfInBounds p v) a.tmps,defers:=[] } W)
  (hbody:∀(l:Nat) (pre:List α) (x:α) (b:Nat) (W:World),w.heap.size≤l→(∃r,W.heap[l]?=some (.loop r))→I pre W→Bx x b W→pre.length<N →
   body.wpIn (Fence.wide.inRound l) (n-1-1) P (ownPostG w.heap.size Kp I Ix (pre++[x]) W) { tmps:=upd a.tmps x b,defers:=[] } W)
  (hdone:∀(D:Nat) (xs:List α) (W:World),w.heap.size≤D→S xs→I xs W→W.heap[D]?=some (.deferred (some []))→Q .normal { a with defers:={ target:=.collected D,args:=#[] }::a.defers } W)
  (hstop:∀(D:Nat) (c:Code) (pre:List α) (W:World),w.heap.size≤D→Sp pre→Ix c pre W→W.heap[D]?=some (.deferred (some []))→c.wp P Q { a with defers:={ target:=.collected D,args:=#[] }::a.defers } W) :
  (Code.rangeFunc g ps assign body).wp P Q a w:=by
 refine(wpIn_wide (n:=n)).1 ?_;refine wpIn_rangeFunc_ownH rfl h1 hg trivial eg hseq hKt hKb hb0 hps I Ix hI hIx h0 (fun x a' W=>∃b,a'={ tmps:=upd a.tmps x b,defers:=[] }∧Bx x b W) ?_ ?_ ?_ hdone ?_
 ·rintro x a' s W W' row ⟨b,hb,hx⟩ hgr hr;exact⟨b,hb,hBx x b () W W' row hx hgr hr⟩
 ·intro l pre x W K hi hK;exact hassign l pre x W K hi (fun b W' h1 h2 h3 h4=>hK _ _ h1 h2 h3 ⟨b,rfl,h4⟩)
 ·rintro l pre x a' W hl hr hi ⟨b,rfl,hb⟩ hlt;exact hbody l pre x b W hl hr hi hb hlt
 ·intro D c pre W hD hp hi hd;exact wpIn_wide.2 (hstop D c pre W hD hp hi hd)
open Go.RowKit
def RgM(lb:Nat)(A:World):Prop:=∀v q,A.cell? ⟨lb,0,none⟩=some v→v.ownBlock=some q→q<A.heap.size
def TP(lb:Nat)(F:Nat→Prop)(A:World)(q:Nat):Prop:=F q∨∃v,A.cell? ⟨lb,0,none⟩=some v∧v.ownBlock=some q
def KpM(lb:Nat)(F:Nat→Prop)(A B:World):Prop:=
 RgM lb A→Upd (TP lb F A) A B∧∀v q,B.cell? ⟨lb,0,none⟩=some v→v.ownBlock=some q→q<B.heap.size∧(q<A.heap.size→∃u,A.cell? ⟨lb,0,none⟩=some u∧u.ownBlock=some q)
def Prv(lb:Nat)(F:Nat→Prop)(A:World)(q:Nat):Prop:=q<A.heap.size∧¬TP lb F A q
def jN{β:Type}(lb:Nat)(F:Nat→Prop)(B:Nat)(I:β→World→Prop):Prop:=
 ∀s A A' row,I s A→A.grownBy A' row→(∀k,row=some k→B≤k∧Prv lb F A k)→I s A'
theorem jN.put{β:Type}{lb:Nat}{F:Nat→Prop}{B:Nat}{I:β→World→Prop}(h:jN lb F B I){s:β}{W:World}{k:Nat}(o:Obj)(hs:I s W)(hB:B≤k)(hk:Prv lb F W k):I s (W.putObj k o):=
 h s W _ (some k) hs (grownBy_putObj' W k o) (fun r e=>by cases e;exact⟨hB,hk⟩)
theorem jN.set{β:Type}{lb:Nat}{F:Nat→Prop}{B:Nat}{I:β→World→Prop}(h:jN lb F B I){s:β}{W:World}{p:Addr}(v:Value)(hs:I s W)(hB:B≤p.block)(hk:Prv lb F W p.block):I s (W.setCell p v):=
 h s W _ (some p.block) hs ((Upd.refl (fun k=>k=p.block) W).setCell (.inl rfl) v |>.to_grown (fun i _ e=>by rw[e])) (fun r e=>by cases e;exact⟨hB,hk⟩)
theorem jN.alloc{β:Type}{lb:Nat}{F:Nat→Prop}{B:Nat}{I:β→World→Prop}(h:jN lb F B I){s:β}{W:World}(o:Obj)(hs:I s W):I s (W.alloc o):=
 h s W _ none hs (World.grownBy_alloc W o none) (fun r e=>by cases e)
theorem jN.below{β:Type}{lb:Nat}{F:Nat→Prop}{B:Nat}{I:β→World→Prop}(h:jN lb F B I){s:β}{W W':World}(hs:I s W)(hb:Below W.heap.size W W'):I s W':=
 h s W _ none hs ((upF hb).to_grown (fun _ _ e=>e.elim)) (fun r e=>by cases e)
theorem jN.from{β:Type}{lb:Nat}{F:Nat→Prop}{B B':Nat}{I:β→World→Prop}(h:jN lb F B I)(hB:B≤B'):jN lb F B' I:=
 fun s A A' row hs hg hr=>h s A A' row hs hg (fun k hk=>⟨Nat.le_trans hB (hr k hk).1,(hr k hk).2⟩)
theorem jN.monoF{β:Type}{lb:Nat}{F F':Nat→Prop}{B:Nat}{I:β→World→Prop}(h:jN lb F B I)(hF:∀q,F q→F' q):jN lb F' B I:=
 fun s A A' row hs hg hr=>h s A A' row hs hg (fun k hk=>⟨(hr k hk).1,(hr k hk).2.1,fun ha=>(hr k hk).2.2 (ha.imp (hF k) id)⟩)
section
variable {lb:Nat} {F F':Nat→Prop} {A B C:World} {q:Nat}
theorem KpM.rg(h:KpM lb F A B)(r:RgM lb A):RgM lb B:=fun v q h1 h2=>((h r).2 v q h1 h2).1
theorem KpM.size(h:KpM lb F A B)(r:RgM lb A):A.heap.size≤B.heap.size:=(h r).1.size
theorem KpM.trans(h:KpM lb F A B)(k:KpM lb F B C):KpM lb F A C:=by
 intro r;have rB:=h.rg r;obtain⟨u1,r1⟩:=h r;obtain⟨u2,r2⟩:=k rB;refine⟨u1.trans u2 ?_,?_⟩
 ·intro i hi;rcases Nat.lt_or_ge i A.heap.size with hlt|hge
  ·refine .inl ?_;rcases hi with hi|⟨v,hv,ho⟩
   ·exact .inl hi
   ·exact .inr ((r1 v i hv ho).2 hlt)
  ·exact .inr hge
 ·intro v q hv ho;obtain⟨a,b⟩:=r2 v q hv ho;refine⟨a,fun hlt=>?_⟩;obtain⟨u,hu,ho'⟩:=b (Nat.lt_of_lt_of_le hlt u1.size);exact(r1 u q hu ho').2 hlt
theorem KpM.mono(h:KpM lb F A B)(hF:∀q,F q→F' q):KpM lb F' A B:=fun r =>
 ⟨(h r).1.mono (fun i _ hi=>hi.imp (hF i) id),(h r).2⟩
theorem KpM.of_below(h:Below A.heap.size A B)(hl:lb<A.heap.size):KpM lb F A B:=by
 intro r;refine⟨Upd.of_below h _,fun v q hv ho=>?_⟩;have hc:B.cell? ⟨lb,0,none⟩=A.cell? ⟨lb,0,none⟩:=h.cell (p:=⟨lb,0,none⟩) hl;rw[hc] at hv;exact⟨Nat.lt_of_lt_of_le (r v q hv ho) h.size,fun _=>⟨v,hv,ho⟩⟩
theorem KpM.refl(lb:Nat)(F:Nat→Prop)(A:World):KpM lb F A A:=fun r=>⟨Upd.refl _ _,fun v q hv ho=>⟨r v q hv ho,fun _=>⟨v,hv,ho⟩⟩⟩
theorem KpM.of_upd(h:Upd F A B)(hl:lb<A.heap.size)(hn:¬F lb):KpM lb F A B:=by
 intro r;refine⟨h.mono (fun i _ hi=>.inl hi),fun v q hv ho=>?_⟩;rw[h.cell (p:=⟨lb,0,none⟩) hl hn] at hv;exact⟨Nat.lt_of_lt_of_le (r v q hv ho) h.size,fun _=>⟨v,hv,ho⟩⟩
theorem KpM.shrink(h:KpM lb F A B)(hF:∀q,F q→F' q∨A.heap.size≤q):KpM lb F' A B:=fun r =>
 ⟨(h r).1.mono (fun i hi ha=>by
  rcases ha with ha|ha
  ·exact(hF i ha).elim .inl (fun hge=>by omega)
  ·exact .inr ha),(h r).2⟩
theorem KpM.put(l:Nat)(o:Obj)(hF:F l)(hl:lb<A.heap.size)(hn:lb≠l):KpM lb F A (A.putObj l o):=by
 have hu:=Upd.of_grown (grownBy_putObj' A l o);have:=KpM.of_upd (lb:=lb) hu hl (fun e=>hn (by injection e with e;exact e.symm));exact this.mono (fun q e=>by injection e with e;subst e;exact hF)
theorem KpM.prv(h:KpM lb F A B)(r:RgM lb A)(p:Prv lb F A q):B.heap[q]?=A.heap[q]?∧Prv lb F B q:=by
 obtain⟨u,hr⟩:=h r;refine⟨u.block q p.1 p.2,Nat.lt_of_lt_of_le p.1 u.size,?_⟩;rintro (hf|⟨v,hv,ho⟩)
 ·exact p.2 (.inl hf)
 ·exact p.2 (.inr ((hr v q hv ho).2 p.1))
theorem KpM.blk{t:TypeId}{cs:Array Value}(h:KpM lb F A B)(r:RgM lb A)(p:Prv lb F A q)(k:Blk A q t cs):Blk B q t cs:=(h.prv r p).1.trans k
theorem Prv.below(p:Prv lb F A q)(h:Below A.heap.size A B)(hl:lb<A.heap.size):Prv lb F B q:=by
 refine⟨Nat.lt_of_lt_of_le p.1 h.size,?_⟩;rintro (hf|⟨v,hv,ho⟩)
 ·exact p.2 (.inl hf)
 ·rw[h.cell (p:=⟨lb,0,none⟩) hl] at hv;exact p.2 (.inr ⟨v,hv,ho⟩)
theorem Prv.since(h:Below A.heap.size A B)(hl:lb<A.heap.size)(r:RgM lb A)(hF:∀q,F q→q<A.heap.size)(h1:A.heap.size≤q)(h2:q<B.heap.size):Prv lb F B q:=by
 refine⟨h2,?_⟩;rintro (hf|⟨v,hv,ho⟩)
 ·have:=hF q hf;omega
 ·rw[h.cell (p:=⟨lb,0,none⟩) hl] at hv;have:=r v q hv ho;omega
theorem Prv.own{row:Option Nat}(p:Prv lb F A q)(hg:A.grownBy B row)(hl:lb<A.heap.size)(hn:row≠some lb):Prv lb F B q:=by
 refine⟨Nat.lt_of_lt_of_le p.1 hg.size,?_⟩;rintro (hf|⟨v,hv,ho⟩)
 ·exact p.2 (.inl hf)
 ·rw[World.cell?_of_block (w:=A) (a:=⟨lb,0,none⟩) (hg.block lb hl (fun e=>hn e.symm))] at hv;exact p.2 (.inr ⟨v,hv,ho⟩)
theorem Prv.mono(p:Prv lb F A q)(hF:F' q→F q):Prv lb F' A q:=⟨p.1,fun h=>p.2 (h.imp hF id)⟩
theorem RgM.of_none{v:Value}(h:A.cell? ⟨lb,0,none⟩=some v)(hv:v.ownBlock=none):RgM lb A:=fun u q hu ho=>by
 rw[h] at hu;injection hu with hu;rw[← hu,hv] at ho;cases ho
theorem kI{β:Type}{w:World}{G:Nat→Prop}{B:Nat}(hB:w.heap.size≤B)(hl:lb<w.heap.size)(r:RgM lb w):jN lb G B (fun (_:β) W=>KpM lb F w W):=by
 intro s W W' row h hg hr _;obtain⟨u,hq⟩:=h r;refine⟨u.grown hg (fun k hk=>.inr (Nat.le_trans hB (hr k hk).1)),fun v q hv ho=>?_⟩;rw[World.cell?_of_block (w:=W) (a:=⟨lb,0,none⟩) (hg.block lb (Nat.lt_of_lt_of_le hl u.size) (fun e=>by have:=(hr lb e.symm).1;omega))] at hv;exact⟨Nat.lt_of_lt_of_le (hq v q hv ho).1 hg.size,(hq v q hv ho).2⟩
end
def UA{α:Type}(lb:Nat)(F:Nat→Prop)(I:List α→World→Prop)(Ix:Code→List α→World→Prop)(xs:List α)(W:World):Exit→Act→World→Prop
 | .normal,_,W'=>KpM lb F W W'∧I xs W'
 | .ret,_,W'=>KpM lb F W W'∧Ix .ret xs W'
 | .exit id,_,W'=>KpM lb F W W'∧Ix (.exit id) xs W'
 | .goto t,_,W'=>KpM lb F W W'∧Ix (.goto t) xs W'
 | .panic _,_,_=>False
 | .outgrown,_,_=>False

def RY{α:Type}(P:Program)(gf:Nat)(cap:Array Value)(encs:α→Array Value)(Own:Nat→Prop)(S Sp:List α→Prop)(N:Nat)(w:World):Prop:=
 ∀(l lb:Nat) (F:Nat→Prop) (J Jx:List α→World→Prop) (W:World),Below w.heap.size w W→jN lb F W.heap.size J→jN lb F W.heap.size Jx →
  lb<W.heap.size→RgM lb W→(∀q,F q→q<W.heap.size∧¬Own q)→(∀v q,W.cell? ⟨lb,0,none⟩=some v→v.ownBlock=some q→¬Own q) →
  (∀pre x W1,J pre W1→pre.length<N→YieldAt Fence.wide 0 P l (encs x) W1 fun e W'=>KpM lb F W1 W'∧((e=.returned (.bool true)∧J (pre++[x]) W')∨(e=.returned (.bool false)∧Jx (pre++[x]) W'))) →
  J [] W→Calls P gf (#[.func (.yield l) #[] #[]]++cap) W fun e W'=>(∃v,e=.returned v)∧((∃xs,S xs∧J xs W')∨(∃pre,Sp pre∧Jx pre W'))

def LpM(lb:Nat)(F:Nat→Prop)(n₀:Nat)(r:Loop)(W:World):Prop:=
 RgM lb W∧Prv lb F W (n₀+1)∧Prv lb F W n₀∧W.heap[n₀+1]?=some (.loop r)∧W.heap[n₀]?=some (.deferred (some []))∧lb<n₀
section
variable {lb n₀:Nat} {F:Nat→Prop} {r r':Loop} {W W':World}
theorem LpM.own{row:Option Nat}(h:LpM lb F n₀ r W)(hg:W.grownBy W' row)(hr:∀k,row=some k→n₀+2≤k):LpM lb F n₀ r W':=by
 obtain⟨h1,h2,h3,h4,h5,h6⟩:=h;have hc:W'.cell? ⟨lb,0,none⟩=W.cell? ⟨lb,0,none⟩:=World.cell?_of_block (w:=W) (a:=⟨lb,0,none⟩) (hg.block lb (by have:=h3.1;show lb<_;omega) (fun e=>by have:=hr lb e.symm;omega));have hp:∀q,Prv lb F W q→Prv lb F W' q:=fun q p=>⟨Nat.lt_of_lt_of_le p.1 hg.size,by
  rintro (hf|⟨v,hv,ho⟩)
  ·exact p.2 (.inl hf)
  ·rw[hc] at hv;exact p.2 (.inr ⟨v,hv,ho⟩)⟩
 refine⟨fun v q hv ho=>?_,hp _ h2,hp _ h3,(hg.block _ h2.1 (fun e=>by have:=hr _ e.symm;omega)).trans h4,(hg.block _ h3.1 (fun e=>by have:=hr _ e.symm;omega)).trans h5,h6⟩;rw[hc] at hv;exact Nat.lt_of_lt_of_le (h1 v q hv ho) hg.size
theorem LpM.kp(h:LpM lb F n₀ r W)(k:KpM lb F W W'):LpM lb F n₀ r W':=by
 obtain⟨h1,h2,h3,h4,h5,h6⟩:=h;exact⟨k.rg h1,(k.prv h1 h2).2,(k.prv h1 h3).2,(k.prv h1 h2).1.trans h4,(k.prv h1 h3).1.trans h5,h6⟩
theorem LpM.put(h:LpM lb F n₀ r W):LpM lb F n₀ r' (W.putObj (n₀+1) (.loop r')):=by
 obtain⟨h1,h2,h3,h4,h5,h6⟩:=h;have hc:(W.putObj (n₀+1) (.loop r')).cell? ⟨lb,0,none⟩=W.cell? ⟨lb,0,none⟩:=World.cell?_of_block (w:=W) (a:=⟨lb,0,none⟩) (World.putObj_heap_other (show lb≠n₀+1 by omega));have hp:∀q,Prv lb F W q→Prv lb F (W.putObj (n₀+1) (.loop r')) q:=fun q p=>⟨by rw[World.putObj_size];exact p.1,by
  rintro (hf|⟨v,hv,ho⟩)
  ·exact p.2 (.inl hf)
  ·rw[hc] at hv;exact p.2 (.inr ⟨v,hv,ho⟩)⟩
 refine⟨fun v q hv ho=>?_,hp _ h2,hp _ h3,World.putObj_heap_same h2.1,(World.putObj_heap_other (by omega)).trans h5,h6⟩;rw[hc] at hv;rw[World.putObj_size];exact h1 v q hv ho
end
theorem yT{P:Program}{fn:Func}{tmps:Array Value}{R:Ending→World→Prop}{F:Fence}{n:Nat}(Pd:Nat→Prop)(E:World→Prop)(hE:∀w1 D,Pd D→E w1→E (w1.putObj D (.deferred none)))
  (hfin:∀w1,E w1→∃v,(results fn tmps).run P w1=.ok v w1∧R (.returned v) w1):∀(Ds:List Nat) (w:World),Ds.Nodup→(∀D∈Ds,Pd D∧w.heap[D]?=some (.deferred (some [])))→E w→LeavesInM F n P fn tmps R (Ds.map (fun D=>{ target:=.collected D,args:=#[] })) .returning w
 | [],w,_,_,h=>hfin w h
 | D::Ds,w,hn,hd,h=>by
  obtain⟨h1,h2⟩:=hd D (by simp);rw[List.nodup_cons] at hn;refine⟨by simp,.inl ⟨D,_,rfl,run_takeDeferred h2,?_⟩⟩;refine yT Pd E hE hfin Ds _ hn.2 (fun D' hD'=>?_) (hE w D h1 h);obtain⟨h3,h4⟩:=hd D' (by simp[hD']);exact⟨h3,((grownBy_putObj' w D (.deferred none)).block D' (Array.getElem?_eq_some_iff.1 h4).1 (fun e=>by injection e with e;exact hn.1 (e ▸ hD'))).trans h4⟩

theorem gP{P:Program}{fn:Func}{tmps:Array Value}{R:Ending→World→Prop}{n lb B:Nat}{F:Nat→Prop}{G:Fence}(E:World→Prop)(hE:jN lb F B (fun (_:Unit) w=>E w))(hlb:lb<B)
  (hfin:∀w1,E w1→∃v,(results fn tmps).run P w1=.ok v w1∧R (.returned v) w1) (Ds:List Nat) (w:World) (hn:Ds.Nodup) (hd:∀D∈Ds,B≤D∧Prv lb F w D∧w.heap[D]?=some (.deferred (some []))) (hw:lb<w.heap.size) (h:E w) :
  LeavesInM G n P fn tmps R (Ds.map (fun D=>{ target:=.collected D,args:=#[] })) .returning w:=by
 refine yT (fun D=>D∈Ds∧B≤D) (fun w1=>E w1∧lb<w1.heap.size∧∀D∈Ds,Prv lb F w1 D) ?_ (fun w1 h1=>hfin w1 h1.1) Ds w hn (fun D hD=>⟨⟨hD,(hd D hD).1⟩,(hd D hD).2.2⟩) ⟨h,hw,fun D hD=>(hd D hD).2.1⟩;rintro w1 D ⟨hD,hB⟩ ⟨h1,h2,h3⟩;exact⟨hE.put (s:=()) _ h1 hB (h3 D hD),by rw[World.putObj_size];exact h2,fun D' hD'=>(h3 D' hD').own (grownBy_putObj' w1 D (.deferred none)) h2 (fun e=>by injection e with e;omega)⟩

theorem jO{α:Type}{P:Program}{g:Operand}{ps:Array Tmp}{assign body:Code}{Q:Exit→Act→World→Prop}{a:Act}{w:World}
  {gf:Nat} {cap:Array Value} (hg:a.eval g=.func (.func gf) #[] cap) (eg:∀args w,(callFunc gf args).run P w=.ok (.enter gf args) w)
  {encs:α→Array Value} {Own:Nat→Prop} {S Sp:List α→Prop} {N:Nat} {w0:World} (hseq:RY P gf cap encs Own S Sp N w0) (hb0:Below w0.heap.size w0 w) (hOwn:∀q,Own q→q<w0.heap.size) (hps:∀x,(encs x).size=ps.size)
  (lb:Nat) (F:Nat→Prop) (hlb:lb<w.heap.size) (hr:RgM lb w) (hF:∀q,F q→q<w.heap.size∧¬Own q) (hrow:∀v q,w.cell? ⟨lb,0,none⟩=some v→v.ownBlock=some q→¬Own q)
  (I:List α→World→Prop) (Ix:Code→List α→World→Prop) (hI:jN lb F w.heap.size I) (hIx:∀c,jN lb F w.heap.size (Ix c)) (h0:I [] w)
  (upd:Array Value→α→Nat→Array Value) (Bx:α→Nat→World→Prop) (hBx:∀x b,OwnFrom w.heap.size (fun (_:Unit) W=>Bx x b W))
  (hassign:∀(l:Nat) (pre:List α) (x:α) (W:World) (K:Act→World→Prop),RgM lb W→w.heap.size≤W.heap.size→I pre W→(∀b W',KpM lb F W W'→I pre W'→Bx x b W'→K { tmps:=upd a.tmps x b,defers:=[] } W') →
   assign.wpIn (Fence.wide.inRound l) 0 P (Exit.then K (fun _ _ _=>False)) { tmps:=(ps.zip (encs x)).foldl (fun t (p,v)=>t.setIfInBounds p v) a.tmps,defers:=[] } W)
  (hbody:∀(l:Nat) (pre:List α) (x:α) (b:Nat) (W:World),RgM lb W→w.heap.size≤W.heap.size→I pre W→Bx x b W→pre.length<N →
   body.wpIn (Fence.wide.inRound l) 0 P (UA lb F I Ix (pre++[x]) W) { tmps:=upd a.tmps x b,defers:=[] } W)
  (hdone:∀(xs:List α) (W:World),S xs→I xs W→RgM lb W→Prv lb F W w.heap.size→W.heap[w.heap.size]?=some (.deferred (some []))→Q .normal { a with defers:={ target:=.collected w.heap.size,args:=#[] }::a.defers } W)
  (hstop:∀(c:Code) (pre:List α) (W:World),Sp pre→Ix c pre W→RgM lb W→Prv lb F W w.heap.size→W.heap[w.heap.size]?=some (.deferred (some []))→c.wp P Q { a with defers:={ target:=.collected w.heap.size,args:=#[] }::a.defers } W) :
  (Code.rangeFunc g ps assign body).wp P Q a w:=by
 refine(wpIn_wide (n:=0)).1 (wpIn_rangeFunc ?_);intro fn _;let rec':LoopState→Option Code→Loop:=fun st pe=>{ state:=st,pending:=pe,fn,tmps:=a.tmps,params:=ps,assign,body,defers:=w.heap.size }
 obtain⟨R,hR⟩:∃R,R=rec':=⟨_,rfl⟩;obtain⟨W1,hW1⟩:∃W1,(w.alloc (.deferred (some []))).alloc (.loop (R .ready none))=W1:=⟨_,rfl⟩;have hbw:Below w.heap.size w W1:=by rw[← hW1];exact((Below.refl _ w).alloc (Nat.le_refl _) _).alloc (by simp) _
 have hz1:W1.heap.size=w.heap.size+2:=by rw[← hW1];simp
 have hL1:LpM lb F w.heap.size (R .ready none) W1:=by
  refine⟨(KpM.of_below (F:=F) hbw hlb).rg hr,Prv.since hbw hlb hr (fun q h=>(hF q h).1) (by omega) (by omega),Prv.since hbw hlb hr (fun q h=>(hF q h).1) (by omega) (by omega),?_,?_,hlb⟩
  ·rw[← hW1];have:=World.alloc_heap_new (w.alloc (.deferred (some []))) (.loop (R .ready none));rwa [World.size_alloc] at this
  ·rw[← hW1];exact(Below.heap_alloc _ _ _ (by simp)).trans (World.alloc_heap_new w _)
 have hI1:I [] W1:=by rw[← hW1];exact hI.alloc _ (hI.alloc _ h0)
 have hc1:W1.cell? ⟨lb,0,none⟩=w.cell? ⟨lb,0,none⟩:=hbw.cell (p:=⟨lb,0,none⟩) hlb;refine⟨w.heap.size+1,[{ target:=.collected w.heap.size,args:=#[] }],W1,{ target:=.fn (.func gf) cap,args:=#[.func (.yield (w.heap.size+1)) #[] #[]] },W1,gf,
  #[.func (.yield (w.heap.size+1)) #[] #[]]++cap,W1,?_,?_,fun _ _=>trivial,?_,fun h=>by simp[Fence.wide] at h,?_⟩
 ·rw[← hW1,hR];exact run_enterLoop_outer _ _ _ _ _
 ·simp only[resolve,hg]
  simp[go_sem]
 ·simp[invoke,go_sem,eg]
 refine callsIn_wide.2 ((hseq (w.heap.size+1) lb (fun q=>F q∨q=w.heap.size+1)
  (fun pre W=>(I pre W∧w.heap.size≤W.heap.size)∧LpM lb F w.heap.size (R .ready none) W)
  (fun pre W=>∃c,(Ix c pre W∧w.heap.size≤W.heap.size)∧LpM lb F w.heap.size (R .done (some c)) W) W1 (tHn hb0 hbw)
  ?_ ?_ (by omega) hL1.1 ?_ ?_ ?_ ⟨⟨hI1,by omega⟩,hL1⟩).mono ?_)
 ·rintro s A B row ⟨⟨h1,h2⟩,h3⟩ hg hrr;exact⟨⟨hI s A B row h1 hg (fun k hk=>⟨by have:=(hrr k hk).1;omega,(hrr k hk).2.mono .inl⟩),Nat.le_trans h2 hg.size⟩,h3.own hg (fun k hk=>by have:=(hrr k hk).1;omega)⟩
 ·rintro s A B row ⟨c,⟨h1,h2⟩,h3⟩ hg hrr;exact⟨c,⟨hIx c s A B row h1 hg (fun k hk=>⟨by have:=(hrr k hk).1;omega,(hrr k hk).2.mono .inl⟩),Nat.le_trans h2 hg.size⟩,h3.own hg (fun k hk=>by have:=(hrr k hk).1;omega)⟩
 ·rintro q (hq|rfl)
  ·exact⟨by have:=(hF q hq).1;omega,(hF q hq).2⟩
  ·exact⟨by omega,fun ho=>by have h1:=hOwn _ ho;have:=hb0.size;omega⟩
 ·intro v q hv ho;rw[hc1] at hv;exact hrow v q hv ho
 ·-- one round
  rintro pre x W ⟨⟨hi,hsz⟩,hl⟩ hlen;have hy:=run_yield (P:=P) (args:=encs x) hl.2.2.2.1 (by rw[hR];exact hps x);rw[hR] at hy;refine⟨fn,_,assign,body,hy,roundIn_of_wpIn trivial (hassign _ pre x W _ hl.1 hsz hi ?_)⟩;clear hy;intro b Wa hka hia hbx;have hla:=hl.kp hka;have hsa:=Nat.le_trans hsz (hka.size hl.1);refine⟨_,run_beginRound hla.2.2.2.1 (by rw[hR]),?_⟩;have hlb1:LpM lb F w.heap.size { R .ready none with state:=.busy } (Wa.putObj (w.heap.size+1) (.loop { R .ready none with state:=.busy })):=hla.put;have hib:=hI.put (.loop { R .ready none with state:=.busy }) hia (Nat.le_succ w.heap.size) hla.2.1;have hbb:=(hBx x b).putObj (s:=()) (.loop { R .ready none with state:=.busy }) hbx (Nat.le_succ w.heap.size) hla.2.2.2.1 rfl;have hkb:KpM lb (fun q=>F q∨q=w.heap.size+1) W (Wa.putObj (w.heap.size+1) (.loop { R .ready none with state:=.busy })):=
   (hka.mono (fun _ h=>.inl h)).trans (KpM.put _ _ (.inr rfl) (by omega) (by omega))
  have hsb:w.heap.size≤(Wa.putObj (w.heap.size+1) (.loop { R .ready none with state:=.busy })).heap.size:=by rw[World.putObj_size];exact hsa
  revert hlb1 hib hbb hkb hsb
  generalize Wa.putObj (w.heap.size+1) (.loop { R .ready none with state:=.busy })=Wb;intro hlb1 hib hbb hkb hsb;refine wpIn_mono (hbody _ pre x b Wb hlb1.1 hsb hib hbb hlen) ?_;have fin:∀(jump:Option Code) (W3:World),KpM lb F Wb W3→∃W4,(Instr.endRound (w.heap.size+1) jump).run P W3=.ok (.bool jump.isNone) W4 ∧
    LpM lb F w.heap.size (R (if jump.isNone then .ready else .done) jump) W4∧KpM lb (fun q=>F q∨q=w.heap.size+1) W W4∧w.heap.size≤W4.heap.size∧(∀c,Ix c (pre++[x]) W3→Ix c (pre++[x]) W4)∧(I (pre++[x]) W3→I (pre++[x]) W4):=by
   intro jump W3 hk3;have hl3:=hlb1.kp hk3;have h3:=run_endRound (P:=P) jump hl3.2.2.2.1;have hs3:=Nat.le_trans hsb (hk3.size hlb1.1);refine⟨_,h3,?_,?_,by rw[World.putObj_size];exact hs3,fun c hc=>(hIx c).put _ hc (Nat.le_succ _) hl3.2.1,fun hc=>hI.put _ hc (Nat.le_succ _) hl3.2.1⟩
   ·have:=hl3.put (r':={ R .ready none with state:=(if jump.isNone then .ready else .done),pending:=jump });rw[hR] at this ⊢;exact this
   ·exact hkb.trans ((hk3.mono (fun _ h=>.inl h)).trans (KpM.put _ _ (.inr rfl) (by omega) (by omega)))
  rintro e a3 W3 hp;cases e with
  | normal =>
   obtain⟨W4,h1,h2,h3,h4,_,h6⟩:=fin none W3 hp.1;exact⟨_,_,h1,h3,.inl ⟨rfl,⟨h6 hp.2,h4⟩,h2⟩⟩
  | ret =>
   obtain⟨W4,h1,h2,h3,h4,h5,_⟩:=fin (some .ret) W3 hp.1;exact⟨_,_,h1,h3,.inr ⟨rfl,.ret,⟨h5 _ hp.2,h4⟩,h2⟩⟩
  | exit id =>
   obtain⟨W4,h1,h2,h3,h4,h5,_⟩:=fin (some (.exit id)) W3 hp.1;exact⟨_,_,h1,h3,.inr ⟨rfl,.exit id,⟨h5 _ hp.2,h4⟩,h2⟩⟩
  | goto t =>
   obtain⟨W4,h1,h2,h3,h4,h5,_⟩:=fin (some (.goto t)) W3 hp.1;exact⟨_,_,h1,h3,.inr ⟨rfl,.goto t,⟨h5 _ hp.2,h4⟩,h2⟩⟩
  | panic ch=>exact hp.elim
  | outgrown=>exact hp.elim
 ·-- behind the iterator
  rintro e W2 ⟨⟨v,rfl⟩,(⟨xs,hS,⟨hi,hs⟩,hl⟩|⟨pre,hSp,c,⟨hi,hs⟩,hl⟩)⟩
  ·have h3:=run_endLoop (P:=P) hl.2.2.2.1 (by rw[hR];simp);have hl4:=hl.put (r':={ R .ready none with state:=.exhausted });rw[hR] at h3;rw[hR] at hl4;exact⟨none,_,h3,hdone xs _ hS (hI.put _ hi (Nat.le_succ _) hl.2.1) hl4.1 hl4.2.2.1 hl4.2.2.2.2.1⟩
  ·have h3:=run_endLoop (P:=P) hl.2.2.2.1 (by rw[hR];simp);have hl4:=hl.put (r':={ R .done (some c) with state:=.exhausted });rw[hR] at h3;rw[hR] at hl4;exact⟨some c,_,h3,wpIn_wide.2 (hstop c pre _ hSp ((hIx c).put _ hi (Nat.le_succ _) hl.2.1) hl4.1 hl4.2.2.1 hl4.2.2.2.2.1)⟩
open Go.RowKit Go.Shelf
attribute [local go_sem] Oper.semAt_some
section
variable {F:Fence} {nF:Nat} {P:Program} {ops:Array Oper} {rest:List Oper} {op:Oper} {a:Act} {w:World} {Q:Exit→Act→World→Prop}
theorem dQ(hgd:op.guard=none)(ty:TypeId)(x:Operand)(ho:op.op=.load ty x)(b o:Nat)(hx:a.eval x=.pointer (some ⟨b,o,none⟩))(cs:List Value)(d:TypeDesc)(hc:w.rangeAt b o cs)
  (hu:P.underlying ty=some d) (hd:d.isRow=true) (hi:(P.info? ty).map (·.size)=some cs.length) (h:wpListIn F nF P ops Q rest (a.put op.dst (.agg cs.toArray)) w):wpListIn F nF P ops Q (op::rest) a w:=by
 refine wpListIn_plain hgd fun K hK=>?_
 unfold Oper.wpIn;refine⟨by simp[Oper.about,ho],?_⟩;rw[Oper.semAt_plain F _ _ (by rw[ho];intro c hc';cases hc')];simp only[execOp,ho,hx,run_loadAt_mid w b o ty cs d hc hu hd hi,Sem.run_bind,Result.andThen_ok]
 exact hK _ _ h
end
def fZ{α:Type}(L:List α)(Q:α→Prop)(hQ:∀x∈L,Q x):List {x:α // Q x}:=L.attachWith Q hQ
theorem iJ{α:Type}(L:List α)(Q:α→Prop)(hQ:∀x∈L,Q x):(fZ L Q hQ).length=L.length:=List.length_attachWith
theorem EX{α:Type}{L:List α}{Q:α→Prop}{hQ:∀x∈L,Q x}{k:Nat}{x:α}(h:L[k]?=some x):∃hx:Q x,(fZ L Q hQ).take (k+1)=(fZ L Q hQ).take k++[⟨x,hx⟩]:=by
 refine⟨hQ x (mG h),?_⟩;have h5:=(gO.1 h).1;have h6:=(gO.1 h).2;rw[List.take_add_one];congr 1
 unfold fZ;rw[List.getElem?_attachWith];simp[h5,h6]
theorem yU{α:Type}{L:List α}{Q:α→Prop}{hQ:∀x∈L,Q x}{k:Nat}(h:L.drop k=[]):(fZ L Q hQ).take k=fZ L Q hQ:=by
 rw[List.take_of_length_le];rw[iJ];exact List.drop_eq_nil_iff.1 h
theorem EY{α:Type}{L M:List α}{k:Nat}{x:α}(h:L.drop k=x::M):L[k]?=some x∧L.drop (k+1)=M:=by
 constructor
 ·rw[← List.head?_drop,h];rfl
 ·rw[← List.tail_drop,h];rfl
theorem EZ{k y:Nat}(h0:y≠0)(h:y<18446744073709551616):mL k y=(k,Lib.ctz 64 y)::mL k (y &&& (y-1)):=by
 unfold mL;rw[mW 64 0 y h0 (by simpa using h),List.map_cons,Nat.zero_add]
theorem vC{r:List Nat}{k x:Nat}(h:r[k]?=some x):cH k (r.drop k)=mL k x++cH (k+1) (r.drop (k+1)):=by
 have h1:=(gO.1 h).1;rw[List.drop_eq_getElem_cons h1,cH,(gO.1 h).2]
theorem iK{y:Nat}(h:y≠0):y &&& (y-1)<y:=Nat.lt_of_le_of_lt Nat.and_le_right (by omega)
def TQ{Q:Nat × Nat→Prop}(x:{x:Nat × Nat // Q x}):Array Value:=#[.agg #[.int .i64 (x.1.1:Int),.int .i64 (x.1.2:Int)]]
def QV(q:Nat):Prop:=q=1
theorem gI.lt{w:World}(h:gI w):1<w.heap.size:=World.block_lt_of_cell? w _ (h 0 (by decide))
theorem gI.kp{lb:Nat}{F:Nat→Prop}{A B:World}(h:gI A)(k:KpM lb F A B)(r:RgM lb A)(p:Prv lb F A 1):gI B:=
 h.upd (k r).1 h.lt p.2

theorem FA(l lb b:Nat)(F:Nat→Prop)(r:List Nat)(hr:Wd r)(Q:Nat × Nat→Prop)(hQ:∀x∈cH 0 r,Q x)(J Jx:List {x:Nat × Nat // Q x}→World→Prop)(W:World)(hJ:jN lb F W.heap.size J)
  (hrg:RgM lb W) (hp:Prv lb F W 1) (hT:gI W) (hb:Blk W b 168 (wdC r).toArray)
  (hY:∀pre x W1,J pre W1→pre.length<(cH 0 r).length→YieldAt Fence.wide 0 Tryz.prog l (TQ x) W1 fun e W'=>KpM lb F W1 W'∧((e=.returned (.bool true)∧J (pre++[x]) W')∨(e=.returned (.bool false)∧Jx (pre++[x]) W'))) (h0:J [] W) :
  Calls Tryz.prog 198 #[.func (.yield l) #[] #[],.pointer (some ⟨b,0,none⟩)] W fun e W'=>(∃v,e=.returned v) ∧
   ((∃ys,ys=fZ (cH 0 r) Q hQ∧J ys W')∨(∃pre,(∃k,k≤(cH 0 r).length∧pre=(fZ (cH 0 r) Q hQ).take k)∧Jx pre W')):=by
 have hlo:W.rangeAt b 0 (wdC r):=bP hb;have hsz:=bH hr;have H:=aI7 hr hJ hY hrg hp hT h0;have HX:=hIz (show ∀(W:World) (k x:Nat),r[k]?=some x→(Instr.index 168 (.agg (wdC r).toArray) (.int .i64 (k:Int))).run Tryz.prog W=.ok (.int .u64 (x:Int)) W from fun W k x h=>rJ hr h);clear hr hJ hY hrg hp hT h0 hb;refine(callsIn_wide (n:=1)).1 ?_;refine callsIn_of_wp Tryz.func198 rfl trivial ?_ rfl;simp only[Tryz.ntmps198,List.size_toArray,List.length_cons,List.length_nil,Nat.reduceAdd,Nat.reduceSub,Array.replicate_succ,Array.replicate_zero,List.push_toArray,List.append_toArray,List.nil_append,List.cons_append]
 gi_wp2_with (refine dQ rfl 168 _ rfl b 0 rfl (wdC r) (.array 64 166) hlo Tryz.underlying168 rfl hsz ?_)
 clear hlo hsz;gi_loopw [6] (fun i wr=>∃k c:Nat,k≤64∧i=.int .i64 k∧Hid ((cH 0 r).drop c=cH k (r.drop k)∧c≤(cH 0 r).length∧J ((fZ (cH 0 r) Q hQ).take c) wr∧RgM lb wr∧Prv lb F wr 1∧gI wr)) (fun i _=>64-(intOf i).toNat)
 case atStart=>exact⟨0,0,Nat.zero_le _,rfl,hIz ⟨rfl,Nat.zero_le _,by simpa using H.out.2.2.2.2.2.2,H.out.2.2.2.1,H.out.2.2.2.2.1,H.out.2.2.2.2.2.1⟩⟩
 case round =>
  obtain⟨k,c,hk,rfl,hI⟩:=hrel;by_cases hlt:k<64
  ·have hltI:(k:Int)<(64:Int):=by omega
   have hkw:IntKind.i64.wrap ((k:Int)+1)=(k:Int)+1:=IntWalk.i64_in _ (by omega);obtain⟨x,hx⟩:∃x,r[k]?=some x:=⟨r[k]'(by rw[H.out.1.len];exact hlt),gEz _⟩;have hix:=HX.out wr k x hx;have HK:=aI2 (vC hx) (H.out.1.fit x (mG hx));clear hx;gi_wp2
   clear hix;gi_loopw [4] (fun a wr=>∃y c:Nat,a=.int .u64 (y:Int)∧Hid (y<18446744073709551616∧(cH 0 r).drop c=mL k y++cH (k+1) (r.drop (k+1))∧c≤(cH 0 r).length∧J ((fZ (cH 0 r) Q hQ).take c) wr∧RgM lb wr∧Prv lb F wr 1∧gI wr)) (fun a _=>(intOf a).toNat)
   case atStart=>exact⟨x,c,rfl,hIz ⟨HK.out.2,hI.out.1.trans HK.out.1,hI.out.2⟩⟩
   case round =>
    obtain⟨y,c,rfl,hY⟩:=hrel;by_cases h0:y=0
    ·subst h0;have HE:=hIz (show(cH 0 r).drop c=cH (k+1) (r.drop (k+1)) by have:=hY.out.2.1;rwa [show mL k 0=[] from by unfold mL;rw[kH];rfl,List.nil_append] at this);gi_wp2
     go_roundw
     case rel=>exact⟨k+1,c,by omega,by go_num,hIz ⟨HE.out,hY.out.2.2⟩⟩
     case measure=>simp[intOf];omega
    ·have e1:((y:Int)==0)=false:=by simp;omega
     obtain⟨hy,hd,hc,hJ,hrg,hp,hT⟩:=hY.out;rw[EZ h0 hy,List.cons_append] at hd;obtain⟨hat,hdr⟩:=EY hd;obtain⟨hq,htk⟩:=EX (Q:=Q) (hQ:=hQ) hat;have hcl:=(gO.1 hat).1;obtain⟨fn,tmps,assign,body,hyy,hR⟩:=H.out.2.2.1 _ ⟨(k,Lib.ctz 64 y),hq⟩ wr hJ (by rw[List.length_take,iJ];omega);dsimp only [TQ] at hyy
     have hcon:=NN y hy h0 wr hT;have hb1:IntKind.u64.wrap ((y:Int)-1)=((y-1:Nat):Int):=by rw[IntKind.wrap_u64];omega
     have hb2:bits .and .u64 (y:Int) ((y-1:Nat):Int)=((y &&& (y-1):Nat):Int):=bits_and_u64_nat y (y-1) hy (by omega);have HZ:=aI7 hy hdr hcl htk hrg hp hT;clear hy hd hc hJ hrg hp hT hat hdr htk hcl;gi_wp2_with (refine⟨trivial,?_⟩;gi_at_call 199;refine(callsIn_wide.2 hcon).mono ?_;clear hcon;rintro e w1 ⟨rfl,hw⟩;subst w1)
     refine hR.mono ?_;rintro e W3 ⟨hk3,(⟨rfl,hJ3⟩|⟨rfl,hJx3⟩)⟩
     ·have HN:=hIz (show y &&& (y-1)<18446744073709551616∧(cH 0 r).drop (c+1)=mL k (y &&& (y-1))++cH (k+1) (r.drop (k+1))∧c+1≤(cH 0 r).length∧J ((fZ (cH 0 r) Q hQ).take (c+1)) W3∧RgM lb W3∧Prv lb F W3 1∧gI W3 from
       ⟨Nat.lt_of_lt_of_le (iK h0) (Nat.le_of_lt HZ.out.1),HZ.out.2.1,HZ.out.2.2.1,by rw[HZ.out.2.2.2.1];exact hJ3,hk3.rg HZ.out.2.2.2.2.1,(hk3.prv HZ.out.2.2.2.2.1 HZ.out.2.2.2.2.2.1).2,HZ.out.2.2.2.2.2.2.kp hk3 HZ.out.2.2.2.2.1 HZ.out.2.2.2.2.2.1⟩)
      have HM:=hIz (iK h0);clear hJ3 hk3 hR hyy;gi_wp2
      go_roundw
      case rel=>exact⟨y &&& (y-1),c+1,rfl,HN⟩
      case measure=>have:=HM.out;simp only[intOf];omega
     ·clear hR hyy;gi_wp2
      refine bodyPost_ret (results_none rfl _ _ _) rfl ?_;exact⟨⟨_,rfl⟩,.inr ⟨_,⟨c+1,HZ.out.2.2.1,HZ.out.2.2.2.1.symm⟩,hJx3⟩⟩
  ·obtain rfl:k=64:=by omega
   have HE:=hIz (show(cH 0 r).drop c=[] by rw[hI.out.1,List.drop_of_length_le (by rw[H.out.1.len];exact Nat.le_refl _)];rfl);gi_wp2
   go_end0
   exact⟨⟨_,rfl⟩,.inl ⟨_,rfl,by have:=hI.out.2.2.1;rwa [yU HE.out] at this⟩⟩
theorem vD(w:World)(b:Nat)(r:List Nat)(hr:Wd r)(Q:Nat × Nat→Prop)(hQ:∀x∈cH 0 r,Q x)(hb:Blk w b 168 (wdC r).toArray)(hT:gI w) :
  RY Tryz.prog 198 #[.pointer (some ⟨b,0,none⟩)] TQ QV (fun ys=>ys=fZ (cH 0 r) Q hQ) (fun pre=>∃k,k≤(cH 0 r).length∧pre=(fZ (cH 0 r) Q hQ).take k) (cH 0 r).length w:=
 fun l lb F J Jx W hW hJ _ _ hrg hF hrow hY h0 =>
  have hu:=Upd.of_below hW (fun _=>False);have hTW:=hT.upd hu hT.lt id;FA l lb b F r hr Q hQ J Jx W hJ hrg ⟨hTW.lt,fun ha=>ha.elim (fun hf=>(hF _ hf).2 rfl) (fun ⟨v,hv,ho⟩=>hrow v _ hv ho rfl)⟩ hTW (hb.upd hu id) hY h0
open Go.RowKit
theorem xD(w:World)(cur:Array Value)(t:TypeId)(o:Nat)(v:Value):(w.alloc (.cells cur t)).setCell ⟨w.heap.size,o,none⟩ v=w.alloc (.cells (cur.setIfInBounds o v) t):=by
 unfold World.setCell World.alloc;simp only
 congr 1
 apply Array.ext_getElem?
 intro k;rw[Array.getElem?_modify,Array.getElem?_push,Array.getElem?_push];by_cases h:k=w.heap.size
 ·subst h;simp
 ·rw[if_neg (fun e=>h e.symm),if_neg h,if_neg h]
theorem nI(w:World)(t:TypeId):∀(vs:List Value) (o:Nat) (cur:Array Value),o+vs.length≤cur.size →
  ∃cur':Array Value,(w.alloc (.cells cur t)).setCells w.heap.size o vs=w.alloc (.cells cur' t)∧cur'.toList=cur.toList.take o++vs++cur.toList.drop (o+vs.length)
 | [],o,cur,_=>⟨cur,rfl,by simp⟩
 | v::r,o,cur,hl=>by
  simp only[List.length_cons] at hl
  obtain⟨c',e1,e3⟩:=nI w t r (o+1) (cur.setIfInBounds o v) (by simp;omega);refine⟨c',?_,?_⟩
  ·show((w.alloc (.cells cur t)).setCell ⟨w.heap.size,o,none⟩ v).setCells w.heap.size (o+1) r=_
   rw[xD,e1]
  rw[e3,Array.toList_setIfInBounds,List.drop_set_of_lt (by omega),List.take_set];have h1:(cur.toList.take (o+1)).set o v=cur.toList.take o++[v]:=by
   rw[List.take_add_one,gEz (by simp;omega)];rw[List.set_append_right _ _ (by simp;omega)];have:o-(cur.toList.take o).length=0:=by simp;omega
   rw[this];rfl
  rw[h1];simp[Nat.add_assoc,Nat.add_comm 1]
theorem nJ(w:World)(t:TypeId)(vs:List Value)(cur:Array Value)(h:vs.length=cur.size):(w.alloc (.cells cur t)).setCells w.heap.size 0 vs=w.alloc (.cells vs.toArray t):=by
 obtain⟨c',e1,e2⟩:=nI w t vs 0 cur (by omega);rw[e1];congr 2
 have:c'.toList=vs:=by rw[e2];simp;omega
 rw[← this]
section
variable {P:Program} {ops:Array Oper} {rest:List Oper} {a:Act} {w:World} {Q:Exit→Act→World→Prop}
theorem bE{op1 op2:Oper}(g1:op1.guard=none)(g2:op2.guard=none)(ty:TypeId)(x y:Operand)(o1:op1.op=.alloc ty)(o2:op2.op=.store ty x y)(cells:List Value)
  (hz:∃Z:Array Value,Z.size=cells.length∧∀w,(zeroValue ty).run P w=.ok (.agg Z) w)
  (hx:(a.put op1.dst (.pointer (some ⟨w.heap.size,0,none⟩))).eval x=.pointer (some ⟨w.heap.size,0,none⟩)) (hy:(a.put op1.dst (.pointer (some ⟨w.heap.size,0,none⟩))).eval y=.agg cells.toArray)
  (hi:(P.info? ty).map (·.size)=some cells.length) (h1:∀u∈cells,u.oneCell'=true)
  (h:wpList P ops Q rest ((a.put op1.dst (.pointer (some ⟨w.heap.size,0,none⟩))).put op2.dst undef) (w.alloc (.cells cells.toArray ty))):wpList P ops Q (op1::op2::rest) a w:=by
 obtain⟨Z,hs,hz⟩:=hz;refine wpList_plain g1 fun K hK=>?_
 unfold Oper.wp execOp;have hr:(Instr.alloc ty true (.tuple #[])).run P w=.ok (.pointer (some ⟨w.heap.size,0,none⟩)) (w.alloc (.cells Z ty)):=by
  unfold Instr.alloc newVar newRow;simp only[Sem.run_bind,hz,Result.andThen_ok,Value.cells,run_newObj_alloc,Sem.run_pure]
 simp only[o1,Sem.run_bind,hr,Result.andThen_ok,Sem.run_pure]
 refine hK _ _ ?_;have hb:=Blk.new w ty Z;refine wpList_store_mid g2 ty x y o2 w.heap.size 0 cells.toArray hx hy (fun j hj=>⟨by rw[Nat.zero_add,hb.cell j,Array.getElem?_eq_getElem (by simpa[hs] using hj)];rfl,hb.frozen _⟩) (by simpa using hi) (all_oneCell_toArray h1) ?_;rw[List.toList_toArray,nJ w ty cells Z hs.symm];exact h
theorem vE{op:Oper}(g:op.guard=none)(ty:TypeId)(parts:Array (Nat × Operand))(ho:op.op=.build ty parts)(vals:Array (Nat × Value))(v:Value)(hv:parts.map (fun (i,x)=>(i,a.eval x))=vals)
  (hb:(Instr.build ty vals).run P w=.ok v w) (h:wpList P ops Q rest (a.put op.dst v) w):wpList P ops Q (op::rest) a w:=by
 refine wpList_plain g fun K hK=>?_
 unfold Oper.wp execOp;simp only[ho,hv,Sem.run_bind,hb,Result.andThen_ok,Sem.run_pure]
 exact hK _ _ h
end
open Go.RowKit Go.Shelf
attribute [local go_sem] Oper.semAt_some
def QW{Q:Nat × Nat→Prop}(x:{x:Nat × Nat // Q x}):Array Value:=#[.int .i64 (x.1.1:Int),.int .i64 (x.1.2:Int)]
theorem nW{α:Type}(L:List α)(Q:α→Prop)(hQ:∀x∈L,Q x):(fZ L Q hQ).map (·.1)=L:=by unfold fZ;simp
theorem PI{α:Type}{Q:α→Prop}{l m:List {x:α // Q x}}(h:l.map (·.1)=m.map (·.1)):l=m:=
 (List.map_inj_right (fun _ _ e=>Subtype.ext e)).1 h
theorem lW(k x:Nat):mL k x=(mL 0 x).map (fun y=>(k,y.2)):=by
 unfold mL;rw[List.map_map];rfl
def nK(x:Nat):List Nat:=x::List.replicate 63 0
theorem FB{x:Nat}(h:x<18446744073709551616):Wd (nK x):=⟨by simp[nK],fun y hy=>by
 rcases List.mem_cons.1 hy with rfl|hy
 ·exact h
 ·rw[List.eq_of_mem_replicate hy];decide⟩
def upC{Q:Nat × Nat→Prop}(k:Nat)(y:{y:Nat × Nat // Q (k,y.2)}):{x:Nat × Nat // Q x}:=⟨(k,y.1.2),y.2⟩
theorem vF{L R:List (Nat × Nat)}{Q:Nat × Nat→Prop}{hQ:∀x∈L,Q x}{c k x:Nat}(h:L.drop c=mL k x++R)(hQ':∀y∈cH 0 (nK x),Q (k,y.2))(j:Nat)(hj:j≤(cH 0 (nK x)).length) :
  (fZ L Q hQ).take (c+j)=(fZ L Q hQ).take c++((fZ (cH 0 (nK x)) (fun y=>Q (k,y.2)) hQ').take j).map (upC k):=by
 apply PI
 rw[List.map_append,List.map_map,List.map_take,List.map_take,nW,List.take_add,h];congr 1
 have e:((fun z:{x:Nat × Nat // Q x}=>z.1) ∘ upC (Q:=Q) k)=(fun y:Nat × Nat=>(k,y.2)) ∘ (fun y:{y:Nat × Nat // Q (k,y.2)}=>y.1):=rfl;rw[e,← List.map_map,List.map_take,nW];have hl:(cH 0 (nK x))=mL 0 x:=nT x;rw[hl] at hj ⊢;rw[List.take_append_of_le_length (by rw[lW,List.length_map];exact hj),lW,List.map_take]
theorem yV{L R:List (Nat × Nat)}{Q:Nat × Nat→Prop}(hQ:∀x∈L,Q x){c k x:Nat}(h:L.drop c=mL k x++R):∀y∈cH 0 (nK x),Q (k,y.2):=fun y hy=>by
 refine hQ _ (List.mem_of_mem_drop (i:=c) ?_);rw[h,lW];rw[show cH 0 (nK x)=mL 0 x from nT x] at hy;exact List.mem_append_left _ (List.mem_map.2 ⟨y,hy,rfl⟩)
theorem AT(x:Nat)(w:World):(Instr.build 168 #[(0,.int .u64 (x:Int))]).run Tryz.prog w=.ok (wdV (nK x)) w:=by
 refine run_build w _ _ _ ?_;kernel_rfl
theorem bW:∃Z:Array Value,Z.size=66∧∀w,(zeroValue 170).run Tryz.prog w=.ok (.agg Z) w:=
 ⟨(List.replicate 2 (Value.int .i64 0)++List.replicate 64 (Value.int .u64 0)).toArray,by decide,fun w=>by kernel_rfl⟩
theorem jP{r:List Nat}(hr:Wd r):(Tryz.prog.info? 170).map (·.size)=some (plC r).length:=by rw[fX hr];kernel_rfl
theorem xE{P:Program}{l l2 m n:Nat}{args:Array Value}{W:World}{R:Ending→World→Prop}(h:YieldAt Fence.wide m P l args W R):YieldAt (Fence.wide.inRound l2) n P l args W R:=by
 obtain⟨fn,tmps,assign,body,hy,hR⟩:=h;exact⟨fn,tmps,assign,body,hy,trivial,fun c cs _=>hR.2 c cs (fun d h=>by cases h)⟩

structure CeI(lb g0:Nat)(F:Nat→Prop)(L:List (Nat × Nat))(r:List Nat)(Q:Nat × Nat→Prop)(hQ:∀x∈L,Q x)(J:List {x:Nat × Nat // Q x}→World→Prop)(W1 wr:World)(k c:Nat)(Ds:List Nat):Prop where
 at_:L.drop c=cH k (r.drop k)
 le:c≤L.length
 j:J ((fZ L Q hQ).take c) wr
 kp:KpM lb (fun q=>F q∨q=g0+1) W1 wr
 b4:Blk wr (g0+1) 4 #[.bool false]
 p4:Prv lb F wr (g0+1)
 nd:Ds.Nodup
 ds:∀D∈Ds,W1.heap.size≤D∧Prv lb F wr D∧wr.heap[D]?=some (.deferred (some []))

structure VP(lb g0:Nat)(F:Nat→Prop)(r:List Nat)(l k g5:Nat)(W4:World):Prop where
 lt:lb<W4.heap.size
 rg:RgM lb W4
 fF:∀q,F q∨q=g0+1→q<W4.heap.size∧¬QV q
 row:∀v q,W4.cell? ⟨lb,0,none⟩=some v→v.ownBlock=some q→¬QV q
 tab:gI W4
 k3:Blk W4 g0 185 #[.func (.yield l) #[] #[]]
 p3:Prv lb (fun q=>F q∨q=g0+1) W4 g0
 k5:Blk W4 g5 3 #[.int .i64 (k:Int)]
 p5:Prv lb (fun q=>F q∨q=g0+1) W4 g5
 k7:Blk W4 (g5+1) 170 (plC r).toArray
 p7:Prv lb (fun q=>F q∨q=g0+1) W4 (g5+1)
 k4:Blk W4 (g0+1) 4 #[.bool false]
 p4:Prv lb F W4 (g0+1)
theorem FD{lb:Nat}{F:Nat→Prop}{L:List (Nat × Nat)}{r:List Nat}{Q:Nat × Nat→Prop}{hQ:∀x∈L,Q x}{J:List {x:Nat × Nat // Q x}→World→Prop}{l ga x k c':Nat}{Ds:List Nat}{W W1 wr W3 W4:World}
  (HW:Below W.heap.size W W1∧Blk W1 W.heap.size 185 #[.func (.yield l) #[] #[]]∧Prv lb (fun q=>F q∨q=W.heap.size+1) W1 W.heap.size∧Prv lb (fun q=>F q∨q=W.heap.size+1) W1 1∧Prv lb (fun q=>F q∨q=W.heap.size+1) W1 ga∧gI W1∧W1.rangeAt ga 0 (plC r)∧RgM lb W1∧lb<W1.heap.size∧W1.heap.size=W.heap.size+2∧KpM lb F W W1)
  (hF:∀q,F q→q<W.heap.size) (HI:CeI lb W.heap.size F L r Q hQ J W1 wr k c' Ds)
  (HX:cH k (r.drop k)=mL k x++cH (k+1) (r.drop (k+1))∧x<18446744073709551616∧RgM lb wr∧lb<wr.heap.size∧Below wr.heap.size wr W3∧Blk W3 wr.heap.size 3 #[.int .i64 (k:Int)]∧Blk W3 (wr.heap.size+1) 170 (plC r).toArray∧W3.heap.size=wr.heap.size+2)
  (HB:Blk W4 W3.heap.size 168 (wdC (nK x)).toArray∧Below W3.heap.size W3 W4∧W4.heap.size=W3.heap.size+1):VP lb W.heap.size F r l k wr.heap.size W4:=by
 obtain⟨b1,k3,p3,pT,pA,tab,rA,r1,lb1,z1,kp1⟩:=HW;obtain⟨-,hx,rwr,lbr,b3,k5,k7,z3⟩:=HX;obtain⟨kB,b4,z4⟩:=HB;have zr:=HI.kp.size r1;have bb:Below wr.heap.size wr W4:=b3.trans (b4.mono (by omega));have hF':∀q,F q∨q=W.heap.size+1→q<wr.heap.size:=fun q h=>h.elim (fun h=>by have:=hF q h;omega) (fun h=>by omega)
 have ub:=Upd.of_below bb (fun _=>False);have u4:=Upd.of_below b4 (fun _=>False);have pT4:=((HI.kp.prv r1 pT).2).below bb lbr;refine⟨by omega,(KpM.of_below (F:=F) bb lbr).rg rwr,fun q h=>⟨by have:=hF' q h;omega,fun e=>by
  unfold QV at e;subst e;exact pT4.2 (.inl h)⟩,fun v q hv ho e=>?_,(tab.kp HI.kp r1 pT).upd ub (by have:=(tab.kp HI.kp r1 pT).lt;exact this) id,(HI.kp.blk r1 p3 k3).upd ub id,(HI.kp.prv r1 p3).2.below bb lbr,k5.upd u4 id,?_,k7.upd u4 id,?_,HI.b4.upd ub id,HI.p4.below bb lbr⟩
 ·unfold QV at e;subst e;exact pT4.2 (.inr ⟨v,hv,ho⟩)
 ·exact Prv.since bb lbr rwr hF' (Nat.le_refl _) (by omega)
 ·exact Prv.since bb lbr rwr hF' (by omega) (by omega)
def TR{Q:Nat × Nat→Prop}(lb g0:Nat)(F:Nat→Prop)(J:List {x:Nat × Nat // Q x}→World→Prop)(pre0:List {x:Nat × Nat // Q x})(k:Nat)(W4:World)(pre:List {y:Nat × Nat // Q (k,y.2)})(V:World):Prop:=
 J (pre0++pre.map (upC k)) V∧KpM lb (fun q=>F q∨q=g0+1) W4 V∧Blk V (g0+1) 4 #[.bool false]∧Prv lb F V (g0+1)∧lb<V.heap.size
def UB{Q:Nat × Nat→Prop}(lb g0:Nat)(F:Nat→Prop)(Jx:List {x:Nat × Nat // Q x}→World→Prop)(pre0:List {x:Nat × Nat // Q x})(k:Nat)(W4:World)(c:Code)(pre:List {y:Nat × Nat // Q (k,y.2)})(V:World):Prop:=
 c=.ret∧Jx (pre0++pre.map (upC k)) V∧KpM lb (fun q=>F q∨q=g0+1) W4 V∧Blk V (g0+1) 4 #[.bool false]
theorem yW{Q:Nat × Nat→Prop}{lb g0:Nat}{F:Nat→Prop}{J:List {x:Nat × Nat // Q x}→World→Prop}{pre0:List {x:Nat × Nat // Q x}}{k:Nat}{W4:World}(hJ:jN lb F g0 J)(hl:lb<W4.heap.size)(r4:RgM lb W4)(hg:g0+1<W4.heap.size) :
  jN lb (fun q=>F q∨q=g0+1) W4.heap.size (TR lb g0 F J pre0 k W4):=by
 rintro s X Y row ⟨h1,h2,h3,h4,h5⟩ hgr hr;refine⟨((hJ.monoF (F':=fun q=>F q∨q=g0+1) (fun _=>.inl)).from (by omega)) _ X Y row h1 hgr hr,kI (β:=Unit) (Nat.le_refl _) hl r4 () X Y row h2 hgr hr,h3.grown hgr (fun e=>by have:=(hr _ e.symm).1;omega),h4.own hgr h5 (fun e=>by have:=(hr _ e).1;omega),Nat.lt_of_lt_of_le h5 hgr.size⟩
theorem LB{Q:Nat × Nat→Prop}{lb g0:Nat}{F:Nat→Prop}{Jx:List {x:Nat × Nat // Q x}→World→Prop}{pre0:List {x:Nat × Nat // Q x}}{k:Nat}{W4:World}(hJ:jN lb F g0 Jx)(hl:lb<W4.heap.size)(r4:RgM lb W4)(hg:g0+1<W4.heap.size)(c:Code) :
  jN lb (fun q=>F q∨q=g0+1) W4.heap.size (UB lb g0 F Jx pre0 k W4 c):=by
 rintro s X Y row ⟨h0,h1,h2,h3⟩ hgr hr;exact⟨h0,((hJ.monoF (F':=fun q=>F q∨q=g0+1) (fun _=>.inl)).from (by omega)) _ X Y row h1 hgr hr,kI (β:=Unit) (Nat.le_refl _) hl r4 () X Y row h2 hgr hr,h3.grown hgr (fun e=>by have:=(hr _ e.symm).1;omega)⟩

theorem FE(l lb:Nat)(F:Nat→Prop)(A:Option Addr)(c:Nat)(r:List Nat)(hr:Wd r)(Q:Nat × Nat→Prop)(hQb:∀x,Q x→x.1<64∧x.2<64)(hQ:∀x∈cH 0 r,Q x)(J Jx:List {x:Nat × Nat // Q x}→World→Prop)(W:World)
  (hJ:jN lb F W.heap.size J) (hJx:jN lb F W.heap.size Jx) (hlb:lb<W.heap.size) (hrg:RgM lb W) (hF:∀q,F q→q<W.heap.size) (hp:Prv lb F W 1) (hT:gI W)
  (hrow:W.ownsRow 0 170 66 (.slice A 1 c) 1 (plC r)) (hpr:∀k,(Value.slice A 1 c).ownBlock=some k→Prv lb F W k)
  (hY:∀pre x W1,J pre W1→pre.length<(cH 0 r).length→YieldAt Fence.wide 0 Tryz.prog l (QW x) W1 fun e W'=>KpM lb F W1 W'∧((e=.returned (.bool true)∧J (pre++[x]) W')∨(e=.returned (.bool false)∧Jx (pre++[x]) W'))) (h0:J [] W) :
  Calls Tryz.prog 108 #[.slice A 1 c,.func (.yield l) #[] #[]] W fun e W'=>KpM lb F W W'∧((e=.returned (.bool true)∧J (fZ (cH 0 r) Q hQ) W') ∨
   (e=.returned (.bool false)∧∃pre,(∃k,k≤(cH 0 r).length∧pre=(fZ (cH 0 r) Q hQ).take k)∧Jx pre W')):=by
 obtain⟨ga,cc,e,hob,-,-,-,hcell⟩:=aL hrow (by decide);injection e with e1 e2 e3;subst e1;subst e3;have hpa:=hpr ga hob;have k3:=(Blk.new W 185 #[.func (.yield l) #[] #[]]).alloc (.cells #[.bool false] 4);have k4:=Blk.new (W.alloc (.cells #[.func (.yield l) #[] #[]] 185)) 4 #[.bool false];have b1:Below W.heap.size W ((W.alloc (.cells #[.func (.yield l) #[] #[]] 185)).alloc (.cells #[.bool false] 4)):=by(repeat (first | exact Below.refl _ _ | apply Below.drew | refine Below.alloc ?_ (by first | exact Nat.le_refl _ | (simp;done) | (simp;omega)) _ | refine Below.setCell ?_ (by first | exact Nat.le_refl _ | (simp;done) | (simp;omega)) _))
 simp only[World.size_alloc] at k4
 have z1:((W.alloc (.cells #[.func (.yield l) #[] #[]] 185)).alloc (.cells #[.bool false] 4)).heap.size=W.heap.size+2:=by simp
 have H:=aI11 hr hJ hJx hlb hrg hF hp hT hpa hcell hY;clear hr hJ hJx hlb hrg hF hp hT hpa hcell hpr hrow hob hY e2;refine(callsIn_wide (n:=1)).1 ?_;refine callsIn_of_wp_marks Tryz.func108 rfl trivial ?_ rfl;simp only[Tryz.ntmps108,List.size_toArray,List.length_cons,List.length_nil,Nat.reduceAdd,Nat.reduceSub,Array.replicate_succ,Array.replicate_zero,List.push_toArray,List.append_toArray,List.nil_append,List.cons_append]
 refine wpIn_wide.2 ?_;go_upto_region 1 with (fail);generalize hW1:(W.alloc (.cells #[.func (.yield l) #[] #[]] 185)).alloc (.cells #[.bool false] 4)=W1 at k3 k4 b1 z1 ⊢;have j1:J [] W1:=H.out.2.1.below h0 b1;clear hW1 h0;have kp1:=KpM.of_below (lb:=lb) (F:=F) b1 H.out.2.2.2.1;have r1:=kp1.rg H.out.2.2.2.2.1;have lb1:lb<W1.heap.size:=by have:=H.out.2.2.2.1;omega
 have n4:¬(W.heap.size+1=1):=by have:=H.out.2.2.2.2.2.2.2.1.lt;omega
 have pF:∀{X:World} {q:Nat},Prv lb F X q→q≠W.heap.size+1→Prv lb (fun q=>F q∨q=W.heap.size+1) X q:=fun h hn=>⟨h.1,fun ha=>ha.elim (fun hf=>hf.elim (fun h1=>h.2 (.inl h1)) hn) (fun h2=>h.2 (.inr h2))⟩
 have p4:Prv lb F W1 (W.heap.size+1):=Prv.since b1 H.out.2.2.2.1 H.out.2.2.2.2.1 H.out.2.2.2.2.2.1 (by omega) (by omega);have p3:Prv lb (fun q=>F q∨q=W.heap.size+1) W1 W.heap.size:=pF (Prv.since b1 H.out.2.2.2.1 H.out.2.2.2.2.1 H.out.2.2.2.2.2.1 (by omega) (by omega)) (by omega);have pT:Prv lb (fun q=>F q∨q=W.heap.size+1) W1 1:=pF (kp1.prv H.out.2.2.2.2.1 H.out.2.2.2.2.2.2.1).2 (fun e=>n4 e.symm);have pA:Prv lb (fun q=>F q∨q=W.heap.size+1) W1 ga:=pF (kp1.prv H.out.2.2.2.2.1 H.out.2.2.2.2.2.2.2.2.1).2 (by have:=H.out.2.2.2.2.2.2.2.2.1.1;omega);have tab1:=H.out.2.2.2.2.2.2.2.1.kp kp1 H.out.2.2.2.2.1 H.out.2.2.2.2.2.2.1;have rA:W1.rangeAt ga 0 (plC r):=fun j v hv=>by
  rw[Nat.zero_add,b1.cell (p:=⟨ga,j,none⟩) H.out.2.2.2.2.2.2.2.2.1.1];exact(H.out.2.2.2.2.2.2.2.2.2.1 j v hv).1
 have I0:CeI lb W.heap.size F (cH 0 r) r Q hQ J W1 W1 0 0 []:=⟨rfl,Nat.zero_le _,by simpa using j1,KpM.refl _ _ _,k4,p4,List.nodup_nil,fun D hD=>by cases hD⟩;have HW:=aI11 b1 k3 p3 pT pA tab1 rA r1 lb1 z1 kp1;have PF:=hIz (show ∀(X:World) (q:Nat),Prv lb F X q→q≠W.heap.size+1→Prv lb (fun q=>F q∨q=W.heap.size+1) X q from fun X q=>pF);have HI0:=hIz I0;clear I0 b1 k3 k4 p3 p4 pT pA tab1 rA r1 lb1 z1 kp1 j1 n4 pF;go_wp2;refine wp_loop (fun a wr=>∃(k c':Nat) (Ds:List Nat) (u2 u5 u6 u7 u8 u10 u11 u12 u13 u14 u15 u16 u17 u18 u19 u20 u21 u22 u23 u24 u25 u26 u27 u28 u29 u30 u31 u32 u33 u34 u35 u36 u37 u38 u39 u40 u41 u42:Value),a=⟨#[.slice (some ⟨ga,0,none⟩) 1 c,.func (.yield l) #[] #[],u2,.pointer (some ⟨W.heap.size,0,none⟩),.pointer (some ⟨W.heap.size+1,0,none⟩),u5,u6,u7,u8,.int .i64 (k:Int),u10,u11,u12,u13,u14,u15,u16,u17,u18,u19,u20,u21,u22,u23,u24,u25,u26,u27,u28,u29,u30,u31,u32,u33,u34,u35,u36,u37,u38,u39,u40,u41,u42],Ds.map (fun D=>{ target:=.collected D,args:=#[] })⟩∧k≤64∧CeI lb W.heap.size F (cH 0 r) r Q hQ J W1 wr k c' Ds) (fun a _=>64-(intOf (a.tmps.getD 9 undef)).toNat) ?_ ?_
 ·exact⟨0,0,[],_,_,_,_,_,_,_,_,_,_,_,_,_,_,_,_,_,_,_,_,_,_,_,_,_,_,_,_,_,_,_,_,_,_,_,_,_,_,rfl,by omega,HI0.out⟩
 ·rintro a wr ⟨k,c',Ds,u2,u5,u6,u7,u8,u10,u11,u12,u13,u14,u15,u16,u17,u18,u19,u20,u21,u22,u23,u24,u25,u26,u27,u28,u29,u30,u31,u32,u33,u34,u35,u36,u37,u38,u39,u40,u41,u42,rfl,hk,hI⟩;have HI:=hIz hI;clear hI;by_cases hlt:k<64
  ·have hltI:(k:Int)<(64:Int):=by omega
   have hkw:IntKind.i64.wrap ((k:Int)+1)=(k:Int)+1:=IntWalk.i64_in _ (by omega);obtain⟨x,hx⟩:∃x,r[k]?=some x:=⟨r[k]'(by rw[H.out.1.len];exact hlt),gEz _⟩;have hx64:=H.out.1.fit x (mG hx);have hpx:(plC r)[2+k]?=some (.int .u64 (x:Int)):=by rw[Nat.add_comm];exact gB hx
   have rw1:RgM lb wr:=HI.out.kp.rg HW.out.2.2.2.2.2.2.2.1;have lbr:lb<wr.heap.size:=Nat.lt_of_lt_of_le HW.out.2.2.2.2.2.2.2.2.1 (HI.out.kp.size HW.out.2.2.2.2.2.2.2.1);have rA:wr.rangeAt ga 0 (plC r):=fun j v hv=>by
    rw[World.cell?_of_block (w:=W1) (a:=⟨ga,0+j,none⟩) (HI.out.kp.prv HW.out.2.2.2.2.2.2.2.1 HW.out.2.2.2.2.1).1];exact HW.out.2.2.2.2.2.2.1 j v hv
   have k5:=(Blk.new wr 3 #[.int .i64 (k:Int)]).alloc (.cells (plC r).toArray 170);have k7:=Blk.new (wr.alloc (.cells #[.int .i64 (k:Int)] 3)) 170 (plC r).toArray;simp only[World.size_alloc] at k7
   have b3:Below wr.heap.size wr ((wr.alloc (.cells #[.int .i64 (k:Int)] 3)).alloc (.cells (plC r).toArray 170)):=by(repeat (first | exact Below.refl _ _ | apply Below.drew | refine Below.alloc ?_ (by first | exact Nat.le_refl _ | (simp;done) | (simp;omega)) _ | refine Below.setCell ?_ (by first | exact Nat.le_refl _ | (simp;done) | (simp;omega)) _))
   have z3:((wr.alloc (.cells #[.int .i64 (k:Int)] 3)).alloc (.cells (plC r).toArray 170)).heap.size=wr.heap.size+2:=by simp
   have rA2:(wr.alloc (.cells #[.int .i64 (k:Int)] 3)).rangeAt ga 0 (plC r):=fun j v hv=>by
    have:=rA j v hv;rw[World.cell?_alloc_lt wr _ ⟨ga,0+j,none⟩ (World.block_lt_of_cell? wr _ this)];exact this
   have hsz:=jP H.out.1;have h1c:=jI r;have HX:=aI8 (vC hx) hx64 rw1 lbr b3 k5 k7 z3;clear hx hx64 rw1 lbr b3 k5 k7 z3 rA;go_upto_region 5 with (fail);refine wp_loop_rounds 2 ?_;rw[rounds_succ];go_upto_region 7 with (first | (refine wpList_load_mid rfl 170 _ rfl ga 0 rfl (plC r) (.struct _) rA2 Tryz.underlying170 rfl hsz ?_) | (refine bE rfl rfl 170 _ _ rfl rfl (plC r) ⟨_,by rw[fX H.out.1];exact bW.choose_spec.1,bW.choose_spec.2⟩ rfl rfl hsz h1c ?_) | fail);clear rA2 hsz h1c;generalize hW3:(wr.alloc (.cells #[.int .i64 (k:Int)] 3)).alloc (.cells (plC r).toArray 170)=W3 at HX ⊢;have q5:W3.cell? ⟨wr.heap.size,0,none⟩=some (.int .i64 (k:Int)):=HX.out.2.2.2.2.2.1.cell 0;have q7:W3.cell? ⟨wr.heap.size+1,2+k,none⟩=some (.int .u64 (x:Int)):=by rw[HX.out.2.2.2.2.2.2.1.cell];simpa using hpx
   clear hW3 hpx;have hbu:=fun W:World=>AT x W
   have hcon:=AR (nK x) (FB HX.out.2.1) W3;go_wp2_with (first | (refine vE rfl 168 _ rfl #[(0,.int .u64 (x:Int))] (wdV (nK x)) rfl (hbu _) ?_) | fail);refine hcon.mono ?_;clear hcon hbu q5 q7;rintro e w4 ⟨rfl,hw4⟩;subst w4;have kB:=Blk.new W3 168 (wdC (nK x)).toArray;have b4:Below W3.heap.size W3 (W3.alloc (.cells (wdC (nK x)).toArray 168)):=bR.alloc (Nat.le_refl _) _;have z4:(W3.alloc (.cells (wdC (nK x)).toArray 168)).heap.size=W3.heap.size+1:=by simp
   have HB:=aI3 kB b4 z4;clear kB b4 z4;generalize W3.alloc (.cells (wdC (nK x)).toArray 168)=W4 at HB ⊢;go_wp2;have hd:(cH 0 r).drop c'=mL k x++cH (k+1) (r.drop (k+1)):=HI.out.at_.trans HX.out.1;have HR:=FD HW.out H.out.2.2.2.2.2.1 HI.out HX.out HB.out;have hg4:W.heap.size+1<W4.heap.size:=HR.k4.lt;have hQ':=yV hQ hd;have hm:∀j,j≤(cH 0 (nK x)).length→c'+j≤(cH 0 r).length:=fun j hj=>by
    have:=congrArg List.length hd;rw[List.length_drop,List.length_append,lW,List.length_map,← show cH 0 (nK x)=mL 0 x from nT x] at this;have:=HI.out.le;omega
   have hst:=vD W4 W3.heap.size (nK x) (FB HX.out.2.1) (fun y=>Q (k,y.2)) hQ' HB.out.1 HR.tab;have j4:TR lb W.heap.size F J ((fZ (cH 0 r) Q hQ).take c') k W4 [] W4:=by
    refine⟨?_,KpM.refl _ _ _,HR.k4,HR.p4,HR.lt⟩;have hb34:=HB.out.2.1;have h5:=tHn HX.out.2.2.2.2.1 hb34;have:=H.out.2.1.below HI.out.j h5;simpa using this
   have HS:=aI5 HR hg4 hm hd j4;have HT:=hIz hst;clear hst HR hg4 hm hd j4;refine jO (gf:=198) (cap:=#[.pointer (some ⟨W3.heap.size,0,none⟩)]) rfl (enters_of Tryz.func198 (by kernel_rfl) rfl) HT.out bR (fun q h=>by unfold QV at h;rw[h];exact HS.out.1.tab.lt) (fun _=>rfl)
    lb (fun q=>F q∨q=W.heap.size+1) HS.out.1.lt HS.out.1.rg HS.out.1.fF HS.out.1.row
    (TR lb W.heap.size F J ((fZ (cH 0 r) Q hQ).take c') k W4) (UB lb W.heap.size F Jx ((fZ (cH 0 r) Q hQ).take c') k W4)
    (yW H.out.2.1 HS.out.1.lt HS.out.1.rg HS.out.2.1) (LB H.out.2.2.1 HS.out.1.lt HS.out.1.rg HS.out.2.1) HS.out.2.2.2.2
    (fun T y b=>(T.setIfInBounds 24 (.agg #[.int .i64 (y.1.1:Int),.int .i64 (y.1.2:Int)])).setIfInBounds 8 (.pointer (some ⟨b,0,none⟩)))
    (fun y b V=>Blk V b 124 #[.int .i64 (y.1.1:Int),.int .i64 (y.1.2:Int)]∧W4.heap.size≤b)
    ?hBx ?assign ?body ?done ?stop
   case hBx=>exact fun y b s X Y row h hg hr=>⟨h.1.keep hg hr,h.2⟩
   case assign =>
    rintro l2 pre y V Kc hrV hsV hi hK;dsimp only [TQ]
    have HI2:=hIz hi;clear hi;gi_wp2
    have hi:=HI2.out;exact hK V.heap.size _ (KpM.of_below (bR.alloc (Nat.le_refl _) _) hi.2.2.2.2) ((yW H.out.2.1 HS.out.1.lt HS.out.1.rg HS.out.2.1).alloc _ hi) ⟨Blk.new V _ _,hsV⟩
   case body =>
    rintro l2 pre y b V hrV hsV ⟨j1,kp,kb4,pb4,lbV⟩ ⟨kx,hbx⟩ hlt2;have hyb:=hQb _ y.2;have hR:=HS.out.1;have c3:V.cell? ⟨W.heap.size,0,none⟩=some (.func (.yield l) #[] #[]):=(kp.blk hR.rg hR.p3 hR.k3).cell 0;have k7:=kp.blk hR.rg hR.p7 hR.k7;have c70:V.cell? ⟨wr.heap.size+1,0,none⟩=some (.int .i64 0):=k7.cell 0;have c71:V.cell? ⟨wr.heap.size+1,1,none⟩=some (.int .i64 0):=k7.cell 1;have c5:V.cell? ⟨wr.heap.size,0,none⟩=some (.int .i64 (k:Int)):=(kp.blk hR.rg hR.p5 hR.k5).cell 0;have c8:V.cell? ⟨b,1,none⟩=some (.int .i64 (y.1.2:Int)):=kx.cell 1;have c4:V.cell? ⟨W.heap.size+1,0,none⟩=some (.bool false):=kb4.cell 0;have hw0:IntKind.i64.wrap 0=0:=by decide
    have hwk:IntKind.i64.wrap (k:Int)=(k:Int):=IntWalk.i64_in _ (by omega);have hwy:IntKind.i64.wrap (y.1.2:Int)=(y.1.2:Int):=IntWalk.i64_in _ (by have:=hyb.2;dsimp only at this;omega);have hlen:((fZ (cH 0 r) Q hQ).take c'++pre.map (upC k)).length<(cH 0 r).length:=by
     rw[List.length_append,List.length_take,List.length_map,iJ];have:=HS.out.2.2.1 (pre.length+1) hlt2;omega
    obtain⟨fn,tmps,assign,body,hy,hRd⟩:=xE (l2:=l2) (n:=0) (H.out.2.2.2.2.2.2.2.2.2.2 _ (upC k y) V j1 hlen);dsimp only [QW,upC] at hy
    have HK:=aI5 kp kb4 pb4 lbV hrV;clear kp kb4 pb4 hR k7 kx hyb hlen j1;simp only[sA,sZ,sS]
    gi_wp2
    refine⟨rfl,hRd.mono ?_⟩;clear hRd hy c3 c70 c71 c5 c8 c4;rintro e V3 ⟨hk3,(⟨rfl,hJ3⟩|⟨rfl,hJx3⟩)⟩
    ·have FIN:=hIz (show KpM lb (fun q=>F q∨q=W.heap.size+1) V V3∧TR lb W.heap.size F J ((fZ (cH 0 r) Q hQ).take c') k W4 (pre++[y]) V3 from by
      obtain⟨kp,kb4,pb4,lbV,hrV⟩:=HK.out;have hm:=hk3.mono (F':=fun q=>F q∨q=W.heap.size+1) (fun _=>.inl);exact⟨hm,by rw[List.map_append,← List.append_assoc];exact hJ3,kp.trans hm,hk3.blk hrV pb4 kb4,(hk3.prv hrV pb4).2,Nat.lt_of_lt_of_le lbV (hk3.size hrV)⟩)
     clear hJ3 hk3;gi_wp2
     exact FIN.out
    ·obtain⟨kp,kb4,pb4,lbV,hrV⟩:=HK.out;have kb3:=hk3.blk hrV pb4 kb4;have pb3:=(hk3.prv hrV pb4).2;have c4:V3.cell? ⟨W.heap.size+1,0,none⟩=some (.bool false):=kb3.cell 0;have f4:=kb3.frozen 0;have FIN:=hIz (show KpM lb (fun q=>F q∨q=W.heap.size+1) V (V3.setCell ⟨W.heap.size+1,0,none⟩ (.bool false))∧UB lb W.heap.size F Jx ((fZ (cH 0 r) Q hQ).take c') k W4 .ret (pre++[y]) (V3.setCell ⟨W.heap.size+1,0,none⟩ (.bool false)) from by
      have hm:=hk3.mono (F':=fun q=>F q∨q=W.heap.size+1) (fun _=>.inl);have hz:=hk3.size hrV;have hs:KpM lb (fun q=>F q∨q=W.heap.size+1) V3 (V3.setCell ⟨W.heap.size+1,0,none⟩ (.bool false)):=
       (KpM.of_upd (lb:=lb) ((Upd.refl (fun q=>q=W.heap.size+1) V3).setCell (p:=⟨W.heap.size+1,0,none⟩) (.inl rfl) _) (by omega) (by have:=H.out.2.2.2.1;omega)).mono (fun _=>.inr)
      have h1:=H.out.2.2.1.set (p:=⟨W.heap.size+1,0,none⟩) (.bool false) hJx3 (Nat.le_succ _) pb3;exact⟨hm.trans hs,rfl,by rw[List.map_append,← List.append_assoc];exact h1,(kp.trans hm).trans hs,kb3.set 0 _⟩)
     clear kp kb4 pb4 lbV hrV kb3 pb3 hJx3 hk3;gi_wp2
     exact FIN.out
   case done =>
    rintro ys V rfl ⟨j1,kp,kb4,pb4,lbV⟩ hrV pD hD;have hI2:CeI lb W.heap.size F (cH 0 r) r Q hQ J W1 V (k+1) (c'+(cH 0 (nK x)).length) (W4.heap.size::Ds):=by
     have hR:=HS.out.1;have bb:Below wr.heap.size wr W4:=tHn HX.out.2.2.2.2.1 HB.out.2.1;have kw:KpM lb (fun q=>F q∨q=W.heap.size+1) wr V:=(KpM.of_below bb HX.out.2.2.2.1).trans kp;have hz4:=bb.size;have pG:∀D,Prv lb F wr D→Prv lb F V D∧V.heap[D]?=wr.heap[D]?:=fun D hp=>by
      by_cases e:D=W.heap.size+1
      ·subst e;exact⟨pb4,kb4.trans HI.out.b4.symm⟩
      ·have:=kw.prv HX.out.2.2.1 (PF.out wr D hp e);exact⟨this.2.mono .inl,this.1⟩
     refine⟨?_,HS.out.2.2.1 _ (Nat.le_refl _),?_,HI.out.kp.trans kw,kb4,pb4,?_,fun D hD'=>?_⟩
     ·rw[← List.drop_drop,HS.out.2.2.2.1,show(cH 0 (nK x)).length=(mL k x).length by rw[lW,List.length_map,show cH 0 (nK x)=mL 0 x from nT x],List.drop_left]
     ·rw[vF HS.out.2.2.2.1 (yV hQ HS.out.2.2.2.1) _ (Nat.le_refl _),show(fZ (cH 0 (nK x)) (fun y=>Q (k,y.2)) (yV hQ HS.out.2.2.2.1)).take (cH 0 (nK x)).length=fZ (cH 0 (nK x)) (fun y=>Q (k,y.2)) (yV hQ HS.out.2.2.2.1) from List.take_of_length_le (by rw[iJ];exact Nat.le_refl _)];exact j1
     ·rw[List.nodup_cons];exact⟨fun hm=>by have:=(HI.out.ds _ hm).2.1.1;omega,HI.out.nd⟩
     ·rcases List.mem_cons.1 hD' with rfl|hm
      ·exact⟨Nat.le_trans (HI.out.kp.size HW.out.2.2.2.2.2.2.2.1) hz4,pD.mono .inl,hD⟩
      ·have h5:=HI.out.ds D hm;have h6:=pG D h5.2.1;exact⟨h5.1,h6.1,h6.2.trans h5.2.2⟩
    have HN:=hIz hI2;clear hI2 j1 kp kb4 pb4 lbV hrV pD hD;go_wp2;rw[rounds_succ];go_wp2;exact⟨⟨k+1,_,W4.heap.size::Ds,_,_,_,_,_,_,_,_,_,_,_,_,_,_,_,_,_,_,_,_,_,_,_,_,_,_,_,_,_,_,_,_,_,_,_,_,_,_,rfl,by omega,HN.out⟩,by simp[intOf];omega⟩
   case stop =>
    rintro ct pre V ⟨j,hj,rfl⟩ ⟨rfl,jx,kp,kb4⟩ hrV pD hD;have bb:Below wr.heap.size wr W4:=tHn HX.out.2.2.2.2.1 HB.out.2.1;have kw:KpM lb (fun q=>F q∨q=W.heap.size+1) wr V:=(KpM.of_below bb HX.out.2.2.2.1).trans kp;have hz4:=bb.size;have hz:=HI.out.kp.size HW.out.2.2.2.2.2.2.2.1;have z1:=HW.out.2.2.2.2.2.2.2.2.2.1;have hds:∀D∈W4.heap.size::Ds,W1.heap.size≤D∧Prv lb F V D∧V.heap[D]?=some (.deferred (some [])):=fun D hD'=>by
     rcases List.mem_cons.1 hD' with rfl|hm
     ·exact⟨Nat.le_trans hz hz4,pD.mono .inl,hD⟩
     ·have h5:=HI.out.ds D hm;have:=kw.prv HX.out.2.2.1 (PF.out wr D h5.2.1 (by omega));exact⟨h5.1,this.2.mono .inl,this.1.trans h5.2.2⟩
    have hnd:(W4.heap.size::Ds).Nodup:=List.nodup_cons.2 ⟨fun hm=>by have:=(HI.out.ds _ hm).2.1.1;omega,HI.out.nd⟩;have hlv:lb<V.heap.size:=by have:=HX.out.2.2.2.1;have:=kp.size HS.out.1.rg;omega
    have hkW:KpM lb F W V:=((HW.out.2.2.2.2.2.2.2.2.2.2.mono (F':=fun q=>F q∨q=W.heap.size+1) (fun _=>.inl)).trans (HI.out.kp.trans kw)).shrink (fun q h=>h.elim .inl (fun e=>.inr (by omega)));have HL:=aI6 hds hnd hlv jx kb4 hkW;clear jx kp kb4 hrV pD hD bb kw hz4 hds hnd hlv hkW;go_wp2;refine gP (B:=W1.heap.size) (fun w1=>KpM lb F W w1∧Jx ((fZ (cH 0 r) Q hQ).take c'++((fZ (cH 0 (nK x)) (fun y=>Q (k,y.2)) hQ').take j).map (upC k)) w1∧Blk w1 (W.heap.size+1) 4 #[.bool false]) ?_ HW.out.2.2.2.2.2.2.2.2.1 ?_ (W4.heap.size::Ds) V HL.out.2.1 HL.out.1 HL.out.2.2.1 ⟨HL.out.2.2.2.2.2,HL.out.2.2.2.1,HL.out.2.2.2.2.1⟩
    ·rintro s X Y row ⟨h1,h2,h3⟩ hg hrr;exact⟨kI (β:=Unit) (by omega) H.out.2.2.2.1 H.out.2.2.2.2.1 () X Y row h1 hg hrr,(H.out.2.2.1.from (by omega)) _ X Y row h2 hg hrr,h3.grown hg (fun e=>by have:=(hrr _ e.symm).1;omega)⟩
    ·rintro w1 ⟨h1,h2,h3⟩;have hc8:=h3.cell 0;simp only[List.getElem?_toArray,List.getElem?_cons_zero] at hc8
     exact⟨.bool false,by simp[results,Tryz.f108,go_sem,hc8],h1,.inr ⟨rfl,_,⟨c'+j,HS.out.2.2.1 j hj,(vF HS.out.2.2.2.1 hQ' j hj).symm⟩,h2⟩⟩
  ·obtain rfl:k=64:=by omega
   have hdr:(cH 0 r).drop c'=[]:=by rw[HI.out.at_,List.drop_of_length_le (by rw[H.out.1.len];exact Nat.le_refl _)];rfl
   have jj:=HI.out.j;rw[yU hdr] at jj;have hz:=HI.out.kp.size HW.out.2.2.2.2.2.2.2.1;have z1:=HW.out.2.2.2.2.2.2.2.2.2.1;have rwr:=HI.out.kp.rg HW.out.2.2.2.2.2.2.2.1;have lbr:lb<wr.heap.size:=by have:=HW.out.2.2.2.2.2.2.2.2.1;omega
   have c4:wr.cell? ⟨W.heap.size+1,0,none⟩=some (.bool false):=HI.out.b4.cell 0;have f4:=HI.out.b4.frozen 0;have us:=(Upd.refl (fun q=>q=W.heap.size+1) wr).setCell (p:=⟨W.heap.size+1,0,none⟩) (.inl rfl) (.bool true);have hg:=us.to_grown (row:=some (W.heap.size+1)) (fun i _ e=>by rw[e]);have hlne:some (W.heap.size+1)≠some lb:=fun e=>by injection e with e;have:=H.out.2.2.2.1;omega
   have hds:∀D∈Ds,W1.heap.size≤D∧Prv lb F (wr.setCell ⟨W.heap.size+1,0,none⟩ (.bool true)) D∧(wr.setCell ⟨W.heap.size+1,0,none⟩ (.bool true)).heap[D]?=some (.deferred (some [])):=fun D hD=>by
    obtain⟨h1,h2,h3⟩:=HI.out.ds D hD;exact⟨h1,h2.own hg lbr hlne,(us.block D h2.1 (by omega)).trans h3⟩
   have hkW:KpM lb F W (wr.setCell ⟨W.heap.size+1,0,none⟩ (.bool true)):=((HW.out.2.2.2.2.2.2.2.2.2.2.mono (F':=fun q=>F q∨q=W.heap.size+1) (fun _=>.inl)).trans (HI.out.kp.trans ((KpM.of_upd us lbr (by have:=H.out.2.2.2.1;omega)).mono (fun _=>.inr)))).shrink (fun q h=>h.elim .inl (fun e=>.inr (by omega)));have HL:=aI6 hds HI.out.nd (show lb<(wr.setCell ⟨W.heap.size+1,0,none⟩ (.bool true)).heap.size from Nat.lt_of_lt_of_le lbr us.size) hkW (H.out.2.1.set (p:=⟨W.heap.size+1,0,none⟩) (.bool true) jj (Nat.le_succ _) HI.out.p4) (HI.out.b4.set 0 (.bool true));clear hdr jj rwr lbr us hg hlne hds hkW;go_wp2;refine gP (B:=W1.heap.size) (fun w1=>KpM lb F W w1∧J (fZ (cH 0 r) Q hQ) w1∧Blk w1 (W.heap.size+1) 4 #[.bool true]) ?_ HW.out.2.2.2.2.2.2.2.2.1 ?_ Ds _ HL.out.2.1 HL.out.1 HL.out.2.2.1 ⟨HL.out.2.2.2.1,HL.out.2.2.2.2.1,HL.out.2.2.2.2.2⟩
   ·rintro s X Y row ⟨h1,h2,h3⟩ hg hrr;exact⟨kI (β:=Unit) (by omega) H.out.2.2.2.1 H.out.2.2.2.2.1 () X Y row h1 hg hrr,(H.out.2.1.from (by omega)) _ X Y row h2 hg hrr,h3.grown hg (fun e=>by have:=(hrr _ e.symm).1;omega)⟩
   ·rintro w1 ⟨h1,h2,h3⟩;have hc8:=h3.cell 0;simp only[List.getElem?_toArray,List.getElem?_cons_zero] at hc8
    exact⟨.bool true,by simp[results,Tryz.f108,go_sem,hc8],h1,.inl ⟨rfl,h2⟩⟩
open Go.RowKit Go.Shelf
def FF(g:Nat)(b:Option (List Nat))(v:Value)(q:Nat):Prop:=q=1∨q=g∨(b.isSome=true∧v.ownBlock=some q)

theorem xF(l g c:Nat)(A:Option Addr)(W:World)(R:Ending→World→Prop)(hg:Blk W g 164 #[.slice A 0 c])(hR:R (.returned (.tuple #[])) W) :
  Calls Tryz.prog 107 #[.func (.yield l) #[] #[],.pointer (some ⟨g,0,none⟩)] W R:=by
 have q0:W.cell? ⟨g,0,none⟩=some (.slice A 0 c):=hg.cell 0;have H:=hIz hR;clear hR hg;go_enter Tryz.func107,Tryz.ntmps107;go_wp2;refine wp_loop_rounds 1 ?_;rw[rounds_succ];go_wp2;exact bodyPost_end (results_none rfl _ _ _) rfl H.out

theorem xG(l lb:Nat)(F:Nat→Prop)(g c:Nat)(A:Option Addr)(r:List Nat)(hr:Wd r)(Q:Nat × Nat→Prop)(hQb:∀x,Q x→x.1<64∧x.2<64)(hQ:∀x∈cH 0 r,Q x)(J Jx:List {x:Nat × Nat // Q x}→World→Prop)(W:World)
  (hJ:jN lb F W.heap.size J) (hJx:jN lb F W.heap.size Jx) (hlb:lb<W.heap.size) (hrg:RgM lb W) (hF:∀q,F q→q<W.heap.size) (hp:Prv lb F W 1) (hT:gI W)
  (hg:Blk W g 164 #[.slice A 1 c]) (hpg:Prv lb F W g) (hrow:W.ownsRow 0 170 66 (.slice A 1 c) 1 (plC r)) (hpr:∀k,(Value.slice A 1 c).ownBlock=some k→Prv lb F W k)
  (hY:∀pre x W1,J pre W1→pre.length<(cH 0 r).length→YieldAt Fence.wide 0 Tryz.prog l (QW x) W1 fun e W'=>KpM lb F W1 W'∧((e=.returned (.bool true)∧J (pre++[x]) W')∨(e=.returned (.bool false)∧Jx (pre++[x]) W'))) (h0:J [] W) :
  Calls Tryz.prog 107 #[.func (.yield l) #[] #[],.pointer (some ⟨g,0,none⟩)] W fun e W'=>(∃v,e=.returned v) ∧
   ((∃ys,ys=fZ (cH 0 r) Q hQ∧J ys W')∨(∃pre,(∃k,k≤(cH 0 r).length∧pre=(fZ (cH 0 r) Q hQ).take k)∧Jx pre W')):=by
 obtain⟨ga,cc,e,hob,-,hcc,-,hcell⟩:=aL hrow (by decide);injection e with e1 e2 e3;subst e1;subst e3;have q0:W.cell? ⟨g,0,none⟩=some (.slice (some ⟨ga,0,none⟩) 1 c):=hg.cell 0;have qa:W.cell? ⟨ga,0,none⟩=some (.int .i64 0):=(hcell 0 _ rfl).1;have hc1:(1:Int)≤(c:Int):=by
  obtain⟨A',c',hv,hc,-⟩:=aH hrow;injection hv with _ _ e;omega
 have SR:=hIz (show ∀W',Below W.heap.size W W'→Calls Tryz.prog 108 #[.slice (some ⟨ga,0,none⟩) 1 c,.func (.yield l) #[] #[]] W' fun e W2=>Blk W2 g 164 #[.slice (some ⟨ga,0,none⟩) 1 c]∧((e=.returned (.bool true)∧J (fZ (cH 0 r) Q hQ) W2) ∨
   (e=.returned (.bool false)∧∃pre,(∃k,k≤(cH 0 r).length∧pre=(fZ (cH 0 r) Q hQ).take k)∧Jx pre W2)) from fun W' hb=>by
  have kp:=KpM.of_below (lb:=lb) (F:=F) hb hlb;have hu:=Upd.of_below hb (fun _=>False);refine(FE l lb F (some ⟨ga,0,none⟩) c r hr Q hQb hQ J Jx W' (hJ.from hb.size) (hJx.from hb.size) (Nat.lt_of_lt_of_le hlb hb.size) (kp.rg hrg) (fun q h=>Nat.lt_of_lt_of_le (hF q h) hb.size) (kp.prv hrg hp).2 (hT.kp kp hrg hp) (aB hrow hu (fun _ _=>id)) (fun k hk=>(kp.prv hrg (hpr k hk)).2) hY (hJ.below h0 hb)).mono ?_;rintro e W2 ⟨k2,h⟩;exact⟨k2.blk (kp.rg hrg) (kp.prv hrg hpg).2 (hg.upd hu id),h⟩)
 clear hr hJ hJx hlb hrg hF hp hT hg hpg hrow hpr hY h0 hob hcc hcell e2 hQb;go_enter Tryz.func107,Tryz.ntmps107;go_wp2;refine wp_loop_rounds 2 ?_;rw[rounds_succ];go_wp2;refine wp_loop_rounds 2 ?_;rw[rounds_succ];go_wp2;go_quiet (fail)
 go_wp2;rw[rounds_succ];have q0d:W.drew.cell? ⟨g,0,none⟩=some (.slice (some ⟨ga,0,none⟩) 1 c):=q0;have qad:W.drew.cell? ⟨ga,0,none⟩=some (.int .i64 0):=qa;go_wp2;go_quiet (fail)
 go_wp2_with fail;refine(SR.out (W.drewN _) ⟨rfl,rfl,rfl,Nat.le_refl _,fun _ _=>rfl⟩).mono ?_;clear q0 qa q0d qad SR;rintro e W2 ⟨k2,(⟨rfl,hJ2⟩|⟨rfl,pre,hpre,hx⟩)⟩
 ·have FIN:=hIz hJ2;have q2:W2.cell? ⟨g,0,none⟩=some (.slice (some ⟨ga,0,none⟩) 1 c):=k2.cell 0;clear hJ2 k2;go_wp2;rw[rounds_succ];go_wp2;exact bodyPost_end (results_none rfl _ _ _) rfl ⟨⟨_,rfl⟩,.inl ⟨_,rfl,FIN.out⟩⟩
 ·have FIN:=aI2 hpre hx;clear hpre hx k2;go_wp2;refine bodyPost_ret (results_none rfl _ _ _) rfl ?_;exact⟨⟨_,rfl⟩,.inr ⟨pre,FIN.out⟩⟩

def vG(w:World)(base:Nat)(A:Option Addr)(n c:Nat):Option (List Nat)→Prop
 | none=>n=0
 | some r=>n=1∧w.ownsRow 0 170 66 (.slice A 1 c) 1 (plC r)∧∀k,(Value.slice A 1 c).ownBlock=some k→base≤k
theorem vG.own{w:World}{base n c:Nat}{A:Option Addr}{b:Option (List Nat)}(h:vG w base A n c b)(hs:b.isSome=true){k:Nat}(ho:(Value.slice A n c).ownBlock=some k):base≤k∧k<w.heap.size:=by
 cases b with
 | none=>cases hs
 | some r =>
  obtain⟨rfl,h1,h2⟩:=h;exact⟨h2 k ho,(h1.lt k ho).2⟩
theorem pB(w:World)(F:Nat→Prop)(p side:Nat)(b:Option (List Nat))(h:QuS w F p side b):Calls Tryz.prog 65 #[.pointer (some ⟨p,0,none⟩)] w
  (fun e w'=>∃g A n c,w.heap.size≤g∧e=.returned (.func (.func 107) #[] #[.pointer (some ⟨g,0,none⟩)])∧Blk w' g 164 #[.slice A n c]∧Below w.heap.size w w'∧vG w' w.heap.size A n c b):=by
 refine(AS w F p side b h).mono ?_;rintro e w' ⟨g,A,n,c,h1,h2,h3,h4,h5⟩;refine⟨g,A,n,c,h1,h2,h3,h4,?_⟩;cases b with
 | none=>exact h5
 | some r=>exact h5
theorem nL(w:World)(b:Option (List Nat))(hw:Wd (bX b))(hT:gI w)(g c n:Nat)(A:Option Addr)(Q:Nat × Nat→Prop)(hQb:∀x,Q x→x.1<64∧x.2<64)(hQ:∀x∈qcL b,Q x)(hg:Blk w g 164 #[.slice A n c])
  (base:Nat) (hm:vG w base A n c b) :
  RY Tryz.prog 107 #[.pointer (some ⟨g,0,none⟩)] QW (FF g b (.slice A n c)) (fun ys=>ys=fZ (qcL b) Q hQ) (fun pre=>∃k,k≤(qcL b).length∧pre=(fZ (qcL b) Q hQ).take k) (qcL b).length w:=
 fun l lb F J Jx W hW hJ hJx hlb hrg hF hrow hY h0=>by
  have hu:=Upd.of_below hW (fun _=>False);have hgW:=hg.upd hu id;cases b with
  | none =>
   obtain rfl:=hm;exact xF l g c A W _ hgW ⟨⟨_,rfl⟩,.inl ⟨_,rfl,h0⟩⟩
  | some r =>
   obtain⟨rfl,own,-⟩:=hm;have ownW:=aB own hu (fun _ _=>id);have hTW:=hT.upd hu hT.lt id;have pv:∀q,FF g (some r) (.slice A 1 c) q→q<W.heap.size→Prv lb F W q:=fun q ho hlt=>⟨hlt,fun ha=>ha.elim (fun hf=>(hF q hf).2 ho) (fun ⟨v,hv,hq⟩=>hrow v q hv hq ho)⟩
   exact xG l lb F g c A r hw Q hQb hQ J Jx W hJ hJx hlb hrg (fun q h=>(hF q h).1) (pv _ (.inl rfl) hTW.lt) hTW hgW (pv _ (.inr (.inl rfl)) hgW.lt) ownW (fun k hk=>pv k (.inr (.inr ⟨rfl,hk⟩)) (ownW.lt k hk).2) hY h0
open Go.RowKit
def wf(f:Nat→Nat):List Nat:=(List.range 64).map f
theorem RZ(f:Nat→Nat):(wf f).length=64:=by simp[wf]
theorem qF(f:Nat→Nat){k:Nat}(h:k<64):(wf f)[k]?=some (f k):=by simp[wf,h]
theorem iL{f g:Nat→Nat}(h:∀i,i<64→f i=g i):wf f=wf g:=List.map_congr_left (fun i hi=>h i (List.mem_range.1 hi))
theorem NO(f:Nat→Nat){k:Nat}(_h:k<64)(v:Nat):(wf f).set k v=wf (fun i=>if i=k then v else f i):=by
 apply List.ext_getElem?
 intro i;by_cases hi:i<64
 ·rw[qF _ hi,List.getElem?_set];by_cases e:k=i
  ·subst e;simp[wf,hi]
  ·rw[if_neg e,qF f hi,if_neg (fun h=>e h.symm)]
 ·rw[List.getElem?_eq_none (by simp[wf];omega),List.getElem?_eq_none (by simp[wf];omega)]
theorem PJ{f:Nat→Nat}(h:∀i,i<64→f i<18446744073709551616):Wd (wf f):=⟨RZ f,fun x hx=>by
 obtain⟨i,hi,rfl⟩:=List.mem_map.1 hx;exact h i (List.mem_range.1 hi)⟩
theorem SB{r:List Nat}(h:Wd r):r=wf (fun i=>r.getD i 0):=by
 apply List.ext_getElem?
 intro i;by_cases hi:i<64
 ·rw[qF _ hi,gEz (by rw[h.len];exact hi)];simp[h.len,hi]
 ·rw[List.getElem?_eq_none (by rw[h.len];omega),List.getElem?_eq_none (by simp[wf];omega)]
theorem xH:aV=wf (fun _=>0):=by decide +kernel
theorem FG{f g:Nat→Nat}{k:Nat}(h:k<64):(wf (fun i=>if i<k then f i else g i)).set k (f k)=wf (fun i=>if i<k+1 then f i else g i):=by
 rw[NO _ h];apply iL
 intro i _;by_cases e:i=k
 ·subst e;rw[if_pos rfl,if_pos (by omega)]
 ·rw[if_neg e];by_cases e2:i<k
  ·rw[if_pos e2,if_pos (by omega)]
  ·rw[if_neg e2,if_neg (by omega)]
theorem xJ(f g:Nat→Nat):wf (fun i=>if i<64 then f i else g i)=wf f:=iL (fun i hi=>if_pos hi)
theorem xK(f g:Nat→Nat):wf (fun i=>if i<0 then f i else g i)=wf g:=iL (fun i _=>if_neg (by omega))
theorem bU{w:World}{b:Nat}{t:TypeId}{cs:Array Value}(h:Blk w b t cs):w.there b 0 cs.size:=fun j hj=>⟨by rw[Nat.zero_add,h.cell j,Array.getElem?_eq_getElem hj];rfl,h.frozen _⟩

def lD:List Nat:=wf (fun i=>2 ^ i)
theorem jQ:Wd lD:=PJ (fun _ hi=>oX hi)
theorem FH{j:Nat}(hj:j<64):IntKind.u64.wrap ((2:Int) ^ j)=((2 ^ j:Nat):Int):=by
 have h:=oX hj;rw[← OY];generalize 2 ^ j=q at h ⊢;rw[IntKind.wrap_u64];omega

theorem LC(w:World):Calls Tryz.prog 202 #[] w (Sam w (wdV lD)):=by
 have k0:=(Blk.new w 168 Z64).alloc (.cells Z64 168);have k1:=Blk.new (w.alloc (.cells Z64 168)) 168 Z64;simp only[World.size_alloc] at k1
 have u0:Below w.heap.size w ((w.alloc (.cells Z64 168)).alloc (.cells Z64 168)):=by(repeat (first | exact Below.refl _ _ | apply Below.drew | refine Below.alloc ?_ (by first | exact Nat.le_refl _ | (simp;done) | (simp;omega)) _ | refine Below.setCell ?_ (by first | exact Nat.le_refl _ | (simp;done) | (simp;omega)) _))
 have H:=aI3 (bB.mp k0) (bB.mp k1) u0;clear k0 k1 u0;go_enter Tryz.func202,Tryz.ntmps202;go_upto_region 2 with (fail);generalize (w.alloc (.cells Z64 168)).alloc (.cells Z64 168)=W0 at H ⊢;go_wp2_with fail;go_loopw [3] (fun i wr=>∃k:Nat,k≤64∧i=.int .i64 k∧Hid (Blk wr w.heap.size 168 (wdC aV).toArray∧Blk wr (w.heap.size+1) 168 (wdC (wf (fun i=>if i<k then 2 ^ i else 0))).toArray∧Below w.heap.size w wr)) (fun i _=>64-(intOf i).toNat)
 case atStart=>exact⟨0,Nat.zero_le _,rfl,hIz ⟨H.out.1,by rw[xK (fun i=>2 ^ i) (fun _=>0),← xH];exact H.out.2.1,H.out.2.2⟩⟩
 case round =>
  obtain⟨k,hk,rfl,hI⟩:=hrel;by_cases hlt:k<64
  ·have hltI:(k:Int)<(64:Int):=by omega
   have hkw:IntKind.i64.wrap ((k:Int)+1)=(k:Int)+1:=IntWalk.i64_in _ (by omega);have hk0:¬((k:Int)<0):=by omega
   have hsh:=FH hlt;have kB:=hI.out.2.1;have c1:wr.cell? ⟨w.heap.size+1,k,none⟩=some (.int .u64 0):=(kB.cell k).trans (by have:=gB (qF (fun i=>if i<k then 2 ^ i else 0) hlt);simpa using this);have f1:=kB.frozen k;have us:=(Upd.refl (fun q=>q=w.heap.size+1) wr).setCell (p:=⟨w.heap.size+1,k,none⟩) (.inl rfl) (.int .u64 ((2 ^ k:Nat):Int));have HN:=hIz (show Blk (wr.setCell ⟨w.heap.size+1,k,none⟩ (.int .u64 ((2 ^ k:Nat):Int))) w.heap.size 168 (wdC aV).toArray∧Blk (wr.setCell ⟨w.heap.size+1,k,none⟩ (.int .u64 ((2 ^ k:Nat):Int))) (w.heap.size+1) 168 (wdC (wf (fun i=>if i<k+1 then 2 ^ i else 0))).toArray∧Below w.heap.size w (wr.setCell ⟨w.heap.size+1,k,none⟩ (.int .u64 ((2 ^ k:Nat):Int))) from by
    refine⟨hI.out.1.upd us (by omega),?_,hI.out.2.2.trans (us.below (fun q _ e=>by omega) hI.out.2.2.size)⟩;have:=kB.set k (.int .u64 ((2 ^ k:Nat):Int));rw[mR,FG (f:=fun i=>2 ^ i) hlt] at this;exact this)
   clear kB us;obtain⟨q,hq⟩:∃q:Nat,2 ^ k=q:=⟨_,rfl⟩;rw[hq] at hsh HN;clear hq;go_wp2;go_roundw
   case rel=>exact⟨k+1,by omega,by go_num,HN⟩
   case measure=>simp[intOf];omega
  ·obtain rfl:k=64:=by omega
   have kA:=hI.out.2.1;rw[xJ (fun i=>2 ^ i) (fun _=>0)] at kA;have hrg:=bP kA;have hsz:=bH jQ;have hth:wr.there w.heap.size 0 (wdC lD).toArray.size:=by have:=bU hI.out.1;simpa[bJ,bG,jQ.len] using this
   have hsz2:(Tryz.prog.info? 168).map (·.size)=some (wdC lD).toArray.size:=by simpa using hsz
   have h1c:(wdC lD).toArray.all (·.oneCell')=true:=all_oneCell_toArray (fK _);have FIN:=hIz (show Below w.heap.size w (wr.setCells w.heap.size 0 (wdC lD))∧(wr.setCells w.heap.size 0 (wdC lD)).rangeAt w.heap.size 0 (wdC lD) from
    ⟨hI.out.2.2.trans ((Upd.setCells (F:=fun q=>q=w.heap.size) (.inl rfl) (wdC lD) 0 (Upd.refl _ wr)).below (fun q _ e=>Nat.le_of_eq e.symm) hI.out.2.2.size),World.rangeAt_setCells_same _ _ _ _ (by simpa using hth)⟩)
   change wr.rangeAt (w.heap.size+1) 0 (wdC lD) at hrg
   clear kA hI;go_upto_region 7 with (fail);go_wp2_with (first | (refine wpList_load_mid rfl 168 _ rfl (w.heap.size+1) 0 rfl (wdC lD) (.array 64 166) hrg Tryz.underlying168 rfl hsz ?_) | (refine wpList_store_mid rfl 168 _ _ rfl w.heap.size 0 (wdC lD).toArray rfl rfl hth hsz2 h1c ?_) | fail);have hlv:=run_loadVar_mid (P:=Tryz.prog) _ w.heap.size 0 168 (wdC lD) (.array 64 166) FIN.out.2 Tryz.underlying168 rfl hsz;refine bodyPost_ret (v:=.agg (wdC lD).toArray) (by simp[results,Tryz.f202,Act.put,asAddr,hlv,Result.andThen,Sem.run_bind]) rfl ⟨rfl,FIN.out.1⟩

theorem AU(w:World)(n:Nat)(hn:n≤64):Calls Tryz.prog 231 #[.int .i64 (n:Int)] w (nE w (.int .u64 ((2 ^ n-1:Nat):Int))):=by
 by_cases h:n=64
 ·subst h;go_enter Tryz.func231,Tryz.ntmps231;go_wp2;go_ret;exact⟨rfl,rfl⟩
 ·have h1:¬((64:Int)≤(n:Int)):=by omega
  have h0:¬((n:Int)<0):=by omega
  have hlt:n<64:=by omega
  have hsh:=FH hlt;have hp:=oX hlt;have hp1:1≤2 ^ n:=Nat.one_le_two_pow;obtain⟨q,hq⟩:∃q:Nat,2 ^ n=q:=⟨_,rfl⟩;rw[hq] at hsh hp hp1 ⊢;have hw:IntKind.u64.wrap ((q:Int)-1)=((q-1:Nat):Int):=by rw[IntKind.wrap_u64];omega
  clear hq;go_enter Tryz.func231,Tryz.ntmps231;go_wp2;go_ret;exact⟨rfl,rfl⟩
open Go.RowKit
def cS(r:List Nat)(n:Nat):List Nat:=wf (fun i=>if i<n then r.getD i 0 &&& (2 ^ n-1) else 0)
theorem lX{r:List Nat}(h:Wd r)(i:Nat):r.getD i 0<18446744073709551616:=by
 by_cases hi:i<r.length
 ·rw[List.getD_eq_getElem?_getD,gEz hi];exact h.fit _ (List.getElem_mem hi)
 ·rw[List.getD_eq_getElem?_getD,List.getElem?_eq_none (by omega)];decide
theorem iM{r:List Nat}(h:Wd r)(n:Nat):Wd (cS r n):=PJ (fun i _=>by
 split
 ·exact Nat.lt_of_le_of_lt Nat.and_le_left (lX h i)
 ·decide)
theorem cU(w:World)(r:List Nat)(hr:Wd r)(n:Nat)(hn:n≤64):Calls Tryz.prog 201 #[wdV r,.int .i64 (n:Int),.int .i64 (n:Int)] w (Sam w (.tuple #[wdV (cS r n),.int .i64 0])):=by
 have k0:=(Blk.new w 168 (wdC r).toArray).alloc (.cells Z64 168);have k1:=Blk.new (w.alloc (.cells (wdC r).toArray 168)) 168 Z64;simp only[World.size_alloc] at k1
 have u0:Below w.heap.size w ((w.alloc (.cells (wdC r).toArray 168)).alloc (.cells Z64 168)):=by(repeat (first | exact Below.refl _ _ | apply Below.drew | refine Below.alloc ?_ (by first | exact Nat.le_refl _ | (simp;done) | (simp;omega)) _ | refine Below.setCell ?_ (by first | exact Nat.le_refl _ | (simp;done) | (simp;omega)) _))
 have H:=aI4 k0 (bB.mp k1) u0 hr;clear k0 k1 u0;unfold wdV;have hn0:¬((n:Int)<0):=by omega
 have hn6:¬((64:Int)<(n:Int)):=by omega
 go_enter Tryz.func201,Tryz.ntmps201;go_upto_region 1 with (fail);generalize (w.alloc (.cells (wdC r).toArray 168)).alloc (.cells Z64 168)=W0 at H ⊢;go_wp2_with fail;go_loopw [24] (fun i wr=>∃k:Nat,k≤64∧i=.int .i64 k∧Hid (Blk wr w.heap.size 168 (wdC (wf (fun i=>if i<k then (if i<n then r.getD i 0 &&& (2 ^ n-1) else 0) else r.getD i 0))).toArray∧Blk wr (w.heap.size+1) 168 (wdC aV).toArray∧Below w.heap.size w wr)) (fun i _=>64-(intOf i).toNat)
 case atStart=>exact⟨0,Nat.zero_le _,rfl,hIz ⟨by rw[xK (fun i=>if i<n then r.getD i 0 &&& (2 ^ n-1) else 0) (fun i=>r.getD i 0),← SB hr];exact H.out.1,H.out.2.1,H.out.2.2.1⟩⟩
 case round =>
  obtain⟨k,hk,rfl,hI⟩:=hrel;by_cases hlt:k<64
  ·have hltI:(k:Int)<(64:Int):=by omega
   have hkw:IntKind.i64.wrap ((k:Int)+1)=(k:Int)+1:=IntWalk.i64_in _ (by omega);obtain⟨x,hx⟩:∃x,r.getD k 0=x:=⟨_,rfl⟩;have hx64:x<18446744073709551616:=by rw[← hx];exact lX hr k
   have kA:=hI.out.1;have c1:wr.cell? ⟨w.heap.size,k,none⟩=some (.int .u64 (x:Int)):=(kA.cell k).trans (by have:=gB (qF (fun i=>if i<k then (if i<n then r.getD i 0 &&& (2 ^ n-1) else 0) else r.getD i 0) hlt);rw[if_neg (Nat.lt_irrefl k),hx] at this;simpa using this);have f1:=kA.frozen k;have ST:=hIz (show ∀(W:World) (v:Nat),v=(if k<n then r.getD k 0 &&& (2 ^ n-1) else 0)→Below wr.heap.size wr W→Blk (W.setCell ⟨w.heap.size,k,none⟩ (.int .u64 (v:Int))) w.heap.size 168 (wdC (wf (fun i=>if i<k+1 then (if i<n then r.getD i 0 &&& (2 ^ n-1) else 0) else r.getD i 0))).toArray∧Blk (W.setCell ⟨w.heap.size,k,none⟩ (.int .u64 (v:Int))) (w.heap.size+1) 168 (wdC aV).toArray∧Below w.heap.size w (W.setCell ⟨w.heap.size,k,none⟩ (.int .u64 (v:Int))) from fun W v hv hb=>by
    have us:=(Upd.refl (fun q=>q=w.heap.size) W).setCell (p:=⟨w.heap.size,k,none⟩) (.inl rfl) (.int .u64 (v:Int));have ub:=Upd.of_below hb (fun _=>False);have bw:=tHn hI.out.2.2 hb;refine⟨?_,(hI.out.2.1.upd ub id).upd us (by omega),bw.trans (us.below (fun q _ e=>by omega) bw.size)⟩;have:=(kA.upd ub id).set k (.int .u64 (v:Int));rw[mR,hv,FG (f:=fun i=>if i<n then r.getD i 0 &&& (2 ^ n-1) else 0) hlt] at this;rw[hv];exact this)
   by_cases hkn:k<n
   ·have hknI:(k:Int)<(n:Int):=by omega
    have hcon:=fun W=>AU W n hn
    have hq64:2 ^ n-1<18446744073709551616:=by
     have:2 ^ n≤2 ^ 64:=Nat.pow_le_pow_right (by decide) hn;omega
    have hand:=bits_and_u64_nat x (2 ^ n-1) hx64 hq64;obtain⟨q,hq⟩:∃q:Nat,2 ^ n-1=q:=⟨_,rfl⟩;rw[hq] at hand hcon;obtain⟨z,hz⟩:∃z:Nat,x &&& q=z:=⟨_,rfl⟩;rw[hz] at hand;have S1:=hIz (ST.out wr.drew z (by rw[if_pos hkn,hx,hq,hz]) bR.drew);clear hq hz hx hq64 kA ST;go_upto_region 7 with (fail);have hS:wr.drew.cell? ⟨w.heap.size,k,none⟩=some (.int .u64 (x:Int)):=c1;have f2:wr.drew.frozen? ⟨w.heap.size,k,none⟩=false:=f1;refine aN (fun W=>W.cell? ⟨w.heap.size,k,none⟩=some (.int .u64 (x:Int))) 7 [(0,true),(1,true),(2,true),(3,true),(4,false),(5,true),(6,true),(7,false)] hS ?_;generalize wr.drew=V0 at hS f2 S1 ⊢;clear c1 f1
    iterate 4 refine aD rfl ?_
    refine aK rfl rfl (fun K hK=>?_);go_simp;refine(hcon V0).mono ?_;clear hcon;rintro e V1 ⟨rfl,hw1⟩;subst V1;refine hK _ _ (fun _=>hS) ?_;clear hK K;(try simp only[Act.put,gA,gS,gZ,sA,sZ,sS])
    iterate 2 refine aD rfl ?_
    refine aK rfl rfl (fun K hK=>?_);go_simp;refine hK _ _ (fun h=>absurd rfl h) ?_;clear hK K hS f2 hand;(try simp only[Act.put,gA,gS,gZ,sA,sZ,sS])
    refine aJ ?_;generalize V0.setCell ⟨w.heap.size,k,none⟩ (.int .u64 (z:Int))=V1 at S1 ⊢;go_wp2;go_roundw
    case rel=>exact⟨k+1,by omega,by go_num,S1⟩
    case measure=>simp[intOf];omega
   ·have hknI:¬((k:Int)<(n:Int)):=by omega
    have S1:=hIz (ST.out wr 0 (by rw[if_neg hkn]) bR);clear hx kA ST;go_wp2;go_roundw
    case rel=>exact⟨k+1,by omega,by go_num,S1⟩
    case measure=>simp[intOf];omega
  ·obtain rfl:k=64:=by omega
   have kA:=hI.out.1;rw[xJ (fun i=>if i<n then r.getD i 0 &&& (2 ^ n-1) else 0) (fun i=>r.getD i 0)] at kA;have hwd:=iM hr n;have hrg:=bP kA;have hsz:=bH hwd;have hth:wr.there (w.heap.size+1) 0 (wdC (cS r n)).toArray.size:=by have:=bU hI.out.2.1;simpa[bJ,bG,hwd.len] using this
   have hsz2:(Tryz.prog.info? 168).map (·.size)=some (wdC (cS r n)).toArray.size:=by simpa using hsz
   have h1c:(wdC (cS r n)).toArray.all (·.oneCell')=true:=all_oneCell_toArray (fK _);have FIN:=hIz (show Below w.heap.size w (wr.setCells (w.heap.size+1) 0 (wdC (cS r n)))∧(wr.setCells (w.heap.size+1) 0 (wdC (cS r n))).rangeAt (w.heap.size+1) 0 (wdC (cS r n)) from
    ⟨hI.out.2.2.trans ((Upd.setCells (F:=fun q=>q=w.heap.size+1) (.inl rfl) (wdC (cS r n)) 0 (Upd.refl _ wr)).below (fun q _ e=>by omega) hI.out.2.2.size),World.rangeAt_setCells_same _ _ _ _ (by simpa using hth)⟩)
   change wr.rangeAt w.heap.size 0 (wdC (cS r n)) at hrg
   clear kA hI;go_upto_region 10 with (fail);go_wp2_with (first | (refine wpList_load_mid rfl 168 _ rfl w.heap.size 0 rfl (wdC (cS r n)) (.array 64 166) hrg Tryz.underlying168 rfl hsz ?_) | (refine wpList_store_mid rfl 168 _ _ rfl (w.heap.size+1) 0 (wdC (cS r n)).toArray rfl rfl hth hsz2 h1c ?_) | fail);have hlv:=run_loadVar_mid (P:=Tryz.prog) _ (w.heap.size+1) 0 168 (wdC (cS r n)) (.array 64 166) FIN.out.2 Tryz.underlying168 rfl hsz;refine bodyPost_ret (v:=.tuple #[.agg (wdC (cS r n)).toArray,.int .i64 0]) (by simp[results,Tryz.f201,Act.put,asAddr,hlv,Result.andThen,Sem.run_bind]) rfl ⟨rfl,FIN.out.1⟩
end Go.Proofs.YtnokckdkaifibaaGreatDoor
