/- A range over a function whose iterator may itself range over another: which blocks a round turns is named. Nothing here names the program; The cells of a block, as an iterator; A new variable of many cells that is stored into at once; a value that is put together. Nothing here names the program; The cells of the blocks of one row: quad.cells, at one block. (Written by mkQeC.py.); All cells of a matrix, as an iterator; Blocks of bits: the diagonal, a square corner. (Written by mkAzA.py.); Blocks of bits: a square corner. (Written by mkAzB.py.); Blocks of bits: the product. (Written by mkAzC.py.); Matrices of bits: or of any block, Put. (Written by mkAzD.py.); Matrices of bits: Put. (Written by mkAzE.py.); Matrices of bits: Join; Graphs: an edge that comes. -/
import Derived.Test.YteffnejneoocgaaGreatDoorF06
import Derived.Shelf.Abstract
import Derived.Shelf.RegionOpen
import Derived.TacticsInMore
import Derived.LoopNIn
import Derived.LoopIn
import Derived.Laws.NewFold
import Derived.Deep.MidRow
import Derived.Test.YteffnejneoocgaaGreatDoorF01
import Derived.Test.YteffnejneoocgaaGreatDoorF04
import Derived.Deep.Cut
import Derived.Test.YteffnejneoocgaaGreatDoorF05
set_option linter.unusedVariables false
set_option linter.unusedSimpArgs false
set_option maxHeartbeats 16000000
set_option maxRecDepth 100000
namespace Go.Proofs.YteffnejneoocgaaGreatDoor
open Go.RowKit
def RgM(lb:Nat)(A:World):Prop:=∀v q,A.cell? ⟨lb,0,none⟩=some v→v.ownBlock=some q→q<A.heap.size
def TY(lb:Nat)(F:Nat→Prop)(A:World)(q:Nat):Prop:=F q∨∃v,A.cell? ⟨lb,0,none⟩=some v∧v.ownBlock=some q
def KpM(lb:Nat)(F:Nat→Prop)(A B:World):Prop:=
 RgM lb A→Upd (TY lb F A) A B∧∀v q,B.cell? ⟨lb,0,none⟩=some v→v.ownBlock=some q→q<B.heap.size∧(q<A.heap.size→∃u,A.cell? ⟨lb,0,none⟩=some u∧u.ownBlock=some q)
def Prv(lb:Nat)(F:Nat→Prop)(A:World)(q:Nat):Prop:=q<A.heap.size∧¬TY lb F A q
def zT{β:Type}(lb:Nat)(F:Nat→Prop)(B:Nat)(I:β→World→Prop):Prop:=
 ∀s A A' row,I s A→A.grownBy A' row→(∀k,row=some k→B≤k∧Prv lb F A k)→I s A'
theorem zT.put{β:Type}{lb:Nat}{F:Nat→Prop}{B:Nat}{I:β→World→Prop}(h:zT lb F B I){s:β}{W:World}{k:Nat}(o:Obj)(hs:I s W)(hB:B≤k)(hk:Prv lb F W k):I s (W.putObj k o):=
 h s W _ (some k) hs (grownBy_putObj' W k o) (fun r e=>by cases e;exact⟨hB,hk⟩)
theorem zT.alloc{β:Type}{lb:Nat}{F:Nat→Prop}{B:Nat}{I:β→World→Prop}(h:zT lb F B I){s:β}{W:World}(o:Obj)(hs:I s W):I s (W.alloc o):=
 h s W _ none hs (World.grownBy_alloc W o none) (fun r e=>by cases e)
theorem zT.below{β:Type}{lb:Nat}{F:Nat→Prop}{B:Nat}{I:β→World→Prop}(h:zT lb F B I){s:β}{W W':World}(hs:I s W)(hb:Below W.heap.size W W'):I s W':=
 h s W _ none hs ((upF hb).to_grown (fun _ _ e=>e.elim)) (fun r e=>by cases e)
section
variable {lb:Nat} {F F':Nat→Prop} {A B C:World} {q:Nat}
theorem KpM.rg(h:KpM lb F A B)(r:RgM lb A):RgM lb B:=fun v q h1 h2=>((h r).2 v q h1 h2).1
theorem KpM.size(h:KpM lb F A B)(r:RgM lb A):A.heap.size≤B.heap.size:=(h r).1.size
theorem KpM.trans(h:KpM lb F A B)(k:KpM lb F B C):KpM lb F A C:=by
 intro r;have rB:=h.rg r;obtain⟨u1,r1⟩:=h r;obtain⟨u2,r2⟩:=k rB;refine⟨u1.trans u2 ?_,?_⟩
 ·intro i hi;rcases Nat.lt_or_ge i A.heap.size with hlt|hge
  ·refine .inl ?_;rcases hi with hi|⟨v,hv,ho⟩
   ·exact .inl hi
   ·exact .inr ((r1 v i hv ho).2 hlt)
  ·exact .inr hge
 ·intro v q hv ho;obtain⟨a,b⟩:=r2 v q hv ho;refine⟨a,fun hlt=>?_⟩;obtain⟨u,hu,ho'⟩:=b (Nat.lt_of_lt_of_le hlt u1.size);exact(r1 u q hu ho').2 hlt
theorem KpM.mono(h:KpM lb F A B)(hF:∀q,F q→F' q):KpM lb F' A B:=fun r =>
 ⟨(h r).1.mono (fun i _ hi=>hi.imp (hF i) id),(h r).2⟩
theorem KpM.of_below(h:Below A.heap.size A B)(hl:lb<A.heap.size):KpM lb F A B:=by
 intro r;refine⟨Upd.of_below h _,fun v q hv ho=>?_⟩;have hc:B.cell? ⟨lb,0,none⟩=A.cell? ⟨lb,0,none⟩:=h.cell (p:=⟨lb,0,none⟩) hl;rw[hc] at hv;exact⟨Nat.lt_of_lt_of_le (r v q hv ho) h.size,fun _=>⟨v,hv,ho⟩⟩
theorem KpM.of_upd(h:Upd F A B)(hl:lb<A.heap.size)(hn:¬F lb):KpM lb F A B:=by
 intro r;refine⟨h.mono (fun i _ hi=>.inl hi),fun v q hv ho=>?_⟩;rw[h.cell (p:=⟨lb,0,none⟩) hl hn] at hv;exact⟨Nat.lt_of_lt_of_le (r v q hv ho) h.size,fun _=>⟨v,hv,ho⟩⟩
theorem KpM.put(l:Nat)(o:Obj)(hF:F l)(hl:lb<A.heap.size)(hn:lb≠l):KpM lb F A (A.putObj l o):=by
 have hu:=Upd.of_grown (grownBy_putObj' A l o);have:=KpM.of_upd (lb:=lb) hu hl (fun e=>hn (by injection e with e;exact e.symm));exact this.mono (fun q e=>by injection e with e;subst e;exact hF)
theorem KpM.prv(h:KpM lb F A B)(r:RgM lb A)(p:Prv lb F A q):B.heap[q]?=A.heap[q]?∧Prv lb F B q:=by
 obtain⟨u,hr⟩:=h r;refine⟨u.block q p.1 p.2,Nat.lt_of_lt_of_le p.1 u.size,?_⟩;rintro (hf|⟨v,hv,ho⟩)
 ·exact p.2 (.inl hf)
 ·exact p.2 (.inr ((hr v q hv ho).2 p.1))
theorem Prv.since(h:Below A.heap.size A B)(hl:lb<A.heap.size)(r:RgM lb A)(hF:∀q,F q→q<A.heap.size)(h1:A.heap.size≤q)(h2:q<B.heap.size):Prv lb F B q:=by
 refine⟨h2,?_⟩;rintro (hf|⟨v,hv,ho⟩)
 ·have:=hF q hf;omega
 ·rw[h.cell (p:=⟨lb,0,none⟩) hl] at hv;have:=r v q hv ho;omega
theorem Prv.own{row:Option Nat}(p:Prv lb F A q)(hg:A.grownBy B row)(hl:lb<A.heap.size)(hn:row≠some lb):Prv lb F B q:=by
 refine⟨Nat.lt_of_lt_of_le p.1 hg.size,?_⟩;rintro (hf|⟨v,hv,ho⟩)
 ·exact p.2 (.inl hf)
 ·rw[World.cell?_of_block (w:=A) (a:=⟨lb,0,none⟩) (hg.block lb hl (fun e=>hn e.symm))] at hv;exact p.2 (.inr ⟨v,hv,ho⟩)
theorem Prv.mono(p:Prv lb F A q)(hF:F' q→F q):Prv lb F' A q:=⟨p.1,fun h=>p.2 (h.imp hF id)⟩
theorem RgM.of_none{v:Value}(h:A.cell? ⟨lb,0,none⟩=some v)(hv:v.ownBlock=none):RgM lb A:=fun u q hu ho=>by
 rw[h] at hu;injection hu with hu;rw[← hu,hv] at ho;cases ho
end
def TK{α:Type}(lb:Nat)(F:Nat→Prop)(I:List α→World→Prop)(Ix:Code→List α→World→Prop)(xs:List α)(W:World):Exit→Act→World→Prop
 | .normal,_,W'=>KpM lb F W W'∧I xs W'
 | .ret,_,W'=>KpM lb F W W'∧Ix .ret xs W'
 | .exit id,_,W'=>KpM lb F W W'∧Ix (.exit id) xs W'
 | .goto t,_,W'=>KpM lb F W W'∧Ix (.goto t) xs W'
 | .panic _,_,_=>False
 | .outgrown,_,_=>False

def TZ{α:Type}(P:Program)(gf:Nat)(cap:Array Value)(encs:α→Array Value)(Own:Nat→Prop)(S Sp:List α→Prop)(N:Nat)(w:World):Prop:=
 ∀(l lb:Nat) (F:Nat→Prop) (J Jx:List α→World→Prop) (W:World),Below w.heap.size w W→zT lb F W.heap.size J→zT lb F W.heap.size Jx →
  lb<W.heap.size→RgM lb W→(∀q,F q→q<W.heap.size∧¬Own q)→(∀v q,W.cell? ⟨lb,0,none⟩=some v→v.ownBlock=some q→¬Own q) →
  (∀pre x W1,J pre W1→pre.length<N→YieldAt Fence.wide 0 P l (encs x) W1 fun e W'=>KpM lb F W1 W'∧((e=.returned (.bool true)∧J (pre++[x]) W')∨(e=.returned (.bool false)∧Jx (pre++[x]) W'))) →
  J [] W→Calls P gf (#[.func (.yield l) #[] #[]]++cap) W fun e W'=>(∃v,e=.returned v)∧((∃xs,S xs∧J xs W')∨(∃pre,Sp pre∧Jx pre W'))

def LpM(lb:Nat)(F:Nat→Prop)(n₀:Nat)(r:Loop)(W:World):Prop:=
 RgM lb W∧Prv lb F W (n₀+1)∧Prv lb F W n₀∧W.heap[n₀+1]?=some (.loop r)∧W.heap[n₀]?=some (.deferred (some []))∧lb<n₀
section
variable {lb n₀:Nat} {F:Nat→Prop} {r r':Loop} {W W':World}
theorem LpM.own{row:Option Nat}(h:LpM lb F n₀ r W)(hg:W.grownBy W' row)(hr:∀k,row=some k→n₀+2≤k):LpM lb F n₀ r W':=by
 obtain⟨h1,h2,h3,h4,h5,h6⟩:=h;have hc:W'.cell? ⟨lb,0,none⟩=W.cell? ⟨lb,0,none⟩:=World.cell?_of_block (w:=W) (a:=⟨lb,0,none⟩) (hg.block lb (by have:=h3.1;show lb<_;omega) (fun e=>by have:=hr lb e.symm;omega));have hp:∀q,Prv lb F W q→Prv lb F W' q:=fun q p=>⟨Nat.lt_of_lt_of_le p.1 hg.size,by
  rintro (hf|⟨v,hv,ho⟩)
  ·exact p.2 (.inl hf)
  ·rw[hc] at hv;exact p.2 (.inr ⟨v,hv,ho⟩)⟩
 refine⟨fun v q hv ho=>?_,hp _ h2,hp _ h3,(hg.block _ h2.1 (fun e=>by have:=hr _ e.symm;omega)).trans h4,(hg.block _ h3.1 (fun e=>by have:=hr _ e.symm;omega)).trans h5,h6⟩;rw[hc] at hv;exact Nat.lt_of_lt_of_le (h1 v q hv ho) hg.size
theorem LpM.kp(h:LpM lb F n₀ r W)(k:KpM lb F W W'):LpM lb F n₀ r W':=by
 obtain⟨h1,h2,h3,h4,h5,h6⟩:=h;exact⟨k.rg h1,(k.prv h1 h2).2,(k.prv h1 h3).2,(k.prv h1 h2).1.trans h4,(k.prv h1 h3).1.trans h5,h6⟩
theorem LpM.put(h:LpM lb F n₀ r W):LpM lb F n₀ r' (W.putObj (n₀+1) (.loop r')):=by
 obtain⟨h1,h2,h3,h4,h5,h6⟩:=h;have hc:(W.putObj (n₀+1) (.loop r')).cell? ⟨lb,0,none⟩=W.cell? ⟨lb,0,none⟩:=World.cell?_of_block (w:=W) (a:=⟨lb,0,none⟩) (World.putObj_heap_other (show lb≠n₀+1 by omega));have hp:∀q,Prv lb F W q→Prv lb F (W.putObj (n₀+1) (.loop r')) q:=fun q p=>⟨by rw[World.putObj_size];exact p.1,by
  rintro (hf|⟨v,hv,ho⟩)
  ·exact p.2 (.inl hf)
  ·rw[hc] at hv;exact p.2 (.inr ⟨v,hv,ho⟩)⟩
 refine⟨fun v q hv ho=>?_,hp _ h2,hp _ h3,World.putObj_heap_same h2.1,(World.putObj_heap_other (by omega)).trans h5,h6⟩;rw[hc] at hv;rw[World.putObj_size];exact h1 v q hv ho
end
theorem yF{P:Program}{fn:Func}{tmps:Array Value}{R:Ending→World→Prop}{F:Fence}{n:Nat}(Pd:Nat→Prop)(E:World→Prop)(hE:∀w1 D,Pd D→E w1→E (w1.putObj D (.deferred none)))
  (hfin:∀w1,E w1→∃v,(results fn tmps).run P w1=.ok v w1∧R (.returned v) w1):∀(Ds:List Nat) (w:World),Ds.Nodup→(∀D∈Ds,Pd D∧w.heap[D]?=some (.deferred (some [])))→E w→LeavesInM F n P fn tmps R (Ds.map (fun D=>{ target:=.collected D,args:=#[] })) .returning w
 | [],w,_,_,h=>hfin w h
 | D::Ds,w,hn,hd,h=>by
  obtain⟨h1,h2⟩:=hd D (by simp);rw[List.nodup_cons] at hn;refine⟨by simp,.inl ⟨D,_,rfl,run_takeDeferred h2,?_⟩⟩;refine yF Pd E hE hfin Ds _ hn.2 (fun D' hD'=>?_) (hE w D h1 h);obtain⟨h3,h4⟩:=hd D' (by simp[hD']);exact⟨h3,((grownBy_putObj' w D (.deferred none)).block D' (Array.getElem?_eq_some_iff.1 h4).1 (fun e=>by injection e with e;exact hn.1 (e ▸ hD'))).trans h4⟩

theorem zU{P:Program}{fn:Func}{tmps:Array Value}{R:Ending→World→Prop}{n lb B:Nat}{F:Nat→Prop}{G:Fence}(E:World→Prop)(hE:zT lb F B (fun (_:Unit) w=>E w))(hlb:lb<B)
  (hfin:∀w1,E w1→∃v,(results fn tmps).run P w1=.ok v w1∧R (.returned v) w1) (Ds:List Nat) (w:World) (hn:Ds.Nodup) (hd:∀D∈Ds,B≤D∧Prv lb F w D∧w.heap[D]?=some (.deferred (some []))) (hw:lb<w.heap.size) (h:E w) :
  LeavesInM G n P fn tmps R (Ds.map (fun D=>{ target:=.collected D,args:=#[] })) .returning w:=by
 refine yF (fun D=>D∈Ds∧B≤D) (fun w1=>E w1∧lb<w1.heap.size∧∀D∈Ds,Prv lb F w1 D) ?_ (fun w1 h1=>hfin w1 h1.1) Ds w hn (fun D hD=>⟨⟨hD,(hd D hD).1⟩,(hd D hD).2.2⟩) ⟨h,hw,fun D hD=>(hd D hD).2.1⟩;rintro w1 D ⟨hD,hB⟩ ⟨h1,h2,h3⟩;exact⟨hE.put (s:=()) _ h1 hB (h3 D hD),by rw[World.putObj_size];exact h2,fun D' hD'=>(h3 D' hD').own (grownBy_putObj' w1 D (.deferred none)) h2 (fun e=>by injection e with e;omega)⟩

theorem DS{α:Type}{P:Program}{g:Operand}{ps:Array Tmp}{assign body:Code}{Q:Exit→Act→World→Prop}{a:Act}{w:World}
  {gf:Nat} {cap:Array Value} (hg:a.eval g=.func (.func gf) #[] cap) (eg:∀args w,(callFunc gf args).run P w=.ok (.enter gf args) w)
  {encs:α→Array Value} {Own:Nat→Prop} {S Sp:List α→Prop} {N:Nat} {w0:World} (hseq:TZ P gf cap encs Own S Sp N w0) (hb0:Below w0.heap.size w0 w) (hOwn:∀q,Own q→q<w0.heap.size) (hps:∀x,(encs x).size=ps.size)
  (lb:Nat) (F:Nat→Prop) (hlb:lb<w.heap.size) (hr:RgM lb w) (hF:∀q,F q→q<w.heap.size∧¬Own q) (hrow:∀v q,w.cell? ⟨lb,0,none⟩=some v→v.ownBlock=some q→¬Own q)
  (I:List α→World→Prop) (Ix:Code→List α→World→Prop) (hI:zT lb F w.heap.size I) (hIx:∀c,zT lb F w.heap.size (Ix c)) (h0:I [] w)
  (upd:Array Value→α→Nat→Array Value) (Bx:α→Nat→World→Prop) (hBx:∀x b,OwnFrom w.heap.size (fun (_:Unit) W=>Bx x b W))
  (hassign:∀(l:Nat) (pre:List α) (x:α) (W:World) (K:Act→World→Prop),RgM lb W→w.heap.size≤W.heap.size→I pre W→(∀b W',KpM lb F W W'→I pre W'→Bx x b W'→K { tmps:=upd a.tmps x b,defers:=[] } W') →
   assign.wpIn (Fence.wide.inRound l) 0 P (Exit.then K (fun _ _ _=>False)) { tmps:=(ps.zip (encs x)).foldl (fun t (p,v)=>t.setIfInBounds p v) a.tmps,defers:=[] } W)
  (hbody:∀(l:Nat) (pre:List α) (x:α) (b:Nat) (W:World),RgM lb W→w.heap.size≤W.heap.size→I pre W→Bx x b W→pre.length<N →
   body.wpIn (Fence.wide.inRound l) 0 P (TK lb F I Ix (pre++[x]) W) { tmps:=upd a.tmps x b,defers:=[] } W)
  (hdone:∀(xs:List α) (W:World),S xs→I xs W→RgM lb W→Prv lb F W w.heap.size→W.heap[w.heap.size]?=some (.deferred (some []))→Q .normal { a with defers:={ target:=.collected w.heap.size,args:=#[] }::a.defers } W)
  (hstop:∀(c:Code) (pre:List α) (W:World),Sp pre→Ix c pre W→RgM lb W→Prv lb F W w.heap.size→W.heap[w.heap.size]?=some (.deferred (some []))→c.wp P Q { a with defers:={ target:=.collected w.heap.size,args:=#[] }::a.defers } W) :
  (Code.rangeFunc g ps assign body).wp P Q a w:=by
 refine(wpIn_wide (n:=0)).1 (wpIn_rangeFunc ?_);intro fn _;let rec':LoopState→Option Code→Loop:=fun st pe=>{ state:=st,pending:=pe,fn,tmps:=a.tmps,params:=ps,assign,body,defers:=w.heap.size }
 obtain⟨R,hR⟩:∃R,R=rec':=⟨_,rfl⟩;obtain⟨W1,hW1⟩:∃W1,(w.alloc (.deferred (some []))).alloc (.loop (R .ready none))=W1:=⟨_,rfl⟩;have hbw:Below w.heap.size w W1:=by rw[← hW1];exact((Below.refl _ w).alloc (Nat.le_refl _) _).alloc (by simp) _
 have hz1:W1.heap.size=w.heap.size+2:=by rw[← hW1];simp
 have hL1:LpM lb F w.heap.size (R .ready none) W1:=by
  refine⟨(KpM.of_below (F:=F) hbw hlb).rg hr,Prv.since hbw hlb hr (fun q h=>(hF q h).1) (by omega) (by omega),Prv.since hbw hlb hr (fun q h=>(hF q h).1) (by omega) (by omega),?_,?_,hlb⟩
  ·rw[← hW1];have:=World.alloc_heap_new (w.alloc (.deferred (some []))) (.loop (R .ready none));rwa [World.size_alloc] at this
  ·rw[← hW1];exact(Below.heap_alloc _ _ _ (by simp)).trans (World.alloc_heap_new w _)
 have hI1:I [] W1:=by rw[← hW1];exact hI.alloc _ (hI.alloc _ h0)
 have hc1:W1.cell? ⟨lb,0,none⟩=w.cell? ⟨lb,0,none⟩:=hbw.cell (p:=⟨lb,0,none⟩) hlb;refine⟨w.heap.size+1,[{ target:=.collected w.heap.size,args:=#[] }],W1,{ target:=.fn (.func gf) cap,args:=#[.func (.yield (w.heap.size+1)) #[] #[]] },W1,gf,
  #[.func (.yield (w.heap.size+1)) #[] #[]]++cap,W1,?_,?_,fun _ _=>trivial,?_,fun h=>by simp[Fence.wide] at h,?_⟩
 ·rw[← hW1,hR];exact run_enterLoop_outer _ _ _ _ _
 ·simp only[resolve,hg]
  simp[go_sem]
 ·simp[invoke,go_sem,eg]
 refine callsIn_wide.2 ((hseq (w.heap.size+1) lb (fun q=>F q∨q=w.heap.size+1)
  (fun pre W=>(I pre W∧w.heap.size≤W.heap.size)∧LpM lb F w.heap.size (R .ready none) W)
  (fun pre W=>∃c,(Ix c pre W∧w.heap.size≤W.heap.size)∧LpM lb F w.heap.size (R .done (some c)) W) W1 (tHn hb0 hbw)
  ?_ ?_ (by omega) hL1.1 ?_ ?_ ?_ ⟨⟨hI1,by omega⟩,hL1⟩).mono ?_)
 ·rintro s A B row ⟨⟨h1,h2⟩,h3⟩ hg hrr;exact⟨⟨hI s A B row h1 hg (fun k hk=>⟨by have:=(hrr k hk).1;omega,(hrr k hk).2.mono .inl⟩),Nat.le_trans h2 hg.size⟩,h3.own hg (fun k hk=>by have:=(hrr k hk).1;omega)⟩
 ·rintro s A B row ⟨c,⟨h1,h2⟩,h3⟩ hg hrr;exact⟨c,⟨hIx c s A B row h1 hg (fun k hk=>⟨by have:=(hrr k hk).1;omega,(hrr k hk).2.mono .inl⟩),Nat.le_trans h2 hg.size⟩,h3.own hg (fun k hk=>by have:=(hrr k hk).1;omega)⟩
 ·rintro q (hq|rfl)
  ·exact⟨by have:=(hF q hq).1;omega,(hF q hq).2⟩
  ·exact⟨by omega,fun ho=>by have h1:=hOwn _ ho;have:=hb0.size;omega⟩
 ·intro v q hv ho;rw[hc1] at hv;exact hrow v q hv ho
 ·-- one round
  rintro pre x W ⟨⟨hi,hsz⟩,hl⟩ hlen;have hy:=run_yield (P:=P) (args:=encs x) hl.2.2.2.1 (by rw[hR];exact hps x);rw[hR] at hy;refine⟨fn,_,assign,body,hy,roundIn_of_wpIn trivial (hassign _ pre x W _ hl.1 hsz hi ?_)⟩;clear hy;intro b Wa hka hia hbx;have hla:=hl.kp hka;have hsa:=Nat.le_trans hsz (hka.size hl.1);refine⟨_,run_beginRound hla.2.2.2.1 (by rw[hR]),?_⟩;have hlb1:LpM lb F w.heap.size { R .ready none with state:=.busy } (Wa.putObj (w.heap.size+1) (.loop { R .ready none with state:=.busy })):=hla.put;have hib:=hI.put (.loop { R .ready none with state:=.busy }) hia (Nat.le_succ w.heap.size) hla.2.1;have hbb:=(hBx x b).putObj (s:=()) (.loop { R .ready none with state:=.busy }) hbx (Nat.le_succ w.heap.size) hla.2.2.2.1 rfl;have hkb:KpM lb (fun q=>F q∨q=w.heap.size+1) W (Wa.putObj (w.heap.size+1) (.loop { R .ready none with state:=.busy })):=
   (hka.mono (fun _ h=>.inl h)).trans (KpM.put _ _ (.inr rfl) (by omega) (by omega))
  have hsb:w.heap.size≤(Wa.putObj (w.heap.size+1) (.loop { R .ready none with state:=.busy })).heap.size:=by rw[World.putObj_size];exact hsa
  revert hlb1 hib hbb hkb hsb
  generalize Wa.putObj (w.heap.size+1) (.loop { R .ready none with state:=.busy })=Wb;intro hlb1 hib hbb hkb hsb;refine wpIn_mono (hbody _ pre x b Wb hlb1.1 hsb hib hbb hlen) ?_;have fin:∀(jump:Option Code) (W3:World),KpM lb F Wb W3→∃W4,(Instr.endRound (w.heap.size+1) jump).run P W3=.ok (.bool jump.isNone) W4 ∧
    LpM lb F w.heap.size (R (if jump.isNone then .ready else .done) jump) W4∧KpM lb (fun q=>F q∨q=w.heap.size+1) W W4∧w.heap.size≤W4.heap.size∧(∀c,Ix c (pre++[x]) W3→Ix c (pre++[x]) W4)∧(I (pre++[x]) W3→I (pre++[x]) W4):=by
   intro jump W3 hk3;have hl3:=hlb1.kp hk3;have h3:=run_endRound (P:=P) jump hl3.2.2.2.1;have hs3:=Nat.le_trans hsb (hk3.size hlb1.1);refine⟨_,h3,?_,?_,by rw[World.putObj_size];exact hs3,fun c hc=>(hIx c).put _ hc (Nat.le_succ _) hl3.2.1,fun hc=>hI.put _ hc (Nat.le_succ _) hl3.2.1⟩
   ·have:=hl3.put (r':={ R .ready none with state:=(if jump.isNone then .ready else .done),pending:=jump });rw[hR] at this ⊢;exact this
   ·exact hkb.trans ((hk3.mono (fun _ h=>.inl h)).trans (KpM.put _ _ (.inr rfl) (by omega) (by omega)))
  rintro e a3 W3 hp;cases e with
  | normal =>
   obtain⟨W4,h1,h2,h3,h4,_,h6⟩:=fin none W3 hp.1;exact⟨_,_,h1,h3,.inl ⟨rfl,⟨h6 hp.2,h4⟩,h2⟩⟩
  | ret =>
   obtain⟨W4,h1,h2,h3,h4,h5,_⟩:=fin (some .ret) W3 hp.1;exact⟨_,_,h1,h3,.inr ⟨rfl,.ret,⟨h5 _ hp.2,h4⟩,h2⟩⟩
  | exit id =>
   obtain⟨W4,h1,h2,h3,h4,h5,_⟩:=fin (some (.exit id)) W3 hp.1;exact⟨_,_,h1,h3,.inr ⟨rfl,.exit id,⟨h5 _ hp.2,h4⟩,h2⟩⟩
  | goto t =>
   obtain⟨W4,h1,h2,h3,h4,h5,_⟩:=fin (some (.goto t)) W3 hp.1;exact⟨_,_,h1,h3,.inr ⟨rfl,.goto t,⟨h5 _ hp.2,h4⟩,h2⟩⟩
  | panic ch=>exact hp.elim
  | outgrown=>exact hp.elim
 ·-- behind the iterator
  rintro e W2 ⟨⟨v,rfl⟩,(⟨xs,hS,⟨hi,hs⟩,hl⟩|⟨pre,hSp,c,⟨hi,hs⟩,hl⟩)⟩
  ·have h3:=run_endLoop (P:=P) hl.2.2.2.1 (by rw[hR];simp);have hl4:=hl.put (r':={ R .ready none with state:=.exhausted });rw[hR] at h3;rw[hR] at hl4;exact⟨none,_,h3,hdone xs _ hS (hI.put _ hi (Nat.le_succ _) hl.2.1) hl4.1 hl4.2.2.1 hl4.2.2.2.2.1⟩
  ·have h3:=run_endLoop (P:=P) hl.2.2.2.1 (by rw[hR];simp);have hl4:=hl.put (r':={ R .done (some c) with state:=.exhausted });rw[hR] at h3;rw[hR] at hl4;exact⟨some c,_,h3,wpIn_wide.2 (hstop c pre _ hSp ((hIx c).put _ hi (Nat.le_succ _) hl.2.1) hl4.1 hl4.2.2.1 hl4.2.2.2.2.1)⟩
open Go.RowKit Go.Shelf
attribute [local go_sem] Oper.semAt_some
section
variable {F:Fence} {nF:Nat} {P:Program} {ops:Array Oper} {rest:List Oper} {op:Oper} {a:Act} {w:World} {Q:Exit→Act→World→Prop}
theorem eU(hgd:op.guard=none)(ty:TypeId)(x:Operand)(ho:op.op=.load ty x)(b o:Nat)(hx:a.eval x=.pointer (some ⟨b,o,none⟩))(cs:List Value)(d:TypeDesc)(hc:w.rangeAt b o cs)
  (hu:P.underlying ty=some d) (hd:d.isRow=true) (hi:(P.info? ty).map (·.size)=some cs.length) (h:wpListIn F nF P ops Q rest (a.put op.dst (.agg cs.toArray)) w):wpListIn F nF P ops Q (op::rest) a w:=by
 refine wpListIn_plain hgd fun K hK=>?_
 unfold Oper.wpIn;refine⟨by simp[Oper.about,ho],?_⟩;rw[Oper.semAt_plain F _ _ (by rw[ho];intro c hc';cases hc')];simp only[execOp,ho,hx,run_loadAt_mid w b o ty cs d hc hu hd hi,Sem.run_bind,Result.andThen_ok]
 exact hK _ _ h
end
theorem oG{y:Nat}(h:y≠0):y &&& (y-1)<y:=Nat.lt_of_le_of_lt Nat.and_le_right (by omega)
theorem qF.lt{w:World}(h:qF w):1<w.heap.size:=World.block_lt_of_cell? w _ (h 0 (by decide))
open Go.RowKit
theorem wH(w:World)(cur:Array Value)(t:TypeId)(o:Nat)(v:Value):(w.alloc (.cells cur t)).setCell ⟨w.heap.size,o,none⟩ v=w.alloc (.cells (cur.setIfInBounds o v) t):=by
 unfold World.setCell World.alloc;simp only
 congr 1
 apply Array.ext_getElem?
 intro k;rw[Array.getElem?_modify,Array.getElem?_push,Array.getElem?_push];by_cases h:k=w.heap.size
 ·subst h;simp
 ·rw[if_neg (fun e=>h e.symm),if_neg h,if_neg h]
theorem mK(w:World)(t:TypeId):∀(vs:List Value) (o:Nat) (cur:Array Value),o+vs.length≤cur.size →
  ∃cur':Array Value,(w.alloc (.cells cur t)).setCells w.heap.size o vs=w.alloc (.cells cur' t)∧cur'.toList=cur.toList.take o++vs++cur.toList.drop (o+vs.length)
 | [],o,cur,_=>⟨cur,rfl,by simp⟩
 | v::r,o,cur,hl=>by
  simp only[List.length_cons] at hl
  obtain⟨c',e1,e3⟩:=mK w t r (o+1) (cur.setIfInBounds o v) (by simp;omega);refine⟨c',?_,?_⟩
  ·show((w.alloc (.cells cur t)).setCell ⟨w.heap.size,o,none⟩ v).setCells w.heap.size (o+1) r=_
   rw[wH,e1]
  rw[e3,Array.toList_setIfInBounds,List.drop_set_of_lt (by omega),List.take_set];have h1:(cur.toList.take (o+1)).set o v=cur.toList.take o++[v]:=by
   rw[List.take_add_one,gEz (by simp;omega)];rw[List.set_append_right _ _ (by simp;omega)];have:o-(cur.toList.take o).length=0:=by simp;omega
   rw[this];rfl
  rw[h1];simp[Nat.add_assoc,Nat.add_comm 1]
theorem mL(w:World)(t:TypeId)(vs:List Value)(cur:Array Value)(h:vs.length=cur.size):(w.alloc (.cells cur t)).setCells w.heap.size 0 vs=w.alloc (.cells vs.toArray t):=by
 obtain⟨c',e1,e2⟩:=mK w t vs 0 cur (by omega);rw[e1];congr 2
 have:c'.toList=vs:=by rw[e2];simp;omega
 rw[← this]
section
variable {P:Program} {ops:Array Oper} {rest:List Oper} {a:Act} {w:World} {Q:Exit→Act→World→Prop}
theorem cR{op1 op2:Oper}(g1:op1.guard=none)(g2:op2.guard=none)(ty:TypeId)(x y:Operand)(o1:op1.op=.alloc ty)(o2:op2.op=.store ty x y)(cells:List Value)
  (hz:∃Z:Array Value,Z.size=cells.length∧∀w,(zeroValue ty).run P w=.ok (.agg Z) w)
  (hx:(a.put op1.dst (.pointer (some ⟨w.heap.size,0,none⟩))).eval x=.pointer (some ⟨w.heap.size,0,none⟩)) (hy:(a.put op1.dst (.pointer (some ⟨w.heap.size,0,none⟩))).eval y=.agg cells.toArray)
  (hi:(P.info? ty).map (·.size)=some cells.length) (h1:∀u∈cells,u.oneCell'=true)
  (h:wpList P ops Q rest ((a.put op1.dst (.pointer (some ⟨w.heap.size,0,none⟩))).put op2.dst undef) (w.alloc (.cells cells.toArray ty))):wpList P ops Q (op1::op2::rest) a w:=by
 obtain⟨Z,hs,hz⟩:=hz;refine wpList_plain g1 fun K hK=>?_
 unfold Oper.wp execOp;have hr:(Instr.alloc ty true (.tuple #[])).run P w=.ok (.pointer (some ⟨w.heap.size,0,none⟩)) (w.alloc (.cells Z ty)):=by
  unfold Instr.alloc newVar newRow;simp only[Sem.run_bind,hz,Result.andThen_ok,Value.cells,run_newObj_alloc,Sem.run_pure]
 simp only[o1,Sem.run_bind,hr,Result.andThen_ok,Sem.run_pure]
 refine hK _ _ ?_;have hb:=Blk.new w ty Z;refine wpList_store_mid g2 ty x y o2 w.heap.size 0 cells.toArray hx hy (fun j hj=>⟨by rw[Nat.zero_add,hb.cell j,Array.getElem?_eq_getElem (by simpa[hs] using hj)];rfl,hb.frozen _⟩) (by simpa using hi) (all_oneCell_toArray h1) ?_;rw[List.toList_toArray,mL w ty cells Z hs.symm];exact h
end
open Go.RowKit Go.Shelf
attribute [local go_sem] Oper.semAt_some
theorem eV:∃Z:Array Value,Z.size=66∧∀w,(zeroValue 240).run Tryz.prog w=.ok (.agg Z) w:=
 ⟨(List.replicate 2 (Value.int .i64 0)++List.replicate 64 (Value.int .u64 0)).toArray,by decide,fun w=>by kernel_rfl⟩
theorem wI{r:List Nat}(hr:Wd r):(Tryz.prog.info? 240).map (·.size)=some (plC r).length:=by rw[kM hr];kernel_rfl
open Go.RowKit Go.Shelf
def DT(w:World)(base:Nat)(A:Option Addr)(n c:Nat):Option (List Nat)→Prop
 | none=>n=0
 | some r=>n=1∧w.ownsRow 0 240 66 (.slice A 1 c) 1 (plC r)∧∀k,(Value.slice A 1 c).ownBlock=some k→base≤k
theorem DT.own{w:World}{base n c:Nat}{A:Option Addr}{b:Option (List Nat)}(h:DT w base A n c b)(hs:b.isSome=true){k:Nat}(ho:(Value.slice A n c).ownBlock=some k):base≤k∧k<w.heap.size:=by
 cases b with
 | none=>cases hs
 | some r =>
  obtain⟨rfl,h1,h2⟩:=h;exact⟨h2 k ho,(h1.lt k ho).2⟩
open Go.RowKit
def wf(f:Nat→Nat):List Nat:=(List.range 64).map f
theorem RL(f:Nat→Nat):(wf f).length=64:=by simp[wf]
theorem pN(f:Nat→Nat){k:Nat}(h:k<64):(wf f)[k]?=some (f k):=by simp[wf,h]
theorem iL{f g:Nat→Nat}(h:∀i,i<64→f i=g i):wf f=wf g:=List.map_congr_left (fun i hi=>h i (List.mem_range.1 hi))
theorem MS(f:Nat→Nat){k:Nat}(_h:k<64)(v:Nat):(wf f).set k v=wf (fun i=>if i=k then v else f i):=by
 apply List.ext_getElem?
 intro i;by_cases hi:i<64
 ·rw[pN _ hi,List.getElem?_set];by_cases e:k=i
  ·subst e;simp[wf,hi]
  ·rw[if_neg e,pN f hi,if_neg (fun h=>e h.symm)]
 ·rw[List.getElem?_eq_none (by simp[wf];omega),List.getElem?_eq_none (by simp[wf];omega)]
theorem OI{f:Nat→Nat}(h:∀i,i<64→f i<18446744073709551616):Wd (wf f):=⟨RL f,fun x hx=>by
 obtain⟨i,hi,rfl⟩:=List.mem_map.1 hx;exact h i (List.mem_range.1 hi)⟩
theorem RM{r:List Nat}(h:Wd r):r=wf (fun i=>r.getD i 0):=by
 apply List.ext_getElem?
 intro i;by_cases hi:i<64
 ·rw[pN _ hi,gEz (by rw[h.len];exact hi)];simp[h.len,hi]
 ·rw[List.getElem?_eq_none (by rw[h.len];omega),List.getElem?_eq_none (by simp[wf];omega)]
theorem wJ:aV=wf (fun _=>0):=by decide +kernel
theorem DU{f g:Nat→Nat}{k:Nat}(h:k<64):(wf (fun i=>if i<k then f i else g i)).set k (f k)=wf (fun i=>if i<k+1 then f i else g i):=by
 rw[MS _ h];apply iL
 intro i _;by_cases e:i=k
 ·subst e;rw[if_pos rfl,if_pos (by omega)]
 ·rw[if_neg e];by_cases e2:i<k
  ·rw[if_pos e2,if_pos (by omega)]
  ·rw[if_neg e2,if_neg (by omega)]
theorem wK(f g:Nat→Nat):wf (fun i=>if i<64 then f i else g i)=wf f:=iL (fun i hi=>if_pos hi)
theorem wL(f g:Nat→Nat):wf (fun i=>if i<0 then f i else g i)=wf g:=iL (fun i _=>if_neg (by omega))
theorem cF{w:World}{b:Nat}{t:TypeId}{cs:Array Value}(h:Blk w b t cs):w.there b 0 cs.size:=fun j hj=>⟨by rw[Nat.zero_add,h.cell j,Array.getElem?_eq_getElem hj];rfl,h.frozen _⟩

def kQ:List Nat:=wf (fun i=>2 ^ i)
theorem jJ:Wd kQ:=OI (fun _ hi=>oC hi)
theorem DV{j:Nat}(hj:j<64):IntKind.u64.wrap ((2:Int) ^ j)=((2 ^ j:Nat):Int):=by
 have h:=oC hj;rw[← OA];generalize 2 ^ j=q at h ⊢;rw[IntKind.wrap_u64];omega

theorem JS(w:World):Calls Tryz.prog 149 #[] w (Sam w (wdV kQ)):=by
 have k0:=(Blk.new w 164 Z64).alloc (.cells Z64 164);have k1:=Blk.new (w.alloc (.cells Z64 164)) 164 Z64;simp only[World.size_alloc] at k1
 have u0:Below w.heap.size w ((w.alloc (.cells Z64 164)).alloc (.cells Z64 164)):=by(repeat (first | exact Below.refl _ _ | apply Below.drew | refine Below.alloc ?_ (by first | exact Nat.le_refl _ | (simp;done) | (simp;omega)) _ | refine Below.setCell ?_ (by first | exact Nat.le_refl _ | (simp;done) | (simp;omega)) _))
 have H:=aI3 (aY.mp k0) (aY.mp k1) u0;clear k0 k1 u0;go_enter Tryz.func149,Tryz.ntmps149;go_upto_region 2 with (fail);generalize (w.alloc (.cells Z64 164)).alloc (.cells Z64 164)=W0 at H ⊢;go_wp2_with fail;go_loopw [3] (fun i wr=>∃k:Nat,k≤64∧i=.int .i64 k∧Hid (Blk wr w.heap.size 164 (wdC aV).toArray∧Blk wr (w.heap.size+1) 164 (wdC (wf (fun i=>if i<k then 2 ^ i else 0))).toArray∧Below w.heap.size w wr)) (fun i _=>64-(intOf i).toNat)
 case atStart=>exact⟨0,Nat.zero_le _,rfl,hIz ⟨H.out.1,by rw[wL (fun i=>2 ^ i) (fun _=>0),← wJ];exact H.out.2.1,H.out.2.2⟩⟩
 case round =>
  obtain⟨k,hk,rfl,hI⟩:=hrel;by_cases hlt:k<64
  ·have hltI:(k:Int)<(64:Int):=by omega
   have hkw:IntKind.i64.wrap ((k:Int)+1)=(k:Int)+1:=IntWalk.i64_in _ (by omega);have hk0:¬((k:Int)<0):=by omega
   have hsh:=DV hlt;have kB:=hI.out.2.1;have c1:wr.cell? ⟨w.heap.size+1,k,none⟩=some (.int .u64 0):=(kB.cell k).trans (by have:=gH (pN (fun i=>if i<k then 2 ^ i else 0) hlt);simpa using this);have f1:=kB.frozen k;have us:=(Upd.refl (fun q=>q=w.heap.size+1) wr).setCell (p:=⟨w.heap.size+1,k,none⟩) (.inl rfl) (.int .u64 ((2 ^ k:Nat):Int));have HN:=hIz (show Blk (wr.setCell ⟨w.heap.size+1,k,none⟩ (.int .u64 ((2 ^ k:Nat):Int))) w.heap.size 164 (wdC aV).toArray∧Blk (wr.setCell ⟨w.heap.size+1,k,none⟩ (.int .u64 ((2 ^ k:Nat):Int))) (w.heap.size+1) 164 (wdC (wf (fun i=>if i<k+1 then 2 ^ i else 0))).toArray∧Below w.heap.size w (wr.setCell ⟨w.heap.size+1,k,none⟩ (.int .u64 ((2 ^ k:Nat):Int))) from by
    refine⟨hI.out.1.upd us (by omega),?_,hI.out.2.2.trans (us.below (fun q _ e=>by omega) hI.out.2.2.size)⟩;have:=kB.set k (.int .u64 ((2 ^ k:Nat):Int));rw[lS,DU (f:=fun i=>2 ^ i) hlt] at this;exact this)
   clear kB us;obtain⟨q,hq⟩:∃q:Nat,2 ^ k=q:=⟨_,rfl⟩;rw[hq] at hsh HN;clear hq;go_wp2;go_roundw
   case rel=>exact⟨k+1,by omega,by go_num,HN⟩
   case measure=>simp[intOf];omega
  ·obtain rfl:k=64:=by omega
   have kA:=hI.out.2.1;rw[wK (fun i=>2 ^ i) (fun _=>0)] at kA;have hrg:=bS kA;have hsz:=bO jJ;have hth:wr.there w.heap.size 0 (wdC kQ).toArray.size:=by have:=cF hI.out.1;simpa[bJ,bG,jJ.len] using this
   have hsz2:(Tryz.prog.info? 164).map (·.size)=some (wdC kQ).toArray.size:=by simpa using hsz
   have h1c:(wdC kQ).toArray.all (·.oneCell')=true:=all_oneCell_toArray (gL _);have FIN:=hIz (show Below w.heap.size w (wr.setCells w.heap.size 0 (wdC kQ))∧(wr.setCells w.heap.size 0 (wdC kQ)).rangeAt w.heap.size 0 (wdC kQ) from
    ⟨hI.out.2.2.trans ((Upd.setCells (F:=fun q=>q=w.heap.size) (.inl rfl) (wdC kQ) 0 (Upd.refl _ wr)).below (fun q _ e=>Nat.le_of_eq e.symm) hI.out.2.2.size),World.rangeAt_setCells_same _ _ _ _ (by simpa using hth)⟩)
   change wr.rangeAt (w.heap.size+1) 0 (wdC kQ) at hrg
   clear kA hI;go_upto_region 7 with (fail);go_wp2_with (first | (refine wpList_load_mid rfl 164 _ rfl (w.heap.size+1) 0 rfl (wdC kQ) (.array 64 162) hrg Tryz.underlying164 rfl hsz ?_) | (refine wpList_store_mid rfl 164 _ _ rfl w.heap.size 0 (wdC kQ).toArray rfl rfl hth hsz2 h1c ?_) | fail);have hlv:=run_loadVar_mid (P:=Tryz.prog) _ w.heap.size 0 164 (wdC kQ) (.array 64 162) FIN.out.2 Tryz.underlying164 rfl hsz;refine bodyPost_ret (v:=.agg (wdC kQ).toArray) (by simp[results,Tryz.f149,Act.put,asAddr,hlv,Result.andThen,Sem.run_bind]) rfl ⟨rfl,FIN.out.1⟩

theorem zX(w:World)(n:Nat)(hn:n≤64):Calls Tryz.prog 171 #[.int .i64 (n:Int)] w (gB w (.int .u64 ((2 ^ n-1:Nat):Int))):=by
 by_cases h:n=64
 ·subst h;go_enter Tryz.func171,Tryz.ntmps171;go_wp2;go_ret;exact⟨rfl,rfl⟩
 ·have h1:¬((64:Int)≤(n:Int)):=by omega
  have h0:¬((n:Int)<0):=by omega
  have hlt:n<64:=by omega
  have hsh:=DV hlt;have hp:=oC hlt;have hp1:1≤2 ^ n:=Nat.one_le_two_pow;obtain⟨q,hq⟩:∃q:Nat,2 ^ n=q:=⟨_,rfl⟩;rw[hq] at hsh hp hp1 ⊢;have hw:IntKind.u64.wrap ((q:Int)-1)=((q-1:Nat):Int):=by rw[IntKind.wrap_u64];omega
  clear hq;go_enter Tryz.func171,Tryz.ntmps171;go_wp2;go_ret;exact⟨rfl,rfl⟩
open Go.RowKit
def cM(r:List Nat)(n:Nat):List Nat:=wf (fun i=>if i<n then r.getD i 0 &&& (2 ^ n-1) else 0)
theorem lE{r:List Nat}(h:Wd r)(i:Nat):r.getD i 0<18446744073709551616:=by
 by_cases hi:i<r.length
 ·rw[List.getD_eq_getElem?_getD,gEz hi];exact h.fit _ (List.getElem_mem hi)
 ·rw[List.getD_eq_getElem?_getD,List.getElem?_eq_none (by omega)];decide
theorem iM{r:List Nat}(h:Wd r)(n:Nat):Wd (cM r n):=OI (fun i _=>by
 split
 ·exact Nat.lt_of_le_of_lt Nat.and_le_left (lE h i)
 ·decide)
theorem cJ(w:World)(r:List Nat)(hr:Wd r)(n:Nat)(hn:n≤64):Calls Tryz.prog 148 #[wdV r,.int .i64 (n:Int),.int .i64 (n:Int)] w (Sam w (.tuple #[wdV (cM r n),.int .i64 0])):=by
 have k0:=(Blk.new w 164 (wdC r).toArray).alloc (.cells Z64 164);have k1:=Blk.new (w.alloc (.cells (wdC r).toArray 164)) 164 Z64;simp only[World.size_alloc] at k1
 have u0:Below w.heap.size w ((w.alloc (.cells (wdC r).toArray 164)).alloc (.cells Z64 164)):=by(repeat (first | exact Below.refl _ _ | apply Below.drew | refine Below.alloc ?_ (by first | exact Nat.le_refl _ | (simp;done) | (simp;omega)) _ | refine Below.setCell ?_ (by first | exact Nat.le_refl _ | (simp;done) | (simp;omega)) _))
 have H:=aI4 k0 (aY.mp k1) u0 hr;clear k0 k1 u0;unfold wdV;have hn0:¬((n:Int)<0):=by omega
 have hn6:¬((64:Int)<(n:Int)):=by omega
 go_enter Tryz.func148,Tryz.ntmps148;go_upto_region 1 with (fail);generalize (w.alloc (.cells (wdC r).toArray 164)).alloc (.cells Z64 164)=W0 at H ⊢;go_wp2_with fail;go_loopw [24] (fun i wr=>∃k:Nat,k≤64∧i=.int .i64 k∧Hid (Blk wr w.heap.size 164 (wdC (wf (fun i=>if i<k then (if i<n then r.getD i 0 &&& (2 ^ n-1) else 0) else r.getD i 0))).toArray∧Blk wr (w.heap.size+1) 164 (wdC aV).toArray∧Below w.heap.size w wr)) (fun i _=>64-(intOf i).toNat)
 case atStart=>exact⟨0,Nat.zero_le _,rfl,hIz ⟨by rw[wL (fun i=>if i<n then r.getD i 0 &&& (2 ^ n-1) else 0) (fun i=>r.getD i 0),← RM hr];exact H.out.1,H.out.2.1,H.out.2.2.1⟩⟩
 case round =>
  obtain⟨k,hk,rfl,hI⟩:=hrel;by_cases hlt:k<64
  ·have hltI:(k:Int)<(64:Int):=by omega
   have hkw:IntKind.i64.wrap ((k:Int)+1)=(k:Int)+1:=IntWalk.i64_in _ (by omega);obtain⟨x,hx⟩:∃x,r.getD k 0=x:=⟨_,rfl⟩;have hx64:x<18446744073709551616:=by rw[← hx];exact lE hr k
   have kA:=hI.out.1;have c1:wr.cell? ⟨w.heap.size,k,none⟩=some (.int .u64 (x:Int)):=(kA.cell k).trans (by have:=gH (pN (fun i=>if i<k then (if i<n then r.getD i 0 &&& (2 ^ n-1) else 0) else r.getD i 0) hlt);rw[if_neg (Nat.lt_irrefl k),hx] at this;simpa using this);have f1:=kA.frozen k;have ST:=hIz (show ∀(W:World) (v:Nat),v=(if k<n then r.getD k 0 &&& (2 ^ n-1) else 0)→Below wr.heap.size wr W→Blk (W.setCell ⟨w.heap.size,k,none⟩ (.int .u64 (v:Int))) w.heap.size 164 (wdC (wf (fun i=>if i<k+1 then (if i<n then r.getD i 0 &&& (2 ^ n-1) else 0) else r.getD i 0))).toArray∧Blk (W.setCell ⟨w.heap.size,k,none⟩ (.int .u64 (v:Int))) (w.heap.size+1) 164 (wdC aV).toArray∧Below w.heap.size w (W.setCell ⟨w.heap.size,k,none⟩ (.int .u64 (v:Int))) from fun W v hv hb=>by
    have us:=(Upd.refl (fun q=>q=w.heap.size) W).setCell (p:=⟨w.heap.size,k,none⟩) (.inl rfl) (.int .u64 (v:Int));have ub:=Upd.of_below hb (fun _=>False);have bw:=tHn hI.out.2.2 hb;refine⟨?_,(hI.out.2.1.upd ub id).upd us (by omega),bw.trans (us.below (fun q _ e=>by omega) bw.size)⟩;have:=(kA.upd ub id).set k (.int .u64 (v:Int));rw[lS,hv,DU (f:=fun i=>if i<n then r.getD i 0 &&& (2 ^ n-1) else 0) hlt] at this;rw[hv];exact this)
   by_cases hkn:k<n
   ·have hknI:(k:Int)<(n:Int):=by omega
    have hcon:=fun W=>zX W n hn
    have hq64:2 ^ n-1<18446744073709551616:=by
     have:2 ^ n≤2 ^ 64:=Nat.pow_le_pow_right (by decide) hn;omega
    have hand:=bits_and_u64_nat x (2 ^ n-1) hx64 hq64;obtain⟨q,hq⟩:∃q:Nat,2 ^ n-1=q:=⟨_,rfl⟩;rw[hq] at hand hcon;obtain⟨z,hz⟩:∃z:Nat,x &&& q=z:=⟨_,rfl⟩;rw[hz] at hand;have S1:=hIz (ST.out wr.drew z (by rw[if_pos hkn,hx,hq,hz]) bR.drew);clear hq hz hx hq64 kA ST;go_upto_region 7 with (fail);have hS:wr.drew.cell? ⟨w.heap.size,k,none⟩=some (.int .u64 (x:Int)):=c1;have f2:wr.drew.frozen? ⟨w.heap.size,k,none⟩=false:=f1;refine aF (fun W=>W.cell? ⟨w.heap.size,k,none⟩=some (.int .u64 (x:Int))) 7 [(0,true),(1,true),(2,true),(3,true),(4,false),(5,true),(6,true),(7,false)] hS ?_;generalize wr.drew=V0 at hS f2 S1 ⊢;clear c1 f1
    iterate 4 refine aC rfl ?_
    refine aM rfl rfl (fun K hK=>?_);go_simp;refine(hcon V0).mono ?_;clear hcon;rintro e V1 ⟨rfl,hw1⟩;subst V1;refine hK _ _ (fun _=>hS) ?_;clear hK K;(try simp only[Act.put,gA,gS,gZ,sA,sZ,sS])
    iterate 2 refine aC rfl ?_
    refine aM rfl rfl (fun K hK=>?_);go_simp;refine hK _ _ (fun h=>absurd rfl h) ?_;clear hK K hS f2 hand;(try simp only[Act.put,gA,gS,gZ,sA,sZ,sS])
    refine aG ?_;generalize V0.setCell ⟨w.heap.size,k,none⟩ (.int .u64 (z:Int))=V1 at S1 ⊢;go_wp2;go_roundw
    case rel=>exact⟨k+1,by omega,by go_num,S1⟩
    case measure=>simp[intOf];omega
   ·have hknI:¬((k:Int)<(n:Int)):=by omega
    have S1:=hIz (ST.out wr 0 (by rw[if_neg hkn]) bR);clear hx kA ST;go_wp2;go_roundw
    case rel=>exact⟨k+1,by omega,by go_num,S1⟩
    case measure=>simp[intOf];omega
  ·obtain rfl:k=64:=by omega
   have kA:=hI.out.1;rw[wK (fun i=>if i<n then r.getD i 0 &&& (2 ^ n-1) else 0) (fun i=>r.getD i 0)] at kA;have hwd:=iM hr n;have hrg:=bS kA;have hsz:=bO hwd;have hth:wr.there (w.heap.size+1) 0 (wdC (cM r n)).toArray.size:=by have:=cF hI.out.2.1;simpa[bJ,bG,hwd.len] using this
   have hsz2:(Tryz.prog.info? 164).map (·.size)=some (wdC (cM r n)).toArray.size:=by simpa using hsz
   have h1c:(wdC (cM r n)).toArray.all (·.oneCell')=true:=all_oneCell_toArray (gL _);have FIN:=hIz (show Below w.heap.size w (wr.setCells (w.heap.size+1) 0 (wdC (cM r n)))∧(wr.setCells (w.heap.size+1) 0 (wdC (cM r n))).rangeAt (w.heap.size+1) 0 (wdC (cM r n)) from
    ⟨hI.out.2.2.trans ((Upd.setCells (F:=fun q=>q=w.heap.size+1) (.inl rfl) (wdC (cM r n)) 0 (Upd.refl _ wr)).below (fun q _ e=>by omega) hI.out.2.2.size),World.rangeAt_setCells_same _ _ _ _ (by simpa using hth)⟩)
   change wr.rangeAt w.heap.size 0 (wdC (cM r n)) at hrg
   clear kA hI;go_upto_region 10 with (fail);go_wp2_with (first | (refine wpList_load_mid rfl 164 _ rfl w.heap.size 0 rfl (wdC (cM r n)) (.array 64 162) hrg Tryz.underlying164 rfl hsz ?_) | (refine wpList_store_mid rfl 164 _ _ rfl (w.heap.size+1) 0 (wdC (cM r n)).toArray rfl rfl hth hsz2 h1c ?_) | fail);have hlv:=run_loadVar_mid (P:=Tryz.prog) _ (w.heap.size+1) 0 164 (wdC (cM r n)) (.array 64 162) FIN.out.2 Tryz.underlying164 rfl hsz;refine bodyPost_ret (v:=.tuple #[.agg (wdC (cM r n)).toArray,.int .i64 0]) (by simp[results,Tryz.f148,Act.put,asAddr,hlv,Result.andThen,Sem.run_bind]) rfl ⟨rfl,FIN.out.1⟩
open Go.RowKit
def orL(b:List Nat):List Nat→Nat→Nat
 | [],v=>v
 | c::l,v=>orL b l (v ||| b.getD c 0)
def lZ(a b:List Nat):List Nat:=wf (fun i=>orL b (eK 64 0 (a.getD i 0)) 0)
theorem DW{b:List Nat}(h:Wd b):∀(l:List Nat) (v:Nat),v<18446744073709551616→orL b l v<18446744073709551616
 | [],_,hv=>hv
 | c::l,v,hv=>DW h l _ (Nat.or_lt_two_pow (n:=64) hv (lE h c))
theorem mA(a:List Nat){b:List Nat}(h:Wd b):Wd (lZ a b):=OI (fun _ _=>DW h _ _ (by decide))
theorem DX(b:List Nat)(j:Nat):∀(l:List Nat) (v:Nat),(orL b l v).testBit j=true↔v.testBit j=true∨∃c∈l,(b.getD c 0).testBit j=true
 | [],v=>by simp[orL]
 | c::l,v=>by
  rw[orL,DX b j l,Nat.testBit_or,Bool.or_eq_true];constructor
  ·rintro ((h|h)|⟨d,hd,h⟩)
   ·exact .inl h
   ·exact .inr ⟨c,List.mem_cons_self,h⟩
   ·exact .inr ⟨d,List.mem_cons_of_mem _ hd,h⟩
  ·rintro (h|⟨d,hd,h⟩)
   ·exact .inl (.inl h)
   ·rcases List.mem_cons.1 hd with rfl|hd
    ·exact .inl (.inr h)
    ·exact .inr ⟨d,hd,h⟩
theorem DY{a b:List Nat}(_ha:Wd a)(_hb:Wd b){i j:Nat}(hi:i<64):iJ (lZ a b) i j=true↔∃k,k<64∧iJ a i k=true∧iJ b k j=true:=by
 unfold iJ lZ;rw[pN _ hi,Option.getD_some,DX];constructor
 ·rintro (h|⟨c,hc,h⟩)
  ·simp at h
  ·obtain⟨t,ht,rfl,hb⟩:=(oD _ _ _ _).1 hc;rw[Nat.zero_add] at h;exact⟨t,ht,hb,h⟩
 ·rintro⟨k,hk,h1,h2⟩;exact .inr ⟨k,(oD _ _ _ _).2 ⟨k,hk,(Nat.zero_add k).symm,h1⟩,h2⟩
theorem RN{f g:Nat→Nat}{k:Nat}(h:k<64)(v u:Nat):(wf (fun i=>if i<k then f i else if i=k then v else g i)).set k u=wf (fun i=>if i<k then f i else if i=k then u else g i):=by
 rw[MS _ h];apply iL
 intro i _;by_cases e:i=k
 ·subst e;rw[if_pos rfl,if_neg (Nat.lt_irrefl i),if_pos rfl]
 ·rw[if_neg e];by_cases e2:i<k
  ·rw[if_pos e2,if_pos e2]
  ·rw[if_neg e2,if_neg e2,if_neg e,if_neg e]
theorem TL{f:Nat→Nat}{k:Nat}:wf (fun i=>if i<k then f i else 0)=wf (fun i=>if i<k then f i else if i=k then 0 else 0):=iL (fun i _=>by
 by_cases e:i<k
 ·rw[if_pos e,if_pos e]
 ·rw[if_neg e,if_neg e];split <;> rfl)
theorem RO{f:Nat→Nat}{k:Nat}:wf (fun i=>if i<k then f i else if i=k then f k else 0)=wf (fun i=>if i<k+1 then f i else 0):=iL (fun i _=>by
 by_cases e:i<k
 ·rw[if_pos e,if_pos (by omega)]
 ·rw[if_neg e];by_cases e2:i=k
  ·subst e2;rw[if_pos rfl,if_pos (by omega)]
  ·rw[if_neg e2,if_neg (by omega)])
theorem JT(w:World)(a b:List Nat)(ha:Wd a)(hb:Wd b)(hT:qF w):Calls Tryz.prog 179 #[wdV a,wdV b] w (Sam w (wdV (lZ a b))):=by
 have k0:=(((Blk.new w 164 (wdC a).toArray).alloc (.cells (wdC b).toArray 164)).alloc (.cells Z64 164)).alloc (.cells Z64 164);have k1:=((Blk.new (w.alloc (.cells (wdC a).toArray 164)) 164 (wdC b).toArray).alloc (.cells Z64 164)).alloc (.cells Z64 164);have k2:=(Blk.new ((w.alloc (.cells (wdC a).toArray 164)).alloc (.cells (wdC b).toArray 164)) 164 Z64).alloc (.cells Z64 164);have k3:=Blk.new (((w.alloc (.cells (wdC a).toArray 164)).alloc (.cells (wdC b).toArray 164)).alloc (.cells Z64 164)) 164 Z64;simp only[World.size_alloc] at k1 k2 k3
 have u0:Below w.heap.size w ((((w.alloc (.cells (wdC a).toArray 164)).alloc (.cells (wdC b).toArray 164)).alloc (.cells Z64 164)).alloc (.cells Z64 164)):=by(repeat (first | exact Below.refl _ _ | apply Below.drew | refine Below.alloc ?_ (by first | exact Nat.le_refl _ | (simp;done) | (simp;omega)) _ | refine Below.setCell ?_ (by first | exact Nat.le_refl _ | (simp;done) | (simp;omega)) _))
 have H:=aI9 k0 k1 (aY.mp k2) (aY.mp k3) u0 ha hb (hT.upd (upF u0) hT.lt id) hT.lt;have HIx:=hIz (show ∀(W:World) (k x:Nat),a[k]?=some x→(Instr.index 164 (.agg (wdC a).toArray) (.int .i64 (k:Int))).run Tryz.prog W=.ok (.int .u64 (x:Int)) W from fun W k x h=>xO ha h);clear k0 k1 k2 k3 u0;unfold wdV;go_enter Tryz.func179,Tryz.ntmps179;go_upto_region 2 with (fail);generalize (((w.alloc (.cells (wdC a).toArray 164)).alloc (.cells (wdC b).toArray 164)).alloc (.cells Z64 164)).alloc (.cells Z64 164)=W0 at H ⊢;have hrg:=bS H.out.1;have hsz:=bO ha;go_wp2_with (refine wpList_load_mid rfl 164 _ rfl w.heap.size 0 rfl (wdC a) (.array 64 162) hrg Tryz.underlying164 rfl hsz ?_);clear hrg hsz;go_loopw [9] (fun i wr=>∃k:Nat,k≤64∧i=.int .i64 k∧Hid (Upd (fun q=>q=w.heap.size+1+1+1) W0 wr∧Blk wr (w.heap.size+1+1+1) 164 (wdC (wf (fun i=>if i<k then orL b (eK 64 0 (a.getD i 0)) 0 else 0))).toArray)) (fun i _=>64-(intOf i).toNat)
 case atStart=>exact⟨0,Nat.zero_le _,rfl,hIz ⟨Upd.refl _ _,by rw[wL (fun i=>orL b (eK 64 0 (a.getD i 0)) 0) (fun _=>0),← wJ];exact H.out.2.2.2.1⟩⟩
 case round =>
  obtain⟨k,hk,rfl,hI⟩:=hrel;by_cases hlt:k<64
  ·have hltI:(k:Int)<(64:Int):=by omega
   have hkw:IntKind.i64.wrap ((k:Int)+1)=(k:Int)+1:=IntWalk.i64_in _ (by omega);obtain⟨x,hx⟩:∃x,a[k]?=some x:=⟨a[k]'(by rw[ha.len];exact hlt),gEz _⟩;have hxd:a.getD k 0=x:=by rw[List.getD_eq_getElem?_getD,hx];rfl
   have hix:=HIx.out wr k x hx;have hx64:=ha.fit x (mG hx);have HX:=aI2 hxd hx64;clear hx hxd hx64;go_wp2;clear hix;go_loopw [7] (fun t wr=>∃y v:Nat,t=.int .u64 (y:Int)∧Hid (y<18446744073709551616∧v<18446744073709551616∧orL b (eK 64 0 y) v=orL b (eK 64 0 x) 0∧Upd (fun q=>q=w.heap.size+1+1+1) W0 wr∧Blk wr (w.heap.size+1+1+1) 164 (wdC (wf (fun i=>if i<k then orL b (eK 64 0 (a.getD i 0)) 0 else if i=k then v else 0))).toArray)) (fun t _=>(intOf t).toNat)
   case atStart=>exact⟨x,0,rfl,hIz ⟨HX.out.2,by decide,rfl,hI.out.1,by rw[← TL];exact hI.out.2⟩⟩
   case round =>
    obtain⟨y,v,rfl,hJ⟩:=hrel;by_cases h0:y=0
    ·subst h0;have HE:=hIz (show Upd (fun q=>q=w.heap.size+1+1+1) W0 wr∧Blk wr (w.heap.size+1+1+1) 164 (wdC (wf (fun i=>if i<k+1 then orL b (eK 64 0 (a.getD i 0)) 0 else 0))).toArray from by
      obtain⟨-,-,h3,h4,h5⟩:=hJ.out;rw[qI,orL] at h3;refine⟨h4,?_⟩;rw[← RO (f:=fun i=>orL b (eK 64 0 (a.getD i 0)) 0),HX.out.1,← h3];exact h5)
     go_wp2;go_roundw
     case rel=>exact⟨k+1,by omega,by go_num,HE⟩
     case measure=>simp[intOf];omega
    ·have e1:((y:Int)==0)=false:=by simp;omega
     obtain⟨hy,hv,hor,hu,kp⟩:=hJ.out;obtain⟨c,hc⟩:∃c,Lib.ctz 64 y=c:=⟨_,rfl⟩;have hc64:c<64:=by rw[← hc];exact(Lib.lowest_bit 64 y h0 hy).2
     have hT2:=H.out.2.2.2.2.2.2.2.1.upd hu (by have:=H.out.2.2.2.2.1.size;have:=H.out.2.2.2.2.2.2.2.2;omega) (by have:=H.out.2.2.2.2.2.2.2.2;omega);have hcon:=RJ y hy h0 wr.drew hT2;rw[hc] at hcon;have kb:=H.out.2.1.upd hu (by omega);obtain⟨z,hz⟩:∃z,b.getD c 0=z:=⟨_,rfl⟩;have hz64:z<18446744073709551616:=by rw[← hz];exact lE hb c
     have cb:wr.drew.cell? ⟨w.heap.size+1,c,none⟩=some (.int .u64 (z:Int)):=(kb.drew.cell c).trans (by
      have hbl:c<b.length:=by rw[hb.len];exact hc64
      have:=gH (r:=b) (k:=c) (x:=z) (by rw[← hz,List.getD_eq_getElem?_getD,gEz hbl];rfl);simpa using this)
     have cp:wr.drew.cell? ⟨w.heap.size+1+1+1,k,none⟩=some (.int .u64 (v:Int)):=(kp.drew.cell k).trans (by
      have:=gH (pN (fun i=>if i<k then orL b (eK 64 0 (a.getD i 0)) 0 else if i=k then v else 0) hlt);rw[if_neg (Nat.lt_irrefl k),if_pos rfl] at this;simpa using this)
     have fp:=kp.drew.frozen k;have hbo:=bits_or_u64_nat v z hv hz64;have hb1:IntKind.u64.wrap ((y:Int)-1)=((y-1:Nat):Int):=by rw[IntKind.wrap_u64];omega
     have hb2:bits .and .u64 (y:Int) ((y-1:Nat):Int)=((y &&& (y-1):Nat):Int):=bits_and_u64_nat y (y-1) hy (by omega);obtain⟨u,hu2⟩:∃u,v ||| z=u:=⟨_,rfl⟩;rw[hu2] at hbo;have HN:=hIz (show y &&& (y-1)<18446744073709551616∧u<18446744073709551616∧orL b (eK 64 0 (y &&& (y-1))) u=orL b (eK 64 0 x) 0∧Upd (fun q=>q=w.heap.size+1+1+1) W0 (wr.drew.setCell ⟨w.heap.size+1+1+1,k,none⟩ (.int .u64 (u:Int)))∧Blk (wr.drew.setCell ⟨w.heap.size+1+1+1,k,none⟩ (.int .u64 (u:Int))) (w.heap.size+1+1+1) 164 (wdC (wf (fun i=>if i<k then orL b (eK 64 0 (a.getD i 0)) 0 else if i=k then u else 0))).toArray from by
      refine⟨Nat.lt_of_lt_of_le (oG h0) (Nat.le_of_lt hy),by rw[← hu2];exact Nat.or_lt_two_pow (n:=64) hv hz64,?_,hu.drew.setCell (p:=⟨w.heap.size+1+1+1,k,none⟩) (.inl rfl) _,?_⟩
      ·rw[← hor,qJ 64 0 y h0 (by simpa using hy),Nat.zero_add,orL,hc,hz,hu2]
      ·have:=kp.drew.set k (.int .u64 (u:Int));rw[lS,RN hlt v u] at this;exact this)
     have HM:=hIz (oG h0);clear hy hv hor hu kp hc hz hu2 kb hT2 hz64;go_upto_region 7 with (fail);have hcI:(c:Int)<(64:Int):=by omega
     have hS:wr.drew.cell? ⟨w.heap.size+1+1+1,k,none⟩=some (.int .u64 (v:Int))∧wr.drew.cell? ⟨w.heap.size+1,c,none⟩=some (.int .u64 (z:Int)):=⟨cp,cb⟩;refine aF (fun W=>W.cell? ⟨w.heap.size+1+1+1,k,none⟩=some (.int .u64 (v:Int))∧W.cell? ⟨w.heap.size+1,c,none⟩=some (.int .u64 (z:Int))) 9 [(0,true),(1,true),(2,true),(3,true),(4,false),(5,true),(6,true),(7,true),(8,true),(9,false)] hS ?_;generalize wr.drew=V0 at hS fp HN hcon ⊢;clear cp cb
     iterate 4 refine aC rfl ?_
     refine aM rfl rfl (fun K hK=>?_);go_simp;refine hcon.mono ?_;clear hcon;rintro e V1 ⟨rfl,hw1⟩;subst V1;refine hK _ _ (fun _=>hS) ?_;clear hK K;(try simp only[Act.put,gA,gS,gZ,sA,sZ,sS])
     iterate 4 refine aC rfl ?_
     refine aM rfl rfl (fun K hK=>?_);go_simp;refine hK _ _ (fun h=>absurd rfl h) ?_;clear hK K hS fp hbo;(try simp only[Act.put,gA,gS,gZ,sA,sZ,sS])
     refine aG ?_;generalize V0.setCell ⟨w.heap.size+1+1+1,k,none⟩ (.int .u64 (u:Int))=V1 at HN ⊢;go_wp2;go_roundw
     case rel=>exact⟨y &&& (y-1),u,rfl,HN⟩
     case measure=>have:=HM.out;simp only[intOf];omega
  ·obtain rfl:k=64:=by omega
   have kP:=hI.out.2;rw[wK (fun i=>orL b (eK 64 0 (a.getD i 0)) 0) (fun _=>0)] at kP;have hwd:=mA a hb;have hrg:=bS kP;have hsz:=bO hwd;have hth:wr.there (w.heap.size+1+1) 0 (wdC (lZ a b)).toArray.size:=by have:=cF (H.out.2.2.1.upd hI.out.1 (by omega));simpa[bJ,bG,hwd.len] using this
   have hsz2:(Tryz.prog.info? 164).map (·.size)=some (wdC (lZ a b)).toArray.size:=by simpa using hsz
   have h1c:(wdC (lZ a b)).toArray.all (·.oneCell')=true:=all_oneCell_toArray (gL _);have bw:=H.out.2.2.2.2.1.trans (hI.out.1.below (fun q _ e=>by omega) H.out.2.2.2.2.1.size);have FIN:=hIz (show Below w.heap.size w (wr.setCells (w.heap.size+1+1) 0 (wdC (lZ a b)))∧(wr.setCells (w.heap.size+1+1) 0 (wdC (lZ a b))).rangeAt (w.heap.size+1+1) 0 (wdC (lZ a b)) from
    ⟨bw.trans ((Upd.setCells (F:=fun q=>q=w.heap.size+1+1) (.inl rfl) (wdC (lZ a b)) 0 (Upd.refl _ wr)).below (fun q _ e=>by omega) bw.size),World.rangeAt_setCells_same _ _ _ _ (by simpa using hth)⟩)
   change wr.rangeAt (w.heap.size+1+1+1) 0 (wdC (lZ a b)) at hrg
   clear kP hI bw;go_upto_region 9 with (fail);go_wp2_with (first | (refine wpList_load_mid rfl 164 _ rfl (w.heap.size+1+1+1) 0 rfl (wdC (lZ a b)) (.array 64 162) hrg Tryz.underlying164 rfl hsz ?_) | (refine wpList_store_mid rfl 164 _ _ rfl (w.heap.size+1+1) 0 (wdC (lZ a b)).toArray rfl rfl hth hsz2 h1c ?_) | fail);have hlv:=run_loadVar_mid (P:=Tryz.prog) _ (w.heap.size+1+1) 0 164 (wdC (lZ a b)) (.array 64 162) FIN.out.2 Tryz.underlying164 rfl hsz;refine bodyPost_ret (v:=.agg (wdC (lZ a b)).toArray) (by simp[results,Tryz.f179,Act.put,asAddr,hlv,Result.andThen,Sem.run_bind]) rfl ⟨rfl,FIN.out.1⟩
open Go.RowKit
section
variable {P:Program} {ops:Array Oper} {Q:Exit→Act→World→Prop} {md:Region.Mode} {S:World→Prop} {n:Nat}
theorem JU{i f:Nat}{listed:Array Bool}{a:Act}{w:World}{oi:Oper}(hi:ops[i]?=some oi)(hB:(Region.noSelect ops&&Region.free md ops listed i&&(Region.ready md ops listed).contains i)=true)
  (hd:dD md ops listed) (hn:ops.size≤n) (hQ:∀c a d v w,Q (.panic c) (Act.put a d v) w→Q (.panic c) a w) (hS:S w)
  (hw:Region.wanted oi (yielded ops a.tmps)=true) (ty:TypeId) (x:Operand) (ho:oi.op=.load ty x) (b o:Nat) (hx:a.eval x=.pointer (some ⟨b,o,none⟩)) (cs:List Value) (d:TypeDesc) (hc:∀w,S w→w.rangeAt b o cs)
  (hu:P.underlying ty=some d) (hdr:d.isRow=true) (hinf:(P.info? ty).map (·.size)=some cs.length)
  (h:dD md ops (listed.setIfInBounds i true)→bB P md ops Q S n f (listed.setIfInBounds i true) (a.put oi.dst (.agg cs.toArray)) w):bB P md ops Q S n (f+1) listed a w:=
 xZ hi hB hd hn hQ hS hw (fun w hw=>by
  unfold execOp;simp only[ho,hx,run_loadAt_mid w b o ty cs d (hc w hw) hu hdr hinf,Sem.run_bind,Result.andThen_ok]
  rfl) h
end
def joinO(b:Option (List Nat))(x:List Nat):Option (List Nat):=if x=aV then b else some (List.zipWith orN (fI b) x)
theorem uK{o:List Nat}:eP (List.zipWith bL aV o)=0:=by
 have h:∀(n:Nat) (o:List Nat),eP (List.zipWith bL (List.replicate n 0) o)=0:=fun n=>by
  induction n with
  | zero=>intro o;rfl
  | succ n ih =>
   intro o;cases o with
   | nil=>rfl
   | cons y o =>
    rw[List.replicate_succ,List.zipWith_cons_cons];have e:bL 0 y=0:=by simp[bL]
    have:=ih o;unfold eP at this ⊢;rw[List.map_cons,List.sum_cons,this,e];decide
 exact h 64 o
theorem JV(w:World)(p:Nat):Calls Tryz.prog 146 #[.pointer (some ⟨p,0,none⟩),.int .i64 0,.int .i64 0,wdV aV] w (Sam w (.bool false)):=by
 have k0:=Blk.new w 164 (wdC aV).toArray;have u0:Below w.heap.size w (w.alloc (.cells (wdC aV).toArray 164)):=bR.alloc (Nat.le_refl _) _;have hrg:=bS k0;have hsz:=bO eJ;have heq:∀W,(binOp .eql 164 (.agg (wdC aV).toArray) (.agg Z64)).run Tryz.prog W=.ok (.bool true) W:=fun W=>by
  have h2:=DD W eJ eJ;rw[decide_eq_true rfl] at h2;rw[OD];exact h2
 have H:=hIz u0;clear k0 u0;unfold wdV;go_enter Tryz.func146,Tryz.ntmps146;go_upto_region 1 with (fail);generalize w.alloc (.cells (wdC aV).toArray 164)=W0 at H hrg ⊢;go_wp2_with (first | (refine wpList_load_mid rfl 164 _ rfl w.heap.size 0 rfl (wdC aV) (.array 64 162) hrg Tryz.underlying164 rfl hsz ?_) | fail);go_ret;exact⟨rfl,H.out⟩
theorem DZ(w:World)(F:Nat→Prop)(p side:Nat)(b:Option (List Nat))(h:QuS w F p side b)(x:List Nat)(hx:Wd x) :
  Calls Tryz.prog 146 #[.pointer (some ⟨p,0,none⟩),.int .i64 0,.int .i64 0,wdV x] w (fun e w'=>e=.returned (.bool (decide (0<eP (List.zipWith bL x (fI b)))))∧QTo w F p side (joinO b x) w'):=by
 by_cases hz:x=aV
 ·subst hz;refine(JV w p).mono ?_;rintro e w' ⟨rfl,hb⟩;refine⟨by rw[uK];rfl,?_⟩;unfold joinO;rw[if_pos rfl];exact⟨F,h.below hb,Upd.of_below hb F,fun k hk=>.inl hk⟩
 ·unfold joinO;rw[if_neg hz];exact DH w F p side b h x hx hz
theorem JW(w:World)(p side:Nat)(hs:1≤side)(hs2:side≤1024)(q0:w.cell? ⟨p,0,none⟩=some (.int .i64 (side:Int))):Calls Tryz.prog 172 #[.pointer (some ⟨p,0,none⟩),.int .i64 0,.int .i64 0] w (gB w (.bool true)):=by
 have hw:IntKind.i64.wrap ((side:Int)-1)=((side-1:Nat):Int):=by rw[IntKind.wrap_i64];omega
 have hd:(((side-1:Nat):Int)).tdiv 64=(((side-1) / 64:Nat):Int):=by rw[Int.tdiv_eq_ediv_of_nonneg (by omega)];omega
 have hw2:IntKind.i64.wrap ((((side-1) / 64:Nat):Int))=(((side-1) / 64:Nat):Int):=IntWalk.i64_in _ (by omega);have h0:(0:Int)≤(((side-1) / 64:Nat):Int):=by omega
 generalize (((side-1) / 64:Nat):Int)=q at hd hw2 h0;generalize (((side-1:Nat):Int))=s1 at hw hd;go_enter Tryz.func172,Tryz.ntmps172;go_wp2;go_ret;exact⟨rfl,rfl⟩
open Go.RowKit
theorem JX(W:World){r s:List Nat}(hr:Wd r)(hs:Wd s):(Op.equalIn 10000 164 (.agg (wdC r).toArray) (.agg (wdC s).toArray)).run Tryz.prog W=.ok (decide (r=s)) W:=by
 obtain⟨i0,hi0⟩:=Option.isSome_iff_exists.1 yD;show(Op.equalIn (9999+1) _ _ _).run _ _=_
 rw[run_equalIn_array (P:=Tryz.prog) W 9999 _ _ Tryz.underlying164 hi0,tY];rw[lV W 9998 hr.len hs.len _ (fun i hi=>List.mem_range.1 hi),MQ hr.len hs.len]
def lF(Q:Exit→Act→World→Prop):Exit→Act→World→Prop
 | .panic _,_,_=>False
 | e,a,w=>Q e a w
theorem EA{P:Program}{c:Code}{Q:Exit→Act→World→Prop}{a:Act}{w:World}(h:c.wp P (lF Q) a w):c.wp P Q a w:=fun b k cs=>by
 obtain⟨e,a',w',hq,ha⟩:=h b k cs;refine⟨e,a',w',?_,ha⟩;cases e <;> first | exact hq | exact hq.elim
theorem yG{x:List Nat}(hx:Wd x){side:Nat}(h:∀i j,iJ x i j=true→i<side∧j<side):cM x side=x:=by
 conv=>rhs;rw[RM hx]
 unfold cM;apply iL
 intro i hi;have hb:∀j,iJ x i j=(x.getD i 0).testBit j:=fun j=>by unfold iJ;rw[List.getD_eq_getElem?_getD]
 by_cases hs:i<side
 ·rw[if_pos hs];apply Nat.eq_of_testBit_eq
  intro j;rw[Nat.testBit_and,Nat.testBit_two_pow_sub_one];by_cases hj:(x.getD i 0).testBit j=true
  ·have:=(h i j (by rw[hb];exact hj)).2;rw[hj,Bool.true_and];exact decide_eq_true this
  ·rw[eq_false_of_ne_true hj,Bool.false_and]
 ·rw[if_neg hs];apply Nat.eq_of_testBit_eq
  intro j;by_cases hj:(x.getD i 0).testBit j=true
  ·exact absurd (h i j (by rw[hb];exact hj)).1 hs
  ·rw[Nat.zero_testBit];exact(eq_false_of_ne_true hj).symm
theorem yH(w:World)(F:Nat→Prop)(p side:Nat)(b:Option (List Nat))(h:QuS w F p side b)(hs64:side≤64)(x:List Nat)(hx:Wd x)(hfit:cM x side=x) :
  Calls Tryz.prog 150 #[.pointer (some ⟨p,0,none⟩),.int .i64 0,.int .i64 0,wdV x] w (fun e w'=>e=.returned (.tuple #[.bool (decide (0<eP (List.zipWith bL x (fI b)))),.int .i64 0])∧QTo w F p side (joinO b x) w'):=by
 have hs1:1≤side:=by obtain⟨O,dep,cnt,m,last,L,pv,lv,hq,ok,-⟩:=h;exact ok.s1
 have k0:=Blk.new w 164 (wdC x).toArray;have u0:Below w.heap.size w (w.alloc (.cells (wdC x).toArray 164)):=bR.alloc (Nat.le_refl _) _;have hsz:=bO hx;have hsz2:(Tryz.prog.info? 164).map (·.size)=some (wdC x).toArray.size:=by simpa using hsz
 have h1c:(wdC x).toArray.all (·.oneCell')=true:=all_oneCell_toArray (gL _);have H:=aI3 (h.below u0) k0 u0;have q0:(w.alloc (.cells (wdC x).toArray 164)).cell? ⟨p,0,none⟩=some (.int .i64 (side:Int)):=by obtain⟨O,dep,cnt,m,last,L,pv,lv,hq,ok,-⟩:=h.below u0;exact hq.blk.cell 0
 clear k0 u0 h;unfold wdV;go_enter Tryz.func150,Tryz.ntmps150;go_upto_region 1 with (fail);generalize w.alloc (.cells (wdC x).toArray 164)=W1 at H q0 ⊢;have his:=jF W1 p side hs1 q0;have hhas:=JW W1 p side hs1 (by omega) q0;go_wp2_with fail;refine his.mono ?_;clear his;rintro e V1 ⟨rfl,hw1⟩;subst V1;go_wp2_with fail;refine hhas.mono ?_;clear hhas;rintro e V1 ⟨rfl,hw1⟩;subst V1;go_upto_region 5 with (fail);have hw0:IntKind.i64.wrap 0=0:=by decide
 have hws:IntKind.i64.wrap (side:Int)=(side:Int):=IntWalk.i64_in _ (by omega);have hmn:min (64:Int) (side:Int)=(side:Int):=by omega
 have SR:=hIz (show ∀V,Below W1.heap.size W1 V→(fun V=>V.rangeAt w.heap.size 0 (wdC x)∧V.cell? ⟨p,0,none⟩=some (.int .i64 (side:Int))) V from fun V hb=>by
  have hu:=Upd.of_below hb (fun _=>False);obtain⟨O,dep,cnt,m,last,L,pv,lv,hq,ok,-⟩:=H.out.1.below hb;exact⟨bS (H.out.2.1.upd hu id),hq.blk.cell 0⟩)
 clear q0;go_cut [10,11] from 10 (fun s10 s11 wc=>∃g10:Nat,s10=.pointer (some ⟨g10,0,none⟩)∧s11=.int .i64 0∧Hid (Below W1.heap.size W1 wc∧wc.rangeAt g10 0 (wdC x)))
 case first =>
  have hB0:=hIz (show Below W1.heap.size W1 W1.drew from bR.drew);have hS:=SR.out _ hB0.out;refine EA ?_;refine kJ (fun V=>V.rangeAt w.heap.size 0 (wdC x)∧V.cell? ⟨p,0,none⟩=some (.int .i64 (side:Int))) (by kernel_rfl) (by kernel_rfl) hS ?_;refine tT (fun hd=>?_);generalize W1.drew=V0 at hB0 hS ⊢;(refine JU (i:=0) rfl (by kernel_rfl) hd (Nat.le_refl _) (fun _ _ d _ _ h=>by cases d <;> exact h) hS (by first | with_reducible rfl | kernel_rfl) 164 _ rfl w.heap.size 0 rfl (wdC x) (.array 64 162) (fun _ h=>h.1) Tryz.underlying164 rfl hsz ?_;clear hd;intro hd;(try simp only[Act.put,gA,gS,gZ,sA,sZ,sS]))
  refine aD 1 rfl hd hS ?_;clear hd;intro hd;refine aD 2 rfl hd hS ?_;clear hd;intro hd;refine aD 3 rfl hd hS ?_;clear hd;intro hd;refine aD 4 rfl hd hS ?_;clear hd;intro hd;refine aD 5 rfl hd hS ?_;clear hd;intro hd;refine aD 6 rfl hd hS ?_;clear hd;intro hd;refine aD 7 rfl hd hS ?_;clear hd;intro hd;refine aD 9 rfl hd hS ?_;clear hd;intro hd;refine aD 10 rfl hd hS ?_;clear hd;intro hd;refine aD 11 rfl hd hS ?_;clear hd;intro hd;refine aD 12 rfl hd hS ?_;clear hd;intro hd;refine aD 13 rfl hd hS ?_;clear hd;intro hd;refine aD 14 rfl hd hS ?_;clear hd;intro hd;refine aD 15 rfl hd hS ?_;clear hd;intro hd;refine rI hd 8 16 21 ?_ ?_ ?_<;>(clear hd;intro hd)
  ·refine aH rfl rfl (fun K hK=>?_);go_simp;refine hK _ _ hS ?_;clear hK K;(try simp only[Act.put,gA,gS,gZ,sA,sZ,sS])
   refine bV hd 16 21 ?_ ?_<;>(clear hd;intro hd)
   ·refine aH rfl rfl (fun K hK=>?_);go_simp;refine hK _ _ hS ?_;clear hK K;(try simp only[Act.put,gA,gS,gZ,sA,sZ,sS])
    refine bV hd 17 21 ?_ ?_<;>(clear hd;intro hd)
    ·refine aH rfl rfl (fun K hK=>?_);go_simp;refine(cJ V0 x hx side hs64).mono ?_;rintro e V1 ⟨rfl,b5⟩;rw[hfit];have hB1:=hIz (tHn hB0.out b5);have hS1:=SR.out _ hB1.out;refine hK _ _ hS1 ?_;clear hK K b5;(try simp only[Act.put,gA,gS,gZ,sA,sZ,sS])
     have hS:=hS1;refine aD 18 rfl hd hS ?_;clear hd;intro hd;refine aD 19 rfl hd hS ?_;clear hd;intro hd;refine aD 20 rfl hd hS ?_;clear hd;intro hd;refine aJ hd 21 ?_;clear hd;intro hd;refine aH rfl rfl (fun K hK=>?_);go_simp;have hB2:=hIz (show Below W1.heap.size W1 (V1.alloc (.cells Z64 164)) from hB1.out.alloc hB1.out.size _);have hG2:=aI2 (Blk.new V1 164 Z64) hB1.out.size;have hS2:=SR.out _ hB2.out;refine hK _ _ hS2 ?_;clear hK K;(try simp only[Act.put,gA,gS,gZ,sA,sZ,sS])
     generalize hgg:V1.heap.size=g10 at hG2;generalize V1.alloc (.cells Z64 164)=V2 at hB2 hG2 hS2 ⊢;(try simp only[hgg])
     have kz:=aY.mp (hG2.out).1;have hth:V2.there g10 0 (wdC x).toArray.size:=by have:=cF kz;simpa[bJ,bG,hx.len] using this
     have zg:=(hG2.out).2;have us:=Upd.setCells (F:=fun q=>q=g10) (b:=g10) (.inl rfl) (wdC x) 0 (Upd.refl _ V2);have bF:=hB2.out.trans (us.below (fun q _ e=>by omega) hB2.out.size);have HE:=aI2 bF (World.rangeAt_setCells_same V2 g10 0 (wdC x) (by simpa using hth));clear kz us bF zg;refine aJ hd 22 ?_;clear hd;intro hd;refine aH rfl rfl (fun K hK=>?_);refine wp_store_mid 164 _ _ rfl g10 0 (wdC x).toArray rfl rfl hth hsz2 h1c ?_;have hS:=SR.out _ HE.out.1;refine hK _ _ hS ?_;clear hK K hth;(try simp only[Act.put,gA,gS,gZ,sA,sZ,sS])
     refine aD 23 rfl hd hS ?_;clear hd;intro hd;refine fL (by kernel_rfl) ?_;clear hd hS;dsimp only [lF]
     go_wp2;go_meet
     case rel=>exact⟨_,rfl,rfl,HE⟩
    ·refine aH rfl rfl (fun K hK=>?_);go_simp;have hB3:=hIz (show Below W1.heap.size W1 (V0.alloc (.cells Z64 164)) from hB0.out.alloc hB0.out.size _);have hG3:=aI2 (Blk.new V0 164 Z64) hB0.out.size;have hS3:=SR.out _ hB3.out;refine hK _ _ hS3 ?_;clear hK K;(try simp only[Act.put,gA,gS,gZ,sA,sZ,sS])
     generalize hgg:V0.heap.size=g10 at hG3;generalize V0.alloc (.cells Z64 164)=V3 at hB3 hG3 hS3 ⊢;(try simp only[hgg])
     refine aJ hd 17 ?_;clear hd;intro hd;refine aH rfl rfl (fun K hK=>?_);go_simp;refine(cJ V3 x hx side hs64).mono ?_;rintro e V4 ⟨rfl,b5⟩;rw[hfit];have hB4:=hIz (tHn hB3.out b5);have hS4:=SR.out _ hB4.out;have hG4:=aI2 ((hG3.out).1.upd (upF b5) id) (hG3.out).2;refine hK _ _ hS4 ?_;clear hK K b5;(try simp only[Act.put,gA,gS,gZ,sA,sZ,sS])
     have hS:=hS4;refine aD 18 rfl hd hS ?_;clear hd;intro hd;refine aD 19 rfl hd hS ?_;clear hd;intro hd;refine aD 20 rfl hd hS ?_;clear hd;intro hd;have kz:=aY.mp (hG4.out).1;have hth:V4.there g10 0 (wdC x).toArray.size:=by have:=cF kz;simpa[bJ,bG,hx.len] using this
     have zg:=(hG4.out).2;have us:=Upd.setCells (F:=fun q=>q=g10) (b:=g10) (.inl rfl) (wdC x) 0 (Upd.refl _ V4);have bF:=hB4.out.trans (us.below (fun q _ e=>by omega) hB4.out.size);have HE:=aI2 bF (World.rangeAt_setCells_same V4 g10 0 (wdC x) (by simpa using hth));clear kz us bF zg;refine aJ hd 22 ?_;clear hd;intro hd;refine aH rfl rfl (fun K hK=>?_);refine wp_store_mid 164 _ _ rfl g10 0 (wdC x).toArray rfl rfl hth hsz2 h1c ?_;have hS:=SR.out _ HE.out.1;refine hK _ _ hS ?_;clear hK K hth;(try simp only[Act.put,gA,gS,gZ,sA,sZ,sS])
     refine aD 23 rfl hd hS ?_;clear hd;intro hd;refine fL (by kernel_rfl) ?_;clear hd hS;dsimp only [lF]
     go_wp2;go_meet
     case rel=>exact⟨_,rfl,rfl,HE⟩
   ·refine aH rfl rfl (fun K hK=>?_);go_simp;have hB5:=hIz (show Below W1.heap.size W1 (V0.alloc (.cells Z64 164)) from hB0.out.alloc hB0.out.size _);have hG5:=aI2 (Blk.new V0 164 Z64) hB0.out.size;have hS5:=SR.out _ hB5.out;refine hK _ _ hS5 ?_;clear hK K;(try simp only[Act.put,gA,gS,gZ,sA,sZ,sS])
    generalize hgg:V0.heap.size=g10 at hG5;generalize V0.alloc (.cells Z64 164)=V5 at hB5 hG5 hS5 ⊢;(try simp only[hgg])
    refine aJ hd 16 ?_;clear hd;intro hd;refine aH rfl rfl (fun K hK=>?_);go_simp;refine hK _ _ hS5 ?_;clear hK K;(try simp only[Act.put,gA,gS,gZ,sA,sZ,sS])
    refine aJ hd 17 ?_;clear hd;intro hd;refine aH rfl rfl (fun K hK=>?_);go_simp;refine(cJ V5 x hx side hs64).mono ?_;rintro e V6 ⟨rfl,b5⟩;rw[hfit];have hB6:=hIz (tHn hB5.out b5);have hS6:=SR.out _ hB6.out;have hG6:=aI2 ((hG5.out).1.upd (upF b5) id) (hG5.out).2;refine hK _ _ hS6 ?_;clear hK K b5;(try simp only[Act.put,gA,gS,gZ,sA,sZ,sS])
    have hS:=hS6;refine aD 18 rfl hd hS ?_;clear hd;intro hd;refine aD 19 rfl hd hS ?_;clear hd;intro hd;refine aD 20 rfl hd hS ?_;clear hd;intro hd;have kz:=aY.mp (hG6.out).1;have hth:V6.there g10 0 (wdC x).toArray.size:=by have:=cF kz;simpa[bJ,bG,hx.len] using this
    have zg:=(hG6.out).2;have us:=Upd.setCells (F:=fun q=>q=g10) (b:=g10) (.inl rfl) (wdC x) 0 (Upd.refl _ V6);have bF:=hB6.out.trans (us.below (fun q _ e=>by omega) hB6.out.size);have HE:=aI2 bF (World.rangeAt_setCells_same V6 g10 0 (wdC x) (by simpa using hth));clear kz us bF zg;refine aJ hd 22 ?_;clear hd;intro hd;refine aH rfl rfl (fun K hK=>?_);refine wp_store_mid 164 _ _ rfl g10 0 (wdC x).toArray rfl rfl hth hsz2 h1c ?_;have hS:=SR.out _ HE.out.1;refine hK _ _ hS ?_;clear hK K hth;(try simp only[Act.put,gA,gS,gZ,sA,sZ,sS])
    refine aD 23 rfl hd hS ?_;clear hd;intro hd;refine fL (by kernel_rfl) ?_;clear hd hS;dsimp only [lF]
    go_wp2;go_meet
    case rel=>exact⟨_,rfl,rfl,HE⟩
  ·refine aH rfl rfl (fun K hK=>?_);go_simp;refine hK _ _ hS ?_;clear hK K;(try simp only[Act.put,gA,gS,gZ,sA,sZ,sS])
   refine bV hd 8 21 ?_ ?_<;>(clear hd;intro hd)
   ·refine aH rfl rfl (fun K hK=>?_);go_simp;refine hK _ _ hS ?_;clear hK K;(try simp only[Act.put,gA,gS,gZ,sA,sZ,sS])
    refine bV hd 17 21 ?_ ?_<;>(clear hd;intro hd)
    ·refine aH rfl rfl (fun K hK=>?_);go_simp;refine(cJ V0 x hx side hs64).mono ?_;rintro e V7 ⟨rfl,b5⟩;rw[hfit];have hB7:=hIz (tHn hB0.out b5);have hS7:=SR.out _ hB7.out;refine hK _ _ hS7 ?_;clear hK K b5;(try simp only[Act.put,gA,gS,gZ,sA,sZ,sS])
     have hS:=hS7;refine aD 18 rfl hd hS ?_;clear hd;intro hd;refine aD 19 rfl hd hS ?_;clear hd;intro hd;refine aD 20 rfl hd hS ?_;clear hd;intro hd;refine aJ hd 21 ?_;clear hd;intro hd;refine aH rfl rfl (fun K hK=>?_);go_simp;have hB8:=hIz (show Below W1.heap.size W1 (V7.alloc (.cells Z64 164)) from hB7.out.alloc hB7.out.size _);have hG8:=aI2 (Blk.new V7 164 Z64) hB7.out.size;have hS8:=SR.out _ hB8.out;refine hK _ _ hS8 ?_;clear hK K;(try simp only[Act.put,gA,gS,gZ,sA,sZ,sS])
     generalize hgg:V7.heap.size=g10 at hG8;generalize V7.alloc (.cells Z64 164)=V8 at hB8 hG8 hS8 ⊢;(try simp only[hgg])
     have kz:=aY.mp (hG8.out).1;have hth:V8.there g10 0 (wdC x).toArray.size:=by have:=cF kz;simpa[bJ,bG,hx.len] using this
     have zg:=(hG8.out).2;have us:=Upd.setCells (F:=fun q=>q=g10) (b:=g10) (.inl rfl) (wdC x) 0 (Upd.refl _ V8);have bF:=hB8.out.trans (us.below (fun q _ e=>by omega) hB8.out.size);have HE:=aI2 bF (World.rangeAt_setCells_same V8 g10 0 (wdC x) (by simpa using hth));clear kz us bF zg;refine aJ hd 22 ?_;clear hd;intro hd;refine aH rfl rfl (fun K hK=>?_);refine wp_store_mid 164 _ _ rfl g10 0 (wdC x).toArray rfl rfl hth hsz2 h1c ?_;have hS:=SR.out _ HE.out.1;refine hK _ _ hS ?_;clear hK K hth;(try simp only[Act.put,gA,gS,gZ,sA,sZ,sS])
     refine aD 23 rfl hd hS ?_;clear hd;intro hd;refine fL (by kernel_rfl) ?_;clear hd hS;dsimp only [lF]
     go_wp2;go_meet
     case rel=>exact⟨_,rfl,rfl,HE⟩
    ·refine aH rfl rfl (fun K hK=>?_);go_simp;have hB9:=hIz (show Below W1.heap.size W1 (V0.alloc (.cells Z64 164)) from hB0.out.alloc hB0.out.size _);have hG9:=aI2 (Blk.new V0 164 Z64) hB0.out.size;have hS9:=SR.out _ hB9.out;refine hK _ _ hS9 ?_;clear hK K;(try simp only[Act.put,gA,gS,gZ,sA,sZ,sS])
     generalize hgg:V0.heap.size=g10 at hG9;generalize V0.alloc (.cells Z64 164)=V9 at hB9 hG9 hS9 ⊢;(try simp only[hgg])
     refine aJ hd 17 ?_;clear hd;intro hd;refine aH rfl rfl (fun K hK=>?_);go_simp;refine(cJ V9 x hx side hs64).mono ?_;rintro e V10 ⟨rfl,b5⟩;rw[hfit];have hB10:=hIz (tHn hB9.out b5);have hS10:=SR.out _ hB10.out;have hG10:=aI2 ((hG9.out).1.upd (upF b5) id) (hG9.out).2;refine hK _ _ hS10 ?_;clear hK K b5;(try simp only[Act.put,gA,gS,gZ,sA,sZ,sS])
     have hS:=hS10;refine aD 18 rfl hd hS ?_;clear hd;intro hd;refine aD 19 rfl hd hS ?_;clear hd;intro hd;refine aD 20 rfl hd hS ?_;clear hd;intro hd;have kz:=aY.mp (hG10.out).1;have hth:V10.there g10 0 (wdC x).toArray.size:=by have:=cF kz;simpa[bJ,bG,hx.len] using this
     have zg:=(hG10.out).2;have us:=Upd.setCells (F:=fun q=>q=g10) (b:=g10) (.inl rfl) (wdC x) 0 (Upd.refl _ V10);have bF:=hB10.out.trans (us.below (fun q _ e=>by omega) hB10.out.size);have HE:=aI2 bF (World.rangeAt_setCells_same V10 g10 0 (wdC x) (by simpa using hth));clear kz us bF zg;refine aJ hd 22 ?_;clear hd;intro hd;refine aH rfl rfl (fun K hK=>?_);refine wp_store_mid 164 _ _ rfl g10 0 (wdC x).toArray rfl rfl hth hsz2 h1c ?_;have hS:=SR.out _ HE.out.1;refine hK _ _ hS ?_;clear hK K hth;(try simp only[Act.put,gA,gS,gZ,sA,sZ,sS])
     refine aD 23 rfl hd hS ?_;clear hd;intro hd;refine fL (by kernel_rfl) ?_;clear hd hS;dsimp only [lF]
     go_wp2;go_meet
     case rel=>exact⟨_,rfl,rfl,HE⟩
   ·refine aH rfl rfl (fun K hK=>?_);go_simp;have hB11:=hIz (show Below W1.heap.size W1 (V0.alloc (.cells Z64 164)) from hB0.out.alloc hB0.out.size _);have hG11:=aI2 (Blk.new V0 164 Z64) hB0.out.size;have hS11:=SR.out _ hB11.out;refine hK _ _ hS11 ?_;clear hK K;(try simp only[Act.put,gA,gS,gZ,sA,sZ,sS])
    generalize hgg:V0.heap.size=g10 at hG11;generalize V0.alloc (.cells Z64 164)=V11 at hB11 hG11 hS11 ⊢;(try simp only[hgg])
    refine aJ hd 8 ?_;clear hd;intro hd;refine aH rfl rfl (fun K hK=>?_);go_simp;refine hK _ _ hS11 ?_;clear hK K;(try simp only[Act.put,gA,gS,gZ,sA,sZ,sS])
    refine aJ hd 17 ?_;clear hd;intro hd;refine aH rfl rfl (fun K hK=>?_);go_simp;refine(cJ V11 x hx side hs64).mono ?_;rintro e V12 ⟨rfl,b5⟩;rw[hfit];have hB12:=hIz (tHn hB11.out b5);have hS12:=SR.out _ hB12.out;have hG12:=aI2 ((hG11.out).1.upd (upF b5) id) (hG11.out).2;refine hK _ _ hS12 ?_;clear hK K b5;(try simp only[Act.put,gA,gS,gZ,sA,sZ,sS])
    have hS:=hS12;refine aD 18 rfl hd hS ?_;clear hd;intro hd;refine aD 19 rfl hd hS ?_;clear hd;intro hd;refine aD 20 rfl hd hS ?_;clear hd;intro hd;have kz:=aY.mp (hG12.out).1;have hth:V12.there g10 0 (wdC x).toArray.size:=by have:=cF kz;simpa[bJ,bG,hx.len] using this
    have zg:=(hG12.out).2;have us:=Upd.setCells (F:=fun q=>q=g10) (b:=g10) (.inl rfl) (wdC x) 0 (Upd.refl _ V12);have bF:=hB12.out.trans (us.below (fun q _ e=>by omega) hB12.out.size);have HE:=aI2 bF (World.rangeAt_setCells_same V12 g10 0 (wdC x) (by simpa using hth));clear kz us bF zg;refine aJ hd 22 ?_;clear hd;intro hd;refine aH rfl rfl (fun K hK=>?_);refine wp_store_mid 164 _ _ rfl g10 0 (wdC x).toArray rfl rfl hth hsz2 h1c ?_;have hS:=SR.out _ HE.out.1;refine hK _ _ hS ?_;clear hK K hth;(try simp only[Act.put,gA,gS,gZ,sA,sZ,sS])
    refine aD 23 rfl hd hS ?_;clear hd;intro hd;refine fL (by kernel_rfl) ?_;clear hd hS;dsimp only [lF]
    go_wp2;go_meet
    case rel=>exact⟨_,rfl,rfl,HE⟩
  ·refine aH rfl rfl (fun K hK=>?_);go_simp;have hB13:=hIz (show Below W1.heap.size W1 (V0.alloc (.cells Z64 164)) from hB0.out.alloc hB0.out.size _);have hG13:=aI2 (Blk.new V0 164 Z64) hB0.out.size;have hS13:=SR.out _ hB13.out;refine hK _ _ hS13 ?_;clear hK K;(try simp only[Act.put,gA,gS,gZ,sA,sZ,sS])
   generalize hgg:V0.heap.size=g10 at hG13;generalize V0.alloc (.cells Z64 164)=V13 at hB13 hG13 hS13 ⊢;(try simp only[hgg])
   refine bV hd 8 16 ?_ ?_<;>(clear hd;intro hd)
   ·refine aH rfl rfl (fun K hK=>?_);go_simp;refine hK _ _ hS13 ?_;clear hK K;(try simp only[Act.put,gA,gS,gZ,sA,sZ,sS])
    refine aJ hd 16 ?_;clear hd;intro hd;refine aH rfl rfl (fun K hK=>?_);go_simp;refine hK _ _ hS13 ?_;clear hK K;(try simp only[Act.put,gA,gS,gZ,sA,sZ,sS])
    refine aJ hd 17 ?_;clear hd;intro hd;refine aH rfl rfl (fun K hK=>?_);go_simp;refine(cJ V13 x hx side hs64).mono ?_;rintro e V14 ⟨rfl,b5⟩;rw[hfit];have hB14:=hIz (tHn hB13.out b5);have hS14:=SR.out _ hB14.out;have hG14:=aI2 ((hG13.out).1.upd (upF b5) id) (hG13.out).2;refine hK _ _ hS14 ?_;clear hK K b5;(try simp only[Act.put,gA,gS,gZ,sA,sZ,sS])
    have hS:=hS14;refine aD 18 rfl hd hS ?_;clear hd;intro hd;refine aD 19 rfl hd hS ?_;clear hd;intro hd;refine aD 20 rfl hd hS ?_;clear hd;intro hd;have kz:=aY.mp (hG14.out).1;have hth:V14.there g10 0 (wdC x).toArray.size:=by have:=cF kz;simpa[bJ,bG,hx.len] using this
    have zg:=(hG14.out).2;have us:=Upd.setCells (F:=fun q=>q=g10) (b:=g10) (.inl rfl) (wdC x) 0 (Upd.refl _ V14);have bF:=hB14.out.trans (us.below (fun q _ e=>by omega) hB14.out.size);have HE:=aI2 bF (World.rangeAt_setCells_same V14 g10 0 (wdC x) (by simpa using hth));clear kz us bF zg;refine aJ hd 22 ?_;clear hd;intro hd;refine aH rfl rfl (fun K hK=>?_);refine wp_store_mid 164 _ _ rfl g10 0 (wdC x).toArray rfl rfl hth hsz2 h1c ?_;have hS:=SR.out _ HE.out.1;refine hK _ _ hS ?_;clear hK K hth;(try simp only[Act.put,gA,gS,gZ,sA,sZ,sS])
    refine aD 23 rfl hd hS ?_;clear hd;intro hd;refine fL (by kernel_rfl) ?_;clear hd hS;dsimp only [lF]
    go_wp2;go_meet
    case rel=>exact⟨_,rfl,rfl,HE⟩
   ·refine aH rfl rfl (fun K hK=>?_);go_simp;refine hK _ _ hS13 ?_;clear hK K;(try simp only[Act.put,gA,gS,gZ,sA,sZ,sS])
    refine aJ hd 8 ?_;clear hd;intro hd;refine aH rfl rfl (fun K hK=>?_);go_simp;refine hK _ _ hS13 ?_;clear hK K;(try simp only[Act.put,gA,gS,gZ,sA,sZ,sS])
    refine aJ hd 17 ?_;clear hd;intro hd;refine aH rfl rfl (fun K hK=>?_);go_simp;refine(cJ V13 x hx side hs64).mono ?_;rintro e V15 ⟨rfl,b5⟩;rw[hfit];have hB15:=hIz (tHn hB13.out b5);have hS15:=SR.out _ hB15.out;have hG15:=aI2 ((hG13.out).1.upd (upF b5) id) (hG13.out).2;refine hK _ _ hS15 ?_;clear hK K b5;(try simp only[Act.put,gA,gS,gZ,sA,sZ,sS])
    have hS:=hS15;refine aD 18 rfl hd hS ?_;clear hd;intro hd;refine aD 19 rfl hd hS ?_;clear hd;intro hd;refine aD 20 rfl hd hS ?_;clear hd;intro hd;have kz:=aY.mp (hG15.out).1;have hth:V15.there g10 0 (wdC x).toArray.size:=by have:=cF kz;simpa[bJ,bG,hx.len] using this
    have zg:=(hG15.out).2;have us:=Upd.setCells (F:=fun q=>q=g10) (b:=g10) (.inl rfl) (wdC x) 0 (Upd.refl _ V15);have bF:=hB15.out.trans (us.below (fun q _ e=>by omega) hB15.out.size);have HE:=aI2 bF (World.rangeAt_setCells_same V15 g10 0 (wdC x) (by simpa using hth));clear kz us bF zg;refine aJ hd 22 ?_;clear hd;intro hd;refine aH rfl rfl (fun K hK=>?_);refine wp_store_mid 164 _ _ rfl g10 0 (wdC x).toArray rfl rfl hth hsz2 h1c ?_;have hS:=SR.out _ HE.out.1;refine hK _ _ hS ?_;clear hK K hth;(try simp only[Act.put,gA,gS,gZ,sA,sZ,sS])
    refine aD 23 rfl hd hS ?_;clear hd;intro hd;refine fL (by kernel_rfl) ?_;clear hd hS;dsimp only [lF]
    go_wp2;go_meet
    case rel=>exact⟨_,rfl,rfl,HE⟩
 case rest =>
  obtain⟨g10,rfl,rfl,hE⟩:=hcut;have hn:=JX wc hx hx;rw[decide_eq_true rfl] at hn;have r7:=(SR.out _ hE.out.1).1;have r10:=hE.out.2;have hcon:=DZ wc F p side b (H.out.1.below hE.out.1) x hx;unfold wdV at hcon;go_wp2_with (first | (refine wpList_load_mid rfl 164 _ rfl g10 0 rfl (wdC x) (.array 64 162) r10 Tryz.underlying164 rfl hsz ?_) | (refine wpList_load_mid rfl 164 _ rfl w.heap.size 0 rfl (wdC x) (.array 64 162) r7 Tryz.underlying164 rfl hsz ?_) | fail);refine hcon.mono ?_;rintro e W6 ⟨rfl,hto⟩;have FIN:=hIz (QTo.after (tHn H.out.2.2 hE.out.1) hto);clear hto;go_wp2;refine bodyPost_ret (v:=.tuple #[.bool (decide (0<eP (List.zipWith bL x (fI b)))),.int .i64 0]) (by simp[results,Tryz.f150,go_sem]) rfl ⟨rfl,FIN.out⟩
open Go.RowKit
def joinQ(b:Option (List Nat)):Option (List Nat)→Option (List Nat)
 | none=>b
 | some r=>joinO b r
def dG(b:Option (List Nat)):Option (List Nat)→Bool
 | none=>false
 | some r=>decide (0<eP (List.zipWith bL r (fI b)))
theorem rW{w:World}{g:Nat}{t:TypeId}{r:List Nat}(h:Blk w g t (plC r).toArray):w.rangeAt g 2 (wdC r):=fun j v hv=>by
 rw[h.cell (2+j),Nat.add_comm];simpa[plC] using hv
theorem oH(w:World)(F F':Nat→Prop)(p q side:Nat)(b b':Option (List Nat))(h:QuS w F p side b)(h':QuS w F' q side b') :
  Calls Tryz.prog 112 #[.pointer (some ⟨p,0,none⟩),.pointer (some ⟨q,0,none⟩)] w (fun e w'=>e=.returned (.tuple #[.bool (dG b b'),.int .i64 0])∧QTo w F p side (joinQ b b') w'):=by
 have hs1:1≤side:=by obtain⟨O,dep,cnt,m,last,L,pv,lv,hq,ok,-⟩:=h;exact ok.s1
 have qp:w.cell? ⟨p,0,none⟩=some (.int .i64 (side:Int)):=by obtain⟨O,dep,cnt,m,last,L,pv,lv,hq,ok,-⟩:=h;exact hq.blk.cell 0
 have qq:w.cell? ⟨q,0,none⟩=some (.int .i64 (side:Int)):=by obtain⟨O,dep,cnt,m,last,L,pv,lv,hq,ok,-⟩:=h';exact hq.blk.cell 0
 have his:=jF w p side hs1 qp;have his2:=jF w q side hs1 qq;have bN:=fun n=>(show Below w.heap.size w (w.drewN n) from⟨rfl,rfl,rfl,Nat.le_refl _,fun _ _=>rfl⟩)
 have hall:=fun n=>yE (w.drewN n) F' q side b' (h'.below (bN n))
 have hw':Hid (∀r,b'=some r→Wd r):=by obtain⟨O,dep,cnt,m,last,L,pv,lv,hq,ok,-⟩:=h';exact hIz (fun r e=>(ok.is r e).2.2.2.2)
 have hu0:=hIz bN;clear bN;have H:=hIz h;clear h h';go_enter Tryz.func112,Tryz.ntmps112;go_wp2_with fail;refine his.mono ?_;clear his;rintro e V1 ⟨rfl,hw1⟩;subst V1;go_wp2_with fail;refine his2.mono ?_;clear his2;rintro e V1 ⟨rfl,hw1⟩;subst V1;go_upto_region 3 with (fail);go_quiet (fail)
 go_wp2_with fail;refine(hall _).mono ?_;rintro e V1 ⟨hb1,hm⟩;have hu1:=hIz ((hu0.out _).trans (hb1.mono (hu0.out _).size));clear hb1 hu0 hall;cases b' with
 | none =>
  obtain rfl:=hm;have FIN:=hIz (show QTo w F p side (joinQ b none) V1 from⟨F,H.out.below hu1.out,Upd.of_below hu1.out F,fun k hk=>.inl hk⟩);go_wp2_with fail;refine wp_loop_rounds 1 ?_;rw[rounds_succ];go_wp2_with fail;refine bodyPost_ret (v:=.tuple #[.bool false,.int .i64 0]) (by simp[results,Tryz.f112,go_sem]) rfl ⟨rfl,FIN.out⟩
 | some r =>
  obtain⟨A,c,rfl,hm⟩:=hm;have hr:=hw'.out r rfl;have H1:=hIz hm;obtain⟨ga,cc,e,hob,-,-,-,hcell⟩:=aN hm.1 (by decide);injection e with e1 e2 e3;subst e1;subst e3;have rA:V1.rangeAt ga 0 (plC r):=fun j v hv=>by rw[Nat.zero_add];exact(hcell j v hv).1
  have hsz:=wI hr;have h1c:=rT r;have k2:=Blk.new V1 240 (plC r).toArray;have b2:Below V1.heap.size V1 (V1.alloc (.cells (plC r).toArray 240)):=bR.alloc (Nat.le_refl _) _;have HX:=aI2 k2 (tHn hu1.out b2);clear k2 b2 hcell hm e2 hob;go_upto_region 7 with (fail);refine wp_loop_rounds 2 ?_;rw[rounds_succ];go_upto_region 9 with (first | (refine wpList_load_mid rfl 240 _ rfl ga 0 rfl (plC r) (.struct _) rA Tryz.underlying240 rfl hsz ?_) | (refine cR rfl rfl 240 _ _ rfl rfl (plC r) ⟨_,by rw[kM hr];exact eV.choose_spec.1,eV.choose_spec.2⟩ rfl rfl hsz h1c ?_) | fail);clear rA hsz h1c;generalize hg2:V1.heap.size=g2 at HX ⊢;generalize V1.alloc (.cells (plC r).toArray 240)=V2 at HX ⊢;clear hg2;have r2:=rW HX.out.1;have q0:V2.cell? ⟨g2,0,none⟩=some (.int .i64 0):=by rw[HX.out.1.cell 0];simp[plC]
  have q1:V2.cell? ⟨g2,1,none⟩=some (.int .i64 0):=by rw[HX.out.1.cell 1];simp[plC]
  have hsz:=bO hr;have hcon:=DZ V2 F p side b (H.out.below HX.out.2) r hr;unfold wdV at hcon;go_wp2_with (first | (refine wpList_load_mid rfl 164 _ rfl g2 2 rfl (wdC r) (.array 64 162) r2 Tryz.underlying164 rfl hsz ?_) | fail);refine hcon.mono ?_;rintro e V3 ⟨rfl,hto⟩;have FIN:=hIz (show QTo w F p side (joinQ b (some r)) V3 from QTo.after HX.out.2 hto);clear hto hcon r2 q0 q1 hsz;cases hd:decide (0<eP (List.zipWith bL r (fI b)))
  ·go_wp2;rw[rounds_succ];go_wp2;refine bodyPost_ret (v:=.tuple #[.bool false,.int .i64 0]) (by simp[results,Tryz.f112,go_sem]) rfl ⟨by rw[show dG b (some r)=false from hd],FIN.out⟩
  ·go_wp2;rw[rounds_succ];go_wp2;refine bodyPost_ret (v:=.tuple #[.bool true,.int .i64 0]) (by simp[results,Tryz.f112,go_sem]) rfl ⟨by rw[show dG b (some r)=true from hd],FIN.out⟩
open Go.RowKit
def iU{α:Type}(f:Nat→α)(j:Nat)(x:α):Nat→α:=fun k=>if k=j then x else f k
theorem gR{α:Type}(f:Nat→α)(j:Nat)(x:α):iU f j x j=x:=if_pos rfl
theorem dY{α:Type}(f:Nat→α){j k:Nat}(x:α)(h:k≠j):iU f j x k=f k:=if_neg h
theorem yI(f:Nat→Value)(n j:Nat)(x:Value):(pL f n).set j x=pL (iU f j x) n:=by
 apply List.ext_getElem?
 intro i;rw[List.getElem?_set];unfold pL iU;simp only[List.length_map,List.length_range,List.getElem?_map]
 by_cases hij:j=i
 ·subst hij;by_cases hj:j<n
  ·simp[hj]
  ·simp[hj]
 ·rw[if_neg hij];by_cases hi:i<n
  ·simp[hi,Ne.symm hij]
  ·simp[hi]
section
variable {w w':World} {O:Nat→Option Ro} {p r g j c:Nat} {N:List Txt} {U V:Nat→List Hp} {cnt:Int} {nv iv ov:Value} {fo fi:Nat→Value}
theorem GrI.setO(h:GrI w O p N U V cnt ⟨r,nv,.slice (some ⟨g,0,none⟩) N.length c,iv,fo,fi⟩)(hj:j<N.length){v:Value}{L:List Hp}(o:w'.ownsRow 0 143 2 v L.length (aQ L))(u:Upd (fun k=>(fo j).ownBlock=some k) w w')
  (pl:∀k,v.ownBlock=some k→(fo j).ownBlock=some k∨w.heap.size≤k):jE w (fun k=>O k≠none) p N (iU U j L) V cnt (w'.setCell ⟨g,j,none⟩ v):=by
 have us:=(Upd.refl (fun k=>k=g) w').setCell (p:=⟨g,j,none⟩) (.inl rfl) v;have hg:O g=some .o:=h.oo g rfl;have fresh:∀k,w.heap.size≤k→O k=none:=fun k hk=>by
  cases e:O k with
  | none=>rfl
  | some t=>have:=h.lt k (by simp[e]);omega
 have hv:∀k,v.ownBlock=some k→O k=some (.oo j)∨O k=none∧w.heap.size≤k:=fun k hk=>by
  rcases pl k hk with h1|h1
  ·exact .inl (h.oU j k h1)
  ·exact .inr ⟨fresh k h1,h1⟩
 have keep:∀k t,O k=some t→(t=Ro.oo j→False)→(if v.ownBlock=some k then some (Ro.oo j) else O k)=some t:=fun k t e ht=>by
  rw[if_neg,e];intro hk;rcases hv k hk with h1|h1
  ·rw[h1] at e;injection e with e;exact ht e.symm
  ·rw[h1.1] at e;cases e
 have no:∀k t,O k=some t→(t=Ro.oo j→False)→(t=Ro.o→False)→¬(fo j).ownBlock=some k∧¬k=g:=fun k t e h1 h2 =>
  ⟨fun hk=>(by have:=h.oU j k hk;rw[e] at this;injection this with this;exact h1 this),fun hk=>(by rw[hk,hg] at e;injection e with e;exact h2 e.symm)⟩
 have no1:∀k t,O k=some t→(t=Ro.oo j→False)→¬(fo j).ownBlock=some k:=fun k t e h1 hk=>by
  have:=h.oU j k hk;rw[e] at this;injection this with this;exact h1 this
 have nvg:∀k,v.ownBlock=some k→¬k=g:=fun k hk e=>by
  subst e;rcases hv k hk with h1|h1
  ·rw[hg] at h1;cases h1
  ·rw[hg] at h1;cases h1.1
 have k2:=fun {x:Value} {base e size n:Nat} {xs:List Value} (hx:w.ownsRow base e size x n xs) (hr:∀k,x.ownBlock=some k→¬(fo j).ownBlock=some k∧¬k=g)=>aB (aB hx u fun k hk=>(hr k hk).1) us fun k hk=>(hr k hk).2
 have b:=no _ _ h.op nofun nofun;have bm:=no _ _ h.om nofun nofun;refine⟨_,⟨fun k=>if v.ownBlock=some k then some (Ro.oo j) else O k,⟨r,nv,.slice (some ⟨g,0,none⟩) N.length c,iv,iU fo j v,fi⟩,⟨(h.blk.upd u b.1).upd us b.2,(h.map.upd u bm.1).upd us bm.2,k2 h.rn fun k hk=>no _ _ (h.on k hk) nofun nofun,?_,k2 h.ri fun k hk=>no _ _ (h.oi k hk) nofun nofun,?_,fun i=>k2 (h.fi i) fun k hk=>no _ _ (h.oV i k hk) nofun nofun,
  keep _ _ h.op nofun,keep _ _ h.om nofun,fun k hk=>keep _ _ (h.on k hk) nofun,fun k hk=>keep _ _ (h.oo k hk) nofun,fun k hk=>keep _ _ (h.oi k hk) nofun,?_,fun i k hk=>keep _ _ (h.oV i k hk) nofun,?_,?_⟩,rfl⟩,?_,?_⟩
 ·have h1:=cC (aB h.ro u fun k hk=>no1 _ _ (h.oo k hk) nofun) (i:=j) (by omega) v;rw[yI] at h1;exact h1
 ·intro i;by_cases e:i=j
  ·subst e;show World.ownsRow _ _ _ _ (iU fo i v i) (iU U i L i).length (aQ (iU U i L i))
   rw[gR,gR];exact aB o us nvg
  ·show World.ownsRow _ _ _ _ (iU fo j v i) (iU U j L i).length (aQ (iU U j L i))
   rw[dY _ _ e,dY _ _ e];exact k2 (h.fo i) fun k hk=>no _ _ (h.oU i k hk) (fun h=>by injection h with h;exact e h) nofun
 ·intro i k hk;by_cases e:i=j
  ·subst e;have hk:(iU fo i v i).ownBlock=some k:=hk;rw[gR] at hk;exact if_pos hk
  ·have hk:(iU fo j v i).ownBlock=some k:=hk;rw[dY _ _ e] at hk;exact keep _ _ (h.oU i k hk) (fun h=>by injection h with h;exact e h)
 ·intro k hk;(try dsimp only at hk)
  by_cases h1:v.ownBlock=some k
  ·exact Nat.lt_of_lt_of_le (o.lt k h1).2 us.size
  ·rw[if_neg h1] at hk;exact Nat.lt_of_lt_of_le (h.lt k hk) (Nat.le_trans u.size us.size)
 ·intro k hk;refine⟨?_,(h.out k hk).2⟩;show iU fo j v k=_
  rw[dY _ _ (by omega)];exact(h.out k hk).1
 ·exact(u.mono (fun k _ hk=>by rw[h.oU j k hk];nofun)).trans us (fun k hk=>.inl (by rw[hk,hg];nofun))
 ·intro k hk;(try dsimp only at hk ⊢)
  by_cases h1:v.ownBlock=some k
  ·rcases hv k h1 with h2|h2
   ·rw[h2];exact .inl nofun
   ·exact .inr h2.2
  ·rw[if_neg h1] at hk;exact .inl hk
theorem GrI.setI(h:GrI w O p N U V cnt ⟨r,nv,ov,.slice (some ⟨g,0,none⟩) N.length c,fo,fi⟩)(hj:j<N.length){v:Value}{L:List Hp}(o:w'.ownsRow 0 143 2 v L.length (aQ L))(u:Upd (fun k=>(fi j).ownBlock=some k) w w')
  (pl:∀k,v.ownBlock=some k→(fi j).ownBlock=some k∨w.heap.size≤k):jE w (fun k=>O k≠none) p N U (iU V j L) cnt (w'.setCell ⟨g,j,none⟩ v):=by
 have us:=(Upd.refl (fun k=>k=g) w').setCell (p:=⟨g,j,none⟩) (.inl rfl) v;have hg:O g=some .i:=h.oi g rfl;have fresh:∀k,w.heap.size≤k→O k=none:=fun k hk=>by
  cases e:O k with
  | none=>rfl
  | some t=>have:=h.lt k (by simp[e]);omega
 have hv:∀k,v.ownBlock=some k→O k=some (.ii j)∨O k=none∧w.heap.size≤k:=fun k hk=>by
  rcases pl k hk with h1|h1
  ·exact .inl (h.oV j k h1)
  ·exact .inr ⟨fresh k h1,h1⟩
 have keep:∀k t,O k=some t→(t=Ro.ii j→False)→(if v.ownBlock=some k then some (Ro.ii j) else O k)=some t:=fun k t e ht=>by
  rw[if_neg,e];intro hk;rcases hv k hk with h1|h1
  ·rw[h1] at e;injection e with e;exact ht e.symm
  ·rw[h1.1] at e;cases e
 have no:∀k t,O k=some t→(t=Ro.ii j→False)→(t=Ro.i→False)→¬(fi j).ownBlock=some k∧¬k=g:=fun k t e h1 h2 =>
  ⟨fun hk=>(by have:=h.oV j k hk;rw[e] at this;injection this with this;exact h1 this),fun hk=>(by rw[hk,hg] at e;injection e with e;exact h2 e.symm)⟩
 have no1:∀k t,O k=some t→(t=Ro.ii j→False)→¬(fi j).ownBlock=some k:=fun k t e h1 hk=>by
  have:=h.oV j k hk;rw[e] at this;injection this with this;exact h1 this
 have nvg:∀k,v.ownBlock=some k→¬k=g:=fun k hk e=>by
  subst e;rcases hv k hk with h1|h1
  ·rw[hg] at h1;cases h1
  ·rw[hg] at h1;cases h1.1
 have k2:=fun {x:Value} {base e size n:Nat} {xs:List Value} (hx:w.ownsRow base e size x n xs) (hr:∀k,x.ownBlock=some k→¬(fi j).ownBlock=some k∧¬k=g)=>aB (aB hx u fun k hk=>(hr k hk).1) us fun k hk=>(hr k hk).2
 have b:=no _ _ h.op nofun nofun;have bm:=no _ _ h.om nofun nofun;refine⟨_,⟨fun k=>if v.ownBlock=some k then some (Ro.ii j) else O k,⟨r,nv,ov,.slice (some ⟨g,0,none⟩) N.length c,fo,iU fi j v⟩,⟨(h.blk.upd u b.1).upd us b.2,(h.map.upd u bm.1).upd us bm.2,k2 h.rn fun k hk=>no _ _ (h.on k hk) nofun nofun,k2 h.ro fun k hk=>no _ _ (h.oo k hk) nofun nofun,?_,fun i=>k2 (h.fo i) fun k hk=>no _ _ (h.oU i k hk) nofun nofun,?_,
  keep _ _ h.op nofun,keep _ _ h.om nofun,fun k hk=>keep _ _ (h.on k hk) nofun,fun k hk=>keep _ _ (h.oo k hk) nofun,fun k hk=>keep _ _ (h.oi k hk) nofun,fun i k hk=>keep _ _ (h.oU i k hk) nofun,?_,?_,?_⟩,rfl⟩,?_,?_⟩
 ·have h1:=cC (aB h.ri u fun k hk=>no1 _ _ (h.oi k hk) nofun) (i:=j) (by omega) v;rw[yI] at h1;exact h1
 ·intro i;by_cases e:i=j
  ·subst e;show World.ownsRow _ _ _ _ (iU fi i v i) (iU V i L i).length (aQ (iU V i L i))
   rw[gR,gR];exact aB o us nvg
  ·show World.ownsRow _ _ _ _ (iU fi j v i) (iU V j L i).length (aQ (iU V j L i))
   rw[dY _ _ e,dY _ _ e];exact k2 (h.fi i) fun k hk=>no _ _ (h.oV i k hk) (fun h=>by injection h with h;exact e h) nofun
 ·intro i k hk;by_cases e:i=j
  ·subst e;have hk:(iU fi i v i).ownBlock=some k:=hk;rw[gR] at hk;exact if_pos hk
  ·have hk:(iU fi j v i).ownBlock=some k:=hk;rw[dY _ _ e] at hk;exact keep _ _ (h.oV i k hk) (fun h=>by injection h with h;exact e h)
 ·intro k hk;(try dsimp only at hk)
  by_cases h1:v.ownBlock=some k
  ·exact Nat.lt_of_lt_of_le (o.lt k h1).2 us.size
  ·rw[if_neg h1] at hk;exact Nat.lt_of_lt_of_le (h.lt k hk) (Nat.le_trans u.size us.size)
 ·intro k hk;refine⟨(h.out k hk).1,?_⟩;show iU fi j v k=_
  rw[dY _ _ (by omega)];exact(h.out k hk).2
 ·exact(u.mono (fun k _ hk=>by rw[h.oV j k hk];nofun)).trans us (fun k hk=>.inl (by rw[hk,hg];nofun))
 ·intro k hk;(try dsimp only at hk ⊢)
  by_cases h1:v.ownBlock=some k
  ·rcases hv k h1 with h2|h2
   ·rw[h2];exact .inl nofun
   ·exact .inr h2.2
  ·rw[if_neg h1] at hk;exact .inl hk
theorem GrI.setC{D:GrD}(h:GrI w O p N U V cnt D)(x:Int):jE w (fun k=>O k≠none) p N U V x (w.setCell ⟨p,4,none⟩ (.int .i64 x)):=by
 have us:=(Upd.refl (fun k=>k=p) w).setCell (p:=⟨p,4,none⟩) (.inl rfl) (.int .i64 x);have no:∀k t,O k=some t→(t=Ro.p→False)→¬k=p:=fun k t e ht hk=>by
  rw[hk,h.op] at e;injection e with e;exact ht e.symm
 exact⟨_,⟨O,D,⟨h.blk.set 4 _,h.map.upd us (no _ _ h.om nofun),aB h.rn us fun k hk=>no _ _ (h.on k hk) nofun,aB h.ro us fun k hk=>no _ _ (h.oo k hk) nofun,aB h.ri us fun k hk=>no _ _ (h.oi k hk) nofun,
  fun j=>aB (h.fo j) us fun k hk=>no _ _ (h.oU j k hk) nofun,fun j=>aB (h.fi j) us fun k hk=>no _ _ (h.oV j k hk) nofun,h.op,h.om,h.on,h.oo,h.oi,h.oU,h.oV,fun k hk=>Nat.lt_of_lt_of_le (h.lt k hk) us.size,h.out⟩,rfl⟩,
  us.mono (fun k _ hk=>by rw[hk,h.op];nofun),fun k hk=>.inl hk⟩
end
end Go.Proofs.YteffnejneoocgaaGreatDoor
