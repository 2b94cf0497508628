/- The cells of a block, as an iterator; A new variable of many cells that is stored into at once; a value that is put together. Nothing here names the program; The cells of the blocks of one row: quad.cells, at one block. (Written by mkQeC.py.); All cells of a matrix, as an iterator; Matrices: each call on none; layer 17's laws: same, is a matrix what it must be?; GraphPlays: a slot holds a graph of the program's and one of the document's; a step keeps it so. -/
import Derived.Shelf.Abstract
import Derived.Shelf.RegionOpen
import Derived.TacticsInMore
import Derived.LoopNIn
import Derived.LoopIn
import Derived.Test.YtddffnonlmfhdaaGreatDoorU11
import Derived.Test.YtddffnonlmfhdaaGreatDoorU13
import Derived.Laws.NewFold
import Derived.Deep.MidRow
import Derived.Test.YtddffnonlmfhdaaGreatDoorU01
import Derived.Test.YtddffnonlmfhdaaGreatDoorU12
set_option linter.unusedVariables false
set_option linter.unusedSimpArgs false
set_option maxHeartbeats 16000000
set_option maxRecDepth 100000
namespace Go.Proofs.YtddffnonlmfhdaaGreatDoor
open Go.RowKit Go.Shelf
attribute [local go_sem] Oper.semAt_some
section
variable {F:Fence} {nF:Nat} {P:Program} {ops:Array Oper} {rest:List Oper} {op:Oper} {a:Act} {w:World} {Q:Exit→Act→World→Prop}
theorem mD(hgd:op.guard=none)(ty:TypeId)(x:Operand)(ho:op.op=.load ty x)(b o:Nat)(hx:a.eval x=.pointer (some ⟨b,o,none⟩))(cs:List Value)(d:TypeDesc)(hc:w.rangeAt b o cs)
  (hu:P.underlying ty=some d) (hd:d.isRow=true) (hi:(P.info? ty).map (·.size)=some cs.length) (h:wpListIn F nF P ops Q rest (a.put op.dst (.agg cs.toArray)) w):wpListIn F nF P ops Q (op::rest) a w:=by
 refine wpListIn_plain hgd fun K hK=>?_
 unfold Oper.wpIn;refine⟨by simp[Oper.about,ho],?_⟩;rw[Oper.semAt_plain F _ _ (by rw[ho];intro c hc';cases hc')];simp only[execOp,ho,hx,run_loadAt_mid w b o ty cs d hc hu hd hi,Sem.run_bind,Result.andThen_ok]
 exact hK _ _ h
end
def fY{α:Type}(L:List α)(Q:α→Prop)(hQ:∀x∈L,Q x):List {x:α // Q x}:=L.attachWith Q hQ
theorem fZ{α:Type}(L:List α)(Q:α→Prop)(hQ:∀x∈L,Q x):(fY L Q hQ).length=L.length:=List.length_attachWith
theorem MP{α:Type}{L:List α}{Q:α→Prop}{hQ:∀x∈L,Q x}{k:Nat}{x:α}(h:L[k]?=some x):∃hx:Q x,(fY L Q hQ).take (k+1)=(fY L Q hQ).take k++[⟨x,hx⟩]:=by
 refine⟨hQ x (mG h),?_⟩;have h5:=(gO.1 h).1;have h6:=(gO.1 h).2;rw[List.take_add_one];congr 1
 unfold fY;rw[List.getElem?_attachWith];simp[h5,h6]
theorem xZ{α:Type}{L:List α}{Q:α→Prop}{hQ:∀x∈L,Q x}{k:Nat}(h:L.drop k=[]):(fY L Q hQ).take k=fY L Q hQ:=by
 rw[List.take_of_length_le];rw[fZ];exact List.drop_eq_nil_iff.1 h
theorem EC{α:Type}{L M:List α}{k:Nat}{x:α}(h:L.drop k=x::M):L[k]?=some x∧L.drop (k+1)=M:=by
 constructor
 ·rw[← List.head?_drop,h];rfl
 ·rw[← List.tail_drop,h];rfl
theorem ED{k y:Nat}(h0:y≠0)(h:y<18446744073709551616):lH k y=(k,Lib.ctz 64 y)::lH k (y &&& (y-1)):=by
 unfold lH;rw[qF 64 0 y h0 (by simpa using h),List.map_cons,Nat.zero_add]
theorem uN{r:List Nat}{k x:Nat}(h:r[k]?=some x):cK k (r.drop k)=lH k x++cK (k+1) (r.drop (k+1)):=by
 have h1:=(gO.1 h).1;rw[List.drop_eq_getElem_cons h1,cK,(gO.1 h).2]
theorem oY{y:Nat}(h:y≠0):y &&& (y-1)<y:=Nat.lt_of_le_of_lt Nat.and_le_right (by omega)
def OX{Q:Nat × Nat→Prop}(x:{x:Nat × Nat // Q x}):Array Value:=#[.agg #[.int .i64 (x.1.1:Int),.int .i64 (x.1.2:Int)]]
def ND(q:Nat):Prop:=q=1
theorem iN.lt{w:World}(h:iN w):1<w.heap.size:=World.block_lt_of_cell? w _ (h 0 (by decide))
theorem iN.kp{lb:Nat}{F:Nat→Prop}{A B:World}(h:iN A)(k:KpM lb F A B)(r:RgM lb A)(p:Prv lb F A 1):iN B:=
 h.upd (k r).1 h.lt p.2

theorem EE(l lb b:Nat)(F:Nat→Prop)(r:List Nat)(hr:Wd r)(Q:Nat × Nat→Prop)(hQ:∀x∈cK 0 r,Q x)(J Jx:List {x:Nat × Nat // Q x}→World→Prop)(W:World)(hJ:jQ lb F W.heap.size J)
  (hrg:RgM lb W) (hp:Prv lb F W 1) (hT:iN W) (hb:Blk W b 168 (wdC r).toArray)
  (hY:∀pre x W1,J pre W1→pre.length<(cK 0 r).length→YieldAt Fence.wide 0 Tryz.prog l (OX x) W1 fun e W'=>KpM lb F W1 W'∧((e=.returned (.bool true)∧J (pre++[x]) W')∨(e=.returned (.bool false)∧Jx (pre++[x]) W'))) (h0:J [] W) :
  Calls Tryz.prog 186 #[.func (.yield l) #[] #[],.pointer (some ⟨b,0,none⟩)] W fun e W'=>(∃v,e=.returned v) ∧
   ((∃ys,ys=fY (cK 0 r) Q hQ∧J ys W')∨(∃pre,(∃k,k≤(cK 0 r).length∧pre=(fY (cK 0 r) Q hQ).take k)∧Jx pre W')):=by
 have hlo:W.rangeAt b 0 (wdC r):=fR hb;have hsz:=fS hr;have H:=aI7 hr hJ hY hrg hp hT h0;have HX:=hIz (show ∀(W:World) (k x:Nat),r[k]?=some x→(Instr.index 168 (.agg (wdC r).toArray) (.int .i64 (k:Int))).run Tryz.prog W=.ok (.int .u64 (x:Int)) W from fun W k x h=>xH hr h);clear hr hJ hY hrg hp hT h0 hb;refine(callsIn_wide (n:=1)).1 ?_;refine callsIn_of_wp Tryz.func186 rfl trivial ?_ rfl;simp only[Tryz.ntmps186,List.size_toArray,List.length_cons,List.length_nil,Nat.reduceAdd,Nat.reduceSub,Array.replicate_succ,Array.replicate_zero,List.push_toArray,List.append_toArray,List.nil_append,List.cons_append]
 gi_wp2_with (refine mD rfl 168 _ rfl b 0 rfl (wdC r) (.array 64 166) hlo Tryz.underlying168 rfl hsz ?_)
 clear hlo hsz;gi_loopw [6] (fun i wr=>∃k c:Nat,k≤64∧i=.int .i64 k∧Hid ((cK 0 r).drop c=cK k (r.drop k)∧c≤(cK 0 r).length∧J ((fY (cK 0 r) Q hQ).take c) wr∧RgM lb wr∧Prv lb F wr 1∧iN wr)) (fun i _=>64-(intOf i).toNat)
 case atStart=>exact⟨0,0,Nat.zero_le _,rfl,hIz ⟨rfl,Nat.zero_le _,by simpa using H.out.2.2.2.2.2.2,H.out.2.2.2.1,H.out.2.2.2.2.1,H.out.2.2.2.2.2.1⟩⟩
 case round =>
  obtain⟨k,c,hk,rfl,hI⟩:=hrel;by_cases hlt:k<64
  ·have hltI:(k:Int)<(64:Int):=by omega
   have hkw:IntKind.i64.wrap ((k:Int)+1)=(k:Int)+1:=IntWalk.i64_in _ (by omega);obtain⟨x,hx⟩:∃x,r[k]?=some x:=⟨r[k]'(by rw[H.out.1.len];exact hlt),gEz _⟩;have hix:=HX.out wr k x hx;have HK:=aI2 (uN hx) (H.out.1.fit x (mG hx));clear hx;gi_wp2
   clear hix;gi_loopw [4] (fun a wr=>∃y c:Nat,a=.int .u64 (y:Int)∧Hid (y<18446744073709551616∧(cK 0 r).drop c=lH k y++cK (k+1) (r.drop (k+1))∧c≤(cK 0 r).length∧J ((fY (cK 0 r) Q hQ).take c) wr∧RgM lb wr∧Prv lb F wr 1∧iN wr)) (fun a _=>(intOf a).toNat)
   case atStart=>exact⟨x,c,rfl,hIz ⟨HK.out.2,hI.out.1.trans HK.out.1,hI.out.2⟩⟩
   case round =>
    obtain⟨y,c,rfl,hY⟩:=hrel;by_cases h0:y=0
    ·subst h0;have HE:=hIz (show(cK 0 r).drop c=cK (k+1) (r.drop (k+1)) by have:=hY.out.2.1;rwa [show lH k 0=[] from by unfold lH;rw[mA];rfl,List.nil_append] at this);gi_wp2
     go_roundw
     case rel=>exact⟨k+1,c,by omega,by go_num,hIz ⟨HE.out,hY.out.2.2⟩⟩
     case measure=>simp[intOf];omega
    ·have e1:((y:Int)==0)=false:=by simp;omega
     obtain⟨hy,hd,hc,hJ,hrg,hp,hT⟩:=hY.out;rw[ED h0 hy,List.cons_append] at hd;obtain⟨hat,hdr⟩:=EC hd;obtain⟨hq,htk⟩:=MP (Q:=Q) (hQ:=hQ) hat;have hcl:=(gO.1 hat).1;obtain⟨fn,tmps,assign,body,hyy,hR⟩:=H.out.2.2.1 _ ⟨(k,Lib.ctz 64 y),hq⟩ wr hJ (by rw[List.length_take,fZ];omega);dsimp only [OX] at hyy
     have hcon:=OH y hy h0 wr hT;have hb1:IntKind.u64.wrap ((y:Int)-1)=((y-1:Nat):Int):=by rw[IntKind.wrap_u64];omega
     have hb2:bits .and .u64 (y:Int) ((y-1:Nat):Int)=((y &&& (y-1):Nat):Int):=bits_and_u64_nat y (y-1) hy (by omega);have HZ:=aI7 hy hdr hcl htk hrg hp hT;clear hy hd hc hJ hrg hp hT hat hdr htk hcl;gi_wp2_with (refine⟨trivial,?_⟩;gi_at_call 187;refine(callsIn_wide.2 hcon).mono ?_;clear hcon;rintro e w1 ⟨rfl,hw⟩;subst w1)
     refine hR.mono ?_;rintro e W3 ⟨hk3,(⟨rfl,hJ3⟩|⟨rfl,hJx3⟩)⟩
     ·have HN:=hIz (show y &&& (y-1)<18446744073709551616∧(cK 0 r).drop (c+1)=lH k (y &&& (y-1))++cK (k+1) (r.drop (k+1))∧c+1≤(cK 0 r).length∧J ((fY (cK 0 r) Q hQ).take (c+1)) W3∧RgM lb W3∧Prv lb F W3 1∧iN W3 from
       ⟨Nat.lt_of_lt_of_le (oY h0) (Nat.le_of_lt HZ.out.1),HZ.out.2.1,HZ.out.2.2.1,by rw[HZ.out.2.2.2.1];exact hJ3,hk3.rg HZ.out.2.2.2.2.1,(hk3.prv HZ.out.2.2.2.2.1 HZ.out.2.2.2.2.2.1).2,HZ.out.2.2.2.2.2.2.kp hk3 HZ.out.2.2.2.2.1 HZ.out.2.2.2.2.2.1⟩)
      have HM:=hIz (oY h0);clear hJ3 hk3 hR hyy;gi_wp2
      go_roundw
      case rel=>exact⟨y &&& (y-1),c+1,rfl,HN⟩
      case measure=>have:=HM.out;simp only[intOf];omega
     ·clear hR hyy;gi_wp2
      refine bodyPost_ret (results_none rfl _ _ _) rfl ?_;exact⟨⟨_,rfl⟩,.inr ⟨_,⟨c+1,HZ.out.2.2.1,HZ.out.2.2.2.1.symm⟩,hJx3⟩⟩
  ·obtain rfl:k=64:=by omega
   have HE:=hIz (show(cK 0 r).drop c=[] by rw[hI.out.1,List.drop_of_length_le (by rw[H.out.1.len];exact Nat.le_refl _)];rfl);gi_wp2
   go_end0
   exact⟨⟨_,rfl⟩,.inl ⟨_,rfl,by have:=hI.out.2.2.1;rwa [xZ HE.out] at this⟩⟩
theorem uO(w:World)(b:Nat)(r:List Nat)(hr:Wd r)(Q:Nat × Nat→Prop)(hQ:∀x∈cK 0 r,Q x)(hb:Blk w b 168 (wdC r).toArray)(hT:iN w) :
  PS Tryz.prog 186 #[.pointer (some ⟨b,0,none⟩)] OX ND (fun ys=>ys=fY (cK 0 r) Q hQ) (fun pre=>∃k,k≤(cK 0 r).length∧pre=(fY (cK 0 r) Q hQ).take k) (cK 0 r).length w:=
 fun l lb F J Jx W hW hJ _ _ hrg hF hrow hY h0 =>
  have hu:=Upd.of_below hW (fun _=>False);have hTW:=hT.upd hu hT.lt id;EE l lb b F r hr Q hQ J Jx W hJ hrg ⟨hTW.lt,fun ha=>ha.elim (fun hf=>(hF _ hf).2 rfl) (fun ⟨v,hv,ho⟩=>hrow v _ hv ho rfl)⟩ hTW (hb.upd hu id) hY h0
open Go.RowKit
theorem wJ(w:World)(cur:Array Value)(t:TypeId)(o:Nat)(v:Value):(w.alloc (.cells cur t)).setCell ⟨w.heap.size,o,none⟩ v=w.alloc (.cells (cur.setIfInBounds o v) t):=by
 unfold World.setCell World.alloc;simp only
 congr 1
 apply Array.ext_getElem?
 intro k;rw[Array.getElem?_modify,Array.getElem?_push,Array.getElem?_push];by_cases h:k=w.heap.size
 ·subst h;simp
 ·rw[if_neg (fun e=>h e.symm),if_neg h,if_neg h]
theorem mQ(w:World)(t:TypeId):∀(vs:List Value) (o:Nat) (cur:Array Value),o+vs.length≤cur.size →
  ∃cur':Array Value,(w.alloc (.cells cur t)).setCells w.heap.size o vs=w.alloc (.cells cur' t)∧cur'.toList=cur.toList.take o++vs++cur.toList.drop (o+vs.length)
 | [],o,cur,_=>⟨cur,rfl,by simp⟩
 | v::r,o,cur,hl=>by
  simp only[List.length_cons] at hl
  obtain⟨c',e1,e3⟩:=mQ w t r (o+1) (cur.setIfInBounds o v) (by simp;omega);refine⟨c',?_,?_⟩
  ·show((w.alloc (.cells cur t)).setCell ⟨w.heap.size,o,none⟩ v).setCells w.heap.size (o+1) r=_
   rw[wJ,e1]
  rw[e3,Array.toList_setIfInBounds,List.drop_set_of_lt (by omega),List.take_set];have h1:(cur.toList.take (o+1)).set o v=cur.toList.take o++[v]:=by
   rw[List.take_add_one,gEz (by simp;omega)];rw[List.set_append_right _ _ (by simp;omega)];have:o-(cur.toList.take o).length=0:=by simp;omega
   rw[this];rfl
  rw[h1];simp[Nat.add_assoc,Nat.add_comm 1]
theorem uP(w:World)(t:TypeId)(vs:List Value)(cur:Array Value)(h:vs.length=cur.size):(w.alloc (.cells cur t)).setCells w.heap.size 0 vs=w.alloc (.cells vs.toArray t):=by
 obtain⟨c',e1,e2⟩:=mQ w t vs 0 cur (by omega);rw[e1];congr 2
 have:c'.toList=vs:=by rw[e2];simp;omega
 rw[← this]
section
variable {P:Program} {ops:Array Oper} {rest:List Oper} {a:Act} {w:World} {Q:Exit→Act→World→Prop}
theorem lF{op1 op2:Oper}(g1:op1.guard=none)(g2:op2.guard=none)(ty:TypeId)(x y:Operand)(o1:op1.op=.alloc ty)(o2:op2.op=.store ty x y)(cells:List Value)
  (hz:∃Z:Array Value,Z.size=cells.length∧∀w,(zeroValue ty).run P w=.ok (.agg Z) w)
  (hx:(a.put op1.dst (.pointer (some ⟨w.heap.size,0,none⟩))).eval x=.pointer (some ⟨w.heap.size,0,none⟩)) (hy:(a.put op1.dst (.pointer (some ⟨w.heap.size,0,none⟩))).eval y=.agg cells.toArray)
  (hi:(P.info? ty).map (·.size)=some cells.length) (h1:∀u∈cells,u.oneCell'=true)
  (h:wpList P ops Q rest ((a.put op1.dst (.pointer (some ⟨w.heap.size,0,none⟩))).put op2.dst undef) (w.alloc (.cells cells.toArray ty))):wpList P ops Q (op1::op2::rest) a w:=by
 obtain⟨Z,hs,hz⟩:=hz;refine wpList_plain g1 fun K hK=>?_
 unfold Oper.wp execOp;have hr:(Instr.alloc ty true (.tuple #[])).run P w=.ok (.pointer (some ⟨w.heap.size,0,none⟩)) (w.alloc (.cells Z ty)):=by
  unfold Instr.alloc newVar newRow;simp only[Sem.run_bind,hz,Result.andThen_ok,Value.cells,run_newObj_alloc,Sem.run_pure]
 simp only[o1,Sem.run_bind,hr,Result.andThen_ok,Sem.run_pure]
 refine hK _ _ ?_;have hb:=Blk.new w ty Z;refine wpList_store_mid g2 ty x y o2 w.heap.size 0 cells.toArray hx hy (fun j hj=>⟨by rw[Nat.zero_add,hb.cell j,Array.getElem?_eq_getElem (by simpa[hs] using hj)];rfl,hb.frozen _⟩) (by simpa using hi) (all_oneCell_toArray h1) ?_;rw[List.toList_toArray,uP w ty cells Z hs.symm];exact h
theorem uQ{op:Oper}(g:op.guard=none)(ty:TypeId)(parts:Array (Nat × Operand))(ho:op.op=.build ty parts)(vals:Array (Nat × Value))(v:Value)(hv:parts.map (fun (i,x)=>(i,a.eval x))=vals)
  (hb:(Instr.build ty vals).run P w=.ok v w) (h:wpList P ops Q rest (a.put op.dst v) w):wpList P ops Q (op::rest) a w:=by
 refine wpList_plain g fun K hK=>?_
 unfold Oper.wp execOp;simp only[ho,hv,Sem.run_bind,hb,Result.andThen_ok,Sem.run_pure]
 exact hK _ _ h
end
open Go.RowKit Go.Shelf
attribute [local go_sem] Oper.semAt_some
def NE{Q:Nat × Nat→Prop}(x:{x:Nat × Nat // Q x}):Array Value:=#[.int .i64 (x.1.1:Int),.int .i64 (x.1.2:Int)]
theorem yA{α:Type}(L:List α)(Q:α→Prop)(hQ:∀x∈L,Q x):(fY L Q hQ).map (·.1)=L:=by unfold fY;simp
theorem MQ{α:Type}{Q:α→Prop}{l m:List {x:α // Q x}}(h:l.map (·.1)=m.map (·.1)):l=m:=
 (List.map_inj_right (fun _ _ e=>Subtype.ext e)).1 h
theorem lG(k x:Nat):lH k x=(lH 0 x).map (fun y=>(k,y.2)):=by
 unfold lH;rw[List.map_map];rfl
def mR(x:Nat):List Nat:=x::List.replicate 63 0
theorem EF{x:Nat}(h:x<18446744073709551616):Wd (mR x):=⟨by simp[mR],fun y hy=>by
 rcases List.mem_cons.1 hy with rfl|hy
 ·exact h
 ·rw[List.eq_of_mem_replicate hy];decide⟩
def upC{Q:Nat × Nat→Prop}(k:Nat)(y:{y:Nat × Nat // Q (k,y.2)}):{x:Nat × Nat // Q x}:=⟨(k,y.1.2),y.2⟩
theorem uR{L R:List (Nat × Nat)}{Q:Nat × Nat→Prop}{hQ:∀x∈L,Q x}{c k x:Nat}(h:L.drop c=lH k x++R)(hQ':∀y∈cK 0 (mR x),Q (k,y.2))(j:Nat)(hj:j≤(cK 0 (mR x)).length) :
  (fY L Q hQ).take (c+j)=(fY L Q hQ).take c++((fY (cK 0 (mR x)) (fun y=>Q (k,y.2)) hQ').take j).map (upC k):=by
 apply MQ
 rw[List.map_append,List.map_map,List.map_take,List.map_take,yA,List.take_add,h];congr 1
 have e:((fun z:{x:Nat × Nat // Q x}=>z.1) ∘ upC (Q:=Q) k)=(fun y:Nat × Nat=>(k,y.2)) ∘ (fun y:{y:Nat × Nat // Q (k,y.2)}=>y.1):=rfl;rw[e,← List.map_map,List.map_take,yA];have hl:(cK 0 (mR x))=lH 0 x:=nJ x;rw[hl] at hj ⊢;rw[List.take_append_of_le_length (by rw[lG,List.length_map];exact hj),lG,List.map_take]
theorem yB{L R:List (Nat × Nat)}{Q:Nat × Nat→Prop}(hQ:∀x∈L,Q x){c k x:Nat}(h:L.drop c=lH k x++R):∀y∈cK 0 (mR x),Q (k,y.2):=fun y hy=>by
 refine hQ _ (List.mem_of_mem_drop (i:=c) ?_);rw[h,lG];rw[show cK 0 (mR x)=lH 0 x from nJ x] at hy;exact List.mem_append_left _ (List.mem_map.2 ⟨y,hy,rfl⟩)
theorem zP(x:Nat)(w:World):(Instr.build 168 #[(0,.int .u64 (x:Int))]).run Tryz.prog w=.ok (wdV (mR x)) w:=by
 refine run_build w _ _ _ ?_;kernel_rfl
theorem oZ:∃Z:Array Value,Z.size=66∧∀w,(zeroValue 196).run Tryz.prog w=.ok (.agg Z) w:=
 ⟨(List.replicate 2 (Value.int .i64 0)++List.replicate 64 (Value.int .u64 0)).toArray,by decide,fun w=>by kernel_rfl⟩
theorem MR{r:List Nat}(hr:Wd r):(Tryz.prog.info? 196).map (·.size)=some (plC r).length:=by rw[oM hr];kernel_rfl
theorem wK{P:Program}{l l2 m n:Nat}{args:Array Value}{W:World}{R:Ending→World→Prop}(h:YieldAt Fence.wide m P l args W R):YieldAt (Fence.wide.inRound l2) n P l args W R:=by
 obtain⟨fn,tmps,assign,body,hy,hR⟩:=h;exact⟨fn,tmps,assign,body,hy,trivial,fun c cs _=>hR.2 c cs (fun d h=>by cases h)⟩

structure CeI(lb g0:Nat)(F:Nat→Prop)(L:List (Nat × Nat))(r:List Nat)(Q:Nat × Nat→Prop)(hQ:∀x∈L,Q x)(J:List {x:Nat × Nat // Q x}→World→Prop)(W1 wr:World)(k c:Nat)(Ds:List Nat):Prop where
 at_:L.drop c=cK k (r.drop k)
 le:c≤L.length
 j:J ((fY L Q hQ).take c) wr
 kp:KpM lb (fun q=>F q∨q=g0+1) W1 wr
 b4:Blk wr (g0+1) 4 #[.bool false]
 p4:Prv lb F wr (g0+1)
 nd:Ds.Nodup
 ds:∀D∈Ds,W1.heap.size≤D∧Prv lb F wr D∧wr.heap[D]?=some (.deferred (some []))

structure QK(lb g0:Nat)(F:Nat→Prop)(r:List Nat)(l k g5:Nat)(W4:World):Prop where
 lt:lb<W4.heap.size
 rg:RgM lb W4
 fF:∀q,F q∨q=g0+1→q<W4.heap.size∧¬ND q
 row:∀v q,W4.cell? ⟨lb,0,none⟩=some v→v.ownBlock=some q→¬ND q
 tab:iN W4
 k3:Blk W4 g0 194 #[.func (.yield l) #[] #[]]
 p3:Prv lb (fun q=>F q∨q=g0+1) W4 g0
 k5:Blk W4 g5 3 #[.int .i64 (k:Int)]
 p5:Prv lb (fun q=>F q∨q=g0+1) W4 g5
 k7:Blk W4 (g5+1) 196 (plC r).toArray
 p7:Prv lb (fun q=>F q∨q=g0+1) W4 (g5+1)
 k4:Blk W4 (g0+1) 4 #[.bool false]
 p4:Prv lb F W4 (g0+1)
theorem EG{lb:Nat}{F:Nat→Prop}{L:List (Nat × Nat)}{r:List Nat}{Q:Nat × Nat→Prop}{hQ:∀x∈L,Q x}{J:List {x:Nat × Nat // Q x}→World→Prop}{l ga x k c':Nat}{Ds:List Nat}{W W1 wr W3 W4:World}
  (HW:Below W.heap.size W W1∧Blk W1 W.heap.size 194 #[.func (.yield l) #[] #[]]∧Prv lb (fun q=>F q∨q=W.heap.size+1) W1 W.heap.size∧Prv lb (fun q=>F q∨q=W.heap.size+1) W1 1∧Prv lb (fun q=>F q∨q=W.heap.size+1) W1 ga∧iN W1∧W1.rangeAt ga 0 (plC r)∧RgM lb W1∧lb<W1.heap.size∧W1.heap.size=W.heap.size+2∧KpM lb F W W1)
  (hF:∀q,F q→q<W.heap.size) (HI:CeI lb W.heap.size F L r Q hQ J W1 wr k c' Ds)
  (HX:cK k (r.drop k)=lH k x++cK (k+1) (r.drop (k+1))∧x<18446744073709551616∧RgM lb wr∧lb<wr.heap.size∧Below wr.heap.size wr W3∧Blk W3 wr.heap.size 3 #[.int .i64 (k:Int)]∧Blk W3 (wr.heap.size+1) 196 (plC r).toArray∧W3.heap.size=wr.heap.size+2)
  (HB:Blk W4 W3.heap.size 168 (wdC (mR x)).toArray∧Below W3.heap.size W3 W4∧W4.heap.size=W3.heap.size+1):QK lb W.heap.size F r l k wr.heap.size W4:=by
 obtain⟨b1,k3,p3,pT,pA,tab,rA,r1,lb1,z1,kp1⟩:=HW;obtain⟨-,hx,rwr,lbr,b3,k5,k7,z3⟩:=HX;obtain⟨kB,b4,z4⟩:=HB;have zr:=HI.kp.size r1;have bb:Below wr.heap.size wr W4:=b3.trans (b4.mono (by omega));have hF':∀q,F q∨q=W.heap.size+1→q<wr.heap.size:=fun q h=>h.elim (fun h=>by have:=hF q h;omega) (fun h=>by omega)
 have ub:=Upd.of_below bb (fun _=>False);have u4:=Upd.of_below b4 (fun _=>False);have pT4:=((HI.kp.prv r1 pT).2).below bb lbr;refine⟨by omega,(KpM.of_below (F:=F) bb lbr).rg rwr,fun q h=>⟨by have:=hF' q h;omega,fun e=>by
  unfold ND at e;subst e;exact pT4.2 (.inl h)⟩,fun v q hv ho e=>?_,(tab.kp HI.kp r1 pT).upd ub (by have:=(tab.kp HI.kp r1 pT).lt;exact this) id,(HI.kp.blk r1 p3 k3).upd ub id,(HI.kp.prv r1 p3).2.below bb lbr,k5.upd u4 id,?_,k7.upd u4 id,?_,HI.b4.upd ub id,HI.p4.below bb lbr⟩
 ·unfold ND at e;subst e;exact pT4.2 (.inr ⟨v,hv,ho⟩)
 ·exact Prv.since bb lbr rwr hF' (Nat.le_refl _) (by omega)
 ·exact Prv.since bb lbr rwr hF' (by omega) (by omega)
def OY{Q:Nat × Nat→Prop}(lb g0:Nat)(F:Nat→Prop)(J:List {x:Nat × Nat // Q x}→World→Prop)(pre0:List {x:Nat × Nat // Q x})(k:Nat)(W4:World)(pre:List {y:Nat × Nat // Q (k,y.2)})(V:World):Prop:=
 J (pre0++pre.map (upC k)) V∧KpM lb (fun q=>F q∨q=g0+1) W4 V∧Blk V (g0+1) 4 #[.bool false]∧Prv lb F V (g0+1)∧lb<V.heap.size
def PT{Q:Nat × Nat→Prop}(lb g0:Nat)(F:Nat→Prop)(Jx:List {x:Nat × Nat // Q x}→World→Prop)(pre0:List {x:Nat × Nat // Q x})(k:Nat)(W4:World)(c:Code)(pre:List {y:Nat × Nat // Q (k,y.2)})(V:World):Prop:=
 c=.ret∧Jx (pre0++pre.map (upC k)) V∧KpM lb (fun q=>F q∨q=g0+1) W4 V∧Blk V (g0+1) 4 #[.bool false]
theorem yC{Q:Nat × Nat→Prop}{lb g0:Nat}{F:Nat→Prop}{J:List {x:Nat × Nat // Q x}→World→Prop}{pre0:List {x:Nat × Nat // Q x}}{k:Nat}{W4:World}(hJ:jQ lb F g0 J)(hl:lb<W4.heap.size)(r4:RgM lb W4)(hg:g0+1<W4.heap.size) :
  jQ lb (fun q=>F q∨q=g0+1) W4.heap.size (OY lb g0 F J pre0 k W4):=by
 rintro s X Y row ⟨h1,h2,h3,h4,h5⟩ hgr hr;refine⟨((hJ.monoF (F':=fun q=>F q∨q=g0+1) (fun _=>.inl)).from (by omega)) _ X Y row h1 hgr hr,iX (β:=Unit) (Nat.le_refl _) hl r4 () X Y row h2 hgr hr,h3.grown hgr (fun e=>by have:=(hr _ e.symm).1;omega),h4.own hgr h5 (fun e=>by have:=(hr _ e).1;omega),Nat.lt_of_lt_of_le h5 hgr.size⟩
theorem IX{Q:Nat × Nat→Prop}{lb g0:Nat}{F:Nat→Prop}{Jx:List {x:Nat × Nat // Q x}→World→Prop}{pre0:List {x:Nat × Nat // Q x}}{k:Nat}{W4:World}(hJ:jQ lb F g0 Jx)(hl:lb<W4.heap.size)(r4:RgM lb W4)(hg:g0+1<W4.heap.size)(c:Code) :
  jQ lb (fun q=>F q∨q=g0+1) W4.heap.size (PT lb g0 F Jx pre0 k W4 c):=by
 rintro s X Y row ⟨h0,h1,h2,h3⟩ hgr hr;exact⟨h0,((hJ.monoF (F':=fun q=>F q∨q=g0+1) (fun _=>.inl)).from (by omega)) _ X Y row h1 hgr hr,iX (β:=Unit) (Nat.le_refl _) hl r4 () X Y row h2 hgr hr,h3.grown hgr (fun e=>by have:=(hr _ e.symm).1;omega)⟩

theorem EH(l lb:Nat)(F:Nat→Prop)(A:Option Addr)(c:Nat)(r:List Nat)(hr:Wd r)(Q:Nat × Nat→Prop)(hQb:∀x,Q x→x.1<64∧x.2<64)(hQ:∀x∈cK 0 r,Q x)(J Jx:List {x:Nat × Nat // Q x}→World→Prop)(W:World)
  (hJ:jQ lb F W.heap.size J) (hJx:jQ lb F W.heap.size Jx) (hlb:lb<W.heap.size) (hrg:RgM lb W) (hF:∀q,F q→q<W.heap.size) (hp:Prv lb F W 1) (hT:iN W)
  (hrow:W.ownsRow 0 196 66 (.slice A 1 c) 1 (plC r)) (hpr:∀k,(Value.slice A 1 c).ownBlock=some k→Prv lb F W k)
  (hY:∀pre x W1,J pre W1→pre.length<(cK 0 r).length→YieldAt Fence.wide 0 Tryz.prog l (NE x) W1 fun e W'=>KpM lb F W1 W'∧((e=.returned (.bool true)∧J (pre++[x]) W')∨(e=.returned (.bool false)∧Jx (pre++[x]) W'))) (h0:J [] W) :
  Calls Tryz.prog 121 #[.slice A 1 c,.func (.yield l) #[] #[]] W fun e W'=>KpM lb F W W'∧((e=.returned (.bool true)∧J (fY (cK 0 r) Q hQ) W') ∨
   (e=.returned (.bool false)∧∃pre,(∃k,k≤(cK 0 r).length∧pre=(fY (cK 0 r) Q hQ).take k)∧Jx pre W')):=by
 obtain⟨ga,cc,e,hob,-,-,-,hcell⟩:=bC hrow (by decide);injection e with e1 e2 e3;subst e1;subst e3;have hpa:=hpr ga hob;have k3:=(Blk.new W 194 #[.func (.yield l) #[] #[]]).alloc (.cells #[.bool false] 4);have k4:=Blk.new (W.alloc (.cells #[.func (.yield l) #[] #[]] 194)) 4 #[.bool false];have b1:Below W.heap.size W ((W.alloc (.cells #[.func (.yield l) #[] #[]] 194)).alloc (.cells #[.bool false] 4)):=by(repeat (first | exact Below.refl _ _ | apply Below.drew | refine Below.alloc ?_ (by first | exact Nat.le_refl _ | (simp;done) | (simp;omega)) _ | refine Below.setCell ?_ (by first | exact Nat.le_refl _ | (simp;done) | (simp;omega)) _))
 simp only[World.size_alloc] at k4
 have z1:((W.alloc (.cells #[.func (.yield l) #[] #[]] 194)).alloc (.cells #[.bool false] 4)).heap.size=W.heap.size+2:=by simp
 have H:=aI11 hr hJ hJx hlb hrg hF hp hT hpa hcell hY;clear hr hJ hJx hlb hrg hF hp hT hpa hcell hpr hrow hob hY e2;refine(callsIn_wide (n:=1)).1 ?_;refine callsIn_of_wp_marks Tryz.func121 rfl trivial ?_ rfl;simp only[Tryz.ntmps121,List.size_toArray,List.length_cons,List.length_nil,Nat.reduceAdd,Nat.reduceSub,Array.replicate_succ,Array.replicate_zero,List.push_toArray,List.append_toArray,List.nil_append,List.cons_append]
 refine wpIn_wide.2 ?_;go_upto_region 1 with (fail);generalize hW1:(W.alloc (.cells #[.func (.yield l) #[] #[]] 194)).alloc (.cells #[.bool false] 4)=W1 at k3 k4 b1 z1 ⊢;have j1:J [] W1:=H.out.2.1.below h0 b1;clear hW1 h0;have kp1:=KpM.of_below (lb:=lb) (F:=F) b1 H.out.2.2.2.1;have r1:=kp1.rg H.out.2.2.2.2.1;have lb1:lb<W1.heap.size:=by have:=H.out.2.2.2.1;omega
 have n4:¬(W.heap.size+1=1):=by have:=H.out.2.2.2.2.2.2.2.1.lt;omega
 have pF:∀{X:World} {q:Nat},Prv lb F X q→q≠W.heap.size+1→Prv lb (fun q=>F q∨q=W.heap.size+1) X q:=fun h hn=>⟨h.1,fun ha=>ha.elim (fun hf=>hf.elim (fun h1=>h.2 (.inl h1)) hn) (fun h2=>h.2 (.inr h2))⟩
 have p4:Prv lb F W1 (W.heap.size+1):=Prv.since b1 H.out.2.2.2.1 H.out.2.2.2.2.1 H.out.2.2.2.2.2.1 (by omega) (by omega);have p3:Prv lb (fun q=>F q∨q=W.heap.size+1) W1 W.heap.size:=pF (Prv.since b1 H.out.2.2.2.1 H.out.2.2.2.2.1 H.out.2.2.2.2.2.1 (by omega) (by omega)) (by omega);have pT:Prv lb (fun q=>F q∨q=W.heap.size+1) W1 1:=pF (kp1.prv H.out.2.2.2.2.1 H.out.2.2.2.2.2.2.1).2 (fun e=>n4 e.symm);have pA:Prv lb (fun q=>F q∨q=W.heap.size+1) W1 ga:=pF (kp1.prv H.out.2.2.2.2.1 H.out.2.2.2.2.2.2.2.2.1).2 (by have:=H.out.2.2.2.2.2.2.2.2.1.1;omega);have tab1:=H.out.2.2.2.2.2.2.2.1.kp kp1 H.out.2.2.2.2.1 H.out.2.2.2.2.2.2.1;have rA:W1.rangeAt ga 0 (plC r):=fun j v hv=>by
  rw[Nat.zero_add,b1.cell (p:=⟨ga,j,none⟩) H.out.2.2.2.2.2.2.2.2.1.1];exact(H.out.2.2.2.2.2.2.2.2.2.1 j v hv).1
 have I0:CeI lb W.heap.size F (cK 0 r) r Q hQ J W1 W1 0 0 []:=⟨rfl,Nat.zero_le _,by simpa using j1,KpM.refl _ _ _,k4,p4,List.nodup_nil,fun D hD=>by cases hD⟩;have HW:=aI11 b1 k3 p3 pT pA tab1 rA r1 lb1 z1 kp1;have PF:=hIz (show ∀(X:World) (q:Nat),Prv lb F X q→q≠W.heap.size+1→Prv lb (fun q=>F q∨q=W.heap.size+1) X q from fun X q=>pF);have HI0:=hIz I0;clear I0 b1 k3 k4 p3 p4 pT pA tab1 rA r1 lb1 z1 kp1 j1 n4 pF;go_wp2;refine wp_loop (fun a wr=>∃(k c':Nat) (Ds:List Nat) (u2 u5 u6 u7 u8 u10 u11 u12 u13 u14 u15 u16 u17 u18 u19 u20 u21 u22 u23 u24 u25 u26 u27 u28 u29 u30 u31 u32 u33 u34 u35 u36 u37 u38 u39 u40 u41 u42:Value),a=⟨#[.slice (some ⟨ga,0,none⟩) 1 c,.func (.yield l) #[] #[],u2,.pointer (some ⟨W.heap.size,0,none⟩),.pointer (some ⟨W.heap.size+1,0,none⟩),u5,u6,u7,u8,.int .i64 (k:Int),u10,u11,u12,u13,u14,u15,u16,u17,u18,u19,u20,u21,u22,u23,u24,u25,u26,u27,u28,u29,u30,u31,u32,u33,u34,u35,u36,u37,u38,u39,u40,u41,u42],Ds.map (fun D=>{ target:=.collected D,args:=#[] })⟩∧k≤64∧CeI lb W.heap.size F (cK 0 r) r Q hQ J W1 wr k c' Ds) (fun a _=>64-(intOf (a.tmps.getD 9 undef)).toNat) ?_ ?_
 ·exact⟨0,0,[],_,_,_,_,_,_,_,_,_,_,_,_,_,_,_,_,_,_,_,_,_,_,_,_,_,_,_,_,_,_,_,_,_,_,_,_,_,_,rfl,by omega,HI0.out⟩
 ·rintro a wr ⟨k,c',Ds,u2,u5,u6,u7,u8,u10,u11,u12,u13,u14,u15,u16,u17,u18,u19,u20,u21,u22,u23,u24,u25,u26,u27,u28,u29,u30,u31,u32,u33,u34,u35,u36,u37,u38,u39,u40,u41,u42,rfl,hk,hI⟩;have HI:=hIz hI;clear hI;by_cases hlt:k<64
  ·have hltI:(k:Int)<(64:Int):=by omega
   have hkw:IntKind.i64.wrap ((k:Int)+1)=(k:Int)+1:=IntWalk.i64_in _ (by omega);obtain⟨x,hx⟩:∃x,r[k]?=some x:=⟨r[k]'(by rw[H.out.1.len];exact hlt),gEz _⟩;have hx64:=H.out.1.fit x (mG hx);have hpx:(plC r)[2+k]?=some (.int .u64 (x:Int)):=by rw[Nat.add_comm];exact jC hx
   have rw1:RgM lb wr:=HI.out.kp.rg HW.out.2.2.2.2.2.2.2.1;have lbr:lb<wr.heap.size:=Nat.lt_of_lt_of_le HW.out.2.2.2.2.2.2.2.2.1 (HI.out.kp.size HW.out.2.2.2.2.2.2.2.1);have rA:wr.rangeAt ga 0 (plC r):=fun j v hv=>by
    rw[World.cell?_of_block (w:=W1) (a:=⟨ga,0+j,none⟩) (HI.out.kp.prv HW.out.2.2.2.2.2.2.2.1 HW.out.2.2.2.2.1).1];exact HW.out.2.2.2.2.2.2.1 j v hv
   have k5:=(Blk.new wr 3 #[.int .i64 (k:Int)]).alloc (.cells (plC r).toArray 196);have k7:=Blk.new (wr.alloc (.cells #[.int .i64 (k:Int)] 3)) 196 (plC r).toArray;simp only[World.size_alloc] at k7
   have b3:Below wr.heap.size wr ((wr.alloc (.cells #[.int .i64 (k:Int)] 3)).alloc (.cells (plC r).toArray 196)):=by(repeat (first | exact Below.refl _ _ | apply Below.drew | refine Below.alloc ?_ (by first | exact Nat.le_refl _ | (simp;done) | (simp;omega)) _ | refine Below.setCell ?_ (by first | exact Nat.le_refl _ | (simp;done) | (simp;omega)) _))
   have z3:((wr.alloc (.cells #[.int .i64 (k:Int)] 3)).alloc (.cells (plC r).toArray 196)).heap.size=wr.heap.size+2:=by simp
   have rA2:(wr.alloc (.cells #[.int .i64 (k:Int)] 3)).rangeAt ga 0 (plC r):=fun j v hv=>by
    have:=rA j v hv;rw[World.cell?_alloc_lt wr _ ⟨ga,0+j,none⟩ (World.block_lt_of_cell? wr _ this)];exact this
   have hsz:=MR H.out.1;have h1c:=DA r;have HX:=aI8 (uN hx) hx64 rw1 lbr b3 k5 k7 z3;clear hx hx64 rw1 lbr b3 k5 k7 z3 rA;go_upto_region 5 with (fail);refine wp_loop_rounds 2 ?_;rw[rounds_succ];go_upto_region 7 with (first | (refine wpList_load_mid rfl 196 _ rfl ga 0 rfl (plC r) (.struct _) rA2 Tryz.underlying196 rfl hsz ?_) | (refine lF rfl rfl 196 _ _ rfl rfl (plC r) ⟨_,by rw[oM H.out.1];exact oZ.choose_spec.1,oZ.choose_spec.2⟩ rfl rfl hsz h1c ?_) | fail);clear rA2 hsz h1c;generalize hW3:(wr.alloc (.cells #[.int .i64 (k:Int)] 3)).alloc (.cells (plC r).toArray 196)=W3 at HX ⊢;have q5:W3.cell? ⟨wr.heap.size,0,none⟩=some (.int .i64 (k:Int)):=HX.out.2.2.2.2.2.1.cell 0;have q7:W3.cell? ⟨wr.heap.size+1,2+k,none⟩=some (.int .u64 (x:Int)):=by rw[HX.out.2.2.2.2.2.2.1.cell];simpa using hpx
   clear hW3 hpx;have hbu:=fun W:World=>zP x W
   have hcon:=zJ (mR x) (EF HX.out.2.1) W3;go_wp2_with (first | (refine uQ rfl 168 _ rfl #[(0,.int .u64 (x:Int))] (wdV (mR x)) rfl (hbu _) ?_) | fail);refine hcon.mono ?_;clear hcon hbu q5 q7;rintro e w4 ⟨rfl,hw4⟩;subst w4;have kB:=Blk.new W3 168 (wdC (mR x)).toArray;have b4:Below W3.heap.size W3 (W3.alloc (.cells (wdC (mR x)).toArray 168)):=bR.alloc (Nat.le_refl _) _;have z4:(W3.alloc (.cells (wdC (mR x)).toArray 168)).heap.size=W3.heap.size+1:=by simp
   have HB:=aI3 kB b4 z4;clear kB b4 z4;generalize W3.alloc (.cells (wdC (mR x)).toArray 168)=W4 at HB ⊢;go_wp2;have hd:(cK 0 r).drop c'=lH k x++cK (k+1) (r.drop (k+1)):=HI.out.at_.trans HX.out.1;have HR:=EG HW.out H.out.2.2.2.2.2.1 HI.out HX.out HB.out;have hg4:W.heap.size+1<W4.heap.size:=HR.k4.lt;have hQ':=yB hQ hd;have hm:∀j,j≤(cK 0 (mR x)).length→c'+j≤(cK 0 r).length:=fun j hj=>by
    have:=congrArg List.length hd;rw[List.length_drop,List.length_append,lG,List.length_map,← show cK 0 (mR x)=lH 0 x from nJ x] at this;have:=HI.out.le;omega
   have hst:=uO W4 W3.heap.size (mR x) (EF HX.out.2.1) (fun y=>Q (k,y.2)) hQ' HB.out.1 HR.tab;have j4:OY lb W.heap.size F J ((fY (cK 0 r) Q hQ).take c') k W4 [] W4:=by
    refine⟨?_,KpM.refl _ _ _,HR.k4,HR.p4,HR.lt⟩;have hb34:=HB.out.2.1;have h5:=tHn HX.out.2.2.2.2.1 hb34;have:=H.out.2.1.below HI.out.j h5;simpa using this
   have HS:=aI5 HR hg4 hm hd j4;have HT:=hIz hst;clear hst HR hg4 hm hd j4;refine oX (gf:=186) (cap:=#[.pointer (some ⟨W3.heap.size,0,none⟩)]) rfl (enters_of Tryz.func186 (by kernel_rfl) rfl) HT.out bR (fun q h=>by unfold ND at h;rw[h];exact HS.out.1.tab.lt) (fun _=>rfl)
    lb (fun q=>F q∨q=W.heap.size+1) HS.out.1.lt HS.out.1.rg HS.out.1.fF HS.out.1.row
    (OY lb W.heap.size F J ((fY (cK 0 r) Q hQ).take c') k W4) (PT lb W.heap.size F Jx ((fY (cK 0 r) Q hQ).take c') k W4)
    (yC H.out.2.1 HS.out.1.lt HS.out.1.rg HS.out.2.1) (IX H.out.2.2.1 HS.out.1.lt HS.out.1.rg HS.out.2.1) HS.out.2.2.2.2
    (fun T y b=>(T.setIfInBounds 24 (.agg #[.int .i64 (y.1.1:Int),.int .i64 (y.1.2:Int)])).setIfInBounds 8 (.pointer (some ⟨b,0,none⟩)))
    (fun y b V=>Blk V b 83 #[.int .i64 (y.1.1:Int),.int .i64 (y.1.2:Int)]∧W4.heap.size≤b)
    ?hBx ?assign ?body ?done ?stop
   case hBx=>exact fun y b s X Y row h hg hr=>⟨h.1.keep hg hr,h.2⟩
   case assign =>
    rintro l2 pre y V Kc hrV hsV hi hK;dsimp only [OX]
    have HI2:=hIz hi;clear hi;gi_wp2
    have hi:=HI2.out;exact hK V.heap.size _ (KpM.of_below (bR.alloc (Nat.le_refl _) _) hi.2.2.2.2) ((yC H.out.2.1 HS.out.1.lt HS.out.1.rg HS.out.2.1).alloc _ hi) ⟨Blk.new V _ _,hsV⟩
   case body =>
    rintro l2 pre y b V hrV hsV ⟨j1,kp,kb4,pb4,lbV⟩ ⟨kx,hbx⟩ hlt2;have hyb:=hQb _ y.2;have hR:=HS.out.1;have c3:V.cell? ⟨W.heap.size,0,none⟩=some (.func (.yield l) #[] #[]):=(kp.blk hR.rg hR.p3 hR.k3).cell 0;have k7:=kp.blk hR.rg hR.p7 hR.k7;have c70:V.cell? ⟨wr.heap.size+1,0,none⟩=some (.int .i64 0):=k7.cell 0;have c71:V.cell? ⟨wr.heap.size+1,1,none⟩=some (.int .i64 0):=k7.cell 1;have c5:V.cell? ⟨wr.heap.size,0,none⟩=some (.int .i64 (k:Int)):=(kp.blk hR.rg hR.p5 hR.k5).cell 0;have c8:V.cell? ⟨b,1,none⟩=some (.int .i64 (y.1.2:Int)):=kx.cell 1;have c4:V.cell? ⟨W.heap.size+1,0,none⟩=some (.bool false):=kb4.cell 0;have hw0:IntKind.i64.wrap 0=0:=by decide
    have hwk:IntKind.i64.wrap (k:Int)=(k:Int):=IntWalk.i64_in _ (by omega);have hwy:IntKind.i64.wrap (y.1.2:Int)=(y.1.2:Int):=IntWalk.i64_in _ (by have:=hyb.2;dsimp only at this;omega);have hlen:((fY (cK 0 r) Q hQ).take c'++pre.map (upC k)).length<(cK 0 r).length:=by
     rw[List.length_append,List.length_take,List.length_map,fZ];have:=HS.out.2.2.1 (pre.length+1) hlt2;omega
    obtain⟨fn,tmps,assign,body,hy,hRd⟩:=wK (l2:=l2) (n:=0) (H.out.2.2.2.2.2.2.2.2.2.2 _ (upC k y) V j1 hlen);dsimp only [NE,upC] at hy
    have HK:=aI5 kp kb4 pb4 lbV hrV;clear kp kb4 pb4 hR k7 kx hyb hlen j1;simp only[sA,sZ,sS]
    gi_wp2
    refine⟨rfl,hRd.mono ?_⟩;clear hRd hy c3 c70 c71 c5 c8 c4;rintro e V3 ⟨hk3,(⟨rfl,hJ3⟩|⟨rfl,hJx3⟩)⟩
    ·have FIN:=hIz (show KpM lb (fun q=>F q∨q=W.heap.size+1) V V3∧OY lb W.heap.size F J ((fY (cK 0 r) Q hQ).take c') k W4 (pre++[y]) V3 from by
      obtain⟨kp,kb4,pb4,lbV,hrV⟩:=HK.out;have hm:=hk3.mono (F':=fun q=>F q∨q=W.heap.size+1) (fun _=>.inl);exact⟨hm,by rw[List.map_append,← List.append_assoc];exact hJ3,kp.trans hm,hk3.blk hrV pb4 kb4,(hk3.prv hrV pb4).2,Nat.lt_of_lt_of_le lbV (hk3.size hrV)⟩)
     clear hJ3 hk3;gi_wp2
     exact FIN.out
    ·obtain⟨kp,kb4,pb4,lbV,hrV⟩:=HK.out;have kb3:=hk3.blk hrV pb4 kb4;have pb3:=(hk3.prv hrV pb4).2;have c4:V3.cell? ⟨W.heap.size+1,0,none⟩=some (.bool false):=kb3.cell 0;have f4:=kb3.frozen 0;have FIN:=hIz (show KpM lb (fun q=>F q∨q=W.heap.size+1) V (V3.setCell ⟨W.heap.size+1,0,none⟩ (.bool false))∧PT lb W.heap.size F Jx ((fY (cK 0 r) Q hQ).take c') k W4 .ret (pre++[y]) (V3.setCell ⟨W.heap.size+1,0,none⟩ (.bool false)) from by
      have hm:=hk3.mono (F':=fun q=>F q∨q=W.heap.size+1) (fun _=>.inl);have hz:=hk3.size hrV;have hs:KpM lb (fun q=>F q∨q=W.heap.size+1) V3 (V3.setCell ⟨W.heap.size+1,0,none⟩ (.bool false)):=
       (KpM.of_upd (lb:=lb) ((Upd.refl (fun q=>q=W.heap.size+1) V3).setCell (p:=⟨W.heap.size+1,0,none⟩) (.inl rfl) _) (by omega) (by have:=H.out.2.2.2.1;omega)).mono (fun _=>.inr)
      have h1:=H.out.2.2.1.set (p:=⟨W.heap.size+1,0,none⟩) (.bool false) hJx3 (Nat.le_succ _) pb3;exact⟨hm.trans hs,rfl,by rw[List.map_append,← List.append_assoc];exact h1,(kp.trans hm).trans hs,kb3.set 0 _⟩)
     clear kp kb4 pb4 lbV hrV kb3 pb3 hJx3 hk3;gi_wp2
     exact FIN.out
   case done =>
    rintro ys V rfl ⟨j1,kp,kb4,pb4,lbV⟩ hrV pD hD;have hI2:CeI lb W.heap.size F (cK 0 r) r Q hQ J W1 V (k+1) (c'+(cK 0 (mR x)).length) (W4.heap.size::Ds):=by
     have hR:=HS.out.1;have bb:Below wr.heap.size wr W4:=tHn HX.out.2.2.2.2.1 HB.out.2.1;have kw:KpM lb (fun q=>F q∨q=W.heap.size+1) wr V:=(KpM.of_below bb HX.out.2.2.2.1).trans kp;have hz4:=bb.size;have pG:∀D,Prv lb F wr D→Prv lb F V D∧V.heap[D]?=wr.heap[D]?:=fun D hp=>by
      by_cases e:D=W.heap.size+1
      ·subst e;exact⟨pb4,kb4.trans HI.out.b4.symm⟩
      ·have:=kw.prv HX.out.2.2.1 (PF.out wr D hp e);exact⟨this.2.mono .inl,this.1⟩
     refine⟨?_,HS.out.2.2.1 _ (Nat.le_refl _),?_,HI.out.kp.trans kw,kb4,pb4,?_,fun D hD'=>?_⟩
     ·rw[← List.drop_drop,HS.out.2.2.2.1,show(cK 0 (mR x)).length=(lH k x).length by rw[lG,List.length_map,show cK 0 (mR x)=lH 0 x from nJ x],List.drop_left]
     ·rw[uR HS.out.2.2.2.1 (yB hQ HS.out.2.2.2.1) _ (Nat.le_refl _),show(fY (cK 0 (mR x)) (fun y=>Q (k,y.2)) (yB hQ HS.out.2.2.2.1)).take (cK 0 (mR x)).length=fY (cK 0 (mR x)) (fun y=>Q (k,y.2)) (yB hQ HS.out.2.2.2.1) from List.take_of_length_le (by rw[fZ];exact Nat.le_refl _)];exact j1
     ·rw[List.nodup_cons];exact⟨fun hm=>by have:=(HI.out.ds _ hm).2.1.1;omega,HI.out.nd⟩
     ·rcases List.mem_cons.1 hD' with rfl|hm
      ·exact⟨Nat.le_trans (HI.out.kp.size HW.out.2.2.2.2.2.2.2.1) hz4,pD.mono .inl,hD⟩
      ·have h5:=HI.out.ds D hm;have h6:=pG D h5.2.1;exact⟨h5.1,h6.1,h6.2.trans h5.2.2⟩
    have HN:=hIz hI2;clear hI2 j1 kp kb4 pb4 lbV hrV pD hD;go_wp2;rw[rounds_succ];go_wp2;exact⟨⟨k+1,_,W4.heap.size::Ds,_,_,_,_,_,_,_,_,_,_,_,_,_,_,_,_,_,_,_,_,_,_,_,_,_,_,_,_,_,_,_,_,_,_,_,_,_,_,rfl,by omega,HN.out⟩,by simp[intOf];omega⟩
   case stop =>
    rintro ct pre V ⟨j,hj,rfl⟩ ⟨rfl,jx,kp,kb4⟩ hrV pD hD;have bb:Below wr.heap.size wr W4:=tHn HX.out.2.2.2.2.1 HB.out.2.1;have kw:KpM lb (fun q=>F q∨q=W.heap.size+1) wr V:=(KpM.of_below bb HX.out.2.2.2.1).trans kp;have hz4:=bb.size;have hz:=HI.out.kp.size HW.out.2.2.2.2.2.2.2.1;have z1:=HW.out.2.2.2.2.2.2.2.2.2.1;have hds:∀D∈W4.heap.size::Ds,W1.heap.size≤D∧Prv lb F V D∧V.heap[D]?=some (.deferred (some [])):=fun D hD'=>by
     rcases List.mem_cons.1 hD' with rfl|hm
     ·exact⟨Nat.le_trans hz hz4,pD.mono .inl,hD⟩
     ·have h5:=HI.out.ds D hm;have:=kw.prv HX.out.2.2.1 (PF.out wr D h5.2.1 (by omega));exact⟨h5.1,this.2.mono .inl,this.1.trans h5.2.2⟩
    have hnd:(W4.heap.size::Ds).Nodup:=List.nodup_cons.2 ⟨fun hm=>by have:=(HI.out.ds _ hm).2.1.1;omega,HI.out.nd⟩;have hlv:lb<V.heap.size:=by have:=HX.out.2.2.2.1;have:=kp.size HS.out.1.rg;omega
    have hkW:KpM lb F W V:=((HW.out.2.2.2.2.2.2.2.2.2.2.mono (F':=fun q=>F q∨q=W.heap.size+1) (fun _=>.inl)).trans (HI.out.kp.trans kw)).shrink (fun q h=>h.elim .inl (fun e=>.inr (by omega)));have HL:=aI6 hds hnd hlv jx kb4 hkW;clear jx kp kb4 hrV pD hD bb kw hz4 hds hnd hlv hkW;go_wp2;refine iY (B:=W1.heap.size) (fun w1=>KpM lb F W w1∧Jx ((fY (cK 0 r) Q hQ).take c'++((fY (cK 0 (mR x)) (fun y=>Q (k,y.2)) hQ').take j).map (upC k)) w1∧Blk w1 (W.heap.size+1) 4 #[.bool false]) ?_ HW.out.2.2.2.2.2.2.2.2.1 ?_ (W4.heap.size::Ds) V HL.out.2.1 HL.out.1 HL.out.2.2.1 ⟨HL.out.2.2.2.2.2,HL.out.2.2.2.1,HL.out.2.2.2.2.1⟩
    ·rintro s X Y row ⟨h1,h2,h3⟩ hg hrr;exact⟨iX (β:=Unit) (by omega) H.out.2.2.2.1 H.out.2.2.2.2.1 () X Y row h1 hg hrr,(H.out.2.2.1.from (by omega)) _ X Y row h2 hg hrr,h3.grown hg (fun e=>by have:=(hrr _ e.symm).1;omega)⟩
    ·rintro w1 ⟨h1,h2,h3⟩;have hc8:=h3.cell 0;simp only[List.getElem?_toArray,List.getElem?_cons_zero] at hc8
     exact⟨.bool false,by simp[results,Tryz.f121,go_sem,hc8],h1,.inr ⟨rfl,_,⟨c'+j,HS.out.2.2.1 j hj,(uR HS.out.2.2.2.1 hQ' j hj).symm⟩,h2⟩⟩
  ·obtain rfl:k=64:=by omega
   have hdr:(cK 0 r).drop c'=[]:=by rw[HI.out.at_,List.drop_of_length_le (by rw[H.out.1.len];exact Nat.le_refl _)];rfl
   have jj:=HI.out.j;rw[xZ hdr] at jj;have hz:=HI.out.kp.size HW.out.2.2.2.2.2.2.2.1;have z1:=HW.out.2.2.2.2.2.2.2.2.2.1;have rwr:=HI.out.kp.rg HW.out.2.2.2.2.2.2.2.1;have lbr:lb<wr.heap.size:=by have:=HW.out.2.2.2.2.2.2.2.2.1;omega
   have c4:wr.cell? ⟨W.heap.size+1,0,none⟩=some (.bool false):=HI.out.b4.cell 0;have f4:=HI.out.b4.frozen 0;have us:=(Upd.refl (fun q=>q=W.heap.size+1) wr).setCell (p:=⟨W.heap.size+1,0,none⟩) (.inl rfl) (.bool true);have hg:=us.to_grown (row:=some (W.heap.size+1)) (fun i _ e=>by rw[e]);have hlne:some (W.heap.size+1)≠some lb:=fun e=>by injection e with e;have:=H.out.2.2.2.1;omega
   have hds:∀D∈Ds,W1.heap.size≤D∧Prv lb F (wr.setCell ⟨W.heap.size+1,0,none⟩ (.bool true)) D∧(wr.setCell ⟨W.heap.size+1,0,none⟩ (.bool true)).heap[D]?=some (.deferred (some [])):=fun D hD=>by
    obtain⟨h1,h2,h3⟩:=HI.out.ds D hD;exact⟨h1,h2.own hg lbr hlne,(us.block D h2.1 (by omega)).trans h3⟩
   have hkW:KpM lb F W (wr.setCell ⟨W.heap.size+1,0,none⟩ (.bool true)):=((HW.out.2.2.2.2.2.2.2.2.2.2.mono (F':=fun q=>F q∨q=W.heap.size+1) (fun _=>.inl)).trans (HI.out.kp.trans ((KpM.of_upd us lbr (by have:=H.out.2.2.2.1;omega)).mono (fun _=>.inr)))).shrink (fun q h=>h.elim .inl (fun e=>.inr (by omega)));have HL:=aI6 hds HI.out.nd (show lb<(wr.setCell ⟨W.heap.size+1,0,none⟩ (.bool true)).heap.size from Nat.lt_of_lt_of_le lbr us.size) hkW (H.out.2.1.set (p:=⟨W.heap.size+1,0,none⟩) (.bool true) jj (Nat.le_succ _) HI.out.p4) (HI.out.b4.set 0 (.bool true));clear hdr jj rwr lbr us hg hlne hds hkW;go_wp2;refine iY (B:=W1.heap.size) (fun w1=>KpM lb F W w1∧J (fY (cK 0 r) Q hQ) w1∧Blk w1 (W.heap.size+1) 4 #[.bool true]) ?_ HW.out.2.2.2.2.2.2.2.2.1 ?_ Ds _ HL.out.2.1 HL.out.1 HL.out.2.2.1 ⟨HL.out.2.2.2.1,HL.out.2.2.2.2.1,HL.out.2.2.2.2.2⟩
   ·rintro s X Y row ⟨h1,h2,h3⟩ hg hrr;exact⟨iX (β:=Unit) (by omega) H.out.2.2.2.1 H.out.2.2.2.2.1 () X Y row h1 hg hrr,(H.out.2.1.from (by omega)) _ X Y row h2 hg hrr,h3.grown hg (fun e=>by have:=(hrr _ e.symm).1;omega)⟩
   ·rintro w1 ⟨h1,h2,h3⟩;have hc8:=h3.cell 0;simp only[List.getElem?_toArray,List.getElem?_cons_zero] at hc8
    exact⟨.bool true,by simp[results,Tryz.f121,go_sem,hc8],h1,.inl ⟨rfl,h2⟩⟩
open Go.RowKit Go.Shelf
def IY(g:Nat)(b:Option (List Nat))(v:Value)(q:Nat):Prop:=q=1∨q=g∨(b.isSome=true∧v.ownBlock=some q)

theorem wL(l g c:Nat)(A:Option Addr)(W:World)(R:Ending→World→Prop)(hg:Blk W g 192 #[.slice A 0 c])(hR:R (.returned (.tuple #[])) W) :
  Calls Tryz.prog 120 #[.func (.yield l) #[] #[],.pointer (some ⟨g,0,none⟩)] W R:=by
 have q0:W.cell? ⟨g,0,none⟩=some (.slice A 0 c):=hg.cell 0;have H:=hIz hR;clear hR hg;go_enter Tryz.func120,Tryz.ntmps120;go_wp2;refine wp_loop_rounds 1 ?_;rw[rounds_succ];go_wp2;exact bodyPost_end (results_none rfl _ _ _) rfl H.out

theorem wM(l lb:Nat)(F:Nat→Prop)(g c:Nat)(A:Option Addr)(r:List Nat)(hr:Wd r)(Q:Nat × Nat→Prop)(hQb:∀x,Q x→x.1<64∧x.2<64)(hQ:∀x∈cK 0 r,Q x)(J Jx:List {x:Nat × Nat // Q x}→World→Prop)(W:World)
  (hJ:jQ lb F W.heap.size J) (hJx:jQ lb F W.heap.size Jx) (hlb:lb<W.heap.size) (hrg:RgM lb W) (hF:∀q,F q→q<W.heap.size) (hp:Prv lb F W 1) (hT:iN W)
  (hg:Blk W g 192 #[.slice A 1 c]) (hpg:Prv lb F W g) (hrow:W.ownsRow 0 196 66 (.slice A 1 c) 1 (plC r)) (hpr:∀k,(Value.slice A 1 c).ownBlock=some k→Prv lb F W k)
  (hY:∀pre x W1,J pre W1→pre.length<(cK 0 r).length→YieldAt Fence.wide 0 Tryz.prog l (NE x) W1 fun e W'=>KpM lb F W1 W'∧((e=.returned (.bool true)∧J (pre++[x]) W')∨(e=.returned (.bool false)∧Jx (pre++[x]) W'))) (h0:J [] W) :
  Calls Tryz.prog 120 #[.func (.yield l) #[] #[],.pointer (some ⟨g,0,none⟩)] W fun e W'=>(∃v,e=.returned v) ∧
   ((∃ys,ys=fY (cK 0 r) Q hQ∧J ys W')∨(∃pre,(∃k,k≤(cK 0 r).length∧pre=(fY (cK 0 r) Q hQ).take k)∧Jx pre W')):=by
 obtain⟨ga,cc,e,hob,-,hcc,-,hcell⟩:=bC hrow (by decide);injection e with e1 e2 e3;subst e1;subst e3;have q0:W.cell? ⟨g,0,none⟩=some (.slice (some ⟨ga,0,none⟩) 1 c):=hg.cell 0;have qa:W.cell? ⟨ga,0,none⟩=some (.int .i64 0):=(hcell 0 _ rfl).1;have hc1:(1:Int)≤(c:Int):=by
  obtain⟨A',c',hv,hc,-⟩:=aG hrow;injection hv with _ _ e;omega
 have SR:=hIz (show ∀W',Below W.heap.size W W'→Calls Tryz.prog 121 #[.slice (some ⟨ga,0,none⟩) 1 c,.func (.yield l) #[] #[]] W' fun e W2=>Blk W2 g 192 #[.slice (some ⟨ga,0,none⟩) 1 c]∧((e=.returned (.bool true)∧J (fY (cK 0 r) Q hQ) W2) ∨
   (e=.returned (.bool false)∧∃pre,(∃k,k≤(cK 0 r).length∧pre=(fY (cK 0 r) Q hQ).take k)∧Jx pre W2)) from fun W' hb=>by
  have kp:=KpM.of_below (lb:=lb) (F:=F) hb hlb;have hu:=Upd.of_below hb (fun _=>False);refine(EH l lb F (some ⟨ga,0,none⟩) c r hr Q hQb hQ J Jx W' (hJ.from hb.size) (hJx.from hb.size) (Nat.lt_of_lt_of_le hlb hb.size) (kp.rg hrg) (fun q h=>Nat.lt_of_lt_of_le (hF q h) hb.size) (kp.prv hrg hp).2 (hT.kp kp hrg hp) (aA hrow hu (fun _ _=>id)) (fun k hk=>(kp.prv hrg (hpr k hk)).2) hY (hJ.below h0 hb)).mono ?_;rintro e W2 ⟨k2,h⟩;exact⟨k2.blk (kp.rg hrg) (kp.prv hrg hpg).2 (hg.upd hu id),h⟩)
 clear hr hJ hJx hlb hrg hF hp hT hg hpg hrow hpr hY h0 hob hcc hcell e2 hQb;go_enter Tryz.func120,Tryz.ntmps120;go_wp2;refine wp_loop_rounds 2 ?_;rw[rounds_succ];go_wp2;refine wp_loop_rounds 2 ?_;rw[rounds_succ];go_wp2;go_quiet (fail)
 go_wp2;rw[rounds_succ];have q0d:W.drew.cell? ⟨g,0,none⟩=some (.slice (some ⟨ga,0,none⟩) 1 c):=q0;have qad:W.drew.cell? ⟨ga,0,none⟩=some (.int .i64 0):=qa;go_wp2;go_quiet (fail)
 go_wp2_with fail;refine(SR.out (W.drewN _) ⟨rfl,rfl,rfl,Nat.le_refl _,fun _ _=>rfl⟩).mono ?_;clear q0 qa q0d qad SR;rintro e W2 ⟨k2,(⟨rfl,hJ2⟩|⟨rfl,pre,hpre,hx⟩)⟩
 ·have FIN:=hIz hJ2;have q2:W2.cell? ⟨g,0,none⟩=some (.slice (some ⟨ga,0,none⟩) 1 c):=k2.cell 0;clear hJ2 k2;go_wp2;rw[rounds_succ];go_wp2;exact bodyPost_end (results_none rfl _ _ _) rfl ⟨⟨_,rfl⟩,.inl ⟨_,rfl,FIN.out⟩⟩
 ·have FIN:=aI2 hpre hx;clear hpre hx k2;go_wp2;refine bodyPost_ret (results_none rfl _ _ _) rfl ?_;exact⟨⟨_,rfl⟩,.inr ⟨pre,FIN.out⟩⟩

def EI(w:World)(base:Nat)(A:Option Addr)(n c:Nat):Option (List Nat)→Prop
 | none=>n=0
 | some r=>n=1∧w.ownsRow 0 196 66 (.slice A 1 c) 1 (plC r)∧∀k,(Value.slice A 1 c).ownBlock=some k→base≤k
theorem EI.own{w:World}{base n c:Nat}{A:Option Addr}{b:Option (List Nat)}(h:EI w base A n c b)(hs:b.isSome=true){k:Nat}(ho:(Value.slice A n c).ownBlock=some k):base≤k∧k<w.heap.size:=by
 cases b with
 | none=>cases hs
 | some r =>
  obtain⟨rfl,h1,h2⟩:=h;exact⟨h2 k ho,(h1.lt k ho).2⟩
theorem mS(w:World)(b:Option (List Nat))(hw:Wd (pI b))(hT:iN w)(g c n:Nat)(A:Option Addr)(Q:Nat × Nat→Prop)(hQb:∀x,Q x→x.1<64∧x.2<64)(hQ:∀x∈qcL b,Q x)(hg:Blk w g 192 #[.slice A n c])
  (base:Nat) (hm:EI w base A n c b) :
  PS Tryz.prog 120 #[.pointer (some ⟨g,0,none⟩)] NE (IY g b (.slice A n c)) (fun ys=>ys=fY (qcL b) Q hQ) (fun pre=>∃k,k≤(qcL b).length∧pre=(fY (qcL b) Q hQ).take k) (qcL b).length w:=
 fun l lb F J Jx W hW hJ hJx hlb hrg hF hrow hY h0=>by
  have hu:=Upd.of_below hW (fun _=>False);have hgW:=hg.upd hu id;cases b with
  | none =>
   obtain rfl:=hm;exact wL l g c A W _ hgW ⟨⟨_,rfl⟩,.inl ⟨_,rfl,h0⟩⟩
  | some r =>
   obtain⟨rfl,own,-⟩:=hm;have ownW:=aA own hu (fun _ _=>id);have hTW:=hT.upd hu hT.lt id;have pv:∀q,IY g (some r) (.slice A 1 c) q→q<W.heap.size→Prv lb F W q:=fun q ho hlt=>⟨hlt,fun ha=>ha.elim (fun hf=>(hF q hf).2 ho) (fun ⟨v,hv,hq⟩=>hrow v q hv hq ho)⟩
   exact wM l lb F g c A r hw Q hQb hQ J Jx W hJ hJx hlb hrg (fun q h=>(hF q h).1) (pv _ (.inl rfl) hTW.lt) hTW hgW (pv _ (.inr (.inl rfl)) hgW.lt) ownW (fun k hk=>pv k (.inr (.inr ⟨rfl,hk⟩)) (ownW.lt k hk).2) hY h0
open Go.RowKit
section
set_option maxRecDepth 20000
set_option maxHeartbeats 2000000
theorem sB(w:World):Calls Tryz.prog 115 #[.pointer none] w (eJ w (.bool false)):=by
 go_enter Tryz.func115,Tryz.ntmps115;go_wp2;go_ret;exact⟨rfl,rfl⟩
theorem EJ(w:World):Calls Tryz.prog 104 #[.pointer none] w (eJ w (.int .i64 0)):=by
 have hcon:=sB w;go_enter Tryz.func104,Tryz.ntmps104;go_wp2_with fail;refine hcon.mono ?_;clear hcon;rintro e V ⟨rfl,hw⟩;subst V;go_wp2;go_ret;exact⟨rfl,rfl⟩
theorem IZ(w:World):Calls Tryz.prog 77 #[.pointer none] w (eJ w (.int .i64 0)):=by
 have hcon:=sB w;go_enter Tryz.func77,Tryz.ntmps77;go_wp2_with fail;refine hcon.mono ?_;clear hcon;rintro e V ⟨rfl,hw⟩;subst V;go_wp2;go_ret;exact⟨rfl,rfl⟩
theorem JA(w:World)(i j:Int):Calls Tryz.prog 73 #[.pointer none,.int .i64 i,.int .i64 j] w (eJ w (.tuple #[.bool false,.int .i64 1])):=by
 have hcon:=sB w;go_enter Tryz.func73,Tryz.ntmps73;go_wp2_with fail;refine hcon.mono ?_;clear hcon;rintro e V ⟨rfl,hw⟩;subst V;go_wp2;refine bodyPost_ret (v:=.tuple #[.bool false,.int .i64 1]) (by simp[results,Tryz.f73,go_sem]) rfl ⟨rfl,rfl⟩
theorem yD(w:World)(i j:Int):Calls Tryz.prog 62 #[.pointer none,.int .i64 i,.int .i64 j] w (eJ w (.tuple #[.bool false,.int .i64 1])):=by
 have hcon:=JA w i j;go_enter Tryz.func62,Tryz.ntmps62;go_wp2_with fail;refine hcon.mono ?_;clear hcon;rintro e V ⟨rfl,hw⟩;subst V;go_wp2;refine bodyPost_ret (v:=.tuple #[.bool false,.int .i64 1]) (by simp[results,Tryz.f62,go_sem]) rfl ⟨rfl,rfl⟩
theorem JB(w:World):Calls Tryz.prog 119 #[.pointer none] w (Sam w (.slice none 0 0)):=by
 have b0:Below w.heap.size w ((w.alloc (.cells #[.pointer none] 121)).alloc (.cells #[.slice none 0 0] 192)):=by(repeat (first | exact Below.refl _ _ | apply Below.drew | refine Below.alloc ?_ (by first | exact Nat.le_refl _ | (simp;done) | (simp;omega)) _ | refine Below.setCell ?_ (by first | exact Nat.le_refl _ | (simp;done) | (simp;omega)) _))
 have k0:=(Blk.new w 121 #[.pointer none]).alloc (.cells #[.slice none 0 0] 192);have H:=aI2 b0 k0;clear b0 k0;go_enter Tryz.func119,Tryz.ntmps119;go_upto_region 2 with (fail);generalize (w.alloc (.cells #[.pointer none] 121)).alloc (.cells #[.slice none 0 0] 192)=W0 at H ⊢;have q0:W0.cell? ⟨w.heap.size,0,none⟩=some (.pointer none):=H.out.2.cell 0;have hcon:=sB W0;go_wp2_with fail;refine hcon.mono ?_;clear hcon q0;rintro e V ⟨rfl,hw⟩;subst V;go_wp2;go_ret;exact⟨rfl,H.out.1⟩
theorem zQ(w:World):Calls Tryz.prog 74 #[.pointer none] w (DP w none):=by
 have ha:=JB w;go_enter Tryz.func74,Tryz.ntmps74;go_wp2_with fail;refine ha.mono ?_;clear ha;rintro e W ⟨rfl,hb⟩;have C:=hIz (oQ w W (.slice none 0 0) hb);have HB:=hIz hb;clear hb;go_wp2;go_ret;exact⟨W.heap.size,none,0,0,HB.out.size,rfl,C.out.1,C.out.2,rfl⟩
end
open Go.RowKit Go.Shelf
attribute [local go_sem] Oper.semAt_some
def EK(Q:Exit→Act→World→Prop):Exit→Act→World→Prop
 | .panic _,_,_=>False
 | e,a,w=>Q e a w
theorem uS{P:Program}{c:Code}{Q:Exit→Act→World→Prop}{a:Act}{w:World}(h:c.wp P (EK Q) a w):c.wp P Q a w:=fun b k cs=>by
 obtain⟨e,a',w',hq,ha⟩:=h b k cs;refine⟨e,a',w',?_,ha⟩;cases e <;> first | exact hq | exact hq.elim
theorem uT(W:World)(f:Fn)(x y:Array Value):(binOp .eql 142 (.func f x y) .nilFunc).run Tryz.prog W=.ok (.bool false) W:=by
 have h:Tryz.prog.underlying 142=some (.func #[194] #[] false):=by kernel_rfl
 have e9:∀d,(Op.equalIn (d+1) 142 (.func f x y) .nilFunc).run Tryz.prog W=.ok false W:=fun d=>by simp[Op.equalIn,run_underlying h]
 have e:(Op.equal 142 (.func f x y) .nilFunc).run Tryz.prog W=.ok false W:=e9 9999;simp only[binOp]
 simp[e]
theorem EL{r:List Nat}(hr:Wd r):jL r≤4096:=by
 have:=rQ r;rw[hr.len] at this;omega
theorem yE{α:Type}(L:List α)(Q:α→Prop)(hQ:∀x∈L,Q x):(fY L Q hQ).map (·.1)=L:=by unfold fY;simp
theorem uU(w:World)(mv:Option Addr)(sd:Int)(b:Option (List Nat))(hw:Wd (pI b))(hT:iN w)(hs:(mv=none∧sd=0)∨(mv≠none∧sd≠0))(A:Option Addr)(c:Nat)(hA:aV w A (aY (qcL b)))
  (h1:∀W,Below w.heap.size w W→Calls Tryz.prog 104 #[.pointer mv] W (eJ W (.int .i64 sd)))
  (h2:∀W,Below w.heap.size w W→Calls Tryz.prog 77 #[.pointer mv] W (eJ W (.int .i64 ((qcL b).length:Int))))
  (h3:∀W,Below w.heap.size w W→Calls Tryz.prog 74 #[.pointer mv] W (DP W b)) :
  Calls Tryz.prog 61 #[.pointer mv,.agg #[.int .i64 sd,.slice A (qcL b).length c]] w (Sam w (.bool true)):=by
 obtain⟨L,hL⟩:∃L,qcL b=L:=⟨_,rfl⟩;obtain⟨n,hn⟩:∃n,L.length=n:=⟨_,rfl⟩;have hln:n≤4096:=by
  have:=EL hw;rw[← DS,hL,hn] at this;exact this
 have hQ:∀x∈qcL b,x.1<64∧x.2<64:=fun x hx=>by
  obtain⟨i,j⟩:=x;have:=(DR hw).1 hx;exact⟨this.1,this.2.1⟩
 rw[hL] at hA h2 ⊢;rw[hn] at h2 ⊢;have b1:Below w.heap.size w ((w.alloc (.cells #[.int .i64 sd,.slice A n c] 125)).alloc (.cells #[.bool false] 4)):=by(repeat (first | exact Below.refl _ _ | apply Below.drew | refine Below.alloc ?_ (by first | exact Nat.le_refl _ | (simp;done) | (simp;omega)) _ | refine Below.setCell ?_ (by first | exact Nat.le_refl _ | (simp;done) | (simp;omega)) _))
 have k3:=(Blk.new w 125 #[.int .i64 sd,.slice A n c]).alloc (.cells #[.bool false] 4);have k4:=Blk.new (w.alloc (.cells #[.int .i64 sd,.slice A n c] 125)) 4 #[.bool false];simp only[World.size_alloc] at k4
 have hz:((w.alloc (.cells #[.int .i64 sd,.slice A n c] 125)).alloc (.cells #[.bool false] 4)).heap.size=w.heap.size+2:=by simp
 have HE:=fun (W:World) (f:Fn) (x y:Array Value)=>uT W f x y
 have H:=aI11 b1 k3 k4 hz hT hw hL hn hA hQ hT.lt;have HC:=aI3 h1 h2 h3;have HS:=hIz hs;clear b1 k3 k4 hz hT hw hL hn hA hQ h1 h2 h3 hs;refine(callsIn_wide (n:=1)).1 ?_;refine callsIn_of_wp_marks Tryz.func61 rfl trivial ?_ rfl;simp only[Tryz.ntmps61,List.size_toArray,List.length_cons,List.length_nil,Nat.reduceAdd,Nat.reduceSub,Array.replicate_succ,Array.replicate_zero,List.push_toArray,List.append_toArray,List.nil_append,List.cons_append]
 refine wpIn_wide.2 ?_;go_upto_region 1 with (fail);generalize hW0:(w.alloc (.cells #[.int .i64 sd,.slice A n c] 125)).alloc (.cells #[.bool false] 4)=W0 at H ⊢;clear hW0;have SR:=hIz (show ∀V,Below W0.heap.size W0 V→V.cell? ⟨w.heap.size,0,none⟩=some (.int .i64 sd)∧V.cell? ⟨w.heap.size,1,none⟩=some (.slice A n c) from fun V hb=>by
  have K:=H.out.2.1.upd (upF hb) id;exact⟨K.cell 0,K.cell 1⟩)
 have BD:=hIz (show Below W0.heap.size W0 W0.drew from bR.drew);have hS:=SR.out W0.drew BD.out;have hnn:((n:Int)==(n:Int))=true:=by simp
 have hss:(sd==sd)=true:=by simp
 have hc1:=HC.out.1 W0.drew (tHn H.out.1 BD.out);have hc2:=HC.out.2.1 W0.drew (tHn H.out.1 BD.out);have REST:∀(a:Act),True:=fun _=>trivial
 clear REST;rcases HS.out with ⟨rfl,hsd⟩|⟨hm,hsd⟩
 ·have hsd0:(sd==0)=true:=by rw[hsd];rfl
  clear hsd;refine uS ?_;refine aO (fun V:World=>V.cell? ⟨w.heap.size,0,none⟩=some (.int .i64 sd)∧V.cell? ⟨w.heap.size,1,none⟩=some (.slice A n c)) 21 [(0,true),(1,true),(2,true),(3,true),(4,true),(5,true),(6,true),(7,true),(9,true),(10,true),(8,false),(11,true),(12,true),(13,true),(14,true),(16,true),(17,true),(18,true),(15,false),(19,true),(20,true)] (by kernel_rfl) (by kernel_rfl) (fun _ _ _ _ _ h=>h.elim) hS ?_;have hz1:W0.drew.heap.size=w.heap.size+2:=H.out.2.2.2.1;generalize W0.drew=W1 at BD hS hc1 hc2 hz1 ⊢
  iterate 10 refine aB rfl ?_
  (refine cM rfl (by first | with_reducible rfl | kernel_rfl) (fun K hK=>?_);go_simp)
  refine hc1.mono ?_;clear hc1;rintro e V ⟨rfl,hV⟩;subst V;refine hK _ _ (fun _=>hS) ?_;clear hK K;(try simp only[Act.put,gA,gS,gZ,sA,sZ,sS])
  iterate 7 refine aB rfl ?_
  (refine cM rfl (by first | with_reducible rfl | kernel_rfl) (fun K hK=>?_);go_simp)
  refine hc2.mono ?_;clear hc2;rintro e V ⟨rfl,hV⟩;subst V;refine hK _ _ (fun _=>hS) ?_;clear hK K;(try simp only[Act.put,gA,gS,gZ,sA,sZ,sS])
  refine aB rfl ?_;refine aB rfl ?_;refine aF ?_;dsimp only [EK]
  clear hS hnn hss;have k5:=Blk.new W1 3 #[.int .i64 0];have b5:Below W1.heap.size W1 (W1.alloc (.cells #[.int .i64 0] 3)):=bR.alloc (Nat.le_refl _) _;have hz5:(W1.alloc (.cells #[.int .i64 0] 3)).heap.size=w.heap.size+3:=by simp[hz1]
  rw[hz1] at k5 b5;have BD5:=hIz (BD.out.trans (b5.mono (by rw[← hz1];exact BD.out.size)));have H5:=aI2 k5 hz5;clear k5 b5 hz5;go_upto_region 4 with (fail);try rw[hz1]
  generalize W1.alloc (.cells #[.int .i64 0] 3)=W3 at BD5 H5 ⊢;clear hz1 BD;have hc3:=HC.out.2.2 W3 (tHn H.out.1 BD5.out);go_wp2_with fail;refine hc3.mono ?_;clear hc3;rintro e W4 ⟨gc,A5,n5,c5,zc,rfl,kc,b4,hm0⟩;have hm5:EI W4 W3.heap.size A5 n5 c5 b:=by
   cases b with
   | none=>exact hm0
   | some r=>exact hm0
  clear hm0;have B4:=hIz (tHn BD5.out b4);have k5:=H5.out.1.upd (upF b4) id;have k4:=H.out.2.2.1.upd (upF B4.out) id;have k3:=H.out.2.1.upd (upF B4.out) id;have hT4:=H.out.2.2.2.2.1.upd (Upd.of_below (tHn H.out.1 B4.out) (fun _=>False)) H.out.2.2.2.2.1.lt id;have hst:=mS W4 b H.out.2.2.2.2.2.1 hT4 gc c5 n5 A5 (fun x:Nat × Nat=>x.1<64∧x.2<64) (fun _ h=>h) H.out.2.2.2.2.2.2.2.2.2.1 kc _ hm5;have z4:=B4.out.size;have z0:=H.out.2.2.2.1;have z5:=H5.out.2;have z35:=b4.size;have tblt:=H.out.2.2.2.2.2.2.2.2.2.2;have hOw:∀q',IY gc b (.slice A5 n5 c5) q'→q'<W4.heap.size∧q'≠w.heap.size+2∧q'≠w.heap.size+1:=by
   rintro q' (rfl|rfl|⟨hs,ho⟩)
   ·exact⟨by omega,by omega,by omega⟩
   ·exact⟨kc.lt,by omega,by omega⟩
   ·have h1:=hm5.own hs ho;exact⟨h1.2,by omega,by omega⟩
  have lblt:w.heap.size<W4.heap.size:=by omega
  have c30:W4.cell? ⟨w.heap.size,0,none⟩=some (.int .i64 sd):=k3.cell 0;have rgl:RgM w.heap.size W4:=RgM.of_none c30 rfl;have hOI:jQ w.heap.size (fun q=>q=w.heap.size+2∨q=w.heap.size+1) W4.heap.size (fun (pre:List {x:Nat × Nat // x.1<64∧x.2<64}) (V:World)=>pre.map (·.1)=L.take pre.length∧Blk V (w.heap.size+2) 3 #[.int .i64 (pre.length:Int)]∧Blk V (w.heap.size+1) 4 #[.bool false]∧KpM w.heap.size (fun q=>q=w.heap.size+2∨q=w.heap.size+1) W4 V):=by
   rintro s X Y row ⟨h1,h2,h3,h4⟩ hgr hr;exact⟨h1,h2.grown hgr (fun e=>by have:=(hr _ e.symm).1;omega),h3.grown hgr (fun e=>by have:=(hr _ e.symm).1;omega),iX (β:=Unit) (Nat.le_refl _) lblt rgl () X Y row h4 hgr hr⟩
  have HV:=aI7 hst hOw rgl hOI k3 k4 k5;have hBw:Below w.heap.size w W4:=tHn H.out.1 B4.out;have HB:=aI2 hBw (H.out.2.2.2.2.2.2.2.2.1.below hBw);clear hst hOw rgl hOI k3 k4 k5 hT4 z0 z5 z35 tblt c30 hm5 kc b4 hBw B4 BD5;have z43:w.heap.size+3≤W4.heap.size:=by
   have h1:=HV.out.2.2.2.2.2.2.lt;omega
  have hEq:=HE W4 (.func 120) #[] #[.pointer (some ⟨gc,0,none⟩)];have hEq2:=HE W4.drew (.func 120) #[] #[.pointer (some ⟨gc,0,none⟩)];go_wp2;clear hEq hEq2;refine oX (gf:=120) (cap:=#[.pointer (some ⟨gc,0,none⟩)]) rfl (enters_of Tryz.func120 (by kernel_rfl) rfl) HV.out.1 bR (fun q' h=>(HV.out.2.1 q' h).1) (fun _=>rfl)
   w.heap.size (fun q=>q=w.heap.size+2∨q=w.heap.size+1) lblt HV.out.2.2.1 (fun q' e=>⟨by omega,fun h=>by have:=HV.out.2.1 q' h;omega⟩) (fun v q' hv ho=>absurd (HV.out.2.2.1.elim_int (HV.out.2.2.2.2.1.cell 0) hv ho) id)
   _ (fun (c:Code) (pre:List {x:Nat × Nat // x.1<64∧x.2<64}) (_:World)=>c=.ret∧pre.map (·.1)≠L.take pre.length) HV.out.2.2.2.1 (fun c s X Y row h _ _=>h) ⟨rfl,HV.out.2.2.2.2.2.2,HV.out.2.2.2.2.2.1,KpM.refl _ _ _⟩
   (fun T y _=>(((T.setIfInBounds 35 (.int .i64 (y.1.1:Int))).setIfInBounds 36 (.int .i64 (y.1.2:Int))).setIfInBounds 7 (.int .i64 (y.1.1:Int))).setIfInBounds 8 (.int .i64 (y.1.2:Int)))
   (fun _ _ _=>True) ?hBx ?assign ?body ?done ?stop
  case hBx=>exact fun y b' s X Y row h hg hr=>trivial
  case assign =>
   rintro l2 pre y V Kc hrV hsV hi hK;dsimp only [NE]
   have HI2:=hIz hi;clear hi;gi_wp2
   exact hK 0 _ (KpM.refl _ _ _) HI2.out trivial
  case stop =>
   rintro cc pre V ⟨k,hk,rfl⟩ ⟨-,hne⟩ - - -;exfalso
   have e1:(List.map (·.1) ((fY (qcL b) (fun x:Nat × Nat=>x.1<64∧x.2<64) H.out.2.2.2.2.2.2.2.2.2.1).take k))=L.take k:=by
    rw[List.map_take,yE,H.out.2.2.2.2.2.2.1]
   apply hne
   rw[e1,List.length_take,fZ,Nat.min_eq_left hk]
  case done =>
   rintro ys V rfl ⟨h1,k2,k1,kp⟩ hrV pD hD;have hlen:(fY (qcL b) (fun x:Nat × Nat=>x.1<64∧x.2<64) H.out.2.2.2.2.2.2.2.2.2.1).length=n:=by rw[fZ,H.out.2.2.2.2.2.2.1,H.out.2.2.2.2.2.2.2.1]
   rw[hlen] at k2;clear h1 hlen;have hk2:Upd (fun q=>q=w.heap.size+2∨q=w.heap.size+1) W4 V:=(kp HV.out.2.2.1).1.mono (fun q' _ ha=>ha.elim id (fun ⟨vv,h1,h2⟩=>(HV.out.2.2.1.elim_int (HV.out.2.2.2.2.1.cell 0) h1 h2).elim));have K3:=HV.out.2.2.2.2.1.upd hk2 (by omega);have p5:V.cell? ⟨w.heap.size+2,0,none⟩=some (.int .i64 (n:Int)):=k2.cell 0;have p3:V.cell? ⟨w.heap.size,1,none⟩=some (.slice A n c):=K3.cell 1;have p4:V.cell? ⟨w.heap.size+1,0,none⟩=some (.bool false):=k1.cell 0;have f4:=k1.frozen 0;have hnn:((n:Int)==(n:Int))=true:=by simp
   have kF:=k1.set 0 (.bool true);have uF:Upd (fun q=>q=w.heap.size+1) V (V.setCell ⟨w.heap.size+1,0,none⟩ (.bool true)):=(Upd.refl (fun q=>q=w.heap.size+1) V).setCell (p:=⟨w.heap.size+1,0,none⟩) (.inl rfl) _;have bF:Below w.heap.size w (V.setCell ⟨w.heap.size+1,0,none⟩ (.bool true)):=(HB.out.1.trans (hk2.below (fun q _ e=>by omega) HB.out.1.size)).trans (uF.below (fun q _ e=>by omega) (HB.out.1.trans (hk2.below (fun q _ e=>by omega) HB.out.1.size)).size);have pF:Prv w.heap.size (fun q=>q=w.heap.size+2∨q=w.heap.size+1) (V.setCell ⟨w.heap.size+1,0,none⟩ (.bool true)) W4.heap.size:=by
    have kp2:=KpM.of_upd (lb:=w.heap.size) uF (by have:=hk2.size;omega) (by omega);have kp3:KpM w.heap.size (fun q=>q=w.heap.size+2∨q=w.heap.size+1) V (V.setCell ⟨w.heap.size+1,0,none⟩ (.bool true)):=kp2.mono (fun q e=>.inr e);exact(kp3.prv hrV pD).2
   have hD2:(V.setCell ⟨w.heap.size+1,0,none⟩ (.bool true)).heap[W4.heap.size]?=some (.deferred (some [])):=(uF.block _ pD.1 (by omega)).trans hD;have HD:=aI5 kF bF pF hD2 uF.size;have zV:=hk2.size;clear kF uF bF pF hD2 k1 k2 kp hrV pD hD hk2 K3;go_wp2;clear p5 p3 p4 f4 hnn;generalize V.setCell ⟨w.heap.size+1,0,none⟩ (.bool true)=V9 at HD ⊢;refine iY (B:=W4.heap.size) (F:=fun q=>q=w.heap.size+2∨q=w.heap.size+1) (fun w1=>Blk w1 (w.heap.size+1) 4 #[.bool true]∧Below w.heap.size w w1) ?_ lblt ?_ [W4.heap.size] V9 (by simp) (fun D hD'=>?_) (by have:=HD.out.2.2.2.2;omega) ⟨HD.out.1,HD.out.2.1⟩
   ·rintro s X Y row ⟨h1,h2⟩ hg hrr;exact⟨h1.grown hg (fun e=>by have:=(hrr _ e.symm).1;omega),h2.trans ((Upd.of_grown hg).below (B:=w.heap.size) (fun q _ e=>by have:=(hrr q e).1;omega) h2.size)⟩
   ·rintro w1 ⟨h1,h2⟩;have y0:w1.cell? ⟨w.heap.size+1,0,none⟩=some (.bool true):=h1.cell 0;exact⟨.bool true,by simp[results,Tryz.f61,go_sem,y0],rfl,h2⟩
   ·simp only[List.mem_singleton] at hD'
    subst hD';exact⟨Nat.le_refl _,HD.out.2.2.1,HD.out.2.2.2.1⟩
  case body =>
   rintro l2 pre ⟨⟨i,j⟩,hy⟩ b' V hrV hsV ⟨h1,k2,k1,kp⟩-hlt2;have hlt:pre.length<n:=by rw[← H.out.2.2.2.2.2.2.2.1,← H.out.2.2.2.2.2.2.1];exact hlt2
   have hk2:Upd (fun q=>q=w.heap.size+2∨q=w.heap.size+1) W4 V:=(kp HV.out.2.2.1).1.mono (fun q' _ ha=>ha.elim id (fun ⟨vv,h1,h2⟩=>(HV.out.2.2.1.elim_int (HV.out.2.2.2.2.1.cell 0) h1 h2).elim));have K3:=HV.out.2.2.2.2.1.upd hk2 (by omega);obtain⟨m,hm⟩:∃m,pre.length=m:=⟨_,rfl⟩;rw[hm] at hlt k2 h1;obtain⟨⟨i0,j0⟩,hz⟩:∃z,L[m]?=some z:=⟨L[m]'(by rw[H.out.2.2.2.2.2.2.2.1];exact hlt),gEz _⟩;obtain⟨ab,ao,rfl,a0,a1⟩:=H.out.2.2.2.2.2.2.2.2.1.ce hz;dsimp only at a0 a1
   have hBV:Below w.heap.size w V:=HB.out.1.trans (hk2.below (fun q _ e=>by omega) HB.out.1.size);have c0:V.cell? ⟨ab,ao+m*2,none⟩=some (.int .i64 (i0:Int)):=(hBV.cell (World.block_lt_of_cell? _ _ a0)).trans a0;have c1:V.cell? ⟨ab,ao+m*2+1,none⟩=some (.int .i64 (j0:Int)):=(hBV.cell (World.block_lt_of_cell? _ _ a1)).trans a1;have p5:V.cell? ⟨w.heap.size+2,0,none⟩=some (.int .i64 (m:Int)):=k2.cell 0;have p3:V.cell? ⟨w.heap.size,1,none⟩=some (.slice (some ⟨ab,ao,none⟩) n c):=K3.cell 1;have hgI:¬(n:Int)≤(m:Int):=by omega
   have hg1:decide (n≤m)=false:=by simp;omega
   have hmI:(m:Int)<(n:Int):=by omega
   have zV:=hk2.size;have hmap:pre.map (·.1)++[(i,j)]=(pre++[(⟨(i,j),hy⟩:{x:Nat × Nat // x.1<64∧x.2<64})]).map (·.1):=by rw[List.map_append];rfl
   have hlen:(pre++[(⟨(i,j),hy⟩:{x:Nat × Nat // x.1<64∧x.2<64})]).length=m+1:=by rw[List.length_append,hm];rfl
   have htk:L.take (m+1)=L.take m++[(i0,j0)]:=by rw[List.take_add_one,hz];rfl
   by_cases he:((i0,j0):Nat × Nat)=(i,j)
   ·have heq:=fun W=>lD W (i0,j0) (i,j)
    rw[decide_eq_true he] at heq;dsimp only at heq
    have hmw:IntKind.i64.wrap ((m:Int)+1)=(m:Int)+1:=IntWalk.i64_in _ (by omega);have f5:=k2.frozen 0;have uF:Upd (fun q=>q=w.heap.size+2) V (V.setCell ⟨w.heap.size+2,0,none⟩ (.int .i64 ((m:Int)+1))):=(Upd.refl (fun q=>q=w.heap.size+2) V).setCell (p:=⟨w.heap.size+2,0,none⟩) (.inl rfl) _;have kp3:KpM w.heap.size (fun q=>q=w.heap.size+2∨q=w.heap.size+1) V (V.setCell ⟨w.heap.size+2,0,none⟩ (.int .i64 ((m:Int)+1))):=(KpM.of_upd (lb:=w.heap.size) uF (by omega) (by omega)).mono (fun q e=>.inl e);have FIN:=hIz (show KpM w.heap.size (fun q=>q=w.heap.size+2∨q=w.heap.size+1) V (V.setCell ⟨w.heap.size+2,0,none⟩ (.int .i64 ((m:Int)+1)))∧(fun (pre:List {x:Nat × Nat // x.1<64∧x.2<64}) (V:World)=>pre.map (·.1)=L.take pre.length∧Blk V (w.heap.size+2) 3 #[.int .i64 (pre.length:Int)]∧Blk V (w.heap.size+1) 4 #[.bool false]∧KpM w.heap.size (fun q=>q=w.heap.size+2∨q=w.heap.size+1) W4 V) (pre++[(⟨(i,j),hy⟩:{x:Nat × Nat // x.1<64∧x.2<64})]) (V.setCell ⟨w.heap.size+2,0,none⟩ (.int .i64 ((m:Int)+1))) from by
     refine⟨kp3,?_,?_,k1.upd uF (by omega),kp.trans kp3⟩
     ·rw[← hmap,hlen,htk,h1,he]
     ·rw[hlen];exact k2.set 0 _)
    clear uF kp3 k1 k2 kp K3 hk2 hBV a0 a1 h1 hmap hlen htk hz he hrV hm;simp only[sA,sZ,sS]
    gi_wp2
    exact FIN.out
   ·have heq:=fun W=>lD W (i0,j0) (i,j)
    rw[decide_eq_false he] at heq;dsimp only at heq
    have f4:=k1.frozen 0;have p4:V.cell? ⟨w.heap.size+1,0,none⟩=some (.bool false):=k1.cell 0;have uF:Upd (fun q=>q=w.heap.size+1) V (V.setCell ⟨w.heap.size+1,0,none⟩ (.bool false)):=(Upd.refl (fun q=>q=w.heap.size+1) V).setCell (p:=⟨w.heap.size+1,0,none⟩) (.inl rfl) _;have kp3:KpM w.heap.size (fun q=>q=w.heap.size+2∨q=w.heap.size+1) V (V.setCell ⟨w.heap.size+1,0,none⟩ (.bool false)):=(KpM.of_upd (lb:=w.heap.size) uF (by omega) (by omega)).mono (fun q e=>.inr e);have hne:(pre++[(⟨(i,j),hy⟩:{x:Nat × Nat // x.1<64∧x.2<64})]).map (·.1)≠L.take (pre++[(⟨(i,j),hy⟩:{x:Nat × Nat // x.1<64∧x.2<64})]).length:=by
     rw[hlen,← hmap,htk,h1];intro e;have:=List.append_cancel_left e;injection this with e;exact he e.symm
    have FIN:=aI2 kp3 hne;clear uF kp3 k1 k2 kp K3 hk2 hBV a0 a1 h1 hmap hlen htk hz he hrV hne hm;simp only[sA,sZ,sS]
    gi_wp2
    exact⟨FIN.out.1,rfl,FIN.out.2⟩
 obtain⟨ad,rfl⟩:∃ad,mv=some ad:=by
  rcases mv with _|ad
  ·exact(hm rfl).elim
  ·exact⟨ad,rfl⟩
 have hsd0:(sd==0)=false:=by simp[hsd]
 clear hm hsd;refine uS ?_;refine aO (fun V:World=>V.cell? ⟨w.heap.size,0,none⟩=some (.int .i64 sd)∧V.cell? ⟨w.heap.size,1,none⟩=some (.slice A n c)) 21 [(0,true),(1,true),(2,true),(3,true),(4,true),(5,true),(6,true),(7,true),(9,true),(10,true),(8,false),(11,true),(12,true),(13,true),(14,true),(16,true),(17,true),(18,true),(15,false),(19,true),(20,true)] (by kernel_rfl) (by kernel_rfl) (fun _ _ _ _ _ h=>h.elim) hS ?_;have hz1:W0.drew.heap.size=w.heap.size+2:=H.out.2.2.2.1;generalize W0.drew=W1 at BD hS hc1 hc2 hz1 ⊢
 iterate 10 refine aB rfl ?_
 (refine cM rfl (by first | with_reducible rfl | kernel_rfl) (fun K hK=>?_);go_simp)
 refine hc1.mono ?_;clear hc1;rintro e V ⟨rfl,hV⟩;subst V;refine hK _ _ (fun _=>hS) ?_;clear hK K;(try simp only[Act.put,gA,gS,gZ,sA,sZ,sS])
 iterate 7 refine aB rfl ?_
 (refine cM rfl (by first | with_reducible rfl | kernel_rfl) (fun K hK=>?_);go_simp)
 refine hc2.mono ?_;clear hc2;rintro e V ⟨rfl,hV⟩;subst V;refine hK _ _ (fun _=>hS) ?_;clear hK K;(try simp only[Act.put,gA,gS,gZ,sA,sZ,sS])
 refine aB rfl ?_;refine aB rfl ?_;refine aF ?_;dsimp only [EK]
 clear hS hnn hss;have k5:=Blk.new W1 3 #[.int .i64 0];have b5:Below W1.heap.size W1 (W1.alloc (.cells #[.int .i64 0] 3)):=bR.alloc (Nat.le_refl _) _;have hz5:(W1.alloc (.cells #[.int .i64 0] 3)).heap.size=w.heap.size+3:=by simp[hz1]
 rw[hz1] at k5 b5;have BD5:=hIz (BD.out.trans (b5.mono (by rw[← hz1];exact BD.out.size)));have H5:=aI2 k5 hz5;clear k5 b5 hz5;go_upto_region 4 with (fail);try rw[hz1]
 generalize W1.alloc (.cells #[.int .i64 0] 3)=W3 at BD5 H5 ⊢;clear hz1 BD;have hc3:=HC.out.2.2 W3 (tHn H.out.1 BD5.out);go_wp2_with fail;refine hc3.mono ?_;clear hc3;rintro e W4 ⟨gc,A5,n5,c5,zc,rfl,kc,b4,hm0⟩;have hm5:EI W4 W3.heap.size A5 n5 c5 b:=by
  cases b with
  | none=>exact hm0
  | some r=>exact hm0
 clear hm0;have B4:=hIz (tHn BD5.out b4);have k5:=H5.out.1.upd (upF b4) id;have k4:=H.out.2.2.1.upd (upF B4.out) id;have k3:=H.out.2.1.upd (upF B4.out) id;have hT4:=H.out.2.2.2.2.1.upd (Upd.of_below (tHn H.out.1 B4.out) (fun _=>False)) H.out.2.2.2.2.1.lt id;have hst:=mS W4 b H.out.2.2.2.2.2.1 hT4 gc c5 n5 A5 (fun x:Nat × Nat=>x.1<64∧x.2<64) (fun _ h=>h) H.out.2.2.2.2.2.2.2.2.2.1 kc _ hm5;have z4:=B4.out.size;have z0:=H.out.2.2.2.1;have z5:=H5.out.2;have z35:=b4.size;have tblt:=H.out.2.2.2.2.2.2.2.2.2.2;have hOw:∀q',IY gc b (.slice A5 n5 c5) q'→q'<W4.heap.size∧q'≠w.heap.size+2∧q'≠w.heap.size+1:=by
  rintro q' (rfl|rfl|⟨hs,ho⟩)
  ·exact⟨by omega,by omega,by omega⟩
  ·exact⟨kc.lt,by omega,by omega⟩
  ·have h1:=hm5.own hs ho;exact⟨h1.2,by omega,by omega⟩
 have lblt:w.heap.size<W4.heap.size:=by omega
 have c30:W4.cell? ⟨w.heap.size,0,none⟩=some (.int .i64 sd):=k3.cell 0;have rgl:RgM w.heap.size W4:=RgM.of_none c30 rfl;have hOI:jQ w.heap.size (fun q=>q=w.heap.size+2∨q=w.heap.size+1) W4.heap.size (fun (pre:List {x:Nat × Nat // x.1<64∧x.2<64}) (V:World)=>pre.map (·.1)=L.take pre.length∧Blk V (w.heap.size+2) 3 #[.int .i64 (pre.length:Int)]∧Blk V (w.heap.size+1) 4 #[.bool false]∧KpM w.heap.size (fun q=>q=w.heap.size+2∨q=w.heap.size+1) W4 V):=by
  rintro s X Y row ⟨h1,h2,h3,h4⟩ hgr hr;exact⟨h1,h2.grown hgr (fun e=>by have:=(hr _ e.symm).1;omega),h3.grown hgr (fun e=>by have:=(hr _ e.symm).1;omega),iX (β:=Unit) (Nat.le_refl _) lblt rgl () X Y row h4 hgr hr⟩
 have HV:=aI7 hst hOw rgl hOI k3 k4 k5;have hBw:Below w.heap.size w W4:=tHn H.out.1 B4.out;have HB:=aI2 hBw (H.out.2.2.2.2.2.2.2.2.1.below hBw);clear hst hOw rgl hOI k3 k4 k5 hT4 z0 z5 z35 tblt c30 hm5 kc b4 hBw B4 BD5;have z43:w.heap.size+3≤W4.heap.size:=by
  have h1:=HV.out.2.2.2.2.2.2.lt;omega
 have hEq:=HE W4 (.func 120) #[] #[.pointer (some ⟨gc,0,none⟩)];have hEq2:=HE W4.drew (.func 120) #[] #[.pointer (some ⟨gc,0,none⟩)];go_wp2;clear hEq hEq2;refine oX (gf:=120) (cap:=#[.pointer (some ⟨gc,0,none⟩)]) rfl (enters_of Tryz.func120 (by kernel_rfl) rfl) HV.out.1 bR (fun q' h=>(HV.out.2.1 q' h).1) (fun _=>rfl)
  w.heap.size (fun q=>q=w.heap.size+2∨q=w.heap.size+1) lblt HV.out.2.2.1 (fun q' e=>⟨by omega,fun h=>by have:=HV.out.2.1 q' h;omega⟩) (fun v q' hv ho=>absurd (HV.out.2.2.1.elim_int (HV.out.2.2.2.2.1.cell 0) hv ho) id)
  _ (fun (c:Code) (pre:List {x:Nat × Nat // x.1<64∧x.2<64}) (_:World)=>c=.ret∧pre.map (·.1)≠L.take pre.length) HV.out.2.2.2.1 (fun c s X Y row h _ _=>h) ⟨rfl,HV.out.2.2.2.2.2.2,HV.out.2.2.2.2.2.1,KpM.refl _ _ _⟩
  (fun T y _=>(((T.setIfInBounds 35 (.int .i64 (y.1.1:Int))).setIfInBounds 36 (.int .i64 (y.1.2:Int))).setIfInBounds 7 (.int .i64 (y.1.1:Int))).setIfInBounds 8 (.int .i64 (y.1.2:Int)))
  (fun _ _ _=>True) ?hBx ?assign ?body ?done ?stop
 case hBx=>exact fun y b' s X Y row h hg hr=>trivial
 case assign =>
  rintro l2 pre y V Kc hrV hsV hi hK;dsimp only [NE]
  have HI2:=hIz hi;clear hi;gi_wp2
  exact hK 0 _ (KpM.refl _ _ _) HI2.out trivial
 case stop =>
  rintro cc pre V ⟨k,hk,rfl⟩ ⟨-,hne⟩ - - -;exfalso
  have e1:(List.map (·.1) ((fY (qcL b) (fun x:Nat × Nat=>x.1<64∧x.2<64) H.out.2.2.2.2.2.2.2.2.2.1).take k))=L.take k:=by
   rw[List.map_take,yE,H.out.2.2.2.2.2.2.1]
  apply hne
  rw[e1,List.length_take,fZ,Nat.min_eq_left hk]
 case done =>
  rintro ys V rfl ⟨h1,k2,k1,kp⟩ hrV pD hD;have hlen:(fY (qcL b) (fun x:Nat × Nat=>x.1<64∧x.2<64) H.out.2.2.2.2.2.2.2.2.2.1).length=n:=by rw[fZ,H.out.2.2.2.2.2.2.1,H.out.2.2.2.2.2.2.2.1]
  rw[hlen] at k2;clear h1 hlen;have hk2:Upd (fun q=>q=w.heap.size+2∨q=w.heap.size+1) W4 V:=(kp HV.out.2.2.1).1.mono (fun q' _ ha=>ha.elim id (fun ⟨vv,h1,h2⟩=>(HV.out.2.2.1.elim_int (HV.out.2.2.2.2.1.cell 0) h1 h2).elim));have K3:=HV.out.2.2.2.2.1.upd hk2 (by omega);have p5:V.cell? ⟨w.heap.size+2,0,none⟩=some (.int .i64 (n:Int)):=k2.cell 0;have p3:V.cell? ⟨w.heap.size,1,none⟩=some (.slice A n c):=K3.cell 1;have p4:V.cell? ⟨w.heap.size+1,0,none⟩=some (.bool false):=k1.cell 0;have f4:=k1.frozen 0;have hnn:((n:Int)==(n:Int))=true:=by simp
  have kF:=k1.set 0 (.bool true);have uF:Upd (fun q=>q=w.heap.size+1) V (V.setCell ⟨w.heap.size+1,0,none⟩ (.bool true)):=(Upd.refl (fun q=>q=w.heap.size+1) V).setCell (p:=⟨w.heap.size+1,0,none⟩) (.inl rfl) _;have bF:Below w.heap.size w (V.setCell ⟨w.heap.size+1,0,none⟩ (.bool true)):=(HB.out.1.trans (hk2.below (fun q _ e=>by omega) HB.out.1.size)).trans (uF.below (fun q _ e=>by omega) (HB.out.1.trans (hk2.below (fun q _ e=>by omega) HB.out.1.size)).size);have pF:Prv w.heap.size (fun q=>q=w.heap.size+2∨q=w.heap.size+1) (V.setCell ⟨w.heap.size+1,0,none⟩ (.bool true)) W4.heap.size:=by
   have kp2:=KpM.of_upd (lb:=w.heap.size) uF (by have:=hk2.size;omega) (by omega);have kp3:KpM w.heap.size (fun q=>q=w.heap.size+2∨q=w.heap.size+1) V (V.setCell ⟨w.heap.size+1,0,none⟩ (.bool true)):=kp2.mono (fun q e=>.inr e);exact(kp3.prv hrV pD).2
  have hD2:(V.setCell ⟨w.heap.size+1,0,none⟩ (.bool true)).heap[W4.heap.size]?=some (.deferred (some [])):=(uF.block _ pD.1 (by omega)).trans hD;have HD:=aI5 kF bF pF hD2 uF.size;have zV:=hk2.size;clear kF uF bF pF hD2 k1 k2 kp hrV pD hD hk2 K3;go_wp2;clear p5 p3 p4 f4 hnn;generalize V.setCell ⟨w.heap.size+1,0,none⟩ (.bool true)=V9 at HD ⊢;refine iY (B:=W4.heap.size) (F:=fun q=>q=w.heap.size+2∨q=w.heap.size+1) (fun w1=>Blk w1 (w.heap.size+1) 4 #[.bool true]∧Below w.heap.size w w1) ?_ lblt ?_ [W4.heap.size] V9 (by simp) (fun D hD'=>?_) (by have:=HD.out.2.2.2.2;omega) ⟨HD.out.1,HD.out.2.1⟩
  ·rintro s X Y row ⟨h1,h2⟩ hg hrr;exact⟨h1.grown hg (fun e=>by have:=(hrr _ e.symm).1;omega),h2.trans ((Upd.of_grown hg).below (B:=w.heap.size) (fun q _ e=>by have:=(hrr q e).1;omega) h2.size)⟩
  ·rintro w1 ⟨h1,h2⟩;have y0:w1.cell? ⟨w.heap.size+1,0,none⟩=some (.bool true):=h1.cell 0;exact⟨.bool true,by simp[results,Tryz.f61,go_sem,y0],rfl,h2⟩
  ·simp only[List.mem_singleton] at hD'
   subst hD';exact⟨Nat.le_refl _,HD.out.2.2.1,HD.out.2.2.2.1⟩
 case body =>
  rintro l2 pre ⟨⟨i,j⟩,hy⟩ b' V hrV hsV ⟨h1,k2,k1,kp⟩-hlt2;have hlt:pre.length<n:=by rw[← H.out.2.2.2.2.2.2.2.1,← H.out.2.2.2.2.2.2.1];exact hlt2
  have hk2:Upd (fun q=>q=w.heap.size+2∨q=w.heap.size+1) W4 V:=(kp HV.out.2.2.1).1.mono (fun q' _ ha=>ha.elim id (fun ⟨vv,h1,h2⟩=>(HV.out.2.2.1.elim_int (HV.out.2.2.2.2.1.cell 0) h1 h2).elim));have K3:=HV.out.2.2.2.2.1.upd hk2 (by omega);obtain⟨m,hm⟩:∃m,pre.length=m:=⟨_,rfl⟩;rw[hm] at hlt k2 h1;obtain⟨⟨i0,j0⟩,hz⟩:∃z,L[m]?=some z:=⟨L[m]'(by rw[H.out.2.2.2.2.2.2.2.1];exact hlt),gEz _⟩;obtain⟨ab,ao,rfl,a0,a1⟩:=H.out.2.2.2.2.2.2.2.2.1.ce hz;dsimp only at a0 a1
  have hBV:Below w.heap.size w V:=HB.out.1.trans (hk2.below (fun q _ e=>by omega) HB.out.1.size);have c0:V.cell? ⟨ab,ao+m*2,none⟩=some (.int .i64 (i0:Int)):=(hBV.cell (World.block_lt_of_cell? _ _ a0)).trans a0;have c1:V.cell? ⟨ab,ao+m*2+1,none⟩=some (.int .i64 (j0:Int)):=(hBV.cell (World.block_lt_of_cell? _ _ a1)).trans a1;have p5:V.cell? ⟨w.heap.size+2,0,none⟩=some (.int .i64 (m:Int)):=k2.cell 0;have p3:V.cell? ⟨w.heap.size,1,none⟩=some (.slice (some ⟨ab,ao,none⟩) n c):=K3.cell 1;have hgI:¬(n:Int)≤(m:Int):=by omega
  have hg1:decide (n≤m)=false:=by simp;omega
  have hmI:(m:Int)<(n:Int):=by omega
  have zV:=hk2.size;have hmap:pre.map (·.1)++[(i,j)]=(pre++[(⟨(i,j),hy⟩:{x:Nat × Nat // x.1<64∧x.2<64})]).map (·.1):=by rw[List.map_append];rfl
  have hlen:(pre++[(⟨(i,j),hy⟩:{x:Nat × Nat // x.1<64∧x.2<64})]).length=m+1:=by rw[List.length_append,hm];rfl
  have htk:L.take (m+1)=L.take m++[(i0,j0)]:=by rw[List.take_add_one,hz];rfl
  by_cases he:((i0,j0):Nat × Nat)=(i,j)
  ·have heq:=fun W=>lD W (i0,j0) (i,j)
   rw[decide_eq_true he] at heq;dsimp only at heq
   have hmw:IntKind.i64.wrap ((m:Int)+1)=(m:Int)+1:=IntWalk.i64_in _ (by omega);have f5:=k2.frozen 0;have uF:Upd (fun q=>q=w.heap.size+2) V (V.setCell ⟨w.heap.size+2,0,none⟩ (.int .i64 ((m:Int)+1))):=(Upd.refl (fun q=>q=w.heap.size+2) V).setCell (p:=⟨w.heap.size+2,0,none⟩) (.inl rfl) _;have kp3:KpM w.heap.size (fun q=>q=w.heap.size+2∨q=w.heap.size+1) V (V.setCell ⟨w.heap.size+2,0,none⟩ (.int .i64 ((m:Int)+1))):=(KpM.of_upd (lb:=w.heap.size) uF (by omega) (by omega)).mono (fun q e=>.inl e);have FIN:=hIz (show KpM w.heap.size (fun q=>q=w.heap.size+2∨q=w.heap.size+1) V (V.setCell ⟨w.heap.size+2,0,none⟩ (.int .i64 ((m:Int)+1)))∧(fun (pre:List {x:Nat × Nat // x.1<64∧x.2<64}) (V:World)=>pre.map (·.1)=L.take pre.length∧Blk V (w.heap.size+2) 3 #[.int .i64 (pre.length:Int)]∧Blk V (w.heap.size+1) 4 #[.bool false]∧KpM w.heap.size (fun q=>q=w.heap.size+2∨q=w.heap.size+1) W4 V) (pre++[(⟨(i,j),hy⟩:{x:Nat × Nat // x.1<64∧x.2<64})]) (V.setCell ⟨w.heap.size+2,0,none⟩ (.int .i64 ((m:Int)+1))) from by
    refine⟨kp3,?_,?_,k1.upd uF (by omega),kp.trans kp3⟩
    ·rw[← hmap,hlen,htk,h1,he]
    ·rw[hlen];exact k2.set 0 _)
   clear uF kp3 k1 k2 kp K3 hk2 hBV a0 a1 h1 hmap hlen htk hz he hrV hm;simp only[sA,sZ,sS]
   gi_wp2
   exact FIN.out
  ·have heq:=fun W=>lD W (i0,j0) (i,j)
   rw[decide_eq_false he] at heq;dsimp only at heq
   have f4:=k1.frozen 0;have p4:V.cell? ⟨w.heap.size+1,0,none⟩=some (.bool false):=k1.cell 0;have uF:Upd (fun q=>q=w.heap.size+1) V (V.setCell ⟨w.heap.size+1,0,none⟩ (.bool false)):=(Upd.refl (fun q=>q=w.heap.size+1) V).setCell (p:=⟨w.heap.size+1,0,none⟩) (.inl rfl) _;have kp3:KpM w.heap.size (fun q=>q=w.heap.size+2∨q=w.heap.size+1) V (V.setCell ⟨w.heap.size+1,0,none⟩ (.bool false)):=(KpM.of_upd (lb:=w.heap.size) uF (by omega) (by omega)).mono (fun q e=>.inr e);have hne:(pre++[(⟨(i,j),hy⟩:{x:Nat × Nat // x.1<64∧x.2<64})]).map (·.1)≠L.take (pre++[(⟨(i,j),hy⟩:{x:Nat × Nat // x.1<64∧x.2<64})]).length:=by
    rw[hlen,← hmap,htk,h1];intro e;have:=List.append_cancel_left e;injection this with e;exact he e.symm
   have FIN:=aI2 kp3 hne;clear uF kp3 k1 k2 kp K3 hk2 hBV a0 a1 h1 hmap hlen htk hz he hrV hne hm;simp only[sA,sZ,sS]
   gi_wp2
   exact⟨FIN.out.1,rfl,FIN.out.2⟩
open Go.RowKit
structure RgC where
 b:Bool
 A:Option Addr
 n:Nat
 c:Nat
 B:Option Addr
 m:Nat
 d:Nat
def RgC.val(v:RgC):Value:=rgV v.b v.A v.n v.c v.B v.m v.d
def zC:RgC:=⟨false,none,0,0,none,0,0⟩
def sC(v:RgC)(F:Nat→Prop):Prop:=(∀b o s,v.A=some ⟨b,o,s⟩→¬F b)∧∀b o s,v.B=some ⟨b,o,s⟩→¬F b
def InW(v:RgC)(W:World):Prop:=(∀b o s,v.A=some ⟨b,o,s⟩→b<W.heap.size)∧∀b o s,v.B=some ⟨b,o,s⟩→b<W.heap.size
theorem sC.mono{v:RgC}{F G:Nat→Prop}(h:sC v F)(hm:∀k,G k→F k):sC v G:=⟨fun b o s e hk=>h.1 b o s e (hm b hk),fun b o s e hk=>h.2 b o s e (hm b hk)⟩
theorem sC.from{v:RgC}{W:World}{F:Nat→Prop}(h:InW v W)(hF:∀k,F k→W.heap.size≤k):sC v F:=⟨fun b o s e hk=>by have:=h.1 b o s e;have:=hF b hk;omega,fun b o s e hk=>by have:=h.2 b o s e;have:=hF b hk;omega⟩
structure iP(W:World)(F:Nat→Prop)(p:Nat)(v:RgC)(G:Gr)(E:List Ed):Prop where
 gr:GrS W F p G
 ok:GOk G
 rg:iE G E
 b:v.b=true
 n:v.n=G.N.length
 m:v.m=E.length
 rn:aV W v.A (aC G.N)
 re:aV W v.B (aH E)
 hc:G.N.length≤v.c
 hd:E.length≤v.d
 inw:InW v W
 aw:sC v F
def jS(W:World)(F:Nat→Prop)(q:Option Addr)(v:RgC):Prop:=
 (q=none∧v=zC∧∀k,¬F k)∨∃p G E,q=some ⟨p,0,none⟩∧iP W F p v G E
theorem iP.upd{W W':World}{F P:Nat→Prop}{p:Nat}{v:RgC}{G:Gr}{E:List Ed}(h:iP W F p v G E)(hu:Upd P W W')(hd:∀k,F k→¬P k)(ha:sC v P):iP W' F p v G E:=
 ⟨h.gr.upd hu hd,h.ok,h.rg,h.b,h.n,h.m,h.rn.upd hu ha.1,h.re.upd hu ha.2,h.hc,h.hd,⟨fun b o s e=>Nat.lt_of_lt_of_le (h.inw.1 b o s e) hu.size,fun b o s e=>Nat.lt_of_lt_of_le (h.inw.2 b o s e) hu.size⟩,h.aw⟩
theorem iP.below{W W':World}{F:Nat→Prop}{p:Nat}{v:RgC}{G:Gr}{E:List Ed}(h:iP W F p v G E)(hb:Below W.heap.size W W'):iP W' F p v G E:=h.upd (upF hb) (fun _ _=>id) ⟨fun _ _ _ _=>id,fun _ _ _ _=>id⟩
theorem jS.upd{W W':World}{F P:Nat→Prop}{q:Option Addr}{v:RgC}(h:jS W F q v)(hu:Upd P W W')(hd:∀k,F k→¬P k)(ha:sC v P):jS W' F q v:=by
 rcases h with h|⟨p,G,E,e,h⟩
 ·exact .inl h
 ·exact .inr ⟨p,G,E,e,h.upd hu hd ha⟩
theorem jS.below{W W':World}{F:Nat→Prop}{q:Option Addr}{v:RgC}(h:jS W F q v)(hb:Below W.heap.size W W'):jS W' F q v:=h.upd (upF hb) (fun _ _=>id) ⟨fun _ _ _ _=>id,fun _ _ _ _=>id⟩
theorem jS.lt{W:World}{F:Nat→Prop}{q:Option Addr}{v:RgC}(h:jS W F q v):∀k,F k→k<W.heap.size:=by
 rcases h with ⟨-,-,h⟩|⟨p,G,E,e,h⟩
 ·exact fun k hk=>(h k hk).elim
 ·exact h.gr.lt
theorem jS.inw{W:World}{F:Nat→Prop}{q:Option Addr}{v:RgC}(h:jS W F q v):InW v W:=by
 rcases h with ⟨-,rfl,-⟩|⟨p,G,E,e,h⟩
 ·exact⟨fun b o s e=>(by cases e),fun b o s e=>(by cases e)⟩
 ·exact h.inw
theorem jS.aw{W:World}{F:Nat→Prop}{q:Option Addr}{v:RgC}(h:jS W F q v):sC v F:=by
 rcases h with ⟨-,rfl,-⟩|⟨p,G,E,e,h⟩
 ·exact⟨fun b o s e=>(by cases e),fun b o s e=>(by cases e)⟩
 ·exact h.aw
theorem iP.fit{W:World}{F:Nat→Prop}{p:Nat}{v:RgC}{G:Gr}{E:List Ed}(h:iP W F p v G E):yM G.N E:=by
 have hf:=h.ok.few;have hs:=fW.of (fP h.ok.may);have hl:=h.rg.len h.ok;refine⟨by omega,by omega,fun t ht=>by have:=hs.n t ht;unfold cT;omega,fun x hx=>?_⟩;have:=hs.e x ((h.rg.mem x).1 hx);unfold pE cT;omega
theorem iP.for{W:World}{F:Nat→Prop}{p:Nat}{v:RgC}{G:Gr}{E:List Ed}(h:iP W F p v G E):dX W v.A v.c v.B v.d G.N E:=⟨h.rn,h.re,h.hc,h.hd,h.fit⟩
theorem iP.val{W:World}{F:Nat→Prop}{p:Nat}{v:RgC}{G:Gr}{E:List Ed}(h:iP W F p v G E):v.val=rgV true v.A G.N.length v.c v.B E.length v.d:=by
 unfold RgC.val;rw[h.b,h.n,h.m]
theorem iP.few{W:World}{F:Nat→Prop}{p:Nat}{v:RgC}{G:Gr}{E:List Ed}(h:iP W F p v G E):G.N.length≤32∧E.length≤256:=by
 have:=h.ok.few;have:=h.rg.len h.ok;omega
theorem uW{G:Gr}(ok:GOk G):yM (datN G) (datE G)∧(datN G).length≤32∧(datE G).length≤256∧(aR ltT (lbs (datE G))).length≤256:=by
 have hc:=iW ok.may;have hs:=fW.of (eI hc).2.1;have hcap:=vQ (eI hc).2.2;have hl:(aR ltT (lbs (datE G))).length≤(datE G).length:=by
  have:=dP dW (lbs (datE G));unfold lbs at this ⊢;rwa [List.length_map] at this
 have h1:(datN G).length≤32:=hcap.1;have h2:(datE G).length≤256:=hcap.2.2.1;refine⟨⟨by omega,by omega,fun t ht=>by have:=hs.n t ht;unfold cT;omega,fun x hx=>?_⟩,h1,h2,by omega⟩;have:=hs.e x hx;unfold pE cT;omega
def fT(w:World)(F:Nat→Prop)(q:Option Addr)(v:RgC)(e:Ending)(w':World):Prop:=
 ∃v' F',e=.returned (.tuple #[v'.val,.bool true])∧jS w' F' q v'∧Upd F w w'∧(∀k,F' k→F k∨w.heap.size≤k)∧∀P:Nat→Prop,(∀k,P k→k<w.heap.size)→sC v P→sC v' P
theorem fT.same{w:World}{F:Nat→Prop}{q:Option Addr}{v:RgC}(h:jS w F q v){e:Ending}{w':World}(hs:Sam w (.tuple #[v.val,.bool true]) e w'):fT w F q v e w':=
 ⟨v,F,hs.1,h.below hs.2,Upd.of_below hs.2 F,fun k hk=>.inl hk,fun _ _ ha=>ha⟩
section
variable {w:World} {F:Nat→Prop} {q:Option Addr} {v:RgC} {dO oa ob on:Int} {x:Ed} {GA:Option Addr} {gn gc:Nat} {GB:Option Addr} {gm gd:Nat}
def PU(w:World)(F:Nat→Prop)(p:Nat)(v:RgC)(E:List Ed)(G G':Gr)(W:World):Prop:=∃F',GrS W F' p G'∧(∀k,F' k→F k∨w.heap.size+3≤k)∧dX W v.A v.c v.B v.d G.N E∧InW v W
def OO(w:World)(F:Nat→Prop)(p:Nat)(v:RgC)(b':Bool)(A':Option Addr)(n' c':Nat)(B':Option Addr)(m' d':Nat)(W:World):Prop:=
 ∃F' G' E',iP W F' p ⟨b',A',n',c',B',m',d'⟩ G' E'∧(∀k,F' k→F k∨w.heap.size+3≤k)∧(A'=v.A∨∀b o s,A'=some ⟨b,o,s⟩→w.heap.size+3≤b)∧(B'=v.B∨∀b o s,B'=some ⟨b,o,s⟩→w.heap.size+3≤b)
theorem EM{w W W':World}{F:Nat→Prop}{p:Nat}{v:RgC}{G:Gr}{E:List Ed}(h:iP w F p v G E)(hb:Below w.heap.size w W)(hz:w.heap.size+3≤W.heap.size){r:Gr × Bool × Int}{e:Ending}(hp:IC W F p r e W') :
  e=.returned (.tuple #[.bool r.2.1,.int .i64 r.2.2])∧Upd F W W'∧PU w F p v E G r.1 W':=by
 obtain⟨he,F',h1,h2,h3⟩:=hp;have hW:=h.below hb;exact⟨he,h2,F',h1,fun k hk=>(h3 k hk).imp id (fun h=>Nat.le_trans hz h),hW.for.upd h2 hW.aw.1 hW.aw.2,fun b o s e=>Nat.lt_of_lt_of_le (hW.inw.1 b o s e) h2.size,fun b o s e=>Nat.lt_of_lt_of_le (hW.inw.2 b o s e) h2.size⟩
theorem yF{w W W':World}{F:Nat→Prop}(hF:∀k,F k→k<w.heap.size){p:Nat}{v:RgC}(hv:InW v w){b':Bool}{A':Option Addr}{n' c':Nat}{B':Option Addr}{m' d':Nat}(h:OO w F p v b' A' n' c' B' m' d' W)(hu:Upd (fun q=>q=w.heap.size+1+1) W W'):OO w F p v b' A' n' c' B' m' d' W':=by
 obtain⟨F',G',E',hs,h1,h2,h3⟩:=h;refine⟨F',G',E',hs.upd hu (fun k hk e=>?_) ⟨fun b o s e hb=>?_,fun b o s e hb=>?_⟩,h1,h2,h3⟩
 ·rcases h1 k hk with h|h
  ·have:=hF k h;omega
  ·omega
 ·rcases h2 with h|h
  ·have h':A'=some ⟨b,o,s⟩:=e;have:=hv.1 b o s (by rw[← h];exact h');omega
  ·have:=h b o s e;omega
 ·rcases h3 with h|h
  ·have h':B'=some ⟨b,o,s⟩:=e;have:=hv.2 b o s (by rw[← h];exact h');omega
  ·have:=h b o s e;omega
theorem yG{w w':World}{F:Nat→Prop}(hF:∀k,F k→k<w.heap.size){p:Nat}{v:RgC}{e:Ending}(h:∃b' A' n' c' B' m' d',e=.returned (.tuple #[rgV b' A' n' c' B' m' d',.bool true])∧Upd F w w'∧OO w F p v b' A' n' c' B' m' d' w'):fT w F (some ⟨p,0,none⟩) v e w':=by
 obtain⟨b',A',n',c',B',m',d',he,hu,F',G',E',hs,h1,h2,h3⟩:=h;refine⟨⟨b',A',n',c',B',m',d'⟩,F',he,.inr ⟨p,G',E',rfl,hs⟩,hu,fun k hk=>(h1 k hk).imp id (fun h=>by omega),fun P hP ha=>⟨fun b o s e hk=>?_,fun b o s e hk=>?_⟩⟩
 ·rcases h2 with h|h
  ·have h':A'=some ⟨b,o,s⟩:=e;exact ha.1 b o s (by rw[← h];exact h') hk
  ·have:=h b o s e;have:=hP b hk;omega
 ·rcases h3 with h|h
  ·have h':B'=some ⟨b,o,s⟩:=e;exact ha.2 b o s (by rw[← h];exact h') hk
  ·have:=h b o s e;have:=hP b hk;omega
theorem EN(h:jS w F q v)(hd:dO=2)(hx:pE x):Calls Tryz.prog 15 #[.pointer q,v.val,opV dO oa ob on x GA gn gc GB gm gd] w (fT w F q v):=by
 have h0:=h;rcases h with ⟨rfl,rfl,hF⟩|⟨p,G,E,rfl,hs⟩
 ·refine(qJ w _ false none 0 0 none 0 0 dO oa ob on x GA gn gc GB gm gd hd false 1 (fun _=>False) (fun _ h=>h.elim) (fun _=>True) (fun b' A' n' c' B' m' d' _=>(⟨b',A',n',c',B',m',d'⟩:RgC)=zC)
   (fun W _ _=>(CQ W x.fr).mono (fun e W' h=>⟨h.1,by rw[h.2];exact Upd.refl _ _,trivial⟩)) (fun W _ _ _=>(DZ W x.fr).mono (fun e W' h=>⟨false,none,0,0,none,0,0,h.1,h.2,rfl⟩)) (fun _ _ _ _ _ _ _ _ _ h _=>h)).mono ?_
  rintro e w' ⟨b',A',n',c',B',m',d',rfl,hu,hz⟩;have hz:(⟨b',A',n',c',B',m',d'⟩:RgC)=zC:=hz;refine⟨zC,F,?_,.inl ⟨rfl,rfl,hF⟩,hu.mono (fun _ _ h=>h.elim),fun k hk=>.inl hk,fun _ _ ha=>ha⟩;rw[← hz];rfl
 ·have hF:=hs.gr.lt;have hv:v.val=rgV v.b v.A v.n v.c v.B v.m v.d:=rfl;rw[hv];refine(qJ w _ v.b v.A v.n v.c v.B v.m v.d dO oa ob on x GA gn gc GB gm gd hd (aS G x.fr).2.1 (aS G x.fr).2.2 F hF (PU w F p v E G (aS G x.fr).1) (OO w F p v) (fun W hb hz=>(qA W F p G (hs.below hb).gr hs.ok x.fr hx.1).mono (fun e W' hp=>EM hs hb hz hp)) ?_ (fun b' A' n' c' B' m' d' W W' h hu=>yF hF hs.inw h hu)).mono (fun e w' h=>yG hF h);rintro W ⟨F',h1,h2,h3,h4⟩ hu hz;have hcon:=DF W v.A v.c v.B v.d G.N E h3 (by have:=hs.few;omega) (by have:=hs.few;omega) x.fr hx.1;rw[hs.b,hs.n,hs.m];refine hcon.mono ?_;rintro e W' ⟨hb,z,⟨hr,rfl⟩|⟨rfl,hr,A',c',rfl,own⟩⟩
  ·have hno:=hs.rg.node_no hs.ok hr;rw[nK hs.rg hs.ok] at hr;injection hr with r1 r2;refine⟨true,v.A,G.N.length,v.c,v.B,E.length,v.d,by rw[r1,r2],hb,F',G,E,⟨?_,hs.ok,hs.rg,rfl,rfl,rfl,h3.rn.below hb,h3.re.below hb,h3.hc,h3.hd,⟨fun b o s e=>Nat.lt_of_lt_of_le (h4.1 b o s e) hb.size,fun b o s e=>Nat.lt_of_lt_of_le (h4.2 b o s e) hb.size⟩,?_⟩,h2,.inl rfl,.inl rfl⟩
   ·have:=h1.below hb;rwa [hno] at this
   ·refine⟨fun b o s e hk=>?_,fun b o s e hk=>?_⟩
    ·rcases h2 b hk with h|h
     ·exact hs.aw.1 b o s e h
     ·have:=hs.inw.1 b o s e;omega
    ·rcases h2 b hk with h|h
     ·exact hs.aw.2 b o s e h
     ·have:=hs.inw.2 b o s e;omega
  ·have hyes:=hs.rg.node_yes hs.ok hr;have hok:=hs.ok.node x.fr;have hrg:=hs.rg.node x.fr;rw[nK hs.rg hs.ok] at hr;injection hr with r1 r2;rw[hyes] at hok hrg h1;have ob:=vJ own;refine⟨true,A',G.N.length+1,c',v.B,E.length,v.d,by rw[r1,r2],hb,F',⟨G.N++[x.fr],G.X⟩,E,⟨h1.below hb,hok,hrg,rfl,by simp,rfl,aV.of_own own,h3.re.below hb,by have:=eC own;simp;omega,h3.hd,⟨fun b o s e=>(ob b o s e).2,fun b o s e=>Nat.lt_of_lt_of_le (h4.2 b o s e) hb.size⟩,?_⟩,h2,.inr (fun b o s e=>by have:=(ob b o s e).1;omega),.inl rfl⟩;refine⟨fun b o s e hk=>?_,fun b o s e hk=>?_⟩
   ·have:=(ob b o s e).1;have:=h1.lt b hk;omega
   ·rcases h2 b hk with h|h
    ·exact hs.aw.2 b o s e h
    ·have:=hs.inw.2 b o s e;omega
theorem EO(h:jS w F q v)(hd:dO=3)(hx:pE x):Calls Tryz.prog 15 #[.pointer q,v.val,opV dO oa ob on x GA gn gc GB gm gd] w (fT w F q v):=by
 have h0:=h;rcases h with ⟨rfl,rfl,hF⟩|⟨p,G,E,rfl,hs⟩
 ·refine(qK w _ false none 0 0 none 0 0 dO oa ob on x GA gn gc GB gm gd hd false 1 (fun _=>False) (fun _ h=>h.elim) (fun _=>True) (fun b' A' n' c' B' m' d' _=>(⟨b',A',n',c',B',m',d'⟩:RgC)=zC)
   (fun W _ _=>(CR W x).mono (fun e W' h=>⟨h.1,by rw[h.2];exact Upd.refl _ _,trivial⟩)) (fun W _ _ _=>(EA W x).mono (fun e W' h=>⟨false,none,0,0,none,0,0,h.1,h.2,rfl⟩)) (fun _ _ _ _ _ _ _ _ _ h _=>h)).mono ?_
  rintro e w' ⟨b',A',n',c',B',m',d',rfl,hu,hz⟩;have hz:(⟨b',A',n',c',B',m',d'⟩:RgC)=zC:=hz;refine⟨zC,F,?_,.inl ⟨rfl,rfl,hF⟩,hu.mono (fun _ _ h=>h.elim),fun k hk=>.inl hk,fun _ _ ha=>ha⟩;rw[← hz];rfl
 ·have hF:=hs.gr.lt;have hv:v.val=rgV v.b v.A v.n v.c v.B v.m v.d:=rfl;rw[hv];refine(qK w _ v.b v.A v.n v.c v.B v.m v.d dO oa ob on x GA gn gc GB gm gd hd (aP G x).2.1 (aP G x).2.2 F hF (PU w F p v E G (aP G x).1) (OO w F p v) (fun W hb hz=>(lW W F p G (hs.below hb).gr hs.ok x hx).mono (fun e W' hp=>EM hs hb hz hp)) ?_ (fun b' A' n' c' B' m' d' W W' h hu=>yF hF hs.inw h hu)).mono (fun e w' h=>yG hF h);rintro W ⟨F',h1,h2,h3,h4⟩ hu hz;have hcon:=DG W v.A v.c v.B v.d G.N E h3 (by have:=hs.few;omega) (by have:=hs.few;omega) x hx;rw[hs.b,hs.n,hs.m];refine hcon.mono ?_;rintro e W' ⟨hb,z,⟨hr,rfl⟩|⟨rfl,hr,A',c',B',d',rfl,own,own2⟩⟩
  ·have hno:=hs.rg.edge_no hs.ok hr;rw[nL hs.rg hs.ok] at hr;injection hr with r1 r2;refine⟨true,v.A,G.N.length,v.c,v.B,E.length,v.d,by rw[r1,r2],hb,F',G,E,⟨?_,hs.ok,hs.rg,rfl,rfl,rfl,h3.rn.below hb,h3.re.below hb,h3.hc,h3.hd,⟨fun b o s e=>Nat.lt_of_lt_of_le (h4.1 b o s e) hb.size,fun b o s e=>Nat.lt_of_lt_of_le (h4.2 b o s e) hb.size⟩,?_⟩,h2,.inl rfl,.inl rfl⟩
   ·have:=h1.below hb;rwa [hno] at this
   ·refine⟨fun b o s e hk=>?_,fun b o s e hk=>?_⟩
    ·rcases h2 b hk with h|h
     ·exact hs.aw.1 b o s e h
     ·have:=hs.inw.1 b o s e;omega
    ·rcases h2 b hk with h|h
     ·exact hs.aw.2 b o s e h
     ·have:=hs.inw.2 b o s e;omega
  ·obtain⟨hrg,hN⟩:=hs.rg.edge hs.ok hr;have hok:=hs.ok.edge x;rw[nL hs.rg hs.ok] at hr;injection hr with r1 r2;have ob:=vJ own;have ob2:=vJ own2;rw[← hN] at own ⊢;refine⟨true,A',(aP G x).1.N.length,c',B',(aR ltE (E++[x])).length,d',by rw[r1,r2],hb,F',(aP G x).1,aR ltE (E++[x]),⟨h1.below hb,hok,hrg,rfl,rfl,rfl,aV.of_own own,aV.of_own own2,eC own,eC own2,⟨fun b o s e=>(ob b o s e).2,fun b o s e=>(ob2 b o s e).2⟩,?_⟩,h2,.inr (fun b o s e=>by have:=(ob b o s e).1;omega),.inr (fun b o s e=>by have:=(ob2 b o s e).1;omega)⟩;refine⟨fun b o s e hk=>?_,fun b o s e hk=>?_⟩
   ·have:=(ob b o s e).1;have:=h1.lt b hk;omega
   ·have:=(ob2 b o s e).1;have:=h1.lt b hk;omega
end
end Go.Proofs.YtddffnonlmfhdaaGreatDoor
