/- azimov: the memory of fill: the closure, the work list, the uses; azimov: fill's loops, plain; azimov: fill; azimov: Check; azimov: there; a closure that takes a matrix more; Facts in memory; far: a fact with its length: order, cmp.Or of four, rows in order. (Written by mkFrC.py.). -/
import Derived.Test.YteffnejneoocgaaGreatDoorF11
import Derived.Deep.LoopGhost
import Derived.Laws.OwnMore
import Derived.Test.YteffnejneoocgaaGreatDoorF03
set_option linter.unusedVariables false
set_option linter.unusedSimpArgs false
set_option maxHeartbeats 16000000
set_option maxRecDepth 100000
namespace Go.Proofs.YteffnejneoocgaaGreatDoor
open Go.RowKit Go.Shelf
structure Pv where
 pr:Pr
 adr:Option Addr
 cap:Nat
def Pv.cells(v:Pv):List Value:=[.int .i64 v.pr.head,.slice v.adr v.pr.body.length v.cap]
def cY(l:List Pv):List Value:=l.flatMap Pv.cells
theorem oP(l:List Pv)(v:Pv):cY (l++[v])=cY l++v.cells:=by simp[cY]
theorem kC{l:List Pv}{k:Nat}{v:Pv}(h:l[k]?=some v):(cY l)[k*2]?=some (.int .i64 v.pr.head)∧(cY l)[k*2+1]?=some (.slice v.adr v.pr.body.length v.cap):=
 ⟨cO Pv.cells 2 (fun _=>rfl) l k 0 v h (by omega),cO Pv.cells 2 (fun _=>rfl) l k 1 v h (by omega)⟩
theorem aX.pv{w:World}{A:Option Addr}{l:List Pv}(h:aX w A (cY l)){k:Nat}{v:Pv}(hk:l[k]?=some v) :
  ∃b o,A=some ⟨b,o,none⟩∧w.cell? ⟨b,o+k*2,none⟩=some (.int .i64 v.pr.head)∧w.cell? ⟨b,o+k*2+1,none⟩=some (.slice v.adr v.pr.body.length v.cap):=by
 obtain⟨b,o,rfl,c0⟩:=h _ _ (kC hk).1;obtain⟨b',o',e,c1⟩:=h _ _ (kC hk).2;injection e with e;injection e with e1 e2;subst e1;subst e2;exact⟨b,o,rfl,c0,c1⟩
def PvR(w:World)(A:Option Addr)(l:List Pv):Prop:=aX w A (cY l)∧∀v∈l,aX w v.adr (dU v.pr.body)
theorem PvR.below{w w':World}{A:Option Addr}{l:List Pv}(h:PvR w A l)(hb:Below w.heap.size w w'):PvR w' A l:=⟨h.1.below3 hb,fun v hv=>(h.2 v hv).below3 hb⟩

def uvC(uv:Nat→Value)(nts:Nat):List Value:=(List.range nts).map uv
theorem qM{uv:Nat→Value}{nts k:Nat}(h:k<nts):(uvC uv nts)[k]?=some (uv k):=by simp[uvC,h]
structure UsI(w:World)(U:Nat→Option (Option Nat))(u nts:Nat)(uv:Nat→Value)(Q:Nat→List Pv):Prop where
 blk:Blk w u 22 (uvC uv nts).toArray
 rows:∀k,k<nts→w.ownsRow 0 71 2 (uv k) (Q k).length (cY (Q k))
 ou:U u=some none
 our:∀k,k<nts→∀q,(uv k).ownBlock=some q→U q=some (some k)
 lt:∀q,U q≠none→q<w.heap.size
theorem UsI.upd{w w':World}{U:Nat→Option (Option Nat)}{u nts:Nat}{uv:Nat→Value}{Q:Nat→List Pv}{G:Nat→Prop}(h:UsI w U u nts uv Q)(hu:Upd G w w')(hd:∀q,U q≠none→¬G q):UsI w' U u nts uv Q:=by
 have no:∀k t,U k=some t→¬G k:=fun k t e=>hd k (by simp[e])
 exact⟨h.blk.upd hu (no _ _ h.ou),fun k hk=>aB (h.rows k hk) hu (fun q hq=>no _ _ (h.our k hk q hq)),h.ou,h.our,fun q hq=>Nat.lt_of_lt_of_le (h.lt q hq) hu.size⟩
structure UI(w V:World)(F:Nat→Prop)(p n nts pw pm u:Nat)(X:Nat→Prop)(B:eG)(L:List Int)(Q:Nat→List Pv)(FC:Nat→Prop)(lv:Value)(U:Nat→Option (Option Nat))(uv:Nat→Value):Prop where
 cl:ClS V FC p n n nts B
 wk:WkI V pw pm nts lv L
 us:UsI V U u nts uv Q
 up:Upd F w V
 c1:∀k,FC k→F k∨w.heap.size≤k
 c2:∀k,WkF pw pm lv k→w.heap.size≤k
 c3:∀k,U k≠none→w.heap.size≤k
 d12:∀k,FC k→¬WkF pw pm lv k
 d13:∀k,FC k→U k=none
 d23:∀k,WkF pw pm lv k→U k=none
 x0:∀k,X k→k<V.heap.size
 x1:∀k,X k→¬FC k
 x2:∀k,X k→¬WkF pw pm lv k
 x3:∀k,X k→U k=none
def kD(w V:World)(F:Nat→Prop)(p n nts pw pm u:Nat)(X:Nat→Prop)(B:eG)(L:List Int)(Q:Nat→List Pv):Prop:=∃FC lv U uv,UI w V F p n nts pw pm u X B L Q FC lv U uv
theorem WkI.lts{w:World}{p m nts:Nat}{lv:Value}{L:List Int}(h:WkI w p m nts lv L):∀k,WkF p m lv k→k<w.heap.size:=fun k hk=>by
 rcases hk with e|e|e
 ·subst e;exact h.ch.1.lt
 ·subst e;exact h.mks.lt
 ·exact(h.ch.2.lt k e).2
theorem dK{w w':World}(hb:Below w.heap.size w w'){q:Addr}{v:Value}(hc:w.cell? q=some v):w'.cell? q=some v:=by
 rw[hb.cell (World.block_lt_of_cell? w _ hc)];exact hc
def NoX(_:Nat):Prop:=False
section
variable {w V V':World} {F X:Nat→Prop} {p n nts pw pm u:Nat} {B:eG} {L:List Int} {Q:Nat→List Pv}
theorem kD.below(h:kD w V F p n nts pw pm u X B L Q)(hb:Below V.heap.size V V'):kD w V' F p n nts pw pm u X B L Q:=by
 obtain⟨FC,lv,U,uv,h⟩:=h;have hu:=Upd.of_below hb (fun _=>False);exact⟨FC,lv,U,uv,h.cl.below hb,h.wk.upd hu id id (fun _ _=>id),h.us.upd hu (fun _ _=>id),h.up.trans hu (fun _ h=>h.elim),h.c1,h.c2,h.c3,h.d12,h.d13,h.d23,fun k hk=>Nat.lt_of_lt_of_le (h.x0 k hk) hb.size,h.x1,h.x2,h.x3⟩
theorem kD.box(h:kD w V F p n nts pw pm u NoX B L Q)(o:Obj):kD w (V.alloc o) F p n nts pw pm u (fun k=>k=V.heap.size) B L Q:=by
 have h1:=h.below (V':=V.alloc o) (bR.alloc (Nat.le_refl _) _);obtain⟨FC,lv,U,uv,h⟩:=h;have hu:=Upd.of_below ((Below.refl V.heap.size V).alloc (Nat.le_refl _) o) (fun _=>False);refine⟨FC,lv,U,uv,h.cl.upd hu (fun _ _=>id),h.wk.upd hu id id (fun _ _=>id),h.us.upd hu (fun _ _=>id),h.up.trans hu (fun _ h=>h.elim),h.c1,h.c2,h.c3,h.d12,h.d13,h.d23,fun k hk=>by subst hk;simp,fun k hk e=>?_,fun k hk e=>?_,fun k hk=>?_⟩
 ·have:=h.cl.lt k e;omega
 ·have:=h.wk.lts k e;omega
 ·cases hU:U k with
  | none=>rfl
  | some t=>have:=h.us.lt k (by rw[hU];exact nofun);omega
theorem kD.bare(h:kD w V F p n nts pw pm u X B L Q):kD w V F p n nts pw pm u NoX B L Q:=by
 obtain⟨FC,lv,U,uv,h⟩:=h;exact⟨FC,lv,U,uv,h.cl,h.wk,h.us,h.up,h.c1,h.c2,h.c3,h.d12,h.d13,h.d23,fun _ hk=>hk.elim,fun _ hk=>hk.elim,fun _ hk=>hk.elim,fun _ hk=>hk.elim⟩
theorem kD.turn(h:kD w V F p n nts pw pm u X B L Q):∃FC,ClS V FC p n n nts B∧∀B' V',vQ V FC p n n nts B' V'→kD w V' F p n nts pw pm u X B' L Q∧(∀o,V'.cell? ⟨u,o,none⟩=V.cell? ⟨u,o,none⟩)∧∀b o,X b→V'.cell? ⟨b,o,none⟩=V.cell? ⟨b,o,none⟩:=by
 obtain⟨FC,lv,U,uv,h⟩:=h;refine⟨FC,h.cl,fun B' V' ⟨F',h1,h2,h3⟩=>⟨⟨F',lv,U,uv,h1,h.wk.upd h2 (fun e=>h.d12 _ e (.inl rfl)) (fun e=>h.d12 _ e (.inr (.inl rfl))) (fun k hk e=>h.d12 _ e (.inr (.inr hk))),h.us.upd h2 (fun q hq e=>hq (h.d13 q e)),h.up.trans h2 h.c1,fun k hk=>?_,h.c2,h.c3,fun k hk e=>?_,fun k hk=>?_,h.d23,fun k hk=>Nat.lt_of_lt_of_le (h.x0 k hk) h2.size,fun k hk e=>?_,h.x2,h.x3⟩,
  fun o=>h2.cell (p:=⟨u,o,none⟩) h.us.blk.lt (fun e=>by have:=h.d13 _ e;rw[h.us.ou] at this;cases this),fun b o hb=>h2.cell (p:=⟨b,o,none⟩) (h.x0 b hb) (h.x1 b hb)⟩⟩
 ·rcases h3 k hk with h4|h4
  ·exact h.c1 k h4
  ·exact .inr (Nat.le_trans h.up.size h4)
 ·rcases h3 k hk with h4|h4
  ·exact h.d12 k h4 e
  ·have:=h.wk.lts k e;omega
 ·rcases h3 k hk with h4|h4
  ·exact h.d13 k h4
  ·cases hU:U k with
   | none=>rfl
   | some t=>have:=h.us.lt k (by rw[hU];exact nofun);omega
 ·rcases h3 k e with h4|h4
  ·exact h.x1 k hk h4
  ·have:=h.x0 k hk;omega
theorem kD.work(h:kD w V F p n nts pw pm u X B L Q):∃lv,WkI V pw pm nts lv L∧∀C V',WkT V pw pm nts lv C V'→(∃L',C L'∧kD w V' F p n nts pw pm u X B L' Q)∧(∀o,V'.cell? ⟨u,o,none⟩=V.cell? ⟨u,o,none⟩)∧∀b o,X b→V'.cell? ⟨b,o,none⟩=V.cell? ⟨b,o,none⟩:=by
 obtain⟨FC,lv,U,uv,h⟩:=h;refine⟨lv,h.wk,fun C V' ⟨lv',L',h1,h2,h3,h4⟩=>⟨⟨L',h2,FC,lv',U,uv,h.cl.upd h3 h.d12,h1,h.us.upd h3 (fun q hq e=>hq (h.d23 q e)),h.up.trans h3 (fun k hk=>.inr (h.c2 k hk)),h.c1,fun k hk=>?_,h.c3,fun k hk e=>?_,h.d13,fun k hk=>?_,fun k hk=>Nat.lt_of_lt_of_le (h.x0 k hk) h3.size,h.x1,fun k hk e=>?_,h.x3⟩,
  fun o=>h3.cell (p:=⟨u,o,none⟩) h.us.blk.lt (fun e=>by have:=h.d23 _ e;rw[h.us.ou] at this;cases this),fun b o hb=>h3.cell (p:=⟨b,o,none⟩) (h.x0 b hb) (h.x2 b hb)⟩⟩
 ·rcases hk with e|e|e
  ·exact h.c2 k (.inl e)
  ·exact h.c2 k (.inr (.inl e))
  ·rcases h4 k e with e|e
   ·exact h.c2 k (.inr (.inr e))
   ·exact Nat.le_trans h.up.size e
 ·rcases e with e|e|e
  ·exact h.d12 k hk (.inl e)
  ·exact h.d12 k hk (.inr (.inl e))
  ·rcases h4 k e with e|e
   ·exact h.d12 k hk (.inr (.inr e))
   ·have:=h.cl.lt k hk;omega
 ·rcases hk with e|e|e
  ·exact h.d23 k (.inl e)
  ·exact h.d23 k (.inr (.inl e))
  ·rcases h4 k e with e|e
   ·exact h.d23 k (.inr (.inr e))
   ·cases hU:U k with
    | none=>rfl
    | some t=>have:=h.us.lt k (by rw[hU];exact nofun);omega
 ·rcases e with e|e|e
  ·exact h.x2 k hk (.inl e)
  ·exact h.x2 k hk (.inr (.inl e))
  ·rcases h4 k e with e|e
   ·exact h.x2 k hk (.inr (.inr e))
   ·have:=h.x0 k hk;omega
theorem kD.use(h:kD w V F p n nts pw pm u X B L Q){k:Nat}(hk:k<nts):∃A c,V.cell? ⟨u,k,none⟩=some (.slice A (Q k).length c)∧V.frozen? ⟨u,k,none⟩=false∧aX V A (cY (Q k)):=by
 obtain⟨FC,lv,U,uv,h⟩:=h;have own:=h.us.rows k hk;obtain⟨A,c,e,-,-⟩:=aK own;rw[e] at own;refine⟨A,c,?_,h.us.blk.frozen k,aX.of_own own⟩;rw[h.us.blk.cell k,List.getElem?_toArray,qM hk,e]
theorem uZ:(Tryz.prog.info? 71).map (fun i=>(i.zero,i.size,i.bytes))=some (some (.agg #[.int .i64 0,.slice none 0 0]),2,32):=by kernel_rfl
theorem kD.push(h:kD w V F p n nts pw pm u X B L Q){k:Nat}(hk:k<nts)(v:Pv)(hl:(Q k).length≤1000000):∃A c A' c' W2,V.cell? ⟨u,k,none⟩=some (.slice A (Q k).length c) ∧
  (Builtin.append_ #[22,22] 22 #[.slice A (Q k).length c,.slice (some ⟨V.heap.size,0,none⟩) 1 1]).run Tryz.prog (V.alloc (.cells #[.int .i64 v.pr.head,.slice v.adr v.pr.body.length v.cap] 71))=.ok (.slice A' ((Q k).length+1) c') W2 ∧
  W2.cell? ⟨u,k,none⟩=some (.slice A (Q k).length c)∧W2.frozen? ⟨u,k,none⟩=false∧Upd (fun q=>w.heap.size≤q) V W2∧(∀b o,X b→W2.cell? ⟨b,o,none⟩=V.cell? ⟨b,o,none⟩)∧kD w (W2.setCell ⟨u,k,none⟩ (.slice A' ((Q k).length+1) c')) F p n nts pw pm u X B L (fun q=>if q=k then Q k++[v] else Q q)∧∀b o,X b→(W2.setCell ⟨u,k,none⟩ (.slice A' ((Q k).length+1) c')).cell? ⟨b,o,none⟩=V.cell? ⟨b,o,none⟩:=by
 obtain⟨FC,lv,U,uv,h⟩:=h;have own:=h.us.rows k hk;obtain⟨A,c,e,-,-⟩:=aK own;have q0:V.cell? ⟨u,k,none⟩=some (.slice A (Q k).length c):=by rw[h.us.blk.cell k,List.getElem?_toArray,qM hk,e]
 obtain⟨v2,W2,happ,own2,u2,p2⟩:=cI V 0 22 71 2 32 _ Tryz.underlying22 uZ rfl (by decide) (uv k) (Q k).length (cY (Q k)) own v.cells 1 rfl (fun x hx=>by
  rcases List.mem_cons.1 hx with rfl|hx
  ·rfl
  ·rw[List.mem_singleton.1 hx];rfl) (by omega) (by unfold maxLen;omega) (Nat.zero_le _)
 obtain⟨A',c',rfl,-,-⟩:=aK own2;have hn0:∀q,(uv k).ownBlock=some q→U q=some (some k):=h.us.our k hk;have hb2:=h.us.blk.upd u2 (fun e=>by have:=hn0 _ e;rw[h.us.ou] at this;cases this);have hu3:Upd (fun q=>(uv k).ownBlock=some q∨q=u) V (W2.setCell ⟨u,k,none⟩ (.slice A' ((Q k).length+1) c')):=(u2.mono (fun q _ e=>.inl e)).setCell (p:=⟨u,k,none⟩) (.inl (.inr rfl)) _;have hUF:∀q,(uv k).ownBlock=some q∨q=u→U q≠none:=fun q hq=>hq.elim (fun e=>by rw[hn0 q e];exact nofun) (fun e=>by rw[e,h.us.ou];exact nofun)
 have hz:=hu3.size;have hwz:w.heap.size≤V.heap.size:=h.up.size;have hult:u<V.heap.size:=h.us.blk.lt;have ho2:=own2.lt;refine⟨A,c,A',c',W2,q0,by rw[← e];exact happ,?_,hb2.frozen k,u2.mono (fun q _ e=>h.c3 q (hUF q (.inl e))),fun b o hb=>u2.cell (p:=⟨b,o,none⟩) (h.x0 b hb) (fun e=>hUF b (.inl e) (h.x3 b hb)),⟨FC,lv,fun q=>if q<V.heap.size then U q else if (Value.slice A' ((Q k).length+1) c').ownBlock=some q then some (some k) else none,fun q=>if q=k then .slice A' ((Q k).length+1) c' else uv q,?_,?_,?_,h.up.trans hu3 (fun q hq=>.inr (h.c3 q (hUF q hq))),h.c1,h.c2,?_,h.d12,?_,?_,fun b hb=>Nat.lt_of_lt_of_le (h.x0 b hb) hu3.size,h.x1,h.x2,?_⟩,fun b o hb=>hu3.cell (p:=⟨b,o,none⟩) (h.x0 b hb) (fun e=>hUF b e (h.x3 b hb))⟩
 ·rw[hb2.cell k,List.getElem?_toArray,qM hk,e]
 ·exact h.cl.upd hu3 (fun q hq e=>hUF q e (h.d13 q hq))
 ·exact h.wk.upd hu3 (fun e=>hUF _ e (h.d23 _ (.inl rfl))) (fun e=>hUF _ e (h.d23 _ (.inr (.inl rfl)))) (fun q hq e=>hUF q e (h.d23 q (.inr (.inr hq))))
 ·have hbk:=hb2.set k (.slice A' ((Q k).length+1) c');refine⟨?_,fun j hj=>?_,?_,fun j hj q hq=>?_,fun q hq=>?_⟩
  ·have e2:(uvC uv nts).toArray.setIfInBounds k (.slice A' ((Q k).length+1) c')=(uvC (fun q=>if q=k then .slice A' ((Q k).length+1) c' else uv q) nts).toArray:=by
    rw[List.setIfInBounds_toArray];congr 1
    apply List.ext_getElem?
    intro i;rw[List.getElem?_set];by_cases hi:k=i
    ·subst hi;rw[if_pos rfl,if_pos (by simpa[uvC] using hk),qM hk,if_pos rfl]
    ·rw[if_neg hi];by_cases hl:i<nts
     ·rw[qM hl,qM hl,if_neg (fun e=>hi e.symm)]
     ·simp[uvC,hl]
   rw[e2] at hbk;exact hbk
  ·by_cases ej:j=k
   ·subst ej;simp only[if_true]
    rw[List.length_append,oP];exact aB own2 ((Upd.refl (fun q=>q=u) W2).setCell (p:=⟨u,j,none⟩) (.inl rfl) (.slice A' ((Q j).length+1) c')) (fun q hq e=>by
     subst e;rcases p2 q hq with h1|h1
     ·have:=hn0 _ h1;rw[h.us.ou] at this;cases this
     ·omega)
   ·rw[if_neg ej,if_neg ej];exact aB (h.us.rows j hj) hu3 (fun q hq e=>by
     have e1:=h.us.our j hj q hq;rcases e with e|e
     ·rw[hn0 q e] at e1;injection e1 with e1;injection e1 with e1;exact ej e1.symm
     ·rw[e,h.us.ou] at e1;cases e1)
  ·show(if u<V.heap.size then U u else _)=_
   rw[if_pos hult];exact h.us.ou
  ·show(if q<V.heap.size then U q else _)=_
   by_cases ej:j=k
   ·subst ej;rw[if_pos rfl] at hq;by_cases hl:q<V.heap.size
    ·rw[if_pos hl];rcases p2 q hq with h1|h1
     ·exact hn0 q h1
     ·omega
    ·rw[if_neg hl,if_pos hq]
   ·rw[if_neg ej] at hq;have e1:=h.us.our j hj q hq;rw[if_pos (h.us.lt q (by rw[e1];exact nofun))];exact e1
  ·by_cases hl:q<V.heap.size
   ·omega
   ·have hq:(if q<V.heap.size then U q else if (Value.slice A' ((Q k).length+1) c').ownBlock=some q then some (some k) else none)≠none:=hq;rw[if_neg hl] at hq;by_cases e1:(Value.slice A' ((Q k).length+1) c').ownBlock=some q
    ·have:=(ho2 q e1).2;simpa[World.setCell] using this
    ·rw[if_neg e1] at hq;exact absurd rfl hq
 ·intro q hq;by_cases hl:q<V.heap.size
  ·have hq:(if q<V.heap.size then U q else _)≠none:=hq;rw[if_pos hl] at hq;exact h.c3 q hq
  ·omega
 ·intro q hq;have hl:=h.cl.lt q hq;show(if q<V.heap.size then U q else _)=_
  rw[if_pos hl];exact h.d13 q hq
 ·intro q hq;have hl:=h.wk.lts q hq;show(if q<V.heap.size then U q else _)=_
  rw[if_pos hl];exact h.d23 q hq
 ·intro q hq;have hl:=h.x0 q hq;show(if q<V.heap.size then U q else _)=_
  rw[if_pos hl];exact h.x3 q hq
end
theorem WkI.pop{V V1:World}{pw pm nts:Nat}{lv:Value}{L:List Int}{x:Int}(h:WkI V pw pm nts lv L)(ht:ChT V pw lv (.slice (some ⟨pm,0,none⟩) nts nts) (fun L'=>L.Perm (x::L')) V1) :
  ∃k:Nat,x=(k:Int)∧k<nts∧V1.cell? ⟨pw,1,none⟩=some (.slice (some ⟨pm,0,none⟩) nts nts)∧(∃b,V1.cell? ⟨pm,k,none⟩=some (.bool b))∧V1.frozen? ⟨pm,k,none⟩=false∧WkT V pw pm nts lv (fun L'=>L.Perm (x::L')) (V1.setCell ⟨pm,k,none⟩ (.bool false)):=by
 obtain⟨lv',L',h1,h2,h3,h4,h5⟩:=ht;have hx:=h.inL x (h2.mem_iff.2 (List.mem_cons_self ..));obtain⟨k,rfl⟩:∃k:Nat,x=(k:Int):=⟨x.toNat,by omega⟩;have hk:k<nts:=by omega
 have hmb:=h.mks.upd h3 (fun e=>e.elim h.ne (fun e=>h.nm _ e rfl));have hnm':∀q,lv'.ownBlock=some q→¬q=pm:=fun q hq e=>by
  rcases h4 q hq with h6|h6
  ·exact h.nm q h6 e
  ·have:=h.mks.lt;subst e;omega
 have hnd:=List.nodup_cons.1 (h2.nodup_iff.1 h.nd);refine⟨k,rfl,hk,h1.1.cell 1,⟨_,by rw[hmb.cell k,List.getElem?_toArray];exact uX hk⟩,hmb.frozen k,lv',L',?_,h2,?_,h4⟩
 ·have us:=(Upd.refl (fun q=>q=pm) V1).setCell (p:=⟨pm,k,none⟩) (.inl rfl) (.bool false);refine⟨h1.upd us (fun e=>h.ne e.symm) hnm',?_,h5,hnm',h.ne,fun y hy=>h.inL y (h2.mem_iff.2 (List.mem_cons_of_mem _ hy)),hnd.2⟩;have hb:=hmb.set k (.bool false);rw[List.setIfInBounds_toArray,FA false (L':=L') (fun y hy=>by rw[h2.mem_iff,List.mem_cons];exact⟨.inr,fun h=>h.resolve_left hy⟩) (decide_eq_false hnd.1)] at hb;exact hb
 ·exact(h3.mono (F':=WkF pw pm lv) (fun q _ hq=>hq.imp id .inr)).setCell (p:=⟨pm,k,none⟩) (.inl (.inr (.inl rfl))) _
open Go.RowKit Go.Shelf
def oQ(k:Nat)(v:Pv):Bool:=match v.pr.body with
 | [s,t]=>s.at_==(k:Int)||t.at_==(k:Int)
 | _=>false
def iB(PV:List Pv)(t k:Nat):List Pv:=(PV.take t).filter (oQ k)
theorem FE(PV:List Pv):iB PV 0=fun _=>[]:=by funext k;simp[iB]
theorem oR{PV:List Pv}{t:Nat}{v:Pv}(h:PV[t]?=some v)(k:Nat):iB PV (t+1) k=if oQ k v=true then iB PV t k++[v] else iB PV t k:=by
 unfold iB;rw[List.take_add_one,h,Option.toList_some,List.filter_append];split
 ·rename_i e;rw[List.filter_cons_of_pos e];simp
 ·rename_i e;rw[List.filter_cons_of_neg e];simp
theorem yQ(PV:List Pv)(t k:Nat):(iB PV t k).length≤PV.length:=Nat.le_trans (List.length_filter_le ..) (List.length_take_le' ..)
theorem yR{PV:List Pv}{t k:Nat}{v:Pv}(h:v∈iB PV t k):v∈PV∧oQ k v=true:=by
 obtain⟨h1,h2⟩:=List.mem_filter.1 h;exact⟨List.mem_of_mem_take h1,h2⟩
theorem vA{k:Nat}{v:Pv}(h:oQ k v=true):∃s t,v.pr.body=[s,t]∧(s.at_=(k:Int)∨t.at_=(k:Int)):=by
 unfold oQ at h;split at h
 ·rename_i s t e
  exact⟨s,t,e,by simpa using h⟩
 ·cases h
theorem oS{k:Nat}{v:Pv}{s t:Sy}(e:v.pr.body=[s,t]):oQ k v=(s.at_==(k:Int)||t.at_==(k:Int)):=by
 unfold oQ;rw[e]
structure KY(nts nl:Nat)(v:Pv):Prop where
 g:GZ nts v.pr
 few:v.pr.body.length≤2
 one:∀s,v.pr.body=[s]→0≤s.at_∧s.at_<(nl:Int)
theorem FF{nts nl:Nat}{v:Pv}(h:aZ v.pr nts nl=true):KY nts nl v:=by
 obtain⟨⟨hd,bd⟩,A,c⟩:=v;unfold aZ at h;simp only[Bool.and_eq_true,decide_eq_true_eq] at h
 obtain⟨⟨h0,h1⟩,h2⟩:=h;refine⟨⟨h0,h1,fun s t e=>?_⟩,?_,fun s e=>?_⟩
 ·have e:bd=[s,t]:=e;subst e;simp only[fO,Bool.and_eq_true,decide_eq_true_eq] at h2
  exact⟨h2.1.2,h2.2.2⟩
 ·show bd.length≤2
  split at h2
  ·exact Nat.zero_le _
  ·simp
  ·simp
  ·cases h2
 ·have e:bd=[s]:=e;subst e;simp only[fO,Bool.and_eq_true,decide_eq_true_eq] at h2
  exact h2.2
theorem qK.lt{P:List Pr}{El:Int→Nat→Nat→Prop}{n:Nat}(hEl:∀k i j,El k i j→i<n∧j<n){a:Int}{i j:Nat}(d:qK P El n a i j):i<n∧j<n:=by
 induction d with
 | eps _ h=>exact⟨h,h⟩
 | one _ h=>exact hEl _ _ _ h
 | two _ _ _ i1 i2=>exact⟨i1.1,i2.2⟩
theorem FiI.fit{P:List Pr}{El:Int→Nat→Nat→Prop}{n nts:Nat}{B:eG}{L:List Int}{D:Pr→Prop}(h:FiI P El n nts B L D)(hEl:∀k i j,El k i j→i<n∧j<n){b c:Nat}(hb:b<nts)(hc:c<nts):∀x y,B b=some x→B c=some y→cM (lZ x y) n=lZ x y:=fun x y hx hy=>by
 have wx:=h.wd b x hx;have wy:=h.wd c y hy;refine yG (mA x wy) (fun i j hij=>?_);have hi:=(mB (mA x wy) hij).1;rw[DY wx wy hi] at hij;obtain⟨k,_,h1,h2⟩:=hij;have d1:=(h.sound b hb i k (by rw[hx];exact h1)).lt hEl;have d2:=(h.sound c hc k j (by rw[hy];exact h2)).lt hEl;exact⟨d1.1,d2.2⟩
def D1(PV:List Pv)(t:Nat)(q:Pr):Prop:=(∃v∈PV.take t,v.pr=q)∧∀s t,q.body≠[s,t]
def Lp1(PV:List Pv)(El:Int→Nat→Nat→Prop)(n nts t:Nat)(B:eG)(L:List Int):Prop:=
 FiI (PV.map (·.pr)) El n nts B L (D1 PV t)∧∀k,k<nts→∀i j,dX (B k) i j=true→(k:Int)∈L
theorem Lp1.begin(PV:List Pv)(El:Int→Nat→Nat→Prop)(n nts:Nat):Lp1 PV El n nts 0 (fun _=>none) []:=
 ⟨⟨fun _ r e=>(by cases e),fun k _ i j h=>(by cases h),fun p _ hd _=>(by obtain⟨⟨v,hv,-⟩,-⟩:=hd;simp at hv),fun x hx=>(by cases hx),List.nodup_nil⟩,fun k _ i j h=>(by cases h)⟩
theorem Lp1.one{PV:List Pv}{El:Int→Nat→Nat→Prop}{n nts nl t:Nat}{B:eG}{L L':List Int}(h:Lp1 PV El n nts t B L){v:Pv}(hv:PV[t]?=some v)(hok:∀v∈PV,KY nts nl v)(hn:n≤64)(hEl:∀k i j,El k i j→i<n∧j<n){m:Option (List Nat)}(hg:sG El n v.pr m)
  (hL:if dG (B v.pr.head.toNat) m=true then PB L L' v.pr.head else L'=L):Lp1 PV El n nts (t+1) (upM B v.pr.head.toNat (joinQ (B v.pr.head.toNat) m)) L'∧iB PV (t+1)=iB PV t:=by
 have hvm:=mG hv;have hbd:∀s t,v.pr.body≠[s,t]:=fun s t e=>by
  have:=hg.2;rw[e] at this;exact this
 have h1:=h.1.first (List.mem_map.2 ⟨v,hvm,rfl⟩) (fun q hq=>by obtain⟨v',h1,rfl⟩:=List.mem_map.1 hq;exact(hok v' h1).g) hn hEl hg hL;refine⟨⟨h1.all (fun q _ hd=>?_),fun k hk i j hb=>?_⟩,?_⟩
 ·obtain⟨⟨v',hv',e⟩,h2⟩:=hd;rw[List.take_add_one,hv,Option.toList_some,List.mem_append,List.mem_singleton] at hv';rcases hv' with hv' | rfl
  ·exact .inl ⟨⟨v',hv',e⟩,h2⟩
  ·exact .inr e.symm
 ·have a0:=(hok v hvm).g.h0;have hw:=h.1.wd k;have hsub:∀x∈L,x∈L':=fun x hx=>by
   split at hL
   ·exact(hL.mem x).2 (.inl hx)
   ·rw[hL];exact hx
  by_cases e:k=v.pr.head.toNat
  ·subst e;rw[gU] at hb;have hi:=kN (hw.joinQ hg.1) hb;rw[fF hw hg.1 hi,Bool.or_eq_true] at hb;cases hm:dG (B v.pr.head.toNat) m with
   | true =>
    rw[if_pos hm] at hL;rw[Int.toNat_of_nonneg a0];exact(hL.mem _).2 (.inr rfl)
   | false =>
    rcases hb with hb|hb
    ·exact hsub _ (h.2 _ hk i j hb)
    ·exact hsub _ (h.2 _ hk i j (oL hw hg.1 hm hb))
  ·rw[lJ B _ e] at hb;exact hsub _ (h.2 k hk i j hb)
 ·funext k
  rw[oR hv,if_neg];intro e;obtain⟨s,t,e2,-⟩:=vA e;exact hbd s t e2
theorem Lp1.two{PV:List Pv}{El:Int→Nat→Nat→Prop}{n nts t:Nat}{B:eG}{L:List Int}(h:Lp1 PV El n nts t B L){v:Pv}(hv:PV[t]?=some v){b c:Sy}(hb:v.pr.body=[b,c]):Lp1 PV El n nts (t+1) B L:=
 ⟨h.1.all (fun q _ hd=>by
  obtain⟨⟨v',hv',e⟩,h2⟩:=hd;rw[List.take_add_one,hv,Option.toList_some,List.mem_append,List.mem_singleton] at hv';rcases hv' with hv' | rfl
  ·exact⟨⟨v',hv',e⟩,h2⟩
  ·exact absurd hb (by rw[e];exact h2 b c)),h.2⟩
theorem PI{PV:List Pv}{t:Nat}{v:Pv}(hv:PV[t]?=some v){la lb:Bool}{b c:Nat}(hb:v.pr.body=[⟨la,b⟩,⟨lb,c⟩])(hbc:b≠c) :
  (fun q=>if q=c then (fun q=>if q=b then iB PV t b++[v] else iB PV t q) c++[v] else (fun q=>if q=b then iB PV t b++[v] else iB PV t q) q)=iB PV (t+1):=by
 funext q
 rw[oR hv,oS hb];dsimp only
 by_cases e1:q=c
 ·subst e1;rw[if_pos rfl,if_neg (fun e=>hbc e.symm)];simp
 ·rw[if_neg e1];by_cases e2:q=b
  ·subst e2;simp
  ·rw[if_neg e2,if_neg];simp
   omega
theorem KZ{PV:List Pv}{t:Nat}{v:Pv}(hv:PV[t]?=some v){la lb:Bool}{b:Nat}(hb:v.pr.body=[⟨la,b⟩,⟨lb,b⟩]):(fun q=>if q=b then iB PV t b++[v] else iB PV t q)=iB PV (t+1):=by
 funext q
 rw[oR hv,oS hb];by_cases e2:q=b
 ·subst e2;simp
 ·rw[if_neg e2,if_neg];simp
  omega
theorem Lp1.end_{PV:List Pv}{El:Int→Nat→Nat→Prop}{n nts nl:Nat}{B:eG}{L:List Int}(h:Lp1 PV El n nts PV.length B L)(hok:∀v∈PV,KY nts nl v):FiI (PV.map (·.pr)) El n nts B L (fun _=>True):=
 h.1.begin (fun p hp hb=>by
  obtain⟨v,hv,rfl⟩:=List.mem_map.1 hp;exact⟨⟨v,by rw[List.take_length];exact hv,rfl⟩,hb⟩) (fun q hq=>by obtain⟨v',h1,rfl⟩:=List.mem_map.1 hq;exact(hok v' h1).g) h.2
def D3(U:List Pv)(x:Int)(t:Nat)(q:Pr):Prop:=¬oN q [x]∨∃v∈U.take t,v.pr=q
def Lp3(PV:List Pv)(El:Int→Nat→Nat→Prop)(n nts k t:Nat)(B:eG)(L:List Int)(N:Nat):Prop:=
 FiI (PV.map (·.pr)) El n nts B L (D3 (iB PV PV.length k) (k:Int) t)∧2*wP B nts+L.length<N
theorem Lp3.begin{PV:List Pv}{El:Int→Nat→Nat→Prop}{n nts k N:Nat}{B:eG}{L L':List Int}(h:FiI (PV.map (·.pr)) El n nts B L (fun _=>True))(hN:2*wP B nts+L.length≤N)(hL:L.Perm ((k:Int)::L')):Lp3 PV El n nts k 0 B L' N:=
 ⟨(h.pop hL).all (fun p _ hd=>by
  rcases hd with hd|⟨v,hv,-⟩
  ·exact hd
  ·simp at hv),by have:=hL.length_eq;simp at this;omega⟩
theorem Lp3.step{PV:List Pv}{El:Int→Nat→Nat→Prop}{n nts nl k t N:Nat}{B:eG}{L L':List Int}(h:Lp3 PV El n nts k t B L N)(hok:∀v∈PV,KY nts nl v){v:Pv}(hv:(iB PV PV.length k)[t]?=some v){s r:Sy}(hb:v.pr.body=[s,r])
  (hL:if dG (B v.pr.head.toNat) (mulO (B s.at_.toNat) (B r.at_.toNat))=true then PB L L' v.pr.head else L'=L):Lp3 PV El n nts k (t+1) (upM B v.pr.head.toNat (joinQ (B v.pr.head.toNat) (mulO (B s.at_.toNat) (B r.at_.toNat)))) L' N:=by
 have hvm:=(yR (mG hv)).1;obtain⟨h1,h2⟩:=h.1.next (List.mem_map.2 ⟨v,hvm,rfl⟩) (fun q hq=>by obtain⟨v',h1,rfl⟩:=List.mem_map.1 hq;exact(hok v' h1).g) hb hL;refine⟨h1.all (fun q _ hd=>?_),Nat.lt_of_le_of_lt h2 h.2⟩;rcases hd with hd|⟨v',hv',e⟩
 ·exact .inl (.inl hd)
 ·rw[List.take_add_one,hv,Option.toList_some,List.mem_append,List.mem_singleton] at hv';rcases hv' with hv' | rfl
  ·exact .inl (.inr ⟨v',hv',e⟩)
  ·exact .inr e.symm
theorem Lp3.end_{PV:List Pv}{El:Int→Nat→Nat→Prop}{n nts k N:Nat}{B:eG}{L:List Int}(h:Lp3 PV El n nts k (iB PV PV.length k).length B L N):FiI (PV.map (·.pr)) El n nts B L (fun _=>True):=
 h.1.all (fun p hp _=>by
  by_cases hn:oN p [(k:Int)]
  ·obtain⟨v,hv,rfl⟩:=List.mem_map.1 hp;refine .inr ⟨v,?_,rfl⟩;rw[List.take_length];unfold iB;rw[List.take_length];obtain⟨s,t,e,hst⟩:=hn;refine List.mem_filter.2 ⟨hv,?_⟩;rw[oS e];simp only[List.mem_singleton] at hst
   simpa using hst
  ·exact .inl hn)
open Go.RowKit Go.Shelf
theorem PJ(nts:Nat):madeCells (Value.bool false).cells (((nts:Int)).toNat*1)=(mkC nts []).toArray:=by
 apply Array.toList_inj.1
 rw[Int.toNat_natCast,Nat.mul_one,show(Value.bool false).cells=#[Value.bool false] from rfl,toList_madeCells_one];apply List.ext_getElem?
 intro i;by_cases h:i<nts
 ·simp[mkC,h]
 ·simp[mkC,h]
theorem PK(nts:Nat):madeCells (Value.slice none 0 0).cells (((nts:Int)).toNat*1)=(uvC (fun _=>.slice none 0 0) nts).toArray:=by
 apply Array.toList_inj.1
 rw[Int.toNat_natCast,Nat.mul_one,show(Value.slice none 0 0).cells=#[Value.slice none 0 0] from rfl,toList_madeCells_one];apply List.ext_getElem?
 intro i;by_cases h:i<nts
 ·simp[uvC,h]
 ·simp[uvC,h]
theorem SB(k:Int)(T:TypeId)(w:World):(Instr.typeAssert (.iface 3 (.int .i64 k)) T 3 false).run Tryz.prog w=.ok (.int .i64 k) w:=by kernel_rfl
theorem AJ:(Tryz.prog.info? 4).map (fun i=>(i.zero,i.size,i.bytes))=some (some (.bool false),1,1):=by kernel_rfl
theorem AK:(Tryz.prog.info? 22).map (fun i=>(i.zero,i.size,i.bytes))=some (some (.slice none 0 0),1,24):=by kernel_rfl
theorem LB(w:World)(nts:Nat)(h:nts≤512):(Instr.makeSlice 152 (.int .i64 (nts:Int)) (.int .i64 (nts:Int))).run Tryz.prog w=.ok (.slice (some ⟨w.heap.size,0,none⟩) nts nts) (w.alloc (.cells (mkC nts []).toArray 4)):=by
 obtain⟨i0,hi0,hz0,hz1,hz2⟩:=info_parts AJ;have hr:=run_make (P:=Tryz.prog) w 152 4 i0 _ Tryz.underlying152 hi0 hz0 .i64 .i64 (nts:Int) (nts:Int) (by omega) (Int.le_refl _) (by rw[hz2];omega) (by omega);rw[hz1,PJ,Int.toNat_natCast] at hr;exact hr
theorem PL(w:World)(nts:Nat)(h:nts≤512):(Instr.makeSlice 155 (.int .i64 (nts:Int)) (.int .i64 (nts:Int))).run Tryz.prog w=.ok (.slice (some ⟨w.heap.size,0,none⟩) nts nts) (w.alloc (.cells (uvC (fun _=>.slice none 0 0) nts).toArray 22)):=by
 obtain⟨i0,hi0,hz0,hz1,hz2⟩:=info_parts AK;have hr:=run_make (P:=Tryz.prog) w 155 22 i0 _ Tryz.underlying155 hi0 hz0 .i64 .i64 (nts:Int) (nts:Int) (by omega) (Int.le_refl _) (by rw[hz2];omega) (by omega);rw[hz1,PK,Int.toNat_natCast] at hr;exact hr
def TC(w:World)(nts:Nat)(cs:Array Value):World:=
 (((w.alloc (.cells cs 24)).alloc (.cells (mkC nts []).toArray 4)).alloc (.cells #[.slice none 0 0,.slice (some ⟨w.heap.size+1,0,none⟩) nts nts] 154)).alloc (.cells (uvC (fun _=>.slice none 0 0) nts).toArray 22)
theorem FG{w:World}{F:Nat→Prop}{p n nts:Nat}{B:eG}(cs:Array Value)(h:ClS w F p n n nts B):kD w (TC w nts cs) F p n nts (w.heap.size+2) (w.heap.size+1) (w.heap.size+3) NoX B [] (fun _=>[]):=by
 unfold TC;have e1:(w.alloc (.cells cs 24)).heap.size=w.heap.size+1:=by simp
 have e2:((w.alloc (.cells cs 24)).alloc (.cells (mkC nts []).toArray 4)).heap.size=w.heap.size+2:=by simp
 have e3:(((w.alloc (.cells cs 24)).alloc (.cells (mkC nts []).toArray 4)).alloc (.cells #[.slice none 0 0,.slice (some ⟨w.heap.size+1,0,none⟩) nts nts] 154)).heap.size=w.heap.size+3:=by simp
 have km:=((Blk.new (w.alloc (.cells cs 24)) 4 (mkC nts []).toArray).alloc (.cells #[.slice none 0 0,.slice (some ⟨w.heap.size+1,0,none⟩) nts nts] 154)).alloc (.cells (uvC (fun _=>.slice none 0 0) nts).toArray 22);have kp:=(Blk.new ((w.alloc (.cells cs 24)).alloc (.cells (mkC nts []).toArray 4)) 154 #[.slice none 0 0,.slice (some ⟨w.heap.size+1,0,none⟩) nts nts]).alloc (.cells (uvC (fun _=>.slice none 0 0) nts).toArray 22);have ku:=Blk.new (((w.alloc (.cells cs 24)).alloc (.cells (mkC nts []).toArray 4)).alloc (.cells #[.slice none 0 0,.slice (some ⟨w.heap.size+1,0,none⟩) nts nts] 154)) 22 (uvC (fun _=>.slice none 0 0) nts).toArray;rw[e1] at km;rw[e2] at kp;rw[e3] at ku;have hb:Below w.heap.size w ((((w.alloc (.cells cs 24)).alloc (.cells (mkC nts []).toArray 4)).alloc (.cells #[.slice none 0 0,.slice (some ⟨w.heap.size+1,0,none⟩) nts nts] 154)).alloc (.cells (uvC (fun _=>.slice none 0 0) nts).toArray 22)):=by(repeat (first | exact Below.refl _ _ | apply Below.drew | refine Below.alloc ?_ (by first | exact Nat.le_refl _ | (simp;done) | (simp;omega)) _ | refine Below.setCell ?_ (by first | exact Nat.le_refl _ | (simp;done) | (simp;omega)) _))
 have e4:((((w.alloc (.cells cs 24)).alloc (.cells (mkC nts []).toArray 4)).alloc (.cells #[.slice none 0 0,.slice (some ⟨w.heap.size+1,0,none⟩) nts nts] 154)).alloc (.cells (uvC (fun _=>.slice none 0 0) nts).toArray 22)).heap.size=w.heap.size+4:=by simp
 generalize (((w.alloc (.cells cs 24)).alloc (.cells (mkC nts []).toArray 4)).alloc (.cells #[.slice none 0 0,.slice (some ⟨w.heap.size+1,0,none⟩) nts nts] 154)).alloc (.cells (uvC (fun _=>.slice none 0 0) nts).toArray 22)=V at km kp ku hb e4 ⊢;have no:∀k,(Value.slice none 0 0).ownBlock=some k→False:=fun k e=>by simp[Value.ownBlock] at e
 have hF:=h.lt;refine⟨F,.slice none 0 0,fun q=>if q=w.heap.size+3 then some none else none,fun _=>.slice none 0 0,h.below hb,⟨⟨kp,World.ownsRow_nil _ _ _ _⟩,km,fun k e=>(no k e).elim,fun k e=>(no k e).elim,by omega,fun x hx=>(by cases hx),List.nodup_nil⟩,⟨ku,fun k _=>World.ownsRow_nil _ _ _ _,if_pos rfl,fun k _ q e=>(no q e).elim,fun q hq=>?_⟩,(Upd.of_below hb F),fun k hk=>.inl hk,fun k hk=>?_,fun k hk=>?_,fun k hk e=>?_,fun k hk=>?_,fun k hk=>?_,?_,?_,?_,?_⟩
 ·by_cases e:q=w.heap.size+3
  ·omega
  ·rw[if_neg e] at hq;exact absurd rfl hq
 ·rcases hk with e|e|e
  ·omega
  ·omega
  ·exact(no k e).elim
 ·by_cases e:k=w.heap.size+3
  ·omega
  ·rw[if_neg e] at hk;exact absurd rfl hk
 ·have:=hF k hk;rcases e with e|e|e
  ·omega
  ·omega
  ·exact(no k e).elim
 ·have:=hF k hk;exact if_neg (by omega)
 ·rcases hk with e|e|e
  ·exact if_neg (by omega)
  ·exact if_neg (by omega)
  ·exact(no k e).elim
 all_goals exact fun k hk=>hk.elim
theorem kD.base{W0 w V:World}{F X:Nat→Prop}{p n nts pw pm u:Nat}{B:eG}{L:List Int}{Q:Nat→List Pv}(h:kD w V F p n nts pw pm u X B L Q)(hb:Below W0.heap.size W0 w)(hF:∀k,F k→W0.heap.size≤k):Below W0.heap.size W0 V:=by
 obtain⟨FC,lv,U,uv,h⟩:=h;exact hb.trans (h.up.below (fun i _ hi=>hF i hi) hb.size)
structure TR(W0:World)(PA:Option Addr)(PV:List Pv)(LA:Option Addr)(labels:List Txt)(Fg:Nat→Prop)(pg:Nat)(G:Gr)(n nts:Nat):Prop where
 pv:PvR W0 PA PV
 lab:aX W0 LA (aE labels)
 gr:GrS W0 Fg pg G
 ok:GOk G
 hn:G.N.length=n
 n1:1≤n
 tab:qF W0
 htab:1<W0.heap.size
 sh:∀v∈PV,KY nts labels.length v
 nts1:1≤nts
 nts5:nts≤512
 few:PV.length≤8192
def SC(w:World)(F:Nat→Prop)(p n nts:Nat)(PV:List Pv)(labels:List Txt)(G:Gr)(w':World):Prop:=
 ∃B:eG,(∀k,k<nts→∀i j,dX (B k) i j=true↔qK (PV.map (·.pr)) (ElG G labels) n (k:Int) i j)∧(∀k,WdO (B k))∧vQ w F p n n nts B w'
def PM(w:World)(F:Nat→Prop)(p n nts pw pm u:Nat)(PV:List Pv)(El:Int→Nat→Nat→Prop)(t:Nat)(V:World):Prop:=
 ∃B L,kD w V F p n nts pw pm u NoX B L (iB PV t)∧Lp1 PV El n nts t B L
theorem LC(W0 w:World)(hb0:Below W0.heap.size W0 w)(F:Nat→Prop)(hF:∀k,F k→W0.heap.size≤k)(p n nts:Nat)(h:ClS w F p n n nts (fun _=>none))(PA:Option Addr)(pc:Nat)(PV:List Pv)(LA:Option Addr)(cl:Nat)(labels:List Txt)
  (Fg:Nat→Prop) (pg:Nat) (G:Gr) (hin:TR W0 PA PV LA labels Fg pg G n nts) :
  Calls Tryz.prog 43 #[.pointer (some ⟨p,0,none⟩),.agg #[.int .i64 (nts:Int),.slice PA PV.length pc],.slice LA labels.length cl,.pointer (some ⟨pg,0,none⟩)] w (fun e w'=>e=.returned (.tuple #[])∧SC w F p n nts PV labels G w'):=by
 have hFM:kD w (TC w nts #[.int .i64 (nts:Int),.slice PA PV.length pc]) F p n nts (w.heap.size+1+1) (w.heap.size+1) (w.heap.size+1+1+1) NoX (fun _=>none) [] (fun _=>[]):=FG #[.int .i64 (nts:Int),.slice PA PV.length pc] h;have k0:=Blk.new w 24 #[.int .i64 (nts:Int),.slice PA PV.length pc];have q0:(w.alloc (.cells #[.int .i64 (nts:Int),.slice PA PV.length pc] 24)).cell? ⟨w.heap.size,0,none⟩=some (.int .i64 (nts:Int)):=k0.cell 0;have hm1:=LB (w.alloc (.cells #[.int .i64 (nts:Int),.slice PA PV.length pc] 24)) nts hin.nts5;have k2:=(k0.alloc (.cells (mkC nts []).toArray 4)).alloc (.cells #[.slice none 0 0,.slice (some ⟨w.heap.size+1,0,none⟩) nts nts] 154);have k3:=k2.alloc (.cells (uvC (fun _=>.slice none 0 0) nts).toArray 22);have q02:=k2.cell 0;have q03:=k3.cell 1;simp only[List.getElem?_toArray,List.getElem?_cons_zero,List.getElem?_cons_succ] at q02 q03
 have hm2:=PL (((w.alloc (.cells #[.int .i64 (nts:Int),.slice PA PV.length pc] 24)).alloc (.cells (mkC nts []).toArray 4)).alloc (.cells #[.slice none 0 0,.slice (some ⟨w.heap.size+1,0,none⟩) nts nts] 154)) nts hin.nts5;have q5:=hin.nts5;have q8:=hin.few;have q1:=hin.nts1;have HI:=aI3 hin hb0 hF;obtain⟨m,hm⟩:∃m,PV.length=m:=⟨_,rfl⟩;rw[hm] at hFM q0 hm1 q8 hm2 q02 q03 ⊢;have HF:=hIz hFM;have HM:=hIz hm;clear hFM h hin hb0 hF k0 k2 k3 hm;unfold TC at HF;have q1n:1≤n:=HI.out.1.n1;have HN64:=hIz (show n≤64 from by have:=HI.out.1.ok.few;have:=HI.out.1.hn;omega);have HEL:=hIz (show ∀k i j,ElG G labels k i j→i<n∧j<n from fun k i j h=>by have:=h.lt;rwa [HI.out.1.hn] at this);go_enter Tryz.func43,Tryz.ntmps43;go_upto_region 3 with (fail);clear hm1 hm2 q0 q02;generalize (((w.alloc (.cells #[.int .i64 (nts:Int),.slice PA m pc] 24)).alloc (.cells (mkC nts []).toArray 4)).alloc (.cells #[.slice none 0 0,.slice (some ⟨w.heap.size+1,0,none⟩) nts nts] 154)).alloc (.cells (uvC (fun _=>.slice none 0 0) nts).toArray 22)=W4 at HF q03 ⊢;generalize w.heap.size+1+1+1=u at HF ⊢;generalize w.heap.size+1+1=pw at HF ⊢;generalize w.heap.size+1=pm at HF ⊢;generalize w.heap.size=z at q03 ⊢;go_wp2;clear q03;go_loopw [27] (fun i wr=>∃t:Nat,t≤m∧i=.int .i64 (t:Int)∧Hid (PM w F p n nts pw pm u PV (ElG G labels) t wr)) (fun i _=>m-(intOf i).toNat)
 case atStart=>exact⟨0,Nat.zero_le _,rfl,hIz ⟨_,_,by rw[FE];exact HF.out,Lp1.begin PV _ n nts⟩⟩
 case round =>
  obtain⟨t,ht,rfl,hq⟩:=hrel;clear HF;by_cases hlt:t<m
  ·clear ht;-- ROUND1
   have hltI:(t:Int)<(m:Int):=by omega
   obtain⟨B,L,hM,hL1⟩:=hq.out;have hB:=hM.base HI.out.2.1 HI.out.2.2;obtain⟨v,hv⟩:∃v,PV[t]?=some v:=⟨_,gEz (by rw[HM.out];exact hlt)⟩;have hvm:=mG hv;have hok:=HI.out.1.sh v hvm;obtain⟨pb,po,rfl,c0,c1⟩:=(HI.out.1.pv.1.below3 hB).pv hv;have hrow:=(HI.out.1.pv.2 v hvm).below3 hB;obtain⟨⟨hd,bd⟩,bA,bc⟩:=v;dsimp only at c0 c1 hrow
   obtain⟨a,rfl⟩:∃a:Nat,hd=(a:Int):=⟨hd.toNat,by have:=hok.g.h0;dsimp only at this;omega⟩;have ha:a<nts:=by have:=hok.g.h1;dsimp only at this;omega
   have haI:(a:Int)<(nts:Int):=by omega
   rcases bd with _|⟨s,_|⟨r,_|⟨y,bd⟩⟩⟩
   ·have c1:wr.cell? ⟨pb,po+t*2+1,none⟩=some (.slice bA 0 bc):=c1;have kb:=Blk.new wr 71 #[.int .i64 (a:Int),.slice bA 0 bc];have b1:Below wr.heap.size wr (wr.alloc (.cells #[.int .i64 (a:Int),.slice bA 0 bc] 71)):=bR.alloc (Nat.le_refl _) _;obtain⟨FC,hcl,hturn⟩:=(hM.box (.cells #[.int .i64 (a:Int),.slice bA 0 bc] 71)).turn;have hcon:=AG (wr.alloc (.cells #[.int .i64 (a:Int),.slice bA 0 bc] 71)) FC p n nts B hcl a bA bc ha q1n HN64.out (ElG G labels) (.slice LA labels.length cl) (.pointer (some ⟨pg,0,none⟩));have e0:(wr.alloc (.cells #[.int .i64 (a:Int),.slice bA 0 bc] 71)).cell? ⟨wr.heap.size,0,none⟩=some (.int .i64 (a:Int)):=kb.cell 0;have e1:(wr.alloc (.cells #[.int .i64 (a:Int),.slice bA 0 bc] 71)).cell? ⟨wr.heap.size,1,none⟩=some (.slice bA 0 bc):=kb.cell 1;have HT:=aI6 hturn e0 e1 hL1 hv hq.out;clear hM hL1 hv hvm hok hrow kb b1 hcl hturn hB hq;go_wp2_with fail;refine hcon.mono ?_;clear hcon e0 e1 c0 c1;rintro e V2 ⟨mm,hg,he,hto⟩;obtain⟨hM2,-,hX2⟩:=HT.out.1 _ V2 hto;have c20:V2.cell? ⟨wr.heap.size,0,none⟩=some (.int .i64 (a:Int)):=(hX2 _ 0 rfl).trans HT.out.2.1;have c21:V2.cell? ⟨wr.heap.size,1,none⟩=some (.slice bA 0 bc):=(hX2 _ 1 rfl).trans HT.out.2.2.1;have HG:=hIz hg;cases hmo:dG (B ((a:Int)).toNat) mm
    ·rw[show(⟨(a:Int),[]⟩:Pr).head=(a:Int) from rfl,hmo] at he;subst he;have FIN:=hIz (show PM w F p n nts pw pm u PV (ElG G labels) (t+1) V2 from by
      have hl:=HT.out.2.2.2.1.one HT.out.2.2.2.2.1 HI.out.1.sh HN64.out HEL.out HG.out (L':=L) (by
       rw[if_neg (by rw[show(⟨⟨(a:Int),[]⟩,bA,bc⟩:Pv).pr.head=(a:Int) from rfl,hmo];exact nofun)])
      exact⟨_,L,by rw[hl.2];exact hM2.bare,hl.1⟩)
     clear hM2 hX2 hto hg hmo;go_wp2;go_roundw
     case rel=>exact⟨t+1,by omega,by go_num,FIN⟩
     case measure=>simp[intOf];omega
    ·rw[show(⟨(a:Int),[]⟩:Pr).head=(a:Int) from rfl,hmo] at he;subst he;obtain⟨lv,hwk,hwork⟩:=hM2.work;have hput:=sJ V2 pw pm nts lv L hwk q5 a ha;have HW:=aI3 hwork hmo c21;clear hM2 hX2 hto hg hmo hwk hwork c21;go_wp2_with fail;refine hput.mono ?_;clear hput;rintro e V3 ⟨rfl,hwt⟩;obtain⟨⟨L',hPu,hM3⟩,-,hX3⟩:=HW.out.1 _ _ hwt;have c31:V3.cell? ⟨wr.heap.size,1,none⟩=some (.slice bA 0 bc):=(hX3 _ 1 rfl).trans HW.out.2.2;have FIN:=hIz (show PM w F p n nts pw pm u PV (ElG G labels) (t+1) V3 from by
      have hl:=HT.out.2.2.2.1.one HT.out.2.2.2.2.1 HI.out.1.sh HN64.out HEL.out HG.out (L':=L') (by
       rw[if_pos (by rw[show(⟨⟨(a:Int),[]⟩,bA,bc⟩:Pv).pr.head=(a:Int) from rfl];exact HW.out.2.1)];exact hPu)
      exact⟨_,L',by rw[hl.2];exact hM3.bare,hl.1⟩)
     clear hPu hM3 hX3 hwt;go_wp2;go_roundw
     case rel=>exact⟨t+1,by omega,by go_num,FIN⟩
     case measure=>simp[intOf];omega
   ·have c1:wr.cell? ⟨pb,po+t*2+1,none⟩=some (.slice bA 1 bc):=c1;have kb:=Blk.new wr 71 #[.int .i64 (a:Int),.slice bA 1 bc];have b1:Below wr.heap.size wr (wr.alloc (.cells #[.int .i64 (a:Int),.slice bA 1 bc] 71)):=bR.alloc (Nat.le_refl _) _;obtain⟨FC,hcl,hturn⟩:=(hM.box (.cells #[.int .i64 (a:Int),.slice bA 1 bc] 71)).turn;have hs:=hok.one s rfl;obtain⟨slab,sat⟩:=s;dsimp only at hs
    obtain⟨sk,rfl⟩:∃sk:Nat,sat=(sk:Int):=⟨sat.toNat,by omega⟩;obtain⟨lb,hlb⟩:∃lb,labels[sk]?=some lb:=⟨_,gEz (by omega)⟩;have hB1:=tHn hB b1;have hcon:=AI (wr.alloc (.cells #[.int .i64 (a:Int),.slice bA 1 bc] 71)) FC p n nts B hcl a sk slab bA bc (hrow.below3 b1) ha q1n HN64.out LA cl labels (HI.out.1.lab.below3 hB1) lb hlb Fg pg G (HI.out.1.gr.below hB1) HI.out.1.ok HI.out.1.hn;clear hs hB1 hlb;have e0:(wr.alloc (.cells #[.int .i64 (a:Int),.slice bA 1 bc] 71)).cell? ⟨wr.heap.size,0,none⟩=some (.int .i64 (a:Int)):=kb.cell 0;have e1:(wr.alloc (.cells #[.int .i64 (a:Int),.slice bA 1 bc] 71)).cell? ⟨wr.heap.size,1,none⟩=some (.slice bA 1 bc):=kb.cell 1;have HT:=aI6 hturn e0 e1 hL1 hv hq.out;clear hM hL1 hv hvm hok hrow kb b1 hcl hturn hB hq;go_wp2_with fail;refine hcon.mono ?_;clear hcon e0 e1 c0 c1;rintro e V2 ⟨mm,hg,he,hto⟩;obtain⟨hM2,-,hX2⟩:=HT.out.1 _ V2 hto;have c20:V2.cell? ⟨wr.heap.size,0,none⟩=some (.int .i64 (a:Int)):=(hX2 _ 0 rfl).trans HT.out.2.1;have c21:V2.cell? ⟨wr.heap.size,1,none⟩=some (.slice bA 1 bc):=(hX2 _ 1 rfl).trans HT.out.2.2.1;have HG:=hIz hg;cases hmo:dG (B ((a:Int)).toNat) mm
    ·rw[show(⟨(a:Int),[⟨slab,(sk:Int)⟩]⟩:Pr).head=(a:Int) from rfl,hmo] at he;subst he;have FIN:=hIz (show PM w F p n nts pw pm u PV (ElG G labels) (t+1) V2 from by
      have hl:=HT.out.2.2.2.1.one HT.out.2.2.2.2.1 HI.out.1.sh HN64.out HEL.out HG.out (L':=L) (by
       rw[if_neg (by rw[show(⟨⟨(a:Int),[⟨slab,(sk:Int)⟩]⟩,bA,bc⟩:Pv).pr.head=(a:Int) from rfl,hmo];exact nofun)])
      exact⟨_,L,by rw[hl.2];exact hM2.bare,hl.1⟩)
     clear hM2 hX2 hto hg hmo;go_wp2;go_roundw
     case rel=>exact⟨t+1,by omega,by go_num,FIN⟩
     case measure=>simp[intOf];omega
    ·rw[show(⟨(a:Int),[⟨slab,(sk:Int)⟩]⟩:Pr).head=(a:Int) from rfl,hmo] at he;subst he;obtain⟨lv,hwk,hwork⟩:=hM2.work;have hput:=sJ V2 pw pm nts lv L hwk q5 a ha;have HW:=aI3 hwork hmo c21;clear hM2 hX2 hto hg hmo hwk hwork c21;go_wp2_with fail;refine hput.mono ?_;clear hput;rintro e V3 ⟨rfl,hwt⟩;obtain⟨⟨L',hPu,hM3⟩,-,hX3⟩:=HW.out.1 _ _ hwt;have c31:V3.cell? ⟨wr.heap.size,1,none⟩=some (.slice bA 1 bc):=(hX3 _ 1 rfl).trans HW.out.2.2;have FIN:=hIz (show PM w F p n nts pw pm u PV (ElG G labels) (t+1) V3 from by
      have hl:=HT.out.2.2.2.1.one HT.out.2.2.2.2.1 HI.out.1.sh HN64.out HEL.out HG.out (L':=L') (by
       rw[if_pos (by rw[show(⟨⟨(a:Int),[⟨slab,(sk:Int)⟩]⟩,bA,bc⟩:Pv).pr.head=(a:Int) from rfl];exact HW.out.2.1)];exact hPu)
      exact⟨_,L',by rw[hl.2];exact hM3.bare,hl.1⟩)
     clear hPu hM3 hX3 hwt;go_wp2;go_roundw
     case rel=>exact⟨t+1,by omega,by go_num,FIN⟩
     case measure=>simp[intOf];omega
   ·have c1:wr.cell? ⟨pb,po+t*2+1,none⟩=some (.slice bA 2 bc):=c1;have hg2:=hok.g.two s r rfl;obtain⟨la,sb⟩:=s;obtain⟨lb,sc⟩:=r;dsimp only at hg2
    obtain⟨b,rfl⟩:∃b:Nat,sb=(b:Int):=⟨sb.toNat,by omega⟩;obtain⟨c,rfl⟩:∃c:Nat,sc=(c:Int):=⟨sc.toNat,by omega⟩;have hqb:b<nts:=by omega
    have hqc:c<nts:=by omega
    have hbI:(b:Int)<(nts:Int):=by omega
    have hcI:(c:Int)<(nts:Int):=by omega
    obtain⟨gb,go,rfl,-⟩:=hrow 0 (.bool la) rfl;have kb:=Blk.new wr 71 #[.int .i64 (a:Int),.slice (some ⟨gb,go,none⟩) 2 bc];have hcon:=AH (wr.alloc (.cells #[.int .i64 (a:Int),.slice (some ⟨gb,go,none⟩) 2 bc] 71)) p (a:Int) (some ⟨gb,go,none⟩) 2 bc (Nat.le_refl _) (.slice LA labels.length cl) (.pointer (some ⟨pg,0,none⟩));have e0:(wr.alloc (.cells #[.int .i64 (a:Int),.slice (some ⟨gb,go,none⟩) 2 bc] 71)).cell? ⟨wr.heap.size,0,none⟩=some (.int .i64 (a:Int)):=kb.cell 0;have e1:(wr.alloc (.cells #[.int .i64 (a:Int),.slice (some ⟨gb,go,none⟩) 2 bc] 71)).cell? ⟨wr.heap.size,1,none⟩=some (.slice (some ⟨gb,go,none⟩) 2 bc):=kb.cell 1;have HT:=aI4 (hM.box (.cells #[.int .i64 (a:Int),.slice (some ⟨gb,go,none⟩) 2 bc] 71)) kb hL1 hv;have HQ:=hIz (show ∀W,Below W0.heap.size W0 W→W.cell? ⟨gb,go+1,none⟩=some (.int .i64 (b:Int))∧W.cell? ⟨gb,go+3,none⟩=some (.int .i64 (c:Int)) from fun W hW=>by
     have hr2:=(HI.out.1.pv.2 _ hvm).below3 hW;obtain⟨b',o',e,d1⟩:=hr2 1 (.int .i64 (b:Int)) rfl;injection e with e;injection e with e1 e2;subst e1;subst e2;obtain⟨b',o',e,d3⟩:=hr2 3 (.int .i64 (c:Int)) rfl;injection e with e;injection e with e1 e2;subst e1;subst e2;exact⟨d1,d3⟩)
    have hlen9:∀k,(iB PV t k).length≤8192:=fun k=>by have:=yQ PV t k;have:=HM.out;omega
    have HLEN:=hIz hlen9;clear hM hL1 hv hvm hok hrow kb hB hq hg2 hlen9;go_wp2_with fail;refine hcon.mono ?_;clear hcon e0 e1 c0 c1;rintro e V2 ⟨rfl,hb2⟩;have k2:=HT.out.2.1.upd (upF hb2) id;have hM2:=HT.out.1.below hb2;have H2:=hIz (show kD w V2 F p n nts pw pm u (fun k=>k=wr.heap.size) B L (iB PV t)∧V2.cell? ⟨wr.heap.size,0,none⟩=some (.int .i64 (a:Int))∧V2.cell? ⟨wr.heap.size,1,none⟩=some (.slice (some ⟨gb,go,none⟩) 2 bc)∧V2.cell? ⟨gb,go+1,none⟩=some (.int .i64 (b:Int))∧V2.cell? ⟨gb,go+3,none⟩=some (.int .i64 (c:Int)) from⟨hM2,k2.cell 0,k2.cell 1,HQ.out V2 (hM2.base HI.out.2.1 HI.out.2.2)⟩);clear hM2;have c21:V2.cell? ⟨wr.heap.size,1,none⟩=some (.slice (some ⟨gb,go,none⟩) 2 bc):=k2.cell 1;clear k2 hb2;generalize wr.heap.size=z1 at H2 c21 ⊢;have hMd:=H2.out.1.below (V':=V2.drew) (bR.drew);obtain⟨A1,c1,A2,c2,W2,qu,happ,qu2,fu2,hu2,hX2,hMn,hXn⟩:=hMd.push (k:=b) hqb ⟨⟨(a:Int),[⟨la,(b:Int)⟩,⟨lb,(c:Int)⟩]⟩,some ⟨gb,go,none⟩,bc⟩ (by have:=HLEN.out b;omega);have HNEW:=aI3 hMn ((hXn z1 0 rfl).trans H2.out.2.1) ((hXn z1 1 rfl).trans H2.out.2.2.1);obtain⟨n1,hn1⟩:∃n1,(iB PV t b).length=n1:=⟨_,rfl⟩;rw[hn1] at qu happ qu2 HNEW;have hS:(fun X:World=>X.cell? ⟨z1,0,none⟩=some (.int .i64 (a:Int))∧X.cell? ⟨z1,1,none⟩=some (.slice (some ⟨gb,go,none⟩) 2 bc)∧X.cell? ⟨gb,go+1,none⟩=some (.int .i64 (b:Int))∧X.cell? ⟨u,b,none⟩=some (.slice A1 n1 c1)) V2.drew:=⟨H2.out.2.1,H2.out.2.2.1,H2.out.2.2.2.1,qu⟩;replace happ:(Builtin.append_ #[22,22] 22 #[.slice A1 n1 c1,.slice (some ⟨V2.drew.heap.size,0,none⟩) 1 1]).run Tryz.prog (V2.drew.alloc (.cells #[.int .i64 (a:Int),.slice (some ⟨gb,go,none⟩) 2 bc] 71))=.ok (.slice A2 (n1+1) c2) W2:=happ
    have hSW:(fun X:World=>X.cell? ⟨z1,0,none⟩=some (.int .i64 (a:Int))∧X.cell? ⟨z1,1,none⟩=some (.slice (some ⟨gb,go,none⟩) 2 bc)∧X.cell? ⟨gb,go+1,none⟩=some (.int .i64 (b:Int))∧X.cell? ⟨u,b,none⟩=some (.slice A1 n1 c1)) W2:=by
     have hb9:=((H2.out.1.base HI.out.2.1 HI.out.2.2).drew).trans (hu2.below (fun i _ hi=>Nat.le_trans HI.out.2.1.size hi) ((H2.out.1.base HI.out.2.1 HI.out.2.2).drew).size);exact⟨(hX2 z1 0 rfl).trans H2.out.2.1,(hX2 z1 1 rfl).trans H2.out.2.2.1,(HQ.out W2 hb9).1,qu2⟩
    have hSA:(fun X:World=>X.cell? ⟨z1,0,none⟩=some (.int .i64 (a:Int))∧X.cell? ⟨z1,1,none⟩=some (.slice (some ⟨gb,go,none⟩) 2 bc)∧X.cell? ⟨gb,go+1,none⟩=some (.int .i64 (b:Int))∧X.cell? ⟨u,b,none⟩=some (.slice A1 n1 c1)) (V2.drew.alloc (.cells #[.int .i64 (a:Int),.slice (some ⟨gb,go,none⟩) 2 bc] 71)):=by
     have hb9:Below V2.drew.heap.size V2.drew (V2.drew.alloc (.cells #[.int .i64 (a:Int),.slice (some ⟨gb,go,none⟩) 2 bc] 71)):=bR.alloc (Nat.le_refl _) _;exact⟨dK hb9 hS.1,dK hb9 hS.2.1,dK hb9 hS.2.2.1,dK hb9 hS.2.2.2⟩
    clear hMd hMn hXn qu hn1 hu2 hX2;obtain⟨n2,hn2⟩:∃n2,n1+1=n2:=⟨_,rfl⟩;rw[hn2] at happ HNEW;clear hn2;go_upto_region 9 with (fail);refine bE (fun X:World=>X.cell? ⟨z1,0,none⟩=some (.int .i64 (a:Int))∧X.cell? ⟨z1,1,none⟩=some (.slice (some ⟨gb,go,none⟩) 2 bc)∧X.cell? ⟨gb,go+1,none⟩=some (.int .i64 (b:Int))∧X.cell? ⟨u,b,none⟩=some (.slice A1 n1 c1)) (aL 18) (by kernel_rfl) ?_;generalize V2.drew=VD at happ hS hSA ⊢;intro hd;(refine aA 0 rfl hd hS ?_;clear hd;intro hd;(try simp only[Act.put,gA,gZ,sA,sZ,sS]))
    refine aA 1 rfl hd hS ?_;clear hd;intro hd;refine aA 2 rfl hd hS ?_;clear hd;intro hd;refine aA 3 rfl hd hS ?_;clear hd;intro hd;refine aA 4 rfl hd hS ?_;clear hd;intro hd;refine aA 5 rfl hd hS ?_;clear hd;intro hd;refine aA 6 rfl hd hS ?_;clear hd;intro hd;refine aA 7 rfl hd hS ?_;clear hd;intro hd;refine aA 8 rfl hd hS ?_;clear hd;intro hd;refine aA 9 rfl hd hS ?_;clear hd;intro hd;refine aA 10 rfl hd hS ?_;clear hd;intro hd;refine aA 11 rfl hd hS ?_;clear hd;intro hd;refine aA 12 rfl hd hS ?_;clear hd;intro hd;refine aA 13 rfl hd hS ?_;clear hd;intro hd;refine aA 14 rfl hd hS ?_;clear hd;intro hd;clear hS;refine aO hd 15 ?_;clear hd;intro hd;refine aS (S:=(fun X:World=>X.cell? ⟨z1,0,none⟩=some (.int .i64 (a:Int))∧X.cell? ⟨z1,1,none⟩=some (.slice (some ⟨gb,go,none⟩) 2 bc)∧X.cell? ⟨gb,go+1,none⟩=some (.int .i64 (b:Int))∧X.cell? ⟨u,b,none⟩=some (.slice A1 n1 c1))) (late:=aL 18) rfl rfl (fun K hK=>?_);go_simp;refine hK _ _ (fun _ _=>hSA) ?_;clear hK K;(try simp only[Act.put,gA,gS,gZ,sA,sZ,sS])
    refine aO hd 16 ?_;clear hd;intro hd;refine aS (S:=(fun X:World=>X.cell? ⟨z1,0,none⟩=some (.int .i64 (a:Int))∧X.cell? ⟨z1,1,none⟩=some (.slice (some ⟨gb,go,none⟩) 2 bc)∧X.cell? ⟨gb,go+1,none⟩=some (.int .i64 (b:Int))∧X.cell? ⟨u,b,none⟩=some (.slice A1 n1 c1))) (late:=aL 18) rfl rfl (fun K hK=>?_);refine fE _ _ _ rfl rfl rfl happ ?_;refine hK _ _ (fun _ _=>hSW) ?_;clear hK K happ;(try simp only[Act.put,gA,gS,gZ,sA,sZ,sS])
    have hS:=hSW;refine aA 17 rfl hd hS ?_;clear hd;intro hd;clear hS;refine aO hd 18 ?_;clear hd;intro hd;refine aS (S:=(fun X:World=>X.cell? ⟨z1,0,none⟩=some (.int .i64 (a:Int))∧X.cell? ⟨z1,1,none⟩=some (.slice (some ⟨gb,go,none⟩) 2 bc)∧X.cell? ⟨gb,go+1,none⟩=some (.int .i64 (b:Int))∧X.cell? ⟨u,b,none⟩=some (.slice A1 n1 c1))) (late:=aL 18) rfl rfl (fun K hK=>?_);go_simp;refine hK _ _ (fun h _=>absurd h (by decide)) ?_;clear hK K;(try simp only[Act.put,gA,gS,gZ,sA,sZ,sS])
    refine cL (by kernel_rfl) ?_;clear qu2 fu2 hSA hSW;generalize W2.setCell ⟨u,b,none⟩ (.slice A2 n2 c2)=W3 at HNEW ⊢;clear c21;have H3:=aI4 HNEW.out.1 HNEW.out.2.1 HNEW.out.2.2 (HQ.out W3 (HNEW.out.1.base HI.out.2.1 HI.out.2.2));clear HNEW;go_upto_region 10 with (fail);have d1:=H3.out.2.2.1;have d2:=H3.out.2.2.2.1;have d3:=H3.out.2.2.2.2;have hbd:=hIz (show ∀n,Below W3.heap.size W3 (W3.drewN n) from fun n=>⟨rfl,rfl,rfl,Nat.le_refl _,fun _ _=>rfl⟩);by_cases hbc:b=c
    ·subst hbc;go_quiet (fail)
     clear d1 d2 d3;have FIN:=hIz (show PM w F p n nts pw pm u PV (ElG G labels) (t+1) (W3.drewN nq) from by
      have hM3:=H3.out.1.below (hbd.out nq);rw[KZ HT.out.2.2.2 rfl] at hM3;exact⟨B,L,hM3.bare,HT.out.2.2.1.two HT.out.2.2.2 rfl⟩)
     clear H3;go_wp2;go_roundw
     case rel=>exact⟨t+1,by omega,by go_num,FIN⟩
     case measure=>simp[intOf];omega
    ·have hbn:((c:Int) != (b:Int))=true:=by simp;omega
     go_quiet (fail)
     clear d1 d2 d3 hbn;obtain⟨Q1,hQ1⟩:∃Q1,(fun q=>if q=b then iB PV t b++[⟨⟨(a:Int),[⟨la,(b:Int)⟩,⟨lb,(c:Int)⟩]⟩,some ⟨gb,go,none⟩,bc⟩] else iB PV t q)=Q1:=⟨_,rfl⟩;have hQc:(Q1 c).length≤1000000:=by
      rw[← hQ1];dsimp only
      rw[if_neg (fun e=>hbc e.symm)];have:=HLEN.out c;omega
     have H4:=hIz (show kD w (W3.drewN nq) F p n nts pw pm u (fun k=>k=z1) B L Q1∧(W3.drewN nq).cell? ⟨z1,0,none⟩=some (.int .i64 (a:Int))∧(W3.drewN nq).cell? ⟨z1,1,none⟩=some (.slice (some ⟨gb,go,none⟩) 2 bc)∧(W3.drewN nq).cell? ⟨gb,go+1,none⟩=some (.int .i64 (b:Int))∧(W3.drewN nq).cell? ⟨gb,go+3,none⟩=some (.int .i64 (c:Int)) from⟨by rw[← hQ1];exact H3.out.1.below (hbd.out nq),H3.out.2⟩);have HQ1:=hIz hQ1;clear H3 hQ1 hbd;generalize W3.drewN nq=W4 at H4 ⊢;have hMd:=H4.out.1.below (V':=W4.drew) (bR.drew);obtain⟨A1,c1,A2,c2,W2,qu,happ,qu2,fu2,hu2,hX2,hMn,hXn⟩:=hMd.push (k:=c) hqc ⟨⟨(a:Int),[⟨la,(b:Int)⟩,⟨lb,(c:Int)⟩]⟩,some ⟨gb,go,none⟩,bc⟩ (hQc);have HNEW:=aI3 hMn ((hXn z1 0 rfl).trans H4.out.2.1) ((hXn z1 1 rfl).trans H4.out.2.2.1);obtain⟨n1,hn1⟩:∃n1,(Q1 c).length=n1:=⟨_,rfl⟩;rw[hn1] at qu happ qu2 HNEW;have hS:(fun X:World=>X.cell? ⟨z1,0,none⟩=some (.int .i64 (a:Int))∧X.cell? ⟨z1,1,none⟩=some (.slice (some ⟨gb,go,none⟩) 2 bc)∧X.cell? ⟨gb,go+3,none⟩=some (.int .i64 (c:Int))∧X.cell? ⟨u,c,none⟩=some (.slice A1 n1 c1)) W4.drew:=⟨H4.out.2.1,H4.out.2.2.1,H4.out.2.2.2.2,qu⟩;replace happ:(Builtin.append_ #[22,22] 22 #[.slice A1 n1 c1,.slice (some ⟨W4.drew.heap.size,0,none⟩) 1 1]).run Tryz.prog (W4.drew.alloc (.cells #[.int .i64 (a:Int),.slice (some ⟨gb,go,none⟩) 2 bc] 71))=.ok (.slice A2 (n1+1) c2) W2:=happ
     have hSW:(fun X:World=>X.cell? ⟨z1,0,none⟩=some (.int .i64 (a:Int))∧X.cell? ⟨z1,1,none⟩=some (.slice (some ⟨gb,go,none⟩) 2 bc)∧X.cell? ⟨gb,go+3,none⟩=some (.int .i64 (c:Int))∧X.cell? ⟨u,c,none⟩=some (.slice A1 n1 c1)) W2:=by
      have hb9:=((H4.out.1.base HI.out.2.1 HI.out.2.2).drew).trans (hu2.below (fun i _ hi=>Nat.le_trans HI.out.2.1.size hi) ((H4.out.1.base HI.out.2.1 HI.out.2.2).drew).size);exact⟨(hX2 z1 0 rfl).trans H4.out.2.1,(hX2 z1 1 rfl).trans H4.out.2.2.1,(HQ.out W2 hb9).2,qu2⟩
     have hSA:(fun X:World=>X.cell? ⟨z1,0,none⟩=some (.int .i64 (a:Int))∧X.cell? ⟨z1,1,none⟩=some (.slice (some ⟨gb,go,none⟩) 2 bc)∧X.cell? ⟨gb,go+3,none⟩=some (.int .i64 (c:Int))∧X.cell? ⟨u,c,none⟩=some (.slice A1 n1 c1)) (W4.drew.alloc (.cells #[.int .i64 (a:Int),.slice (some ⟨gb,go,none⟩) 2 bc] 71)):=by
      have hb9:Below W4.drew.heap.size W4.drew (W4.drew.alloc (.cells #[.int .i64 (a:Int),.slice (some ⟨gb,go,none⟩) 2 bc] 71)):=bR.alloc (Nat.le_refl _) _;exact⟨dK hb9 hS.1,dK hb9 hS.2.1,dK hb9 hS.2.2.1,dK hb9 hS.2.2.2⟩
     clear hMd hMn hXn qu hn1 hu2 hX2;obtain⟨n2,hn2⟩:∃n2,n1+1=n2:=⟨_,rfl⟩;rw[hn2] at happ HNEW;clear hn2;go_upto_region 11 with (fail);refine bE (fun X:World=>X.cell? ⟨z1,0,none⟩=some (.int .i64 (a:Int))∧X.cell? ⟨z1,1,none⟩=some (.slice (some ⟨gb,go,none⟩) 2 bc)∧X.cell? ⟨gb,go+3,none⟩=some (.int .i64 (c:Int))∧X.cell? ⟨u,c,none⟩=some (.slice A1 n1 c1)) (aL 18) (by kernel_rfl) ?_;generalize W4.drew=VD at happ hS hSA ⊢;intro hd;(refine aA 0 rfl hd hS ?_;clear hd;intro hd;(try simp only[Act.put,gA,gZ,sA,sZ,sS]))
     refine aA 1 rfl hd hS ?_;clear hd;intro hd;refine aA 2 rfl hd hS ?_;clear hd;intro hd;refine aA 3 rfl hd hS ?_;clear hd;intro hd;refine aA 4 rfl hd hS ?_;clear hd;intro hd;refine aA 5 rfl hd hS ?_;clear hd;intro hd;refine aA 6 rfl hd hS ?_;clear hd;intro hd;refine aA 7 rfl hd hS ?_;clear hd;intro hd;refine aA 8 rfl hd hS ?_;clear hd;intro hd;refine aA 9 rfl hd hS ?_;clear hd;intro hd;refine aA 10 rfl hd hS ?_;clear hd;intro hd;refine aA 11 rfl hd hS ?_;clear hd;intro hd;refine aA 12 rfl hd hS ?_;clear hd;intro hd;refine aA 13 rfl hd hS ?_;clear hd;intro hd;refine aA 14 rfl hd hS ?_;clear hd;intro hd;clear hS;refine aO hd 15 ?_;clear hd;intro hd;refine aS (S:=(fun X:World=>X.cell? ⟨z1,0,none⟩=some (.int .i64 (a:Int))∧X.cell? ⟨z1,1,none⟩=some (.slice (some ⟨gb,go,none⟩) 2 bc)∧X.cell? ⟨gb,go+3,none⟩=some (.int .i64 (c:Int))∧X.cell? ⟨u,c,none⟩=some (.slice A1 n1 c1))) (late:=aL 18) rfl rfl (fun K hK=>?_);go_simp;refine hK _ _ (fun _ _=>hSA) ?_;clear hK K;(try simp only[Act.put,gA,gS,gZ,sA,sZ,sS])
     refine aO hd 16 ?_;clear hd;intro hd;refine aS (S:=(fun X:World=>X.cell? ⟨z1,0,none⟩=some (.int .i64 (a:Int))∧X.cell? ⟨z1,1,none⟩=some (.slice (some ⟨gb,go,none⟩) 2 bc)∧X.cell? ⟨gb,go+3,none⟩=some (.int .i64 (c:Int))∧X.cell? ⟨u,c,none⟩=some (.slice A1 n1 c1))) (late:=aL 18) rfl rfl (fun K hK=>?_);refine fE _ _ _ rfl rfl rfl happ ?_;refine hK _ _ (fun _ _=>hSW) ?_;clear hK K happ;(try simp only[Act.put,gA,gS,gZ,sA,sZ,sS])
     have hS:=hSW;refine aA 17 rfl hd hS ?_;clear hd;intro hd;clear hS;refine aO hd 18 ?_;clear hd;intro hd;refine aS (S:=(fun X:World=>X.cell? ⟨z1,0,none⟩=some (.int .i64 (a:Int))∧X.cell? ⟨z1,1,none⟩=some (.slice (some ⟨gb,go,none⟩) 2 bc)∧X.cell? ⟨gb,go+3,none⟩=some (.int .i64 (c:Int))∧X.cell? ⟨u,c,none⟩=some (.slice A1 n1 c1))) (late:=aL 18) rfl rfl (fun K hK=>?_);go_simp;refine hK _ _ (fun h _=>absurd h (by decide)) ?_;clear hK K;(try simp only[Act.put,gA,gS,gZ,sA,sZ,sS])
     refine cL (by kernel_rfl) ?_;clear qu2 fu2 hSA hSW;generalize W2.setCell ⟨u,c,none⟩ (.slice A2 n2 c2)=W5 at HNEW ⊢;have FIN:=hIz (show PM w F p n nts pw pm u PV (ElG G labels) (t+1) W5 from by
      have hM5:=HNEW.out.1;rw[← HQ1.out,PI HT.out.2.2.2 rfl hbc] at hM5;exact⟨B,L,hM5.bare,HT.out.2.2.1.two HT.out.2.2.2 rfl⟩)
     clear HNEW;go_wp2;go_roundw
     case rel=>exact⟨t+1,by omega,by go_num,FIN⟩
     case measure=>simp[intOf];omega
   ·exfalso
    have:=hok.few;simp at this
   -- REST
  ·obtain rfl:t=m:=by omega
   obtain⟨B0,L0,hM0,hL10⟩:=hq.out;have hE0:FiI (PV.map (·.pr)) (ElG G labels) n nts B0 L0 (fun _=>True):=(show Lp1 PV (ElG G labels) n nts PV.length B0 L0 from by rw[HM.out];exact hL10).end_ HI.out.1.sh;have hM0:kD w wr F p n nts pw pm u NoX B0 L0 (iB PV PV.length):=by rw[HM.out];exact hM0
   have H0:=hIz (show ∃B L,kD w wr F p n nts pw pm u NoX B L (iB PV PV.length)∧FiI (PV.map (·.pr)) (ElG G labels) n nts B L (fun _=>True)∧2*wP B nts+L.length≤2*wP B0 nts+L0.length from⟨B0,L0,hM0,hE0,Nat.le_refl _⟩);generalize 2*wP B0 nts+L0.length=N0 at H0;clear hq hM0 hL10 hE0;go_wp2;go_loopg [] N0 (fun k wr=>Hid (∃B L,kD w wr F p n nts pw pm u NoX B L (iB PV PV.length)∧FiI (PV.map (·.pr)) (ElG G labels) n nts B L (fun _=>True)∧2*wP B nts+L.length≤k))
   case atStart=>exact H0
   case round =>
    clear H0;obtain⟨B,L,hM,hFi,hle⟩:=hrel.out;obtain⟨lv,hwk,hwork⟩:=hM.work;have hlen:=oM wr pw lv _ L hwk.ch;have hL5:=hwk.len;by_cases hL0:0<L.length
    ·have hpop:=KW wr pw lv _ L hwk.ch hwk.np (by omega) hL0;obtain⟨nl,hnl⟩:∃nl,L.length=nl:=⟨_,rfl⟩;rw[hnl] at hlen;have hlI:(0:Int)<(nl:Int):=by omega
     have HW:=aI4 hwork hwk hFi hle;clear hM hwork hwk hFi hle hrel hL5 hL0 hnl;go_wp2_with fail;refine hlen.mono ?_;clear hlen;rintro e VL ⟨rfl,hw⟩;subst VL;unfold chV at hpop;go_wp2_with fail;refine hpop.mono ?_;clear hpop;rintro e V1 ⟨x,rfl,htt⟩;obtain⟨k,rfl,hk,q1,⟨bb,qm⟩,fm,hwt⟩:=HW.out.2.1.pop htt;obtain⟨⟨L',hPm,hM2⟩,-,-⟩:=HW.out.1 _ _ hwt;have hkI:(k:Int)<(nts:Int):=by omega
     have h3:=Lp3.begin HW.out.2.2.1 HW.out.2.2.2 hPm;obtain⟨A,c,qu,-,-⟩:=hM2.use hk;have H3:=aI3 hM2 h3 qu;clear hM2 h3 htt hwt hPm HW;have hta:=fun T=>SB (k:Int) T V1
     go_upto_region 17 with (fail);clear q1 qm fm hta;generalize V1.setCell ⟨pm,k,none⟩ (.bool false)=V2 at H3 qu ⊢;obtain⟨ml,hml⟩:∃ml,(iB PV PV.length k).length=ml:=⟨_,rfl⟩;rw[hml] at qu;have HML:=hIz hml;have hm8:ml≤8192:=by have:=yQ PV PV.length k;have:=HM.out;omega
     clear hml;go_wp2;clear qu;go_loopw [112] (fun i wz=>∃t:Nat,t≤ml∧i=.int .i64 (t:Int)∧Hid (∃B L,kD w wz F p n nts pw pm u NoX B L (iB PV PV.length)∧Lp3 PV (ElG G labels) n nts k t B L gk∧wz.cell? ⟨u,k,none⟩=some (.slice A (iB PV PV.length k).length c))) (fun i _=>ml-(intOf i).toNat)
     case atStart=>exact⟨0,Nat.zero_le _,rfl,hIz ⟨B,L',H3.out⟩⟩
     case round =>
      obtain⟨t,ht,rfl,hq⟩:=hrel;clear H3;by_cases hlt:t<ml
      ·have htI:(t:Int)<(ml:Int):=by omega
       obtain⟨B,L,hM,h3,hu⟩:=hq.out;obtain⟨v,hv⟩:∃v,(iB PV PV.length k)[t]?=some v:=⟨_,gEz (by rw[HML.out];exact hlt)⟩;obtain⟨hvm,hnm⟩:=yR (mG hv);obtain⟨⟨la,sb⟩,⟨lb,sc⟩,hbd,-⟩:=vA hnm;have hok:=HI.out.1.sh v hvm;have hB:=hM.base HI.out.2.1 HI.out.2.2;obtain⟨A',c',hu',-,hrw⟩:=hM.use hk;rw[hu] at hu';injection hu' with hu';injection hu' with hA' _ hc';subst hA';subst hc';obtain⟨pb,po,rfl,c0,c1⟩:=hrw.pv hv;have hg2:=hok.g.two _ _ hbd;have hg0:=hok.g.h0;have hg1:=hok.g.h1;have hrow:=(HI.out.1.pv.2 _ hvm).below3 hB;obtain⟨⟨hd,bd⟩,bA,bc⟩:=v;dsimp only at hbd hg0 hg1 hg2 hrow c0 c1
       subst hbd;obtain⟨qa,rfl⟩:∃b:Nat,hd=(b:Int):=⟨hd.toNat,by omega⟩;obtain⟨qb,rfl⟩:∃b:Nat,sb=(b:Int):=⟨sb.toNat,by omega⟩;obtain⟨qc,rfl⟩:∃c:Nat,sc=(c:Int):=⟨sc.toNat,by omega⟩;have ha:qa<nts:=by omega
       have hb:qb<nts:=by omega
       have hc:qc<nts:=by omega
       have c1:wr.cell? ⟨pb,po+t*2+1,none⟩=some (.slice bA 2 bc):=c1;have kb:=Blk.new wr 71 #[.int .i64 (qa:Int),.slice bA 2 bc];have b1:Below wr.heap.size wr (wr.alloc (.cells #[.int .i64 (qa:Int),.slice bA 2 bc] 71)):=bR.alloc (Nat.le_refl _) _;have hB1:=tHn hB b1;obtain⟨FC,hcl,hturn⟩:=(hM.box (.cells #[.int .i64 (qa:Int),.slice bA 2 bc] 71)).turn;have hcon:=KX (wr.alloc (.cells #[.int .i64 (qa:Int),.slice bA 2 bc] 71)) FC p n n nts B hcl qa qb qc la lb bA bc (hrow.below3 b1) ha hb hc q5 HN64.out (HI.out.1.tab.upd (upF hB1) HI.out.1.htab id) (Nat.lt_of_lt_of_le HI.out.1.htab hB1.size) (h3.1.fit HEL.out hb hc);have e0:(wr.alloc (.cells #[.int .i64 (qa:Int),.slice bA 2 bc] 71)).cell? ⟨wr.heap.size,0,none⟩=some (.int .i64 (qa:Int)):=kb.cell 0;have e1:(wr.alloc (.cells #[.int .i64 (qa:Int),.slice bA 2 bc] 71)).cell? ⟨wr.heap.size,1,none⟩=some (.slice bA 2 bc):=kb.cell 1;have HT:=aI5 hturn e0 (dK b1 hu) h3 hv;clear hM h3 hu hv hvm hnm hok hB hrw hg2 hg0 hg1 hrow kb b1 hB1 hcl hturn hq;go_wp2_with fail;refine hcon.mono ?_;clear hcon e0 e1 c0 c1;rintro e V3 ⟨he,hto⟩;obtain⟨hM3,hu3,hX3⟩:=HT.out.1 _ V3 hto;have c30:V3.cell? ⟨wr.heap.size,0,none⟩=some (.int .i64 (qa:Int)):=(hX3 _ 0 rfl).trans HT.out.2.1;cases hmo:dG (B qa) (mulO (B qb) (B qc))
       ·rw[hmo] at he;subst he;have FIN:=hIz (show ∃B L,kD w V3 F p n nts pw pm u NoX B L (iB PV PV.length)∧Lp3 PV (ElG G labels) n nts k (t+1) B L gk∧V3.cell? ⟨u,k,none⟩=some (.slice (some ⟨pb,po,none⟩) (iB PV PV.length k).length c) from by
         have hs:=HT.out.2.2.2.1.step HI.out.1.sh HT.out.2.2.2.2 rfl (L':=L) (by
          dsimp only
          rw[Int.toNat_natCast,Int.toNat_natCast,Int.toNat_natCast,if_neg (by rw[hmo];exact nofun)])
         dsimp only at hs
         rw[Int.toNat_natCast,Int.toNat_natCast,Int.toNat_natCast] at hs;exact⟨_,L,hM3.bare,hs,(hu3 k).trans HT.out.2.2.1⟩)
        clear hM3 hu3 hX3 hto hmo c30;go_wp2;go_roundw
        case rel=>exact⟨t+1,by omega,by go_num,FIN⟩
        case measure=>simp[intOf];omega
       ·rw[hmo] at he;subst he;obtain⟨lv,hwk,hwork⟩:=hM3.work;have hput:=sJ V3 pw pm nts lv L hwk q5 qa ha;have HW:=aI3 hwork hmo (fun o=>(hu3 o));clear hM3 hu3 hX3 hto hmo hwk hwork;go_wp2_with fail;refine hput.mono ?_;clear hput c30;rintro e V4 ⟨rfl,hwt⟩;obtain⟨⟨L',hPu,hM4⟩,hu4,-⟩:=HW.out.1 _ _ hwt;have FIN:=hIz (show ∃B L,kD w V4 F p n nts pw pm u NoX B L (iB PV PV.length)∧Lp3 PV (ElG G labels) n nts k (t+1) B L gk∧V4.cell? ⟨u,k,none⟩=some (.slice (some ⟨pb,po,none⟩) (iB PV PV.length k).length c) from by
         have hs:=HT.out.2.2.2.1.step HI.out.1.sh HT.out.2.2.2.2 rfl (L':=L') (by
          dsimp only
          rw[Int.toNat_natCast,Int.toNat_natCast,Int.toNat_natCast,if_pos HW.out.2.1];exact hPu)
         dsimp only at hs
         rw[Int.toNat_natCast,Int.toNat_natCast,Int.toNat_natCast] at hs;exact⟨_,L',hM4.bare,hs,(hu4 k).trans ((HW.out.2.2 k).trans HT.out.2.2.1)⟩)
        clear hM4 hu4 hPu hwt;go_wp2;go_roundw
        case rel=>exact⟨t+1,by omega,by go_num,FIN⟩
        case measure=>simp[intOf];omega
      ·obtain rfl:t=ml:=by omega
       obtain⟨B3,L3,hM3,hl3,-⟩:=hq.out;have H4:=hIz (show ∃B L,kD w wr F p n nts pw pm u NoX B L (iB PV PV.length)∧FiI (PV.map (·.pr)) (ElG G labels) n nts B L (fun _=>True)∧2*wP B nts+L.length≤2*wP B3 nts+L3.length from⟨B3,L3,hM3,(show Lp3 PV (ElG G labels) n nts k (iB PV PV.length k).length B3 L3 gk from by rw[HML.out];exact hl3).end_,Nat.le_refl _⟩);have hlt3:=hl3.2;generalize 2*wP B3 nts+L3.length=g3 at H4 hlt3;clear hM3 hl3 hq;go_wp2;go_roundg g3
       case rel=>exact H4
       case measure=>omega
    ·have hnil:L=[]:=List.eq_nil_of_length_eq_zero (by omega);subst hnil;have FIN:=hIz (show SC w F p n nts PV labels G wr from by
      obtain⟨FC,lv,U,uv,hs⟩:=hM;exact⟨B,fun k hk i j=>hFi.done hk,hFi.wd,FC,hs.cl,hs.up,hs.c1⟩)
     clear hM hwork hwk hFi hle hrel hL5 hL0;have hlen:Calls Tryz.prog 75 #[.pointer (some ⟨pw,0,none⟩)] wr (gB wr (.int .i64 0)):=hlen;go_wp2_with fail;refine hlen.mono ?_;clear hlen;rintro e VL ⟨rfl,hw⟩;subst VL;go_wp2;exact bodyPost_end (results_none rfl _ _ _) rfl ⟨rfl,FIN.out⟩
open Go.RowKit Go.Shelf
def eW(nts:Int)(PV:List Pv)(labels:List Txt):Int:=
 if 16<labels.length∨nts<1∨512<nts∨8192<PV.length then 2 else if upB ltT labels=true∧∀v∈PV,aZ v.pr nts labels.length=true then 0 else 2
theorem AL(w:World)(nts:Int)(PA:Option Addr)(pc:Nat)(PV:List Pv)(hP:PvR w PA PV)(LA:Option Addr)(cl:Nat)(labels:List Txt)(hlab:aX w LA (aE labels)) :
  Calls Tryz.prog 41 #[.agg #[.int .i64 nts,.slice PA PV.length pc],.slice LA labels.length cl] w (Sam w (.int .i64 (eW nts PV labels))):=by
 obtain⟨m,hm⟩:∃m,PV.length=m:=⟨_,rfl⟩;obtain⟨l,hl⟩:∃l,labels.length=l:=⟨_,rfl⟩;have b1:Below w.heap.size w (w.alloc (.cells #[.int .i64 nts,.slice PA m pc] 24)):=bR.alloc (Nat.le_refl _) _;have k1:=Blk.new w 24 #[.int .i64 nts,.slice PA m pc];have q0:(w.alloc (.cells #[.int .i64 nts,.slice PA m pc] 24)).cell? ⟨w.heap.size,0,none⟩=some (.int .i64 nts):=k1.cell 0;have q1:(w.alloc (.cells #[.int .i64 nts,.slice PA m pc] 24)).cell? ⟨w.heap.size,1,none⟩=some (.slice PA m pc):=k1.cell 1;have hv:eW nts PV labels=if 16<l∨nts<1∨512<nts∨8192<m then 2 else if upB ltT labels=true∧∀v∈PV,aZ v.pr nts l=true then 0 else 2:=by
  unfold eW;rw[hm,hl]
 rw[hm,hl];have HM:=aI2 hm hl;have H:=aI4 b1 k1 hP hlab;have HV:=hIz hv;clear b1 k1 hP hlab hm hl hv;by_cases h1:16<l
 ·have FIN:=hIz (show eW nts PV labels=2 from by rw[HV.out,if_pos (.inl h1)]);have h1I:(16:Int)<(l:Int):=by omega
  go_enter Tryz.func41,Tryz.ntmps41;go_wp2;go_ret;exact⟨by rw[FIN.out];rfl,H.out.1⟩
 ·have h1I:¬(16:Int)<(l:Int):=by omega
  by_cases h2:nts<1
  ·have FIN:=hIz (show eW nts PV labels=2 from by rw[HV.out,if_pos (.inr (.inl h2))]);go_enter Tryz.func41,Tryz.ntmps41;go_wp2;go_ret;exact⟨by rw[FIN.out];rfl,H.out.1⟩
  ·by_cases h3:512<nts
   ·have FIN:=hIz (show eW nts PV labels=2 from by rw[HV.out,if_pos (.inr (.inr (.inl h3)))]);go_enter Tryz.func41,Tryz.ntmps41;go_wp2;go_ret;exact⟨by rw[FIN.out];rfl,H.out.1⟩
   ·by_cases h4:8192<m
    ·have FIN:=hIz (show eW nts PV labels=2 from by rw[HV.out,if_pos (.inr (.inr (.inr h4)))]);have h4I:(8192:Int)<(m:Int):=by omega
     go_enter Tryz.func41,Tryz.ntmps41;go_wp2;go_ret;exact⟨by rw[FIN.out];rfl,H.out.1⟩
    ·have h4I:¬(8192:Int)<(m:Int):=by omega
     have HV2:=hIz (show eW nts PV labels=if upB ltT labels=true∧∀v∈PV,aZ v.pr nts l=true then 0 else 2 from by rw[HV.out,if_neg (by omega)]);clear HV;go_enter Tryz.func41,Tryz.ntmps41;go_wp2;generalize w.alloc (.cells #[.int .i64 nts,.slice PA m pc] 24)=W1 at H q0 q1 ⊢;clear q0 q1;go_loopw [5] (fun i wr=>∃k:Nat,(k≤l∧i=.int .i64 ((k:Int)+1))∧Hid (Below W1.heap.size W1 wr)∧Hid (∀j,j<k→∀a b,labels[j]?=some a→labels[j+1]?=some b→ltT a b=true)) (fun i _=>l+1-(intOf i).toNat)
     case atStart=>exact⟨0,⟨Nat.zero_le _,rfl⟩,hIz bR,hIz (fun j hj=>by omega)⟩
     case round =>
      obtain⟨k,⟨hk,rfl⟩,hb,hall⟩:=hrel;by_cases hlt:k+1<l
      ·have hkw:IntKind.i64.wrap (k:Int)=(k:Int):=IntWalk.i64_in _ (by omega);have hkw1:IntKind.i64.wrap ((k:Int)+1-1)=(k:Int):=by rw[IntWalk.i64_in _ (by omega)];omega
       have hkw2:IntKind.i64.wrap ((k:Int)+1+1)=(k:Int)+1+1:=IntWalk.i64_in _ (by omega);have hltI:(k:Int)+1<(l:Int):=by omega
       have hltI2:(k:Int)<(l:Int):=by omega
       have ht:((k:Int)+1).toNat=k+1:=by omega
       have hn0:(0:Int)≤(k:Int)+1:=by omega
       have h0:=(H.out.2.2.2.below3 H.out.1).below3 (hb.out);obtain⟨x,hx⟩:∃x,labels[k]?=some x:=⟨_,gEz (by rw[HM.out.2];omega)⟩;obtain⟨y,hy⟩:∃y,labels[k+1]?=some y:=⟨_,gEz (by rw[HM.out.2];omega)⟩;obtain⟨ab,ao,rfl,x0⟩:=h0.txt hx;obtain⟨_,_,e1,y0⟩:=h0.txt hy;injection e1 with e1;injection e1 with e1 e2;subst e1;subst e2;have HXY:=aI2 hx hy;clear h0 hx hy;go_upto_region 6 with (fail);refine aT (fun w'=>w'.cell? ⟨ab,ao+k,none⟩=some (.string x)∧w'.cell? ⟨ab,ao+(k+1),none⟩=some (.string y)) 11 [(0,true),(1,true),(2,true),(3,true),(4,true),(5,true),(6,true),(7,true),(8,true),(9,false),(10,true)] (by kernel_rfl) (by kernel_rfl) (fun _ _ d _ _ h=>by cases d <;> exact h) ⟨x0,y0⟩ ?_
       iterate 9 refine aC rfl ?_
       refine aM rfl rfl (fun K hK=>?_);go_simp;refine(dP x y _).mono ?_;rintro e w2 ⟨rfl,rfl⟩;have b2:Below wr.heap.size wr wr.drew:=bR.drew;have hcmp:=iY x y;obtain⟨v,hv⟩:∃v,kO x y=v:=⟨_,rfl⟩;rw[hv] at hcmp ⊢;clear hv;refine hK _ _ (fun _=>⟨x0,y0⟩) ?_;clear hK K;(try simp only[Act.put,gA,gS,gZ,sA,sZ,sS])
       have HB:=hIz (tHn hb.out b2);have HC:=hIz hcmp;clear hcmp b2;by_cases hv:v<0
       ·have hv1:decide (0≤v)=false:=by simpa using hv
        have hlt2:ltT x y=true:=by rw[← HC.out];simpa using hv
        have HL:=hIz hlt2;clear hlt2;refine aC rfl ?_;refine aG ?_;go_wp2;go_roundw
        case rel=>exact⟨k+1,⟨by omega,by go_num⟩,HB,hIz (fun j hj a b ha hb=>by
         rcases Nat.lt_succ_iff_lt_or_eq.1 hj with h|rfl
         ·exact hall.out j h a b ha hb
         ·rw[HXY.out.1] at ha;rw[HXY.out.2] at hb;injection ha with ha;injection hb with hb;subst ha;subst hb;exact HL.out)⟩
        case measure=>simp[intOf];omega
       ·have hv1:decide (0≤v)=true:=by simpa using hv
        have hlt2:ltT x y=false:=by rw[← HC.out];simpa using hv
        have FIN:=hIz (show eW nts PV labels=2 from by
         rw[HV2.out,if_neg];intro h;rw[jT HXY.out.1 HXY.out.2 hlt2] at h;cases h.1)
        clear hlt2;refine aC rfl ?_;refine aG ?_;go_wp2;go_ret;exact⟨by rw[FIN.out];rfl,tHn H.out.1 HB.out⟩
      ·have hgeI:(l:Int)≤(k:Int)+1:=by omega
       have HUP:=hIz (show upB ltT labels=true from(iZ labels).2 (fun i a b ha hb'=>by
        have:=(gO.1 hb').1;have:=HM.out.2;exact hall.out i (by omega) a b ha hb'))
       have k2:=H.out.2.1.upd (upF hb.out) id;have q0:wr.cell? ⟨w.heap.size,0,none⟩=some (.int .i64 nts):=k2.cell 0;have q1:wr.cell? ⟨w.heap.size,1,none⟩=some (.slice PA m pc):=k2.cell 1;have HB0:=hIz hb.out;clear k2 hall hb;go_wp2;generalize wr=W2 at HB0 q0 q1 ⊢;clear q1;go_loopw [47] (fun i wz=>∃t:Nat,t≤m∧i=.int .i64 (t:Int)∧Hid (Below W2.heap.size W2 wz)∧Hid (∀j,j<t→∀v,PV[j]?=some v→aZ v.pr nts l=true)) (fun i _=>m-(intOf i).toNat)
       case atStart=>exact⟨0,Nat.zero_le _,rfl,hIz bR,hIz (fun j hj=>by omega)⟩
       case round =>
        obtain⟨t,ht,rfl,hb,hall⟩:=hrel;have bw:=H.out.1.trans ((tHn HB0.out hb.out).mono H.out.1.size);clear q0;by_cases hlt2:t<m
        ·have htI:(t:Int)<(m:Int):=by omega
         obtain⟨v,hv⟩:∃v,PV[t]?=some v:=⟨_,gEz (by rw[HM.out.1];omega)⟩;have hp:=H.out.2.2.1.below bw;obtain⟨pb,po,rfl,c0,c1⟩:=hp.1.pv hv;have hrow:=hp.2 v (mG hv);have q0:wr.cell? ⟨w.heap.size,0,none⟩=some (.int .i64 nts):=(H.out.2.1.upd (Upd.of_below (tHn HB0.out hb.out) (fun _=>False)) id).cell 0;have b1:Below wr.heap.size wr (wr.alloc (.cells #[.int .i64 v.pr.head,.slice v.adr v.pr.body.length v.cap] 71)):=bR.alloc (Nat.le_refl _) _;have kb:=Blk.new wr 71 #[.int .i64 v.pr.head,.slice v.adr v.pr.body.length v.cap];have e0:(wr.alloc (.cells #[.int .i64 v.pr.head,.slice v.adr v.pr.body.length v.cap] 71)).cell? ⟨wr.heap.size,0,none⟩=some (.int .i64 v.pr.head):=kb.cell 0;have e1:(wr.alloc (.cells #[.int .i64 v.pr.head,.slice v.adr v.pr.body.length v.cap] 71)).cell? ⟨wr.heap.size,1,none⟩=some (.slice v.adr v.pr.body.length v.cap):=kb.cell 1;have q01:=dK b1 q0;have hcon:=EN (wr.alloc (.cells #[.int .i64 v.pr.head,.slice v.adr v.pr.body.length v.cap] 71)) v.pr v.adr v.cap (hrow.below3 b1) nts (l:Int);have HX:=aI3 hv b1 bw;clear hv hp hrow b1 kb bw q0;generalize v.pr.body.length=vl at *;go_wp2_with fail;refine hcon.mono ?_;clear hcon c0 c1 e0 e1 q01;rintro e V2 ⟨he,b2⟩;have HB5:=hIz (tHn HX.out.2.1 b2);cases hsh:aZ v.pr nts (l:Int)
         ·rw[hsh] at he;subst he;have FIN:=hIz (show eW nts PV labels=2 from by
           rw[HV2.out,if_neg];intro h;rw[h.2 v (mG HX.out.1)] at hsh;cases hsh)
          clear b2 hsh;go_wp2;go_ret;exact⟨by rw[FIN.out];rfl,tHn HX.out.2.2 HB5.out⟩
         ·rw[hsh] at he;subst he;have FIN:=aI2 (tHn hb.out HB5.out) hsh;clear b2 hsh;go_wp2;go_roundw
          case rel=>exact⟨t+1,by omega,by go_num,hIz FIN.out.1,hIz (fun j hj v' hv'=>by
           rcases Nat.lt_succ_iff_lt_or_eq.1 hj with h|rfl
           ·exact hall.out j h v' hv'
           ·rw[HX.out.1] at hv';obtain rfl:=Option.some.inj hv';exact FIN.out.2)⟩
          case measure=>simp[intOf];omega
        ·have FIN:=hIz (show eW nts PV labels=0 from by
          exact(HV2.out).trans (if_pos ⟨HUP.out,fun v hv=>by
             obtain⟨j,hj⟩:=List.getElem?_of_mem hv;have:=(gO.1 hj).1;have:=HM.out.1;exact hall.out j (by omega) v hj⟩))
         have HBW:=hIz bw;clear bw hall hb;go_wp2;go_ret;exact⟨by rw[FIN.out];rfl,HBW.out⟩
open Go.RowKit Go.Shelf
theorem FH(w:World)(Fg:Nat→Prop)(pg:Nat)(G:Gr)(h:GrS w Fg pg G)(ok:GOk G)(h1:G.N.length≤1):Calls Tryz.prog 40 #[.pointer (some ⟨pg,0,none⟩)] w (Sam w (.bool true)):=by
 have hcon:=uY w Fg pg G h ok ByteArray.empty 1 h1 (Nat.le_refl _) (by omega);clear h ok h1;go_enter Tryz.func40,Tryz.ntmps40;go_wp2_with fail;refine hcon.mono ?_;clear hcon;rintro e W1 ⟨q,b,rfl,-,hb,-⟩;have HB:=hIz hb;clear hb;go_wp2;go_ret;exact⟨rfl,HB.out⟩
theorem LD:(Tryz.prog.info? 110).map (fun i=>(i.zero,i.size,i.bytes))=some (some (.pointer none),1,8):=by kernel_rfl
def upA(ad:Nat→Nat)(t q:Nat):Nat→Nat:=fun k=>if k=t then q else ad k
theorem LE(ad:Nat→Nat)(t q:Nat):ptC ad t++[.pointer (some ⟨q,0,none⟩)]=ptC (upA ad t q) (t+1):=by
 unfold ptC;rw[List.range_succ,List.map_append];congr 1
 ·refine List.map_congr_left (fun k hk=>?_);have:=List.mem_range.1 hk;simp only[upA]
  rw[if_neg (by omega)]
 ·simp[upA]
open Classical in
set_option maxRecDepth 20000 in
theorem ClS.grow{w:World}{F Fq:Nat→Prop}{p side nodes t q:Nat}(h:ClS w F p side nodes t (fun _=>none))(hq:QuS w Fq q side none)(hd:∀k,Fq k→¬F k)(ht:t≤512) :
  ∃A c A' c' W2,w.cell? ⟨p,1,none⟩=some (.slice A t c)∧(Builtin.append_ #[107,107] 107 #[.slice A t c,.slice (some ⟨w.heap.size,0,none⟩) 1 1]).run Tryz.prog (w.alloc (.cells #[.pointer (some ⟨q,0,none⟩)] 110))=.ok (.slice A' (t+1) c') W2 ∧
   W2.cell? ⟨p,1,none⟩=some (.slice A t c)∧W2.frozen? ⟨p,1,none⟩=false∧(∃F',ClS (W2.setCell ⟨p,1,none⟩ (.slice A' (t+1) c')) F' p side nodes (t+1) (fun _=>none)∧∀k,F' k→F k∨Fq k∨w.heap.size≤k)∧Upd F w (W2.setCell ⟨p,1,none⟩ (.slice A' (t+1) c')):=by
 obtain⟨O,pv,ad,hi,rfl⟩:=h;obtain⟨A,c,rfl,-,-⟩:=aK hi.rows;obtain⟨v2,W2,happ,own2,u2,p2⟩:=cI w 0 107 110 1 8 _ Tryz.underlying107 LD rfl (by decide) (.slice A t c) t (ptC ad t) hi.rows [.pointer (some ⟨q,0,none⟩)] 1 rfl (fun x hx=>by rw[List.mem_singleton.1 hx];rfl) (by omega) (by unfold maxLen;omega) (Nat.zero_le _);obtain⟨A',c',rfl,-,-⟩:=aK own2;have hrow:∀k,(Value.slice A t c).ownBlock=some k→O k=some .row:=hi.orow;have hb2:=hi.blk.upd u2 (fun e=>by have:=hrow _ e;rw[hi.op] at this;cases this);have u3:Upd (fun k=>(Value.slice A t c).ownBlock=some k∨k=p) w (W2.setCell ⟨p,1,none⟩ (.slice A' (t+1) c')):=(u2.mono (fun _ _ e=>.inl e)).setCell (p:=⟨p,1,none⟩) (.inl (.inr rfl)) _;have hUF:∀k,((Value.slice A t c).ownBlock=some k∨k=p)→O k≠none:=fun k hk=>hk.elim (fun e=>by rw[hrow k e];exact nofun) (fun e=>by rw[e,hi.op];exact nofun)
 have hnp:∀k,(Value.slice A' (t+1) c').ownBlock=some k→¬k=p:=fun k hk e=>by
  subst e;rcases p2 k hk with h1|h1
  ·have:=hrow k h1;rw[hi.op] at this;cases this
  ·have:=hi.blk.lt;omega
 have hlt2:=own2.lt;have hqlt:=hq.lt;refine⟨A,c,A',c',W2,hi.blk.cell 1,happ,hb2.cell 1,hb2.frozen 1,⟨_,⟨fun k=>if k<w.heap.size then (if O k≠none then O k else if Fq k then some (.mat t) else none) else if (Value.slice A' (t+1) c').ownBlock=some k then some .row else none,.slice A' (t+1) c',upA ad t q,⟨hb2.set 1 _,?_,?_,?_,?_,?_⟩,rfl⟩,?_⟩,u3.mono (fun k _ hk=>hUF k hk)⟩
 ·rw[← LE];exact aB own2 ((Upd.refl (fun k=>k=p) W2).setCell (p:=⟨p,1,none⟩) (.inl rfl) (.slice A' (t+1) c')) hnp
 ·show(if p<w.heap.size then (if O p≠none then O p else _) else _)=_
  rw[if_pos hi.blk.lt,if_pos (by rw[hi.op];exact nofun)];exact hi.op
 ·intro k hk;show(if k<w.heap.size then (if O k≠none then O k else _) else _)=_
  rcases p2 k hk with h1|h1
  ·rw[if_pos (hi.lt k (by rw[hrow k h1];exact nofun)),if_pos (by rw[hrow k h1];exact nofun)];exact hrow k h1
  ·rw[if_neg (by omega),if_pos hk]
 ·intro k hk;by_cases e:k=t
  ·subst e;refine⟨Fq,?_,fun x hx=>?_⟩
   ·show QuS _ Fq (if k=k then q else ad k) side none
    rw[if_pos rfl];exact hq.upd u3 (fun x hx e=>hd x hx (hUF x e))
   ·show(if x<w.heap.size then (if O x≠none then O x else if Fq x then some (CRo.mat k) else none) else _)=_
    have hox:O x=none:=Classical.byContradiction (fun e=>hd x hx e);rw[if_pos (hqlt x hx),if_neg (fun e=>e hox),if_pos hx]
  ·obtain⟨Fk,h1,h2⟩:=hi.mats k (by omega);refine⟨Fk,?_,fun x hx=>?_⟩
   ·show QuS _ Fk (if k=t then q else ad k) side none
    rw[if_neg e];exact h1.upd u3 (fun x hx e'=>by
     have e3:=h2 x hx;rcases e' with e' | e'
     ·rw[hrow x e'] at e3;cases e3
     ·rw[e',hi.op] at e3;cases e3)
   ·show(if x<w.heap.size then (if O x≠none then O x else _) else _)=_
    rw[if_pos (h1.lt x hx),if_pos (by rw[h2 x hx];exact nofun)];exact h2 x hx
 ·intro k hk;have hz:=u3.size;by_cases hl:k<w.heap.size
  ·omega
  ·have hk:(if k<w.heap.size then _ else if (Value.slice A' (t+1) c').ownBlock=some k then some CRo.row else none)≠none:=hk;rw[if_neg hl] at hk;by_cases e:(Value.slice A' (t+1) c').ownBlock=some k
   ·have:=(hlt2 k e).2;simpa[World.setCell] using this
   ·rw[if_neg e] at hk;exact absurd rfl hk
 ·intro k hk;by_cases hl:k<w.heap.size
  ·have hk:(if k<w.heap.size then (if O k≠none then O k else if Fq k then some (CRo.mat t) else none) else _)≠none:=hk;rw[if_pos hl] at hk;by_cases e:O k≠none
   ·exact .inl e
   ·rw[if_neg e] at hk;by_cases e2:Fq k
    ·exact .inr (.inl e2)
    ·rw[if_neg e2] at hk;exact absurd rfl hk
  ·exact .inr (.inr (by omega))
open Go.RowKit Go.Shelf
attribute [local go_sem] Oper.semAt_some
def faC(x:Nat × Nat × Nat):List Value:=[.int .i64 (x.1:Int),.int .i64 (x.2.1:Int),.int .i64 (x.2.2:Int)]
open Go.RowKit Go.Sort Go.Shelf
def lnC(x:Ln):List Value:=[.int .i64 (x.1.1:Int),.int .i64 (x.1.2.1:Int),.int .i64 (x.1.2.2:Int),.int .i64 (x.2:Int)]
def bP(L:List Ln):List Value:=L.flatMap lnC
theorem oW(L:List Ln):(bP L).length=L.length*4:=dL lnC 4 (fun _=>rfl) L
theorem yS(x:Ln):∀u∈lnC x,u.oneCell'=true:=by
 intro u hf;simp[lnC] at hf
 rcases hf with rfl|rfl|rfl|rfl <;> rfl
theorem FI:(Tryz.prog.info? 97).map (fun i=>(i.zero,i.size,i.bytes))=some (some (.agg #[.int .i64 0,.int .i64 0,.int .i64 0,.int .i64 0]),4,32):=by kernel_rfl
def or4(a b c d:Int):Int:=if a≠0 then a else if b≠0 then b else if c≠0 then c else d
def IA(x y:Ln):Int:=or4 (pV (x.2:Int) (y.2:Int)) (pV (x.1.1:Int) (y.1.1:Int)) (pV (x.1.2.1:Int) (y.1.2.1:Int)) (pV (x.1.2.2:Int) (y.1.2.2:Int))
theorem wR(x y:Ln):decide (IA x y<0)=mU x y:=by
 unfold mU;refine decide_eq_decide.2 ?_;obtain⟨⟨a1,a2,a3⟩,a0⟩:=x;obtain⟨⟨b1,b2,b3⟩,b0⟩:=y;unfold IA or4 pV ltN;dsimp only
 repeat' split
 all_goals omega
theorem SD:SWO (ltOf IA):=by
 have h:∀x y,ltOf IA x y=mU x y:=fun x y=>wR x y
 refine⟨fun x=>by rw[h];exact PE.irr x,fun x y z a b=>by rw[h] at *;exact PE.tr x y z a b,fun x y z a b=>?_⟩;rw[h] at *;cases e:mU x z
 ·rfl
 ·cases e2:mU z y
  ·rw[PE.tri _ _ b e2] at a;rw[a] at e;cases e
  ·have:=PE.tr _ _ _ e e2;rw[a] at this;cases this
theorem PN(w:World)(g:Nat)(a b c d:Int)(h:Blk w g 3 #[.int .i64 a,.int .i64 b,.int .i64 c,.int .i64 d]) :
  Calls Tryz.prog 92 #[.slice (some ⟨g,0,none⟩) 4 4] w (gB w (.int .i64 (or4 a b c d))):=by
 have key:∀x,or4 a b c d=x→Calls Tryz.prog 92 #[.slice (some ⟨g,0,none⟩) 4 4] w (gB w (.int .i64 x)):=by
  intro x hx;have c0:w.cell? ⟨g,0,none⟩=some (.int .i64 a):=h.cell 0;have c1:w.cell? ⟨g,1,none⟩=some (.int .i64 b):=h.cell 1;have c2:w.cell? ⟨g,2,none⟩=some (.int .i64 c):=h.cell 2;have c3:w.cell? ⟨g,3,none⟩=some (.int .i64 d):=h.cell 3;clear h;have HX:=hIz hx;clear hx;go_enter Tryz.func92,Tryz.ntmps92;go_wp2_with fail;go_loop [5,8] (fun _ i=>∃k:Nat,k≤4∧i=.int .i64 k∧Hid ((1≤k→a=0)∧(2≤k→b=0)∧(3≤k→c=0)∧(4≤k→d=0))) (fun _ i=>4-(intOf i).toNat)
  case atStart=>exact⟨0,by omega,rfl,hIz ⟨by omega,by omega,by omega,by omega⟩⟩
  case round =>
   obtain⟨k,hk,rfl,hz⟩:=hrel;have hk4:k=0∨k=1∨k=2∨k=3∨k=4:=by omega
   rcases hk4 with rfl|rfl|rfl|rfl|rfl
   ·by_cases ha:a=0
    ·have HA:=hIz ha;go_wp2;go_round
     case rel=>exact⟨1,by omega,rfl,hIz ⟨fun _=>HA.out,by omega,by omega,by omega⟩⟩
     case measure=>simp[intOf]
    ·have HA:=hIz ha;go_wp2;go_ret;refine⟨?_,rfl⟩;rw[← HX.out,or4,if_pos HA.out];rfl
   ·by_cases ha:b=0
    ·have HA:=hIz ha;go_wp2;go_round
     case rel=>exact⟨2,by omega,rfl,hIz ⟨fun _=>hz.out.1 (by omega),fun _=>HA.out,by omega,by omega⟩⟩
     case measure=>simp[intOf]
    ·have HA:=hIz ha;go_wp2;go_ret;refine⟨?_,rfl⟩;rw[← HX.out,or4,if_neg (by simp[hz.out.1 (by omega)]),if_pos HA.out];rfl
   ·by_cases ha:c=0
    ·have HA:=hIz ha;go_wp2;go_round
     case rel=>exact⟨3,by omega,rfl,hIz ⟨fun _=>hz.out.1 (by omega),fun _=>hz.out.2.1 (by omega),fun _=>HA.out,by omega⟩⟩
     case measure=>simp[intOf]
    ·have HA:=hIz ha;go_wp2;go_ret;refine⟨?_,rfl⟩;rw[← HX.out,or4,if_neg (by simp[hz.out.1 (by omega)]),if_neg (by simp[hz.out.2.1 (by omega)]),if_pos HA.out];rfl
   ·by_cases ha:d=0
    ·have HA:=hIz ha;go_wp2;go_round
     case rel=>exact⟨4,by omega,rfl,hIz ⟨fun _=>hz.out.1 (by omega),fun _=>hz.out.2.1 (by omega),fun _=>hz.out.2.2.1 (by omega),fun _=>HA.out⟩⟩
     case measure=>simp[intOf]
    ·have HA:=hIz ha;go_wp2;go_ret;refine⟨?_,rfl⟩;rw[← HX.out,or4,if_neg (by simp[hz.out.1 (by omega)]),if_neg (by simp[hz.out.2.1 (by omega)]),if_neg (by simp[hz.out.2.2.1 (by omega)])];rfl
   ·go_wp2;go_ret;refine⟨?_,rfl⟩;rw[← HX.out,or4,if_neg (by simp[hz.out.1 (by omega)]),if_neg (by simp[hz.out.2.1 (by omega)]),if_neg (by simp[hz.out.2.2.1 (by omega)]),hz.out.2.2.2 (by omega)];rfl
 exact key _ rfl
theorem yT(x y:Ln)(w:World):Calls Tryz.prog 59 #[.agg (lnC x).toArray,.agg (lnC y).toArray] w (SS w (.int .i64 (IA x y))):=by
 obtain⟨⟨a1,a2,a3⟩,a0⟩:=x;obtain⟨⟨b1,b2,b3⟩,b0⟩:=y;unfold IA lnC;dsimp only
 obtain⟨v0,e0⟩:∃v,pV (a0:Int) (b0:Int)=v:=⟨_,rfl⟩;obtain⟨v1,e1⟩:∃v,pV (a1:Int) (b1:Int)=v:=⟨_,rfl⟩;obtain⟨v2,e2⟩:∃v,pV (a2:Int) (b2:Int)=v:=⟨_,rfl⟩;obtain⟨v3,e3⟩:∃v,pV (a3:Int) (b3:Int)=v:=⟨_,rfl⟩;have H0:=fun W=>kT (a0:Int) (b0:Int) W
 have H1:=fun W=>kT (a1:Int) (b1:Int) W
 have H2:=fun W=>kT (a2:Int) (b2:Int) W
 have H3:=fun W=>kT (a3:Int) (b3:Int) W
 rw[e0] at H0 ⊢;rw[e1] at H1 ⊢;rw[e2] at H2 ⊢;rw[e3] at H3 ⊢;clear e0 e1 e2 e3;have k0:=(Blk.new w 97 #[.int .i64 (a1:Int),.int .i64 (a2:Int),.int .i64 (a3:Int),.int .i64 (a0:Int)]).alloc (.cells #[.int .i64 (b1:Int),.int .i64 (b2:Int),.int .i64 (b3:Int),.int .i64 (b0:Int)] 97);have k1:=Blk.new (w.alloc (.cells #[.int .i64 (a1:Int),.int .i64 (a2:Int),.int .i64 (a3:Int),.int .i64 (a0:Int)] 97)) 97 #[.int .i64 (b1:Int),.int .i64 (b2:Int),.int .i64 (b3:Int),.int .i64 (b0:Int)];simp only[World.size_alloc] at k1
 have HK:=aI2 k0 k1;have hg:∀o,Sort.grow (w.drewN 1) #[.cells #[.int .i64 (a1:Int),.int .i64 (a2:Int),.int .i64 (a3:Int),.int .i64 (a0:Int)] 97,.cells #[.int .i64 (b1:Int),.int .i64 (b2:Int),.int .i64 (b3:Int),.int .i64 (b0:Int)] 97,o]=((w.alloc (.cells #[.int .i64 (a1:Int),.int .i64 (a2:Int),.int .i64 (a3:Int),.int .i64 (a0:Int)] 97)).alloc (.cells #[.int .i64 (b1:Int),.int .i64 (b2:Int),.int .i64 (b3:Int),.int .i64 (b0:Int)] 97)).drew.alloc o:=fun o=>by
  rw[Sort.alloc_eq_grow,Sort.alloc_eq_grow,Sort.alloc_eq_grow,Sort.grow_grow,Sort.drew_grow,Sort.grow_grow];rfl
 have HG:=hIz hg;clear k0 k1 hg;go_enter Tryz.func59,Tryz.ntmps59;go_upto_region 1 with (fail);generalize (w.alloc (.cells #[.int .i64 (a1:Int),.int .i64 (a2:Int),.int .i64 (a3:Int),.int .i64 (a0:Int)] 97)).alloc (.cells #[.int .i64 (b1:Int),.int .i64 (b2:Int),.int .i64 (b3:Int),.int .i64 (b0:Int)] 97)=W0 at HK HG ⊢;have c00:W0.cell? ⟨w.heap.size,3,none⟩=some (.int .i64 (a0:Int)):=HK.out.1.cell 3;have c01:W0.cell? ⟨w.heap.size,0,none⟩=some (.int .i64 (a1:Int)):=HK.out.1.cell 0;have c02:W0.cell? ⟨w.heap.size,1,none⟩=some (.int .i64 (a2:Int)):=HK.out.1.cell 1;have c03:W0.cell? ⟨w.heap.size,2,none⟩=some (.int .i64 (a3:Int)):=HK.out.1.cell 2;have c10:W0.cell? ⟨w.heap.size+1,3,none⟩=some (.int .i64 (b0:Int)):=HK.out.2.cell 3;have c11:W0.cell? ⟨w.heap.size+1,0,none⟩=some (.int .i64 (b1:Int)):=HK.out.2.cell 0;have c12:W0.cell? ⟨w.heap.size+1,1,none⟩=some (.int .i64 (b2:Int)):=HK.out.2.cell 1;have c13:W0.cell? ⟨w.heap.size+1,2,none⟩=some (.int .i64 (b3:Int)):=HK.out.2.cell 2;refine aT (fun w'=>w'.cell? ⟨w.heap.size,3,none⟩=some (.int .i64 (a0:Int))∧w'.cell? ⟨w.heap.size,0,none⟩=some (.int .i64 (a1:Int))∧w'.cell? ⟨w.heap.size,1,none⟩=some (.int .i64 (a2:Int))∧w'.cell? ⟨w.heap.size,2,none⟩=some (.int .i64 (a3:Int))∧w'.cell? ⟨w.heap.size+1,3,none⟩=some (.int .i64 (b0:Int))∧w'.cell? ⟨w.heap.size+1,0,none⟩=some (.int .i64 (b1:Int))∧w'.cell? ⟨w.heap.size+1,1,none⟩=some (.int .i64 (b2:Int))∧w'.cell? ⟨w.heap.size+1,2,none⟩=some (.int .i64 (b3:Int))) 29
  [(0,true),(1,true),(2,true),(3,true),(5,true),(6,true),(7,true),(8,true),(9,true),(10,true),(12,true),(13,true),(14,true),(15,true),(16,true),(17,true),(19,true),(20,true),(21,true),(22,true),(23,true),(24,true),(4,false),(11,false),(18,false),(25,false),(26,false),(27,false),(28,true)] (by kernel_rfl) (by kernel_rfl) (fun _ _ d _ _ h=>by cases d <;> exact h) ⟨c00,c01,c02,c03,c10,c11,c12,c13⟩ ?_
 iterate 22 refine aC rfl ?_
 refine aM rfl rfl (fun K hK=>?_);go_simp;refine(H0 _).mono ?_;rintro e w1 ⟨rfl,rfl⟩;refine hK _ _ (fun _=>⟨c00,c01,c02,c03,c10,c11,c12,c13⟩) ?_;clear hK K;(try simp only[Act.put,gA,gS,gZ,sA,sZ,sS])
 refine aM rfl rfl (fun K hK=>?_);go_simp;refine(H1 _).mono ?_;rintro e w1 ⟨rfl,rfl⟩;refine hK _ _ (fun _=>⟨c00,c01,c02,c03,c10,c11,c12,c13⟩) ?_;clear hK K;(try simp only[Act.put,gA,gS,gZ,sA,sZ,sS])
 refine aM rfl rfl (fun K hK=>?_);go_simp;refine(H2 _).mono ?_;rintro e w1 ⟨rfl,rfl⟩;refine hK _ _ (fun _=>⟨c00,c01,c02,c03,c10,c11,c12,c13⟩) ?_;clear hK K;(try simp only[Act.put,gA,gS,gZ,sA,sZ,sS])
 refine aM rfl rfl (fun K hK=>?_);go_simp;refine(H3 _).mono ?_;rintro e w1 ⟨rfl,rfl⟩;refine hK _ _ (fun _=>⟨c00,c01,c02,c03,c10,c11,c12,c13⟩) ?_;clear hK K;(try simp only[Act.put,gA,gS,gZ,sA,sZ,sS])
 have bA:Below W0.heap.size W0 (W0.drew.alloc (.cells #[.int .i64 v0,.int .i64 v1,.int .i64 v2,.int .i64 v3] 3)):=by(repeat (first | exact Below.refl _ _ | apply Below.drew | refine Below.alloc ?_ (by first | exact Nat.le_refl _ | (simp;done) | (simp;omega)) _ | refine Below.setCell ?_ (by first | exact Nat.le_refl _ | (simp;done) | (simp;omega)) _))
 have up:∀w',Below W0.heap.size W0 w'→w'.cell? ⟨w.heap.size,3,none⟩=some (.int .i64 (a0:Int))∧w'.cell? ⟨w.heap.size,0,none⟩=some (.int .i64 (a1:Int))∧w'.cell? ⟨w.heap.size,1,none⟩=some (.int .i64 (a2:Int))∧w'.cell? ⟨w.heap.size,2,none⟩=some (.int .i64 (a3:Int))∧w'.cell? ⟨w.heap.size+1,3,none⟩=some (.int .i64 (b0:Int))∧w'.cell? ⟨w.heap.size+1,0,none⟩=some (.int .i64 (b1:Int))∧w'.cell? ⟨w.heap.size+1,1,none⟩=some (.int .i64 (b2:Int))∧w'.cell? ⟨w.heap.size+1,2,none⟩=some (.int .i64 (b3:Int)):=fun w' hb=>by
  have u:=Upd.of_below hb (fun _=>False);have h1:=HK.out.1.upd u id;have h2:=HK.out.2.upd u id;exact⟨h1.cell 3,h1.cell 0,h1.cell 1,h1.cell 2,h2.cell 3,h2.cell 0,h2.cell 1,h2.cell 2⟩
 have SA:=hIz (up _ bA);have kA:=Blk.new W0.drew 3 #[.int .i64 v0,.int .i64 v1,.int .i64 v2,.int .i64 v3];have HA:=hIz (PN _ _ v0 v1 v2 v3 kA);clear up bA kA;refine aM rfl rfl (fun K hK=>?_);go_simp;refine hK _ _ (fun _=>SA.out) ?_;clear hK K;(try simp only[Act.put,gA,gS,gZ,sA,sZ,sS])
 refine aM rfl rfl (fun K hK=>?_);go_simp;refine HA.out.mono ?_;rintro e w1 ⟨rfl,rfl⟩;refine hK _ _ (fun _=>SA.out) ?_;clear hK K;(try simp only[Act.put,gA,gS,gZ,sA,sZ,sS])
 refine aC rfl ?_;refine aG ?_;go_wp2;go_ret;exact⟨rfl,1,_,(HG.out _).symm⟩
theorem FJ(d:Array Ln):(flatK lnC 4 d).toList=bP d.toList:=by
 apply List.ext_getElem?
 intro j;by_cases hj:j<d.size*4
 ·have hi:j / 4<d.size:=Nat.div_lt_of_lt_mul (by omega);have hm:j % 4<4:=Nat.mod_lt _ (by decide);have hjd:j / 4*4+j % 4=j:=by omega
  have h2:=cO lnC 4 (fun _=>rfl) d.toList (j / 4) (j % 4) d[j / 4]! (by rw[Array.getElem?_toList,getElem!_pos d _ hi,Array.getElem?_eq_getElem hi]) hm;rw[hjd] at h2;show _=(d.toList.flatMap lnC)[j]?
  rw[h2];have h3:=get_flatK lnC 4 d j hj;have h4:j<(flatK lnC 4 d).size:=by rw[size_flatK];exact hj
  rw[Array.getElem?_toList,Array.getElem?_eq_getElem h4,← getElem!_pos (flatK lnC 4 d) j h4,h3];have h5:j % 4<(lnC d[j / 4]!).length:=hm;rw[gEz h5,getElem!_pos (lnC d[j / 4]!) _ h5]
 ·rw[List.getElem?_eq_none (by rw[Array.length_toList,size_flatK];omega),List.getElem?_eq_none (by rw[oW,Array.length_toList];omega)]
theorem LF(w:World)(base g cap:Nat)(L:List Ln)(h:w.ownsRow base 97 4 (.slice (some ⟨g,0,none⟩) L.length cap) L.length (bP L))(hl:L.length≤140737488355328) :
  Calls Tryz.prog 58 #[.slice (some ⟨g,0,none⟩) L.length cap,.func (.func 59) #[] #[]] w fun e w'=>e=.returned (.tuple #[])∧∃d:Array Ln,nP mU L d∧w'.ownsRow base 97 4 (.slice (some ⟨g,0,none⟩) L.length cap) L.length (bP d.toList)∧Upd (fun q=>q=g) w w':=by
 have eg:∀args w,(callFunc 59 args).run Tryz.prog w=.ok (.enter 59 args) w:=enters_of Tryz.func59 (by kernel_rfl) rfl;have hcmp:CmpLays Tryz.prog 59 #[] lnC 4 IA g 0 L.toArray.size w:=fun m os dk _ x y=>(yT x y _).mono fun e w' hh=>hh
 have hHo:w.ownsRow base 97 4 (.slice (some ⟨g,0,none⟩) L.length cap) L.length ((flatK lnC 4 L.toArray).toList.map id):=by rw[List.map_id,FJ];exact h
 have hH:HoldsK lnC 4 w g 0 L.toArray:=jB hHo;have hg:=(h.lt g rfl).2;have hcon:=AnyQ.slices_SortFunc RW 4 (fun w=>Tryz.isAgg97 w) (fun w=>Tryz.sizeOf97 w) lnC (fun _=>rfl) (fun x v hv=>by simp[lnC] at hv;rcases hv with rfl | rfl | rfl | rfl <;> rfl) IA SD 59 #[] g 0 cap L.toArray w eg hcmp hH hg (by simp;omega);change Calls Tryz.prog 58 _ _ _ at hcon
 rw[show L.toArray.size=L.length from by simp] at hcon;refine hcon.mono ?_;rintro e w' ⟨rfl,d',n,os,hp,hs,rfl⟩;have hlt:ltOf IA=mU:=by funext x y;exact wR x y
 rw[hlt] at hs;have ho:=nP.of (L:=L) (by simpa using hp) (by simpa using hs);have key:=nN (enc:=id) (m:=n) (os:=os) h (flatK lnC 4 d') (by rw[size_flatK,ho.n]);rw[List.map_id,FJ] at key;exact⟨rfl,d',ho,key.1,key.2⟩
end Go.Proofs.YteffnejneoocgaaGreatDoor
