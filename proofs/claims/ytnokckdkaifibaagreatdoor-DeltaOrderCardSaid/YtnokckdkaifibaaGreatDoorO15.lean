/- delta: facts gathered in a list while cells are ranged over; what a round of grow leaves (plain); delta: Facts, Pairs of a closure. (Written by mkDlU.py.); slices.Values of facts, as an iterator; layer 23's laws: without a closure (look, asked); New without a graph; delta: the memory of grow; layer 23's laws: small, a grammar of the law's own; layer 23's laws: the closure of the law's own grammar over its own graph: plain. -/
import Derived.Test.YtnokckdkaifibaaGreatDoorO13
import Derived.Test.YtnokckdkaifibaaGreatDoorO14
import Derived.Test.YtnokckdkaifibaaGreatDoorO07
import Derived.Deep.LoopGhost
import Derived.Shelf.Abstract
import Derived.Test.YtnokckdkaifibaaGreatDoorO08
import Derived.Test.YtnokckdkaifibaaGreatDoorO09
set_option linter.unusedVariables false
set_option linter.unusedSimpArgs false
set_option maxHeartbeats 16000000
set_option maxRecDepth 100000
namespace Go.Proofs.YtnokckdkaifibaaGreatDoor
open Go.RowKit Go.Shelf
def tO(B:aX):Nat→Nat→List (Nat × Nat × Nat)
 | _,0=>[]
 | k,n+1=>(qcL (B k)).map (fun y=>(k,y))++tO B (k+1) n
def iE(B:aX)(nts:Nat):List (Nat × Nat × Nat):=tO B 0 nts
theorem wA(B:aX):∀(n k:Nat),tO B k (n+1)=tO B k n++(qcL (B (k+n))).map (fun y=>(k+n,y))
 | 0,k=>by simp[tO]
 | n+1,k=>by
  rw[tO,wA B n (k+1),tO,List.append_assoc,show k+1+n=k+(n+1) by omega]
theorem mK(B:aX)(n:Nat):iE B (n+1)=iE B n++(qcL (B n)).map (fun y=>(n,y)):=by
 unfold iE;rw[wA,Nat.zero_add]
theorem tP(B:aX):∀(n k:Nat) (x:Nat × Nat × Nat),x∈tO B k n↔k≤x.1∧x.1<k+n∧x.2∈qcL (B x.1)
 | 0,k,x=>by simp[tO];omega
 | n+1,k,x=>by
  rw[tO,List.mem_append,tP B n (k+1) x,List.mem_map];constructor
  ·rintro (⟨y,hy,rfl⟩|⟨h1,h2,h3⟩)
   ·exact⟨Nat.le_refl _,by show k<_;omega,hy⟩
   ·exact⟨by omega,by omega,h3⟩
  ·rintro⟨h1,h2,h3⟩;by_cases e:x.1=k
   ·exact .inl ⟨x.2,by rw[← e];exact h3,by rw[← e]⟩
   ·exact .inr ⟨by omega,by omega,h3⟩
theorem nY{B:aX}{nts:Nat}(hw:∀k,k<nts→Wd (bX (B k))){k i j:Nat}:(k,i,j)∈iE B nts↔k<nts∧i<64∧j<64∧aY (B k) i j=true:=by
 unfold iE;rw[tP];constructor
 ·rintro⟨-,h2,h3⟩;have h2:k<nts:=by simpa using h2
  exact⟨h2,(sU (hw k h2)).1 h3⟩
 ·rintro⟨h2,h3⟩;exact⟨Nat.zero_le _,by simpa using h2,(sU (hw k h2)).2 h3⟩
theorem nZ(B:aX):∀(n k:Nat),(∀j,k≤j→j<k+n→Wd (bX (B j)))→(tO B k n).length≤n*4096
 | 0,k,_=>by simp[tO]
 | n+1,k,h=>by
  rw[tO,List.length_append,List.length_map,sV];have h1:=gW (h k (Nat.le_refl _) (by omega));have h2:=nZ B n (k+1) (fun j a b=>h j (by omega) (by omega));omega
theorem pV{b:Option (List Nat)}(hw:Wd (bX b)){x:Nat × Nat}(hx:x∈qcL b):x.1<64∧x.2<64:=by
 obtain⟨i,j⟩:=x;have:=(sU hw).1 hx;exact⟨this.1,this.2.1⟩

theorem iO{w w':World}{base e size n:Nat}{v:Value}{xs:List Value}{row:Option Nat}(h:w.ownsRow base e size v n xs)(hg:w.grownBy w' row)(hn:∀q,v.ownBlock=some q→row≠some q):w'.ownsRow base e size v n xs:=by
 have hu:=Upd.of_grown hg;refine aB h hu (fun k hk e=>hn k hk e)
theorem NS{lb:Nat}{F:Nat→Prop}{A B:World}{v v':Value}(ha:A.cell? ⟨lb,0,none⟩=some v)(hb:B.cell? ⟨lb,0,none⟩=some v')(hu:Upd (fun q=>F q∨v.ownBlock=some q) A B)(hl:∀q,v'.ownBlock=some q→q<B.heap.size)(pl:∀k,v'.ownBlock=some k→v.ownBlock=some k∨A.heap.size≤k):KpM lb F A B:=by
 intro _;refine⟨hu.mono (fun i _ h=>h.imp id (fun h=>⟨v,ha,h⟩)),fun u q h1 h2=>?_⟩;rw[hb] at h1;injection h1 with e;subst e;refine⟨hl q h2,fun hlt=>⟨v,ha,?_⟩⟩;rcases pl q h2 with h|h
 ·exact h
 ·omega
structure LsB(W:World)(base lb:Nat)(L:List (Nat × Nat × Nat))(v:Value):Prop where
 b:Blk W lb 35 #[v]
 own:W.ownsRow base 25 3 v L.length (cR L)
 ne:v.ownBlock≠some lb
section
variable {W W':World} {base lb:Nat} {L:List (Nat × Nat × Nat)} {v:Value} {F:Nat→Prop}
theorem LsB.rg(h:LsB W base lb L v):RgM lb W:=fun u q hu hq=>by
 have:=h.b.cell 0;simp only[List.getElem?_toArray,List.getElem?_cons_zero] at this
 rw[this] at hu;injection hu with e;subst e;exact(h.own.lt q hq).2
theorem LsB.is(h:LsB W base lb L v){u:Value}(hu:W.cell? ⟨lb,0,none⟩=some u):u=v:=by
 have:=h.b.cell 0;simp only[List.getElem?_toArray,List.getElem?_cons_zero] at this
 rw[this] at hu;injection hu with e;exact e.symm
theorem LsB.grown{row:Option Nat}(h:LsB W base lb L v)(hF:F lb)(hg:W.grownBy W' row)(hr:∀k,row=some k→Prv lb F W k):LsB W' base lb L v:=
 ⟨h.b.grown hg (fun e=>(hr lb e.symm).2 (.inl hF)),iO h.own hg (fun q hq e=>(hr q e).2 (.inr ⟨v,h.b.cell 0,hq⟩)),h.ne⟩
theorem LsB.upd{R:Nat→Prop}(h:LsB W base lb L v)(hu:Upd R W W')(h1:¬R lb)(h2:∀q,v.ownBlock=some q→¬R q):LsB W' base lb L v:=⟨h.b.upd hu h1,aB h.own hu h2,h.ne⟩
theorem LsB.below(h:LsB W base lb L v)(hb:Below W.heap.size W W'):LsB W' base lb L v:=h.upd (upF hb) id (fun _ _=>id)
theorem LsB.step(h:LsB W base lb L v)(hB:base≤W.heap.size)(m:Nat × Nat × Nat)(hl:(L.length+1)*24≤140737488355328)(hF:F lb) :
  ∃v' W1,(Builtin.append_ #[35,35] 35 #[v,.slice (some ⟨W.heap.size,0,none⟩) 1 1]).run Tryz.prog (W.alloc (.cells #[.int .i64 (m.1:Int),.int .i64 (m.2.1:Int),.int .i64 (m.2.2:Int)] 25))=.ok v' W1 ∧
   Blk W1 lb 35 #[v]∧LsB (W1.setCell ⟨lb,0,none⟩ v') base lb (L++[m]) v'∧KpM lb F W (W1.setCell ⟨lb,0,none⟩ v')∧(∀k,v'.ownBlock=some k→v.ownBlock=some k∨W.heap.size≤k)∧Upd (fun q=>q=lb∨v.ownBlock=some q) W (W1.setCell ⟨lb,0,none⟩ v'):=by
 obtain⟨v',W1,h1,h2,h4,h5,h6,h7,h8⟩:=GT W base lb v L m h.b h.own h.ne hl hB;exact⟨v',W1,h1,h2,⟨h4,h5,h6⟩,NS (h.b.cell 0) (h4.cell 0) (h7.mono (fun i _ h=>h.imp (fun e=>by subst e;exact hF) id)) (fun q hq=>(h5.lt q hq).2) h8,h8,h7⟩
end
structure GnI(W:World)(base gb sb:Nat)(L:List (Nat × Nat × Nat))(v:Value)(b:Bool):Prop where
 l:LsB W base gb L v
 s:Blk W sb 4 #[.bool b]
 ns:v.ownBlock≠some sb
 d:gb≠sb
theorem GnI.grown{W W':World}{base gb sb:Nat}{L:List (Nat × Nat × Nat)}{v:Value}{b:Bool}{F:Nat→Prop}{row:Option Nat}(h:GnI W base gb sb L v b)(hF:F gb)(hS:F sb)(hg:W.grownBy W' row)(hr:∀k,row=some k→Prv gb F W k):GnI W' base gb sb L v b:=
 ⟨h.l.grown hF hg hr,h.s.grown hg (fun e=>(hr sb e.symm).2 (.inl hS)),h.ns,h.d⟩
theorem GnI.upd{W W':World}{base gb sb:Nat}{L:List (Nat × Nat × Nat)}{v:Value}{b:Bool}{R:Nat→Prop}(h:GnI W base gb sb L v b)(hu:Upd R W W')(h1:¬R gb)(h2:¬R sb)(h3:∀q,v.ownBlock=some q→¬R q):GnI W' base gb sb L v b:=
 ⟨h.l.upd hu h1 h3,h.s.upd hu h2,h.ns,h.d⟩
theorem GnI.below{W W':World}{base gb sb:Nat}{L:List (Nat × Nat × Nat)}{v:Value}{b:Bool}(h:GnI W base gb sb L v b)(hb:Below W.heap.size W W'):GnI W' base gb sb L v b:=h.upd (upF hb) id id (fun _ _=>id)
theorem GnI.step{W:World}{base gb sb:Nat}{L:List (Nat × Nat × Nat)}{v:Value}{b:Bool}(h:GnI W base gb sb L v b)(hB:base≤W.heap.size)(m:Nat × Nat × Nat)(hl:(L.length+1)*24≤140737488355328) :
  ∃v' W1,(Builtin.append_ #[35,35] 35 #[v,.slice (some ⟨W.heap.size,0,none⟩) 1 1]).run Tryz.prog (W.alloc (.cells #[.int .i64 (m.1:Int),.int .i64 (m.2.1:Int),.int .i64 (m.2.2:Int)] 25))=.ok v' W1 ∧
   Blk W1 gb 35 #[v]∧Blk (W1.setCell ⟨gb,0,none⟩ v') sb 4 #[.bool b]∧GnI ((W1.setCell ⟨gb,0,none⟩ v').setCell ⟨sb,0,none⟩ (.bool true)) base gb sb (L++[m]) v' true∧KpM gb (fun q=>q=gb∨q=sb) W ((W1.setCell ⟨gb,0,none⟩ v').setCell ⟨sb,0,none⟩ (.bool true)):=by
 obtain⟨v',W1,h1,h2,h3,h4,h5,h6⟩:=h.l.step (F:=fun q=>q=gb∨q=sb) hB m hl (.inl rfl);have ks:=h.s.upd h6 (fun e=>e.elim (fun e=>h.d e.symm) h.ns);have hns:v'.ownBlock≠some sb:=fun e=>(h5 sb e).elim h.ns (fun hge=>by have:=h.s.lt;omega)
 have us:Upd (fun q=>q=sb) (W1.setCell ⟨gb,0,none⟩ v') ((W1.setCell ⟨gb,0,none⟩ v').setCell ⟨sb,0,none⟩ (.bool true)):=(Upd.refl (fun q=>q=sb) _).setCell (p:=⟨sb,0,none⟩) (.inl rfl) _;have h3':=h3.upd us h.d (fun q hq e=>hns (by rw[hq,e]));refine⟨v',W1,h1,h2,ks,⟨h3',ks.set 0 (.bool true),hns,h.d⟩,NS (h.l.b.cell 0) (h3'.b.cell 0) ((h6.mono (F':=fun q=>(q=gb∨q=sb)∨v.ownBlock=some q) (fun i _ h=>h.imp .inl id)).trans us (fun i e=>.inl (.inl (.inr e)))) (fun q hq=>(h3'.own.lt q hq).2) h5⟩

def stT(T f:aX)(k:Nat):aX:=fun j=>if j<k then joinQ (T j) (lessQ (f j) (T j)) else T j
def stN(T f:aX)(k:Nat):aX:=fun j=>if j<k then lessQ (f j) (T j) else f j
def lsM(T f:aX):aX:=fun j=>lessQ (f j) (T j)
theorem wB(T f:aX)(k:Nat):stT T f k k=T k:=if_neg (Nat.lt_irrefl _)
theorem TB(T f:aX)(k:Nat):stN T f k k=f k:=if_neg (Nat.lt_irrefl _)
theorem tQ(T f:aX):stT T f 0=T:=by funext j;exact if_neg (Nat.not_lt_zero _)
theorem MK(T f:aX):stN T f 0=f:=by funext j;exact if_neg (Nat.not_lt_zero _)
theorem zL(T f:aX)(k:Nat):upM (stT T f k) k (joinQ (T k) (lessQ (f k) (T k)))=stT T f (k+1):=by
 funext j
 unfold upM stT;by_cases e:j=k
 ·subst e;rw[if_pos rfl,if_pos (by omega)]
 ·rw[if_neg e];by_cases h:j<k
  ·rw[if_pos h,if_pos (by omega)]
  ·rw[if_neg h,if_neg (by omega)]
theorem ML(T f:aX)(k:Nat):upM (stN T f k) k (lessQ (f k) (T k))=stN T f (k+1):=by
 funext j
 unfold upM stN;by_cases e:j=k
 ·subst e;rw[if_pos rfl,if_pos (by omega)]
 ·rw[if_neg e];by_cases h:j<k
  ·rw[if_pos h,if_pos (by omega)]
  ·rw[if_neg h,if_neg (by omega)]
theorem zM{T f:aX}(hT:∀k,WdO (T k))(hf:∀k,WdO (f k))(k j:Nat):WdO (stT T f k j):=by
 unfold stT;split
 ·exact(hT j).joinQ ((hf j).lessQ (hT j))
 ·exact hT j
theorem iB.len{nts:Nat}{T0 T:aX}{G:List (Nat × Nat × Nat)}(h:iB nts T0 T G)(hT:∀k,WdO (T k)):G.length≤nts*4096:=by
 have h1:G.length≤(iE T nts).length:=fH h.nd (fun x hx=>by
  obtain⟨k,i,j⟩:=x;obtain⟨h1,h2,-⟩:=(h.mem _).1 hx;exact(nY (fun k _=>(hT k).old)).2 ⟨h1,cM (hT _) h2,fP (hT _) h2,h2⟩)
 have h2:=nZ T nts 0 (fun j _ _=>(hT j).old);exact Nat.le_trans h1 h2
structure GwP(nts:Nat)(T0 T f:aX)(G:List (Nat × Nat × Nat))(k:Nat)(b:Bool):Prop where
 g:iB nts T0 (stT T f k) (G++iE (lsM T f) k)
 sub:∀a i j,aY (T0 a) i j=true→aY (stT T f k a) i j=true
 b:b=true↔iE (lsM T f) k≠[]
theorem GwP.start{nts:Nat}{T0 T f:aX}{G:List (Nat × Nat × Nat)}(h:iB nts T0 T G)(hs:∀a i j,aY (T0 a) i j=true→aY (T a) i j=true):GwP nts T0 T f G 0 false:=by
 refine⟨?_,?_,?_⟩
 ·rw[tQ];simpa[iE,tO] using h
 ·rw[tQ];exact hs
 ·simp[iE,tO]
theorem GwP.step{nts:Nat}{T0 T f:aX}{G:List (Nat × Nat × Nat)}{k:Nat}{b:Bool}(h:GwP nts T0 T f G k b)(hk:k<nts)(hT:∀k,WdO (T k))(hf:∀k,WdO (f k)):GwP nts T0 T f G (k+1) (b||!(qcL (lsM T f k)).isEmpty):=by
 have h2:=h.g.step (N:=lsM T f k) (f:=f k) h.sub hk (by rw[wB];exact hT k) (by rw[wB];exact mI (hf k) (hT k));rw[wB] at h2;rw[show upM (stT T f k) k (joinQ (T k) (lsM T f k))=stT T f (k+1) from zL T f k] at h2;refine⟨?_,h2.2,?_⟩
 ·rw[mK,← List.append_assoc];exact h2.1
 ·rw[mK,Bool.or_eq_true,h.b];cases hq:qcL (lsM T f k) with
  | nil=>simp
  | cons y l=>simp
theorem QL{T f:aX}{nts:Nat}(hT:∀k,WdO (T k))(hf:∀k,WdO (f k))(h:iE (lsM T f) nts=[]):∀k,k<nts→∀i j,aY (f k) i j=true→aY (T k) i j=true:=by
 intro k hk i j hb;cases hc:aY (T k) i j with
 | true=>rfl
 | false =>
  have hl:=mI (hf k) (hT k);have h1:=(hl.2 i j).2 ⟨hb,hc⟩;have:=(nY (B:=lsM T f) (nts:=nts) (fun k _=>((hf k).lessQ (hT k)).old) (k:=k) (i:=i) (j:=j)).2 ⟨hk,cM hl.1 h1,fP hl.1 h1,h1⟩;rw[h] at this;cases this
theorem BR{T f:aX}{nts:Nat}(hT:∀k,WdO (T k))(hf:∀k,WdO (f k))(h:iE (lsM T f) nts≠[]):qB (stT T f nts) nts<qB T nts:=by
 obtain⟨x,hx⟩:=List.exists_mem_of_ne_nil _ h;obtain⟨k,i,j⟩:=x;obtain⟨hk,-,-,hb⟩:=(nY (fun k _=>((hf k).lessQ (hT k)).old)).1 hx;have hl:=mI (hf k) (hT k);have h0:=((hl.2 i j).1 hb).2;have hm:dR (T k) (lessQ (f k) (T k))=true:=by
  cases hm:dR (T k) (lessQ (f k) (T k)) with
  | true=>rfl
  | false =>
   have:=mE (hT k) hl.1 hm hb;rw[h0] at this;cases this
 have hlt:=vS (hT k) hl.1 hm;have h4:=gW ((hT k).joinQ hl.1).old;refine xR (a:=k) (fun a ha=>?_) hk ?_
 ·unfold stT;rw[if_pos ha];have:=GH (hT a) ((hf a).lessQ (hT a));omega
 ·unfold stT;rw[if_pos hk];omega
theorem IG{T f:aX}(hT:∀k,WdO (T k))(hf:∀k,WdO (f k)){nts k:Nat}(hk:k<nts):kQ (T k) (f k) (stT T f nts k):=by
 have hl:=mI (hf k) (hT k);unfold stT;rw[if_pos hk];have hj:=kQ.joinQ (hT k) hl.1;refine⟨hj.1,fun i j=>?_⟩;rw[hj.2,hl.2];constructor
 ·rintro (h|h)
  ·exact .inl h
  ·exact .inr h.1
 ·rintro (h|h)
  ·exact .inl h
  ·cases hc:aY (T k) i j with
   | true=>exact .inl rfl
   | false=>exact .inr ⟨h,rfl⟩
open Go.RowKit Go.Shelf
attribute [local go_sem] Oper.semAt_some
structure FsS(w W:World)(gb:Nat)(L:List (Nat × Nat × Nat))(v:Value)(Ds:List Nat):Prop where
 bl:Below w.heap.size w W
 l:LsB W w.heap.size gb L v
 g0:w.heap.size=gb
 nd:Ds.Nodup
 ds:∀D∈Ds,w.heap.size<D∧D<W.heap.size∧D≠gb∧v.ownBlock≠some D∧W.heap[D]?=some (.deferred (some []))
section
variable {w W W':World} {gb:Nat} {L:List (Nat × Nat × Nat)} {v:Value} {Ds:List Nat}
theorem FsS.below(h:FsS w W gb L v Ds)(hb:Below W.heap.size W W'):FsS w W' gb L v Ds:=
 ⟨tHn h.bl hb,h.l.below hb,h.g0,h.nd,fun D hD=>by
  obtain⟨h1,h2,h3,h4,h5⟩:=h.ds D hD;exact⟨h1,Nat.lt_of_lt_of_le h2 hb.size,h3,h4,((upF hb).block D h2 id).trans h5⟩⟩
theorem FsS.range(h:FsS w W gb L v Ds)(kp:KpM gb (fun q=>q=gb) W W'){L':List (Nat × Nat × Nat)}{v':Value}(hl:LsB W' w.heap.size gb L' v')
  (pD:Prv gb (fun q=>q=gb) W' W.heap.size) (hD:W'.heap[W.heap.size]?=some (.deferred (some []))):FsS w W' gb L' v' (W.heap.size::Ds):=by
 have rg:=h.l.rg;have hg0:=h.g0;have alw:∀q,TP gb (fun q=>q=gb) W q→w.heap.size≤q:=fun q hq=>by
  rcases hq with rfl|⟨u,hu,ho⟩
  ·omega
  ·obtain rfl:=h.l.is hu;exact(h.l.own.lt q ho).1
 obtain⟨hu,hr⟩:=kp rg;have hws:=h.bl.size;have prv:∀D∈Ds,Prv gb (fun q=>q=gb) W D:=fun D hD=>by
  obtain⟨h1,h2,h3,h4,h5⟩:=h.ds D hD;refine⟨h2,?_⟩;rintro (e|⟨u,hu,ho⟩)
  ·exact h3 e
  ·obtain rfl:=h.l.is hu;exact h4 ho
 have out:∀D,Prv gb (fun q=>q=gb) W' D→D≠gb∧v'.ownBlock≠some D:=fun D hp=>⟨fun e=>hp.2 (.inl e),fun e=>hp.2 (.inr ⟨v',hl.b.cell 0,e⟩)⟩
 refine⟨h.bl.trans (hu.below (fun q _ hq=>alw q hq) hws),hl,h.g0,?_,fun D hD'=>?_⟩
 ·rw[List.nodup_cons];exact⟨fun hm=>by have:=(h.ds _ hm).2.1;omega,h.nd⟩
 ·rcases List.mem_cons.1 hD' with rfl|hm
  ·have hgl:=h.l.b.lt;exact⟨by omega,pD.1,(out _ pD).1,(out _ pD).2,hD⟩
  ·obtain⟨h1,h2,h3,h4,h5⟩:=h.ds D hm;have h8:=kp.prv rg (prv D hm);exact⟨h1,h8.2.1,(out _ h8.2).1,(out _ h8.2).2,h8.1.trans h5⟩
end
def FsC(W4:World)(base gb k:Nat)(L:List (Nat × Nat × Nat))(pre:List {x:Nat × Nat // x.1<64∧x.2<64})(V:World):Prop:=(∃v,LsB V base gb (L++(pre.map (·.1)).map (fun y=>(k,y))) v)∧KpM gb (fun q=>q=gb) W4 V
theorem FsC.own{W4:World}{base gb k:Nat}{L:List (Nat × Nat × Nat)}(hl:gb<W4.heap.size)(r:RgM gb W4):jN gb (fun q=>q=gb) W4.heap.size (FsC W4 base gb k L):=by
 rintro s X Y row ⟨⟨v,h⟩,hk⟩ hg hr;exact⟨⟨v,h.grown (F:=fun q=>q=gb) rfl hg (fun k hk=>(hr k hk).2)⟩,kI (β:=Unit) (Nat.le_refl _) hl r () X Y row hk hg hr⟩
theorem LsB.rowN{W:World}{base lb:Nat}{L:List (Nat × Nat × Nat)}{v:Value}(h:LsB W base lb L v){Own:Nat→Prop}(ho:∀q,v.ownBlock=some q→¬Own q):∀u q,W.cell? ⟨lb,0,none⟩=some u→u.ownBlock=some q→¬Own q:=fun u q hu hq=>by
 obtain rfl:=h.is hu;exact ho q hq
def FsQ(w:World)(L:List (Nat × Nat × Nat))(e:Ending)(w':World):Prop:=∃g A c,w.heap.size<g∧e=.returned (TT g)∧Blk w' g 35 #[.slice A L.length c]∧w'.ownsRow w.heap.size 25 3 (.slice A L.length c) L.length (cR L)∧(Value.slice A L.length c).ownBlock≠some g∧Below w.heap.size w w'
def FsE(w w1:World)(gb g:Nat)(A:Option Addr)(c:Nat)(L:List (Nat × Nat × Nat)):Prop:=LsB w1 w.heap.size gb L (.slice A L.length c)∧Blk w1 g 35 #[.slice A L.length c]∧Below w.heap.size w w1
theorem FsE.own{w:World}{gb g:Nat}{A:Option Addr}{c:Nat}{L:List (Nat × Nat × Nat)}(hg:gb=w.heap.size):jN gb (fun q=>q=g) (w.heap.size+1) (fun (_:Unit) w1=>FsE w w1 gb g A c L):=by
 rintro s X Y row ⟨h1,h2,h3⟩ hgr hr;have n1:∀r,row=some r→r≠gb∧(Value.slice A L.length c).ownBlock≠some r∧r≠g:=fun r e=>by
  obtain⟨a,b⟩:=hr r e;exact⟨by omega,fun ho=>b.2 (.inr ⟨_,h1.b.cell 0,ho⟩),fun e=>b.2 (.inl e)⟩
 exact⟨⟨h1.b.grown hgr (fun e=>(n1 gb e.symm).1 rfl),iO h1.own hgr (fun q hq e=>(n1 q e).2.1 hq),h1.ne⟩,h2.grown hgr (fun e=>(n1 g e.symm).2.2 rfl),h3.grown hgr h3.size (fun r e=>by have:=(hr r e).1;omega)⟩
theorem BS(w:World)(F:Nat→Prop)(p nts:Nat)(P:List Pr)(labels:List Txt)(G:Gr)(T:aX)(h:DcS w F p nts P labels G T)(hT:gI w)(h1:1≤nts)(h5:nts≤512) :
  Calls Tryz.prog 19 #[.pointer (some ⟨p,0,none⟩)] w (FsQ w (iE T nts)):=by
 obtain⟨K,Fg,FT,pc,cl,pg,PA,LA,PV,mv,hi,-,-⟩:=h;obtain⟨gT,cT,-,-,rfl,-⟩:=hi.mt.at_ (k:=0) (by omega);have kg:=Blk.new w 35 #[.slice none 0 0];have b1:Below w.heap.size w (w.alloc (.cells #[.slice none 0 0] 35)):=bR.alloc (Nat.le_refl _) _;have hi1:=hi.below b1;have q3:(w.alloc (.cells #[.slice none 0 0] 35)).cell? ⟨p,3,none⟩=some (.pointer (some ⟨pg,0,none⟩)):=hi1.cp.blk.cell 3;have q4:(w.alloc (.cells #[.slice none 0 0] 35)).cell? ⟨p,4,none⟩=some (.slice (some ⟨gT,0,none⟩) nts cT):=hi1.cp.blk.cell 4;have his:=pU (w.alloc (.cells #[.slice none 0 0] 35)) p pg q3;have HI0:=hIz (show FsS w (w.alloc (.cells #[.slice none 0 0] 35)) w.heap.size (iE T 0) (.slice none 0 0) [] from⟨b1,⟨kg,World.ownsRow_nil _ _ _ _,by simp[Value.ownBlock]⟩,rfl,List.nodup_nil,fun D hD=>by cases hD⟩);have hwd:∀k,k<nts→Wd (bX (T k)):=fun k hk=>by
  obtain⟨g,c,q,Fq,-,-,-,hq,-,-,-⟩:=hi.mt.at_ hk;exact hq.wd
 have H:=aI3 hi hT hwd;clear hi kg b1 hi1 q3 hT hwd;refine(callsIn_wide (n:=1)).1 ?_;refine callsIn_of_wp_marks Tryz.func19 rfl trivial ?_ rfl;simp only[Tryz.ntmps19,List.size_toArray,List.length_cons,List.length_nil,Nat.reduceAdd,Nat.reduceSub,Array.replicate_succ,Array.replicate_zero,List.push_toArray,List.append_toArray,List.nil_append,List.cons_append]
 refine wpIn_wide.2 ?_;go_upto_region 2 with (fail);obtain⟨gb,hgb⟩:∃gb,w.heap.size=gb:=⟨_,rfl⟩;generalize w.alloc (.cells #[.slice none 0 0] 35)=W1 at HI0 his q4 ⊢;rw[hgb] at HI0 ⊢;have HG:=hIz hgb;clear hgb;go_wp2_with fail;refine his.mono ?_;clear his;rintro e V ⟨rfl,hw⟩;subst V;go_wp2;clear q4;refine wp_loop_ghost_k (fun g2 a W=>∃(k:Nat) (v:Value) (Ds:List Nat) (u1 u4 u5 u6 u7 u8 u9 u10 u11 u12 u16 u17 u18 u19 u20 u21 u22 u23 u24 u25 u26 u27 u28 u29 u30 u31 u32 u33:Value),a=⟨#[.pointer (some ⟨p,0,none⟩),u1,.nilFunc,.pointer (some ⟨gb,0,none⟩),u4,u5,u6,u7,u8,u9,u10,u11,u12,.slice (some ⟨gT,0,none⟩) nts cT,.int .i64 (nts:Int),.int .i64 (k:Int),u16,u17,u18,u19,u20,u21,u22,u23,u24,u25,u26,u27,u28,u29,u30,u31,u32,u33],Ds.map (fun D=>{ target:=.collected D,args:=#[] })⟩∧k+g2=nts∧Hid (FsS w W gb (iE T k) v Ds)) nts ⟨0,_,[],_,_,_,_,_,_,_,_,_,_,_,_,_,_,_,_,_,_,_,_,_,_,_,_,_,_,_,_,rfl,Nat.zero_add _,HI0⟩ ?_;clear HI0;rintro g2 a Wr ⟨k,v,Ds,u1,u4,u5,u6,u7,u8,u9,u10,u11,u12,u16,u17,u18,u19,u20,u21,u22,u23,u24,u25,u26,u27,u28,u29,u30,u31,u32,u33,rfl,hkg,hS⟩ J2 K2 hJ2 hK2;by_cases hlt:k<nts
 ·have hltI:(k:Int)<(nts:Int):=by omega
  have hkw:IntKind.i64.wrap ((k:Int)+1)=(k:Int)+1:=IntWalk.i64_in _ (by omega);obtain⟨gT',cT',qT,FqT,e,cT0,-,hqT,-,-,-⟩:=(H.out.1.below hS.out.bl).mt.at_ hlt;injection e with e1 e2 e3;injection e1 with e1;injection e1 with e1;subst e1;subst e3;have k7:=Blk.new Wr 3 #[.int .i64 (k:Int)];have b7:Below Wr.heap.size Wr (Wr.alloc (.cells #[.int .i64 (k:Int)] 3)):=bR.alloc (Nat.le_refl _) _;have hcon:=pB _ FqT qT 32 (T k) (hqT.below b7);have HA:=aI3 (hS.out.below b7) k7 (show v.ownBlock≠some Wr.heap.size∧Wr.heap.size≠gb∧w.heap.size≤Wr.heap.size from⟨fun e=>Nat.lt_irrefl _ (hS.out.l.own.lt _ e).2,by have:=hS.out.l.b.lt;omega,hS.out.bl.size⟩);clear k7 b7 hqT hS;go_upto_region 6 with (fail);clear cT0;generalize hkb:Wr.heap.size=kb at HA ⊢;generalize (Wr.alloc (.cells #[.int .i64 (k:Int)] 3))=W7 at HA hcon ⊢;clear hkb;go_wp2_with fail;refine hcon.mono ?_;clear hcon;rintro e V4 ⟨gq,A4,n4,c4,hgq,rfl,kq,b4,hch⟩;obtain⟨hS7,h7,hn7⟩:=HA.out;have hS4:=hS7.below b4;have u4:=Upd.of_below b4 (fun _=>False);have h74:=h7.upd u4 id;have hwq:=H.out.2.2 k hlt;have hT4:gI V4:=H.out.2.1.upd (Upd.of_below hS4.bl (fun _=>False)) H.out.2.1.lt id;have hQ:∀x∈qcL (T k),x.1<64∧x.2<64:=fun x hx=>pV hwq hx
  have hst:=nL V4 (T k) hwq hT4 gq c4 n4 A4 (fun x=>x.1<64∧x.2<64) (fun _ h=>h) hQ kq W7.heap.size hch;have hOw:∀q',FF gq (T k) (.slice A4 n4 c4) q'→q'<V4.heap.size∧q'≠gb∧v.ownBlock≠some q':=fun q' ho=>by
   have hg0:=hS4.g0;have hgl:=hS7.l.b.lt;rcases ho with rfl|rfl|⟨hs,hq⟩
   ·have:=H.out.2.1.lt;exact⟨hT4.lt,by omega,fun e=>by have:=(hS4.l.own.lt _ e).1;omega⟩
   ·exact⟨kq.lt,by omega,fun e=>by have:=(hS7.l.own.lt _ e).2;omega⟩
   ·have h1:=hch.own hs hq;exact⟨h1.2,by omega,fun e=>by have:=(hS7.l.own.lt _ e).2;omega⟩
  have i0:FsC V4 w.heap.size gb k (iE T k) [] V4:=⟨⟨v,by simpa using hS4.l⟩,KpM.refl _ _ _⟩;have hbd:(iE T k).length≤k*4096:=nZ T k 0 (fun j _ hj=>H.out.2.2 j (by omega));have hql:(qcL (T k)).length≤4096:=by rw[sV];exact gW hwq
  have hpk:Prv gb (fun q=>q=gb) V4 kb:=⟨h74.lt,by
   rintro (e|⟨u,hu,ho⟩)
   ·exact hn7.2.1 e
   ·obtain rfl:=hS4.l.is hu;exact hn7.1 ho⟩
  have HS:=aI8 hst hOw i0 hS4 h74 hpk hbd hql;have hgV4:gb<V4.heap.size:=hS4.l.b.lt;clear hS7 h7 hn7 hS4 u4 h74 hwq hT4 hst hOw i0 kq b4 hch hgq hbd hql hpk;go_wp2;refine jO (gf:=107) (cap:=#[.pointer (some ⟨gq,0,none⟩)]) rfl (enters_of Tryz.func107 (by kernel_rfl) rfl) HS.out.1 bR (fun q hq=>(HS.out.2.1 q hq).1) (fun _=>rfl)
   gb (fun q=>q=gb) hgV4 HS.out.2.2.2.1.l.rg (fun q e=>⟨by omega,fun ho=>(HS.out.2.1 q ho).2.1 e⟩) (HS.out.2.2.2.1.l.rowN (fun q hq ho=>(HS.out.2.1 q ho).2.2 hq))
   (FsC V4 w.heap.size gb k (iE T k)) (fun _ _ _=>False) (FsC.own hgV4 HS.out.2.2.2.1.l.rg) (fun c s X Y row h _ _=>h) HS.out.2.2.1
   (fun T y _=>(((T.setIfInBounds 22 (.int .i64 (y.1.1:Int))).setIfInBounds 23 (.int .i64 (y.1.2:Int))).setIfInBounds 6 (.int .i64 (y.1.1:Int))).setIfInBounds 7 (.int .i64 (y.1.2:Int)))
   (fun _ _ _=>True) ?hBx ?assign ?body ?done ?stop
  case hBx=>exact fun y b' s X Y row h hg hr=>trivial
  case assign =>
   rintro l2 pre y V Kc hrV hsV hi hK;dsimp only [QW]
   have HI2:=hIz hi;clear hi;gi_wp2
   exact hK 0 _ (KpM.refl _ _ _) HI2.out trivial
  case stop=>exact fun _ _ _ _ h=>h.elim
  case body =>
   rintro l2 pre ⟨⟨i,j⟩,hy⟩ b9 V hrV hsV ⟨⟨v5,hi⟩,hkp⟩-hlt2;have hbs:w.heap.size≤V.heap.size:=Nat.le_trans HS.out.2.2.2.1.bl.size hsV;obtain⟨v9,Y1,happ,kb1,hL,hk9,-,-⟩:=hi.step (F:=fun q=>q=gb) hbs (k,i,j) (by
    have h1:=HS.out.2.2.2.2.2.2.1;have h2:=HS.out.2.2.2.2.2.2.2;rw[List.length_append,List.length_map,List.length_map];omega) rfl
   obtain⟨A9,c9,hv9,-,-⟩:=aH hL.own;generalize (iE T k++(pre.map (·.1)).map (fun y=>(k,y))++[(k,i,j)]).length=n9 at hv9;subst hv9;have c5:V.cell? ⟨gb,0,none⟩=some v5:=hi.b.cell 0;have c7:V.cell? ⟨kb,0,none⟩=some (.int .i64 (k:Int)):=(hkp.blk HS.out.2.2.2.1.l.rg HS.out.2.2.2.2.2.1 HS.out.2.2.2.2.1).cell 0;have g5:Y1.cell? ⟨gb,0,none⟩=some v5:=kb1.cell 0;have f5:=kb1.frozen 0;have hfin:KpM gb (fun q=>q=gb) V (Y1.setCell ⟨gb,0,none⟩ (.slice A9 n9 c9))∧FsC V4 w.heap.size gb k (iE T k) (pre++[(⟨(i,j),hy⟩:{x:Nat × Nat // x.1<64∧x.2<64})]) (Y1.setCell ⟨gb,0,none⟩ (.slice A9 n9 c9)):=
    ⟨hk9,⟨_,by
     rw[List.map_append,List.map_append,← List.append_assoc];exact hL⟩,hkp.trans hk9⟩
   have HF:=hIz hfin;clear hfin hk9 hL kb1 hi hrV hkp hbs;simp only[sA,sZ,sS]
   gi_wp2_with (gi_at_builtin;refine fY rfl _ _ _ rfl rfl rfl happ ?_)
   exact HF.out
  case done =>
   rintro ys V5 rfl ⟨⟨v5,hi⟩,hkp⟩ hrV pD hD;rw[nW,← mK] at hi;have FIN:=hIz (HS.out.2.2.2.1.range hkp hi pD hD);clear hi hkp hrV pD hD;go_wp2;refine Handed.intro (g2-1) (by omega) (hJ2 _ _ _ ⟨k+1,v5,V4.heap.size::Ds,_,_,_,_,_,_,_,_,_,_,_,_,_,_,_,_,_,_,_,_,_,_,_,_,_,_,_,_,rfl,by omega,FIN⟩)
 ·obtain rfl:k=nts:=by omega
  obtain⟨M,hM⟩:∃M,iE T k=M:=⟨_,rfl⟩;rw[hM] at hS ⊢;obtain⟨A9,c9,rfl,-,-⟩:=aH hS.out.l.own;obtain⟨l9,hl9⟩:∃l9,M.length=l9:=⟨_,rfl⟩;have c5:Wr.cell? ⟨gb,0,none⟩=some (.slice A9 l9 c9):=by rw[← hl9];exact hS.out.l.b.cell 0
  have hva:=BN Wr A9 l9 c9;have HL:=hIz hl9;clear hl9;go_wp2_with fail;refine hva.mono ?_;clear hva;rintro e V9 ⟨g,hg,rfl,kg,bg⟩;have HV:=aI3 hg kg bg;clear hg kg bg c5;go_wp2;obtain⟨hg,kg,bg⟩:=HV.out;have hS9:=hS.out.below bg;have hg0:=hS9.g0;have hgl:=hS.out.l.b.lt;rw[← HL.out] at kg ⊢;refine gP (lb:=gb) (B:=w.heap.size+1) (F:=fun q=>q=g) (fun w1=>FsE w w1 gb g A9 c9 M) (FsE.own hg0.symm) (by omega) ?_ Ds V9 hS9.nd (fun D hD=>?_) hS9.l.b.lt ⟨hS9.l,kg,hS9.bl⟩
  ·rintro w1 ⟨e1,e2,e3⟩;refine⟨TT g,by simp[results,Tryz.f19,go_sem],?_⟩;show FsQ w (iE T k) _ _
   rw[hM];exact⟨g,A9,c9,by omega,rfl,e2,e1.own,fun ho=>by have:=(hS.out.l.own.lt g ho).2;omega,e3⟩
  ·obtain⟨h1,h2,h3,h4,h5⟩:=hS9.ds D hD;have h6:=(hS.out.ds D hD).2.1;refine⟨h1,⟨h2,?_⟩,h5⟩;rintro (hf|⟨u,hu,ho⟩)
   ·omega
   ·obtain rfl:=hS9.l.is hu;exact h4 ho
open Go.RowKit Go.Shelf
attribute [local go_sem] Oper.semAt_some
def UL{Q:Nat × Nat × Nat→Prop}(x:{x:Nat × Nat × Nat // Q x}):Array Value:=#[.agg #[.int .i64 (x.1.1:Int),.int .i64 (x.1.2.1:Int),.int .i64 (x.1.2.2:Int)]]
theorem TC{w:World}{base g c n:Nat}{L:List (Nat × Nat × Nat)}(h:w.ownsRow base 25 3 (.slice (some ⟨g,0,none⟩) n c) n (cR L)){k:Nat}{x:Nat × Nat × Nat}(hx:L[k]?=some x) :
  w.cell? ⟨g,k*3,none⟩=some (.int .i64 (x.1:Int))∧w.cell? ⟨g,k*3+1,none⟩=some (.int .i64 (x.2.1:Int))∧w.cell? ⟨g,k*3+2,none⟩=some (.int .i64 (x.2.2:Int)):=by
 have hr:=bO.of_own h;have hg:=fun j (hj:j<3)=>dN faC 3 (fun _=>rfl) L k j x hx hj
 have key:∀j u,(cR L)[k*3+j]?=some u→w.cell? ⟨g,k*3+j,none⟩=some u:=fun j u hu=>by
  obtain⟨b,o,e,hc⟩:=hr _ _ hu;injection e with e;injection e with e1 e2;subst e1;subst e2;rwa [Nat.zero_add] at hc
 exact⟨key 0 _ (hg 0 (by omega)),key 1 _ (hg 1 (by omega)),key 2 _ (hg 2 (by omega))⟩
theorem QM{lb base n c:Nat}{F:Nat→Prop}{A B:World}{v:Value}{xs:List Value}{e size:Nat}(h:A.ownsRow base e size v n xs)(hk:KpM lb F A B)(r:RgM lb A)(hp:∀q,v.ownBlock=some q→Prv lb F A q):B.ownsRow base e size v n xs:=
 aB h (hk r).1 (fun q hq ha=>(hp q hq).2 ha)
theorem wC(w:World)(g c base:Nat)(A:Option Addr)(L:List (Nat × Nat × Nat))(hg:Blk w g 35 #[.slice A L.length c])(hown:w.ownsRow base 25 3 (.slice A L.length c) L.length (cR L))(Q:Nat × Nat × Nat→Prop)(hQ:∀x∈L,Q x)(hl:L.length≤140737488355328) :
  RY Tryz.prog 109 #[.pointer (some ⟨g,0,none⟩)] UL (fun q=>q=g∨(Value.slice A L.length c).ownBlock=some q) (fun ys=>ys=fZ L Q hQ) (fun pre=>∃k,k≤L.length∧pre=(fZ L Q hQ).take k) L.length w:=by
 intro l lb F J Jx W hW hJ hJx hlb hrg hF hrow hY h0;have hu:=Upd.of_below hW (fun _=>False);have hgW:=hg.upd hu id;have ownW:=aB hown hu (fun _ _=>id);have pv:∀q,(q=g∨(Value.slice A L.length c).ownBlock=some q)→q<W.heap.size→Prv lb F W q:=fun q ho hlt=>⟨hlt,fun ha=>ha.elim (fun hf=>(hF q hf).2 ho) (fun ⟨v,hv,hq⟩=>hrow v q hv hq ho)⟩
 have pO:∀q,(Value.slice A L.length c).ownBlock=some q→Prv lb F W q:=fun q hq=>pv q (.inr hq) (ownW.lt q hq).2
 obtain⟨n,hn⟩:∃n,L.length=n:=⟨_,rfl⟩;rw[hn] at hgW ownW pO hl;have q0:W.cell? ⟨g,0,none⟩=some (.slice A n c):=hgW.cell 0;have H:=aI7 hJ hY hrg hlb ownW pO hn;have HI0:=hIz (show J ((fZ L Q hQ).take 0) W∧KpM lb F W W from⟨by simpa using h0,KpM.refl _ _ _⟩);rw[hn];clear hg hown hW hJ hJx hlb hrg hF hrow hY h0 hu hgW ownW pv pO hn;refine(callsIn_wide (n:=1)).1 ?_;refine callsIn_of_wp Tryz.func109 rfl trivial ?_ rfl;simp only[Tryz.ntmps109,List.size_toArray,List.length_cons,List.length_nil,Nat.reduceAdd,Nat.reduceSub,Array.replicate_succ,Array.replicate_zero,List.push_toArray,List.append_toArray,List.nil_append,List.cons_append]
 gi_wp2
 clear q0;gi_loopw [7] (fun i wr=>∃k:Nat,k≤n∧i=.int .i64 k∧Hid (J ((fZ L Q hQ).take k) wr∧KpM lb F W wr)) (fun i _=>n-(intOf i).toNat)
 case atStart=>exact⟨0,Nat.zero_le _,rfl,HI0⟩
 case round =>
  obtain⟨k,hk,rfl,hI⟩:=hrel;by_cases hlt:k<n
  ·have hltI:(k:Int)<(n:Int):=by omega
   have hkw:IntKind.i64.wrap ((k:Int)+1)=(k:Int)+1:=IntWalk.i64_in _ (by omega);obtain⟨x,hx⟩:∃x,L[k]?=some x:=⟨_,gEz (by rw[H.out.2.2.2.2.2.2];exact hlt)⟩;have ownr:=QM (c:=c) H.out.2.2.2.2.1 hI.out.2 H.out.2.2.1 H.out.2.2.2.2.2.1;obtain⟨ga,gc,e,-,-,-,-,-⟩:=aL ownr (by omega);injection e with e1 e2 e3;subst e1;obtain⟨c0,c1,c2⟩:=TC ownr hx;obtain⟨hq,htk⟩:=EX (Q:=Q) (hQ:=hQ) hx;have b1:Below wr.heap.size wr (wr.alloc (.cells #[.int .i64 (x.1:Int),.int .i64 (x.2.1:Int),.int .i64 (x.2.2:Int)] 25)):=bR.alloc (Nat.le_refl _) _;have hlbr:lb<wr.heap.size:=Nat.lt_of_lt_of_le H.out.2.2.2.1 (hI.out.2.size H.out.2.2.1);have hJ1:=(H.out.1.from (hI.out.2.size H.out.2.2.1)).below hI.out.1 b1;have hk1:=hI.out.2.trans (KpM.of_below (lb:=lb) (F:=F) b1 hlbr);obtain⟨fn,tmps,assign,body,hyy,hR⟩:=H.out.2.1 _ ⟨x,hq⟩ _ hJ1 (by rw[List.length_take,iJ,H.out.2.2.2.2.2.2];omega);dsimp only [UL] at hyy
   have kx:=Blk.new wr 25 #[.int .i64 (x.1:Int),.int .i64 (x.2.1:Int),.int .i64 (x.2.2:Int)];have d0:(wr.alloc (.cells #[.int .i64 (x.1:Int),.int .i64 (x.2.1:Int),.int .i64 (x.2.2:Int)] 25)).cell? ⟨wr.heap.size,0,none⟩=some (.int .i64 (x.1:Int)):=kx.cell 0;have d1:(wr.alloc (.cells #[.int .i64 (x.1:Int),.int .i64 (x.2.1:Int),.int .i64 (x.2.2:Int)] 25)).cell? ⟨wr.heap.size,1,none⟩=some (.int .i64 (x.2.1:Int)):=kx.cell 1;have d2:(wr.alloc (.cells #[.int .i64 (x.1:Int),.int .i64 (x.2.1:Int),.int .i64 (x.2.2:Int)] 25)).cell? ⟨wr.heap.size,2,none⟩=some (.int .i64 (x.2.2:Int)):=kx.cell 2;have HZ:=aI2 htk hk1;clear hx ownr htk b1 hlbr hJ1 hk1 kx hI e2 e3;gi_wp2
   refine hR.mono ?_;rintro e W3 ⟨hk3,(⟨rfl,hJ3⟩|⟨rfl,hJx3⟩)⟩
   ·have FIN:=hIz (show J ((fZ L Q hQ).take (k+1)) W3∧KpM lb F W W3 from⟨by rw[HZ.out.1];exact hJ3,HZ.out.2.trans hk3⟩);clear hJ3 hk3 hR hyy d0 d1 d2;gi_wp2
    go_roundw
    case rel=>exact⟨k+1,by omega,by go_num,FIN⟩
    case measure=>simp[intOf];omega
   ·have FIN:=hIz hJx3;clear hJx3 hk3 hR hyy d0 d1 d2;gi_wp2
    refine bodyPost_ret (results_none rfl _ _ _) rfl ?_;exact⟨⟨_,rfl⟩,.inr ⟨_,⟨k+1,by omega,HZ.out.1.symm⟩,FIN.out⟩⟩
  ·obtain rfl:k=n:=by omega
   have FIN:=hIz (show J (fZ L Q hQ) wr from by
    have:=hI.out.1;rwa [List.take_of_length_le (by rw[iJ,H.out.2.2.2.2.2.2];exact Nat.le_refl _)] at this)
   clear hI;gi_wp2
   go_end0
   exact⟨⟨_,rfl⟩,.inl ⟨_,rfl,FIN.out⟩⟩
open Go.RowKit Go.Shelf
attribute [local go_sem] Oper.semAt_some
theorem pW(W:World)(f:Fn)(x y:Array Value):(binOp .eql 60 (.func f x y) .nilFunc).run Tryz.prog W=.ok (.bool false) W:=by
 have h:Tryz.prog.underlying 60=some (.func #[120] #[] false):=by kernel_rfl
 have e9:∀d,(Op.equalIn (d+1) 60 (.func f x y) .nilFunc).run Tryz.prog W=.ok false W:=fun d=>by simp[Op.equalIn,run_underlying h]
 have e:(Op.equal 60 (.func f x y) .nilFunc).run Tryz.prog W=.ok false W:=e9 9999;simp only[binOp]
 simp[e]
open Go.RowKit Go.Shelf
structure GwS(w W:World)(FT0 FN0:Nat→Prop)(nts gb:Nat)(mv vn:Value)(T N:aX)(L:List (Nat × Nat × Nat))(v:Value)(Ds:List Nat)(FT FN:Nat→Prop):Prop where
 mt:MtS W FT mv 32 nts T
 mn:MtS W FN vn 32 nts N
 u:Upd (fun k=>FT0 k∨FN0 k) w W
 ft:∀k,FT k→FT0 k∨w.heap.size≤k
 fn:∀k,FN k→FN0 k∨w.heap.size≤k
 tn:∀k,FT k→¬FN k
 gt:¬FT gb
 gn:¬FN gb
 l:LsB W w.heap.size gb L v
 rt:∀q,v.ownBlock=some q→¬FT q∧¬FN q
 g0:w.heap.size≤gb
 nd:Ds.Nodup
 ds:∀D∈Ds,w.heap.size<D∧D<W.heap.size∧¬FT D∧¬FN D∧D≠gb∧v.ownBlock≠some D∧W.heap[D]?=some (.deferred (some []))
section
variable {w W W':World} {FT0 FN0 FT FN R:Nat→Prop} {nts gb:Nat} {mv vn:Value} {T N:aX} {L:List (Nat × Nat × Nat)} {v:Value} {Ds:List Nat}
theorem GwS.upd(h:GwS w W FT0 FN0 nts gb mv vn T N L v Ds FT FN)(hu:Upd R W W')(hR:∀k,R k→¬FT k∧¬FN k∧k≠gb∧v.ownBlock≠some k∧w.heap.size≤k∧k ∉ Ds):GwS w W' FT0 FN0 nts gb mv vn T N L v Ds FT FN:=
 ⟨h.mt.upd hu (fun k hk hr=>(hR k hr).1 hk),h.mn.upd hu (fun k hk hr=>(hR k hr).2.1 hk),h.u.trans hu (fun k hk=>.inr (hR k hk).2.2.2.2.1),h.ft,h.fn,h.tn,h.gt,h.gn,h.l.upd hu (fun hr=>(hR gb hr).2.2.1 rfl) (fun q hq hr=>(hR q hr).2.2.2.1 hq),h.rt,h.g0,h.nd,
  fun D hD=>by
   obtain⟨h1,h2,h3,h4,h5,h6,h7⟩:=h.ds D hD;exact⟨h1,Nat.lt_of_lt_of_le h2 hu.size,h3,h4,h5,h6,(hu.block D h2 (fun hr=>(hR D hr).2.2.2.2.2 hD)).trans h7⟩⟩
theorem GwS.below(h:GwS w W FT0 FN0 nts gb mv vn T N L v Ds FT FN)(hb:Below W.heap.size W W'):GwS w W' FT0 FN0 nts gb mv vn T N L v Ds FT FN:=h.upd (upF hb) (fun _ h=>h.elim)
theorem GwS.put(h:GwS w W FT0 FN0 nts gb mv vn T N L v Ds FT FN)(hb:Below W.heap.size W W'){q k:Nat}{m:Option (List Nat)}(hq:fL W.heap.size q 32 m W')(hk:k<nts) :
  ∃g c v0 FN',vn=.slice (some ⟨g,0,none⟩) nts c∧W'.cell? ⟨g,k,none⟩=some v0∧W'.frozen? ⟨g,k,none⟩=false∧FN g∧GwS w (W'.setCell ⟨g,k,none⟩ (.pointer (some ⟨q,0,none⟩))) FT0 FN0 nts gb mv vn T (upM N k m) L v Ds FT FN'∧(∀x,FN' x→FN x∨W.heap.size≤x):=by
 have h':=h.below hb;obtain⟨Fq,hqs,hFq⟩:=hq;have hTl:=h.mt.lt;have hNl:=h.mn.lt;obtain⟨g,c,v0,e,c0,f0,hg,FN',hm,hF⟩:=h'.mn.put hk hqs (fun x hx hn=>by have:=hFq x hx;have:=hNl x hn;omega);have us:Upd (fun x=>x=g) W' (W'.setCell ⟨g,k,none⟩ (.pointer (some ⟨q,0,none⟩))):=(Upd.refl (fun x=>x=g) W').setCell (p:=⟨g,k,none⟩) (.inl rfl) _;have hF':∀x,FN' x→FN x∨W.heap.size≤x:=fun x hx=>(hF x hx).imp id (hFq x)
 have hgl:=h.l.b.lt;have hus:=h.u.size;refine⟨g,c,v0,FN',e,c0,f0,hg,⟨h'.mt.upd us (fun x hx e=>h.tn x hx (e ▸ hg)),hm,h'.u.trans us (fun x e=>(h.fn x (e ▸ hg)).imp .inr id),h.ft,fun x hx=>?_,fun x hx hn=>?_,h.gt,fun hn=>?_,h'.l.upd us (fun e=>h.gn (e ▸ hg)) (fun x hx e=>(h.rt x hx).2 (e ▸ hg)),fun x hx=>⟨(h.rt x hx).1,fun hn=>?_⟩,h.g0,h.nd,fun D hD=>?_⟩,hF'⟩
 ·rcases hF' x hx with h1|h1
  ·exact h.fn x h1
  ·exact .inr (by omega)
 ·rcases hF' x hn with h1|h1
  ·exact h.tn x hx h1
  ·have:=hTl x hx;omega
 ·rcases hF' gb hn with h1|h1
  ·exact h.gn h1
  ·omega
 ·rcases hF' x hn with h1|h1
  ·exact(h.rt x hx).2 h1
  ·have:=(h.l.own.lt x hx).2;omega
 ·obtain⟨h1,h2,h3,h4,h5,h6,h7⟩:=h'.ds D hD;have h8:=(h.ds D hD).2.1;exact⟨h1,Nat.lt_of_lt_of_le h2 us.size,h3,fun hn=>(hF' D hn).elim h4 (fun _=>by omega),h5,h6,(us.block D h2 (fun e=>h4 (e ▸ hg))).trans h7⟩
theorem GwS.range(h:GwS w W FT0 FN0 nts gb mv vn T N L v Ds FT FN){sb:Nat}{b:Bool}(hs:Blk W sb 4 #[.bool b])(s0:w.heap.size≤sb)(s1:¬FT sb)(s2:¬FN sb)(kp:KpM gb (fun q=>q=gb∨q=sb) W W'){L':List (Nat × Nat × Nat)}{v':Value}(hl:LsB W' w.heap.size gb L' v')
  (pD:Prv gb (fun q=>q=gb∨q=sb) W' W.heap.size) (hD:W'.heap[W.heap.size]?=some (.deferred (some []))):GwS w W' FT0 FN0 nts gb mv vn T N L' v' (W.heap.size::Ds) FT FN:=by
 have rg:=h.l.rg;have alw:∀q,TP gb (fun q=>q=gb∨q=sb) W q→¬FT q∧¬FN q∧w.heap.size≤q:=fun q hq=>by
  rcases hq with (rfl|rfl)|⟨u,hu,ho⟩
  ·exact⟨h.gt,h.gn,h.g0⟩
  ·exact⟨s1,s2,s0⟩
  ·obtain rfl:=h.l.is hu;exact⟨(h.rt q ho).1,(h.rt q ho).2,(h.l.own.lt q ho).1⟩
 obtain⟨hu,hr⟩:=kp rg;have hTl:=h.mt.lt;have hNl:=h.mn.lt;have hws:=h.u.size;have prv:∀D∈Ds,Prv gb (fun q=>q=gb∨q=sb) W D:=fun D hD=>by
  obtain⟨h1,h2,h3,h4,h5,h6,h7⟩:=h.ds D hD;refine⟨h2,?_⟩;rintro ((e|rfl)|⟨u,hu,ho⟩)
  ·exact h5 e
  ·rw[show W.heap[D]?=_ from hs] at h7;cases h7
  ·obtain rfl:=h.l.is hu;exact h6 ho
 have out:∀D,Prv gb (fun q=>q=gb∨q=sb) W' D→D≠gb∧v'.ownBlock≠some D:=fun D hp=>⟨fun e=>hp.2 (.inl (.inl e)),fun e=>hp.2 (.inr ⟨v',hl.b.cell 0,e⟩)⟩
 refine⟨h.mt.upd hu (fun k hk ha=>(alw k ha).1 hk),h.mn.upd hu (fun k hk ha=>(alw k ha).2.1 hk),h.u.trans hu (fun k hk=>.inr (alw k hk).2.2),h.ft,h.fn,h.tn,h.gt,h.gn,hl,fun q hq=>?_,h.g0,?_,fun D hD'=>?_⟩
 ·have h2:=hr v' q (hl.b.cell 0) hq;by_cases e:q<W.heap.size
  ·obtain⟨u,hu,ho⟩:=h2.2 e;obtain rfl:=h.l.is hu;exact h.rt q ho
  ·exact⟨fun hf=>e (hTl q hf),fun hf=>e (hNl q hf)⟩
 ·rw[List.nodup_cons];exact⟨fun hm=>by have:=(h.ds _ hm).2.1;omega,h.nd⟩
 ·rcases List.mem_cons.1 hD' with rfl|hm
  ·have hgl:=h.l.b.lt;have:=h.g0;exact⟨by omega,pD.1,fun hf=>by have:=hTl _ hf;omega,fun hf=>by have:=hNl _ hf;omega,(out _ pD).1,(out _ pD).2,hD⟩
  ·obtain⟨h1,h2,h3,h4,h5,h6,h7⟩:=h.ds D hm;have h8:=kp.prv rg (prv D hm);exact⟨h1,h8.2.1,h3,h4,(out _ h8.2).1,(out _ h8.2).2,h8.1.trans h7⟩
theorem GwS.turn(h:GwS w W FT0 FN0 nts gb mv vn T N L v Ds FT FN){a:Nat}(ha:a<nts) :
  ∃g c q Fq,mv=.slice (some ⟨g,0,none⟩) nts c∧W.cell? ⟨g,a,none⟩=some (.pointer (some ⟨q,0,none⟩))∧QuS W Fq q 32 (T a)∧∀(m:Option (List Nat)) (W':World),QTo W Fq q 32 m W'→(∃FT',GwS w W' FT0 FN0 nts gb mv vn (upM T a m) N L v Ds FT' FN∧∀x,FT' x→FT x∨W.heap.size≤x)∧Upd FT W W':=by
 obtain⟨g,c,q,Fq,e,c0,hq,hs,ht⟩:=h.mt.turn ha;refine⟨g,c,q,Fq,e,c0,hq,fun m W' hto=>?_⟩;obtain⟨FT',hm,hu,hF⟩:=ht m W' hto;have hNl:=h.mn.lt;have hgl:=h.l.b.lt;have hws:=h.u.size;refine⟨⟨FT',⟨hm,h.mn.upd hu (fun k hk hf=>h.tn k hf hk),h.u.trans hu (fun k hk=>(h.ft k hk).imp .inl id),fun k hk=>?_,h.fn,fun k hk hn=>?_,fun hk=>?_,h.gn,h.l.upd hu h.gt (fun x hx=>(h.rt x hx).1),fun x hx=>⟨fun hk=>?_,(h.rt x hx).2⟩,h.g0,h.nd,fun D hD=>?_⟩,hF⟩,hu⟩
 ·rcases hF k hk with h1|h1
  ·exact h.ft k h1
  ·exact .inr (by omega)
 ·rcases hF k hk with h1|h1
  ·exact h.tn k h1 hn
  ·have:=hNl k hn;omega
 ·rcases hF gb hk with h1|h1
  ·exact h.gt h1
  ·omega
 ·rcases hF x hk with h1|h1
  ·exact(h.rt x hx).1 h1
  ·have:=(h.l.own.lt x hx).2;omega
 ·obtain⟨h1,h2,h3,h4,h5,h6,h7⟩:=h.ds D hD;exact⟨h1,Nat.lt_of_lt_of_le h2 hu.size,fun hn=>(hF D hn).elim h3 (fun _=>by omega),h4,h5,h6,(hu.block D h2 h3).trans h7⟩
theorem GwS.next(h:GwS w W FT0 FN0 nts gb mv vn T N L v Ds FT FN)(hb:Below W.heap.size W W'){vn':Value}{N':aX}{FN':Nat→Prop}(hm:MtS W' FN' vn' 32 nts N')(hF:∀k,FN' k→W.heap.size≤k):GwS w W' FT0 FN0 nts gb mv vn' T N' L v Ds FT FN':=by
 have h':=h.below hb;have hTl:=h.mt.lt;have hgl:=h.l.b.lt;have hws:=h.u.size;exact⟨h'.mt,hm,h'.u,h.ft,fun k hk=>.inr (by have:=hF k hk;omega),fun k hk hn=>by have:=hTl k hk;have:=hF k hn;omega,h.gt,fun hn=>by have:=hF _ hn;omega,h'.l,fun q hq=>⟨(h.rt q hq).1,fun hn=>by have:=hF _ hn;have:=(h.l.own.lt q hq).2;omega⟩,h.g0,h.nd,
  fun D hD=>by
   obtain⟨h1,h2,h3,h4,h5,h6,h7⟩:=h'.ds D hD;exact⟨h1,h2,h3,fun hn=>by have:=hF _ hn;have:=(h.ds D hD).2.1;omega,h5,h6,h7⟩⟩
end
structure SbI(w W:World)(sb gb:Nat)(b:Bool)(v:Value)(FT FN:Nat→Prop):Prop where
 k:Blk W sb 4 #[.bool b]
 t:¬FT sb
 n:¬FN sb
 r:v.ownBlock≠some sb
 d:gb≠sb
 w0:w.heap.size≤sb
theorem BT(w:World)(base:Nat)(A:Option Addr)(c:Nat)(L:List (Nat × Nat × Nat))(h:w.ownsRow base 25 3 (.slice A L.length c) L.length (cR L))(hnd:L.Nodup)(hl:L.length≤140737488355328) :
  Calls Tryz.prog 95 #[.slice A L.length c,.func (.func 96) #[] #[]] w (fun e w'=>e=.returned (.tuple #[])∧∃M,M.Perm L∧M.Pairwise ltF∧w'.ownsRow base 25 3 (.slice A L.length c) L.length (cR M)∧Upd (fun q=>(Value.slice A L.length c).ownBlock=some q) w w'):=by
 by_cases h0:L.length=0
 ·have hL:=List.eq_nil_of_length_eq_zero h0;subst hL;have hs0:=AnyF.slices_SortFunc_none SU A c (.func (.func 96) #[] #[]) w;change Calls Tryz.prog 95 _ _ _ at hs0
  refine hs0.mono ?_;rintro e w' ⟨rfl,rfl⟩;exact⟨rfl,[],List.Perm.refl _,List.Pairwise.nil,h,Upd.refl _ _⟩
 ·obtain⟨g,c',e,-,-,-,-,-⟩:=aL h (by omega);injection e with e1 e2 e3;subst e1;subst e3;refine(BQ w base g c L h hl).mono ?_;rintro e w' ⟨rfl,d,hi,own,hu⟩;refine⟨rfl,d.toList,hi.p,?_,own,hu.mono (fun i _ e=>by subst e;rfl)⟩;rw[List.pairwise_iff_getElem];intro i j hi' hj' hij;have h1:=hi.s i j hij (by simpa using hj');have e1:d.toList[i]=d[i]!:=by rw[getElem!_pos d i (by simpa using hi')];simp
  have e2:d.toList[j]=d[j]!:=by rw[getElem!_pos d j (by simpa using hj')];simp
  rw[e1,e2];have hne:d[i]! ≠ d[j]!:=by
   rw[← e1,← e2];exact fun e=>by have:=(List.getElem_inj (hi.p.nodup_iff.2 hnd)).1 e;omega
  cases h2:GY d[i]! d[j]! with
  | true=>exact nX.1 h2
  | false=>exact(hne (SS.tri _ _ h2 h1)).elim
open Go.RowKit Go.Shelf
theorem mZ{w:World}{g:Nat}{t:TypeId}{cs:List Value}(h:Blk w g t cs.toArray):bO w (some ⟨g,0,none⟩) cs:=fun j u hj=>⟨g,0,rfl,by rw[Nat.zero_add,h.cell j];simpa using hj⟩
def cF:List Pr:=[⟨0,[⟨false,1⟩,⟨false,2⟩]⟩,⟨1,[⟨true,0⟩]⟩,⟨2,[⟨false,0⟩,⟨false,2⟩]⟩,⟨2,[⟨true,1⟩]⟩]
def NT(w:World)(e:Ending)(w':World):Prop:=∃(g c:Nat) (PV:List Pv),e=.returned (.agg #[.int .i64 3,.slice (some ⟨g,0,none⟩) 4 c])∧PvR w' (some ⟨g,0,none⟩) PV∧PV.map (·.pr)=cF∧Below w.heap.size w w'
theorem BU(w:World):Calls Tryz.prog 8 #[] w (NT w):=by
 go_enter Tryz.func8,Tryz.ntmps8;go_upto_region 2 with (fail);have i1:Below w.heap.size w (((w.alloc (.cells #[.int .i64 0,.slice none 0 0] 32)).alloc (.cells #[.bool true,.int .i64 0] 101)).alloc (.cells #[.bool true,.int .i64 1] 101)):=by(repeat (first | exact Below.refl _ _ | apply Below.drew | refine Below.alloc ?_ (by first | exact Nat.le_refl _ | (simp;done) | (simp;omega)) _ | refine Below.setCell ?_ (by first | exact Nat.le_refl _ | (simp;done) | (simp;omega)) _))
 have i2:Blk (((w.alloc (.cells #[.int .i64 0,.slice none 0 0] 32)).alloc (.cells #[.bool true,.int .i64 0] 101)).alloc (.cells #[.bool true,.int .i64 1] 101)) w.heap.size 32 #[.int .i64 0,.slice none 0 0]:=((Blk.new w _ _).alloc _).alloc _;have s1:Blk (((w.alloc (.cells #[.int .i64 0,.slice none 0 0] 32)).alloc (.cells #[.bool true,.int .i64 0] 101)).alloc (.cells #[.bool true,.int .i64 1] 101)) (w.heap.size+1) 101 #[.bool true,.int .i64 0]:=by
  have:=(Blk.new (w.alloc (.cells #[.int .i64 0,.slice none 0 0] 32)) 101 #[.bool true,.int .i64 0]).alloc (.cells #[.bool true,.int .i64 1] 101);simpa only [World.size_alloc] using this
 have s2:Blk (((w.alloc (.cells #[.int .i64 0,.slice none 0 0] 32)).alloc (.cells #[.bool true,.int .i64 0] 101)).alloc (.cells #[.bool true,.int .i64 1] 101)) (w.heap.size+1+1) 101 #[.bool true,.int .i64 1]:=by
  have:=Blk.new ((w.alloc (.cells #[.int .i64 0,.slice none 0 0] 32)).alloc (.cells #[.bool true,.int .i64 0] 101)) 101 #[.bool true,.int .i64 1];simpa only [World.size_alloc] using this
 generalize ((w.alloc (.cells #[.int .i64 0,.slice none 0 0] 32)).alloc (.cells #[.bool true,.int .i64 0] 101)).alloc (.cells #[.bool true,.int .i64 1] 101)=W5 at i1 i2 s1 s2 ⊢;have l1:=s1.alloc (.cells #[.bool false,.int .i64 1,.bool false,.int .i64 2] 101);have a10:=l1.cell 0;have a11:=l1.cell 1;have l2:=((s2.alloc (.cells #[.bool false,.int .i64 1,.bool false,.int .i64 2] 101)).alloc (.cells #[.bool true,.int .i64 0] 101)).alloc (.cells #[.bool false,.int .i64 0,.bool false,.int .i64 2] 101);have a20:=l2.cell 0;have a21:=l2.cell 1;simp only[List.getElem?_toArray,List.getElem?_cons_zero,List.getElem?_cons_succ] at a10 a11 a20 a21
 have kz:=((((i2.alloc (.cells #[.bool false,.int .i64 1,.bool false,.int .i64 2] 101)).alloc (.cells #[.bool true,.int .i64 0] 101)).alloc (.cells #[.bool false,.int .i64 0,.bool false,.int .i64 2] 101)).alloc (.cells #[.bool true,.int .i64 1] 101)).alloc (.cells #[.int .i64 0,.slice (some ⟨W5.heap.size,0,none⟩) 2 2,.int .i64 1,.slice (some ⟨W5.heap.size+1,0,none⟩) 1 1,.int .i64 2,.slice (some ⟨W5.heap.size+1+1,0,none⟩) 2 2,.int .i64 2,.slice (some ⟨W5.heap.size+1+1+1,0,none⟩) 1 1] 76);have z0:=kz.cell 0;have fz0:=kz.frozen 0;have kz1:=kz.set 0 (.int .i64 3);have z1:=kz1.cell 1;have fz1:=kz1.frozen 1;have kz2:=kz1.set 1 (.slice (some ⟨W5.heap.size+1+1+1+1,0,none⟩) 4 4);have y0:=kz2.cell 0;have y1:=kz2.cell 1;simp only[List.getElem?_toArray,List.setIfInBounds_toArray,List.set_cons_zero,List.set_cons_succ,List.getElem?_cons_zero,List.getElem?_cons_succ] at z0 z1 y0 y1
 have hfar:∀k,w.heap.size+1≤k→¬k=w.heap.size:=fun k h=>by omega
 have hn5:w.heap.size+1≤W5.heap.size:=by have:=s1.lt;omega
 have FIN:=hIz (show NT w (.returned (.agg #[.int .i64 3,(.slice (some ⟨W5.heap.size+1+1+1+1,0,none⟩) 4 4)])) (((((((W5.alloc (.cells #[.bool false,.int .i64 1,.bool false,.int .i64 2] 101)).alloc (.cells #[.bool true,.int .i64 0] 101)).alloc (.cells #[.bool false,.int .i64 0,.bool false,.int .i64 2] 101)).alloc (.cells #[.bool true,.int .i64 1] 101)).alloc (.cells #[.int .i64 0,.slice (some ⟨W5.heap.size,0,none⟩) 2 2,.int .i64 1,.slice (some ⟨W5.heap.size+1,0,none⟩) 1 1,.int .i64 2,.slice (some ⟨W5.heap.size+1+1,0,none⟩) 2 2,.int .i64 2,.slice (some ⟨W5.heap.size+1+1+1,0,none⟩) 1 1] 76)).setCell ⟨w.heap.size,0,none⟩ (.int .i64 3)).setCell ⟨w.heap.size,1,none⟩ (.slice (some ⟨W5.heap.size+1+1+1+1,0,none⟩) 4 4)) from by
  have b16:=(((((Blk.new W5 101 #[.bool false,.int .i64 1,.bool false,.int .i64 2]).alloc (.cells #[.bool true,.int .i64 0] 101)).alloc (.cells #[.bool false,.int .i64 0,.bool false,.int .i64 2] 101)).alloc (.cells #[.bool true,.int .i64 1] 101)).alloc (.cells #[.int .i64 0,.slice (some ⟨W5.heap.size,0,none⟩) 2 2,.int .i64 1,.slice (some ⟨W5.heap.size+1,0,none⟩) 1 1,.int .i64 2,.slice (some ⟨W5.heap.size+1+1,0,none⟩) 2 2,.int .i64 2,.slice (some ⟨W5.heap.size+1+1+1,0,none⟩) 1 1] 76));have b19:=((((Blk.new (W5.alloc (.cells #[.bool false,.int .i64 1,.bool false,.int .i64 2] 101)) 101 #[.bool true,.int .i64 0]).alloc (.cells #[.bool false,.int .i64 0,.bool false,.int .i64 2] 101)).alloc (.cells #[.bool true,.int .i64 1] 101)).alloc (.cells #[.int .i64 0,.slice (some ⟨W5.heap.size,0,none⟩) 2 2,.int .i64 1,.slice (some ⟨W5.heap.size+1,0,none⟩) 1 1,.int .i64 2,.slice (some ⟨W5.heap.size+1+1,0,none⟩) 2 2,.int .i64 2,.slice (some ⟨W5.heap.size+1+1+1,0,none⟩) 1 1] 76));have b23:=(((Blk.new ((W5.alloc (.cells #[.bool false,.int .i64 1,.bool false,.int .i64 2] 101)).alloc (.cells #[.bool true,.int .i64 0] 101)) 101 #[.bool false,.int .i64 0,.bool false,.int .i64 2]).alloc (.cells #[.bool true,.int .i64 1] 101)).alloc (.cells #[.int .i64 0,.slice (some ⟨W5.heap.size,0,none⟩) 2 2,.int .i64 1,.slice (some ⟨W5.heap.size+1,0,none⟩) 1 1,.int .i64 2,.slice (some ⟨W5.heap.size+1+1,0,none⟩) 2 2,.int .i64 2,.slice (some ⟨W5.heap.size+1+1+1,0,none⟩) 1 1] 76));have b26:=((Blk.new (((W5.alloc (.cells #[.bool false,.int .i64 1,.bool false,.int .i64 2] 101)).alloc (.cells #[.bool true,.int .i64 0] 101)).alloc (.cells #[.bool false,.int .i64 0,.bool false,.int .i64 2] 101)) 101 #[.bool true,.int .i64 1]).alloc (.cells #[.int .i64 0,.slice (some ⟨W5.heap.size,0,none⟩) 2 2,.int .i64 1,.slice (some ⟨W5.heap.size+1,0,none⟩) 1 1,.int .i64 2,.slice (some ⟨W5.heap.size+1+1,0,none⟩) 2 2,.int .i64 2,.slice (some ⟨W5.heap.size+1+1+1,0,none⟩) 1 1] 76))
  have b28:=Blk.new ((((W5.alloc (.cells #[.bool false,.int .i64 1,.bool false,.int .i64 2] 101)).alloc (.cells #[.bool true,.int .i64 0] 101)).alloc (.cells #[.bool false,.int .i64 0,.bool false,.int .i64 2] 101)).alloc (.cells #[.bool true,.int .i64 1] 101)) 76 #[.int .i64 0,.slice (some ⟨W5.heap.size,0,none⟩) 2 2,.int .i64 1,.slice (some ⟨W5.heap.size+1,0,none⟩) 1 1,.int .i64 2,.slice (some ⟨W5.heap.size+1+1,0,none⟩) 2 2,.int .i64 2,.slice (some ⟨W5.heap.size+1+1+1,0,none⟩) 1 1];simp only[World.size_alloc] at b19 b23 b26 b28
  have d16:=(b16.far (p:=⟨w.heap.size,0,none⟩) (by show ¬W5.heap.size=w.heap.size;omega) (.int .i64 3)).far (p:=⟨w.heap.size,1,none⟩) (by show ¬W5.heap.size=w.heap.size;omega) (.slice (some ⟨W5.heap.size+1+1+1+1,0,none⟩) 4 4);have d19:=(b19.far (p:=⟨w.heap.size,0,none⟩) (by show ¬W5.heap.size+1=w.heap.size;omega) (.int .i64 3)).far (p:=⟨w.heap.size,1,none⟩) (by show ¬W5.heap.size+1=w.heap.size;omega) (.slice (some ⟨W5.heap.size+1+1+1+1,0,none⟩) 4 4);have d23:=(b23.far (p:=⟨w.heap.size,0,none⟩) (by show ¬W5.heap.size+1+1=w.heap.size;omega) (.int .i64 3)).far (p:=⟨w.heap.size,1,none⟩) (by show ¬W5.heap.size+1+1=w.heap.size;omega) (.slice (some ⟨W5.heap.size+1+1+1+1,0,none⟩) 4 4);have d26:=(b26.far (p:=⟨w.heap.size,0,none⟩) (by show ¬W5.heap.size+1+1+1=w.heap.size;omega) (.int .i64 3)).far (p:=⟨w.heap.size,1,none⟩) (by show ¬W5.heap.size+1+1+1=w.heap.size;omega) (.slice (some ⟨W5.heap.size+1+1+1+1,0,none⟩) 4 4);have d28:=(b28.far (p:=⟨w.heap.size,0,none⟩) (by show ¬W5.heap.size+1+1+1+1=w.heap.size;omega) (.int .i64 3)).far (p:=⟨w.heap.size,1,none⟩) (by show ¬W5.heap.size+1+1+1+1=w.heap.size;omega) (.slice (some ⟨W5.heap.size+1+1+1+1,0,none⟩) 4 4);have hb:Below W5.heap.size W5 (((((W5.alloc (.cells #[.bool false,.int .i64 1,.bool false,.int .i64 2] 101)).alloc (.cells #[.bool true,.int .i64 0] 101)).alloc (.cells #[.bool false,.int .i64 0,.bool false,.int .i64 2] 101)).alloc (.cells #[.bool true,.int .i64 1] 101)).alloc (.cells #[.int .i64 0,.slice (some ⟨W5.heap.size,0,none⟩) 2 2,.int .i64 1,.slice (some ⟨W5.heap.size+1,0,none⟩) 1 1,.int .i64 2,.slice (some ⟨W5.heap.size+1+1,0,none⟩) 2 2,.int .i64 2,.slice (some ⟨W5.heap.size+1+1+1,0,none⟩) 1 1] 76)):=by(repeat (first | exact Below.refl _ _ | apply Below.drew | refine Below.alloc ?_ (by first | exact Nat.le_refl _ | (simp;done) | (simp;omega)) _ | refine Below.setCell ?_ (by first | exact Nat.le_refl _ | (simp;done) | (simp;omega)) _))
  have hb9:Below w.heap.size w (((((((W5.alloc (.cells #[.bool false,.int .i64 1,.bool false,.int .i64 2] 101)).alloc (.cells #[.bool true,.int .i64 0] 101)).alloc (.cells #[.bool false,.int .i64 0,.bool false,.int .i64 2] 101)).alloc (.cells #[.bool true,.int .i64 1] 101)).alloc (.cells #[.int .i64 0,.slice (some ⟨W5.heap.size,0,none⟩) 2 2,.int .i64 1,.slice (some ⟨W5.heap.size+1,0,none⟩) 1 1,.int .i64 2,.slice (some ⟨W5.heap.size+1+1,0,none⟩) 2 2,.int .i64 2,.slice (some ⟨W5.heap.size+1+1+1,0,none⟩) 1 1] 76)).setCell ⟨w.heap.size,0,none⟩ (.int .i64 3)).setCell ⟨w.heap.size,1,none⟩ (.slice (some ⟨W5.heap.size+1+1+1+1,0,none⟩) 4 4)):=((tHn i1 hb).setCell (p:=⟨w.heap.size,0,none⟩) (Nat.le_refl _) _).setCell (p:=⟨w.heap.size,1,none⟩) (Nat.le_refl _) _;refine⟨W5.heap.size+1+1+1+1,4,[⟨⟨0,[⟨false,1⟩,⟨false,2⟩]⟩,some ⟨W5.heap.size,0,none⟩,2⟩,⟨⟨1,[⟨true,0⟩]⟩,some ⟨W5.heap.size+1,0,none⟩,1⟩,⟨⟨2,[⟨false,0⟩,⟨false,2⟩]⟩,some ⟨W5.heap.size+1+1,0,none⟩,2⟩,⟨⟨2,[⟨true,1⟩]⟩,some ⟨W5.heap.size+1+1+1,0,none⟩,1⟩],rfl,⟨mZ d28,fun v hv=>?_⟩,rfl,hb9⟩;simp only[List.mem_cons,List.not_mem_nil,or_false] at hv
  rcases hv with rfl|rfl|rfl|rfl
  ·exact mZ d16
  ·exact mZ d19
  ·exact mZ d23
  ·exact mZ d26)
 clear i1 i2 s1 s2 l1 l2 kz kz1 kz2 hfar hn5;go_wp2;generalize (((((((W5.alloc (.cells #[.bool false,.int .i64 1,.bool false,.int .i64 2] 101)).alloc (.cells #[.bool true,.int .i64 0] 101)).alloc (.cells #[.bool false,.int .i64 0,.bool false,.int .i64 2] 101)).alloc (.cells #[.bool true,.int .i64 1] 101)).alloc (.cells #[.int .i64 0,.slice (some ⟨W5.heap.size,0,none⟩) 2 2,.int .i64 1,.slice (some ⟨W5.heap.size+1,0,none⟩) 1 1,.int .i64 2,.slice (some ⟨W5.heap.size+1+1,0,none⟩) 2 2,.int .i64 2,.slice (some ⟨W5.heap.size+1+1+1,0,none⟩) 1 1] 76)).setCell ⟨w.heap.size,0,none⟩ (.int .i64 3)).setCell ⟨w.heap.size,1,none⟩ (.slice (some ⟨W5.heap.size+1+1+1+1,0,none⟩) 4 4))=WF at FIN y0 y1 ⊢;refine bodyPost_ret (v:=.agg #[.int .i64 3,(.slice (some ⟨W5.heap.size+1+1+1+1,0,none⟩) 4 4)]) (by simp[results,Tryz.f8,go_sem,y0,y1]) rfl FIN.out
open Go.RowKit Go.Shelf
def sX:Txt:=⟨#[120]⟩
def sY:Txt:=⟨#[121]⟩
def sZq:Txt:=⟨#[122]⟩
def sAq:Txt:=⟨#[97]⟩
def sB:Txt:=⟨#[98]⟩
def ed1:Ed:=⟨sX,sAq,sY⟩
def ed2:Ed:=⟨sY,sB,sZq⟩
def gr1:Gr:=⟨[sX,sY],[ed1]⟩
def gr2:Gr:=⟨[sX,sY,sZq],[ed1,ed2]⟩
theorem UM:ofI [] [ed1]=0:=by
 have h1:gN [] [ed1]=[sX,sY]:=by
  refine gG gJ (by decide +kernel) (fun x=>?_);simp only[rS,ed1,rR,List.flatMap_cons,List.flatMap_nil,List.mem_append,List.mem_cons,List.not_mem_nil,or_false]
  constructor
  ·rintro (rfl|rfl) <;> simp
  ·rintro (h|(rfl|rfl)) <;> simp_all
 have h2:gE [ed1]=[ed1]:=gG qI rfl (fun _=>Iff.rfl);have h3:lM ltT (lbs [ed1])=[sAq]:=gG gJ rfl (fun x=>by simp[lbs,ed1]);rw[ofI,if_neg (by decide +kernel),h1,h2,eG,h3];rw[if_neg (by decide),if_neg (by decide),if_neg (by decide),if_neg (Nat.not_lt.2 (by unfold oH eE;decide +kernel))]
theorem UN:ofI [sX,sY] [ed1,ed2]=0:=by
 have h1:gN [sX,sY] [ed1,ed2]=[sX,sY,sZq]:=by
  refine gG gJ (by decide +kernel) (fun x=>?_);simp only[rS,ed1,ed2,rR,List.flatMap_cons,List.flatMap_nil,List.mem_append,List.mem_cons,List.not_mem_nil,or_false]
  constructor
  ·rintro (rfl|rfl|rfl) <;> simp
  ·rintro ((rfl|rfl)|((rfl|rfl)|(rfl|rfl))) <;> simp
 have h2:gE [ed1,ed2]=[ed1,ed2]:=gG qI (by decide +kernel) (fun _=>Iff.rfl);have h3:lM ltT (lbs [ed1,ed2])=[sAq,sB]:=gG gJ (by decide +kernel) (fun x=>by simp[lbs,ed1,ed2]);rw[ofI,if_neg (by decide +kernel),h1,h2,eG,h3];rw[if_neg (by decide),if_neg (by decide),if_neg (by decide),if_neg (Nat.not_lt.2 (by unfold oH eE;decide +kernel))]
theorem tR{N:List Txt}{s:Txt}(h:inB s N=false):cI N s=N++[s]:=by
 unfold cI;rw[h];rfl
theorem MM{N:List Txt}{s:Txt}(h:inB s N=true):cI N s=N:=by
 unfold cI;rw[h];rfl
theorem UO:aM ⟨[],[]⟩ ed1=(gr1,true,0):=by
 rw[kY (by simp) UM];have h1:cI [] sX=[sX]:=tR (by decide +kernel);have h2:cI [sX] sY=[sX,sY]:=tR (by decide +kernel);show((⟨cI (cI [] sX) sY,[]++[ed1]⟩:Gr),true,(0:Int))=_
 rw[h1,h2];rfl
theorem UQ:aM gr1 ed2=(gr2,true,0):=by
 rw[kY (by show ed2 ∉ [ed1];simp[ed1,ed2];decide +kernel) UN];have h1:cI [sX,sY] sY=[sX,sY]:=MM (by decide +kernel);have h2:cI [sX,sY] sZq=[sX,sY,sZq]:=tR (by decide +kernel);show((⟨cI (cI [sX,sY] sY) sZq,[ed1]++[ed2]⟩:Gr),true,(0:Int))=_
 rw[h1,h2];rfl
theorem zN{i:Nat}{s:Txt}(h:gr2.N[i]?=some s):(i=0∧s=sX)∨(i=1∧s=sY)∨(i=2∧s=sZq):=by
 match i,h with
 | 0,h=>exact .inl ⟨rfl,(Option.some.inj h).symm⟩
 | 1,h=>exact .inr (.inl ⟨rfl,(Option.some.inj h).symm⟩)
 | 2,h=>exact .inr (.inr ⟨rfl,(Option.some.inj h).symm⟩)
 | n+3,h=>simp[gr2] at h
theorem QN:sX≠sY:=by decide +kernel
theorem TD:sX≠sZq:=by decide +kernel
theorem QO:sY≠sZq:=by decide +kernel
theorem QP:sAq≠sB:=by decide +kernel
theorem VM{i j:Nat}(h:ElG gr2 [sAq,sB] 0 i j):i=0∧j=1:=by
 obtain⟨lb,hl,x,hx,he,h1,h2⟩:=h;obtain rfl:sAq=lb:=Option.some.inj hl;have hx:x∈[ed1,ed2]:=hx;simp only[List.mem_cons,List.not_mem_nil,or_false] at hx
 rcases hx with rfl|rfl
 ·have h1:gr2.N[i]?=some sX:=h1;have h2:gr2.N[j]?=some sY:=h2;refine⟨?_,?_⟩
  ·rcases zN h1 with ⟨e,-⟩|⟨-,e⟩|⟨-,e⟩
   ·exact e
   ·exact absurd e QN
   ·exact absurd e TD
  ·rcases zN h2 with ⟨-,e⟩|⟨e,-⟩|⟨-,e⟩
   ·exact absurd e.symm QN
   ·exact e
   ·exact absurd e QO
 ·exact absurd he.symm QP
theorem VT{i j:Nat}(h:ElG gr2 [sAq,sB] 1 i j):i=1∧j=2:=by
 obtain⟨lb,hl,x,hx,he,h1,h2⟩:=h;obtain rfl:sB=lb:=Option.some.inj hl;have hx:x∈[ed1,ed2]:=hx;simp only[List.mem_cons,List.not_mem_nil,or_false] at hx
 rcases hx with rfl|rfl
 ·exact absurd he QP
 ·have h1:gr2.N[i]?=some sY:=h1;have h2:gr2.N[j]?=some sZq:=h2;refine⟨?_,?_⟩
  ·rcases zN h1 with ⟨-,e⟩|⟨e,-⟩|⟨-,e⟩
   ·exact absurd e.symm QN
   ·exact e
   ·exact absurd e QO
  ·rcases zN h2 with ⟨-,e⟩|⟨-,e⟩|⟨e,-⟩
   ·exact absurd e.symm TD
   ·exact absurd e.symm QO
   ·exact e
def fI(a:Int)(i j:Nat):Prop:=(a=1∧i=0∧j=1)∨(a=2∧i=1∧j=2)∨(a=0∧i=0∧j=2)
theorem UR{a:Int}{i j:Nat}:gR cF (ElG gr2 [sAq,sB]) 3 a i j↔fI a i j:=by
 have d1:gR cF (ElG gr2 [sAq,sB]) 3 1 0 1:=.one (s:=⟨true,0⟩) (by simp[cF]) ⟨sAq,rfl,ed1,by simp[gr2],rfl,rfl,rfl⟩;have d2:gR cF (ElG gr2 [sAq,sB]) 3 2 1 2:=.one (s:=⟨true,1⟩) (by simp[cF]) ⟨sB,rfl,ed2,by simp[gr2],rfl,rfl,rfl⟩;constructor
 ·intro d;have hc:qZ cF (ElG gr2 [sAq,sB]) 3 fI:=by
   refine⟨fun a i h=>?_,fun a s i j h he=>?_,fun a s t i k j h h1 h2=>?_⟩
   ·simp[cF] at h
   ·simp only[cF,List.mem_cons,List.not_mem_nil,or_false,Pr.mk.injEq,List.cons.injEq] at h
    rcases h with ⟨-,-,h⟩|⟨rfl,rfl,-⟩|⟨-,-,h⟩|⟨rfl,rfl,-⟩
    ·cases h
    ·exact .inl ⟨rfl,VM he⟩
    ·cases h
    ·exact .inr (.inl ⟨rfl,VT he⟩)
   ·simp only[cF,List.mem_cons,List.not_mem_nil,or_false,Pr.mk.injEq,List.cons.injEq] at h
    rcases h with ⟨rfl,rfl,rfl,-⟩|⟨-,-,h⟩|⟨rfl,rfl,rfl,-⟩|⟨-,-,h⟩
    ·unfold fI at h1 h2 ⊢;dsimp only at h1 h2
     omega
    ·cases h
    ·unfold fI at h1 h2 ⊢;dsimp only at h1 h2
     omega
    ·cases h
  exact hc.least d
 ·rintro (⟨rfl,rfl,rfl⟩|⟨rfl,rfl,rfl⟩|⟨rfl,rfl,rfl⟩)
  ·exact d1
  ·exact d2
  ·exact .two (s:=⟨false,1⟩) (t:=⟨false,2⟩) (by simp[cF]) d1 d2
theorem TE{r s:List Nat}(hr:Wd r)(hs:Wd s)(h:∀i j,i<64→fE r i j=fE s i j):r=s:=by
 apply List.ext_getElem?
 intro i;by_cases hi:i<64
 ·have h1:r[i]?=some (r[i]?.getD 0):=by rw[gEz (by rw[hr.len];exact hi)];rfl
  have h2:s[i]?=some (s[i]?.getD 0):=by rw[gEz (by rw[hs.len];exact hi)];rfl
  rw[h1,h2];exact congrArg some (Nat.eq_of_testBit_eq (fun j=>h i j hi))
 ·rw[List.getElem?_eq_none (by rw[hr.len];omega),List.getElem?_eq_none (by rw[hs.len];omega)]
theorem len_one{b:Option (List Nat)}(hb:WdO b){i0 j0:Nat}(hi:i0<64)(hj:j0<64)(h:∀i j,aY b i j=true↔i=i0∧j=j0):bX b=List.zipWith orN aV (kN i0 j0):=by
 have hbit:∀i j,i<64→fE (List.zipWith orN aV (kN i0 j0)) i j=decide (i=i0∧j=j0):=fun i j hi'=>by
  rw[NP cW hi hi'];have:fE aV i j=false:=by
   have:=kK none (i:=i) (j:=j) hi';exact this
  rw[this,Bool.false_or]
 have hwd:Wd (List.zipWith orN aV (kN i0 j0)):=by
  have h1:WdO (joinO none (kN i0 j0)):=WdO.joinO (b:=none) (fun r e=>by cases e) (sJ hj);refine h1 _ ?_;unfold joinO;rw[if_neg (EM hi)];rfl
 refine TE hb.old hwd (fun i j hi'=>?_);rw[kK b hi',hbit i j hi',Bool.eq_iff_iff,h i j,decide_eq_true_eq]
theorem UT{B:aX}(hw:∀k,WdO (B k))(h:∀k,k<3→∀i j,aY (B k) i j=true↔fI (k:Int) i j):zK B 3=3:=by
 have h0:=len_one (hw 0) (i0:=0) (j0:=2) (by decide) (by decide) (fun i j=>by rw[h 0 (by omega)];unfold fI;simp);have h1:=len_one (hw 1) (i0:=0) (j0:=1) (by decide) (by decide) (fun i j=>by rw[h 1 (by omega)];unfold fI;simp);have h2:=len_one (hw 2) (i0:=1) (j0:=2) (by decide) (by decide) (fun i j=>by rw[h 2 (by omega)];unfold fI;simp);show 0+dF (bX (B 0))+dF (bX (B 1))+dF (bX (B 2))=3
 rw[h0,h1,h2];decide +kernel
theorem UU{PV:List Pv}(h:PV.map (·.pr)=cF):eV 3 PV [sAq,sB]=0:=by
 have hl:PV.length=4:=by have:=congrArg List.length h;simpa[cF] using this
 have hs:∀p∈cF,cC p 3 2=true:=by decide
 unfold eV;rw[if_neg (by rw[hl];decide),if_pos ⟨by decide +kernel,fun v hv=>hs v.pr (by rw[← h];exact List.mem_map.2 ⟨v,hv,rfl⟩)⟩]
theorem UV{i j:Nat}(h:ElG gr1 [sAq,sB] 0 i j):i=0∧j=1:=by
 refine VM ?_;obtain⟨lb,hl,x,hx,he,h1,h2⟩:=h;have hx:x∈[ed1]:=hx;refine⟨lb,hl,x,by show x∈[ed1,ed2];simp only[List.mem_cons,List.not_mem_nil,or_false] at hx ⊢;exact .inl hx,he,?_,?_⟩
 ·have:gr2.N=gr1.N++[sZq]:=rfl;rw[this,List.getElem?_append_left (gO.1 h1).1];exact h1
 ·have:gr2.N=gr1.N++[sZq]:=rfl;rw[this,List.getElem?_append_left (gO.1 h2).1];exact h2
theorem UW{i j:Nat}(h:ElG gr1 [sAq,sB] 1 i j):False:=by
 obtain⟨lb,hl,x,hx,he,h1,h2⟩:=h;obtain rfl:sB=lb:=Option.some.inj hl;have hx:x∈[ed1]:=hx;simp only[List.mem_cons,List.not_mem_nil,or_false] at hx
 subst hx;exact QP he
theorem UX{a:Int}{i j:Nat}:gR cF (ElG gr1 [sAq,sB]) 2 a i j↔a=1∧i=0∧j=1:=by
 have d1:gR cF (ElG gr1 [sAq,sB]) 2 1 0 1:=.one (s:=⟨true,0⟩) (by simp[cF]) ⟨sAq,rfl,ed1,by simp[gr1],rfl,rfl,rfl⟩;constructor
 ·intro d;have hc:qZ cF (ElG gr1 [sAq,sB]) 2 (fun a i j=>a=1∧i=0∧j=1):=by
   refine⟨fun a i h=>?_,fun a s i j h he=>?_,fun a s t i k j h h1 h2=>?_⟩
   ·simp[cF] at h
   ·simp only[cF,List.mem_cons,List.not_mem_nil,or_false,Pr.mk.injEq,List.cons.injEq] at h
    rcases h with ⟨-,-,h⟩|⟨rfl,rfl,-⟩|⟨-,-,h⟩|⟨rfl,rfl,-⟩
    ·cases h
    ·exact⟨rfl,UV he⟩
    ·cases h
    ·exact(UW he).elim
   ·simp only[cF,List.mem_cons,List.not_mem_nil,or_false,Pr.mk.injEq,List.cons.injEq] at h
    rcases h with ⟨rfl,rfl,rfl,-⟩|⟨-,-,h⟩|⟨rfl,rfl,rfl,-⟩|⟨-,-,h⟩
    ·dsimp only at h1 h2
     omega
    ·cases h
    ·dsimp only at h1 h2
     omega
    ·cases h
  exact hc.least d
 ·rintro⟨rfl,rfl,rfl⟩;exact d1
theorem MN{a:Int}{i j:Nat}(d:gR cF (ElG ⟨[],[]⟩ [sAq,sB]) 0 a i j):False:=by
 have:=d.lt (fun k i j h=>h.lt);omega
theorem UY:aM gr2 ed2=(gr2,false,0):=by
 unfold aM;rw[if_pos (by show ed2∈[ed1,ed2];simp)]
def sUA:Txt:=⟨#[65]⟩
def ed3:Ed:=⟨sX,sUA,sY⟩
theorem UZ:aM gr2 ed3=(gr2,false,173):=by
 have h:ofI gr2.N (gr2.X++[ed3])=173:=by
  rw[ofI,if_pos (by decide +kernel)]
 unfold aM;rw[if_neg (by show ed3 ∉ [ed1,ed2];simp[ed1,ed2,ed3];decide +kernel),h,if_neg (by decide)]
theorem II{α:Type}{lt:α→α→Prop}(irr:∀a,¬lt a a)(tr:∀a b c,lt a b→lt b c→lt a c):∀{L M:List α},L.Pairwise lt→M.Pairwise lt→(∀x,x∈L↔x∈M)→L=M
 | [],[],_,_,_=>rfl
 | [],y::M,_,_,h=>absurd ((h y).2 List.mem_cons_self) List.not_mem_nil
 | x::L,[],_,_,h=>absurd ((h x).1 List.mem_cons_self) List.not_mem_nil
 | x::L,y::M,hL,hM,h=>by
  rw[List.pairwise_cons] at hL hM;have e:x=y:=by
   rcases List.mem_cons.1 ((h x).1 List.mem_cons_self) with e|h1
   ·exact e
   ·rcases List.mem_cons.1 ((h y).2 List.mem_cons_self) with e|h2
    ·exact e.symm
    ·exact absurd (tr _ _ _ (hL.1 y h2) (hM.1 x h1)) (irr x)
  subst e;rw[II irr tr hL.2 hM.2 (fun z=>?_)];constructor
  ·intro hz;rcases List.mem_cons.1 ((h z).1 (List.mem_cons_of_mem _ hz)) with e|h1
   ·subst e;exact absurd (hL.1 z hz) (irr z)
   ·exact h1
  ·intro hz;rcases List.mem_cons.1 ((h z).2 (List.mem_cons_of_mem _ hz)) with e|h1
   ·subst e;exact absurd (hM.1 z hz) (irr z)
   ·exact h1
theorem NU{L M:List (Nat × Nat × Nat)}(hL:L.Pairwise ltF)(hM:M.Pairwise ltF)(h:∀x,x∈L↔x∈M):L=M:=
 II (fun a h=>by unfold ltF ltC at h;omega) (fun a b c h k=>by unfold ltF ltC at h k ⊢;omega) hL hM h
theorem TF{T0 T1:aX}{L:List (Nat × Nat × Nat)}(h:iB 3 T0 T1 L)(hs:L.Pairwise ltF)(h0:∀k,k<3→∀i j,aY (T0 k) i j=true→False)(h1:∀k,k<3→∀i j,aY (T1 k) i j=true↔(k:Int)=1∧i=0∧j=1):L=[(1,0,1)]:=by
 refine NU hs (List.pairwise_singleton _ _) (fun x=>?_);obtain⟨k,i,j⟩:=x;rw[h.mem,List.mem_singleton];dsimp only
 constructor
 ·rintro⟨hk,hb,-⟩;obtain⟨e1,rfl,rfl⟩:=(h1 k hk i j).1 hb;rw[show k=1 by omega]
 ·intro e;injection e with e1 e2;injection e2 with e2 e3;subst e1;subst e2;subst e3;refine⟨by omega,(h1 1 (by omega) 0 1).2 ⟨rfl,rfl,rfl⟩,?_⟩;cases hb:aY (T0 1) 0 1 with
  | false=>rfl
  | true=>exact(h0 1 (by omega) 0 1 hb).elim
theorem TG{T1 T2:aX}{L:List (Nat × Nat × Nat)}(h:iB 3 T1 T2 L)(hs:L.Pairwise ltF)(h1:∀k,k<3→∀i j,aY (T1 k) i j=true↔(k:Int)=1∧i=0∧j=1)(h2:∀k,k<3→∀i j,aY (T2 k) i j=true↔fI (k:Int) i j):L=[(0,0,2),(2,1,2)]:=by
 refine NU hs (by simp[ltF,ltC]) (fun x=>?_);obtain⟨k,i,j⟩:=x;rw[h.mem];simp only[List.mem_cons,List.not_mem_nil,or_false,Prod.mk.injEq]
 constructor
 ·rintro⟨hk,hb,hn⟩;have hf:=(h2 k hk i j).1 hb;have hn':¬((k:Int)=1∧i=0∧j=1):=fun e=>by rw[(h1 k hk i j).2 e] at hn;cases hn
  unfold fI at hf;omega
 ·intro e;have hk:k<3:=by omega
  refine⟨hk,(h2 k hk i j).2 (by unfold fI;omega),?_⟩;cases hb:aY (T1 k) i j with
  | false=>rfl
  | true=>have:=(h1 k hk i j).1 hb;omega
end Go.Proofs.YtnokckdkaifibaaGreatDoor
