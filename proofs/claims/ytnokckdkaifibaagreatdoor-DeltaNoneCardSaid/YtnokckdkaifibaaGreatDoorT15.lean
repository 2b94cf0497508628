/- delta: facts gathered in a list while cells are ranged over; what a round of grow leaves (plain); slices.Values of facts, as an iterator; layer 23's laws: without a closure (look, asked); New without a graph; layer 23's laws: look at no closure; delta: the memory of grow; layer 23's laws: small, a grammar of the law's own; layer 23's laws: the closure of the law's own grammar over its own graph: plain; delta: grow. (Written by mkDlT.py.). -/
import Derived.Test.YtnokckdkaifibaaGreatDoorT13
import Derived.Test.YtnokckdkaifibaaGreatDoorT14
import Derived.Test.YtnokckdkaifibaaGreatDoorT07
import Derived.Deep.LoopGhost
import Derived.Shelf.Abstract
import Derived.Test.YtnokckdkaifibaaGreatDoorT08
import Derived.Test.YtnokckdkaifibaaGreatDoorT09
set_option linter.unusedVariables false
set_option linter.unusedSimpArgs false
set_option maxHeartbeats 16000000
set_option maxRecDepth 100000
namespace Go.Proofs.YtnokckdkaifibaaGreatDoor
open Go.RowKit Go.Shelf
def vY(B:aX):Nat→Nat→List (Nat × Nat × Nat)
 | _,0=>[]
 | k,n+1=>(qcL (B k)).map (fun y=>(k,y))++vY B (k+1) n
def oD(B:aX)(nts:Nat):List (Nat × Nat × Nat):=vY B 0 nts
theorem uD(B:aX):∀(n k:Nat),vY B k (n+1)=vY B k n++(qcL (B (k+n))).map (fun y=>(k+n,y))
 | 0,k=>by simp[vY]
 | n+1,k=>by
  rw[vY,uD B n (k+1),vY,List.append_assoc,show k+1+n=k+(n+1) by omega]
theorem oG(B:aX)(n:Nat):oD B (n+1)=oD B n++(qcL (B n)).map (fun y=>(n,y)):=by
 unfold oD;rw[uD,Nat.zero_add]
theorem xO(B:aX):∀(n k:Nat) (x:Nat × Nat × Nat),x∈vY B k n↔k≤x.1∧x.1<k+n∧x.2∈qcL (B x.1)
 | 0,k,x=>by simp[vY];omega
 | n+1,k,x=>by
  rw[vY,List.mem_append,xO B n (k+1) x,List.mem_map];constructor
  ·rintro (⟨y,hy,rfl⟩|⟨h1,h2,h3⟩)
   ·exact⟨Nat.le_refl _,by show k<_;omega,hy⟩
   ·exact⟨by omega,by omega,h3⟩
  ·rintro⟨h1,h2,h3⟩;by_cases e:x.1=k
   ·exact .inl ⟨x.2,by rw[← e];exact h3,by rw[← e]⟩
   ·exact .inr ⟨by omega,by omega,h3⟩
theorem rO{B:aX}{nts:Nat}(hw:∀k,k<nts→Wd (bU (B k))){k i j:Nat}:(k,i,j)∈oD B nts↔k<nts∧i<64∧j<64∧aY (B k) i j=true:=by
 unfold oD;rw[xO];constructor
 ·rintro⟨-,h2,h3⟩;have h2:k<nts:=by simpa using h2
  exact⟨h2,(qY (hw k h2)).1 h3⟩
 ·rintro⟨h2,h3⟩;exact⟨Nat.zero_le _,by simpa using h2,(qY (hw k h2)).2 h3⟩
theorem xP(B:aX):∀(n k:Nat),(∀j,k≤j→j<k+n→Wd (bU (B j)))→(vY B k n).length≤n*4096
 | 0,k,_=>by simp[vY]
 | n+1,k,h=>by
  rw[vY,List.length_append,List.length_map,CN];have h1:=jC (h k (Nat.le_refl _) (by omega));have h2:=xP B n (k+1) (fun j a b=>h j (by omega) (by omega));omega
theorem uE{b:Option (List Nat)}(hw:Wd (bU b)){x:Nat × Nat}(hx:x∈qcL b):x.1<64∧x.2<64:=by
 obtain⟨i,j⟩:=x;have:=(qY hw).1 hx;exact⟨this.1,this.2.1⟩

theorem lM{w w':World}{base e size n:Nat}{v:Value}{xs:List Value}{row:Option Nat}(h:w.ownsRow base e size v n xs)(hg:w.grownBy w' row)(hn:∀q,v.ownBlock=some q→row≠some q):w'.ownsRow base e size v n xs:=by
 have hu:=Upd.of_grown hg;refine aA h hu (fun k hk e=>hn k hk e)
theorem LF{lb:Nat}{F:Nat→Prop}{A B:World}{v v':Value}(ha:A.cell? ⟨lb,0,none⟩=some v)(hb:B.cell? ⟨lb,0,none⟩=some v')(hu:Upd (fun q=>F q∨v.ownBlock=some q) A B)(hl:∀q,v'.ownBlock=some q→q<B.heap.size)(pl:∀k,v'.ownBlock=some k→v.ownBlock=some k∨A.heap.size≤k):KpM lb F A B:=by
 intro _;refine⟨hu.mono (fun i _ h=>h.imp id (fun h=>⟨v,ha,h⟩)),fun u q h1 h2=>?_⟩;rw[hb] at h1;injection h1 with e;subst e;refine⟨hl q h2,fun hlt=>⟨v,ha,?_⟩⟩;rcases pl q h2 with h|h
 ·exact h
 ·omega
structure LsB(W:World)(base lb:Nat)(L:List (Nat × Nat × Nat))(v:Value):Prop where
 b:Blk W lb 35 #[v]
 own:W.ownsRow base 25 3 v L.length (cP L)
 ne:v.ownBlock≠some lb
section
variable {W W':World} {base lb:Nat} {L:List (Nat × Nat × Nat)} {v:Value} {F:Nat→Prop}
theorem LsB.rg(h:LsB W base lb L v):RgM lb W:=fun u q hu hq=>by
 have:=h.b.cell 0;simp only[List.getElem?_toArray,List.getElem?_cons_zero] at this
 rw[this] at hu;injection hu with e;subst e;exact(h.own.lt q hq).2
theorem LsB.is(h:LsB W base lb L v){u:Value}(hu:W.cell? ⟨lb,0,none⟩=some u):u=v:=by
 have:=h.b.cell 0;simp only[List.getElem?_toArray,List.getElem?_cons_zero] at this
 rw[this] at hu;injection hu with e;exact e.symm
theorem LsB.grown{row:Option Nat}(h:LsB W base lb L v)(hF:F lb)(hg:W.grownBy W' row)(hr:∀k,row=some k→Prv lb F W k):LsB W' base lb L v:=
 ⟨h.b.grown hg (fun e=>(hr lb e.symm).2 (.inl hF)),lM h.own hg (fun q hq e=>(hr q e).2 (.inr ⟨v,h.b.cell 0,hq⟩)),h.ne⟩
theorem LsB.upd{R:Nat→Prop}(h:LsB W base lb L v)(hu:Upd R W W')(h1:¬R lb)(h2:∀q,v.ownBlock=some q→¬R q):LsB W' base lb L v:=⟨h.b.upd hu h1,aA h.own hu h2,h.ne⟩
theorem LsB.step(h:LsB W base lb L v)(hB:base≤W.heap.size)(m:Nat × Nat × Nat)(hl:(L.length+1)*24≤140737488355328)(hF:F lb) :
  ∃v' W1,(Builtin.append_ #[35,35] 35 #[v,.slice (some ⟨W.heap.size,0,none⟩) 1 1]).run Tryz.prog (W.alloc (.cells #[.int .i64 (m.1:Int),.int .i64 (m.2.1:Int),.int .i64 (m.2.2:Int)] 25))=.ok v' W1 ∧
   Blk W1 lb 35 #[v]∧LsB (W1.setCell ⟨lb,0,none⟩ v') base lb (L++[m]) v'∧KpM lb F W (W1.setCell ⟨lb,0,none⟩ v')∧(∀k,v'.ownBlock=some k→v.ownBlock=some k∨W.heap.size≤k)∧Upd (fun q=>q=lb∨v.ownBlock=some q) W (W1.setCell ⟨lb,0,none⟩ v'):=by
 obtain⟨v',W1,h1,h2,h4,h5,h6,h7,h8⟩:=ED W base lb v L m h.b h.own h.ne hl hB;exact⟨v',W1,h1,h2,⟨h4,h5,h6⟩,LF (h.b.cell 0) (h4.cell 0) (h7.mono (fun i _ h=>h.imp (fun e=>by subst e;exact hF) id)) (fun q hq=>(h5.lt q hq).2) h8,h8,h7⟩
end
structure GnI(W:World)(base gb sb:Nat)(L:List (Nat × Nat × Nat))(v:Value)(b:Bool):Prop where
 l:LsB W base gb L v
 s:Blk W sb 4 #[.bool b]
 ns:v.ownBlock≠some sb
 d:gb≠sb
theorem GnI.grown{W W':World}{base gb sb:Nat}{L:List (Nat × Nat × Nat)}{v:Value}{b:Bool}{F:Nat→Prop}{row:Option Nat}(h:GnI W base gb sb L v b)(hF:F gb)(hS:F sb)(hg:W.grownBy W' row)(hr:∀k,row=some k→Prv gb F W k):GnI W' base gb sb L v b:=
 ⟨h.l.grown hF hg hr,h.s.grown hg (fun e=>(hr sb e.symm).2 (.inl hS)),h.ns,h.d⟩
theorem GnI.upd{W W':World}{base gb sb:Nat}{L:List (Nat × Nat × Nat)}{v:Value}{b:Bool}{R:Nat→Prop}(h:GnI W base gb sb L v b)(hu:Upd R W W')(h1:¬R gb)(h2:¬R sb)(h3:∀q,v.ownBlock=some q→¬R q):GnI W' base gb sb L v b:=
 ⟨h.l.upd hu h1 h3,h.s.upd hu h2,h.ns,h.d⟩
theorem GnI.below{W W':World}{base gb sb:Nat}{L:List (Nat × Nat × Nat)}{v:Value}{b:Bool}(h:GnI W base gb sb L v b)(hb:Below W.heap.size W W'):GnI W' base gb sb L v b:=h.upd (upF hb) id id (fun _ _=>id)
theorem GnI.step{W:World}{base gb sb:Nat}{L:List (Nat × Nat × Nat)}{v:Value}{b:Bool}(h:GnI W base gb sb L v b)(hB:base≤W.heap.size)(m:Nat × Nat × Nat)(hl:(L.length+1)*24≤140737488355328) :
  ∃v' W1,(Builtin.append_ #[35,35] 35 #[v,.slice (some ⟨W.heap.size,0,none⟩) 1 1]).run Tryz.prog (W.alloc (.cells #[.int .i64 (m.1:Int),.int .i64 (m.2.1:Int),.int .i64 (m.2.2:Int)] 25))=.ok v' W1 ∧
   Blk W1 gb 35 #[v]∧Blk (W1.setCell ⟨gb,0,none⟩ v') sb 4 #[.bool b]∧GnI ((W1.setCell ⟨gb,0,none⟩ v').setCell ⟨sb,0,none⟩ (.bool true)) base gb sb (L++[m]) v' true∧KpM gb (fun q=>q=gb∨q=sb) W ((W1.setCell ⟨gb,0,none⟩ v').setCell ⟨sb,0,none⟩ (.bool true)):=by
 obtain⟨v',W1,h1,h2,h3,h4,h5,h6⟩:=h.l.step (F:=fun q=>q=gb∨q=sb) hB m hl (.inl rfl);have ks:=h.s.upd h6 (fun e=>e.elim (fun e=>h.d e.symm) h.ns);have hns:v'.ownBlock≠some sb:=fun e=>(h5 sb e).elim h.ns (fun hge=>by have:=h.s.lt;omega)
 have us:Upd (fun q=>q=sb) (W1.setCell ⟨gb,0,none⟩ v') ((W1.setCell ⟨gb,0,none⟩ v').setCell ⟨sb,0,none⟩ (.bool true)):=(Upd.refl (fun q=>q=sb) _).setCell (p:=⟨sb,0,none⟩) (.inl rfl) _;have h3':=h3.upd us h.d (fun q hq e=>hns (by rw[hq,e]));refine⟨v',W1,h1,h2,ks,⟨h3',ks.set 0 (.bool true),hns,h.d⟩,LF (h.l.b.cell 0) (h3'.b.cell 0) ((h6.mono (F':=fun q=>(q=gb∨q=sb)∨v.ownBlock=some q) (fun i _ h=>h.imp .inl id)).trans us (fun i e=>.inl (.inl (.inr e)))) (fun q hq=>(h3'.own.lt q hq).2) h5⟩

def stT(T f:aX)(k:Nat):aX:=fun j=>if j<k then joinQ (T j) (lessQ (f j) (T j)) else T j
def stN(T f:aX)(k:Nat):aX:=fun j=>if j<k then lessQ (f j) (T j) else f j
def lsM(T f:aX):aX:=fun j=>lessQ (f j) (T j)
theorem uG(T f:aX)(k:Nat):stT T f k k=T k:=if_neg (Nat.lt_irrefl _)
theorem QN(T f:aX)(k:Nat):stN T f k k=f k:=if_neg (Nat.lt_irrefl _)
theorem rP(T f:aX):stT T f 0=T:=by funext j;exact if_neg (Nat.not_lt_zero _)
theorem JW(T f:aX):stN T f 0=f:=by funext j;exact if_neg (Nat.not_lt_zero _)
theorem xQ(T f:aX)(k:Nat):upM (stT T f k) k (joinQ (T k) (lessQ (f k) (T k)))=stT T f (k+1):=by
 funext j
 unfold upM stT;by_cases e:j=k
 ·subst e;rw[if_pos rfl,if_pos (by omega)]
 ·rw[if_neg e];by_cases h:j<k
  ·rw[if_pos h,if_pos (by omega)]
  ·rw[if_neg h,if_neg (by omega)]
theorem JX(T f:aX)(k:Nat):upM (stN T f k) k (lessQ (f k) (T k))=stN T f (k+1):=by
 funext j
 unfold upM stN;by_cases e:j=k
 ·subst e;rw[if_pos rfl,if_pos (by omega)]
 ·rw[if_neg e];by_cases h:j<k
  ·rw[if_pos h,if_pos (by omega)]
  ·rw[if_neg h,if_neg (by omega)]
theorem xR{T f:aX}(hT:∀k,WdO (T k))(hf:∀k,WdO (f k))(k j:Nat):WdO (stT T f k j):=by
 unfold stT;split
 ·exact(hT j).joinQ ((hf j).lessQ (hT j))
 ·exact hT j
theorem gD.len{nts:Nat}{T0 T:aX}{G:List (Nat × Nat × Nat)}(h:gD nts T0 T G)(hT:∀k,WdO (T k)):G.length≤nts*4096:=by
 have h1:G.length≤(oD T nts).length:=fS h.nd (fun x hx=>by
  obtain⟨k,i,j⟩:=x;obtain⟨h1,h2,-⟩:=(h.mem _).1 hx;exact(rO (fun k _=>(hT k).old)).2 ⟨h1,cK (hT _) h2,fQ (hT _) h2,h2⟩)
 have h2:=xP T nts 0 (fun j _ _=>(hT j).old);exact Nat.le_trans h1 h2
structure GwP(nts:Nat)(T0 T f:aX)(G:List (Nat × Nat × Nat))(k:Nat)(b:Bool):Prop where
 g:gD nts T0 (stT T f k) (G++oD (lsM T f) k)
 sub:∀a i j,aY (T0 a) i j=true→aY (stT T f k a) i j=true
 b:b=true↔oD (lsM T f) k≠[]
theorem GwP.start{nts:Nat}{T0 T f:aX}{G:List (Nat × Nat × Nat)}(h:gD nts T0 T G)(hs:∀a i j,aY (T0 a) i j=true→aY (T a) i j=true):GwP nts T0 T f G 0 false:=by
 refine⟨?_,?_,?_⟩
 ·rw[rP];simpa[oD,vY] using h
 ·rw[rP];exact hs
 ·simp[oD,vY]
theorem GwP.step{nts:Nat}{T0 T f:aX}{G:List (Nat × Nat × Nat)}{k:Nat}{b:Bool}(h:GwP nts T0 T f G k b)(hk:k<nts)(hT:∀k,WdO (T k))(hf:∀k,WdO (f k)):GwP nts T0 T f G (k+1) (b||!(qcL (lsM T f k)).isEmpty):=by
 have h2:=h.g.step (N:=lsM T f k) (f:=f k) h.sub hk (by rw[uG];exact hT k) (by rw[uG];exact lJ (hf k) (hT k));rw[uG] at h2;rw[show upM (stT T f k) k (joinQ (T k) (lsM T f k))=stT T f (k+1) from xQ T f k] at h2;refine⟨?_,h2.2,?_⟩
 ·rw[oG,← List.append_assoc];exact h2.1
 ·rw[oG,Bool.or_eq_true,h.b];cases hq:qcL (lsM T f k) with
  | nil=>simp
  | cons y l=>simp
theorem NV{T f:aX}{nts:Nat}(hT:∀k,WdO (T k))(hf:∀k,WdO (f k))(h:oD (lsM T f) nts=[]):∀k,k<nts→∀i j,aY (f k) i j=true→aY (T k) i j=true:=by
 intro k hk i j hb;cases hc:aY (T k) i j with
 | true=>rfl
 | false =>
  have hl:=lJ (hf k) (hT k);have h1:=(hl.2 i j).2 ⟨hb,hc⟩;have:=(rO (B:=lsM T f) (nts:=nts) (fun k _=>((hf k).lessQ (hT k)).old) (k:=k) (i:=i) (j:=j)).2 ⟨hk,cK hl.1 h1,fQ hl.1 h1,h1⟩;rw[h] at this;cases this
theorem zL{T f:aX}{nts:Nat}(hT:∀k,WdO (T k))(hf:∀k,WdO (f k))(h:oD (lsM T f) nts≠[]):oJ (stT T f nts) nts<oJ T nts:=by
 obtain⟨x,hx⟩:=List.exists_mem_of_ne_nil _ h;obtain⟨k,i,j⟩:=x;obtain⟨hk,-,-,hb⟩:=(rO (fun k _=>((hf k).lessQ (hT k)).old)).1 hx;have hl:=lJ (hf k) (hT k);have h0:=((hl.2 i j).1 hb).2;have hm:dH (T k) (lessQ (f k) (T k))=true:=by
  cases hm:dH (T k) (lessQ (f k) (T k)) with
  | true=>rfl
  | false =>
   have:=lG (hT k) hl.1 hm hb;rw[h0] at this;cases this
 have hlt:=tU (hT k) hl.1 hm;have h4:=jC ((hT k).joinQ hl.1).old;refine vU (a:=k) (fun a ha=>?_) hk ?_
 ·unfold stT;rw[if_pos ha];have:=DR (hT a) ((hf a).lessQ (hT a));omega
 ·unfold stT;rw[if_pos hk];omega
theorem ES{T f:aX}(hT:∀k,WdO (T k))(hf:∀k,WdO (f k)){nts k:Nat}(hk:k<nts):jX (T k) (f k) (stT T f nts k):=by
 have hl:=lJ (hf k) (hT k);unfold stT;rw[if_pos hk];have hj:=jX.joinQ (hT k) hl.1;refine⟨hj.1,fun i j=>?_⟩;rw[hj.2,hl.2];constructor
 ·rintro (h|h)
  ·exact .inl h
  ·exact .inr h.1
 ·rintro (h|h)
  ·exact .inl h
  ·cases hc:aY (T k) i j with
   | true=>exact .inl rfl
   | false=>exact .inr ⟨h,rfl⟩
open Go.RowKit Go.Shelf
attribute [local go_sem] Oper.semAt_some
def SY{Q:Nat × Nat × Nat→Prop}(x:{x:Nat × Nat × Nat // Q x}):Array Value:=#[.agg #[.int .i64 (x.1.1:Int),.int .i64 (x.1.2.1:Int),.int .i64 (x.1.2.2:Int)]]
theorem QO{w:World}{base g c n:Nat}{L:List (Nat × Nat × Nat)}(h:w.ownsRow base 25 3 (.slice (some ⟨g,0,none⟩) n c) n (cP L)){k:Nat}{x:Nat × Nat × Nat}(hx:L[k]?=some x) :
  w.cell? ⟨g,k*3,none⟩=some (.int .i64 (x.1:Int))∧w.cell? ⟨g,k*3+1,none⟩=some (.int .i64 (x.2.1:Int))∧w.cell? ⟨g,k*3+2,none⟩=some (.int .i64 (x.2.2:Int)):=by
 have hr:=bS.of_own h;have hg:=fun j (hj:j<3)=>dQ faC 3 (fun _=>rfl) L k j x hx hj
 have key:∀j u,(cP L)[k*3+j]?=some u→w.cell? ⟨g,k*3+j,none⟩=some u:=fun j u hu=>by
  obtain⟨b,o,e,hc⟩:=hr _ _ hu;injection e with e;injection e with e1 e2;subst e1;subst e2;rwa [Nat.zero_add] at hc
 exact⟨key 0 _ (hg 0 (by omega)),key 1 _ (hg 1 (by omega)),key 2 _ (hg 2 (by omega))⟩
theorem NW{lb base n c:Nat}{F:Nat→Prop}{A B:World}{v:Value}{xs:List Value}{e size:Nat}(h:A.ownsRow base e size v n xs)(hk:KpM lb F A B)(r:RgM lb A)(hp:∀q,v.ownBlock=some q→Prv lb F A q):B.ownsRow base e size v n xs:=
 aA h (hk r).1 (fun q hq ha=>(hp q hq).2 ha)
theorem uH(w:World)(g c base:Nat)(A:Option Addr)(L:List (Nat × Nat × Nat))(hg:Blk w g 35 #[.slice A L.length c])(hown:w.ownsRow base 25 3 (.slice A L.length c) L.length (cP L))(Q:Nat × Nat × Nat→Prop)(hQ:∀x∈L,Q x)(hl:L.length≤140737488355328) :
  PM Tryz.prog 109 #[.pointer (some ⟨g,0,none⟩)] SY (fun q=>q=g∨(Value.slice A L.length c).ownBlock=some q) (fun ys=>ys=fJ L Q hQ) (fun pre=>∃k,k≤L.length∧pre=(fJ L Q hQ).take k) L.length w:=by
 intro l lb F J Jx W hW hJ hJx hlb hrg hF hrow hY h0;have hu:=Upd.of_below hW (fun _=>False);have hgW:=hg.upd hu id;have ownW:=aA hown hu (fun _ _=>id);have pv:∀q,(q=g∨(Value.slice A L.length c).ownBlock=some q)→q<W.heap.size→Prv lb F W q:=fun q ho hlt=>⟨hlt,fun ha=>ha.elim (fun hf=>(hF q hf).2 ho) (fun ⟨v,hv,hq⟩=>hrow v q hv hq ho)⟩
 have pO:∀q,(Value.slice A L.length c).ownBlock=some q→Prv lb F W q:=fun q hq=>pv q (.inr hq) (ownW.lt q hq).2
 obtain⟨n,hn⟩:∃n,L.length=n:=⟨_,rfl⟩;rw[hn] at hgW ownW pO hl;have q0:W.cell? ⟨g,0,none⟩=some (.slice A n c):=hgW.cell 0;have H:=aI7 hJ hY hrg hlb ownW pO hn;have HI0:=hIz (show J ((fJ L Q hQ).take 0) W∧KpM lb F W W from⟨by simpa using h0,KpM.refl _ _ _⟩);rw[hn];clear hg hown hW hJ hJx hlb hrg hF hrow hY h0 hu hgW ownW pv pO hn;refine(callsIn_wide (n:=1)).1 ?_;refine callsIn_of_wp Tryz.func109 rfl trivial ?_ rfl;simp only[Tryz.ntmps109,List.size_toArray,List.length_cons,List.length_nil,Nat.reduceAdd,Nat.reduceSub,Array.replicate_succ,Array.replicate_zero,List.push_toArray,List.append_toArray,List.nil_append,List.cons_append]
 gi_wp2
 clear q0;gi_loopw [7] (fun i wr=>∃k:Nat,k≤n∧i=.int .i64 k∧Hid (J ((fJ L Q hQ).take k) wr∧KpM lb F W wr)) (fun i _=>n-(intOf i).toNat)
 case atStart=>exact⟨0,Nat.zero_le _,rfl,HI0⟩
 case round =>
  obtain⟨k,hk,rfl,hI⟩:=hrel;by_cases hlt:k<n
  ·have hltI:(k:Int)<(n:Int):=by omega
   have hkw:IntKind.i64.wrap ((k:Int)+1)=(k:Int)+1:=IntWalk.i64_in _ (by omega);obtain⟨x,hx⟩:∃x,L[k]?=some x:=⟨_,gEz (by rw[H.out.2.2.2.2.2.2];exact hlt)⟩;have ownr:=NW (c:=c) H.out.2.2.2.2.1 hI.out.2 H.out.2.2.1 H.out.2.2.2.2.2.1;obtain⟨ga,gc,e,-,-,-,-,-⟩:=aL ownr (by omega);injection e with e1 e2 e3;subst e1;obtain⟨c0,c1,c2⟩:=QO ownr hx;obtain⟨hq,htk⟩:=CP (Q:=Q) (hQ:=hQ) hx;have b1:Below wr.heap.size wr (wr.alloc (.cells #[.int .i64 (x.1:Int),.int .i64 (x.2.1:Int),.int .i64 (x.2.2:Int)] 25)):=bR.alloc (Nat.le_refl _) _;have hlbr:lb<wr.heap.size:=Nat.lt_of_lt_of_le H.out.2.2.2.1 (hI.out.2.size H.out.2.2.1);have hJ1:=(H.out.1.from (hI.out.2.size H.out.2.2.1)).below hI.out.1 b1;have hk1:=hI.out.2.trans (KpM.of_below (lb:=lb) (F:=F) b1 hlbr);obtain⟨fn,tmps,assign,body,hyy,hR⟩:=H.out.2.1 _ ⟨x,hq⟩ _ hJ1 (by rw[List.length_take,gL,H.out.2.2.2.2.2.2];omega);dsimp only [SY] at hyy
   have kx:=Blk.new wr 25 #[.int .i64 (x.1:Int),.int .i64 (x.2.1:Int),.int .i64 (x.2.2:Int)];have d0:(wr.alloc (.cells #[.int .i64 (x.1:Int),.int .i64 (x.2.1:Int),.int .i64 (x.2.2:Int)] 25)).cell? ⟨wr.heap.size,0,none⟩=some (.int .i64 (x.1:Int)):=kx.cell 0;have d1:(wr.alloc (.cells #[.int .i64 (x.1:Int),.int .i64 (x.2.1:Int),.int .i64 (x.2.2:Int)] 25)).cell? ⟨wr.heap.size,1,none⟩=some (.int .i64 (x.2.1:Int)):=kx.cell 1;have d2:(wr.alloc (.cells #[.int .i64 (x.1:Int),.int .i64 (x.2.1:Int),.int .i64 (x.2.2:Int)] 25)).cell? ⟨wr.heap.size,2,none⟩=some (.int .i64 (x.2.2:Int)):=kx.cell 2;have HZ:=aI2 htk hk1;clear hx ownr htk b1 hlbr hJ1 hk1 kx hI e2 e3;gi_wp2
   refine hR.mono ?_;rintro e W3 ⟨hk3,(⟨rfl,hJ3⟩|⟨rfl,hJx3⟩)⟩
   ·have FIN:=hIz (show J ((fJ L Q hQ).take (k+1)) W3∧KpM lb F W W3 from⟨by rw[HZ.out.1];exact hJ3,HZ.out.2.trans hk3⟩);clear hJ3 hk3 hR hyy d0 d1 d2;gi_wp2
    go_roundw
    case rel=>exact⟨k+1,by omega,by go_num,FIN⟩
    case measure=>simp[intOf];omega
   ·have FIN:=hIz hJx3;clear hJx3 hk3 hR hyy d0 d1 d2;gi_wp2
    refine bodyPost_ret (results_none rfl _ _ _) rfl ?_;exact⟨⟨_,rfl⟩,.inr ⟨_,⟨k+1,by omega,HZ.out.1.symm⟩,FIN.out⟩⟩
  ·obtain rfl:k=n:=by omega
   have FIN:=hIz (show J (fJ L Q hQ) wr from by
    have:=hI.out.1;rwa [List.take_of_length_le (by rw[gL,H.out.2.2.2.2.2.2];exact Nat.le_refl _)] at this)
   clear hI;gi_wp2
   go_end0
   exact⟨⟨_,rfl⟩,.inl ⟨_,rfl,FIN.out⟩⟩
open Go.RowKit Go.Shelf
attribute [local go_sem] Oper.semAt_some
theorem NY(w:World):Calls Tryz.prog 72 #[.pointer none] w (jS w (.bool false)):=by
 go_enter Tryz.func72,Tryz.ntmps72;go_wp2;go_ret;exact⟨rfl,rfl⟩
theorem JY(w:World):Calls Tryz.prog 36 #[.pointer none] w (jS w (.tuple #[.int .i64 0,.int .i64 0])):=by
 have hcon:=NY w;go_enter Tryz.func36,Tryz.ntmps36;go_wp2_with fail;refine hcon.mono ?_;clear hcon;rintro e V ⟨rfl,hw⟩;subst V;go_wp2;refine bodyPost_ret (v:=.tuple #[.int .i64 0,.int .i64 0]) (by simp[results,Tryz.f36,go_sem]) rfl ⟨rfl,rfl⟩
theorem JZ(w:World)(a b:Value)(lv:Value):Calls Tryz.prog 21 #[.agg #[a,b],lv,.pointer none] w (Sam w (.tuple #[.pointer none,.int .i64 1])):=by
 have b1:Below w.heap.size w (w.alloc (.cells #[a,b] 32)):=bR.alloc (Nat.le_refl _) _;have hcon:=JY (w.alloc (.cells #[a,b] 32));have H:=hIz b1;clear b1;go_enter Tryz.func21,Tryz.ntmps21;go_wp2_with fail;refine hcon.mono ?_;clear hcon;rintro e V ⟨rfl,hw⟩;subst V;go_wp2;refine bodyPost_ret (v:=.tuple #[.pointer none,.int .i64 1]) (by simp[results,Tryz.f21,go_sem]) rfl ⟨rfl,H.out⟩
theorem KA(w:World)(a b:Value)(lv:Value):Calls Tryz.prog 7 #[.agg #[a,b],lv,.pointer none] w (Sam w (.tuple #[.pointer none,.int .i64 1])):=by
 have b1:Below w.heap.size w (w.alloc (.cells #[a,b] 32)):=bR.alloc (Nat.le_refl _) _;have k1:=Blk.new w 32 #[a,b];have q0:(w.alloc (.cells #[a,b] 32)).cell? ⟨w.heap.size,0,none⟩=some a:=k1.cell 0;have q1:(w.alloc (.cells #[a,b] 32)).cell? ⟨w.heap.size,1,none⟩=some b:=k1.cell 1;have hcon:=JZ (w.alloc (.cells #[a,b] 32)) a b lv;have H:=hIz b1;clear b1 k1;go_enter Tryz.func7,Tryz.ntmps7;go_wp2_with fail;refine hcon.mono ?_;clear hcon;rintro e V ⟨rfl,hb⟩;have FIN:=hIz (tHn H.out hb);clear hb q0 q1;go_wp2;refine bodyPost_ret (v:=.tuple #[.pointer none,.int .i64 1]) (by simp[results,Tryz.f7,go_sem]) rfl ⟨rfl,FIN.out⟩
theorem oH(W:World)(f:Fn)(x y:Array Value):(binOp .eql 60 (.func f x y) .nilFunc).run Tryz.prog W=.ok (.bool false) W:=by
 have h:Tryz.prog.underlying 60=some (.func #[120] #[] false):=by kernel_rfl
 have e9:∀d,(Op.equalIn (d+1) 60 (.func f x y) .nilFunc).run Tryz.prog W=.ok false W:=fun d=>by simp[Op.equalIn,run_underlying h]
 have e:(Op.equal 60 (.func f x y) .nilFunc).run Tryz.prog W=.ok false W:=e9 9999;simp only[binOp]
 simp[e]
abbrev QP:Value:=.agg #[.bool false,.bool false,.slice none 0 0,.slice none 0 0,.int .i64 0,.int .i64 0,.slice none 0 0,.slice none 0 0]
abbrev mK:Array Value:=#[.bool false,.bool false,.slice none 0 0,.slice none 0 0,.int .i64 0,.int .i64 0,.slice none 0 0,.slice none 0 0]
theorem vZ(w:World)(a b c:Int):Calls Tryz.prog 12 #[.pointer none,QP,.agg #[.int .i64 a,.int .i64 b,.int .i64 c]] w (Sam w (.bool true)):=by
 have b1:Below w.heap.size w ((w.alloc (.cells mK 47)).alloc (.cells #[.int .i64 a,.int .i64 b,.int .i64 c] 25)):=by(repeat (first | exact Below.refl _ _ | apply Below.drew | refine Below.alloc ?_ (by first | exact Nat.le_refl _ | (simp;done) | (simp;omega)) _ | refine Below.setCell ?_ (by first | exact Nat.le_refl _ | (simp;done) | (simp;omega)) _))
 have k1:Blk ((w.alloc (.cells mK 47)).alloc (.cells #[.int .i64 a,.int .i64 b,.int .i64 c] 25)) w.heap.size 47 mK:=(Blk.new w _ _).alloc _;have k2:Blk ((w.alloc (.cells mK 47)).alloc (.cells #[.int .i64 a,.int .i64 b,.int .i64 c] 25)) (w.heap.size+1) 25 #[.int .i64 a,.int .i64 b,.int .i64 c]:=by
  have:=Blk.new (w.alloc (.cells mK 47)) 25 #[.int .i64 a,.int .i64 b,.int .i64 c];rwa [World.size_alloc] at this
 go_enter Tryz.func12,Tryz.ntmps12;go_upto_region 1 with (fail);generalize (w.alloc (.cells mK 47)).alloc (.cells #[.int .i64 a,.int .i64 b,.int .i64 c] 25)=W at b1 k1 k2 ⊢;have c0:W.cell? ⟨w.heap.size+1,0,none⟩=some (.int .i64 a):=k2.cell 0;have c1:W.cell? ⟨w.heap.size+1,1,none⟩=some (.int .i64 b):=k2.cell 1;have c2:W.cell? ⟨w.heap.size+1,2,none⟩=some (.int .i64 c):=k2.cell 2;have hh:=IR W a b c;have H:=aI3 b1 k1 k2;clear b1 k1 k2;go_wp2_with fail;refine hh.mono ?_;clear hh c0 c1 c2;rintro e V ⟨rfl,bv⟩;have k1:=H.out.2.1.upd (upF bv) id;have c0:V.cell? ⟨w.heap.size+1,0,none⟩=some (.int .i64 a):=(H.out.2.2.upd (upF bv) id).cell 0;have c4:V.cell? ⟨w.heap.size,0,none⟩=some (.bool false):=k1.cell 0;have hp:=yU V a;have FIN:=hIz (tHn H.out.1 bv);clear k1 bv;go_wp2_with fail;refine hp.mono ?_;clear hp;rintro e V2 ⟨rfl,hV⟩;subst V2;go_wp2;go_ret;exact⟨rfl,FIN.out⟩
open Go.RowKit Go.Shelf
attribute [local go_sem] Oper.semAt_some
theorem zM(w:World)(n:Int):Calls Tryz.prog 11 #[.pointer none,QP,.int .i64 n] w (Sam w (.bool true)):=by
 have b1:Below w.heap.size w (((w.alloc (.cells mK 47)).alloc (.cells #[.int .i64 n] 3)).alloc (.cells #[.bool false] 4)):=by(repeat (first | exact Below.refl _ _ | apply Below.drew | refine Below.alloc ?_ (by first | exact Nat.le_refl _ | (simp;done) | (simp;omega)) _ | refine Below.setCell ?_ (by first | exact Nat.le_refl _ | (simp;done) | (simp;omega)) _))
 have k1:Blk (((w.alloc (.cells mK 47)).alloc (.cells #[.int .i64 n] 3)).alloc (.cells #[.bool false] 4)) w.heap.size 47 mK:=((Blk.new w _ _).alloc _).alloc _;have k3:Blk (((w.alloc (.cells mK 47)).alloc (.cells #[.int .i64 n] 3)).alloc (.cells #[.bool false] 4)) (w.heap.size+2) 4 #[.bool false]:=by
  have:=Blk.new ((w.alloc (.cells mK 47)).alloc (.cells #[.int .i64 n] 3)) 4 #[.bool false];simpa only [World.size_alloc] using this
 refine(callsIn_wide (n:=1)).1 ?_;refine callsIn_of_wp_marks Tryz.func11 rfl trivial ?_ rfl;simp only[Tryz.ntmps11,List.size_toArray,List.length_cons,List.length_nil,Nat.reduceAdd,Nat.reduceSub,Array.replicate_succ,Array.replicate_zero,List.push_toArray,List.append_toArray,List.nil_append,List.cons_append]
 refine wpIn_wide.2 ?_;go_upto_region 1 with (fail);obtain⟨z,hz⟩:∃z,w.heap.size=z:=⟨_,rfl⟩;generalize ((w.alloc (.cells mK 47)).alloc (.cells #[.int .i64 n] 3)).alloc (.cells #[.bool false] 4)=W at b1 k1 k3 ⊢;rw[hz] at k1 k3 ⊢;have hgr:=yT W;have H:=aI4 b1 k1 k3 hz;have c4:W.cell? ⟨z,0,none⟩=some (.bool false):=k1.cell 0;have hfa:=zH W;clear b1 k1 k3 hz;go_wp2_with fail;refine hgr.mono ?_;clear hgr;rintro e V ⟨rfl,hw⟩;subst V;go_wp2_with fail;refine hfa.mono ?_;clear hfa;rintro e W2 ⟨g,hg,rfl,kg,b2⟩;have hEq:=oH W2.drew (.func 109) #[] #[.pointer (some ⟨g,0,none⟩)];have hEq2:=oH W2 (.func 109) #[] #[.pointer (some ⟨g,0,none⟩)];have k3:=H.out.2.2.1.upd (upF b2) id;have hlb:z+2<W2.heap.size:=k3.lt;have hst:=uH W2 g 0 0 none [] kg (World.ownsRow_nil _ _ _ _) (fun _=>False) (fun x h=>by cases h) (Nat.zero_le _);have hOw:∀q,(q=g∨(Value.slice none 0 0).ownBlock=some q)→q<W2.heap.size:=fun q hq=>by
  rcases hq with rfl|hq
  ·exact kg.lt
  ·simp[Value.ownBlock] at hq
 have rg:RgM (z+2) W2:=RgM.of_none (v:=.bool false) (k3.cell 0) rfl;have HS:=aI5 hst hOw rg k3 (tHn H.out.1 b2);clear c4 hst hOw rg k3 b2 kg hg;go_wp2;refine kY (gf:=109) (cap:=#[.pointer (some ⟨g,0,none⟩)]) rfl (enters_of Tryz.func109 (by kernel_rfl) rfl) HS.out.1 bR HS.out.2.1 (fun _=>rfl)
  (z+2) (fun _=>False) hlb HS.out.2.2.1 (fun q e=>e.elim) (fun v q hv ho=>by
   have:=HS.out.2.2.2.1.cell 0;rw[hv] at this;simp only[List.getElem?_toArray,List.getElem?_cons_zero,Option.some.injEq] at this
   subst this;cases ho)
  (fun _ V=>KpM (z+2) (fun _=>False) W2 V) (fun _ _ _=>False) (jN (Nat.le_refl _) hlb HS.out.2.2.1) (fun c s X Y row h _ _=>h) (KpM.refl _ _ _)
  (fun T y b=>T.setIfInBounds 24 (.agg #[.int .i64 (y.1.1:Int),.int .i64 (y.1.2.1:Int),.int .i64 (y.1.2.2:Int)])) (fun _ _ _=>True) ?hBx ?assign ?body ?done ?stop
 case hBx=>exact fun y b' s X Y row h hg hr=>trivial
 case assign =>
  rintro l2 pre y V Kc hrV hsV hi hK;exact y.2.elim
 case stop=>exact fun _ _ _ _ h=>h.elim
 case body =>
  rintro l2 pre y b9 V hrV hsV hi-hlt2;exact y.2.elim
 case done =>
  rintro ys V5 rfl hkp hrV pD hD;have bw5:Below w.heap.size w V5:=HS.out.2.2.2.2.trans (((hkp HS.out.2.2.1).1).below (fun q _ ha=>by
   rcases ha with ha|⟨u,hu,ho⟩
   ·exact ha.elim
   ·have:=HS.out.2.2.2.1.cell 0;rw[hu] at this;simp only[List.getElem?_toArray,List.getElem?_cons_zero,Option.some.injEq] at this
    subst this;cases ho) HS.out.2.2.2.2.size)
  have k5:=hkp.blk HS.out.2.2.1 ⟨hlb,fun ha=>by
   rcases ha with ha|⟨u,hu,ho⟩
   ·exact ha
   ·have:=HS.out.2.2.2.1.cell 0;rw[hu] at this;simp only[List.getElem?_toArray,List.getElem?_cons_zero,Option.some.injEq] at this
    subst this;cases ho⟩ HS.out.2.2.2.1
  have c6:V5.cell? ⟨z+2,0,none⟩=some (.bool false):=k5.cell 0;have f6:=k5.frozen 0;have hln:=IQ V5;have hcp:=DA V5;have k6:=k5.set 0 (.bool true);have us:Upd (fun q=>q=z+2) V5 (V5.setCell ⟨z+2,0,none⟩ (.bool true)):=(Upd.refl (fun q=>q=z+2) V5).setCell (p:=⟨z+2,0,none⟩) (.inl rfl) _;have bw6:=bw5.trans (us.below (B:=w.heap.size) (fun q _ e=>by have:=H.out.2.2.2;omega) bw5.size);have HD:=aI4 k6 bw6 (show Prv (z+2) (fun _=>False) (V5.setCell ⟨z+2,0,none⟩ (.bool true)) W2.heap.size from⟨Nat.lt_of_lt_of_le pD.1 us.size,fun ha=>by
   rcases ha with ha|⟨u,hu,ho⟩
   ·exact ha
   ·have:=k6.cell 0;rw[hu] at this;simp only[List.getElem?_toArray,List.setIfInBounds_toArray,List.set_cons_zero,List.getElem?_cons_zero,Option.some.injEq] at this
    subst this;cases ho⟩) ((us.block W2.heap.size pD.1 (fun e=>by omega)).trans hD)
  clear hkp hrV pD hD bw5 k5 k6 us bw6;go_wp2_with fail;refine hln.mono ?_;clear hln;rintro e V ⟨rfl,hw⟩;subst V;go_wp2_with fail;refine hcp.mono ?_;clear hcp;rintro e V ⟨rfl,hw⟩;subst V;go_wp2;have c7:(V5.setCell ⟨z+2,0,none⟩ (.bool true)).cell? ⟨z+2,0,none⟩=some (.bool true):=HD.out.1.cell 0;generalize V5.setCell ⟨z+2,0,none⟩ (.bool true)=V6 at HD c7 ⊢;refine fX (lb:=z+2) (B:=W2.heap.size) (F:=fun _=>False) (fun w1=>Blk w1 (z+2) 4 #[.bool true]∧Below w.heap.size w w1) ?_ hlb ?_ [W2.heap.size] V6 (by simp) (fun D hD'=>?_) HD.out.1.lt ⟨HD.out.1,HD.out.2.1⟩
  ·rintro s X Y row ⟨h1,h2⟩ hgr hr;exact⟨h1.grown hgr (fun e=>by have:=(hr (z+2) e.symm).1;omega),h2.grown hgr h2.size (fun r e=>by have:=(hr r e).1;have:=HS.out.2.2.2.2.size;omega)⟩
  ·rintro w1 ⟨h1,h2⟩;have y0:w1.cell? ⟨z+2,0,none⟩=some (.bool true):=h1.cell 0;exact⟨.bool true,by simp[results,Tryz.f11,go_sem,y0],rfl,h2⟩
  ·simp only[List.mem_singleton] at hD'
   subst hD';exact⟨Nat.le_refl _,HD.out.2.2.1,HD.out.2.2.2⟩
open Go.RowKit Go.Shelf
structure GwS(w W:World)(FT0 FN0:Nat→Prop)(nts gb:Nat)(mv vn:Value)(T N:aX)(L:List (Nat × Nat × Nat))(v:Value)(Ds:List Nat)(FT FN:Nat→Prop):Prop where
 mt:MtS W FT mv 32 nts T
 mn:MtS W FN vn 32 nts N
 u:Upd (fun k=>FT0 k∨FN0 k) w W
 ft:∀k,FT k→FT0 k∨w.heap.size≤k
 fn:∀k,FN k→FN0 k∨w.heap.size≤k
 tn:∀k,FT k→¬FN k
 gt:¬FT gb
 gn:¬FN gb
 l:LsB W w.heap.size gb L v
 rt:∀q,v.ownBlock=some q→¬FT q∧¬FN q
 g0:w.heap.size≤gb
 nd:Ds.Nodup
 ds:∀D∈Ds,w.heap.size<D∧D<W.heap.size∧¬FT D∧¬FN D∧D≠gb∧v.ownBlock≠some D∧W.heap[D]?=some (.deferred (some []))
section
variable {w W W':World} {FT0 FN0 FT FN R:Nat→Prop} {nts gb:Nat} {mv vn:Value} {T N:aX} {L:List (Nat × Nat × Nat)} {v:Value} {Ds:List Nat}
theorem GwS.upd(h:GwS w W FT0 FN0 nts gb mv vn T N L v Ds FT FN)(hu:Upd R W W')(hR:∀k,R k→¬FT k∧¬FN k∧k≠gb∧v.ownBlock≠some k∧w.heap.size≤k∧k ∉ Ds):GwS w W' FT0 FN0 nts gb mv vn T N L v Ds FT FN:=
 ⟨h.mt.upd hu (fun k hk hr=>(hR k hr).1 hk),h.mn.upd hu (fun k hk hr=>(hR k hr).2.1 hk),h.u.trans hu (fun k hk=>.inr (hR k hk).2.2.2.2.1),h.ft,h.fn,h.tn,h.gt,h.gn,h.l.upd hu (fun hr=>(hR gb hr).2.2.1 rfl) (fun q hq hr=>(hR q hr).2.2.2.1 hq),h.rt,h.g0,h.nd,
  fun D hD=>by
   obtain⟨h1,h2,h3,h4,h5,h6,h7⟩:=h.ds D hD;exact⟨h1,Nat.lt_of_lt_of_le h2 hu.size,h3,h4,h5,h6,(hu.block D h2 (fun hr=>(hR D hr).2.2.2.2.2 hD)).trans h7⟩⟩
theorem GwS.below(h:GwS w W FT0 FN0 nts gb mv vn T N L v Ds FT FN)(hb:Below W.heap.size W W'):GwS w W' FT0 FN0 nts gb mv vn T N L v Ds FT FN:=h.upd (upF hb) (fun _ h=>h.elim)
theorem GwS.put(h:GwS w W FT0 FN0 nts gb mv vn T N L v Ds FT FN)(hb:Below W.heap.size W W'){q k:Nat}{m:Option (List Nat)}(hq:eX W.heap.size q 32 m W')(hk:k<nts) :
  ∃g c v0 FN',vn=.slice (some ⟨g,0,none⟩) nts c∧W'.cell? ⟨g,k,none⟩=some v0∧W'.frozen? ⟨g,k,none⟩=false∧FN g∧GwS w (W'.setCell ⟨g,k,none⟩ (.pointer (some ⟨q,0,none⟩))) FT0 FN0 nts gb mv vn T (upM N k m) L v Ds FT FN'∧(∀x,FN' x→FN x∨W.heap.size≤x):=by
 have h':=h.below hb;obtain⟨Fq,hqs,hFq⟩:=hq;have hTl:=h.mt.lt;have hNl:=h.mn.lt;obtain⟨g,c,v0,e,c0,f0,hg,FN',hm,hF⟩:=h'.mn.put hk hqs (fun x hx hn=>by have:=hFq x hx;have:=hNl x hn;omega);have us:Upd (fun x=>x=g) W' (W'.setCell ⟨g,k,none⟩ (.pointer (some ⟨q,0,none⟩))):=(Upd.refl (fun x=>x=g) W').setCell (p:=⟨g,k,none⟩) (.inl rfl) _;have hF':∀x,FN' x→FN x∨W.heap.size≤x:=fun x hx=>(hF x hx).imp id (hFq x)
 have hgl:=h.l.b.lt;have hus:=h.u.size;refine⟨g,c,v0,FN',e,c0,f0,hg,⟨h'.mt.upd us (fun x hx e=>h.tn x hx (e ▸ hg)),hm,h'.u.trans us (fun x e=>(h.fn x (e ▸ hg)).imp .inr id),h.ft,fun x hx=>?_,fun x hx hn=>?_,h.gt,fun hn=>?_,h'.l.upd us (fun e=>h.gn (e ▸ hg)) (fun x hx e=>(h.rt x hx).2 (e ▸ hg)),fun x hx=>⟨(h.rt x hx).1,fun hn=>?_⟩,h.g0,h.nd,fun D hD=>?_⟩,hF'⟩
 ·rcases hF' x hx with h1|h1
  ·exact h.fn x h1
  ·exact .inr (by omega)
 ·rcases hF' x hn with h1|h1
  ·exact h.tn x hx h1
  ·have:=hTl x hx;omega
 ·rcases hF' gb hn with h1|h1
  ·exact h.gn h1
  ·omega
 ·rcases hF' x hn with h1|h1
  ·exact(h.rt x hx).2 h1
  ·have:=(h.l.own.lt x hx).2;omega
 ·obtain⟨h1,h2,h3,h4,h5,h6,h7⟩:=h'.ds D hD;have h8:=(h.ds D hD).2.1;exact⟨h1,Nat.lt_of_lt_of_le h2 us.size,h3,fun hn=>(hF' D hn).elim h4 (fun _=>by omega),h5,h6,(us.block D h2 (fun e=>h4 (e ▸ hg))).trans h7⟩
theorem GwS.range(h:GwS w W FT0 FN0 nts gb mv vn T N L v Ds FT FN){sb:Nat}{b:Bool}(hs:Blk W sb 4 #[.bool b])(s0:w.heap.size≤sb)(s1:¬FT sb)(s2:¬FN sb)(kp:KpM gb (fun q=>q=gb∨q=sb) W W'){L':List (Nat × Nat × Nat)}{v':Value}(hl:LsB W' w.heap.size gb L' v')
  (pD:Prv gb (fun q=>q=gb∨q=sb) W' W.heap.size) (hD:W'.heap[W.heap.size]?=some (.deferred (some []))):GwS w W' FT0 FN0 nts gb mv vn T N L' v' (W.heap.size::Ds) FT FN:=by
 have rg:=h.l.rg;have alw:∀q,RM gb (fun q=>q=gb∨q=sb) W q→¬FT q∧¬FN q∧w.heap.size≤q:=fun q hq=>by
  rcases hq with (rfl|rfl)|⟨u,hu,ho⟩
  ·exact⟨h.gt,h.gn,h.g0⟩
  ·exact⟨s1,s2,s0⟩
  ·obtain rfl:=h.l.is hu;exact⟨(h.rt q ho).1,(h.rt q ho).2,(h.l.own.lt q ho).1⟩
 obtain⟨hu,hr⟩:=kp rg;have hTl:=h.mt.lt;have hNl:=h.mn.lt;have hws:=h.u.size;have prv:∀D∈Ds,Prv gb (fun q=>q=gb∨q=sb) W D:=fun D hD=>by
  obtain⟨h1,h2,h3,h4,h5,h6,h7⟩:=h.ds D hD;refine⟨h2,?_⟩;rintro ((e|rfl)|⟨u,hu,ho⟩)
  ·exact h5 e
  ·rw[show W.heap[D]?=_ from hs] at h7;cases h7
  ·obtain rfl:=h.l.is hu;exact h6 ho
 have out:∀D,Prv gb (fun q=>q=gb∨q=sb) W' D→D≠gb∧v'.ownBlock≠some D:=fun D hp=>⟨fun e=>hp.2 (.inl (.inl e)),fun e=>hp.2 (.inr ⟨v',hl.b.cell 0,e⟩)⟩
 refine⟨h.mt.upd hu (fun k hk ha=>(alw k ha).1 hk),h.mn.upd hu (fun k hk ha=>(alw k ha).2.1 hk),h.u.trans hu (fun k hk=>.inr (alw k hk).2.2),h.ft,h.fn,h.tn,h.gt,h.gn,hl,fun q hq=>?_,h.g0,?_,fun D hD'=>?_⟩
 ·have h2:=hr v' q (hl.b.cell 0) hq;by_cases e:q<W.heap.size
  ·obtain⟨u,hu,ho⟩:=h2.2 e;obtain rfl:=h.l.is hu;exact h.rt q ho
  ·exact⟨fun hf=>e (hTl q hf),fun hf=>e (hNl q hf)⟩
 ·rw[List.nodup_cons];exact⟨fun hm=>by have:=(h.ds _ hm).2.1;omega,h.nd⟩
 ·rcases List.mem_cons.1 hD' with rfl|hm
  ·have hgl:=h.l.b.lt;have:=h.g0;exact⟨by omega,pD.1,fun hf=>by have:=hTl _ hf;omega,fun hf=>by have:=hNl _ hf;omega,(out _ pD).1,(out _ pD).2,hD⟩
  ·obtain⟨h1,h2,h3,h4,h5,h6,h7⟩:=h.ds D hm;have h8:=kp.prv rg (prv D hm);exact⟨h1,h8.2.1,h3,h4,(out _ h8.2).1,(out _ h8.2).2,h8.1.trans h7⟩
theorem GwS.turn(h:GwS w W FT0 FN0 nts gb mv vn T N L v Ds FT FN){a:Nat}(ha:a<nts) :
  ∃g c q Fq,mv=.slice (some ⟨g,0,none⟩) nts c∧W.cell? ⟨g,a,none⟩=some (.pointer (some ⟨q,0,none⟩))∧QuS W Fq q 32 (T a)∧∀(m:Option (List Nat)) (W':World),QTo W Fq q 32 m W'→(∃FT',GwS w W' FT0 FN0 nts gb mv vn (upM T a m) N L v Ds FT' FN∧∀x,FT' x→FT x∨W.heap.size≤x)∧Upd FT W W':=by
 obtain⟨g,c,q,Fq,e,c0,hq,hs,ht⟩:=h.mt.turn ha;refine⟨g,c,q,Fq,e,c0,hq,fun m W' hto=>?_⟩;obtain⟨FT',hm,hu,hF⟩:=ht m W' hto;have hNl:=h.mn.lt;have hgl:=h.l.b.lt;have hws:=h.u.size;refine⟨⟨FT',⟨hm,h.mn.upd hu (fun k hk hf=>h.tn k hf hk),h.u.trans hu (fun k hk=>(h.ft k hk).imp .inl id),fun k hk=>?_,h.fn,fun k hk hn=>?_,fun hk=>?_,h.gn,h.l.upd hu h.gt (fun x hx=>(h.rt x hx).1),fun x hx=>⟨fun hk=>?_,(h.rt x hx).2⟩,h.g0,h.nd,fun D hD=>?_⟩,hF⟩,hu⟩
 ·rcases hF k hk with h1|h1
  ·exact h.ft k h1
  ·exact .inr (by omega)
 ·rcases hF k hk with h1|h1
  ·exact h.tn k h1 hn
  ·have:=hNl k hn;omega
 ·rcases hF gb hk with h1|h1
  ·exact h.gt h1
  ·omega
 ·rcases hF x hk with h1|h1
  ·exact(h.rt x hx).1 h1
  ·have:=(h.l.own.lt x hx).2;omega
 ·obtain⟨h1,h2,h3,h4,h5,h6,h7⟩:=h.ds D hD;exact⟨h1,Nat.lt_of_lt_of_le h2 hu.size,fun hn=>(hF D hn).elim h3 (fun _=>by omega),h4,h5,h6,(hu.block D h2 h3).trans h7⟩
theorem GwS.next(h:GwS w W FT0 FN0 nts gb mv vn T N L v Ds FT FN)(hb:Below W.heap.size W W'){vn':Value}{N':aX}{FN':Nat→Prop}(hm:MtS W' FN' vn' 32 nts N')(hF:∀k,FN' k→W.heap.size≤k):GwS w W' FT0 FN0 nts gb mv vn' T N' L v Ds FT FN':=by
 have h':=h.below hb;have hTl:=h.mt.lt;have hgl:=h.l.b.lt;have hws:=h.u.size;exact⟨h'.mt,hm,h'.u,h.ft,fun k hk=>.inr (by have:=hF k hk;omega),fun k hk hn=>by have:=hTl k hk;have:=hF k hn;omega,h.gt,fun hn=>by have:=hF _ hn;omega,h'.l,fun q hq=>⟨(h.rt q hq).1,fun hn=>by have:=hF _ hn;have:=(h.l.own.lt q hq).2;omega⟩,h.g0,h.nd,
  fun D hD=>by
   obtain⟨h1,h2,h3,h4,h5,h6,h7⟩:=h'.ds D hD;exact⟨h1,h2,h3,fun hn=>by have:=hF _ hn;have:=(h.ds D hD).2.1;omega,h5,h6,h7⟩⟩
end
structure SbI(w W:World)(sb gb:Nat)(b:Bool)(v:Value)(FT FN:Nat→Prop):Prop where
 k:Blk W sb 4 #[.bool b]
 t:¬FT sb
 n:¬FN sb
 r:v.ownBlock≠some sb
 d:gb≠sb
 w0:w.heap.size≤sb
theorem zN(w:World)(base:Nat)(A:Option Addr)(c:Nat)(L:List (Nat × Nat × Nat))(h:w.ownsRow base 25 3 (.slice A L.length c) L.length (cP L))(hnd:L.Nodup)(hl:L.length≤140737488355328) :
  Calls Tryz.prog 95 #[.slice A L.length c,.func (.func 96) #[] #[]] w (fun e w'=>e=.returned (.tuple #[])∧∃M,M.Perm L∧M.Pairwise ltF∧w'.ownsRow base 25 3 (.slice A L.length c) L.length (cP M)∧Upd (fun q=>(Value.slice A L.length c).ownBlock=some q) w w'):=by
 by_cases h0:L.length=0
 ·have hL:=List.eq_nil_of_length_eq_zero h0;subst hL;have hs0:=AnyF.slices_SortFunc_none QH A c (.func (.func 96) #[] #[]) w;change Calls Tryz.prog 95 _ _ _ at hs0
  refine hs0.mono ?_;rintro e w' ⟨rfl,rfl⟩;exact⟨rfl,[],List.Perm.refl _,List.Pairwise.nil,h,Upd.refl _ _⟩
 ·obtain⟨g,c',e,-,-,-,-,-⟩:=aL h (by omega);injection e with e1 e2 e3;subst e1;subst e3;refine(zK w base g c L h hl).mono ?_;rintro e w' ⟨rfl,d,hi,own,hu⟩;refine⟨rfl,d.toList,hi.p,?_,own,hu.mono (fun i _ e=>by subst e;rfl)⟩;rw[List.pairwise_iff_getElem];intro i j hi' hj' hij;have h1:=hi.s i j hij (by simpa using hj');have e1:d.toList[i]=d[i]!:=by rw[getElem!_pos d i (by simpa using hi')];simp
  have e2:d.toList[j]=d[j]!:=by rw[getElem!_pos d j (by simpa using hj')];simp
  rw[e1,e2];have hne:d[i]! ≠ d[j]!:=by
   rw[← e1,← e2];exact fun e=>by have:=(List.getElem_inj (hi.p.nodup_iff.2 hnd)).1 e;omega
  cases h2:EJ d[i]! d[j]! with
  | true=>exact mS.1 h2
  | false=>exact(hne (QG.tri _ _ h2 h1)).elim
open Go.RowKit Go.Shelf
theorem lZ{w:World}{g:Nat}{t:TypeId}{cs:List Value}(h:Blk w g t cs.toArray):bS w (some ⟨g,0,none⟩) cs:=fun j u hj=>⟨g,0,rfl,by rw[Nat.zero_add,h.cell j];simpa using hj⟩
def cC:List Pr:=[⟨0,[⟨false,1⟩,⟨false,2⟩]⟩,⟨1,[⟨true,0⟩]⟩,⟨2,[⟨false,0⟩,⟨false,2⟩]⟩,⟨2,[⟨true,1⟩]⟩]
def LG(w:World)(e:Ending)(w':World):Prop:=∃(g c:Nat) (PV:List Pv),e=.returned (.agg #[.int .i64 3,.slice (some ⟨g,0,none⟩) 4 c])∧PvR w' (some ⟨g,0,none⟩) PV∧PV.map (·.pr)=cC∧Below w.heap.size w w'
theorem pM(w:World):Calls Tryz.prog 8 #[] w (LG w):=by
 go_enter Tryz.func8,Tryz.ntmps8;go_upto_region 2 with (fail);have i1:Below w.heap.size w (((w.alloc (.cells #[.int .i64 0,.slice none 0 0] 32)).alloc (.cells #[.bool true,.int .i64 0] 101)).alloc (.cells #[.bool true,.int .i64 1] 101)):=by(repeat (first | exact Below.refl _ _ | apply Below.drew | refine Below.alloc ?_ (by first | exact Nat.le_refl _ | (simp;done) | (simp;omega)) _ | refine Below.setCell ?_ (by first | exact Nat.le_refl _ | (simp;done) | (simp;omega)) _))
 have i2:Blk (((w.alloc (.cells #[.int .i64 0,.slice none 0 0] 32)).alloc (.cells #[.bool true,.int .i64 0] 101)).alloc (.cells #[.bool true,.int .i64 1] 101)) w.heap.size 32 #[.int .i64 0,.slice none 0 0]:=((Blk.new w _ _).alloc _).alloc _;have s1:Blk (((w.alloc (.cells #[.int .i64 0,.slice none 0 0] 32)).alloc (.cells #[.bool true,.int .i64 0] 101)).alloc (.cells #[.bool true,.int .i64 1] 101)) (w.heap.size+1) 101 #[.bool true,.int .i64 0]:=by
  have:=(Blk.new (w.alloc (.cells #[.int .i64 0,.slice none 0 0] 32)) 101 #[.bool true,.int .i64 0]).alloc (.cells #[.bool true,.int .i64 1] 101);simpa only [World.size_alloc] using this
 have s2:Blk (((w.alloc (.cells #[.int .i64 0,.slice none 0 0] 32)).alloc (.cells #[.bool true,.int .i64 0] 101)).alloc (.cells #[.bool true,.int .i64 1] 101)) (w.heap.size+1+1) 101 #[.bool true,.int .i64 1]:=by
  have:=Blk.new ((w.alloc (.cells #[.int .i64 0,.slice none 0 0] 32)).alloc (.cells #[.bool true,.int .i64 0] 101)) 101 #[.bool true,.int .i64 1];simpa only [World.size_alloc] using this
 generalize ((w.alloc (.cells #[.int .i64 0,.slice none 0 0] 32)).alloc (.cells #[.bool true,.int .i64 0] 101)).alloc (.cells #[.bool true,.int .i64 1] 101)=W5 at i1 i2 s1 s2 ⊢;have l1:=s1.alloc (.cells #[.bool false,.int .i64 1,.bool false,.int .i64 2] 101);have a10:=l1.cell 0;have a11:=l1.cell 1;have l2:=((s2.alloc (.cells #[.bool false,.int .i64 1,.bool false,.int .i64 2] 101)).alloc (.cells #[.bool true,.int .i64 0] 101)).alloc (.cells #[.bool false,.int .i64 0,.bool false,.int .i64 2] 101);have a20:=l2.cell 0;have a21:=l2.cell 1;simp only[List.getElem?_toArray,List.getElem?_cons_zero,List.getElem?_cons_succ] at a10 a11 a20 a21
 have kz:=((((i2.alloc (.cells #[.bool false,.int .i64 1,.bool false,.int .i64 2] 101)).alloc (.cells #[.bool true,.int .i64 0] 101)).alloc (.cells #[.bool false,.int .i64 0,.bool false,.int .i64 2] 101)).alloc (.cells #[.bool true,.int .i64 1] 101)).alloc (.cells #[.int .i64 0,.slice (some ⟨W5.heap.size,0,none⟩) 2 2,.int .i64 1,.slice (some ⟨W5.heap.size+1,0,none⟩) 1 1,.int .i64 2,.slice (some ⟨W5.heap.size+1+1,0,none⟩) 2 2,.int .i64 2,.slice (some ⟨W5.heap.size+1+1+1,0,none⟩) 1 1] 76);have z0:=kz.cell 0;have fz0:=kz.frozen 0;have kz1:=kz.set 0 (.int .i64 3);have z1:=kz1.cell 1;have fz1:=kz1.frozen 1;have kz2:=kz1.set 1 (.slice (some ⟨W5.heap.size+1+1+1+1,0,none⟩) 4 4);have y0:=kz2.cell 0;have y1:=kz2.cell 1;simp only[List.getElem?_toArray,List.setIfInBounds_toArray,List.set_cons_zero,List.set_cons_succ,List.getElem?_cons_zero,List.getElem?_cons_succ] at z0 z1 y0 y1
 have hfar:∀k,w.heap.size+1≤k→¬k=w.heap.size:=fun k h=>by omega
 have hn5:w.heap.size+1≤W5.heap.size:=by have:=s1.lt;omega
 have FIN:=hIz (show LG w (.returned (.agg #[.int .i64 3,(.slice (some ⟨W5.heap.size+1+1+1+1,0,none⟩) 4 4)])) (((((((W5.alloc (.cells #[.bool false,.int .i64 1,.bool false,.int .i64 2] 101)).alloc (.cells #[.bool true,.int .i64 0] 101)).alloc (.cells #[.bool false,.int .i64 0,.bool false,.int .i64 2] 101)).alloc (.cells #[.bool true,.int .i64 1] 101)).alloc (.cells #[.int .i64 0,.slice (some ⟨W5.heap.size,0,none⟩) 2 2,.int .i64 1,.slice (some ⟨W5.heap.size+1,0,none⟩) 1 1,.int .i64 2,.slice (some ⟨W5.heap.size+1+1,0,none⟩) 2 2,.int .i64 2,.slice (some ⟨W5.heap.size+1+1+1,0,none⟩) 1 1] 76)).setCell ⟨w.heap.size,0,none⟩ (.int .i64 3)).setCell ⟨w.heap.size,1,none⟩ (.slice (some ⟨W5.heap.size+1+1+1+1,0,none⟩) 4 4)) from by
  have b16:=(((((Blk.new W5 101 #[.bool false,.int .i64 1,.bool false,.int .i64 2]).alloc (.cells #[.bool true,.int .i64 0] 101)).alloc (.cells #[.bool false,.int .i64 0,.bool false,.int .i64 2] 101)).alloc (.cells #[.bool true,.int .i64 1] 101)).alloc (.cells #[.int .i64 0,.slice (some ⟨W5.heap.size,0,none⟩) 2 2,.int .i64 1,.slice (some ⟨W5.heap.size+1,0,none⟩) 1 1,.int .i64 2,.slice (some ⟨W5.heap.size+1+1,0,none⟩) 2 2,.int .i64 2,.slice (some ⟨W5.heap.size+1+1+1,0,none⟩) 1 1] 76));have b19:=((((Blk.new (W5.alloc (.cells #[.bool false,.int .i64 1,.bool false,.int .i64 2] 101)) 101 #[.bool true,.int .i64 0]).alloc (.cells #[.bool false,.int .i64 0,.bool false,.int .i64 2] 101)).alloc (.cells #[.bool true,.int .i64 1] 101)).alloc (.cells #[.int .i64 0,.slice (some ⟨W5.heap.size,0,none⟩) 2 2,.int .i64 1,.slice (some ⟨W5.heap.size+1,0,none⟩) 1 1,.int .i64 2,.slice (some ⟨W5.heap.size+1+1,0,none⟩) 2 2,.int .i64 2,.slice (some ⟨W5.heap.size+1+1+1,0,none⟩) 1 1] 76));have b23:=(((Blk.new ((W5.alloc (.cells #[.bool false,.int .i64 1,.bool false,.int .i64 2] 101)).alloc (.cells #[.bool true,.int .i64 0] 101)) 101 #[.bool false,.int .i64 0,.bool false,.int .i64 2]).alloc (.cells #[.bool true,.int .i64 1] 101)).alloc (.cells #[.int .i64 0,.slice (some ⟨W5.heap.size,0,none⟩) 2 2,.int .i64 1,.slice (some ⟨W5.heap.size+1,0,none⟩) 1 1,.int .i64 2,.slice (some ⟨W5.heap.size+1+1,0,none⟩) 2 2,.int .i64 2,.slice (some ⟨W5.heap.size+1+1+1,0,none⟩) 1 1] 76));have b26:=((Blk.new (((W5.alloc (.cells #[.bool false,.int .i64 1,.bool false,.int .i64 2] 101)).alloc (.cells #[.bool true,.int .i64 0] 101)).alloc (.cells #[.bool false,.int .i64 0,.bool false,.int .i64 2] 101)) 101 #[.bool true,.int .i64 1]).alloc (.cells #[.int .i64 0,.slice (some ⟨W5.heap.size,0,none⟩) 2 2,.int .i64 1,.slice (some ⟨W5.heap.size+1,0,none⟩) 1 1,.int .i64 2,.slice (some ⟨W5.heap.size+1+1,0,none⟩) 2 2,.int .i64 2,.slice (some ⟨W5.heap.size+1+1+1,0,none⟩) 1 1] 76))
  have b28:=Blk.new ((((W5.alloc (.cells #[.bool false,.int .i64 1,.bool false,.int .i64 2] 101)).alloc (.cells #[.bool true,.int .i64 0] 101)).alloc (.cells #[.bool false,.int .i64 0,.bool false,.int .i64 2] 101)).alloc (.cells #[.bool true,.int .i64 1] 101)) 76 #[.int .i64 0,.slice (some ⟨W5.heap.size,0,none⟩) 2 2,.int .i64 1,.slice (some ⟨W5.heap.size+1,0,none⟩) 1 1,.int .i64 2,.slice (some ⟨W5.heap.size+1+1,0,none⟩) 2 2,.int .i64 2,.slice (some ⟨W5.heap.size+1+1+1,0,none⟩) 1 1];simp only[World.size_alloc] at b19 b23 b26 b28
  have d16:=(b16.far (p:=⟨w.heap.size,0,none⟩) (by show ¬W5.heap.size=w.heap.size;omega) (.int .i64 3)).far (p:=⟨w.heap.size,1,none⟩) (by show ¬W5.heap.size=w.heap.size;omega) (.slice (some ⟨W5.heap.size+1+1+1+1,0,none⟩) 4 4);have d19:=(b19.far (p:=⟨w.heap.size,0,none⟩) (by show ¬W5.heap.size+1=w.heap.size;omega) (.int .i64 3)).far (p:=⟨w.heap.size,1,none⟩) (by show ¬W5.heap.size+1=w.heap.size;omega) (.slice (some ⟨W5.heap.size+1+1+1+1,0,none⟩) 4 4);have d23:=(b23.far (p:=⟨w.heap.size,0,none⟩) (by show ¬W5.heap.size+1+1=w.heap.size;omega) (.int .i64 3)).far (p:=⟨w.heap.size,1,none⟩) (by show ¬W5.heap.size+1+1=w.heap.size;omega) (.slice (some ⟨W5.heap.size+1+1+1+1,0,none⟩) 4 4);have d26:=(b26.far (p:=⟨w.heap.size,0,none⟩) (by show ¬W5.heap.size+1+1+1=w.heap.size;omega) (.int .i64 3)).far (p:=⟨w.heap.size,1,none⟩) (by show ¬W5.heap.size+1+1+1=w.heap.size;omega) (.slice (some ⟨W5.heap.size+1+1+1+1,0,none⟩) 4 4);have d28:=(b28.far (p:=⟨w.heap.size,0,none⟩) (by show ¬W5.heap.size+1+1+1+1=w.heap.size;omega) (.int .i64 3)).far (p:=⟨w.heap.size,1,none⟩) (by show ¬W5.heap.size+1+1+1+1=w.heap.size;omega) (.slice (some ⟨W5.heap.size+1+1+1+1,0,none⟩) 4 4);have hb:Below W5.heap.size W5 (((((W5.alloc (.cells #[.bool false,.int .i64 1,.bool false,.int .i64 2] 101)).alloc (.cells #[.bool true,.int .i64 0] 101)).alloc (.cells #[.bool false,.int .i64 0,.bool false,.int .i64 2] 101)).alloc (.cells #[.bool true,.int .i64 1] 101)).alloc (.cells #[.int .i64 0,.slice (some ⟨W5.heap.size,0,none⟩) 2 2,.int .i64 1,.slice (some ⟨W5.heap.size+1,0,none⟩) 1 1,.int .i64 2,.slice (some ⟨W5.heap.size+1+1,0,none⟩) 2 2,.int .i64 2,.slice (some ⟨W5.heap.size+1+1+1,0,none⟩) 1 1] 76)):=by(repeat (first | exact Below.refl _ _ | apply Below.drew | refine Below.alloc ?_ (by first | exact Nat.le_refl _ | (simp;done) | (simp;omega)) _ | refine Below.setCell ?_ (by first | exact Nat.le_refl _ | (simp;done) | (simp;omega)) _))
  have hb9:Below w.heap.size w (((((((W5.alloc (.cells #[.bool false,.int .i64 1,.bool false,.int .i64 2] 101)).alloc (.cells #[.bool true,.int .i64 0] 101)).alloc (.cells #[.bool false,.int .i64 0,.bool false,.int .i64 2] 101)).alloc (.cells #[.bool true,.int .i64 1] 101)).alloc (.cells #[.int .i64 0,.slice (some ⟨W5.heap.size,0,none⟩) 2 2,.int .i64 1,.slice (some ⟨W5.heap.size+1,0,none⟩) 1 1,.int .i64 2,.slice (some ⟨W5.heap.size+1+1,0,none⟩) 2 2,.int .i64 2,.slice (some ⟨W5.heap.size+1+1+1,0,none⟩) 1 1] 76)).setCell ⟨w.heap.size,0,none⟩ (.int .i64 3)).setCell ⟨w.heap.size,1,none⟩ (.slice (some ⟨W5.heap.size+1+1+1+1,0,none⟩) 4 4)):=((tHn i1 hb).setCell (p:=⟨w.heap.size,0,none⟩) (Nat.le_refl _) _).setCell (p:=⟨w.heap.size,1,none⟩) (Nat.le_refl _) _;refine⟨W5.heap.size+1+1+1+1,4,[⟨⟨0,[⟨false,1⟩,⟨false,2⟩]⟩,some ⟨W5.heap.size,0,none⟩,2⟩,⟨⟨1,[⟨true,0⟩]⟩,some ⟨W5.heap.size+1,0,none⟩,1⟩,⟨⟨2,[⟨false,0⟩,⟨false,2⟩]⟩,some ⟨W5.heap.size+1+1,0,none⟩,2⟩,⟨⟨2,[⟨true,1⟩]⟩,some ⟨W5.heap.size+1+1+1,0,none⟩,1⟩],rfl,⟨lZ d28,fun v hv=>?_⟩,rfl,hb9⟩;simp only[List.mem_cons,List.not_mem_nil,or_false] at hv
  rcases hv with rfl|rfl|rfl|rfl
  ·exact lZ d16
  ·exact lZ d19
  ·exact lZ d23
  ·exact lZ d26)
 clear i1 i2 s1 s2 l1 l2 kz kz1 kz2 hfar hn5;go_wp2;generalize (((((((W5.alloc (.cells #[.bool false,.int .i64 1,.bool false,.int .i64 2] 101)).alloc (.cells #[.bool true,.int .i64 0] 101)).alloc (.cells #[.bool false,.int .i64 0,.bool false,.int .i64 2] 101)).alloc (.cells #[.bool true,.int .i64 1] 101)).alloc (.cells #[.int .i64 0,.slice (some ⟨W5.heap.size,0,none⟩) 2 2,.int .i64 1,.slice (some ⟨W5.heap.size+1,0,none⟩) 1 1,.int .i64 2,.slice (some ⟨W5.heap.size+1+1,0,none⟩) 2 2,.int .i64 2,.slice (some ⟨W5.heap.size+1+1+1,0,none⟩) 1 1] 76)).setCell ⟨w.heap.size,0,none⟩ (.int .i64 3)).setCell ⟨w.heap.size,1,none⟩ (.slice (some ⟨W5.heap.size+1+1+1+1,0,none⟩) 4 4))=WF at FIN y0 y1 ⊢;refine bodyPost_ret (v:=.agg #[.int .i64 3,(.slice (some ⟨W5.heap.size+1+1+1+1,0,none⟩) 4 4)]) (by simp[results,Tryz.f8,go_sem,y0,y1]) rfl FIN.out
open Go.RowKit Go.Shelf
def sX:Txt:=⟨#[120]⟩
def sY:Txt:=⟨#[121]⟩
def sZq:Txt:=⟨#[122]⟩
def sAq:Txt:=⟨#[97]⟩
def sB:Txt:=⟨#[98]⟩
def ed1:Ed:=⟨sX,sAq,sY⟩
def ed2:Ed:=⟨sY,sB,sZq⟩
def gr1:Gr:=⟨[sX,sY],[ed1]⟩
def gr2:Gr:=⟨[sX,sY,sZq],[ed1,ed2]⟩
theorem RY:ofI [] [ed1]=0:=by
 have h1:gN [] [ed1]=[sX,sY]:=by
  refine jO iE (by decide +kernel) (fun x=>?_);simp only[qA,ed1,pZ,List.flatMap_cons,List.flatMap_nil,List.mem_append,List.mem_cons,List.not_mem_nil,or_false]
  constructor
  ·rintro (rfl|rfl) <;> simp
  ·rintro (h|(rfl|rfl)) <;> simp_all
 have h2:gE [ed1]=[ed1]:=jO uM rfl (fun _=>Iff.rfl);have h3:lP ltT (lbs [ed1])=[sAq]:=jO iE rfl (fun x=>by simp[lbs,ed1]);rw[ofI,if_neg (by decide +kernel),h1,h2,eE,h3];rw[if_neg (by decide),if_neg (by decide),if_neg (by decide),if_neg (Nat.not_lt.2 (by unfold oL dR;decide +kernel))]
theorem RZ:ofI [sX,sY] [ed1,ed2]=0:=by
 have h1:gN [sX,sY] [ed1,ed2]=[sX,sY,sZq]:=by
  refine jO iE (by decide +kernel) (fun x=>?_);simp only[qA,ed1,ed2,pZ,List.flatMap_cons,List.flatMap_nil,List.mem_append,List.mem_cons,List.not_mem_nil,or_false]
  constructor
  ·rintro (rfl|rfl|rfl) <;> simp
  ·rintro ((rfl|rfl)|((rfl|rfl)|(rfl|rfl))) <;> simp
 have h2:gE [ed1,ed2]=[ed1,ed2]:=jO uM (by decide +kernel) (fun _=>Iff.rfl);have h3:lP ltT (lbs [ed1,ed2])=[sAq,sB]:=jO iE (by decide +kernel) (fun x=>by simp[lbs,ed1,ed2]);rw[ofI,if_neg (by decide +kernel),h1,h2,eE,h3];rw[if_neg (by decide),if_neg (by decide),if_neg (by decide),if_neg (Nat.not_lt.2 (by unfold oL dR;decide +kernel))]
theorem rQ{N:List Txt}{s:Txt}(h:inB s N=false):cQ N s=N++[s]:=by
 unfold cQ;rw[h];rfl
theorem KB{N:List Txt}{s:Txt}(h:inB s N=true):cQ N s=N:=by
 unfold cQ;rw[h];rfl
theorem SB:aO ⟨[],[]⟩ ed1=(gr1,true,0):=by
 rw[nQ (by simp) RY];have h1:cQ [] sX=[sX]:=rQ (by decide +kernel);have h2:cQ [sX] sY=[sX,sY]:=rQ (by decide +kernel);show((⟨cQ (cQ [] sX) sY,[]++[ed1]⟩:Gr),true,(0:Int))=_
 rw[h1,h2];rfl
theorem SC:aO gr1 ed2=(gr2,true,0):=by
 rw[nQ (by show ed2 ∉ [ed1];simp[ed1,ed2];decide +kernel) RZ];have h1:cQ [sX,sY] sY=[sX,sY]:=KB (by decide +kernel);have h2:cQ [sX,sY] sZq=[sX,sY,sZq]:=rQ (by decide +kernel);show((⟨cQ (cQ [sX,sY] sY) sZq,[ed1]++[ed2]⟩:Gr),true,(0:Int))=_
 rw[h1,h2];rfl
theorem xS{i:Nat}{s:Txt}(h:gr2.N[i]?=some s):(i=0∧s=sX)∨(i=1∧s=sY)∨(i=2∧s=sZq):=by
 match i,h with
 | 0,h=>exact .inl ⟨rfl,(Option.some.inj h).symm⟩
 | 1,h=>exact .inr (.inl ⟨rfl,(Option.some.inj h).symm⟩)
 | 2,h=>exact .inr (.inr ⟨rfl,(Option.some.inj h).symm⟩)
 | n+3,h=>simp[gr2] at h
theorem NZ:sX≠sY:=by decide +kernel
theorem QQ:sX≠sZq:=by decide +kernel
theorem OA:sY≠sZq:=by decide +kernel
theorem OB:sAq≠sB:=by decide +kernel
theorem SZ{i j:Nat}(h:ElG gr2 [sAq,sB] 0 i j):i=0∧j=1:=by
 obtain⟨lb,hl,x,hx,he,h1,h2⟩:=h;obtain rfl:sAq=lb:=Option.some.inj hl;have hx:x∈[ed1,ed2]:=hx;simp only[List.mem_cons,List.not_mem_nil,or_false] at hx
 rcases hx with rfl|rfl
 ·have h1:gr2.N[i]?=some sX:=h1;have h2:gr2.N[j]?=some sY:=h2;refine⟨?_,?_⟩
  ·rcases xS h1 with ⟨e,-⟩|⟨-,e⟩|⟨-,e⟩
   ·exact e
   ·exact absurd e NZ
   ·exact absurd e QQ
  ·rcases xS h2 with ⟨-,e⟩|⟨e,-⟩|⟨-,e⟩
   ·exact absurd e.symm NZ
   ·exact e
   ·exact absurd e OA
 ·exact absurd he.symm OB
theorem TG{i j:Nat}(h:ElG gr2 [sAq,sB] 1 i j):i=1∧j=2:=by
 obtain⟨lb,hl,x,hx,he,h1,h2⟩:=h;obtain rfl:sB=lb:=Option.some.inj hl;have hx:x∈[ed1,ed2]:=hx;simp only[List.mem_cons,List.not_mem_nil,or_false] at hx
 rcases hx with rfl|rfl
 ·exact absurd he OB
 ·have h1:gr2.N[i]?=some sY:=h1;have h2:gr2.N[j]?=some sZq:=h2;refine⟨?_,?_⟩
  ·rcases xS h1 with ⟨-,e⟩|⟨e,-⟩|⟨-,e⟩
   ·exact absurd e.symm NZ
   ·exact e
   ·exact absurd e OA
  ·rcases xS h2 with ⟨-,e⟩|⟨-,e⟩|⟨e,-⟩
   ·exact absurd e.symm QQ
   ·exact absurd e.symm OA
   ·exact e
def eU(a:Int)(i j:Nat):Prop:=(a=1∧i=0∧j=1)∨(a=2∧i=1∧j=2)∨(a=0∧i=0∧j=2)
theorem SD{a:Int}{i j:Nat}:gU cC (ElG gr2 [sAq,sB]) 3 a i j↔eU a i j:=by
 have d1:gU cC (ElG gr2 [sAq,sB]) 3 1 0 1:=.one (s:=⟨true,0⟩) (by simp[cC]) ⟨sAq,rfl,ed1,by simp[gr2],rfl,rfl,rfl⟩;have d2:gU cC (ElG gr2 [sAq,sB]) 3 2 1 2:=.one (s:=⟨true,1⟩) (by simp[cC]) ⟨sB,rfl,ed2,by simp[gr2],rfl,rfl,rfl⟩;constructor
 ·intro d;have hc:pH cC (ElG gr2 [sAq,sB]) 3 eU:=by
   refine⟨fun a i h=>?_,fun a s i j h he=>?_,fun a s t i k j h h1 h2=>?_⟩
   ·simp[cC] at h
   ·simp only[cC,List.mem_cons,List.not_mem_nil,or_false,Pr.mk.injEq,List.cons.injEq] at h
    rcases h with ⟨-,-,h⟩|⟨rfl,rfl,-⟩|⟨-,-,h⟩|⟨rfl,rfl,-⟩
    ·cases h
    ·exact .inl ⟨rfl,SZ he⟩
    ·cases h
    ·exact .inr (.inl ⟨rfl,TG he⟩)
   ·simp only[cC,List.mem_cons,List.not_mem_nil,or_false,Pr.mk.injEq,List.cons.injEq] at h
    rcases h with ⟨rfl,rfl,rfl,-⟩|⟨-,-,h⟩|⟨rfl,rfl,rfl,-⟩|⟨-,-,h⟩
    ·unfold eU at h1 h2 ⊢;dsimp only at h1 h2
     omega
    ·cases h
    ·unfold eU at h1 h2 ⊢;dsimp only at h1 h2
     omega
    ·cases h
  exact hc.least d
 ·rintro (⟨rfl,rfl,rfl⟩|⟨rfl,rfl,rfl⟩|⟨rfl,rfl,rfl⟩)
  ·exact d1
  ·exact d2
  ·exact .two (s:=⟨false,1⟩) (t:=⟨false,2⟩) (by simp[cC]) d1 d2
theorem QR{r s:List Nat}(hr:Wd r)(hs:Wd s)(h:∀i j,i<64→eQ r i j=eQ s i j):r=s:=by
 apply List.ext_getElem?
 intro i;by_cases hi:i<64
 ·have h1:r[i]?=some (r[i]?.getD 0):=by rw[gEz (by rw[hr.len];exact hi)];rfl
  have h2:s[i]?=some (s[i]?.getD 0):=by rw[gEz (by rw[hs.len];exact hi)];rfl
  rw[h1,h2];exact congrArg some (Nat.eq_of_testBit_eq (fun j=>h i j hi))
 ·rw[List.getElem?_eq_none (by rw[hr.len];omega),List.getElem?_eq_none (by rw[hs.len];omega)]
theorem len_one{b:Option (List Nat)}(hb:WdO b){i0 j0:Nat}(hi:i0<64)(hj:j0<64)(h:∀i j,aY b i j=true↔i=i0∧j=j0):bU b=List.zipWith orN aT (jT i0 j0):=by
 have hbit:∀i j,i<64→eQ (List.zipWith orN aT (jT i0 j0)) i j=decide (i=i0∧j=j0):=fun i j hi'=>by
  rw[LC cR hi hi'];have:eQ aT i j=false:=by
   have:=jQ none (i:=i) (j:=j) hi';exact this
  rw[this,Bool.false_or]
 have hwd:Wd (List.zipWith orN aT (jT i0 j0)):=by
  have h1:WdO (joinO none (jT i0 j0)):=WdO.joinO (b:=none) (fun r e=>by cases e) (qO hj);refine h1 _ ?_;unfold joinO;rw[if_neg (CC hi)];rfl
 refine QR hb.old hwd (fun i j hi'=>?_);rw[jQ b hi',hbit i j hi',Bool.eq_iff_iff,h i j,decide_eq_true_eq]
theorem SE{B:aX}(hw:∀k,WdO (B k))(h:∀k,k<3→∀i j,aY (B k) i j=true↔eU (k:Int) i j):JU B 3=3:=by
 have h0:=len_one (hw 0) (i0:=0) (j0:=2) (by decide) (by decide) (fun i j=>by rw[h 0 (by omega)];unfold eU;simp);have h1:=len_one (hw 1) (i0:=0) (j0:=1) (by decide) (by decide) (fun i j=>by rw[h 1 (by omega)];unfold eU;simp);have h2:=len_one (hw 2) (i0:=1) (j0:=2) (by decide) (by decide) (fun i j=>by rw[h 2 (by omega)];unfold eU;simp);show 0+dB (bU (B 0))+dB (bU (B 1))+dB (bU (B 2))=3
 rw[h0,h1,h2];decide +kernel
theorem SG{PV:List Pv}(h:PV.map (·.pr)=cC):fK 3 PV [sAq,sB]=0:=by
 have hl:PV.length=4:=by have:=congrArg List.length h;simpa[cC] using this
 have hs:∀p∈cC,bX p 3 2=true:=by decide
 unfold fK;rw[if_neg (by rw[hl];decide),if_pos ⟨by decide +kernel,fun v hv=>hs v.pr (by rw[← h];exact List.mem_map.2 ⟨v,hv,rfl⟩)⟩]
theorem SH{i j:Nat}(h:ElG gr1 [sAq,sB] 0 i j):i=0∧j=1:=by
 refine SZ ?_;obtain⟨lb,hl,x,hx,he,h1,h2⟩:=h;have hx:x∈[ed1]:=hx;refine⟨lb,hl,x,by show x∈[ed1,ed2];simp only[List.mem_cons,List.not_mem_nil,or_false] at hx ⊢;exact .inl hx,he,?_,?_⟩
 ·have:gr2.N=gr1.N++[sZq]:=rfl;rw[this,List.getElem?_append_left (gO.1 h1).1];exact h1
 ·have:gr2.N=gr1.N++[sZq]:=rfl;rw[this,List.getElem?_append_left (gO.1 h2).1];exact h2
theorem SI{i j:Nat}(h:ElG gr1 [sAq,sB] 1 i j):False:=by
 obtain⟨lb,hl,x,hx,he,h1,h2⟩:=h;obtain rfl:sB=lb:=Option.some.inj hl;have hx:x∈[ed1]:=hx;simp only[List.mem_cons,List.not_mem_nil,or_false] at hx
 subst hx;exact OB he
theorem SJ{a:Int}{i j:Nat}:gU cC (ElG gr1 [sAq,sB]) 2 a i j↔a=1∧i=0∧j=1:=by
 have d1:gU cC (ElG gr1 [sAq,sB]) 2 1 0 1:=.one (s:=⟨true,0⟩) (by simp[cC]) ⟨sAq,rfl,ed1,by simp[gr1],rfl,rfl,rfl⟩;constructor
 ·intro d;have hc:pH cC (ElG gr1 [sAq,sB]) 2 (fun a i j=>a=1∧i=0∧j=1):=by
   refine⟨fun a i h=>?_,fun a s i j h he=>?_,fun a s t i k j h h1 h2=>?_⟩
   ·simp[cC] at h
   ·simp only[cC,List.mem_cons,List.not_mem_nil,or_false,Pr.mk.injEq,List.cons.injEq] at h
    rcases h with ⟨-,-,h⟩|⟨rfl,rfl,-⟩|⟨-,-,h⟩|⟨rfl,rfl,-⟩
    ·cases h
    ·exact⟨rfl,SH he⟩
    ·cases h
    ·exact(SI he).elim
   ·simp only[cC,List.mem_cons,List.not_mem_nil,or_false,Pr.mk.injEq,List.cons.injEq] at h
    rcases h with ⟨rfl,rfl,rfl,-⟩|⟨-,-,h⟩|⟨rfl,rfl,rfl,-⟩|⟨-,-,h⟩
    ·dsimp only at h1 h2
     omega
    ·cases h
    ·dsimp only at h1 h2
     omega
    ·cases h
  exact hc.least d
 ·rintro⟨rfl,rfl,rfl⟩;exact d1
theorem KC{a:Int}{i j:Nat}(d:gU cC (ElG ⟨[],[]⟩ [sAq,sB]) 0 a i j):False:=by
 have:=d.lt (fun k i j h=>h.lt);omega
theorem SK:aO gr2 ed2=(gr2,false,0):=by
 unfold aO;rw[if_pos (by show ed2∈[ed1,ed2];simp)]
def sUA:Txt:=⟨#[65]⟩
def ed3:Ed:=⟨sX,sUA,sY⟩
theorem SL:aO gr2 ed3=(gr2,false,173):=by
 have h:ofI gr2.N (gr2.X++[ed3])=173:=by
  rw[ofI,if_pos (by decide +kernel)]
 unfold aO;rw[if_neg (by show ed3 ∉ [ed1,ed2];simp[ed1,ed2,ed3];decide +kernel),h,if_neg (by decide)]
theorem ET{α:Type}{lt:α→α→Prop}(irr:∀a,¬lt a a)(tr:∀a b c,lt a b→lt b c→lt a c):∀{L M:List α},L.Pairwise lt→M.Pairwise lt→(∀x,x∈L↔x∈M)→L=M
 | [],[],_,_,_=>rfl
 | [],y::M,_,_,h=>absurd ((h y).2 List.mem_cons_self) List.not_mem_nil
 | x::L,[],_,_,h=>absurd ((h x).1 List.mem_cons_self) List.not_mem_nil
 | x::L,y::M,hL,hM,h=>by
  rw[List.pairwise_cons] at hL hM;have e:x=y:=by
   rcases List.mem_cons.1 ((h x).1 List.mem_cons_self) with e|h1
   ·exact e
   ·rcases List.mem_cons.1 ((h y).2 List.mem_cons_self) with e|h2
    ·exact e.symm
    ·exact absurd (tr _ _ _ (hL.1 y h2) (hM.1 x h1)) (irr x)
  subst e;rw[ET irr tr hL.2 hM.2 (fun z=>?_)];constructor
  ·intro hz;rcases List.mem_cons.1 ((h z).1 (List.mem_cons_of_mem _ hz)) with e|h1
   ·subst e;exact absurd (hL.1 z hz) (irr z)
   ·exact h1
  ·intro hz;rcases List.mem_cons.1 ((h z).2 (List.mem_cons_of_mem _ hz)) with e|h1
   ·subst e;exact absurd (hM.1 z hz) (irr z)
   ·exact h1
theorem LH{L M:List (Nat × Nat × Nat)}(hL:L.Pairwise ltF)(hM:M.Pairwise ltF)(h:∀x,x∈L↔x∈M):L=M:=
 ET (fun a h=>by unfold ltF ltC at h;omega) (fun a b c h k=>by unfold ltF ltC at h k ⊢;omega) hL hM h
theorem QS{T0 T1:aX}{L:List (Nat × Nat × Nat)}(h:gD 3 T0 T1 L)(hs:L.Pairwise ltF)(h0:∀k,k<3→∀i j,aY (T0 k) i j=true→False)(h1:∀k,k<3→∀i j,aY (T1 k) i j=true↔(k:Int)=1∧i=0∧j=1):L=[(1,0,1)]:=by
 refine LH hs (List.pairwise_singleton _ _) (fun x=>?_);obtain⟨k,i,j⟩:=x;rw[h.mem,List.mem_singleton];dsimp only
 constructor
 ·rintro⟨hk,hb,-⟩;obtain⟨e1,rfl,rfl⟩:=(h1 k hk i j).1 hb;rw[show k=1 by omega]
 ·intro e;injection e with e1 e2;injection e2 with e2 e3;subst e1;subst e2;subst e3;refine⟨by omega,(h1 1 (by omega) 0 1).2 ⟨rfl,rfl,rfl⟩,?_⟩;cases hb:aY (T0 1) 0 1 with
  | false=>rfl
  | true=>exact(h0 1 (by omega) 0 1 hb).elim
theorem QT{T1 T2:aX}{L:List (Nat × Nat × Nat)}(h:gD 3 T1 T2 L)(hs:L.Pairwise ltF)(h1:∀k,k<3→∀i j,aY (T1 k) i j=true↔(k:Int)=1∧i=0∧j=1)(h2:∀k,k<3→∀i j,aY (T2 k) i j=true↔eU (k:Int) i j):L=[(0,0,2),(2,1,2)]:=by
 refine LH hs (by simp[ltF,ltC]) (fun x=>?_);obtain⟨k,i,j⟩:=x;rw[h.mem];simp only[List.mem_cons,List.not_mem_nil,or_false,Prod.mk.injEq]
 constructor
 ·rintro⟨hk,hb,hn⟩;have hf:=(h2 k hk i j).1 hb;have hn':¬((k:Int)=1∧i=0∧j=1):=fun e=>by rw[(h1 k hk i j).2 e] at hn;cases hn
  unfold eU at hf;omega
 ·intro e;have hk:k<3:=by omega
  refine⟨hk,(h2 k hk i j).2 (by unfold eU;omega),?_⟩;cases hb:aY (T1 k) i j with
  | false=>rfl
  | true=>have:=(h1 k hk i j).1 hb;omega
open Go.RowKit Go.Shelf
attribute [local go_sem] Oper.semAt_some
theorem gD.perm{nts:Nat}{T0 T:aX}{G G':List (Nat × Nat × Nat)}(h:gD nts T0 T G)(hp:G'.Perm G):gD nts T0 T G':=⟨hp.nodup_iff.2 h.nd,fun x=>(hp.mem_iff).trans (h.mem x)⟩
structure GrH(w:World)(K FT FN:Nat→Prop)(p nts pc cl pg:Nat)(PA LA:Option Addr)(PV:List Pv)(labels:List Txt)(mv vn:Value)(T f:aX)(El:Int→Nat→Nat→Prop)(n:Nat):Prop where
 hP:DcP w K p nts PA pc PV LA cl labels pg mv
 hT:MtS w FT mv 32 nts T
 hN:MtS w FN vn 32 nts f
 kt:∀k,K k→¬FT k
 kn:∀k,K k→¬FN k
 tn:∀k,FT k→¬FN k
 g:∀x∈PV,vV nts x.pr
 d:DlI (PV.map (·.pr)) El n nts T f
 el:∀k i j,El k i j→i<n∧j<n
 n32:n≤32
 tab:fW w
 nt:¬FT 1
 nn:¬FN 1
def GrQ(w:World)(FT FN:Nat→Prop)(nts:Nat)(mv:Value)(P:List Pr)(El:Int→Nat→Nat→Prop)(n:Nat)(T:aX)(v:Value)(w':World):Prop:=∃A c G T' FT',v=.slice A G.length c∧w'.ownsRow w.heap.size 25 3 (.slice A G.length c) G.length (cP G)∧MtS w' FT' mv 32 nts T'∧Upd (fun k=>FT k∨FN k) w w'∧(∀k,FT' k→FT k∨w.heap.size≤k) ∧
 (∀q,(Value.slice A G.length c).ownBlock=some q→¬FT' q)∧gD nts T T' G∧G.Pairwise ltF∧(∀k,WdO (T' k))∧(∀k,k<nts→∀i j,aY (T' k) i j=true↔gU P El n (k:Int) i j)
def GrO(w wr:World)(FT0 FN0:Nat→Prop)(nts gb:Nat)(mv vn:Value)(P:List Pr)(El:Int→Nat→Nat→Prop)(n:Nat)(T0:aX)(Ds:List Nat)(g:Nat):Prop:=∃T f L v FT FN,GwS w wr FT0 FN0 nts gb mv vn T f L v Ds FT FN∧DlI P El n nts T f∧gD nts T0 T L∧(∀a i j,aY (T0 a) i j=true→aY (T a) i j=true)∧oJ T nts<g
def GrR(w wr:World)(FT0 FN0:Nat→Prop)(nts gb sb:Nat)(mv vn:Value)(T0 T f:aX)(L:List (Nat × Nat × Nat))(Ds:List Nat)(k:Nat):Prop:=∃v b FT FN,GwS w wr FT0 FN0 nts gb mv vn (stT T f k) (stN T f k) (L++oD (lsM T f) k) v Ds FT FN∧SbI w wr sb gb b v FT FN∧GwP nts T0 T f L k b
def GwC(W4:World)(base gb sb k:Nat)(L:List (Nat × Nat × Nat))(b:Bool)(pre:List {x:Nat × Nat // x.1<64∧x.2<64})(V:World):Prop:=(∃v,GnI V base gb sb (L++(pre.map (·.1)).map (fun y=>(k,y))) v (b||!pre.isEmpty))∧KpM gb (fun q=>q=gb∨q=sb) W4 V
theorem GwC.own{W4:World}{base gb sb k:Nat}{L:List (Nat × Nat × Nat)}{b:Bool}(hl:gb<W4.heap.size)(r:RgM gb W4):jU gb (fun q=>q=gb∨q=sb) W4.heap.size (GwC W4 base gb sb k L b):=by
 rintro s X Y row ⟨⟨v,h⟩,hk⟩ hg hr;exact⟨⟨v,h.grown (F:=fun q=>q=gb∨q=sb) (.inl rfl) (.inr rfl) hg (fun k hk=>(hr k hk).2)⟩,jN (β:=Unit) (Nat.le_refl _) hl r () X Y row hk hg hr⟩
theorem RgM.ls{W:World}{base lb:Nat}{L:List (Nat × Nat × Nat)}{v:Value}(h:LsB W base lb L v){Own:Nat→Prop}(ho:∀q,v.ownBlock=some q→¬Own q):∀u q,W.cell? ⟨lb,0,none⟩=some u→u.ownBlock=some q→¬Own q:=fun u q hu hq=>by
 obtain rfl:=h.is hu;exact ho q hq
theorem KE{gq:Nat}{b:Option (List Nat)}{A4:Option Addr}{n4 c4 z:Nat}{W:World}(hch:tK W z A4 n4 c4 b)(hg:z≤gq){q:Nat}(ho:IJ gq b (.slice A4 n4 c4) q):q=1∨z≤q:=by
 rcases ho with rfl|rfl|⟨hs,hq⟩
 ·exact .inl rfl
 ·exact .inr hg
 ·exact .inr (hch.own hs hq).1
theorem GwS.tab{w W:World}{FT0 FN0 FT FN:Nat→Prop}{nts gb:Nat}{mv vn:Value}{T N:aX}{L:List (Nat × Nat × Nat)}{v:Value}{Ds:List Nat}(h:GwS w W FT0 FN0 nts gb mv vn T N L v Ds FT FN)(ht:fW w)(nt:¬FT0 1)(nn:¬FN0 1):fW W:=ht.upd h.u ht.lt (fun e=>e.elim nt nn)
def GrE(w w1:World)(FT0 FN0 FT:Nat→Prop)(nts gb:Nat)(mv:Value)(T:aX)(A9:Option Addr)(c9:Nat)(M:List (Nat × Nat × Nat)):Prop:=Blk w1 gb 35 #[.slice A9 M.length c9]∧w1.ownsRow w.heap.size 25 3 (.slice A9 M.length c9) M.length (cP M)∧MtS w1 FT mv 32 nts T∧Upd (fun k=>FT0 k∨FN0 k) w w1
theorem GrE.own{w:World}{FT0 FN0 FT:Nat→Prop}{nts gb:Nat}{mv:Value}{T:aX}{A9:Option Addr}{c9:Nat}{M:List (Nat × Nat × Nat)}(hg:gb=w.heap.size):jU gb FT (w.heap.size+1) (fun (_:Unit) w1=>GrE w w1 FT0 FN0 FT nts gb mv T A9 c9 M):=by
 rintro s X Y row ⟨h1,h2,h3,h4⟩ hgr hr;have hu:=Upd.of_grown hgr;have n1:∀r,row=some r→r≠gb∧(Value.slice A9 M.length c9).ownBlock≠some r∧¬FT r:=fun r e=>by
  obtain⟨a,b⟩:=hr r e;exact⟨by omega,fun ho=>b.2 (.inr ⟨_,h1.cell 0,ho⟩),fun hf=>b.2 (.inl hf)⟩
 exact⟨h1.grown hgr (fun e=>(n1 gb e.symm).1 rfl),lM h2 hgr (fun q hq e=>(n1 q e).2.1 hq),h3.upd hu (fun q hq e=>(n1 q e).2.2 hq),h4.grown hgr (fun r e=>.inr (by have:=(hr r e).1;omega))⟩
theorem uI(w:World)(K FT0 FN0:Nat→Prop)(p nts pc cl pg:Nat)(PA LA:Option Addr)(PV:List Pv)(labels:List Txt)(mv vn0:Value)(T0 f0:aX)(El:Int→Nat→Nat→Prop)(n:Nat)(h:GrH w K FT0 FN0 p nts pc cl pg PA LA PV labels mv vn0 T0 f0 El n)(h1:1≤nts)(h5:nts≤512)(hm:PV.length≤140737488355328) :
  Calls Tryz.prog 40 #[.pointer (some ⟨p,0,none⟩),vn0] w (fun e w'=>∃v,e=.returned v∧GrQ w FT0 FN0 nts mv (PV.map (·.pr)) El n T0 v w'):=by
 have kg:=Blk.new w 35 #[.slice none 0 0];have b1:Below w.heap.size w (w.alloc (.cells #[.slice none 0 0] 35)):=bR.alloc (Nat.le_refl _) _;have hz1:(w.alloc (.cells #[.slice none 0 0] 35)).heap.size=w.heap.size+1:=by simp
 have hTl:=h.hT.lt;have hNl:=h.hN.lt;have i0:GwS w (w.alloc (.cells #[.slice none 0 0] 35)) FT0 FN0 nts w.heap.size mv vn0 T0 f0 [] (.slice none 0 0) [] FT0 FN0:=
  ⟨h.hT.below b1,h.hN.below b1,Upd.of_below b1 _,fun _ h=>.inl h,fun _ h=>.inl h,h.tn,fun e=>Nat.lt_irrefl _ (hTl _ e),fun e=>Nat.lt_irrefl _ (hNl _ e),⟨kg,World.ownsRow_nil _ _ _ _,by simp[Value.ownBlock]⟩,fun q hq=>by simp[Value.ownBlock] at hq,Nat.le_refl _,List.nodup_nil,fun D hD=>by cases hD⟩
 have HI0:=hIz (show GrO w (w.alloc (.cells #[.slice none 0 0] 35)) FT0 FN0 nts w.heap.size mv vn0 (PV.map (·.pr)) El n T0 [] (oJ T0 nts+1) from⟨T0,f0,[],_,FT0,FN0,i0,h.d,gD.start nts T0,fun _ _ _ h=>h,Nat.lt_succ_self _⟩);have H:=hIz h;obtain⟨m,hmm⟩:∃m,PV.length=m:=⟨_,rfl⟩;obtain⟨P,hPP⟩:∃P,PV.map (·.pr)=P:=⟨_,rfl⟩;rw[hPP] at HI0 ⊢;have HP:=hIz hPP;clear kg b1 hTl hNl i0 h hPP;refine(callsIn_wide (n:=1)).1 ?_;refine callsIn_of_wp_marks Tryz.func40 rfl trivial ?_ rfl;simp only[Tryz.ntmps40,List.size_toArray,List.length_cons,List.length_nil,Nat.reduceAdd,Nat.reduceSub,Array.replicate_succ,Array.replicate_zero,List.push_toArray,List.append_toArray,List.nil_append,List.cons_append]
 refine wpIn_wide.2 ?_;go_wp2;obtain⟨gb,hgb⟩:∃gb,w.heap.size=gb:=⟨_,rfl⟩;have HG:=aI2 hgb (hgb ▸ hz1);generalize w.alloc (.cells #[.slice none 0 0] 35)=W1 at HI0 HG ⊢;rw[hgb] at HI0 ⊢;clear hgb hz1;refine wp_loop_ghost_k (fun g a wr=>∃(vn:Value) (Ds:List Nat) (u2 u3 u6 u7 u8 u9 u10 u11 u12 u13 u14 u15 u16 u17 u18 u19 u20 u21 u22 u23 u24 u25 u26 u27 u28 u29 u30 u31 u32 u33 u34 u35 u36 u37 u38 u39 u40 u41 u42 u43 u44 u45 u46 u47 u48 u49 u50 u51 u52 u53 u54 u55 u56 u57 u58 u59 u60 u61 u62 u63 u64 u65 u66 u67:Value),a=⟨#[.pointer (some ⟨p,0,none⟩),vn,u2,u3,.slice none 0 0,.pointer (some ⟨gb,0,none⟩),u6,u7,u8,u9,u10,u11,u12,u13,u14,u15,u16,u17,u18,u19,u20,u21,u22,u23,u24,u25,u26,u27,u28,u29,u30,u31,u32,u33,u34,u35,u36,u37,u38,u39,u40,u41,u42,u43,u44,u45,u46,u47,u48,u49,u50,u51,u52,u53,u54,u55,u56,u57,u58,u59,u60,u61,u62,u63,u64,u65,u66,u67],Ds.map (fun D=>{ target:=.collected D,args:=#[] })⟩∧Hid (GrO w wr FT0 FN0 nts gb mv vn P El n T0 Ds g)) (oJ T0 nts+1) ⟨vn0,[],_,_,_,_,_,_,_,_,_,_,_,_,_,_,_,_,_,_,_,_,_,_,_,_,_,_,_,_,_,_,_,_,_,_,_,_,_,_,_,_,_,_,_,_,_,_,_,_,_,_,_,_,_,_,_,_,_,_,_,_,_,_,_,_,rfl,HI0⟩ ?_;clear HI0;rintro g a wr ⟨vn,Ds,u2,u3,u6,u7,u8,u9,u10,u11,u12,u13,u14,u15,u16,u17,u18,u19,u20,u21,u22,u23,u24,u25,u26,u27,u28,u29,u30,u31,u32,u33,u34,u35,u36,u37,u38,u39,u40,u41,u42,u43,u44,u45,u46,u47,u48,u49,u50,u51,u52,u53,u54,u55,u56,u57,u58,u59,u60,u61,u62,u63,u64,u65,u66,u67,rfl,hO⟩ J KK hJ hKK;obtain⟨T,f,L,v,FT,FN,hS,hD,hGn,hsub,hms⟩:=hO.out;obtain⟨A,c,rfl⟩:=hS.mn.form;have ks:=Blk.new wr 4 #[.bool false]
 have bs:Below wr.heap.size wr (wr.alloc (.cells #[.bool false] 4)):=bR.alloc (Nat.le_refl _) _;have hTl:=hS.mt.lt;have hNl:=hS.mn.lt;have hgl:=hS.l.b.lt;have hwl:=hS.u.size;have hRR:GrR w (wr.alloc (.cells #[.bool false] 4)) FT0 FN0 nts gb wr.heap.size mv (.slice A nts c) T0 T f L Ds 0:=by
  refine⟨v,false,FT,FN,?_,⟨ks,fun e=>Nat.lt_irrefl _ (hTl _ e),fun e=>Nat.lt_irrefl _ (hNl _ e),fun e=>Nat.lt_irrefl _ (hS.l.own.lt _ e).2,by omega,hwl⟩,GwP.start hGn hsub⟩;rw[rP,JW,show L++oD (lsM T f) 0=L from List.append_nil L];exact hS.below bs
 have HR:=hIz hRR;have HX:=aI2 hD hms;clear ks bs hTl hNl hgl hwl hRR hD hms hO hS hGn hsub;go_wp2;generalize hsb:wr.heap.size=sb at HR ⊢;generalize wr.alloc (.cells #[.bool false] 4)=W2 at HR ⊢;clear hsb;refine wp_loop_ghost_k (fun g2 a W=>∃(k:Nat) (Ds:List Nat) (u2 u3 u7 u8 u9 u10 u14 u15 u16 u17 u18 u19 u20 u21 u22 u23 u24 u25 u26 u27 u28 u29 u30 u31 u32 u33 u34 u35 u36 u37 u38 u39 u40 u41 u42 u43 u44 u45 u46 u47 u48 u49 u50 u51 u52 u53 u54 u55 u56 u57 u58 u59 u60 u61 u62 u63 u64 u65 u66 u67:Value),a=⟨#[.pointer (some ⟨p,0,none⟩),.slice A nts c,u2,u3,.slice none 0 0,.pointer (some ⟨gb,0,none⟩),.pointer (some ⟨sb,0,none⟩),u7,u8,u9,u10,.slice A nts c,.int .i64 (nts:Int),.int .i64 (k:Int),u14,u15,u16,u17,u18,u19,u20,u21,u22,u23,u24,u25,u26,u27,u28,u29,u30,u31,u32,u33,u34,u35,u36,u37,u38,u39,u40,u41,u42,u43,u44,u45,u46,u47,u48,u49,u50,u51,u52,u53,u54,u55,u56,u57,u58,u59,u60,u61,u62,u63,u64,u65,u66,u67],Ds.map (fun D=>{ target:=.collected D,args:=#[] })⟩∧k+g2=nts∧Hid (GrR w W FT0 FN0 nts gb sb mv (.slice A nts c) T0 T f L Ds k)) nts ⟨0,Ds,_,_,_,_,_,_,_,_,_,_,_,_,_,_,_,_,_,_,_,_,_,_,_,_,_,_,_,_,_,_,_,_,_,_,_,_,_,_,_,_,_,_,_,_,_,_,_,_,_,_,_,_,_,_,_,_,_,_,_,_,rfl,Nat.zero_add _,HR⟩ ?_;clear HR;clear u2 u3 u6 u7 u8 u9 u10 u11 u12 u13 u14 u15 u16 u17 u18 u19 u20 u21 u22 u23 u24 u25 u26 u27 u28 u29 u30 u31 u32 u33 u34 u35 u36 u37 u38 u39 u40 u41 u42 u43 u44 u45 u46 u47 u48 u49 u50 u51 u52 u53 u54 u55 u56 u57 u58 u59 u60 u61 u62 u63 u64 u65 u66 u67;rintro g2 a Wr ⟨k,Ds,u2,u3,u7,u8,u9,u10,u14,u15,u16,u17,u18,u19,u20,u21,u22,u23,u24,u25,u26,u27,u28,u29,u30,u31,u32,u33,u34,u35,u36,u37,u38,u39,u40,u41,u42,u43,u44,u45,u46,u47,u48,u49,u50,u51,u52,u53,u54,u55,u56,u57,u58,u59,u60,u61,u62,u63,u64,u65,u66,u67,rfl,hkg,hR⟩ J2 K2 hJ2 hK2
 obtain⟨v,b,FT,FN,hS,hB,hP⟩:=hR.out;clear hR;by_cases hlt:k<nts
 ·have hltI:(k:Int)<(nts:Int):=by omega
  have hkw:IntKind.i64.wrap ((k:Int)+1)=(k:Int)+1:=IntWalk.i64_in _ (by omega);obtain⟨gN,cN,qN,FqN,e,cN0,-,-,-,-,-⟩:=hS.mn.at_ hlt;injection e with e1 e2 e3;subst e1;subst e3;have k7:=Blk.new Wr 3 #[.int .i64 (k:Int)];have b7:Below Wr.heap.size Wr (Wr.alloc (.cells #[.int .i64 (k:Int)] 3)):=bR.alloc (Nat.le_refl _) _;have bd:Below Wr.heap.size Wr (Wr.alloc (.cells #[.int .i64 (k:Int)] 3)).drew:=b7.drew;have hz7:Wr.heap.size<(Wr.alloc (.cells #[.int .i64 (k:Int)] 3)).drew.heap.size:=by simp
  have HA:=aI6 (hS.below bd) (show SbI w (Wr.alloc (.cells #[.int .i64 (k:Int)] 3)).drew sb gb b v FT FN from⟨hB.k.upd (upF bd) id,hB.t,hB.n,hB.r,hB.d,hB.w0⟩) (k7.upd (Upd.refl (fun _=>False) _).drew id) (show ¬FT Wr.heap.size∧¬FN Wr.heap.size∧v.ownBlock≠some Wr.heap.size∧Wr.heap.size≠gb∧Wr.heap.size≠sb∧w.heap.size≤Wr.heap.size from
   ⟨fun e=>Nat.lt_irrefl _ (hS.mt.lt _ e),fun e=>Nat.lt_irrefl _ (hS.mn.lt _ e),fun e=>Nat.lt_irrefl _ (hS.l.own.lt _ e).2,by have:=hS.l.b.lt;omega,by have:=hB.k.lt;omega,hS.u.size⟩) hz7 hP
  have HQ:=hIz (aS bd cN0);clear k7 b7 bd hz7 hP hS hB;go_upto_region 6 with (fail);clear cN0;generalize hkb:Wr.heap.size=kb at HA HQ ⊢;generalize (Wr.alloc (.cells #[.int .i64 (k:Int)] 3))=W7 at HA HQ ⊢;clear hkb;-- Less
  obtain⟨hS,hB,h7,hn7,hl7,hP⟩:=HA.out;obtain⟨gN',cN',qN',FqN,e,cN1,-,hqN,-,-,-⟩:=hS.mn.at_ hlt;injection e with e1 e2 e3;injection e1 with e1;injection e1 with e1;subst e1;subst e3;obtain rfl:qN=qN':=by
   have e:=HQ.out.symm.trans cN1;simpa using e
  clear HQ;obtain⟨gT,cT,qT,FqT,hmv,cT1,-,hqT,-,-,hgT⟩:=hS.mt.at_ hlt;have HgT:=hIz hgT;clear hgT;rw[QN] at hqN;rw[uG] at hqT;have c4:W7.drew.cell? ⟨p,4,none⟩=some mv:=(H.out.hP.upd hS.u (fun k hk e=>e.elim (H.out.kt k hk) (H.out.kn k hk))).blk.cell 4;have c7:W7.drew.cell? ⟨kb,0,none⟩=some (.int .i64 (k:Int)):=h7.cell 0;have hless:=EH W7.drew FqN FqT qN qT 32 (f k) (T k) hqN hqT;have HC:=hIz (show ∀V,Upd (fun q=>FT q∨FN q) W7.drew V→V.cell? ⟨kb,0,none⟩=some (.int .i64 (k:Int))∧V.cell? ⟨p,4,none⟩=some mv from fun V hu=>⟨(h7.upd hu (fun e=>e.elim hn7.1 hn7.2.1)).cell 0,(hu.cell (p:=⟨p,4,none⟩) (World.block_lt_of_cell? _ _ c4) (fun e=>by
   have hp:=H.out.hP.kp;have hlp:=H.out.hP.blk.lt;have e:FT p∨FN p:=e;rcases e with e|e
   ·exact(hS.ft p e).elim (H.out.kt _ hp) (fun h=>by omega)
   ·exact(hS.fn p e).elim (H.out.kn _ hp) (fun h=>by omega))).trans c4⟩)
  clear hS hB h7 hn7 hl7 hP hqN hqT cN1;rw[hmv] at c4;refine nN ?_;refine aR (fun V:World=>V.cell? ⟨kb,0,none⟩=some (.int .i64 (k:Int))∧V.cell? ⟨p,4,none⟩=some (.slice (some ⟨gT,0,none⟩) nts cT)∧V.cell? ⟨gT,k,none⟩=some (.pointer (some ⟨qT,0,none⟩))) 16 [(0,true),(1,true),(2,true),(3,true),(4,true),(5,true),(6,true),(7,true),(8,true),(9,true),(10,false),(11,true),(12,true),(13,true),(14,true),(15,false)] (by kernel_rfl) (by kernel_rfl) (fun _ _ _ _ _ h=>h.elim) ⟨c7,c4,cT1⟩ ?_;have C1:=hIz cT1;clear c7 c4 cT1;generalize W7.drew=V1 at HA HC hless C1 ⊢
  iterate 10 refine aD rfl ?_
  refine aJ rfl rfl (fun K hK=>?_);go_simp;refine hless.mono ?_;clear hless;rintro e V2 ⟨pm,rfl,hfr,bb⟩;obtain⟨g',c',v0,FN',e,c0,fz,hgN,hS3,hF3⟩:=HA.out.1.put bb hfr hlt;injection e with e1 e2 e3;injection e1 with e1;injection e1 with e1;subst e1;subst e3;have hu2:=Upd.of_below bb (fun q=>FT q∨FN q);have hS2:V2.cell? ⟨kb,0,none⟩=some (.int .i64 (k:Int))∧V2.cell? ⟨p,4,none⟩=some (.slice (some ⟨gT,0,none⟩) nts cT)∧V2.cell? ⟨gT,k,none⟩=some (.pointer (some ⟨qT,0,none⟩)):=⟨(HC.out V2 hu2).1,by rw[(HC.out V2 hu2).2,hmv],aS bb C1.out⟩;have hu3:Upd (fun q=>FT q∨FN q) V1 (V2.setCell ⟨gN,k,none⟩ (.pointer (some ⟨pm,0,none⟩))):=hu2.trans ((Upd.refl (fun x=>x=gN) V2).setCell (p:=⟨gN,k,none⟩) (.inl rfl) _) (fun i e=>.inl (.inr (e ▸ hgN)));have hS3c:(V2.setCell ⟨gN,k,none⟩ (.pointer (some ⟨pm,0,none⟩))).cell? ⟨kb,0,none⟩=some (.int .i64 (k:Int))∧(V2.setCell ⟨gN,k,none⟩ (.pointer (some ⟨pm,0,none⟩))).cell? ⟨p,4,none⟩=some (.slice (some ⟨gT,0,none⟩) nts cT)∧(V2.setCell ⟨gN,k,none⟩ (.pointer (some ⟨pm,0,none⟩))).cell? ⟨gT,k,none⟩=some (.pointer (some ⟨qT,0,none⟩)):=
   ⟨(HC.out _ hu3).1,by rw[(HC.out _ hu3).2,hmv],(((Upd.refl (fun x=>x=gN) V2).setCell (p:=⟨gN,k,none⟩) (.inl rfl) (.pointer (some ⟨pm,0,none⟩))).cell (p:=⟨gT,k,none⟩) (World.block_lt_of_cell? _ _ hS2.2.2) (fun e=>HA.out.1.tn gT HgT.out (by rw[show gT=gN from e];exact hgN))).trans hS2.2.2⟩
  have HS3C:=hIz hS3c;rw[JX] at hS3;have H3:=aI3 hS3 hF3 hu3;clear hS3 hF3 hu3 hu2 bb hfr hgN hS3c;refine hK _ _ (fun _=>hS2) ?_;clear hK K C1;(try simp only[Act.put,gA,gS,gZ,sA,sZ,sS])
  iterate 4 refine aD rfl ?_
  refine aJ rfl rfl (fun K hK=>?_);obtain⟨r0,r1,r2⟩:=hS2;go_simp;refine hK _ _ (fun _=>HS3C.out) ?_;clear hK K r0 r1 r2 c0 fz HS3C;(try simp only[Act.put,gA,gS,gZ,sA,sZ,sS])
  refine aK ?_;dsimp only [iX]
  generalize V2.setCell ⟨gN,k,none⟩ (.pointer (some ⟨pm,0,none⟩))=V3 at H3 ⊢;-- Cells
  obtain⟨hS3,hF3,hu3⟩:=H3.out;obtain⟨-,hB,h7,hn7,hl7,hP⟩:=HA.out;have hn7':¬FN' kb:=fun e=>(hF3 kb e).elim hn7.2.1 (fun h=>by omega)
  have hsb':¬FN' sb:=fun e=>(hF3 sb e).elim hB.n (fun h=>by have:=hB.k.lt;omega)
  have h73:=h7.upd hu3 (fun e=>e.elim hn7.1 hn7.2.1);have hB3:=hB.k.upd hu3 (fun e=>e.elim hB.t hB.n);obtain⟨g',c',q3,Fq3,e,c3,-,hq3,-,-,-⟩:=hS3.mn.at_ hlt;injection e with e1 e2 e3;injection e1 with e1;injection e1 with e1;subst e1;subst e3;have c7:V3.cell? ⟨kb,0,none⟩=some (.int .i64 (k:Int)):=h73.cell 0;rw[show stN T f (k+1) k=lsM T f k from if_pos (Nat.lt_succ_self k)] at hq3;have hwq:=hq3.wd;have hcon:=vK V3 Fq3 q3 32 (lsM T f k) hq3;have HD:=aI5 hn7' hsb' h73 hB3 hwq;clear hS3 hF3 hu3 hB h7 hn7 hl7 hP hn7' hsb' h73 hB3 hwq hq3;go_wp2_with fail;refine hcon.mono ?_;clear hcon c3 c7;rintro e V4 ⟨gq,A4,n4,c4,hgq,rfl,kq,b4,hch⟩;obtain⟨hn7',hsb',h73,hB3,hwq⟩:=HD.out;have hS4:=H3.out.1.below b4;obtain⟨-,hB,-,hn7,hl7,hP⟩:=HA.out;have u4:=Upd.of_below b4 (fun _=>False);have h74:=h73.upd u4 id;have hB4:=hB3.upd u4 id;have hT4:=hS4.tab H.out.tab H.out.nt H.out.nn;have hQ:∀x∈qcL (lsM T f k),x.1<64∧x.2<64:=fun x hx=>uE hwq hx
  have hst:=tL V4 (lsM T f k) hwq hT4 gq c4 n4 A4 (fun x=>x.1<64∧x.2<64) (fun _ h=>h) hQ kq V3.heap.size hch;have hwt:=H.out.tab.lt;have hgV:gb<V3.heap.size:=H3.out.1.l.b.lt;have hsV:sb<V3.heap.size:=hB3.lt;have hw0:=hS4.g0;have hOw:∀q',IJ gq (lsM T f k) (.slice A4 n4 c4) q'→q'<V4.heap.size∧q'≠gb∧q'≠sb∧v.ownBlock≠some q':=fun q' ho=>by
   have hlt':q'<V4.heap.size:=by
    rcases ho with rfl|rfl|⟨hs,hq⟩
    ·exact hT4.lt
    ·exact kq.lt
    ·exact(hch.own hs hq).2
   have hw0s:=hB.w0;rcases KE hch hgq ho with rfl|hge
   ·exact⟨hlt',by omega,by omega,fun e=>by have:=(hS4.l.own.lt _ e).1;omega⟩
   ·exact⟨hlt',by omega,by omega,fun e=>by have:=(H3.out.1.l.own.lt _ e).2;omega⟩
  have i0:GwC V4 w.heap.size gb sb k (L++oD (lsM T f) k) b [] V4:=⟨⟨v,by simpa using (show GnI V4 w.heap.size gb sb (L++oD (lsM T f) k) v b from⟨hS4.l,hB4,hB.r,hB.d⟩)⟩,KpM.refl _ _ _⟩;have hbd:(L++oD (lsM T f) k).length≤nts*4096:=hP.g.len (xR HX.out.1.wdT HX.out.1.wdF k);have hql:(qcL (lsM T f k)).length≤4096:=by rw[CN];exact jC hwq
  have HS:=aI8 hst hOw i0 hS4 h74 hB4 hbd hql;have hgV4:gb<V4.heap.size:=hS4.l.b.lt;have hKB:=hIz (show kb<V4.heap.size∧¬FN' kb∧¬FN' sb from⟨h74.lt,hn7',hsb'⟩);clear hn7' hsb' h73 hB3 hwq hS4 hB hn7 hl7 hP u4 h74 hB4 hT4 hst hwt hgV hsV hw0 hOw i0 kq b4 hch hgq hbd hql;go_wp2;refine kY (gf:=107) (cap:=#[.pointer (some ⟨gq,0,none⟩)]) rfl (enters_of Tryz.func107 (by kernel_rfl) rfl) HS.out.1 bR (fun q hq=>(HS.out.2.1 q hq).1) (fun _=>rfl)
   gb (fun q=>q=gb∨q=sb) hgV4 HS.out.2.2.2.1.l.rg (fun q e=>⟨e.elim (fun e=>by omega) (fun e=>by have:=HS.out.2.2.2.2.2.1.lt;omega),fun ho=>e.elim (HS.out.2.1 q ho).2.1 (HS.out.2.1 q ho).2.2.1⟩) (RgM.ls HS.out.2.2.2.1.l (fun q hq ho=>(HS.out.2.1 q ho).2.2.2 hq))
   (GwC V4 w.heap.size gb sb k (L++oD (lsM T f) k) b) (fun _ _ _=>False) (GwC.own hgV4 HS.out.2.2.2.1.l.rg) (fun c s X Y row h _ _=>h) HS.out.2.2.1
   (fun T y _=>(((T.setIfInBounds 38 (.int .i64 (y.1.1:Int))).setIfInBounds 39 (.int .i64 (y.1.2:Int))).setIfInBounds 9 (.int .i64 (y.1.1:Int))).setIfInBounds 10 (.int .i64 (y.1.2:Int)))
   (fun _ _ _=>True) ?hBx ?assign ?body ?done ?stop
  case hBx=>exact fun y b' s X Y row h hg hr=>trivial
  case assign =>
   rintro l2 pre y V Kc hrV hsV hi hK;dsimp only [PN]
   have HI2:=hIz hi;clear hi;gi_wp2
   exact hK 0 _ (KpM.refl _ _ _) HI2.out trivial
  case stop=>exact fun _ _ _ _ h=>h.elim
  case body =>
   rintro l2 pre ⟨⟨i,j⟩,hy⟩ b9 V hrV hsV ⟨⟨v5,hi⟩,hkp⟩-hlt2;have hbs:w.heap.size≤V.heap.size:=Nat.le_trans HS.out.2.2.2.1.u.size hsV;obtain⟨v9,Y1,happ,kb1,ks1,hL,hk9⟩:=hi.step hbs (k,i,j) (by
    have h1:=HS.out.2.2.2.2.2.2.1;have h2:=HS.out.2.2.2.2.2.2.2;rw[List.length_append,List.length_map,List.length_map];omega)
   obtain⟨A9,c9,hv9,-,-⟩:=aF hL.l.own;generalize (L++oD (lsM T f) k++(pre.map (·.1)).map (fun y=>(k,y))++[(k,i,j)]).length=n9 at hv9;subst hv9;have c5:V.cell? ⟨gb,0,none⟩=some v5:=hi.l.b.cell 0;have c7:V.cell? ⟨kb,0,none⟩=some (.int .i64 (k:Int)):=by
    have hpk:Prv gb (fun q=>q=gb∨q=sb) V4 kb:=⟨hKB.out.1,by
     obtain⟨-,hB,-,hn7,-,-⟩:=HA.out;rintro ((e|e)|⟨u,hu,ho⟩)
     ·exact hn7.2.2.2.1 e
     ·exact hn7.2.2.2.2.1 e
     ·obtain rfl:=HS.out.2.2.2.1.l.is hu;exact hn7.2.2.1 ho⟩
    exact(hkp.blk HS.out.2.2.2.1.l.rg hpk HS.out.2.2.2.2.1).cell 0
   have g5:Y1.cell? ⟨gb,0,none⟩=some v5:=kb1.cell 0;have f5:=kb1.frozen 0;have g6:(Y1.setCell ⟨gb,0,none⟩ (.slice A9 n9 c9)).cell? ⟨sb,0,none⟩=some (.bool (b||!pre.isEmpty)):=ks1.cell 0;have f6:=ks1.frozen 0;have hfin:KpM gb (fun q=>q=gb∨q=sb) V ((Y1.setCell ⟨gb,0,none⟩ (.slice A9 n9 c9)).setCell ⟨sb,0,none⟩ (.bool true))∧GwC V4 w.heap.size gb sb k (L++oD (lsM T f) k) b (pre++[(⟨(i,j),hy⟩:{x:Nat × Nat // x.1<64∧x.2<64})]) ((Y1.setCell ⟨gb,0,none⟩ (.slice A9 n9 c9)).setCell ⟨sb,0,none⟩ (.bool true)):=
    ⟨hk9,⟨_,by
     rw[List.map_append,List.map_append,← List.append_assoc,show(b||!(pre++[(⟨(i,j),hy⟩:{x:Nat × Nat // x.1<64∧x.2<64})]).isEmpty)=true by simp];exact hL⟩,hkp.trans hk9⟩
   have HF:=hIz hfin;clear hfin hk9 hL kb1 ks1 hi hrV hkp hbs;generalize (b||!pre.isEmpty)=b8 at g6;simp only[sA,sZ,sS]
   gi_wp2_with (gi_at_builtin;refine kH rfl _ _ _ rfl rfl rfl happ ?_)
   exact HF.out
  case done =>
   rintro ys V5 rfl ⟨⟨v5,hi⟩,hkp⟩ hrV pD hD;rw[rC] at hi;obtain⟨-,hB,-,hn7,-,hP⟩:=HA.out;have hS5:=HS.out.2.2.2.1.range HS.out.2.2.2.2.2.1 hB.w0 hB.t hKB.out.2.2 hkp hi.l pD hD;have hpk:Prv gb (fun q=>q=gb∨q=sb) V4 kb:=⟨hKB.out.1,by
    rintro ((e|e)|⟨u,hu,ho⟩)
    ·exact hn7.2.2.2.1 e
    ·exact hn7.2.2.2.2.1 e
    ·obtain rfl:=HS.out.2.2.2.1.l.is hu;exact hn7.2.2.1 ho⟩
   have h75:=hkp.blk HS.out.2.2.2.1.l.rg hpk HS.out.2.2.2.2.1;rw[List.append_assoc,← oG] at hS5;have hP2:=hP.step hlt HX.out.1.wdT HX.out.1.wdF;have hbb:(b||!(fJ (qcL (lsM T f k)) (fun x=>x.1<64∧x.2<64) (fun x hx=>uE HD.out.2.2.2.2 hx)).isEmpty)=(b||!(qcL (lsM T f k)).isEmpty):=by
    congr 2
    rw[Bool.eq_iff_iff,List.isEmpty_iff,List.isEmpty_iff,← List.length_eq_zero_iff,← List.length_eq_zero_iff,gL]
   have bd:Below V5.heap.size V5 V5.drew:=bR.drew;have HE:=aI6 (hS5.below bd) ((hi.below bd).s) (h75.upd (upF bd) id) hP2 hbb hi.ns;clear hS5 hi hB hn7 hP hpk h75 hP2 hbb bd hkp hrV pD hD;go_upto_region 12 with (fail);obtain⟨hS6,hs6,h76,-,-,-⟩:=HE.out;obtain⟨gT',cT',qT',FqT',e,cT1,hqT,ht6⟩:=hS6.turn hlt;obtain⟨gN',cN',qN6,FqN6,e',cN1,-,hqN,-,-,-⟩:=hS6.mn.at_ hlt;rw[hmv] at e;injection e with e1 e2 e3;injection e1 with e1;injection e1 with e1;subst e1;subst e3;injection e' with e1 e2 e3;injection e1 with e1;injection e1 with e1;subst e1;subst e3;rw[uG] at hqT;rw[show stN T f (k+1) k=lsM T f k from if_pos (Nat.lt_succ_self k)] at hqN;have c4:V5.drew.cell? ⟨p,4,none⟩=some (.slice (some ⟨gT,0,none⟩) nts cT):=by
    rw[← hmv];exact(H.out.hP.upd hS6.u (fun k hk e=>e.elim (H.out.kt k hk) (H.out.kn k hk))).blk.cell 4
   have c7:V5.drew.cell? ⟨kb,0,none⟩=some (.int .i64 (k:Int)):=h76.cell 0;have hjoin:=iY V5.drew FqT' FqN6 qT' qN6 32 (T k) (lsM T f k) hqT hqN;have HT:=hIz (fun W' hto=>ht6 (joinQ (T k) (lsM T f k)) W' hto);clear hS6 hs6 h76 ht6 hqT hqN;refine nN ?_;refine aR (fun V:World=>V.cell? ⟨kb,0,none⟩=some (.int .i64 (k:Int))∧V.cell? ⟨p,4,none⟩=some (.slice (some ⟨gT,0,none⟩) nts cT)∧V.cell? ⟨gT,k,none⟩=some (.pointer (some ⟨qT',0,none⟩))∧V.cell? ⟨gN,k,none⟩=some (.pointer (some ⟨qN6,0,none⟩))) 11 [(0,true),(1,true),(2,true),(3,true),(4,true),(5,true),(6,true),(7,true),(8,true),(9,true),(10,true),(11,false)] (by kernel_rfl) (by kernel_rfl) (fun _ _ _ _ _ h=>h.elim) ⟨c7,c4,cT1,cN1⟩ ?_;clear c7 c4 cT1 cN1;generalize V5.drew=V6 at HE HT hjoin ⊢
   iterate 11 refine aD rfl ?_
   refine aJ rfl rfl (fun K hK=>?_);go_simp;refine hjoin.mono ?_;clear hjoin;rintro e V7 ⟨rfl,hto⟩;have FIN:=hIz (show GrR w V7 FT0 FN0 nts gb sb mv (.slice (some ⟨gN,0,none⟩) nts c) T0 T f L (V4.heap.size::Ds) (k+1) from by
    obtain⟨⟨FT7,hS7,hF7⟩,hu7⟩:=HT.out V7 hto;obtain⟨hS6,hs6,h76,hP2,hbb,hns⟩:=HE.out;obtain⟨-,hB,-,-,-,-⟩:=HA.out;rw[show upM (stT T f k) k (joinQ (T k) (lsM T f k))=stT T f (k+1) from xQ T f k] at hS7;rw[hbb] at hs6;exact⟨_,_,_,_,hS7,⟨hs6.upd hu7 hB.t,fun e=>(hF7 sb e).elim hB.t (fun h=>by have:=hs6.lt;omega),hKB.out.2.2,hns,hB.d,hB.w0⟩,hP2⟩)
   clear hto;refine hK _ _ (fun h=>absurd rfl h) ?_;clear hK K;(try simp only[Act.put,gA,gS,gZ,sA,sZ,sS])
   refine aK ?_;dsimp only [iX]
   go_wp2;refine Handed.intro (g2-1) (by omega) (hJ2 _ _ _ ⟨k+1,V4.heap.size::Ds,_,_,_,_,_,_,_,_,_,_,_,_,_,_,_,_,_,_,_,_,_,_,_,_,_,_,_,_,_,_,_,_,_,_,_,_,_,_,_,_,_,_,_,_,_,_,_,_,_,_,_,_,_,_,_,_,_,_,_,_,rfl,by omega,FIN⟩)
 ·obtain rfl:k=nts:=by omega
  have c6:Wr.cell? ⟨sb,0,none⟩=some (.bool b):=hB.k.cell 0;cases b with
  | true =>
   have hne:=hP.b.1 rfl;have hT':∀j,WdO (stT T f k j):=xR HX.out.1.wdT HX.out.1.wdF k;have hN':∀j,WdO (stN T f k j):=fun j=>by
    unfold stN;split
    ·exact(HX.out.1.wdF j).lessQ (HX.out.1.wdT j)
    ·exact HX.out.1.wdF j
   have hrange:∀j,j<k→xN (f j) (T j) (stN T f k j)∧jX (T j) (f j) (stT T f k j):=fun j hj=>by
    refine⟨?_,ES HX.out.1.wdT HX.out.1.wdF hj⟩;unfold stN;rw[if_pos hj];exact lJ (HX.out.1.wdF j) (HX.out.1.wdT j)
   have hTc:∀j,j<k→InC (stT T f k j) 32:=fun j hj i1 j1 hb=>by
    have hd:gU P El n (j:Int) i1 j1:=(((hrange j hj).2.2 i1 j1).1 hb).elim (HX.out.1.sT j hj i1 j1) (HX.out.1.sF j hj i1 j1);have:=hd.lt H.out.el;have:=H.out.n32;omega
   have hNc:∀j,j<k→InC (stN T f k j) 32:=fun j hj i1 j1 hb=>by
    have hd:gU P El n (j:Int) i1 j1:=HX.out.1.sF j hj i1 j1 ((((hrange j hj).1.2 i1 j1).1 hb).1);have:=hd.lt H.out.el;have:=H.out.n32;omega
   have htb:=hS.tab H.out.tab H.out.nt H.out.nn;have hnx:=EQ Wr K FT FN p k pc cl pg PA LA PV labels mv (.slice A k c) (stT T f k) (stN T f k) ⟨H.out.hP.upd hS.u (fun k hk e=>e.elim (H.out.kt k hk) (H.out.kn k hk)),hS.mt,hS.mn,H.out.g,hT',hN',hTc,hNc,htb,htb.lt⟩ h5 hm;have HZ:=aI4 hS hP hne hrange;clear hne hT' hN' hrange hTc hNc htb hS hP hB;go_wp2_with fail;refine hnx.mono ?_;clear hnx c6;rintro e V8 ⟨v8,rfl,B8,F8,hm8,hF8,hb8,hN8⟩;obtain⟨A8,c8,rfl⟩:=hm8.form;have FIN:=hIz (show GrO w V8 FT0 FN0 k gb mv (.slice A8 k c8) P El n T0 Ds (oJ T k) from by
    obtain⟨hS,hP,hne,hrange⟩:=HZ.out;refine⟨stT T f k,B8,_,_,_,_,hS.next hb8 hm8 hF8,HX.out.1.round ?_ (fun j hj=>(hrange j hj).1) (fun j hj=>(hrange j hj).2) (xR HX.out.1.wdT HX.out.1.wdF k) ⟨hN8.1,fun a i j=>?_⟩,hP.g,hP.sub,zL HX.out.1.wdT HX.out.1.wdF hne⟩
    ·intro q hq;rw[← HP.out] at hq;obtain⟨x,hx,rfl⟩:=List.mem_map.1 hq;exact H.out.g x hx
    ·rw[hN8.2,← HP.out];constructor
     ·rintro⟨m',x,s,t,h1,-,h3,h4,h5⟩;exact⟨x.pr,List.mem_map.2 ⟨x,mG h1,rfl⟩,s,t,h3,h4,h5⟩
     ·rintro⟨q,hq,s,t,h3,h4,h5⟩;obtain⟨x,hx,rfl⟩:=List.mem_map.1 hq;obtain⟨m',hm'⟩:=List.getElem?_of_mem hx;exact⟨m',x,s,t,hm',(gO.1 hm').1,h3,h4,h5⟩)
   clear hm8 hF8 hb8 hN8;go_wp2;exact Handed.intro (oJ T k) HX.out.2 (hJ _ _ _ ⟨_,Ds,_,_,_,_,_,_,_,_,_,_,_,_,_,_,_,_,_,_,_,_,_,_,_,_,_,_,_,_,_,_,_,_,_,_,_,_,_,_,_,_,_,_,_,_,_,_,_,_,_,_,_,_,_,_,_,_,_,_,_,_,_,_,_,_,rfl,FIN⟩)
  | false =>
   have hnil:oD (lsM T f) k=[]:=by
    cases hq:oD (lsM T f) k with
    | nil=>rfl
    | cons y l=>have:=hP.b.2 (by rw[hq];exact nofun);cases this
   have hle:=NV HX.out.1.wdT HX.out.1.wdF hnil;have hfin:∀j,j<k→∀i1 j1,aY (stT T f k j) i1 j1=true↔gU P El n (j:Int) i1 j1:=fun j hj i1 j1=>by
    have h1:=HX.out.1.done (fun q hq=>by
     rw[← HP.out] at hq;obtain⟨x,hx,rfl⟩:=List.mem_map.1 hq;exact H.out.g x hx) hle hj (i:=i1) (j:=j1)
    rw[← h1,(ES HX.out.1.wdT HX.out.1.wdF hj).2];exact⟨fun h=>h.elim id (hle j hj i1 j1),.inl⟩
   have hwT:=xR HX.out.1.wdT HX.out.1.wdF k;have hlb:=hS.l;obtain⟨M,hM⟩:∃M,L++oD (lsM T f) k=M:=⟨_,rfl⟩;have hG:=hP.g;rw[hM] at hS hG hlb;have hMl:=hG.len hwT;obtain⟨A9,c9,rfl,-,-⟩:=aF hlb.own;have HZ:=aI4 hS hG hwT hfin;obtain⟨l9,hl9⟩:∃l9,M.length=l9:=⟨_,rfl⟩;have c5:Wr.cell? ⟨gb,0,none⟩=some (.slice A9 l9 c9):=by rw[← hl9];exact hlb.b.cell 0
   have hsort:Calls Tryz.prog 95 #[.slice A9 l9 c9,.func (.func 96) #[] #[]] Wr (fun e w'=>e=.returned (.tuple #[])∧∃M',M'.Perm M∧M'.Pairwise ltF∧w'.ownsRow w.heap.size 25 3 (.slice A9 M.length c9) M.length (cP M')∧Upd (fun q=>(Value.slice A9 M.length c9).ownBlock=some q) Wr w'):=by
    rw[← hl9];exact zN Wr w.heap.size A9 c9 M hlb.own hG.nd (by have:k*4096≤512*4096:=Nat.mul_le_mul_right _ h5;omega)
   have HL:=hIz hl9;clear hnil hle hfin hwT hlb hG hMl hS hP hB hl9;go_wp2_with fail;refine hsort.mono ?_;clear hsort c5;rintro e V9 ⟨rfl,M',hpm,hpw,own9,hu9⟩;have c59:V9.cell? ⟨gb,0,none⟩=some (.slice A9 l9 c9):=by
    rw[← HL.out];exact(HZ.out.1.l.b.upd hu9 HZ.out.1.l.ne).cell 0
   have HV:=aI4 hpm hpw own9 hu9;clear hpm hpw own9 hu9 c6;go_wp2;obtain⟨hpm,hpw,own9,hu9⟩:=HV.out;obtain⟨hS,hG,hwT,hfin⟩:=HZ.out;have hlen:=hpm.length_eq;have hgb:=HG.out.1;refine fX (lb:=gb) (B:=w.heap.size+1) (F:=FT) (fun w1=>GrE w w1 FT0 FN0 FT k gb mv (stT T f k) A9 c9 M') (GrE.own hgb.symm) (by omega) ?_ Ds V9 hS.nd (fun D hD=>?_) ?_ ?_
   ·rintro w1 ⟨-,e2,e3,e4⟩;refine⟨.slice A9 l9 c9,by simp[results,Tryz.f40,go_sem],.slice A9 l9 c9,rfl,A9,c9,M',stT T f k,FT,by rw[hlen,HL.out],e2,e3,e4,hS.ft,fun q hq=>(hS.rt q (by rw[hlen] at hq;exact hq)).1,hG.perm hpm,hpw,hwT,hfin⟩
   ·obtain⟨h1,h2,h3,h4,h5,h6,h7⟩:=hS.ds D hD;refine⟨h1,⟨Nat.lt_of_lt_of_le h2 hu9.size,?_⟩,(hu9.block D h2 h6).trans h7⟩;rintro (hf|⟨u,hu,ho⟩)
    ·exact h3 hf
    ·rw[c59] at hu;injection hu with hu;subst hu;rw[← HL.out] at ho;exact h6 ho
   ·exact(World.block_lt_of_cell? _ _ c59)
   ·refine⟨by rw[hlen];exact hS.l.b.upd hu9 hS.l.ne,by rw[hlen];exact own9,hS.mt.upd hu9 (fun q hq ho=>(hS.rt q ho).1 hq),hS.u.trans hu9 (fun q hq=>.inr (hS.l.own.lt q hq).1)⟩
end Go.Proofs.YtnokckdkaifibaaGreatDoor
