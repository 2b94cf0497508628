/- Edges: are all names, all labels? Are all ends among the nodes?; Graphs: hops held one against the other; where a hop stands in a rising list; Graphs: where a hop stands in a rising list (slices.BinarySearchFunc); Edges: the lone nodes; The library's contracts laid at this program: which function, which type bears which number; Edges: the text of a graph; The library's contracts laid at this program: which function, which type bears which number; The library's contracts laid at this program: which function, which type bears which number. -/
import Derived.Test.YtnokckdkaifibaaGreatDoorO01
import Derived.Shelf.Abstract
import Derived.Shelf.Strings.BuilderK
import Derived.Test.YtnokckdkaifibaaGreatDoorProg
import Derived.Laws.Concat
import Derived.Shelf.SlicesE.Clone
import Derived.Shelf.SlicesE.Compact
import Derived.Shelf.SlSortCmp.Whole1
import Derived.Shelf.SlSortCmp.NoneTotal
set_option linter.unusedVariables false
set_option linter.unusedSimpArgs false
set_option maxHeartbeats 16000000
set_option maxRecDepth 100000
namespace Go.Proofs.YtnokckdkaifibaaGreatDoor
open Go.RowKit
def iF(x:Ed):Bool:=fN x.fr&&(lF x.lb&&fN x.to)
def cV(N:List Txt)(E:List Ed):Bool:=N.all fN&&E.all iF
theorem eI{α:Type}{p:α→Bool}{l:List α}{k:Nat}{x:α}(h:l[k]?=some x)(hp:p x=false):l.all p=false:=by
 rw[List.all_eq_false];exact⟨x,mG h,by rw[hp];simp⟩
theorem kU{α:Type}{p:α→Bool}{l:List α}(h:∀(k:Nat) (x:α),l[k]?=some x→p x=true):l.all p=true:=by
 rw[List.all_eq_true];intro x hx;obtain⟨k,hk⟩:=List.mem_iff_getElem?.1 hx;exact h k x hk

theorem uD(w:World)(A:Option Addr)(c:Nat)(B:Option Addr)(d:Nat)(N:List Txt)(E:List Ed)(h:qL w A c B d N E) :
  Calls Tryz.prog 104 #[dX A N.length c B E.length d] w (Sam w (.bool (cV N E))):=by
 have k0:=Blk.new w 52 #[.slice A N.length c,.slice B E.length d];have u0:Below w.heap.size w (w.alloc (.cells #[.slice A N.length c,.slice B E.length d] 52)):=bR.alloc (Nat.le_refl _) _;have hn:N.length≤140737488355328:=by have:=h.fit.n;omega
 have hd:E.length≤140737488355328:=by have:=h.fit.e;omega
 have HA:=aI2 h.fit.tn h.fit.te;have H:=aI3 (h.below u0) k0 u0;clear h k0 u0;unfold dX;go_enter Tryz.func104,Tryz.ntmps104;go_upto_region 1 with (fail);generalize w.alloc (.cells #[.slice A N.length c,.slice B E.length d] 52)=W0 at H ⊢;have q0:W0.cell? ⟨w.heap.size,0,none⟩=some (.slice A N.length c):=H.out.2.1.cell 0;have q1:W0.cell? ⟨w.heap.size,1,none⟩=some (.slice B E.length d):=H.out.2.1.cell 1;go_wp2_with fail;go_loop [4,10] (fun _ i=>∃k:Nat,k≤N.length∧i=.int .i64 k∧Hid (∀j,j<k→∀x,N[j]?=some x→fN x=true)) (fun _ i=>N.length-(intOf i).toNat)
 case atStart=>exact⟨0,Nat.zero_le _,rfl,hIz (fun j hj=>by omega)⟩
 case round =>
  obtain⟨k,hk,rfl,hall⟩:=hrel;by_cases hlt:k<N.length
  ·have hltI:(k:Int)<(N.length:Int):=by omega
   have hkw:IntKind.i64.wrap ((k:Int)+1)=(k:Int)+1:=IntWalk.i64_in _ (by omega);obtain⟨x,hx⟩:∃x,N[k]?=some x:=⟨N[k],gEz _⟩;obtain⟨ab,ao,rfl,x0⟩:=H.out.1.rn.txt hx;have hcon:=fun w=>lG x w (HA.out.1 x (mG hx))
   obtain⟨b,hb⟩:∃b,fN x=b:=⟨_,rfl⟩;rw[hb] at hcon;have HX:=aI2 hx hb;clear hx hb;cases b
   ·go_wp2_with fail;refine(hcon _).mono ?_;rintro e w' ⟨rfl,rfl⟩;go_wp2;go_ret;refine⟨tU ?_,H.out.2.2⟩;rw[cV,eI HX.out.1 HX.out.2,Bool.false_and]
   ·go_wp2_with fail;refine(hcon _).mono ?_;rintro e w' ⟨rfl,rfl⟩;go_wp2;go_round
    case rel=>exact⟨k+1,by omega,by go_num,hIz (fun j hj y hy=>by
     rcases Nat.lt_succ_iff_lt_or_eq.1 hj with h|rfl
     ·exact hall.out j h y hy
     ·rw[HX.out.1] at hy;injection hy with hy;rw[← hy];exact HX.out.2)⟩
    case measure=>simp[intOf];omega
  ·obtain rfl:k=N.length:=by omega
   have hN:N.all fN=true:=kU (fun j x hx=>hall.out j (gO.1 hx).1 x hx);have HN:=hIz hN;clear hN hall hk hlt;go_wp2_with fail;clear q0 q1;go_loopw [6,21] (fun _ i wr=>∃k:Nat,k≤E.length∧i=.int .i64 k∧Hid (Below W0.heap.size W0 wr)∧Hid (∀j,j<k→∀x,E[j]?=some x→iF x=true)) (fun _ i _=>E.length-(intOf i).toNat)
   case atStart=>exact⟨0,Nat.zero_le _,rfl,hIz bR,hIz (fun j hj=>by omega)⟩
   case round =>
    obtain⟨k,hk,rfl,hb,hall⟩:=hrel;by_cases hlt:k<E.length
    ·have hltI:(k:Int)<(E.length:Int):=by omega
     have hkw:IntKind.i64.wrap ((k:Int)+1)=(k:Int)+1:=IntWalk.i64_in _ (by omega);obtain⟨⟨s0,s1,s2⟩,hx⟩:∃x,E[k]?=some x:=⟨E[k],gEz _⟩;obtain⟨ab,ao,rfl,x0,x1,x2⟩:=(H.out.1.below hb.out).re.ed hx;dsimp only at x0 x1 x2
     have hok:=HA.out.2 _ (mG hx);have c0:=fun w=>lG s0 w hok.1
     have c1:=fun w=>CX s1 w hok.2.1
     have c2:=fun w=>lG s2 w hok.2.2
     obtain⟨v0,e0⟩:∃b,fN s0=b:=⟨_,rfl⟩;obtain⟨v1,e1⟩:∃b,lF s1=b:=⟨_,rfl⟩;obtain⟨v2,e2⟩:∃b,fN s2=b:=⟨_,rfl⟩;rw[e0] at c0;rw[e1] at c1;rw[e2] at c2;have hv:iF ⟨s0,s1,s2⟩=(v0&&(v1&&v2)):=by rw[iF,e0,e1,e2]
     have kx:=Blk.new wr 23 #[.string s0,.string s1,.string s2];have bx:Below wr.heap.size wr (wr.alloc (.cells #[.string s0,.string s1,.string s2] 23)):=bR.alloc (Nat.le_refl _) _;have HX:=aI4 hx hv kx (tHn hb.out bx);clear hx hok e0 e1 e2 hv kx bx;go_upto_region 10 with (fail);generalize wr.alloc (.cells #[.string s0,.string s1,.string s2] 23)=W1 at HX ⊢;clear x0 x1 x2;have x0:W1.cell? ⟨wr.heap.size,0,none⟩=some (.string s0):=HX.out.2.2.1.cell 0;have x1:W1.cell? ⟨wr.heap.size,1,none⟩=some (.string s1):=HX.out.2.2.1.cell 1;have x2:W1.cell? ⟨wr.heap.size,2,none⟩=some (.string s2):=HX.out.2.2.1.cell 2;go_wp2_with fail;refine(c0 _).mono ?_;rintro e w' ⟨rfl,rfl⟩;cases v0
     ·go_wp2;go_ret;refine⟨tU ?_,tHn H.out.2.2 HX.out.2.2.2⟩;rw[cV,eI (p:=iF) HX.out.1 HX.out.2.1,Bool.and_false]
     ·go_wp2_with fail;refine(c1 _).mono ?_;rintro e w' ⟨rfl,rfl⟩;cases v1
      ·go_wp2;go_ret;refine⟨tU ?_,tHn H.out.2.2 HX.out.2.2.2⟩;rw[cV,eI (p:=iF) HX.out.1 HX.out.2.1,Bool.and_false]
      ·go_wp2_with fail;refine(c2 _).mono ?_;rintro e w' ⟨rfl,rfl⟩;cases v2
       ·go_wp2;go_ret;refine⟨tU ?_,tHn H.out.2.2 HX.out.2.2.2⟩;rw[cV,eI (p:=iF) HX.out.1 HX.out.2.1,Bool.and_false]
       ·go_wp2;go_roundw
        case rel=>exact⟨k+1,by omega,by go_num,hIz HX.out.2.2.2,hIz (fun j hj y hy=>by
         rcases Nat.lt_succ_iff_lt_or_eq.1 hj with h|rfl
         ·exact hall.out j h y hy
         ·rw[HX.out.1] at hy;injection hy with hy;rw[← hy];exact HX.out.2.1)⟩
        case measure=>simp[intOf];omega
    ·obtain rfl:k=E.length:=by omega
     go_wp2;go_ret;refine⟨tU ?_,tHn H.out.2.2 hb.out⟩;rw[cV,HN.out,Bool.true_and];exact(kU (fun j x hx=>hall.out j (gO.1 hx).1 x hx)).symm

def kvN(N:List Txt):Nat→List (Value × Value)
 | 0=>[]
 | k+1=>match N[k]? with
  | some s=>kvN N k++[(.string s,.int .i64 ((k:Int)+1))]
  | none=>kvN N k
theorem mM(N:List Txt):∀k,∀q∈kvN N k,∃(i:Nat) (s:Txt),i<k∧N[i]?=some s∧q=(.string s,.int .i64 ((i:Int)+1))
 | 0,q,h=>by simp[kvN] at h
 | k+1,q,h=>by
  unfold kvN at h;cases hx:N[k]? with
  | none =>
   rw[hx] at h;obtain⟨i,s,h1,h2,h3⟩:=mM N k q h;exact⟨i,s,by omega,h2,h3⟩
  | some s =>
   rw[hx] at h;rcases List.mem_append.1 h with h|h
   ·obtain⟨i,s,h1,h2,h3⟩:=mM N k q h;exact⟨i,s,by omega,h2,h3⟩
   ·exact⟨k,s,by omega,hx,List.mem_singleton.1 h⟩
theorem DB(N:List Txt):∀k (i:Nat) (s:Txt),i<k→N[i]?=some s→((.string s,.int .i64 ((i:Int)+1)):Value × Value)∈kvN N k
 | 0,_,_,h,_=>by omega
 | k+1,i,s,h,hi=>by
  unfold kvN;by_cases e:i=k
  ·subst e;rw[hi];simp
  ·have:=DB N k i s (by omega) hi;cases N[k]? with
   | none=>exact this
   | some _=>exact List.mem_append.2 (.inl this)
theorem fT:Maps.Keyed Tryz.prog 9:=Maps.string_keyed Tryz.underlying9
theorem mN{s:Txt}(hs:dA s):∃l,keyOf Tryz.prog 9 (.string s)=some l:=by
 have h:s.size≤maxLen:=hs;simp[keyOf,mapKey,Tryz.underlying9,h]
def inB(s:Txt)(N:List Txt):Bool:=N.any fun t=>decide (t=s)
theorem bK{s:Txt}{N:List Txt}:inB s N=true↔s∈N:=by
 unfold inB;rw[List.any_eq_true];constructor
 ·rintro⟨t,h,e⟩;rw[of_decide_eq_true e] at h;exact h
 ·intro h;exact⟨s,h,by simp⟩
theorem OF{N:List Txt}(hN:upB ltT N=true){k:Nat}{s:Txt}(hs:N[k]?=some s):∀q∈kvN N k,q.1≠.string s:=by
 intro q hq e;obtain⟨i,t,hi,ht,rfl⟩:=mM N k q hq;simp only[Value.string.injEq] at e
 subst e;have h:=fR gJ hN;have h1:=List.pairwise_iff_getElem.1 h i k (gO.1 ht).1 (gO.1 hs).1 hi;rw[(gO.1 ht).2,(gO.1 hs).2,gJ.irr] at h1;cases h1
theorem uE{w:World}{r:Nat}{N:List Txt}(h:cY w Tryz.prog 9 r (kvN N N.length))(s:Txt)(hk:dA s) :
  ∃v:Int,(Instr.lookup 128 (.map (some r)) (.string s) false).run Tryz.prog w=.ok (.int .i64 v) w∧((v==0)=!inB s N)∧0≤v:=by
 by_cases hs:s∈N
 ·obtain⟨i,hi⟩:=List.mem_iff_getElem?.1 hs;refine⟨(i:Int)+1,h.look_hit fT Tryz.underlying128 (DB N N.length i s (gO.1 hi).1 hi) false,?_,by omega⟩;rw[bK.2 hs];simp
  omega
 ·refine⟨0,h.look_miss fT Tryz.underlying128 (mN hk) (fun q hq e=>?_) (by kernel_rfl) false,by rw[show inB s N=false from by cases e:inB s N;rfl;exact(hs (bK.1 e)).elim];rfl,by omega⟩;obtain⟨i,t,hi,ht,rfl⟩:=mM N N.length q hq;simp only[Value.string.injEq] at e
  subst e;exact hs (mG ht)
def lH(N:List Txt)(x:Ed):Bool:=inB x.fr N&&inB x.to N
def mO(N:List Txt)(E:List Ed):Bool:=upB ltT N&&(upB ltE E&&E.all (lH N))

theorem JI(w:World)(A:Option Addr)(c:Nat)(B:Option Addr)(d:Nat)(N:List Txt)(E:List Ed)(h:qL w A c B d N E) :
  Calls Tryz.prog 103 #[dX A N.length c B E.length d] w (Sam w (.bool (mO N E))):=by
 have k0:=Blk.new w 52 #[.slice A N.length c,.slice B E.length d];have u0:Below w.heap.size w (w.alloc (.cells #[.slice A N.length c,.slice B E.length d] 52)):=bR.alloc (Nat.le_refl _) _;have hn:N.length≤140737488355328:=by have:=h.fit.n;omega
 have hd:E.length≤140737488355328:=by have:=h.fit.e;omega
 have HA:=aI3 h.fit h.hc h.hd;have H:=aI3 (h.below u0) k0 u0;clear h k0 u0;obtain⟨v0,e0⟩:∃b,upB ltT N=b:=⟨_,rfl⟩;obtain⟨v1,e1⟩:∃b,upB ltE E=b:=⟨_,rfl⟩;have HE:=aI2 e0 e1;clear e0 e1;unfold dX;go_enter Tryz.func103,Tryz.ntmps103;go_upto_region 1 with (fail);generalize w.alloc (.cells #[.slice A N.length c,.slice B E.length d] 52)=W0 at H ⊢;have q0:W0.cell? ⟨w.heap.size,0,none⟩=some (.slice A N.length c):=H.out.2.1.cell 0;have q1:W0.cell? ⟨w.heap.size,1,none⟩=some (.slice B E.length d):=H.out.2.1.cell 1;go_wp2_with fail;refine(AB W0 A c N H.out.1.rn HA.out.2.1 HA.out.1.n).mono ?_;rintro e w1 ⟨rfl,b1⟩;rw[HE.out.1];have k1:=H.out.2.1.upd (upF b1) id;clear q0 q1;have q0:w1.cell? ⟨w.heap.size,0,none⟩=some (.slice A N.length c):=k1.cell 0;have q1:w1.cell? ⟨w.heap.size,1,none⟩=some (.slice B E.length d):=k1.cell 1;have H1:=aI3 (H.out.1.below b1) k1 (tHn H.out.2.2 b1);clear k1 b1;cases v0
 ·go_wp2;go_ret;refine⟨tU ?_,H1.out.2.2⟩;rw[mO,HE.out.1,Bool.false_and]
 go_wp2_with fail;refine(DA w1 B d E H1.out.1.re HA.out.2.2 HA.out.1.e).mono ?_;rintro e w2 ⟨rfl,b2⟩;rw[HE.out.2];have k2:=H1.out.2.1.upd (upF b2) id;clear q0 q1;have q0:w2.cell? ⟨w.heap.size,0,none⟩=some (.slice A N.length c):=k2.cell 0;have H2:=aI3 (H1.out.1.below b2) k2 (tHn H1.out.2.2 b2);clear k2 b2;cases v1
 ·go_wp2;go_ret;refine⟨tU ?_,H2.out.2.2⟩;rw[mO,HE.out.1,HE.out.2];rfl
 have hmm:=@run_makeMap Tryz.prog;clear q0;go_upto_region 4 with (fail);have m3:=cY.made w2 Tryz.prog 9;have b3:Below w2.heap.size w2 (w2.alloc (.map #[] 0)):=bR.alloc (Nat.le_refl _) _;have k3:=H2.out.2.1.upd (upF b3) id;have H3:=aI4 (H2.out.1.below b3) k3 (tHn H2.out.2.2 b3) m3;have hr1:w.heap.size<w2.heap.size:=H2.out.2.1.lt;clear b3 m3 k3 hmm;generalize w2.alloc (.map #[] 0)=W3 at H3 ⊢;have q0:W3.cell? ⟨w.heap.size,0,none⟩=some (.slice A N.length c):=H3.out.2.1.cell 0;go_wp2_with fail;clear q0;have HA2:=hIz (show ∀b o s,A=some ⟨b,o,s⟩→N≠[]→b<w2.heap.size from fun b o s e hne=>by
  obtain⟨x,hx⟩:=List.exists_mem_of_ne_nil N hne;obtain⟨i,hi⟩:=List.mem_iff_getElem?.1 hx;obtain⟨b',o',e',hc⟩:=H2.out.1.rn.txt hi;rw[e] at e';injection e' with e';injection e' with e' _ _;subst e';exact World.block_lt_of_cell? w2 _ hc)
 have HB2:=hIz (show ∀b o s,B=some ⟨b,o,s⟩→E≠[]→b<w2.heap.size from fun b o s e hne=>by
  obtain⟨x,hx⟩:=List.exists_mem_of_ne_nil E hne;obtain⟨i,hi⟩:=List.mem_iff_getElem?.1 hx;obtain⟨b',o',e',hc,-,-⟩:=H2.out.1.re.ed hi;rw[e] at e';injection e' with e';injection e' with e' _ _;subst e';exact World.block_lt_of_cell? w2 _ hc)
 go_loopw [4,5,22] (fun _ _ i wr=>∃k:Nat,k≤N.length∧i=.int .i64 k∧Hid (Upd (fun q=>q=w2.heap.size) W3 wr)∧Hid (cY wr Tryz.prog 9 w2.heap.size (kvN N k))) (fun _ _ i _=>N.length-(intOf i).toNat)
 case atStart=>exact⟨0,Nat.zero_le _,rfl,hIz (Upd.refl _ _),hIz H3.out.2.2.2⟩
 case round =>
  obtain⟨k,hk,rfl,hu,hm⟩:=hrel;by_cases hlt:k<N.length
  ·have hltI:(k:Int)<(N.length:Int):=by omega
   have hkw:IntKind.i64.wrap ((k:Int)+1)=(k:Int)+1:=IntWalk.i64_in _ (by omega);obtain⟨x,hx⟩:∃x,N[k]?=some x:=⟨N[k],gEz _⟩;obtain⟨ab,ao,rfl,y0⟩:=H3.out.1.rn.txt hx;have hab:=HA2.out ab ao none rfl (fun e=>by rw[e] at hx;simp at hx);have x0:wr.cell? ⟨ab,ao+k,none⟩=some (.string x):=(hu.out.cell (p:=⟨ab,ao+k,none⟩) (World.block_lt_of_cell? W3 _ y0) (by show ¬ab=_;omega)).trans y0;obtain⟨w5,hrun,hm5,hg5,hz5⟩:=hm.out.put_miss fT Tryz.underlying128 (.int .i64 ((k:Int)+1)) (mN (HA.out.1.tn x (mG hx))) (OF HE.out.1 hx);have hkv:kvN N (k+1)=kvN N k++[(.string x,.int .i64 ((k:Int)+1))]:=by rw[kvN,hx]
   rw[← hkv] at hm5;have HX:=aI2 hm5 (hu.out.trans (Upd.of_grown hg5) (fun i e=>.inl (by injection e with e;exact e.symm)));clear y0 hx hm5 hg5 hz5 hkv;go_wp2;go_roundw
   case rel=>exact⟨k+1,by omega,by go_num,hIz HX.out.2,hIz HX.out.1⟩
   case measure=>simp[intOf];omega
  ·obtain rfl:k=N.length:=by omega
   have k4:=H3.out.2.1.upd hu.out (by omega);have q1:wr.cell? ⟨w.heap.size,1,none⟩=some (.slice B E.length d):=k4.cell 1;have bw4:Below w.heap.size w wr:=H3.out.2.2.1.trans (hu.out.below (fun q _ e=>by omega) H3.out.2.2.1.size);have re4:∀(j:Nat) (x:Ed),E[j]?=some x→∃b o,B=some ⟨b,o,none⟩∧b<wr.heap.size∧wr.cell? ⟨b,o+j*3,none⟩=some (.string x.fr)∧wr.cell? ⟨b,o+j*3+1,none⟩=some (.string x.lb)∧wr.cell? ⟨b,o+j*3+2,none⟩=some (.string x.to):=fun j x hx=>by
    obtain⟨bb,bo,e,y0,y1,y2⟩:=H3.out.1.re.ed hx;have hbb:=HB2.out bb bo none e (fun e=>by rw[e] at hx;simp at hx);have hlt3:=World.block_lt_of_cell? W3 _ y0;have cc:=fun i=>hu.out.cell (p:=⟨bb,i,none⟩) hlt3 (by show ¬bb=_;omega)
    exact⟨bb,bo,e,Nat.lt_of_lt_of_le hlt3 hu.out.size,(cc _).trans y0,(cc _).trans y1,(cc _).trans y2⟩
   have H4:=aI2 bw4 re4;clear k4 bw4 re4 hk hlt hu;obtain⟨W4,hW4⟩:∃W,W=wr:=⟨_,rfl⟩;subst hW4;go_wp2_with fail;clear q1;go_loopw [7,35] (fun _ i wz=>∃k:Nat,k≤E.length∧i=.int .i64 k∧Hid (Below W4.heap.size W4 wz)∧Hid (∀j,j<k→∀x,E[j]?=some x→lH N x=true)) (fun _ i _=>E.length-(intOf i).toNat)
   case atStart=>exact⟨0,Nat.zero_le _,rfl,hIz bR,hIz (fun j hj=>by omega)⟩
   case round =>
    obtain⟨k,hk,rfl,hb,hall⟩:=hrel;by_cases hlt:k<E.length
    ·have hltI:(k:Int)<(E.length:Int):=by omega
     have hkw:IntKind.i64.wrap ((k:Int)+1)=(k:Int)+1:=IntWalk.i64_in _ (by omega);obtain⟨⟨s0,s1,s2⟩,hx⟩:∃x,E[k]?=some x:=⟨E[k],gEz _⟩;obtain⟨ab,ao,rfl,hlt4,y0,y1,y2⟩:=H4.out.2 k _ hx;dsimp only at y0 y1 y2
     have cc:=fun i=>hb.out.cell (p:=⟨ab,i,none⟩) hlt4
     have x0:=(cc _).trans y0;have x1:=(cc _).trans y1;have x2:=(cc _).trans y2;have kx:=Blk.new wr 23 #[.string s0,.string s1,.string s2];have bx:Below wr.heap.size wr (wr.alloc (.cells #[.string s0,.string s1,.string s2] 23)):=bR.alloc (Nat.le_refl _) _;have b5:=tHn hb.out bx;have hm5:=hm.out.upd (upF b5) id;have HX:=aI4 hx kx b5 hm5;clear hx y0 y1 y2 cc kx bx b5 hm5;go_upto_region 12 with (fail);generalize wr.alloc (.cells #[.string s0,.string s1,.string s2] 23)=W5 at HX ⊢;clear x0 x1 x2;have x0:W5.cell? ⟨wr.heap.size,0,none⟩=some (.string s0):=HX.out.2.1.cell 0;have x2:W5.cell? ⟨wr.heap.size,2,none⟩=some (.string s2):=HX.out.2.1.cell 2;obtain⟨v0,l0,h0,-⟩:=uE HX.out.2.2.2 s0 ((HA.out.1.te _ (mG HX.out.1)).1);obtain⟨v1,l1,h1,-⟩:=uE HX.out.2.2.2 s2 ((HA.out.1.te _ (mG HX.out.1)).2.2);obtain⟨i0,e0⟩:∃b,inB s0 N=b:=⟨_,rfl⟩;obtain⟨i1,e1⟩:∃b,inB s2 N=b:=⟨_,rfl⟩;rw[e0] at h0;rw[e1] at h1;have hv:lH N ⟨s0,s1,s2⟩=(i0&&i1):=by rw[lH,e0,e1]
     have HV:=hIz hv;clear e0 e1 hv;have fin:w.heap.size≤W4.heap.size:=H4.out.1.size;cases i0
     ·simp only[Bool.not_false] at h0
      go_wp2;go_ret;refine⟨tU ?_,tHn H4.out.1 HX.out.2.2.1⟩;rw[mO,HE.out.1,HE.out.2,eI (p:=lH N) HX.out.1 HV.out];rfl
     ·simp only[Bool.not_true] at h0
      cases i1
      ·simp only[Bool.not_false] at h1
       go_wp2;go_ret;refine⟨tU ?_,tHn H4.out.1 HX.out.2.2.1⟩;rw[mO,HE.out.1,HE.out.2,eI (p:=lH N) HX.out.1 HV.out];rfl
      ·simp only[Bool.not_true] at h1
       go_wp2;go_roundw
       case rel=>exact⟨k+1,by omega,by go_num,hIz HX.out.2.2.1,hIz (fun j hj y hy=>by
        rcases Nat.lt_succ_iff_lt_or_eq.1 hj with h|rfl
        ·exact hall.out j h y hy
        ·rw[HX.out.1] at hy;injection hy with hy;rw[← hy];exact HV.out)⟩
       case measure=>simp[intOf];omega
    ·obtain rfl:k=E.length:=by omega
     go_wp2;go_ret;refine⟨tU ?_,tHn H4.out.1 hb.out⟩;rw[mO,HE.out.1,HE.out.2,kU (p:=lH N) (fun j x hx=>hall.out j (gO.1 hx).1 x hx)];rfl
open Go.RowKit
structure Hp where
 lb:Txt
 nd:Int
deriving DecidableEq
def Hp.cells(x:Hp):List Value:=[.string x.lb,.int .i64 x.nd]
def Hp.agg(x:Hp):Value:=.agg #[.string x.lb,.int .i64 x.nd]
def tV(a b:Int):Int:=if a<b then -1 else if b<a then 1 else 0
def or2(a b:Int):Int:=if a≠0 then a else b
def NG(x y:Hp):Int:=or2 (lC x.lb y.lb) (tV x.nd y.nd)
def ltH(x y:Hp):Bool:=if x.lb=y.lb then decide (x.nd<y.nd) else ltT x.lb y.lb
theorem DC{a b:Int}:tV a b=0↔a=b:=by
 unfold tV;split
 ·constructor
  ·intro h;cases h
  ·rintro rfl;omega
 ·split
  ·constructor
   ·intro h;cases h
   ·rintro rfl;omega
  ·constructor
   ·intro _;omega
   ·intro _;rfl
theorem OG(a b:Int):decide (tV a b<0)=decide (a<b):=by
 unfold tV;by_cases h:a<b
 ·rw[if_pos h,decide_eq_true h];rfl
 ·rw[if_neg h,decide_eq_false h];split <;> rfl
theorem OH(x y:Hp):decide (NG x y<0)=ltH x y:=by
 unfold NG or2 ltH;by_cases h:x.lb=y.lb
 ·rw[if_neg (by simp[eZ,h]),if_pos h];exact OG _ _
 ·rw[if_pos (by simpa[eZ] using h),if_neg h];exact iZ _ _
theorem DD{x y:Hp}:NG x y=0↔x=y:=by
 obtain⟨a,n⟩:=x;obtain⟨b,m⟩:=y;unfold NG or2;dsimp only
 by_cases h:lC a b=0
 ·rw[if_neg (by simpa using h),DC];rw[eZ] at h;subst h;simp
 ·rw[if_pos h];constructor
  ·intro h2;exact(h h2).elim
  ·intro h2;injection h2 with h2 h3;exact(h (eZ.2 h2)).elim
theorem JJ:Sto ltH where
 irr:=fun a=>by simp[ltH]
 tr:=fun a b c h k=>by
  unfold ltH at h k ⊢;by_cases h1:a.lb=b.lb
  ·rw[if_pos h1] at h;by_cases h2:b.lb=c.lb
   ·rw[if_pos h2] at k;rw[if_pos (h1.trans h2)];simp at h k ⊢
    omega
   ·rw[if_neg h2] at k;rw[if_neg (by rw[h1];exact h2),h1];exact k
  ·rw[if_neg h1] at h;by_cases h2:b.lb=c.lb
   ·rw[if_neg (by rw[← h2];exact h1),← h2];exact h
   ·rw[if_neg h2] at k;have h3:=gJ.tr _ _ _ h k;rw[if_neg (gJ.ne h3)];exact h3
 tri:=fun a b h k=>by
  obtain⟨s,n⟩:=a;obtain⟨t,m⟩:=b;unfold ltH at h k;dsimp only at h k
  by_cases h1:s=t
  ·subst h1;simp at h k
   have:n=m:=by omega
   rw[this]
  ·rw[if_neg h1] at h;rw[if_neg (fun e=>h1 e.symm)] at k;exact(h1 (gJ.tri _ _ h k)).elim

theorem uG(x:Int)(w:World):Calls Tryz.prog 145 #[.int .i64 x] w (nE w (.bool false)):=by
 go_enter Tryz.func145,Tryz.ntmps145;go_wp2;go_ret;exact⟨by simp,rfl⟩
theorem nO(x y:Int)(w:World):Calls Tryz.prog 98 #[.int .i64 x,.int .i64 y] w (nE w (.int .i64 (tV x y))):=by
 obtain⟨r,hr⟩:∃r,tV x y=r:=⟨_,rfl⟩;rw[hr];have HR:=hIz hr;clear hr;go_enter Tryz.func98,Tryz.ntmps98;go_wp2_with fail;refine(uG x w).mono ?_;rintro e w' ⟨rfl,hw⟩;subst w';go_wp2_with fail;refine(uG y w).mono ?_;rintro e w' ⟨rfl,hw⟩;subst w';by_cases h1:x<y
 ·have HE:=hIz (show(-1:Int)=r by rw[← HR.out,tV,if_pos h1]);go_wp2;go_ret;exact⟨by rw[← HE.out];rfl,rfl⟩
 by_cases h2:y<x
 ·have HE:=hIz (show(1:Int)=r by rw[← HR.out,tV,if_neg h1,if_pos h2]);go_wp2;go_ret;exact⟨by rw[← HE.out];rfl,rfl⟩
 ·have HE:=hIz (show(0:Int)=r by rw[← HR.out,tV,if_neg h1,if_neg h2]);go_wp2;go_ret;exact⟨by rw[← HE.out];rfl,rfl⟩
theorem OI(w:World)(g:Nat)(a b:Int)(h:Blk w g 3 #[.int .i64 a,.int .i64 b]) :
  Calls Tryz.prog 97 #[.slice (some ⟨g,0,none⟩) 2 2] w (nE w (.int .i64 (or2 a b))):=by
 have key:∀x,or2 a b=x→Calls Tryz.prog 97 #[.slice (some ⟨g,0,none⟩) 2 2] w (nE w (.int .i64 x)):=by
  intro x hx;have c0:w.cell? ⟨g,0,none⟩=some (.int .i64 a):=h.cell 0;have c1:w.cell? ⟨g,1,none⟩=some (.int .i64 b):=h.cell 1;clear h;have HX:=hIz hx;clear hx;go_enter Tryz.func97,Tryz.ntmps97;go_wp2_with fail;go_loop [5,8] (fun _ i=>∃k:Nat,k≤2∧i=.int .i64 k∧Hid ((1≤k→a=0)∧(2≤k→b=0))) (fun _ i=>2-(intOf i).toNat)
  case atStart=>exact⟨0,by omega,rfl,hIz ⟨by omega,by omega⟩⟩
  case round =>
   obtain⟨k,hk,rfl,hz⟩:=hrel;have hk4:k=0∨k=1∨k=2:=by omega
   rcases hk4 with rfl|rfl|rfl
   ·by_cases ha:a=0
    ·have HA:=hIz ha;have e:(a==0)=true:=by simpa using ha
     go_wp2;go_round
     case rel=>exact⟨1,by omega,rfl,hIz ⟨fun _=>HA.out,by omega⟩⟩
     case measure=>simp[intOf]
    ·have HA:=hIz ha;go_wp2;go_ret;refine⟨?_,rfl⟩;rw[← HX.out,or2,if_pos HA.out];rfl
   ·by_cases ha:b=0
    ·have HA:=hIz ha;go_wp2;go_round
     case rel=>exact⟨2,by omega,rfl,hIz ⟨fun _=>hz.out.1 (by omega),fun _=>HA.out⟩⟩
     case measure=>simp[intOf]
    ·have HA:=hIz ha;go_wp2;go_ret;refine⟨?_,rfl⟩;rw[← HX.out,or2,if_neg (by simp[hz.out.1 (by omega)])];rfl
   ·go_wp2;go_ret;refine⟨?_,rfl⟩;rw[← HX.out,or2,if_neg (by simp[hz.out.1 (by omega)]),hz.out.2 (by omega)];rfl
 exact key _ rfl
theorem uH(x y:Hp)(w:World):Calls Tryz.prog 74 #[x.agg,y.agg] w (Sam w (.int .i64 (NG x y))):=by
 obtain⟨a0,a1⟩:=x;obtain⟨b0,b1⟩:=y;unfold NG;dsimp only
 obtain⟨v0,e0⟩:∃v,lC a0 b0=v:=⟨_,rfl⟩;obtain⟨v1,e1⟩:∃v,tV a1 b1=v:=⟨_,rfl⟩;have H0:=fun W=>eD a0 b0 W
 have H1:=fun W=>nO a1 b1 W
 rw[e0] at H0 ⊢;rw[e1] at H1 ⊢;clear e0 e1;have k0:=(Blk.new w 145 #[.string a0,.int .i64 a1]).alloc (.cells #[.string b0,.int .i64 b1] 145);have k1:=Blk.new (w.alloc (.cells #[.string a0,.int .i64 a1] 145)) 145 #[.string b0,.int .i64 b1];simp only[World.size_alloc] at k1
 have bb:Below w.heap.size w ((w.alloc (.cells #[.string a0,.int .i64 a1] 145)).alloc (.cells #[.string b0,.int .i64 b1] 145)):=by(repeat (first | exact Below.refl _ _ | apply Below.drew | refine Below.alloc ?_ (by first | exact Nat.le_refl _ | (simp;done) | (simp;omega)) _ | refine Below.setCell ?_ (by first | exact Nat.le_refl _ | (simp;done) | (simp;omega)) _))
 have HK:=aI3 k0 k1 bb;clear k0 k1 bb;unfold Hp.agg;dsimp only
 go_enter Tryz.func74,Tryz.ntmps74;go_upto_region 1 with (fail);generalize (w.alloc (.cells #[.string a0,.int .i64 a1] 145)).alloc (.cells #[.string b0,.int .i64 b1] 145)=W0 at HK ⊢;have UP:=hIz (show ∀W,Below W0.heap.size W0 W→W.cell? ⟨w.heap.size,0,none⟩=some (.string a0)∧W.cell? ⟨w.heap.size,1,none⟩=some (.int .i64 a1)∧W.cell? ⟨w.heap.size+1,0,none⟩=some (.string b0)∧W.cell? ⟨w.heap.size+1,1,none⟩=some (.int .i64 b1) from fun W hb=>by
  have u:=Upd.of_below hb (fun _=>False);have h1:=HK.out.1.upd u id;have h2:=HK.out.2.1.upd u id;exact⟨h1.cell 0,h1.cell 1,h2.cell 0,h2.cell 1⟩)
 have HB0:=hIz (show Below W0.heap.size W0 W0.drew from bR.drew);have hS:=UP.out _ HB0.out;refine aN (fun W=>W.cell? ⟨w.heap.size,0,none⟩=some (.string a0)∧W.cell? ⟨w.heap.size,1,none⟩=some (.int .i64 a1)∧W.cell? ⟨w.heap.size+1,0,none⟩=some (.string b0)∧W.cell? ⟨w.heap.size+1,1,none⟩=some (.int .i64 b1)) 13 [(0,true),(1,true),(2,true),(3,true),(5,true),(6,true),(7,true),(8,true),(4,false),(9,false),(10,false),(11,false),(12,true)] hS ?_;generalize W0.drew=W1 at HB0 hS ⊢
 iterate 8 refine aD rfl ?_
 refine aK rfl rfl (fun K hK=>?_);go_simp;refine(H0 _).mono ?_;rintro e w1 ⟨rfl,hw⟩;subst w1;refine hK _ _ (fun _=>hS) ?_;clear hK K;(try simp only[Act.put,gA,gS,gZ,sA,sZ,sS])
 refine aK rfl rfl (fun K hK=>?_);go_simp;refine(H1 _).mono ?_;rintro e w1 ⟨rfl,hw⟩;subst w1;refine hK _ _ (fun _=>hS) ?_;clear hK K;(try simp only[Act.put,gA,gS,gZ,sA,sZ,sS])
 have kA:=Blk.new W1 3 #[.int .i64 v0,.int .i64 v1];have bA:=HB0.out.alloc HB0.out.size (.cells #[.int .i64 v0,.int .i64 v1] 3);have HA:=aI2 (OI _ _ v0 v1 kA) bA;clear kA bA;refine aK rfl rfl (fun K hK=>?_);go_simp;refine hK _ _ (fun _=>UP.out _ HA.out.2) ?_;clear hK K;(try simp only[Act.put,gA,gS,gZ,sA,sZ,sS])
 generalize W1.alloc (.cells #[.int .i64 v0,.int .i64 v1] 3)=W2 at HA ⊢;refine aK rfl rfl (fun K hK=>?_);go_simp;refine HA.out.1.mono ?_;rintro e w1 ⟨rfl,hw⟩;subst w1;have FIN:=hIz (tHn HK.out.2.2 HA.out.2);refine hK _ _ (fun _=>UP.out _ HA.out.2) ?_;clear hK K;(try simp only[Act.put,gA,gS,gZ,sA,sZ,sS])
 refine aD rfl ?_;refine aJ ?_;go_wp2;go_ret;exact⟨rfl,FIN.out⟩

def aR(L:List Hp):List Value:=L.flatMap Hp.cells
theorem dH(L:List Hp):(aR L).length=L.length*2:=eC Hp.cells 2 (fun _=>rfl) L
theorem DE(E:List Hp):∀u∈aR E,u.oneCell'=true:=by
 intro u hu;obtain⟨x,_,hx⟩:=List.mem_flatMap.1 hu;simp[Hp.cells] at hx
 rcases hx with rfl|rfl <;> rfl
theorem lJ:(Tryz.prog.info? 145).map (fun i=>(i.zero,i.size,i.bytes))=some (some (.agg #[.string ByteArray.empty,.int .i64 0]),2,24):=by kernel_rfl
theorem bO.hp{w:World}{B:Option Addr}{L:List Hp}(h:bO w B (aR L)){k:Nat}{x:Hp}(hk:L[k]?=some x) :
  ∃b o,B=some ⟨b,o,none⟩∧w.cell? ⟨b,o+k*2,none⟩=some (.string x.lb)∧w.cell? ⟨b,o+k*2+1,none⟩=some (.int .i64 x.nd):=by
 have g:=fun j hj=>dN Hp.cells 2 (fun _=>rfl) L k j x hk hj
 obtain⟨b,o,e,y0⟩:=h (k*2+0) _ (g 0 (by decide));obtain⟨b1,o1,e1,y1⟩:=h (k*2+1) _ (g 1 (by decide));rw[e] at e1;injection e1 with e1;injection e1 with e3 e4;subst e3;subst e4;exact⟨b,o,e,y0,by rw[Nat.add_assoc];exact y1⟩
open Go.RowKit
def AC(L:List Hp)(h:Hp):Nat:=L.countP fun x=>ltH x h
theorem OJ(L:List Hp)(h:Hp):AC L h≤L.length:=List.countP_le_length
theorem OK{L:List Hp}{h:Hp}(_hup:eO ltH L){i:Nat}(hi:i≤L.length)(h1:∀k x,k<i→L[k]?=some x→ltH x h=true)(h2:∀k x,i≤k→L[k]?=some x→ltH x h=false):AC L h=i:=by
 have e:AC L h=(L.take i).countP (fun x=>ltH x h)+(L.drop i).countP (fun x=>ltH x h):=by
  unfold AC;rw[← List.countP_append,List.take_append_drop]
 have a:(L.take i).countP (fun x=>ltH x h)=(L.take i).length:=by
  rw[List.countP_eq_length];intro x hx;obtain⟨k,hk,rfl⟩:=List.getElem_of_mem hx;rw[List.length_take] at hk;exact h1 k _ (by omega) (by rw[List.getElem_take,gEz])
 have b:(L.drop i).countP (fun x=>ltH x h)=0:=by
  rw[List.countP_eq_zero];intro x hx;obtain⟨k,hk,rfl⟩:=List.getElem_of_mem hx;rw[List.length_drop] at hk;rw[h2 (i+k) _ (by omega) (by rw[List.getElem_drop,gEz])];simp
 rw[e,a,b,List.length_take];omega
theorem wN{L:List Hp}(hup:eO ltH L){i j:Nat}{x y:Hp}(hx:L[i]?=some x)(hy:L[j]?=some y)(hij:i<j):ltH x y=true:=by
 obtain⟨h1,e1⟩:=gO.1 hx;obtain⟨h2,e2⟩:=gO.1 hy;have:=(List.pairwise_iff_getElem.1 hup) i j h1 h2 hij;rwa [e1,e2] at this
theorem DF(w:World)(A:Option Addr)(c:Nat)(L:List Hp)(h:Hp)(hr:bO w A (aR L))(hup:eO ltH L)(hl:L.length*24≤140737488355328) :
  Calls Tryz.prog 73 #[.slice A L.length c,h.agg,.func (.func 74) #[] #[]] w (Sam w (.tuple #[.int .i64 (AC L h),.bool (decide (h∈L))])):=by
 obtain⟨s0,s1⟩:=h;obtain⟨r,hr0⟩:∃r,AC L ⟨s0,s1⟩=r:=⟨_,rfl⟩;obtain⟨b,hb0⟩:∃r,decide ((⟨s0,s1⟩:Hp)∈L)=r:=⟨_,rfl⟩;rw[hr0,hb0];obtain⟨n,hn⟩:∃n,L.length=n:=⟨_,rfl⟩;rw[hn] at hl ⊢;have k0:=Blk.new w 145 #[.string s0,.int .i64 s1];have u0:Below w.heap.size w (w.alloc (.cells #[.string s0,.int .i64 s1] 145)):=bR.alloc (Nat.le_refl _) _;have H:=aI7 (hr.below u0) k0 u0 hup hn hr0 hb0;clear hr k0 u0 hup hn hr0 hb0;have eg:∀args w,(callFunc 74 args).run Tryz.prog w=.ok (.enter 74 args) w:=Go.Proofs.enters_of Tryz.func74 (by kernel_rfl) rfl;unfold Hp.agg;dsimp only
 go_enter Tryz.func73,Tryz.ntmps73;go_upto_region 1 with (fail);generalize w.alloc (.cells #[.string s0,.int .i64 s1] 145)=W0 at H ⊢;go_wp2_with fail;go_loopw [9,10,11] (fun lo hi _ wr=>∃i j:Nat,i≤j∧j≤n∧lo=.int .i64 i∧hi=.int .i64 j∧Hid (Below W0.heap.size W0 wr)∧Hid ((∀k x,k<i→L[k]?=some x→ltH x ⟨s0,s1⟩=true)∧∀k x,j≤k→L[k]?=some x→ltH x ⟨s0,s1⟩=false)) (fun lo hi _ _=>(intOf hi).toNat-(intOf lo).toNat)
 case atStart=>exact⟨0,n,Nat.zero_le _,Nat.le_refl _,rfl,rfl,hIz bR,hIz ⟨fun k x hk=>by omega,fun k x hk hx=>by have:=(gO.1 hx).1;have:=H.out.2.2.2.2.1;omega⟩⟩
 case round =>
  obtain⟨i,j,hij,hjn,rfl,rfl,hbw,hs⟩:=hrel;by_cases hlt:i<j
  ·have hltI:(i:Int)<(j:Int):=by omega
   obtain⟨k,hk⟩:∃k,(i+j) / 2=k:=⟨_,rfl⟩;have hq:((i:Int)+(j:Int)) / 2=(k:Int):=by rw[← hk];omega
   have hkj:k<j:=by omega
   have hik:i≤k:=by omega
   have hkn:k<n:=by omega
   have hknI:(k:Int)<(n:Int):=by omega
   have hw2:IntKind.i64.wrap ((k:Int)+1)=(k:Int)+1:=IntWalk.i64_in _ (by omega);obtain⟨⟨x0,x1⟩,hx⟩:∃x,L[k]?=some x:=⟨L[k]'(by rw[H.out.2.2.2.2.1];exact hkn),gEz _⟩;obtain⟨ab,ao,rfl,y0,y1⟩:=(H.out.1.below hbw.out).hp hx;dsimp only at y0 y1
   obtain⟨v,hv⟩:∃v,NG ⟨x0,x1⟩ ⟨s0,s1⟩=v:=⟨_,rfl⟩;have hcon:=fun W=>uH ⟨x0,x1⟩ ⟨s0,s1⟩ W
   rw[hv] at hcon;unfold Hp.agg at hcon;dsimp only at hcon
   have hlt2:=OH ⟨x0,x1⟩ ⟨s0,s1⟩;rw[hv] at hlt2;have HX:=aI2 hx hlt2;have HC:=hIz hcon;have SR:=hIz (show ∀W,Below W0.heap.size W0 W→W.cell? ⟨w.heap.size,0,none⟩=some (.string s0)∧W.cell? ⟨w.heap.size,1,none⟩=some (.int .i64 s1)∧W.cell? ⟨ab,ao+k*2,none⟩=some (.string x0)∧W.cell? ⟨ab,ao+k*2+1,none⟩=some (.int .i64 x1) from fun W hb=>by
    have kb:=H.out.2.1.upd (upF hb) id;obtain⟨b',o',e,z0,z1⟩:=(H.out.1.below hb).hp HX.out.1;injection e with e;injection e with e1 e2;subst e1;subst e2;exact⟨kb.cell 0,kb.cell 1,z0,z1⟩)
   have hS:=SR.out _ hbw.out.drew;clear hx hlt2 hcon hv hk y0 y1;go_upto_region 5 with (fail);refine aN (fun W=>W.cell? ⟨w.heap.size,0,none⟩=some (.string s0)∧W.cell? ⟨w.heap.size,1,none⟩=some (.int .i64 s1)∧W.cell? ⟨ab,ao+k*2,none⟩=some (.string x0)∧W.cell? ⟨ab,ao+k*2+1,none⟩=some (.int .i64 x1)) 8 [(0,true),(1,true),(2,true),(3,true),(4,true),(5,true),(6,false),(7,true)] hS ?_
   iterate 6 refine aD rfl ?_
   refine aK rfl rfl (fun K hK=>?_);go_simp;refine(HC.out wr.drew).mono ?_;rintro e W5 ⟨rfl,b5⟩;have HB5:=hIz (hbw.out.drew.trans (b5.mono hbw.out.size));refine hK _ _ (fun _=>SR.out _ HB5.out) ?_;clear hK K hS b5;(try simp only[Act.put,gA,gS,gZ,sA,sZ,sS])
   by_cases hv0:v<0
   ·have hlx:ltH ⟨x0,x1⟩ ⟨s0,s1⟩=true:=by rw[← HX.out.2];simpa using hv0
    have HL:=hIz hlx;clear hlx;refine aD rfl ?_;refine aJ ?_;go_wp2;go_roundw
    case rel=>exact⟨k+1,j,by omega,hjn,by go_num,rfl,HB5,hIz ⟨fun k' x' hk' hx'=>by
      rcases Nat.lt_succ_iff_lt_or_eq.1 hk' with h|rfl
      ·exact JJ.tr _ _ _ (wN H.out.2.2.2.1 hx' HX.out.1 h) HL.out
      ·rw[HX.out.1] at hx';injection hx' with e;rw[← e];exact HL.out,hs.out.2⟩⟩
    case measure=>simp[intOf];omega
   ·have hlx:ltH ⟨x0,x1⟩ ⟨s0,s1⟩=false:=by rw[← HX.out.2];simpa using hv0
    have HL:=hIz hlx;clear hlx;refine aD rfl ?_;refine aJ ?_;go_wp2;go_roundw
    case rel=>exact⟨i,k,hik,by omega,rfl,rfl,HB5,hIz ⟨hs.out.1,fun k' x' hk' hx'=>by
      rcases Nat.lt_or_eq_of_le hk' with h|rfl
      ·cases e:ltH x' ⟨s0,s1⟩
       ·rfl
       ·have:=JJ.tr _ _ _ (wN H.out.2.2.2.1 HX.out.1 hx' h) e;rw[HL.out] at this;cases this
      ·rw[HX.out.1] at hx';injection hx' with e;rw[← e];exact HL.out⟩⟩
    case measure=>simp[intOf];omega
  ·obtain rfl:i=j:=by omega
   have hri:r=i:=by
    rw[← H.out.2.2.2.2.2.1];exact OK H.out.2.2.2.1 (by rw[H.out.2.2.2.2.1];exact hjn) hs.out.1 hs.out.2
   subst hri;obtain⟨W2,hW2⟩:∃W,W=wr:=⟨_,rfl⟩;subst hW2;by_cases hin:r<n
   ·have hinI:(r:Int)<(n:Int):=by omega
    obtain⟨⟨x0,x1⟩,hx⟩:∃x,L[r]?=some x:=⟨L[r]'(by rw[H.out.2.2.2.2.1];exact hin),gEz _⟩;obtain⟨ab,ao,rfl,-,-⟩:=(H.out.1.below hbw.out).hp hx;obtain⟨v,hv⟩:∃v,NG ⟨x0,x1⟩ ⟨s0,s1⟩=v:=⟨_,rfl⟩;have hcon:=fun W=>uH ⟨x0,x1⟩ ⟨s0,s1⟩ W
    rw[hv] at hcon;unfold Hp.agg at hcon;dsimp only at hcon
    have hbv:b=decide (v=0):=by
     rw[← H.out.2.2.2.2.2.2,← hv,Bool.eq_iff_iff,decide_eq_true_iff,decide_eq_true_iff,DD];constructor
     ·intro hm;obtain⟨k,hk,e⟩:=List.getElem_of_mem hm;have hk':L[k]?=some ⟨s0,s1⟩:=by rw[gEz hk,e]
      rcases Nat.lt_trichotomy k r with h|rfl|h
      ·have:=hs.out.1 k _ h hk';rw[JJ.irr] at this;cases this
      ·rw[hx] at hk';injection hk'
      ·have h1:=hs.out.2 r _ (Nat.le_refl _) hx;rw[wN H.out.2.2.2.1 hx hk' h] at h1;cases h1
     ·intro e;rw[← e];exact mG hx
    have HX:=aI2 hx hbv;have HC:=hIz hcon;have SR:=hIz (show ∀W,Below W0.heap.size W0 W→W.cell? ⟨w.heap.size,0,none⟩=some (.string s0)∧W.cell? ⟨w.heap.size,1,none⟩=some (.int .i64 s1)∧W.cell? ⟨ab,ao+r*2,none⟩=some (.string x0)∧W.cell? ⟨ab,ao+r*2+1,none⟩=some (.int .i64 x1) from fun W hb=>by
     have kb:=H.out.2.1.upd (upF hb) id;obtain⟨b',o',e,z0,z1⟩:=(H.out.1.below hb).hp HX.out.1;injection e with e;injection e with e1 e2;subst e1;subst e2;exact⟨kb.cell 0,kb.cell 1,z0,z1⟩)
    have hS:=SR.out _ hbw.out.drew;clear hx hbv hcon hv;go_upto_region 8 with (fail);refine aN (fun W=>W.cell? ⟨w.heap.size,0,none⟩=some (.string s0)∧W.cell? ⟨w.heap.size,1,none⟩=some (.int .i64 s1)∧W.cell? ⟨ab,ao+r*2,none⟩=some (.string x0)∧W.cell? ⟨ab,ao+r*2+1,none⟩=some (.int .i64 x1)) 16 [(0,true),(1,true),(2,true),(3,true),(4,true),(5,true),(6,true),(7,true),(8,true),(9,true),(10,true),(11,false),(12,true),(13,true),(14,true),(15,true)] hS ?_
    iterate 11 refine aD rfl ?_
    (refine NY rfl (by first | with_reducible rfl | kernel_rfl) (fun K hK=>?_);go_simp)
    refine(HC.out W2.drew).mono ?_;rintro e W5 ⟨rfl,b5⟩;have HB5:=hIz (hbw.out.drew.trans (b5.mono hbw.out.size));refine hK _ _ (fun _=>SR.out _ HB5.out) ?_;clear hK K hS b5;(try simp only[Act.put,gA,gS,gZ,sA,sZ,sS])
    iterate 4 refine aD rfl ?_
    refine aJ ?_;have FIN:=hIz (tHn H.out.2.2.1 HB5.out);have HV:=hIz HX.out.2;go_wp2;refine bodyPost_ret (v:=.tuple #[.int .i64 r,.bool (v==0)]) (by simp[results,Tryz.f73,go_sem]) rfl ⟨?_,FIN.out⟩;rw[HV.out];congr 1
   ·obtain rfl:r=n:=by omega
    have hbf:b=false:=by
     cases b with
     | false=>rfl
     | true =>
      have hm:=of_decide_eq_true H.out.2.2.2.2.2.2;obtain⟨k,hk,e⟩:=List.getElem_of_mem hm;have:=hs.out.1 k _ (by have:=H.out.2.2.2.2.1;omega) (by rw[gEz hk,e]);rw[JJ.irr] at this;cases this
    subst hbf;have hS:True:=trivial;have FIN:=hIz (tHn H.out.2.2.1 hbw.out.drew);go_upto_region 8 with (fail);refine aN (fun _=>True) 16 [(0,true),(1,true),(2,true),(3,true),(4,true),(5,true),(6,true),(7,true),(8,true),(9,true),(10,true),(11,false),(12,true),(13,true),(14,true),(15,true)] hS ?_
    iterate 5 refine aD rfl ?_
    iterate 6 (refine xY rfl (by kernel_rfl) ?_;(try simp only[Act.put,gA,gS,gZ,sA,sZ,sS]))
    (refine CS rfl (by kernel_rfl) (by first | assumption | trivial | exact UP.out _ H5.out) ?_;(try simp only[Act.put,gA,gS,gZ,sA,sZ,sS]))
    (refine xY rfl (by kernel_rfl) ?_;(try simp only[Act.put,gA,gS,gZ,sA,sZ,sS]))
    iterate 3 refine aD rfl ?_
    refine aJ ?_;go_wp2;refine bodyPost_ret (v:=.tuple #[.int .i64 r,.bool false]) (by simp[results,Tryz.f73,go_sem]) rfl ⟨rfl,FIN.out⟩
open Go.RowKit
def CP(w:World)(L:List Txt)(e:Ending)(w':World):Prop:=∃v,e=.returned v∧w'.ownsRow w.heap.size 9 1 v L.length (aG L)∧Below w.heap.size w w'
theorem JK(w:World)(base:Nat)(v:Value)(L:List Txt)(own:w.ownsRow base 9 1 v L.length (aG L))(s:Txt)(hl:(L.length+1)*16≤140737488355328)(hb:base≤w.heap.size) :
  ∃v' w',(Builtin.append_ #[34,34] 34 #[v,.slice (some ⟨w.heap.size,0,none⟩) 1 1]).run Tryz.prog (w.alloc (.cells #[.string s] 9))=.ok v' w'∧w'.ownsRow base 9 1 v' (L++[s]).length (aG (L++[s]))∧Upd (fun k=>v.ownBlock=some k) w w'∧∀k,v.ownBlock=some k→base≤k:=by
 obtain⟨v',w',happ,own',up,-⟩:=dB w base 34 9 1 16 _ Tryz.underlying34 dE rfl (by decide) v L.length _ own [.string s] 1 rfl (by simp;exact rfl) hl (by unfold maxLen;omega) hb;refine⟨v',w',happ,?_,up,fun k hk=>(own.lt k hk).1⟩;rw[List.length_append,aG,List.map_append];exact own'

structure CQ(w:World)(r:Nat)(L:List Txt)(m:Nat):Prop where
 ex:∃kv,cY w Tryz.prog 9 r kv∧(∀q∈kv,∃(s:Txt) (v:Int),q=(.string s,.int .i64 v)∧1≤v∧v≤m∧s∈L)∧∀s∈L,∃v,((.string s,v):Value × Value)∈kv
theorem CQ.upd{w w':World}{r m:Nat}{L:List Txt}{F:Nat→Prop}(h:CQ w r L m)(hu:Upd F w w')(hF:¬F r):CQ w' r L m:=by
 obtain⟨kv,h1,h2,h3⟩:=h.ex;exact⟨kv,h1.upd hu hF,h2,h3⟩
theorem CQ.lt{w:World}{r m:Nat}{L:List Txt}(h:CQ w r L m):r<w.heap.size:=by
 obtain⟨kv,h1,-⟩:=h.ex;exact h1.lt
theorem CQ.look{w:World}{r m:Nat}{L:List Txt}(h:CQ w r L m){s:Txt}(hs:dA s) :
  ∃v:Int,(Instr.lookup 128 (.map (some r)) (.string s) false).run Tryz.prog w=.ok (.int .i64 v) w∧((v==0)=!inB s L)∧0≤v∧v≤m:=by
 obtain⟨kv,h1,h2,h3⟩:=h.ex;by_cases hin:s∈L
 ·obtain⟨v,hv⟩:=h3 s hin;obtain⟨t,x,e,hx1,hx2,-⟩:=h2 _ hv;injection e with e1 e2;subst e2;refine⟨x,h1.look_hit fT Tryz.underlying128 hv false,?_,by omega,hx2⟩;rw[bK.2 hin];simp
  omega
 ·refine⟨0,h1.look_miss fT Tryz.underlying128 (mN hs) (fun q hq e=>?_) (by kernel_rfl) false,by rw[show inB s L=false from by cases e:inB s L;rfl;exact(hin (bK.1 e)).elim];rfl,by omega,by omega⟩;obtain⟨t,x,rfl,-,-,ht⟩:=h2 q hq;simp only[Value.string.injEq] at e
  subst e;exact hin ht
theorem CQ.step{w:World}{r m:Nat}{L:List Txt}(h:CQ w r L m){s:Txt}(hs:dA s){x:Int}(h0:0≤x)(hx:x≤m) :
  ∃w',(Instr.mapUpdate 128 (.map (some r)) (.string s) (.int .i64 (x+1))).run Tryz.prog w=.ok () w'∧CQ w' r (s::L) (m+1)∧Upd (fun q=>q=r) w w':=by
 obtain⟨kv,h1,h2,h3⟩:=h.ex;have up:∀{w':World},w.grownBy w' (some r)→Upd (fun q=>q=r) w w':=fun hg=>(Upd.of_grown hg).mono (fun i _ e=>by injection e with e;exact e.symm)
 by_cases hin:∃v,((.string s,v):Value × Value)∈kv
 ·obtain⟨v,hv⟩:=hin;obtain⟨w',j,hr,hj,hm,hg,-⟩:=h1.put_hit fT Tryz.underlying128 (.int .i64 (x+1)) hv;refine⟨w',hr,⟨_,hm,fun q hq=>?_,fun t ht=>?_⟩,up hg⟩
  ·rcases List.mem_or_eq_of_mem_set hq with hq|rfl
   ·obtain⟨t,y,e,a,b,c⟩:=h2 q hq;exact⟨t,y,e,a,by omega,List.mem_cons_of_mem _ c⟩
   ·exact⟨s,x+1,rfl,by omega,by omega,List.mem_cons_self⟩
  ·have hjl:=(gO.1 hj).1;have key:∀y,((.string t,y):Value × Value)∈kv→∃y,((.string t,y):Value × Value)∈kv.set j (.string s,.int .i64 (x+1)):=fun y hy=>by
    obtain⟨i,hi⟩:=List.mem_iff_getElem?.1 hy;by_cases e:j=i
    ·subst e;rw[hj] at hi;injection hi with hi;injection hi with hi _;rw[← hi];exact⟨_,mG (i:=j) (by rw[List.getElem?_set_self hjl])⟩
    ·exact⟨y,mG (i:=i) (by rw[List.getElem?_set_ne e];exact hi)⟩
   rcases List.mem_cons.1 ht with rfl|ht
   ·exact key _ hv
   ·obtain⟨y,hy⟩:=h3 t ht;exact key y hy
 ·obtain⟨w',hr,hm,hg,-⟩:=h1.put_miss fT Tryz.underlying128 (.int .i64 (x+1)) (mN hs) (fun q hq e=>hin ⟨q.2,by rw[← e];exact hq⟩);refine⟨w',hr,⟨_,hm,fun q hq=>?_,fun t ht=>?_⟩,up hg⟩
  ·rcases List.mem_append.1 hq with hq|hq
   ·obtain⟨t,y,e,a,b,c⟩:=h2 q hq;exact⟨t,y,e,a,by omega,List.mem_cons_of_mem _ c⟩
   ·obtain rfl:=List.mem_singleton.1 hq;exact⟨s,x+1,rfl,by omega,by omega,List.mem_cons_self⟩
  ·rcases List.mem_cons.1 ht with rfl|ht
   ·exact⟨_,by simp;exact .inr rfl⟩
   ·obtain⟨y,hy⟩:=h3 t ht;exact⟨y,List.mem_append.2 (.inl hy)⟩

def fJ(E:List Ed):Nat→List Txt
 | 0=>[]
 | k+1=>match E[k]? with
  | some x=>x.to::x.fr::fJ E k
  | none=>fJ E k
theorem AD{E:List Ed}{k:Nat}{x:Ed}(h:E[k]?=some x):fJ E (k+1)=x.to::x.fr::fJ E k:=by rw[fJ,h]
theorem qM(E:List Ed)(s:Txt):∀k,s∈fJ E k↔∃(i:Nat) (x:Ed),i<k∧E[i]?=some x∧(s=x.fr∨s=x.to)
 | 0=>by simp[fJ]
 | k+1=>by
  have ih:=qM E s k;unfold fJ;cases hx:E[k]? with
  | none =>
   simp only
   rw[ih];constructor
   ·rintro⟨i,x,a,b⟩;exact⟨i,x,by omega,b⟩
   ·rintro⟨i,x,a,b,c⟩;refine⟨i,x,?_,b,c⟩;rcases Nat.lt_succ_iff_lt_or_eq.1 a with a|rfl
    ·exact a
    ·rw[hx] at b;cases b
  | some y =>
   simp only[List.mem_cons]
   rw[ih];constructor
   ·rintro (rfl|rfl|⟨i,x,a,b⟩)
    ·exact⟨k,y,by omega,hx,.inr rfl⟩
    ·exact⟨k,y,by omega,hx,.inl rfl⟩
    ·exact⟨i,x,by omega,b⟩
   ·rintro⟨i,x,a,b,c⟩;rcases Nat.lt_succ_iff_lt_or_eq.1 a with a|rfl
    ·exact .inr (.inr ⟨i,x,a,b,c⟩)
    ·rw[hx] at b;injection b with b;subst b;rcases c with c|c
     ·exact .inr (.inl c)
     ·exact .inl c
def eE(N:List Txt)(E:List Ed):List Txt:=N.filter fun s=>!inB s (fJ E E.length)
def gF(N:List Txt)(E:List Ed)(k:Nat):List Txt:=(N.take k).filter fun s=>!inB s (fJ E E.length)
theorem fQ{α:Type}{l:List α}{k:Nat}{x:α}(h:l[k]?=some x):l.take (k+1)=l.take k++[x]:=by
 obtain⟨hk,rfl⟩:=gO.1 h;exact List.take_succ_eq_append_getElem hk
theorem AE{N:List Txt}{E:List Ed}{k:Nat}{s:Txt}(h:N[k]?=some s)(hb:inB s (fJ E E.length)=false):gF N E (k+1)=gF N E k++[s]:=by
 rw[gF,fQ h,List.filter_append];simp[hb,gF]
theorem wO{N:List Txt}{E:List Ed}{k:Nat}{s:Txt}(h:N[k]?=some s)(hb:inB s (fJ E E.length)=true):gF N E (k+1)=gF N E k:=by
 rw[gF,fQ h,List.filter_append];simp[hb,gF]
theorem AF(N:List Txt)(E:List Ed):gF N E N.length=eE N E:=by rw[gF,List.take_length];rfl
theorem DG(N:List Txt)(E:List Ed)(k:Nat):(gF N E k).length≤k:=Nat.le_trans (List.length_filter_le _ _) (by rw[List.length_take];omega)

theorem JL(w:World)(A:Option Addr)(c:Nat)(B:Option Addr)(d:Nat)(N:List Txt)(E:List Ed)(h:qL w A c B d N E) :
  Calls Tryz.prog 193 #[dX A N.length c B E.length d] w (CP w (eE N E)):=by
 have k0:=Blk.new w 52 #[.slice A N.length c,.slice B E.length d];have u0:Below w.heap.size w (w.alloc (.cells #[.slice A N.length c,.slice B E.length d] 52)):=bR.alloc (Nat.le_refl _) _;have hn:N.length*16≤140737488355328:=h.fit.n;have hd:E.length≤140737488355328:=by have:=h.fit.e;omega
 have HA:=aI2 h.fit.tn h.fit.te;have H:=aI3 (h.below u0) k0 u0;clear h k0 u0;unfold dX;go_enter Tryz.func193,Tryz.ntmps193;go_upto_region 1 with (fail);generalize w.alloc (.cells #[.slice A N.length c,.slice B E.length d] 52)=W0 at H ⊢;have hmm:=@run_makeMap Tryz.prog;go_upto_region 2 with (fail);have m3:CQ (W0.alloc (.map #[] 0)) W0.heap.size [] 0:=⟨[],cY.made W0 Tryz.prog 9,fun q hq=>(by cases hq),fun s hs=>(by cases hs)⟩;have b3:Below W0.heap.size W0 (W0.alloc (.map #[] 0)):=bR.alloc (Nat.le_refl _) _;have k3:=H.out.2.1.upd (upF b3) id;have H3:=aI4 (H.out.1.below b3) k3 (tHn H.out.2.2 b3) m3;have hr1:w.heap.size<W0.heap.size:=H.out.2.1.lt;have HAB:=hIz (show(∀(j:Nat) (x:Ed),E[j]?=some x→∃b o,B=some ⟨b,o,none⟩∧b<W0.heap.size)∧∀(j:Nat) (x:Txt),N[j]?=some x→∃b o,A=some ⟨b,o,none⟩∧b<W0.heap.size from
  ⟨fun j x hx=>by obtain⟨b,o,e,y0,-⟩:=H.out.1.re.ed hx;exact⟨b,o,e,World.block_lt_of_cell? _ _ y0⟩,fun j x hx=>by obtain⟨b,o,e,y0⟩:=H.out.1.rn.txt hx;exact⟨b,o,e,World.block_lt_of_cell? _ _ y0⟩⟩)
 clear b3 m3 k3 hmm;generalize W0.alloc (.map #[] 0)=W3 at H3 ⊢;have q1:W3.cell? ⟨w.heap.size,1,none⟩=some (.slice B E.length d):=H3.out.2.1.cell 1;go_wp2_with fail;clear q1;go_loopw [5,13] (fun _ i wr=>∃k:Nat,k≤E.length∧i=.int .i64 k∧Hid (Upd (fun q=>q=W0.heap.size) W3 wr)∧Hid (CQ wr W0.heap.size (fJ E k) (2*k))) (fun _ i _=>E.length-(intOf i).toNat)
 case atStart=>exact⟨0,Nat.zero_le _,rfl,hIz (Upd.refl _ _),hIz H3.out.2.2.2⟩
 case round =>
  obtain⟨k,hk,rfl,hu,hm⟩:=hrel;by_cases hlt:k<E.length
  ·have hltI:(k:Int)<(E.length:Int):=by omega
   have hkw:IntKind.i64.wrap ((k:Int)+1)=(k:Int)+1:=IntWalk.i64_in _ (by omega);obtain⟨⟨s0,s1,s2⟩,hx⟩:∃x,E[k]?=some x:=⟨E[k],gEz _⟩;obtain⟨ab,ao,rfl,hab⟩:=HAB.out.1 k _ hx;obtain⟨ab',ao',e,y0,y1,y2⟩:=H3.out.1.re.ed hx;injection e with e;injection e with e e2;subst e;subst e2;dsimp only at y0 y1 y2
   have hl3:=World.block_lt_of_cell? W3 _ y0;have cc:=fun i=>hu.out.cell (p:=⟨ab,i,none⟩) hl3 (by show ¬ab=_;omega)
   have x0:=(cc _).trans y0;have x1:=(cc _).trans y1;have x2:=(cc _).trans y2;have hok:=HA.out.2 _ (mG hx);have kx:=Blk.new wr 23 #[.string s0,.string s1,.string s2];have ux:Upd (fun q=>q=W0.heap.size) W3 (wr.alloc (.cells #[.string s0,.string s1,.string s2] 23)):=hu.out.alloc _;have mx:=hm.out.upd (Upd.of_below ((Below.refl wr.heap.size wr).alloc (Nat.le_refl _) (.cells #[.string s0,.string s1,.string s2] 23)) (fun _=>False)) id;have hrw:=hm.out.lt;have HX:=aI5 hx hok kx ux mx;clear hx hok kx ux mx y0 y1 y2 cc hl3;go_upto_region 5 with (fail);generalize wr.alloc (.cells #[.string s0,.string s1,.string s2] 23)=W5 at HX ⊢;clear x0 x1 x2;have x0:W5.cell? ⟨wr.heap.size,0,none⟩=some (.string s0):=HX.out.2.2.1.cell 0;obtain⟨v0,l0,-,h0,h0'⟩:=HX.out.2.2.2.2.look (s:=s0) HX.out.2.1.1;have hw0:IntKind.i64.wrap (v0+1)=v0+1:=IntWalk.i64_in _ (by omega);obtain⟨w6,r6,m6,u6⟩:=HX.out.2.2.2.2.step (s:=s0) HX.out.2.1.1 h0 (by omega);have k6:=HX.out.2.2.1.upd u6 (by omega);have H6:=aI2 (HX.out.2.2.2.1.trans u6 (fun i e=>.inl e)) m6;clear m6 u6;have x2:w6.cell? ⟨wr.heap.size,2,none⟩=some (.string s2):=k6.cell 2;obtain⟨v1,l1,-,h1,h1'⟩:=H6.out.2.look (s:=s2) HX.out.2.1.2.2;have hw1:IntKind.i64.wrap (v1+1)=v1+1:=IntWalk.i64_in _ (by omega);obtain⟨w7,r7,m7,u7⟩:=H6.out.2.step (s:=s2) HX.out.2.1.2.2 h1 (by omega);have H7:=aI2 (H6.out.1.trans u7 (fun i e=>.inl e)) m7;clear m7 u7 k6;go_wp2;go_roundw
   case rel=>exact⟨k+1,by omega,by go_num,hIz H7.out.1,hIz (by rw[AD HX.out.1];exact H7.out.2)⟩
   case measure=>simp[intOf];omega
  ·obtain rfl:k=E.length:=by omega
   obtain⟨W4,hW4⟩:∃W,W=wr:=⟨_,rfl⟩;subst hW4;have k4:=H3.out.2.1.upd hu.out (by omega);have q0:W4.cell? ⟨w.heap.size,0,none⟩=some (.slice A N.length c):=k4.cell 0;have bw4:Below w.heap.size w W4:=H3.out.2.2.1.trans (hu.out.below (fun q _ e=>by omega) H3.out.2.2.1.size);have H4:=aI3 bw4 hu.out hm.out;clear k4 bw4 hk hlt hu hm;go_wp2_with fail;clear q0;go_loopw [6,8,31] (fun v _ i wz=>∃k:Nat,k≤N.length∧i=.int .i64 k∧Hid (Below W4.heap.size W4 wz)∧Hid (wz.ownsRow W4.heap.size 9 1 v (gF N E k).length (aG (gF N E k)))) (fun _ _ i _=>N.length-(intOf i).toNat)
   case atStart=>exact⟨0,Nat.zero_le _,rfl,hIz bR,hIz (World.ownsRow_nil _ _ _ _)⟩
   case round =>
    obtain⟨k,hk,rfl,hb,ho⟩:=hrel;obtain⟨A5,c5,rfl,-,-⟩:=aH ho.out;obtain⟨n5,hn5⟩:∃n5,(gF N E k).length=n5:=⟨_,rfl⟩;have hle:=DG N E k;by_cases hlt:k<N.length
    ·have hltI:(k:Int)<(N.length:Int):=by omega
     have hkw:IntKind.i64.wrap ((k:Int)+1)=(k:Int)+1:=IntWalk.i64_in _ (by omega);obtain⟨s,hx⟩:∃x,N[k]?=some x:=⟨N[k],gEz _⟩;obtain⟨ab,ao,rfl,hab⟩:=HAB.out.2 k _ hx;obtain⟨ab',ao',e,y0⟩:=H3.out.1.rn.txt hx;injection e with e;injection e with e e2;subst e;subst e2;have hl3:=World.block_lt_of_cell? W3 _ y0;have x0:wr.cell? ⟨ab,ao+k,none⟩=some (.string s):=(hb.out.cell (p:=⟨ab,ao+k,none⟩) (Nat.lt_of_lt_of_le hl3 H4.out.2.1.size)).trans ((H4.out.2.1.cell (p:=⟨ab,ao+k,none⟩) hl3 (by show ¬ab=_;omega)).trans y0);obtain⟨v0,l0,hv0,-⟩:=(H4.out.2.2.upd (upF hb.out) id).look (s:=s) (HA.out.1 s (mG hx));obtain⟨b,hbb⟩:∃b,inB s (fJ E E.length)=b:=⟨_,rfl⟩;rw[hbb] at hv0;have HX:=aI2 hx hbb;clear hx hbb y0 hl3;rw[hn5];cases b
     ·simp only[Bool.not_false] at hv0
      obtain⟨v6,w6,happ,own6,u6,hv6⟩:=JK wr W4.heap.size _ _ ho.out s (by omega) hb.out.size;rw[hn5] at happ;have b6:Below W4.heap.size W4 w6:=hb.out.trans (u6.below (fun q _ e=>hv6 q e) hb.out.size);have H6:=aI2 own6 b6;clear own6 b6 u6 hv6 hn5 hle;go_wp2_with (at_builtin;refine wpList_append_run rfl _ _ _ rfl rfl rfl happ ?_);go_roundw
      case rel=>exact⟨k+1,by omega,by go_num,hIz H6.out.2,hIz (by rw[AE HX.out.1 HX.out.2];exact H6.out.1)⟩
      case measure=>simp[intOf];omega
     ·simp only[Bool.not_true] at hv0
      have HN5:=hIz hn5;clear hn5 hle;go_wp2;go_roundw
      case rel=>exact⟨k+1,by omega,by go_num,hb,hIz (by rw[wO HX.out.1 HX.out.2];have:=ho.out;rw[HN5.out] at this ⊢;exact this)⟩
      case measure=>simp[intOf];omega
    ·obtain rfl:k=N.length:=by omega
     have fin:CP w (eE N E) (.returned (.slice A5 n5 c5)) wr:=by
      rw[← AF];refine⟨_,rfl,?_,tHn H4.out.1 hb.out⟩;rw[← hn5];exact bC ho.out (fun q hq=>Nat.le_trans H4.out.1.size (ho.out.lt q hq).1)
     have FIN:=hIz fin;rw[hn5];clear fin hn5 hle;go_wp2;go_ret;exact FIN.out
open Go.Shelf
def jA:Go.Shelf.Ren:=⟨fun | 0=>0 | 1=>1 | 2=>2 | 106=>110 | 122=>98 | 125=>144 | 128=>184 | 129=>185 | 166=>194 | 169=>195 | 170=>301 | 190=>191 | 194=>192 | 213=>158 | 215=>145 | 240=>229 | 258=>228 | 265=>200 | 276=>248 | 302=>239 | 303=>240 | 304=>241 | 305=>242 | 306=>243 | 307=>244 | 308=>245 | 309=>246 | 310=>247 | 329=>219 | 330=>220 | 333=>267 | 334=>268 | 335=>269 | 336=>270 | 338=>199 | 344=>277 | 347=>280 | 348=>281 | 349=>282 | 350=>283 | 351=>284 | 352=>285 | 353=>286 | 354=>287 | 355=>288 | 356=>289 | 357=>290 | 358=>291 | 359=>292 | 360=>294 | 361=>295 | 362=>302 | 366=>303 | 367=>307 | n=>n,fun | 0=>0 | 1=>1 | 2=>2 | 3=>3 | 4=>4 | 5=>5 | 6=>6 | 7=>7 | 8=>8 | 9=>9 | 10=>10 | 11=>11 | 12=>12 | 13=>13 | 14=>14 | 15=>15 | 16=>16 | 17=>17 | 18=>18 | 19=>19 | 20=>20 | 21=>21 | 22=>315 | 27=>187 | 28=>189 | 31=>34 | 33=>239 | 37=>263 | 41=>245 | 43=>176 | 46=>197 | 47=>220 | 51=>258 | 52=>257 | 53=>166 | 54=>247 | 70=>262 | 71=>264 | 72=>265 | 73=>194 | 74=>266 | 75=>267 | 76=>268 | 77=>269 | 80=>270 | 81=>58 | 100=>261 | 101=>180 | 102=>89 | 103=>126 | 104=>206 | 111=>198 | 112=>185 | 127=>302 | 131=>141 | 135=>301 | 164=>318 | 165=>319 | 182=>251 | 183=>252 | 188=>312 | 189=>313 | 190=>314 | 191=>316 | 192=>317 | 218=>292 | 219=>293 | 220=>294 | 222=>296 | 224=>332 | 225=>333 | 228=>308 | 229=>94 | 231=>338 | 233=>303 | 238=>341 | 239=>342 | 240=>343 | 241=>344 | 242=>345 | 243=>346 | 244=>347 | 245=>348 | 246=>349 | 247=>350 | 248=>351 | 249=>352 | n=>n,fun n=>n⟩
theorem JM:Lays.n166 Tryz.prog jA:={
 mixed:=(by kernel_rfl)
 f166:=Tryz.func194.trans (congrArg some (by kernel_rfl))
 f240:=Tryz.func229.trans (congrArg some (by kernel_rfl))
 f276:=Tryz.func248.trans (congrArg some (by kernel_rfl))
 t0:=Tryz.underlying0
 a0:=Tryz.isAgg0
 z0:=Tryz.sizeOf0
 v0:=Tryz.zeroValue0
 t3:=Tryz.underlying3
 a3:=Tryz.isAgg3
 z3:=Tryz.sizeOf3
 v3:=Tryz.zeroValue3
 t4:=Tryz.underlying4
 a4:=Tryz.isAgg4
 z4:=Tryz.sizeOf4
 v4:=Tryz.zeroValue4
 t9:=Tryz.underlying9
 a9:=Tryz.isAgg9
 z9:=Tryz.sizeOf9
 v9:=Tryz.zeroValue9
 t20:=Tryz.underlying20
 a20:=Tryz.isAgg20
 z20:=Tryz.sizeOf20
 v20:=Tryz.zeroValue20
 t37:=Tryz.underlying263
 a37:=Tryz.isAgg263
 z37:=Tryz.sizeOf263
 v37:=Tryz.zeroValue263
 t70:=Tryz.underlying262
 a70:=Tryz.isAgg262
 z70:=Tryz.sizeOf262
 v70:=Tryz.zeroValue262
 t72:=Tryz.underlying265
 a72:=Tryz.isAgg265
 z72:=Tryz.sizeOf265
 v72:=Tryz.zeroValue265
 t75:=Tryz.underlying267
 a75:=Tryz.isAgg267
 z75:=Tryz.sizeOf267
 v75:=Tryz.zeroValue267
 t164:=Tryz.underlying318
 a164:=Tryz.isAgg318
 z164:=Tryz.sizeOf318
 v164:=Tryz.zeroValue318 }
theorem TV:Lays.n169 Tryz.prog jA:={
 mixed:=(by kernel_rfl)
 f169:=Tryz.func195.trans (congrArg some (by kernel_rfl))
 t0:=Tryz.underlying0
 a0:=Tryz.isAgg0
 z0:=Tryz.sizeOf0
 v0:=Tryz.zeroValue0
 t3:=Tryz.underlying3
 a3:=Tryz.isAgg3
 z3:=Tryz.sizeOf3
 v3:=Tryz.zeroValue3
 t9:=Tryz.underlying9
 a9:=Tryz.isAgg9
 z9:=Tryz.sizeOf9
 v9:=Tryz.zeroValue9
 t37:=Tryz.underlying263
 a37:=Tryz.isAgg263
 z37:=Tryz.sizeOf263
 v37:=Tryz.zeroValue263
 t70:=Tryz.underlying262
 a70:=Tryz.isAgg262
 z70:=Tryz.sizeOf262
 v70:=Tryz.zeroValue262
 t72:=Tryz.underlying265
 a72:=Tryz.isAgg265
 z72:=Tryz.sizeOf265
 v72:=Tryz.zeroValue265
 t127:=Tryz.underlying302
 a127:=Tryz.isAgg302
 z127:=Tryz.sizeOf302
 v127:=Tryz.zeroValue302 }
theorem NH:Builder.Extra Tryz.prog jA:={
 sizeBuilder:=(by kernel_rfl)
 liesBuilder:=(by kernel_rfl)
 t5:=Tryz.underlying5
 a5:=Tryz.isAgg5
 z5:=Tryz.sizeOf5
 v5:=Tryz.zeroValue5
 infoByte:=(by kernel_rfl)
 cellsByte:=(by kernel_rfl)
 sizeByte:=(by kernel_rfl)
 neB5:=(by decide) }
open Go.RowKit
def IsB(w:World)(b:Nat)(l:List UInt8):Prop:=Lib.IsBuilderF 265 5 b b (Lib.byteCells l) w
theorem IsB.alloc{w:World}{b:Nat}{l:List UInt8}(h:IsB w b l)(o:Obj):IsB (w.alloc o) b l:=Lib.IsBuilderF.alloc h o
theorem IsB.below{w w':World}{b:Nat}{l:List UInt8}(h:IsB w b l)(hb:Below w.heap.size w w'):IsB w' b l:=by
 have hg:w.grownBy w' none:=(upF hb).to_grown (fun _ _ e=>e.elim);have key:∀p,Lib.BuilderAtF 265 5 b b p (Lib.byteCells l) w→Lib.BuilderAtF 265 5 b b p (Lib.byteCells l) w':=fun p ⟨h1,v,h2,h3,h4⟩ =>
  ⟨h1,v,(hb.block b (Array.getElem?_eq_some_iff.1 h2).1).trans h2,h3.kept hg (by cases v.ownBlock <;> simp),h4⟩
 exact h.imp (key _) (key _)
theorem IsB.new(w:World):IsB (w.alloc (.cells #[.pointer none,.slice none 0 0] 265)) w.heap.size []:=
 .inl ⟨Nat.le_refl _,.slice none 0 0,heap_alloc_new w _,World.ownsRowF_nil _ _ _ _,by simp[Value.ownBlock]⟩
theorem NI(w:World)(b:Nat)(l:List UInt8)(s:Txt)(h:IsB w b l)(hl:l.length+s.size≤140737488355328)(hb:b≤w.heap.size) :
  Calls Tryz.prog 194 #[.pointer (some ⟨b,0,none⟩),.string s] w fun e w'=>e=.returned (.tuple #[.int .i64 s.size,.nilIface])∧IsB w' b (l++s.data.toList)∧Below b w w'∧Lib.OthersKept 5 (some b) w w':=by
 have hcon:=Any.Builder_WriteString_k JM NH b b (Lib.byteCells l) s w h (by rw[Lib.byteCells_length];exact hl) hb;change Calls Tryz.prog 194 _ _ _ at hcon
 refine hcon.mono ?_;rintro e w' ⟨rfl,h1,h2,h3⟩;refine⟨rfl,.inr ?_,h2,h3⟩;have:Lib.byteCells (l++s.data.toList)=Lib.byteCells l++Lib.strCells s:=by rw[Lib.strCells_eq];simp[Lib.byteCells]
 rw[this];exact h1
theorem OL(w:World)(b:Nat)(l:List UInt8)(h:IsB w b l)(hb:b≤w.heap.size) :
  Calls Tryz.prog 195 #[.pointer (some ⟨b,0,none⟩)] w fun e w'=>e=.returned (.string ⟨l.toArray⟩)∧Below b w w':=by
 have hcon:=Any.Builder_String_any_k TV NH b b l w h hb;change Calls Tryz.prog 195 _ _ _ at hcon
 exact hcon.mono fun e w' hh=>⟨hh.1,hh.2.2.1⟩
theorem JN{w w':World}{base n b:Nat}{v:Value}{xs:List Value}(h:w.ownsRow base 9 1 v n xs)(hk:Lib.OthersKept 5 (some b) w w')(hb:v.ownBlock≠some b):w'.ownsRow base 9 1 v n xs:=by
 refine⟨h.1,?_⟩;rcases h.2 with h2|⟨g,cap,cur,rfl,h3,hg,r⟩
 ·exact .inl h2
 ·exact .inr ⟨g,cap,cur,rfl,h3,hk g _ hg (fun e=>hb e) (fun c fz e=>by injection e with _ e _;exact absurd e (by decide)),r⟩

def QT:List UInt8:=[32,59,10]
def fU(s:Txt):List UInt8:=s.data.toList++QT
def kV(x:Ed):List UInt8:=x.fr.data.toList++[32]++x.lb.data.toList++[32]++x.to.data.toList++QT
def oH(N:List Txt)(E:List Ed):List UInt8:=(eE N E).flatMap fU++E.flatMap kV
structure kW(N:List Txt)(E:List Ed):Prop where
 n:∀s∈N,s.size≤16
 e:∀x∈E,x.fr.size≤16∧x.lb.size≤16∧x.to.size≤16
theorem fV{s:Txt}(h:fN s=true):1≤s.size∧s.size≤16:=by
 unfold fN at h;rw[Bool.and_eq_true] at h;exact of_decide_eq_true h.1
theorem oI{s:Txt}(h:lF s=true):fN s=true:=by
 unfold lF at h;rw[Bool.and_eq_true] at h;exact h.1
theorem kW.of{N:List Txt}{E:List Ed}(h:cV N E=true):kW N E:=by
 unfold cV at h;rw[Bool.and_eq_true,List.all_eq_true,List.all_eq_true] at h;refine⟨fun s hs=>(fV (h.1 s hs)).2,fun x hx=>?_⟩;have:=h.2 x hx;unfold iF at this;rw[Bool.and_eq_true,Bool.and_eq_true] at this;exact⟨(fV this.1).2,(fV (oI this.2.1)).2,(fV this.2.2).2⟩
theorem rN{α β:Type}{f:α→List β}{c:Nat}:∀{l:List α},(∀x∈l,(f x).length≤c)→(l.flatMap f).length≤l.length*c
 | [],_=>by simp
 | x::l,h=>by
  have h1:=h x (by simp);have h2:=rN (l:=l) (fun y hy=>h y (by simp[hy]));simp only[List.flatMap_cons,List.length_append,List.length_cons,Nat.add_mul]
  omega
theorem yE{s:Txt}(h:s.size≤16):(fU s).length≤19:=by simp[fU,QT];omega
theorem JO{x:Ed}(h:x.fr.size≤16∧x.lb.size≤16∧x.to.size≤16):(kV x).length≤53:=by simp[kV,QT];omega
theorem oJ{N:List Txt}{E:List Ed}{s:Txt}(h:s∈eE N E):s∈N:=(List.mem_filter.1 h).1
theorem DH(N:List Txt)(E:List Ed):(eE N E).length≤N.length:=List.length_filter_le _ _
theorem jY(a b:Txt):(a++b).data.toList=a.data.toList++b.data.toList:=by simp
theorem jZ(a b:Txt):(a++b).size=a.size+b.size:=by simp
theorem mP(a b:Txt)(h:a.size+b.size≤1000):∀w,(Op.stringOp .add a b).run Tryz.prog w=.ok (.string (a++b)) w:=fun w=>run_string_add_sum w a b (by omega)

theorem JP(w:World)(A:Option Addr)(c:Nat)(B:Option Addr)(d:Nat)(N:List Txt)(E:List Ed)(h:qL w A c B d N E)(hs:kW N E)(hN:N.length≤32)(hE:E.length≤256) :
  Calls Tryz.prog 155 #[dX A N.length c B E.length d] w (Sam w (.string ⟨(oH N E).toArray⟩)):=by
 have k0:=(Blk.new w 52 #[.slice A N.length c,.slice B E.length d]).alloc (.cells #[.pointer none,.slice none 0 0] 265);have i0:=IsB.new (w.alloc (.cells #[.slice A N.length c,.slice B E.length d] 52));simp only[World.size_alloc] at i0
 have u0:Below w.heap.size w ((w.alloc (.cells #[.slice A N.length c,.slice B E.length d] 52)).alloc (.cells #[.pointer none,.slice none 0 0] 265)):=by(repeat (first | exact Below.refl _ _ | apply Below.drew | refine Below.alloc ?_ (by first | exact Nat.le_refl _ | (simp;done) | (simp;omega)) _ | refine Below.setCell ?_ (by first | exact Nat.le_refl _ | (simp;done) | (simp;omega)) _))
 have hz:((w.alloc (.cells #[.slice A N.length c,.slice B E.length d] 52)).alloc (.cells #[.pointer none,.slice none 0 0] 265)).heap.size=w.heap.size+2:=by simp
 have HB:=hIz (show ∀(j:Nat) (x:Ed),E[j]?=some x→∃b o,B=some ⟨b,o,none⟩∧b<w.heap.size from fun j x hx=>by obtain⟨b,o,e,y0,-⟩:=h.re.ed hx;exact⟨b,o,e,World.block_lt_of_cell? _ _ y0⟩);have HS:=hIz hs;have H:=aI5 (h.below u0) k0 u0 i0 hz;clear h k0 u0 i0 hz hs;unfold dX;go_enter Tryz.func155,Tryz.ntmps155;go_upto_region 2 with (fail);generalize (w.alloc (.cells #[.slice A N.length c,.slice B E.length d] 52)).alloc (.cells #[.pointer none,.slice none 0 0] 265)=W1 at H ⊢;have q0:W1.cell? ⟨w.heap.size,0,none⟩=some (.slice A N.length c):=H.out.2.1.cell 0;have q1:W1.cell? ⟨w.heap.size,1,none⟩=some (.slice B E.length d):=H.out.2.1.cell 1;go_wp2_with fail;refine(JL W1 A c B d N E H.out.1).mono ?_;rintro e w2 ⟨v,rfl,own2,b2⟩;obtain⟨A2,c2,rfl,-,-⟩:=aH own2;obtain⟨n2,hn2⟩:∃n2,(eE N E).length=n2:=⟨_,rfl⟩;have hn2':n2≤32:=by rw[← hn2];exact Nat.le_trans (DH N E) hN
 have i2:=H.out.2.2.2.1.below b2;have bb2:=tHn H.out.2.2.1 b2;have hz2:=b2.size;have HBM:=hIz (b2.mono (show w.heap.size+1≤W1.heap.size from by have:=H.out.2.2.2.2;omega));have hown:(Value.slice A2 (eE N E).length c2).ownBlock≠some (w.heap.size+1):=fun e=>by
  have:=(own2.lt _ e).1;have:=H.out.2.2.2.2;omega
 have H2:=aI6 i2 bb2 (H.out.1.below b2) own2 hown (H.out.2.1.upd (upF b2) id);have hzz:w.heap.size+2≤w2.heap.size:=by have:=H.out.2.2.2.2;omega
 clear i2 b2 bb2 own2 hown q0 q1 hz2;rw[hn2];have HN2:=hIz hn2;clear hn2;go_wp2_with fail;go_loopw [5,11] (fun _ i wr=>∃k:Nat,k≤n2∧i=.int .i64 k∧Hid (Below (w.heap.size+1) w2 wr)∧Hid (Lib.OthersKept 5 (some (w.heap.size+1)) w2 wr)∧Hid (IsB wr (w.heap.size+1) (((eE N E).take k).flatMap fU))) (fun _ i _=>n2-(intOf i).toNat)
 case atStart=>exact⟨0,Nat.zero_le _,rfl,hIz bR,hIz (Lib.OthersKept.refl _ _ _),hIz (by simpa using H2.out.1)⟩
 case round =>
  obtain⟨k,hk,rfl,hb,ho,hi⟩:=hrel;by_cases hlt:k<n2
  ·have hltI:(k:Int)<(n2:Int):=by omega
   have hkw:IntKind.i64.wrap ((k:Int)+1)=(k:Int)+1:=IntWalk.i64_in _ (by omega);obtain⟨s,hx⟩:∃x,(eE N E)[k]?=some x:=⟨(eE N E)[k]'(by rw[HN2.out];exact hlt),gEz _⟩;have ow:=JN H2.out.2.2.2.1 ho.out H2.out.2.2.2.2.1;have rw2:=bO.of_own ow;obtain⟨ab,ao,rfl,x0⟩:=rw2.txt hx;have hsz:s.size≤16:=HS.out.n s (oJ (mG hx));have a1:=mP s ⟨#[32,59,10]⟩ (by show s.size+3≤1000;omega);have hll:(((eE N E).take k).flatMap fU).length≤k*19:=by
    have:=rN (f:=fU) (c:=19) (l:=(eE N E).take k) (fun x hx=>yE (HS.out.n x (oJ (List.mem_of_mem_take hx))));have h3:((eE N E).take k).length≤k:=by rw[List.length_take];omega
    exact Nat.le_trans this (Nat.mul_le_mul_right _ h3)
   have hcon:=NI wr (w.heap.size+1) _ (s++⟨#[32,59,10]⟩) hi.out (by rw[jZ];show _+(s.size+3)≤_;omega) (by have:=hb.out.size;omega);rw[jY,show(s.data.toList++(⟨#[32,59,10]⟩:Txt).data.toList)=fU s from rfl] at hcon;have htk:((eE N E).take k).flatMap fU++fU s=((eE N E).take (k+1)).flatMap fU:=by rw[fQ hx];simp
   rw[htk] at hcon;have HX:=hIz hcon;clear hcon htk hll hx ow rw2;go_wp2_with fail;refine HX.out.mono ?_;rintro e w5 ⟨rfl,i5,b5,o5⟩;have H5:=aI3 (hb.out.trans b5) (ho.out.trans o5) i5;clear i5 b5 o5;go_wp2;go_roundw
   case rel=>exact⟨k+1,by omega,by go_num,hIz H5.out.1,hIz H5.out.2.1,hIz H5.out.2.2⟩
   case measure=>simp[intOf];omega
  ·obtain rfl:k=n2:=by omega
   obtain⟨W4,hW4⟩:∃W,W=wr:=⟨_,rfl⟩;subst hW4;have i4:IsB W4 (w.heap.size+1) ((eE N E).flatMap fU):=by
    have:=hi.out;rw[List.take_of_length_le (by rw[HN2.out];exact Nat.le_refl _)] at this;exact this
   have hll:((eE N E).flatMap fU).length≤32*19:=by
    have:=rN (f:=fU) (c:=19) (l:=eE N E) (fun x hx=>yE (HS.out.n x (oJ hx)));rw[HN2.out] at this;exact Nat.le_trans this (Nat.mul_le_mul_right _ hn2')
   have bb4:Below (w.heap.size+1) W1 W4:=by
    exact HBM.out.trans hb.out
   have k4:W4.cell? ⟨w.heap.size,1,none⟩=some (.slice B E.length d):=(bb4.cell (p:=⟨w.heap.size,1,none⟩) (by show w.heap.size<_;omega)).trans (H.out.2.1.cell 1);have q1:=k4;have bw4:Below w.heap.size w W4:=H.out.2.2.1.trans (bb4.mono (by omega));have HI4:=aI4 i4 hll bb4 bw4;have hz4:w.heap.size+2≤W4.heap.size:=Nat.le_trans hzz hb.out.size;clear i4 hll bb4 bw4 k4 hb ho hi hlt;go_wp2_with fail;clear q1;go_loopw [7,22] (fun _ i wr=>∃k:Nat,k≤E.length∧i=.int .i64 k∧Hid (Below (w.heap.size+1) W4 wr)∧Hid (IsB wr (w.heap.size+1) ((eE N E).flatMap fU++(E.take k).flatMap kV))) (fun _ i _=>E.length-(intOf i).toNat)
   case atStart=>exact⟨0,Nat.zero_le _,rfl,hIz bR,hIz (by simpa using HI4.out.1)⟩
   case round =>
    obtain⟨k,hk,rfl,hb,hi⟩:=hrel;by_cases hlt:k<E.length
    ·have hltI:(k:Int)<(E.length:Int):=by omega
     have hkw:IntKind.i64.wrap ((k:Int)+1)=(k:Int)+1:=IntWalk.i64_in _ (by omega);obtain⟨⟨s0,s1,s2⟩,hx⟩:∃x,E[k]?=some x:=⟨E[k],gEz _⟩;obtain⟨ab,ao,rfl,hab⟩:=HB.out k _ hx;obtain⟨ab',ao',e,y0,y1,y2⟩:=H.out.1.re.ed hx;injection e with e;injection e with e e2;subst e;subst e2;dsimp only at y0 y1 y2
     have bz:=HI4.out.2.2.1.trans hb.out;have cc:=fun i=>bz.cell (p:=⟨ab,i,none⟩) (by show ab<_;omega)
     have x0:=(cc _).trans y0;have x1:=(cc _).trans y1;have x2:=(cc _).trans y2;have hsz:=HS.out.e _ (mG hx);dsimp only at hsz
     have hll:(((eE N E).flatMap fU)++(E.take k).flatMap kV).length≤32*19+256*53:=by
      have h2:=HI4.out.2.1;have:=rN (f:=kV) (c:=53) (l:=E.take k) (fun x hx=>JO (HS.out.e x (List.mem_of_mem_take hx)));have h3:(E.take k).length≤256:=by rw[List.length_take];omega
      have h4:=Nat.le_trans this (Nat.mul_le_mul_right _ h3);rw[List.length_append];omega
     have kx:=Blk.new wr 23 #[.string s0,.string s1,.string s2];have bx:Below wr.heap.size wr (wr.alloc (.cells #[.string s0,.string s1,.string s2] 23)):=bR.alloc (Nat.le_refl _) _;have ix:=hi.out.alloc (.cells #[.string s0,.string s1,.string s2] 23);have hzr:=hb.out.size;have HX:=aI4 hx kx (hb.out.trans (bx.mono (by omega))) ix;have hzx:(wr.alloc (.cells #[.string s0,.string s1,.string s2] 23)).heap.size=wr.heap.size+1:=by simp
     clear hx kx bx ix y0 y1 y2 cc bz;go_upto_region 10 with (fail);generalize wr.alloc (.cells #[.string s0,.string s1,.string s2] 23)=W5 at HX hzx ⊢;clear x0 x1 x2;have x0:W5.cell? ⟨wr.heap.size,0,none⟩=some (.string s0):=HX.out.2.1.cell 0;have x1:W5.cell? ⟨wr.heap.size,1,none⟩=some (.string s1):=HX.out.2.1.cell 1;have x2:W5.cell? ⟨wr.heap.size,2,none⟩=some (.string s2):=HX.out.2.1.cell 2;obtain⟨t0,ht0⟩:∃t,s0++(⟨#[32]⟩:Txt)=t:=⟨_,rfl⟩;have z0:t0.size=s0.size+1:=by rw[← ht0,jZ];rfl
     obtain⟨t1,ht1⟩:∃t,t0++s1=t:=⟨_,rfl⟩;have z1:t1.size=t0.size+s1.size:=by rw[← ht1,jZ]
     obtain⟨t2,ht2⟩:∃t,t1++(⟨#[32]⟩:Txt)=t:=⟨_,rfl⟩;have z2:t2.size=t1.size+1:=by rw[← ht2,jZ];rfl
     obtain⟨t3,ht3⟩:∃t,t2++s2=t:=⟨_,rfl⟩;have z3:t3.size=t2.size+s2.size:=by rw[← ht3,jZ]
     obtain⟨t4,ht4⟩:∃t,t3++(⟨#[32,59,10]⟩:Txt)=t:=⟨_,rfl⟩;have z4:t4.size=t3.size+3:=by rw[← ht4,jZ];rfl
     have hdat:t4.data.toList=kV ⟨s0,s1,s2⟩:=by
      rw[← ht4,jY,← ht3,jY,← ht2,jY,← ht1,jY,← ht0,jY];rfl
     have a0:=mP s0 ⟨#[32]⟩ (by show s0.size+1≤1000;omega);have a1:=mP t0 s1 (by omega);have a2:=mP t1 ⟨#[32]⟩ (by show t1.size+1≤1000;omega);have a3:=mP t2 s2 (by omega);have a4:=mP t3 ⟨#[32,59,10]⟩ (by show t3.size+3≤1000;omega);rw[ht0] at a0;rw[ht1] at a1;rw[ht2] at a2;rw[ht3] at a3;rw[ht4] at a4;have hcon:=NI W5 (w.heap.size+1) _ t4 HX.out.2.2.2 (by omega) (by omega);have htk:(eE N E).flatMap fU++(E.take k).flatMap kV++t4.data.toList=(eE N E).flatMap fU++(E.take (k+1)).flatMap kV:=by rw[fQ HX.out.1,hdat];simp
     rw[htk] at hcon;have HC:=hIz hcon;clear hcon htk hll ht0 ht1 ht2 ht3 ht4 z0 z1 z2 z3 z4 hdat hsz;go_wp2_with fail;refine HC.out.mono ?_;rintro e w6 ⟨rfl,i6,b6,-⟩;have H6:=aI2 (HX.out.2.2.1.trans b6) i6;clear i6 b6;go_wp2;go_roundw
     case rel=>exact⟨k+1,by omega,by go_num,hIz H6.out.1,hIz H6.out.2⟩
     case measure=>simp[intOf];omega
    ·obtain rfl:k=E.length:=by omega
     have hcon:=OL wr (w.heap.size+1) _ hi.out (by have:=hb.out.size;omega);rw[List.take_length] at hcon;have HC:=hIz hcon;have bwr:=HI4.out.2.2.2.trans (hb.out.mono (by omega));have HW:=hIz bwr;clear hcon bwr;go_wp2_with fail;refine HC.out.mono ?_;rintro e w6 ⟨rfl,b6⟩;have FIN:=hIz (HW.out.trans (b6.mono (by omega)));clear b6;go_wp2;go_ret;exact⟨rfl,FIN.out⟩
open Go.Shelf
def AG:Go.Shelf.Ren:=⟨fun | 0=>0 | 1=>1 | 2=>2 | 41=>33 | 43=>192 | 53=>191 | 59=>245 | 63=>228 | 64=>144 | 68=>270 | 70=>239 | 71=>240 | 72=>241 | 73=>242 | 74=>243 | 75=>244 | 76=>246 | 77=>247 | 78=>184 | 79=>185 | 88=>267 | 89=>219 | 90=>220 | 91=>268 | 92=>269 | 96=>277 | 98=>280 | 99=>281 | 100=>282 | 101=>283 | 102=>284 | 103=>285 | 104=>286 | 105=>287 | 106=>288 | 107=>289 | 108=>290 | 109=>291 | 110=>292 | 111=>294 | 112=>295 | 113=>303 | n=>n,fun | 0=>0 | 1=>1 | 2=>2 | 3=>3 | 4=>4 | 5=>5 | 6=>6 | 7=>7 | 8=>8 | 9=>9 | 10=>10 | 11=>11 | 12=>12 | 13=>13 | 14=>14 | 15=>15 | 16=>16 | 17=>17 | 18=>18 | 19=>19 | 20=>20 | 21=>21 | 22=>34 | 23=>9 | 28=>239 | 30=>180 | 32=>261 | 36=>89 | 44=>141 | 51=>197 | 52=>315 | 53=>206 | 56=>301 | 57=>220 | 59=>312 | 60=>251 | 61=>252 | 62=>313 | 63=>314 | 64=>316 | 65=>317 | 66=>257 | 67=>258 | 68=>247 | 69=>166 | 75=>292 | 76=>293 | 77=>294 | 78=>332 | 79=>296 | 80=>333 | 83=>308 | 84=>94 | 85=>338 | 87=>270 | 88=>341 | 89=>342 | 90=>343 | 91=>344 | 92=>345 | 93=>58 | 94=>346 | 95=>347 | 96=>348 | 97=>302 | 98=>349 | 99=>350 | 100=>351 | 101=>352 | 102=>318 | n=>n,fun n=>n⟩
theorem JQ:SlLaysE.n43 Tryz.prog AG:={
 mixed:=(by kernel_rfl)
 f43:=⟨Tryz.f192.name,by decide,Tryz.func192.trans (congrArg some (by kernel_rfl))⟩
 t0:=Tryz.underlying0
 a0:=Tryz.isAgg0
 z0:=Tryz.sizeOf0
 v0:=Tryz.zeroValue0
 t3:=Tryz.underlying3
 a3:=Tryz.isAgg3
 z3:=Tryz.sizeOf3
 v3:=Tryz.zeroValue3
 t4:=Tryz.underlying4
 a4:=Tryz.isAgg4
 z4:=Tryz.sizeOf4
 v4:=Tryz.zeroValue4
 t22:=Tryz.underlying34
 a22:=Tryz.isAgg34
 z22:=Tryz.sizeOf34
 v22:=Tryz.zeroValue34
 a23:=Tryz.isAgg9
 z23:=Tryz.sizeOf9 }
open Go.Shelf
def uI:Go.Shelf.Ren:=⟨fun | 0=>0 | 1=>1 | 2=>2 | 6=>223 | 11=>98 | 14=>237 | 15=>144 | 16=>270 | 18=>145 | 20=>251 | 21=>252 | 22=>253 | 23=>254 | 24=>255 | 25=>256 | 26=>257 | 27=>258 | 28=>184 | 29=>185 | 46=>271 | 47=>219 | 48=>220 | 49=>272 | 50=>273 | 57=>278 | 60=>280 | 61=>281 | 62=>282 | 63=>283 | 64=>284 | 65=>285 | 66=>286 | 67=>287 | 68=>288 | 69=>289 | 70=>290 | 71=>291 | 72=>292 | 73=>294 | 74=>295 | 75=>303 | n=>n,fun | 0=>0 | 1=>1 | 2=>2 | 3=>3 | 4=>4 | 5=>5 | 6=>6 | 7=>7 | 8=>8 | 9=>9 | 10=>10 | 11=>11 | 12=>12 | 13=>13 | 14=>14 | 15=>15 | 16=>16 | 17=>17 | 18=>18 | 19=>19 | 20=>20 | 21=>21 | 22=>34 | 23=>298 | 24=>9 | 25=>187 | 26=>261 | 27=>189 | 29=>176 | 37=>310 | 38=>220 | 39=>197 | 40=>206 | 42=>198 | 44=>322 | 45=>251 | 46=>252 | 47=>323 | 48=>324 | 49=>325 | 50=>141 | 51=>326 | 52=>257 | 53=>258 | 54=>247 | 55=>166 | 66=>292 | 67=>293 | 68=>294 | 69=>334 | 70=>296 | 71=>335 | 76=>308 | 77=>94 | 78=>339 | 81=>270 | 82=>341 | 83=>342 | 84=>343 | 85=>344 | 86=>345 | 87=>58 | 88=>346 | 89=>347 | 90=>348 | 91=>302 | 92=>349 | 93=>350 | 94=>351 | 95=>352 | 96=>318 | n=>n,fun n=>n⟩
theorem TW:SlLaysF.n6 Tryz.prog uI:={
 mixed:=(by kernel_rfl)
 f6:=⟨Tryz.f223.name,by decide,Tryz.func223.trans (congrArg some (by kernel_rfl))⟩
 f14:=⟨Tryz.f237.name,by decide,Tryz.func237.trans (congrArg some (by kernel_rfl))⟩
 f15:=Tryz.func144.trans (congrArg some (by kernel_rfl))
 f20:=⟨Tryz.f251.name,by decide,Tryz.func251.trans (congrArg some (by kernel_rfl))⟩
 f21:=⟨Tryz.f252.name,by decide,Tryz.func252.trans (congrArg some (by kernel_rfl))⟩
 f22:=⟨Tryz.f253.name,by decide,Tryz.func253.trans (congrArg some (by kernel_rfl))⟩
 f23:=⟨Tryz.f254.name,by decide,Tryz.func254.trans (congrArg some (by kernel_rfl))⟩
 f24:=⟨Tryz.f255.name,by decide,Tryz.func255.trans (congrArg some (by kernel_rfl))⟩
 f25:=⟨Tryz.f256.name,by decide,Tryz.func256.trans (congrArg some (by kernel_rfl))⟩
 f26:=⟨Tryz.f257.name,by decide,Tryz.func257.trans (congrArg some (by kernel_rfl))⟩
 f27:=⟨Tryz.f258.name,by decide,Tryz.func258.trans (congrArg some (by kernel_rfl))⟩
 f28:=Tryz.func184.trans (congrArg some (by kernel_rfl))
 f29:=Tryz.func185.trans (congrArg some (by kernel_rfl))
 f46:=⟨Tryz.f271.name,by decide,Tryz.func271.trans (congrArg some (by kernel_rfl))⟩
 f47:=Tryz.func219.trans (congrArg some (by kernel_rfl))
 f48:=Tryz.func220.trans (congrArg some (by kernel_rfl))
 f49:=⟨Tryz.f272.name,by decide,Tryz.func272.trans (congrArg some (by kernel_rfl))⟩
 f50:=⟨Tryz.f273.name,by decide,Tryz.func273.trans (congrArg some (by kernel_rfl))⟩
 f57:=⟨Tryz.f278.name,by decide,Tryz.func278.trans (congrArg some (by kernel_rfl))⟩
 t0:=Tryz.underlying0
 a0:=Tryz.isAgg0
 z0:=Tryz.sizeOf0
 v0:=Tryz.zeroValue0
 t3:=Tryz.underlying3
 a3:=Tryz.isAgg3
 z3:=Tryz.sizeOf3
 v3:=Tryz.zeroValue3
 t4:=Tryz.underlying4
 a4:=Tryz.isAgg4
 z4:=Tryz.sizeOf4
 v4:=Tryz.zeroValue4
 t5:=Tryz.underlying5
 a5:=Tryz.isAgg5
 z5:=Tryz.sizeOf5
 v5:=Tryz.zeroValue5
 t9:=Tryz.underlying9
 a9:=Tryz.isAgg9
 z9:=Tryz.sizeOf9
 v9:=Tryz.zeroValue9
 t22:=Tryz.underlying34
 a22:=Tryz.isAgg34
 z22:=Tryz.sizeOf34
 v22:=Tryz.zeroValue34
 a24:=Tryz.isAgg9
 z24:=Tryz.sizeOf9
 t25:=Tryz.underlying187
 a25:=Tryz.isAgg187
 z25:=Tryz.sizeOf187
 v25:=Tryz.zeroValue187
 t39:=Tryz.underlying197
 a39:=Tryz.isAgg197
 z39:=Tryz.sizeOf197
 v39:=Tryz.zeroValue197
 t45:=Tryz.underlying251
 a45:=Tryz.isAgg251
 z45:=Tryz.sizeOf251
 v45:=Tryz.zeroValue251
 t46:=Tryz.underlying252
 a46:=Tryz.isAgg252
 z46:=Tryz.sizeOf252
 v46:=Tryz.zeroValue252
 t50:=Tryz.underlying141
 a50:=Tryz.isAgg141
 z50:=Tryz.sizeOf141
 v50:=Tryz.zeroValue141
 t53:=Tryz.underlying258
 a53:=Tryz.isAgg258
 z53:=Tryz.sizeOf258
 v53:=Tryz.zeroValue258
 t55:=Tryz.underlying166
 a55:=Tryz.isAgg166
 z55:=Tryz.sizeOf166
 v55:=Tryz.zeroValue166
 t66:=Tryz.underlying292
 a66:=Tryz.isAgg292
 z66:=Tryz.sizeOf292
 v66:=Tryz.zeroValue292
 t70:=Tryz.underlying296
 a70:=Tryz.isAgg296
 z70:=Tryz.sizeOf296
 v70:=Tryz.zeroValue296
 t76:=Tryz.underlying308
 a76:=Tryz.isAgg308
 z76:=Tryz.sizeOf308
 v76:=Tryz.zeroValue308
 t77:=Tryz.underlying94
 a77:=Tryz.isAgg94
 z77:=Tryz.sizeOf94
 v77:=Tryz.zeroValue94 }
theorem RC:SlLaysF0.n6 Tryz.prog uI:={
 mixed:=(by kernel_rfl)
 f6:=⟨Tryz.f223.name,by decide,Tryz.func223.trans (congrArg some (by kernel_rfl))⟩
 f14:=⟨Tryz.f237.name,by decide,Tryz.func237.trans (congrArg some (by kernel_rfl))⟩
 f15:=Tryz.func144.trans (congrArg some (by kernel_rfl))
 f20:=⟨Tryz.f251.name,by decide,Tryz.func251.trans (congrArg some (by kernel_rfl))⟩
 f21:=⟨Tryz.f252.name,by decide,Tryz.func252.trans (congrArg some (by kernel_rfl))⟩
 f22:=⟨Tryz.f253.name,by decide,Tryz.func253.trans (congrArg some (by kernel_rfl))⟩
 f23:=⟨Tryz.f254.name,by decide,Tryz.func254.trans (congrArg some (by kernel_rfl))⟩
 f24:=⟨Tryz.f255.name,by decide,Tryz.func255.trans (congrArg some (by kernel_rfl))⟩
 f25:=⟨Tryz.f256.name,by decide,Tryz.func256.trans (congrArg some (by kernel_rfl))⟩
 f26:=⟨Tryz.f257.name,by decide,Tryz.func257.trans (congrArg some (by kernel_rfl))⟩
 f27:=⟨Tryz.f258.name,by decide,Tryz.func258.trans (congrArg some (by kernel_rfl))⟩
 f28:=Tryz.func184.trans (congrArg some (by kernel_rfl))
 f29:=Tryz.func185.trans (congrArg some (by kernel_rfl))
 f46:=⟨Tryz.f271.name,by decide,Tryz.func271.trans (congrArg some (by kernel_rfl))⟩
 f47:=Tryz.func219.trans (congrArg some (by kernel_rfl))
 f48:=Tryz.func220.trans (congrArg some (by kernel_rfl))
 f49:=⟨Tryz.f272.name,by decide,Tryz.func272.trans (congrArg some (by kernel_rfl))⟩
 f50:=⟨Tryz.f273.name,by decide,Tryz.func273.trans (congrArg some (by kernel_rfl))⟩
 f57:=⟨Tryz.f278.name,by decide,Tryz.func278.trans (congrArg some (by kernel_rfl))⟩
 t0:=Tryz.underlying0
 a0:=Tryz.isAgg0
 z0:=Tryz.sizeOf0
 v0:=Tryz.zeroValue0
 t3:=Tryz.underlying3
 a3:=Tryz.isAgg3
 z3:=Tryz.sizeOf3
 v3:=Tryz.zeroValue3
 t4:=Tryz.underlying4
 a4:=Tryz.isAgg4
 z4:=Tryz.sizeOf4
 v4:=Tryz.zeroValue4
 t5:=Tryz.underlying5
 a5:=Tryz.isAgg5
 z5:=Tryz.sizeOf5
 v5:=Tryz.zeroValue5
 t9:=Tryz.underlying9
 a9:=Tryz.isAgg9
 z9:=Tryz.sizeOf9
 v9:=Tryz.zeroValue9
 t22:=Tryz.underlying34
 a22:=Tryz.isAgg34
 z22:=Tryz.sizeOf34
 v22:=Tryz.zeroValue34
 t25:=Tryz.underlying187
 a25:=Tryz.isAgg187
 z25:=Tryz.sizeOf187
 v25:=Tryz.zeroValue187
 t39:=Tryz.underlying197
 a39:=Tryz.isAgg197
 z39:=Tryz.sizeOf197
 v39:=Tryz.zeroValue197
 t45:=Tryz.underlying251
 a45:=Tryz.isAgg251
 z45:=Tryz.sizeOf251
 v45:=Tryz.zeroValue251
 t46:=Tryz.underlying252
 a46:=Tryz.isAgg252
 z46:=Tryz.sizeOf252
 v46:=Tryz.zeroValue252
 t50:=Tryz.underlying141
 a50:=Tryz.isAgg141
 z50:=Tryz.sizeOf141
 v50:=Tryz.zeroValue141
 t53:=Tryz.underlying258
 a53:=Tryz.isAgg258
 z53:=Tryz.sizeOf258
 v53:=Tryz.zeroValue258
 t55:=Tryz.underlying166
 a55:=Tryz.isAgg166
 z55:=Tryz.sizeOf166
 v55:=Tryz.zeroValue166
 t66:=Tryz.underlying292
 a66:=Tryz.isAgg292
 z66:=Tryz.sizeOf292
 v66:=Tryz.zeroValue292
 t70:=Tryz.underlying296
 a70:=Tryz.isAgg296
 z70:=Tryz.sizeOf296
 v70:=Tryz.zeroValue296
 t76:=Tryz.underlying308
 a76:=Tryz.isAgg308
 z76:=Tryz.sizeOf308
 v76:=Tryz.zeroValue308
 t77:=Tryz.underlying94
 a77:=Tryz.isAgg94
 z77:=Tryz.sizeOf94
 v77:=Tryz.zeroValue94 }
end Go.Proofs.YtnokckdkaifibaaGreatDoor
