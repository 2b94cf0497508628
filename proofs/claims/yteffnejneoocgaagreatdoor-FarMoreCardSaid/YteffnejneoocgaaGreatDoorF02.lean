/- Edges: are all names, all labels? Are all ends among the nodes?; Graphs: hops held one against the other; where a hop stands in a rising list; Graphs: where a hop stands in a rising list (slices.BinarySearchFunc); Edges: the lone nodes; The library's contracts laid at this program: which function, which type bears which number; Edges: the text of a graph; The library's contracts laid at this program: which function, which type bears which number; The library's contracts laid at this program: which function, which type bears which number. -/
import Derived.Test.YteffnejneoocgaaGreatDoorF01
import Derived.Shelf.Abstract
import Derived.Shelf.Strings.BuilderK
import Derived.Test.YteffnejneoocgaaGreatDoorProg
import Derived.Laws.Concat
import Derived.Shelf.SlicesE.Clone
import Derived.Shelf.SlicesE.Compact
import Derived.Shelf.SlSortCmp.Whole1
import Derived.Shelf.SlSortCmp.NoneTotal
set_option linter.unusedVariables false
set_option linter.unusedSimpArgs false
set_option maxHeartbeats 16000000
set_option maxRecDepth 100000
namespace Go.Proofs.YteffnejneoocgaaGreatDoor
open Go.RowKit
def dQ(x:Ed):Bool:=dE x.fr&&(fS x.lb&&dE x.to)
def bT(N:List Txt)(E:List Ed):Bool:=N.all dE&&E.all dQ
theorem aW{α:Type}{p:α→Bool}{l:List α}{k:Nat}{x:α}(h:l[k]?=some x)(hp:p x=false):l.all p=false:=by
 rw[List.all_eq_false];exact⟨x,mG h,by rw[hp];simp⟩
theorem eS{α:Type}{p:α→Bool}{l:List α}(h:∀(k:Nat) (x:α),l[k]?=some x→p x=true):l.all p=true:=by
 rw[List.all_eq_true];intro x hx;obtain⟨k,hk⟩:=List.mem_iff_getElem?.1 hx;exact h k x hk

theorem tE(w:World)(A:Option Addr)(c:Nat)(B:Option Addr)(d:Nat)(N:List Txt)(E:List Ed)(h:lN w A c B d N E) :
  Calls Tryz.prog 66 #[cP A N.length c B E.length d] w (Sam w (.bool (bT N E))):=by
 have k0:=Blk.new w 28 #[.slice A N.length c,.slice B E.length d];have u0:Below w.heap.size w (w.alloc (.cells #[.slice A N.length c,.slice B E.length d] 28)):=bR.alloc (Nat.le_refl _) _;have hn:N.length≤140737488355328:=by have:=h.fit.n;omega
 have hd:E.length≤140737488355328:=by have:=h.fit.e;omega
 have HA:=aI2 h.fit.tn h.fit.te;have H:=aI3 (h.below u0) k0 u0;clear h k0 u0;unfold cP;go_enter Tryz.func66,Tryz.ntmps66;go_upto_region 1 with (fail);generalize w.alloc (.cells #[.slice A N.length c,.slice B E.length d] 28)=W0 at H ⊢;have q0:W0.cell? ⟨w.heap.size,0,none⟩=some (.slice A N.length c):=H.out.2.1.cell 0;have q1:W0.cell? ⟨w.heap.size,1,none⟩=some (.slice B E.length d):=H.out.2.1.cell 1;go_wp2_with fail;go_loop [4,10] (fun _ i=>∃k:Nat,k≤N.length∧i=.int .i64 k∧Hid (∀j,j<k→∀x,N[j]?=some x→dE x=true)) (fun _ i=>N.length-(intOf i).toNat)
 case atStart=>exact⟨0,Nat.zero_le _,rfl,hIz (fun j hj=>by omega)⟩
 case round =>
  obtain⟨k,hk,rfl,hall⟩:=hrel;by_cases hlt:k<N.length
  ·have hltI:(k:Int)<(N.length:Int):=by omega
   have hkw:IntKind.i64.wrap ((k:Int)+1)=(k:Int)+1:=IntWalk.i64_in _ (by omega);obtain⟨x,hx⟩:∃x,N[k]?=some x:=⟨N[k],gEz _⟩;obtain⟨ab,ao,rfl,x0⟩:=H.out.1.rn.txt hx;have hcon:=fun w=>kS x w (HA.out.1 x (mG hx))
   obtain⟨b,hb⟩:∃b,dE x=b:=⟨_,rfl⟩;rw[hb] at hcon;have HX:=aI2 hx hb;clear hx hb;cases b
   ·go_wp2_with fail;refine(hcon _).mono ?_;rintro e w' ⟨rfl,rfl⟩;go_wp2;go_ret;refine⟨iG ?_,H.out.2.2⟩;rw[bT,aW HX.out.1 HX.out.2,Bool.false_and]
   ·go_wp2_with fail;refine(hcon _).mono ?_;rintro e w' ⟨rfl,rfl⟩;go_wp2;go_round
    case rel=>exact⟨k+1,by omega,by go_num,hIz (fun j hj y hy=>by
     rcases Nat.lt_succ_iff_lt_or_eq.1 hj with h|rfl
     ·exact hall.out j h y hy
     ·rw[HX.out.1] at hy;injection hy with hy;rw[← hy];exact HX.out.2)⟩
    case measure=>simp[intOf];omega
  ·obtain rfl:k=N.length:=by omega
   have hN:N.all dE=true:=eS (fun j x hx=>hall.out j (gO.1 hx).1 x hx);have HN:=hIz hN;clear hN hall hk hlt;go_wp2_with fail;clear q0 q1;go_loopw [6,21] (fun _ i wr=>∃k:Nat,k≤E.length∧i=.int .i64 k∧Hid (Below W0.heap.size W0 wr)∧Hid (∀j,j<k→∀x,E[j]?=some x→dQ x=true)) (fun _ i _=>E.length-(intOf i).toNat)
   case atStart=>exact⟨0,Nat.zero_le _,rfl,hIz bR,hIz (fun j hj=>by omega)⟩
   case round =>
    obtain⟨k,hk,rfl,hb,hall⟩:=hrel;by_cases hlt:k<E.length
    ·have hltI:(k:Int)<(E.length:Int):=by omega
     have hkw:IntKind.i64.wrap ((k:Int)+1)=(k:Int)+1:=IntWalk.i64_in _ (by omega);obtain⟨⟨s0,s1,s2⟩,hx⟩:∃x,E[k]?=some x:=⟨E[k],gEz _⟩;obtain⟨ab,ao,rfl,x0,x1,x2⟩:=(H.out.1.below hb.out).re.ed hx;dsimp only at x0 x1 x2
     have hok:=HA.out.2 _ (mG hx);have c0:=fun w=>kS s0 w hok.1
     have c1:=fun w=>BQ s1 w hok.2.1
     have c2:=fun w=>kS s2 w hok.2.2
     obtain⟨v0,e0⟩:∃b,dE s0=b:=⟨_,rfl⟩;obtain⟨v1,e1⟩:∃b,fS s1=b:=⟨_,rfl⟩;obtain⟨v2,e2⟩:∃b,dE s2=b:=⟨_,rfl⟩;rw[e0] at c0;rw[e1] at c1;rw[e2] at c2;have hv:dQ ⟨s0,s1,s2⟩=(v0&&(v1&&v2)):=by rw[dQ,e0,e1,e2]
     have kx:=Blk.new wr 88 #[.string s0,.string s1,.string s2];have bx:Below wr.heap.size wr (wr.alloc (.cells #[.string s0,.string s1,.string s2] 88)):=bR.alloc (Nat.le_refl _) _;have HX:=aI4 hx hv kx (tHn hb.out bx);clear hx hok e0 e1 e2 hv kx bx;go_upto_region 10 with (fail);generalize wr.alloc (.cells #[.string s0,.string s1,.string s2] 88)=W1 at HX ⊢;clear x0 x1 x2;have x0:W1.cell? ⟨wr.heap.size,0,none⟩=some (.string s0):=HX.out.2.2.1.cell 0;have x1:W1.cell? ⟨wr.heap.size,1,none⟩=some (.string s1):=HX.out.2.2.1.cell 1;have x2:W1.cell? ⟨wr.heap.size,2,none⟩=some (.string s2):=HX.out.2.2.1.cell 2;go_wp2_with fail;refine(c0 _).mono ?_;rintro e w' ⟨rfl,rfl⟩;cases v0
     ·go_wp2;go_ret;refine⟨iG ?_,tHn H.out.2.2 HX.out.2.2.2⟩;rw[bT,aW (p:=dQ) HX.out.1 HX.out.2.1,Bool.and_false]
     ·go_wp2_with fail;refine(c1 _).mono ?_;rintro e w' ⟨rfl,rfl⟩;cases v1
      ·go_wp2;go_ret;refine⟨iG ?_,tHn H.out.2.2 HX.out.2.2.2⟩;rw[bT,aW (p:=dQ) HX.out.1 HX.out.2.1,Bool.and_false]
      ·go_wp2_with fail;refine(c2 _).mono ?_;rintro e w' ⟨rfl,rfl⟩;cases v2
       ·go_wp2;go_ret;refine⟨iG ?_,tHn H.out.2.2 HX.out.2.2.2⟩;rw[bT,aW (p:=dQ) HX.out.1 HX.out.2.1,Bool.and_false]
       ·go_wp2;go_roundw
        case rel=>exact⟨k+1,by omega,by go_num,hIz HX.out.2.2.2,hIz (fun j hj y hy=>by
         rcases Nat.lt_succ_iff_lt_or_eq.1 hj with h|rfl
         ·exact hall.out j h y hy
         ·rw[HX.out.1] at hy;injection hy with hy;rw[← hy];exact HX.out.2.1)⟩
        case measure=>simp[intOf];omega
    ·obtain rfl:k=E.length:=by omega
     go_wp2;go_ret;refine⟨iG ?_,tHn H.out.2.2 hb.out⟩;rw[bT,HN.out,Bool.true_and];exact(eS (fun j x hx=>hall.out j (gO.1 hx).1 x hx)).symm

def kvN(N:List Txt):Nat→List (Value × Value)
 | 0=>[]
 | k+1=>match N[k]? with
  | some s=>kvN N k++[(.string s,.int .i64 ((k:Int)+1))]
  | none=>kvN N k
theorem lO(N:List Txt):∀k,∀q∈kvN N k,∃(i:Nat) (s:Txt),i<k∧N[i]?=some s∧q=(.string s,.int .i64 ((i:Int)+1))
 | 0,q,h=>by simp[kvN] at h
 | k+1,q,h=>by
  unfold kvN at h;cases hx:N[k]? with
  | none =>
   rw[hx] at h;obtain⟨i,s,h1,h2,h3⟩:=lO N k q h;exact⟨i,s,by omega,h2,h3⟩
  | some s =>
   rw[hx] at h;rcases List.mem_append.1 h with h|h
   ·obtain⟨i,s,h1,h2,h3⟩:=lO N k q h;exact⟨i,s,by omega,h2,h3⟩
   ·exact⟨k,s,by omega,hx,List.mem_singleton.1 h⟩
theorem BU(N:List Txt):∀k (i:Nat) (s:Txt),i<k→N[i]?=some s→((.string s,.int .i64 ((i:Int)+1)):Value × Value)∈kvN N k
 | 0,_,_,h,_=>by omega
 | k+1,i,s,h,hi=>by
  unfold kvN;by_cases e:i=k
  ·subst e;rw[hi];simp
  ·have:=BU N k i s (by omega) hi;cases N[k]? with
   | none=>exact this
   | some _=>exact List.mem_append.2 (.inl this)
theorem fU:Maps.Keyed Tryz.prog 9:=Maps.string_keyed Tryz.underlying9
theorem lP{s:Txt}(hs:fH s):∃l,keyOf Tryz.prog 9 (.string s)=some l:=by
 have h:s.size≤maxLen:=hs;simp[keyOf,mapKey,Tryz.underlying9,h]
def inB(s:Txt)(N:List Txt):Bool:=N.any fun t=>decide (t=s)
theorem bC{s:Txt}{N:List Txt}:inB s N=true↔s∈N:=by
 unfold inB;rw[List.any_eq_true];constructor
 ·rintro⟨t,h,e⟩;rw[of_decide_eq_true e] at h;exact h
 ·intro h;exact⟨s,h,by simp⟩
theorem NG{N:List Txt}(hN:upB ltT N=true){k:Nat}{s:Txt}(hs:N[k]?=some s):∀q∈kvN N k,q.1≠.string s:=by
 intro q hq e;obtain⟨i,t,hi,ht,rfl⟩:=lO N k q hq;simp only[Value.string.injEq] at e
 subst e;have h:=eR fJ hN;have h1:=List.pairwise_iff_getElem.1 h i k (gO.1 ht).1 (gO.1 hs).1 hi;rw[(gO.1 ht).2,(gO.1 hs).2,fJ.irr] at h1;cases h1
theorem tF{w:World}{r:Nat}{N:List Txt}(h:bW w Tryz.prog 9 r (kvN N N.length))(s:Txt)(hk:fH s) :
  ∃v:Int,(Instr.lookup 136 (.map (some r)) (.string s) false).run Tryz.prog w=.ok (.int .i64 v) w∧((v==0)=!inB s N)∧0≤v:=by
 by_cases hs:s∈N
 ·obtain⟨i,hi⟩:=List.mem_iff_getElem?.1 hs;refine⟨(i:Int)+1,h.look_hit fU Tryz.underlying136 (BU N N.length i s (gO.1 hi).1 hi) false,?_,by omega⟩;rw[bC.2 hs];simp
  omega
 ·refine⟨0,h.look_miss fU Tryz.underlying136 (lP hk) (fun q hq e=>?_) (by kernel_rfl) false,by rw[show inB s N=false from by cases e:inB s N;rfl;exact(hs (bC.1 e)).elim];rfl,by omega⟩;obtain⟨i,t,hi,ht,rfl⟩:=lO N N.length q hq;simp only[Value.string.injEq] at e
  subst e;exact hs (mG ht)
def fK(N:List Txt)(x:Ed):Bool:=inB x.fr N&&inB x.to N
def fV(N:List Txt)(E:List Ed):Bool:=upB ltT N&&(upB ltE E&&E.all (fK N))

theorem IF(w:World)(A:Option Addr)(c:Nat)(B:Option Addr)(d:Nat)(N:List Txt)(E:List Ed)(h:lN w A c B d N E) :
  Calls Tryz.prog 65 #[cP A N.length c B E.length d] w (Sam w (.bool (fV N E))):=by
 have k0:=Blk.new w 28 #[.slice A N.length c,.slice B E.length d];have u0:Below w.heap.size w (w.alloc (.cells #[.slice A N.length c,.slice B E.length d] 28)):=bR.alloc (Nat.le_refl _) _;have hn:N.length≤140737488355328:=by have:=h.fit.n;omega
 have hd:E.length≤140737488355328:=by have:=h.fit.e;omega
 have HA:=aI3 h.fit h.hc h.hd;have H:=aI3 (h.below u0) k0 u0;clear h k0 u0;obtain⟨v0,e0⟩:∃b,upB ltT N=b:=⟨_,rfl⟩;obtain⟨v1,e1⟩:∃b,upB ltE E=b:=⟨_,rfl⟩;have HE:=aI2 e0 e1;clear e0 e1;unfold cP;go_enter Tryz.func65,Tryz.ntmps65;go_upto_region 1 with (fail);generalize w.alloc (.cells #[.slice A N.length c,.slice B E.length d] 28)=W0 at H ⊢;have q0:W0.cell? ⟨w.heap.size,0,none⟩=some (.slice A N.length c):=H.out.2.1.cell 0;have q1:W0.cell? ⟨w.heap.size,1,none⟩=some (.slice B E.length d):=H.out.2.1.cell 1;go_wp2_with fail;refine(zF W0 A c N H.out.1.rn HA.out.2.1 HA.out.1.n).mono ?_;rintro e w1 ⟨rfl,b1⟩;rw[HE.out.1];have k1:=H.out.2.1.upd (upF b1) id;clear q0 q1;have q0:w1.cell? ⟨w.heap.size,0,none⟩=some (.slice A N.length c):=k1.cell 0;have q1:w1.cell? ⟨w.heap.size,1,none⟩=some (.slice B E.length d):=k1.cell 1;have H1:=aI3 (H.out.1.below b1) k1 (tHn H.out.2.2 b1);clear k1 b1;cases v0
 ·go_wp2;go_ret;refine⟨iG ?_,H1.out.2.2⟩;rw[fV,HE.out.1,Bool.false_and]
 go_wp2_with fail;refine(BT w1 B d E H1.out.1.re HA.out.2.2 HA.out.1.e).mono ?_;rintro e w2 ⟨rfl,b2⟩;rw[HE.out.2];have k2:=H1.out.2.1.upd (upF b2) id;clear q0 q1;have q0:w2.cell? ⟨w.heap.size,0,none⟩=some (.slice A N.length c):=k2.cell 0;have H2:=aI3 (H1.out.1.below b2) k2 (tHn H1.out.2.2 b2);clear k2 b2;cases v1
 ·go_wp2;go_ret;refine⟨iG ?_,H2.out.2.2⟩;rw[fV,HE.out.1,HE.out.2];rfl
 have hmm:=@run_makeMap Tryz.prog;clear q0;go_upto_region 4 with (fail);have m3:=bW.made w2 Tryz.prog 9;have b3:Below w2.heap.size w2 (w2.alloc (.map #[] 0)):=bR.alloc (Nat.le_refl _) _;have k3:=H2.out.2.1.upd (upF b3) id;have H3:=aI4 (H2.out.1.below b3) k3 (tHn H2.out.2.2 b3) m3;have hr1:w.heap.size<w2.heap.size:=H2.out.2.1.lt;clear b3 m3 k3 hmm;generalize w2.alloc (.map #[] 0)=W3 at H3 ⊢;have q0:W3.cell? ⟨w.heap.size,0,none⟩=some (.slice A N.length c):=H3.out.2.1.cell 0;go_wp2_with fail;clear q0;have HA2:=hIz (show ∀b o s,A=some ⟨b,o,s⟩→N≠[]→b<w2.heap.size from fun b o s e hne=>by
  obtain⟨x,hx⟩:=List.exists_mem_of_ne_nil N hne;obtain⟨i,hi⟩:=List.mem_iff_getElem?.1 hx;obtain⟨b',o',e',hc⟩:=H2.out.1.rn.txt hi;rw[e] at e';injection e' with e';injection e' with e' _ _;subst e';exact World.block_lt_of_cell? w2 _ hc)
 have HB2:=hIz (show ∀b o s,B=some ⟨b,o,s⟩→E≠[]→b<w2.heap.size from fun b o s e hne=>by
  obtain⟨x,hx⟩:=List.exists_mem_of_ne_nil E hne;obtain⟨i,hi⟩:=List.mem_iff_getElem?.1 hx;obtain⟨b',o',e',hc,-,-⟩:=H2.out.1.re.ed hi;rw[e] at e';injection e' with e';injection e' with e' _ _;subst e';exact World.block_lt_of_cell? w2 _ hc)
 go_loopw [4,5,22] (fun _ _ i wr=>∃k:Nat,k≤N.length∧i=.int .i64 k∧Hid (Upd (fun q=>q=w2.heap.size) W3 wr)∧Hid (bW wr Tryz.prog 9 w2.heap.size (kvN N k))) (fun _ _ i _=>N.length-(intOf i).toNat)
 case atStart=>exact⟨0,Nat.zero_le _,rfl,hIz (Upd.refl _ _),hIz H3.out.2.2.2⟩
 case round =>
  obtain⟨k,hk,rfl,hu,hm⟩:=hrel;by_cases hlt:k<N.length
  ·have hltI:(k:Int)<(N.length:Int):=by omega
   have hkw:IntKind.i64.wrap ((k:Int)+1)=(k:Int)+1:=IntWalk.i64_in _ (by omega);obtain⟨x,hx⟩:∃x,N[k]?=some x:=⟨N[k],gEz _⟩;obtain⟨ab,ao,rfl,y0⟩:=H3.out.1.rn.txt hx;have hab:=HA2.out ab ao none rfl (fun e=>by rw[e] at hx;simp at hx);have x0:wr.cell? ⟨ab,ao+k,none⟩=some (.string x):=(hu.out.cell (p:=⟨ab,ao+k,none⟩) (World.block_lt_of_cell? W3 _ y0) (by show ¬ab=_;omega)).trans y0;obtain⟨w5,hrun,hm5,hg5,hz5⟩:=hm.out.put_miss fU Tryz.underlying136 (.int .i64 ((k:Int)+1)) (lP (HA.out.1.tn x (mG hx))) (NG HE.out.1 hx);have hkv:kvN N (k+1)=kvN N k++[(.string x,.int .i64 ((k:Int)+1))]:=by rw[kvN,hx]
   rw[← hkv] at hm5;have HX:=aI2 hm5 (hu.out.trans (Upd.of_grown hg5) (fun i e=>.inl (by injection e with e;exact e.symm)));clear y0 hx hm5 hg5 hz5 hkv;go_wp2;go_roundw
   case rel=>exact⟨k+1,by omega,by go_num,hIz HX.out.2,hIz HX.out.1⟩
   case measure=>simp[intOf];omega
  ·obtain rfl:k=N.length:=by omega
   have k4:=H3.out.2.1.upd hu.out (by omega);have q1:wr.cell? ⟨w.heap.size,1,none⟩=some (.slice B E.length d):=k4.cell 1;have bw4:Below w.heap.size w wr:=H3.out.2.2.1.trans (hu.out.below (fun q _ e=>by omega) H3.out.2.2.1.size);have re4:∀(j:Nat) (x:Ed),E[j]?=some x→∃b o,B=some ⟨b,o,none⟩∧b<wr.heap.size∧wr.cell? ⟨b,o+j*3,none⟩=some (.string x.fr)∧wr.cell? ⟨b,o+j*3+1,none⟩=some (.string x.lb)∧wr.cell? ⟨b,o+j*3+2,none⟩=some (.string x.to):=fun j x hx=>by
    obtain⟨bb,bo,e,y0,y1,y2⟩:=H3.out.1.re.ed hx;have hbb:=HB2.out bb bo none e (fun e=>by rw[e] at hx;simp at hx);have hlt3:=World.block_lt_of_cell? W3 _ y0;have cc:=fun i=>hu.out.cell (p:=⟨bb,i,none⟩) hlt3 (by show ¬bb=_;omega)
    exact⟨bb,bo,e,Nat.lt_of_lt_of_le hlt3 hu.out.size,(cc _).trans y0,(cc _).trans y1,(cc _).trans y2⟩
   have H4:=aI2 bw4 re4;clear k4 bw4 re4 hk hlt hu;obtain⟨W4,hW4⟩:∃W,W=wr:=⟨_,rfl⟩;subst hW4;go_wp2_with fail;clear q1;go_loopw [7,35] (fun _ i wz=>∃k:Nat,k≤E.length∧i=.int .i64 k∧Hid (Below W4.heap.size W4 wz)∧Hid (∀j,j<k→∀x,E[j]?=some x→fK N x=true)) (fun _ i _=>E.length-(intOf i).toNat)
   case atStart=>exact⟨0,Nat.zero_le _,rfl,hIz bR,hIz (fun j hj=>by omega)⟩
   case round =>
    obtain⟨k,hk,rfl,hb,hall⟩:=hrel;by_cases hlt:k<E.length
    ·have hltI:(k:Int)<(E.length:Int):=by omega
     have hkw:IntKind.i64.wrap ((k:Int)+1)=(k:Int)+1:=IntWalk.i64_in _ (by omega);obtain⟨⟨s0,s1,s2⟩,hx⟩:∃x,E[k]?=some x:=⟨E[k],gEz _⟩;obtain⟨ab,ao,rfl,hlt4,y0,y1,y2⟩:=H4.out.2 k _ hx;dsimp only at y0 y1 y2
     have cc:=fun i=>hb.out.cell (p:=⟨ab,i,none⟩) hlt4
     have x0:=(cc _).trans y0;have x1:=(cc _).trans y1;have x2:=(cc _).trans y2;have kx:=Blk.new wr 88 #[.string s0,.string s1,.string s2];have bx:Below wr.heap.size wr (wr.alloc (.cells #[.string s0,.string s1,.string s2] 88)):=bR.alloc (Nat.le_refl _) _;have b5:=tHn hb.out bx;have hm5:=hm.out.upd (upF b5) id;have HX:=aI4 hx kx b5 hm5;clear hx y0 y1 y2 cc kx bx b5 hm5;go_upto_region 12 with (fail);generalize wr.alloc (.cells #[.string s0,.string s1,.string s2] 88)=W5 at HX ⊢;clear x0 x1 x2;have x0:W5.cell? ⟨wr.heap.size,0,none⟩=some (.string s0):=HX.out.2.1.cell 0;have x2:W5.cell? ⟨wr.heap.size,2,none⟩=some (.string s2):=HX.out.2.1.cell 2;obtain⟨v0,l0,h0,-⟩:=tF HX.out.2.2.2 s0 ((HA.out.1.te _ (mG HX.out.1)).1);obtain⟨v1,l1,h1,-⟩:=tF HX.out.2.2.2 s2 ((HA.out.1.te _ (mG HX.out.1)).2.2);obtain⟨i0,e0⟩:∃b,inB s0 N=b:=⟨_,rfl⟩;obtain⟨i1,e1⟩:∃b,inB s2 N=b:=⟨_,rfl⟩;rw[e0] at h0;rw[e1] at h1;have hv:fK N ⟨s0,s1,s2⟩=(i0&&i1):=by rw[fK,e0,e1]
     have HV:=hIz hv;clear e0 e1 hv;have fin:w.heap.size≤W4.heap.size:=H4.out.1.size;cases i0
     ·simp only[Bool.not_false] at h0
      go_wp2;go_ret;refine⟨iG ?_,tHn H4.out.1 HX.out.2.2.1⟩;rw[fV,HE.out.1,HE.out.2,aW (p:=fK N) HX.out.1 HV.out];rfl
     ·simp only[Bool.not_true] at h0
      cases i1
      ·simp only[Bool.not_false] at h1
       go_wp2;go_ret;refine⟨iG ?_,tHn H4.out.1 HX.out.2.2.1⟩;rw[fV,HE.out.1,HE.out.2,aW (p:=fK N) HX.out.1 HV.out];rfl
      ·simp only[Bool.not_true] at h1
       go_wp2;go_roundw
       case rel=>exact⟨k+1,by omega,by go_num,hIz HX.out.2.2.1,hIz (fun j hj y hy=>by
        rcases Nat.lt_succ_iff_lt_or_eq.1 hj with h|rfl
        ·exact hall.out j h y hy
        ·rw[HX.out.1] at hy;injection hy with hy;rw[← hy];exact HV.out)⟩
       case measure=>simp[intOf];omega
    ·obtain rfl:k=E.length:=by omega
     go_wp2;go_ret;refine⟨iG ?_,tHn H4.out.1 hb.out⟩;rw[fV,HE.out.1,HE.out.2,eS (p:=fK N) (fun j x hx=>hall.out j (gO.1 hx).1 x hx)];rfl
open Go.RowKit
structure Hp where
 lb:Txt
 nd:Int
deriving DecidableEq
def Hp.cells(x:Hp):List Value:=[.string x.lb,.int .i64 x.nd]
def Hp.agg(x:Hp):Value:=.agg #[.string x.lb,.int .i64 x.nd]
def pV(a b:Int):Int:=if a<b then -1 else if b<a then 1 else 0
def or2(a b:Int):Int:=if a≠0 then a else b
def ML(x y:Hp):Int:=or2 (kO x.lb y.lb) (pV x.nd y.nd)
def ltH(x y:Hp):Bool:=if x.lb=y.lb then decide (x.nd<y.nd) else ltT x.lb y.lb
theorem BV{a b:Int}:pV a b=0↔a=b:=by
 unfold pV;split
 ·constructor
  ·intro h;cases h
  ·rintro rfl;omega
 ·split
  ·constructor
   ·intro h;cases h
   ·rintro rfl;omega
  ·constructor
   ·intro _;omega
   ·intro _;rfl
theorem NH(a b:Int):decide (pV a b<0)=decide (a<b):=by
 unfold pV;by_cases h:a<b
 ·rw[if_pos h,decide_eq_true h];rfl
 ·rw[if_neg h,decide_eq_false h];split <;> rfl
theorem NI(x y:Hp):decide (ML x y<0)=ltH x y:=by
 unfold ML or2 ltH;by_cases h:x.lb=y.lb
 ·rw[if_neg (by simp[fB,h]),if_pos h];exact NH _ _
 ·rw[if_pos (by simpa[fB] using h),if_neg h];exact iY _ _
theorem BX{x y:Hp}:ML x y=0↔x=y:=by
 obtain⟨a,n⟩:=x;obtain⟨b,m⟩:=y;unfold ML or2;dsimp only
 by_cases h:kO a b=0
 ·rw[if_neg (by simpa using h),BV];rw[fB] at h;subst h;simp
 ·rw[if_pos h];constructor
  ·intro h2;exact(h h2).elim
  ·intro h2;injection h2 with h2 h3;exact(h (fB.2 h2)).elim
theorem GV:Sto ltH where
 irr:=fun a=>by simp[ltH]
 tr:=fun a b c h k=>by
  unfold ltH at h k ⊢;by_cases h1:a.lb=b.lb
  ·rw[if_pos h1] at h;by_cases h2:b.lb=c.lb
   ·rw[if_pos h2] at k;rw[if_pos (h1.trans h2)];simp at h k ⊢
    omega
   ·rw[if_neg h2] at k;rw[if_neg (by rw[h1];exact h2),h1];exact k
  ·rw[if_neg h1] at h;by_cases h2:b.lb=c.lb
   ·rw[if_neg (by rw[← h2];exact h1),← h2];exact h
   ·rw[if_neg h2] at k;have h3:=fJ.tr _ _ _ h k;rw[if_neg (fJ.ne h3)];exact h3
 tri:=fun a b h k=>by
  obtain⟨s,n⟩:=a;obtain⟨t,m⟩:=b;unfold ltH at h k;dsimp only at h k
  by_cases h1:s=t
  ·subst h1;simp at h k
   have:n=m:=by omega
   rw[this]
  ·rw[if_neg h1] at h;rw[if_neg (fun e=>h1 e.symm)] at k;exact(h1 (fJ.tri _ _ h k)).elim

theorem tG(x:Int)(w:World):Calls Tryz.prog 132 #[.int .i64 x] w (gB w (.bool false)):=by
 go_enter Tryz.func132,Tryz.ntmps132;go_wp2;go_ret;exact⟨by simp,rfl⟩
theorem kT(x y:Int)(w:World):Calls Tryz.prog 93 #[.int .i64 x,.int .i64 y] w (gB w (.int .i64 (pV x y))):=by
 obtain⟨r,hr⟩:∃r,pV x y=r:=⟨_,rfl⟩;rw[hr];have HR:=hIz hr;clear hr;go_enter Tryz.func93,Tryz.ntmps93;go_wp2_with fail;refine(tG x w).mono ?_;rintro e w' ⟨rfl,hw⟩;subst w';go_wp2_with fail;refine(tG y w).mono ?_;rintro e w' ⟨rfl,hw⟩;subst w';by_cases h1:x<y
 ·have HE:=hIz (show(-1:Int)=r by rw[← HR.out,pV,if_pos h1]);go_wp2;go_ret;exact⟨by rw[← HE.out];rfl,rfl⟩
 by_cases h2:y<x
 ·have HE:=hIz (show(1:Int)=r by rw[← HR.out,pV,if_neg h1,if_pos h2]);go_wp2;go_ret;exact⟨by rw[← HE.out];rfl,rfl⟩
 ·have HE:=hIz (show(0:Int)=r by rw[← HR.out,pV,if_neg h1,if_neg h2]);go_wp2;go_ret;exact⟨by rw[← HE.out];rfl,rfl⟩
theorem NJ(w:World)(g:Nat)(a b:Int)(h:Blk w g 3 #[.int .i64 a,.int .i64 b]) :
  Calls Tryz.prog 92 #[.slice (some ⟨g,0,none⟩) 2 2] w (gB w (.int .i64 (or2 a b))):=by
 have key:∀x,or2 a b=x→Calls Tryz.prog 92 #[.slice (some ⟨g,0,none⟩) 2 2] w (gB w (.int .i64 x)):=by
  intro x hx;have c0:w.cell? ⟨g,0,none⟩=some (.int .i64 a):=h.cell 0;have c1:w.cell? ⟨g,1,none⟩=some (.int .i64 b):=h.cell 1;clear h;have HX:=hIz hx;clear hx;go_enter Tryz.func92,Tryz.ntmps92;go_wp2_with fail;go_loop [5,8] (fun _ i=>∃k:Nat,k≤2∧i=.int .i64 k∧Hid ((1≤k→a=0)∧(2≤k→b=0))) (fun _ i=>2-(intOf i).toNat)
  case atStart=>exact⟨0,by omega,rfl,hIz ⟨by omega,by omega⟩⟩
  case round =>
   obtain⟨k,hk,rfl,hz⟩:=hrel;have hk4:k=0∨k=1∨k=2:=by omega
   rcases hk4 with rfl|rfl|rfl
   ·by_cases ha:a=0
    ·have HA:=hIz ha;have e:(a==0)=true:=by simpa using ha
     go_wp2;go_round
     case rel=>exact⟨1,by omega,rfl,hIz ⟨fun _=>HA.out,by omega⟩⟩
     case measure=>simp[intOf]
    ·have HA:=hIz ha;go_wp2;go_ret;refine⟨?_,rfl⟩;rw[← HX.out,or2,if_pos HA.out];rfl
   ·by_cases ha:b=0
    ·have HA:=hIz ha;go_wp2;go_round
     case rel=>exact⟨2,by omega,rfl,hIz ⟨fun _=>hz.out.1 (by omega),fun _=>HA.out⟩⟩
     case measure=>simp[intOf]
    ·have HA:=hIz ha;go_wp2;go_ret;refine⟨?_,rfl⟩;rw[← HX.out,or2,if_neg (by simp[hz.out.1 (by omega)])];rfl
   ·go_wp2;go_ret;refine⟨?_,rfl⟩;rw[← HX.out,or2,if_neg (by simp[hz.out.1 (by omega)]),hz.out.2 (by omega)];rfl
 exact key _ rfl
theorem tH(x y:Hp)(w:World):Calls Tryz.prog 82 #[x.agg,y.agg] w (Sam w (.int .i64 (ML x y))):=by
 obtain⟨a0,a1⟩:=x;obtain⟨b0,b1⟩:=y;unfold ML;dsimp only
 obtain⟨v0,e0⟩:∃v,kO a0 b0=v:=⟨_,rfl⟩;obtain⟨v1,e1⟩:∃v,pV a1 b1=v:=⟨_,rfl⟩;have H0:=fun W=>dP a0 b0 W
 have H1:=fun W=>kT a1 b1 W
 rw[e0] at H0 ⊢;rw[e1] at H1 ⊢;clear e0 e1;have k0:=(Blk.new w 143 #[.string a0,.int .i64 a1]).alloc (.cells #[.string b0,.int .i64 b1] 143);have k1:=Blk.new (w.alloc (.cells #[.string a0,.int .i64 a1] 143)) 143 #[.string b0,.int .i64 b1];simp only[World.size_alloc] at k1
 have bb:Below w.heap.size w ((w.alloc (.cells #[.string a0,.int .i64 a1] 143)).alloc (.cells #[.string b0,.int .i64 b1] 143)):=by(repeat (first | exact Below.refl _ _ | apply Below.drew | refine Below.alloc ?_ (by first | exact Nat.le_refl _ | (simp;done) | (simp;omega)) _ | refine Below.setCell ?_ (by first | exact Nat.le_refl _ | (simp;done) | (simp;omega)) _))
 have HK:=aI3 k0 k1 bb;clear k0 k1 bb;unfold Hp.agg;dsimp only
 go_enter Tryz.func82,Tryz.ntmps82;go_upto_region 1 with (fail);generalize (w.alloc (.cells #[.string a0,.int .i64 a1] 143)).alloc (.cells #[.string b0,.int .i64 b1] 143)=W0 at HK ⊢;have UP:=hIz (show ∀W,Below W0.heap.size W0 W→W.cell? ⟨w.heap.size,0,none⟩=some (.string a0)∧W.cell? ⟨w.heap.size,1,none⟩=some (.int .i64 a1)∧W.cell? ⟨w.heap.size+1,0,none⟩=some (.string b0)∧W.cell? ⟨w.heap.size+1,1,none⟩=some (.int .i64 b1) from fun W hb=>by
  have u:=Upd.of_below hb (fun _=>False);have h1:=HK.out.1.upd u id;have h2:=HK.out.2.1.upd u id;exact⟨h1.cell 0,h1.cell 1,h2.cell 0,h2.cell 1⟩)
 have HB0:=hIz (show Below W0.heap.size W0 W0.drew from bR.drew);have hS:=UP.out _ HB0.out;refine aF (fun W=>W.cell? ⟨w.heap.size,0,none⟩=some (.string a0)∧W.cell? ⟨w.heap.size,1,none⟩=some (.int .i64 a1)∧W.cell? ⟨w.heap.size+1,0,none⟩=some (.string b0)∧W.cell? ⟨w.heap.size+1,1,none⟩=some (.int .i64 b1)) 13 [(0,true),(1,true),(2,true),(3,true),(5,true),(6,true),(7,true),(8,true),(4,false),(9,false),(10,false),(11,false),(12,true)] hS ?_;generalize W0.drew=W1 at HB0 hS ⊢
 iterate 8 refine aC rfl ?_
 refine aM rfl rfl (fun K hK=>?_);go_simp;refine(H0 _).mono ?_;rintro e w1 ⟨rfl,hw⟩;subst w1;refine hK _ _ (fun _=>hS) ?_;clear hK K;(try simp only[Act.put,gA,gS,gZ,sA,sZ,sS])
 refine aM rfl rfl (fun K hK=>?_);go_simp;refine(H1 _).mono ?_;rintro e w1 ⟨rfl,hw⟩;subst w1;refine hK _ _ (fun _=>hS) ?_;clear hK K;(try simp only[Act.put,gA,gS,gZ,sA,sZ,sS])
 have kA:=Blk.new W1 3 #[.int .i64 v0,.int .i64 v1];have bA:=HB0.out.alloc HB0.out.size (.cells #[.int .i64 v0,.int .i64 v1] 3);have HA:=aI2 (NJ _ _ v0 v1 kA) bA;clear kA bA;refine aM rfl rfl (fun K hK=>?_);go_simp;refine hK _ _ (fun _=>UP.out _ HA.out.2) ?_;clear hK K;(try simp only[Act.put,gA,gS,gZ,sA,sZ,sS])
 generalize W1.alloc (.cells #[.int .i64 v0,.int .i64 v1] 3)=W2 at HA ⊢;refine aM rfl rfl (fun K hK=>?_);go_simp;refine HA.out.1.mono ?_;rintro e w1 ⟨rfl,hw⟩;subst w1;have FIN:=hIz (tHn HK.out.2.2 HA.out.2);refine hK _ _ (fun _=>UP.out _ HA.out.2) ?_;clear hK K;(try simp only[Act.put,gA,gS,gZ,sA,sZ,sS])
 refine aC rfl ?_;refine aG ?_;go_wp2;go_ret;exact⟨rfl,FIN.out⟩

def aQ(L:List Hp):List Value:=L.flatMap Hp.cells
theorem cV(L:List Hp):(aQ L).length=L.length*2:=dL Hp.cells 2 (fun _=>rfl) L
theorem BY(E:List Hp):∀u∈aQ E,u.oneCell'=true:=by
 intro u hu;obtain⟨x,_,hx⟩:=List.mem_flatMap.1 hu;simp[Hp.cells] at hx
 rcases hx with rfl|rfl <;> rfl
theorem kU:(Tryz.prog.info? 143).map (fun i=>(i.zero,i.size,i.bytes))=some (some (.agg #[.string ByteArray.empty,.int .i64 0]),2,24):=by kernel_rfl
theorem aX.hp{w:World}{B:Option Addr}{L:List Hp}(h:aX w B (aQ L)){k:Nat}{x:Hp}(hk:L[k]?=some x) :
  ∃b o,B=some ⟨b,o,none⟩∧w.cell? ⟨b,o+k*2,none⟩=some (.string x.lb)∧w.cell? ⟨b,o+k*2+1,none⟩=some (.int .i64 x.nd):=by
 have g:=fun j hj=>cO Hp.cells 2 (fun _=>rfl) L k j x hk hj
 obtain⟨b,o,e,y0⟩:=h (k*2+0) _ (g 0 (by decide));obtain⟨b1,o1,e1,y1⟩:=h (k*2+1) _ (g 1 (by decide));rw[e] at e1;injection e1 with e1;injection e1 with e3 e4;subst e3;subst e4;exact⟨b,o,e,y0,by rw[Nat.add_assoc];exact y1⟩
open Go.RowKit
def zG(L:List Hp)(h:Hp):Nat:=L.countP fun x=>ltH x h
theorem NK(L:List Hp)(h:Hp):zG L h≤L.length:=List.countP_le_length
theorem NL{L:List Hp}{h:Hp}(_hup:cT ltH L){i:Nat}(hi:i≤L.length)(h1:∀k x,k<i→L[k]?=some x→ltH x h=true)(h2:∀k x,i≤k→L[k]?=some x→ltH x h=false):zG L h=i:=by
 have e:zG L h=(L.take i).countP (fun x=>ltH x h)+(L.drop i).countP (fun x=>ltH x h):=by
  unfold zG;rw[← List.countP_append,List.take_append_drop]
 have a:(L.take i).countP (fun x=>ltH x h)=(L.take i).length:=by
  rw[List.countP_eq_length];intro x hx;obtain⟨k,hk,rfl⟩:=List.getElem_of_mem hx;rw[List.length_take] at hk;exact h1 k _ (by omega) (by rw[List.getElem_take,gEz])
 have b:(L.drop i).countP (fun x=>ltH x h)=0:=by
  rw[List.countP_eq_zero];intro x hx;obtain⟨k,hk,rfl⟩:=List.getElem_of_mem hx;rw[List.length_drop] at hk;rw[h2 (i+k) _ (by omega) (by rw[List.getElem_drop,gEz])];simp
 rw[e,a,b,List.length_take];omega
theorem vV{L:List Hp}(hup:cT ltH L){i j:Nat}{x y:Hp}(hx:L[i]?=some x)(hy:L[j]?=some y)(hij:i<j):ltH x y=true:=by
 obtain⟨h1,e1⟩:=gO.1 hx;obtain⟨h2,e2⟩:=gO.1 hy;have:=(List.pairwise_iff_getElem.1 hup) i j h1 h2 hij;rwa [e1,e2] at this
theorem CA(w:World)(A:Option Addr)(c:Nat)(L:List Hp)(h:Hp)(hr:aX w A (aQ L))(hup:cT ltH L)(hl:L.length*24≤140737488355328) :
  Calls Tryz.prog 81 #[.slice A L.length c,h.agg,.func (.func 82) #[] #[]] w (Sam w (.tuple #[.int .i64 (zG L h),.bool (decide (h∈L))])):=by
 obtain⟨s0,s1⟩:=h;obtain⟨r,hr0⟩:∃r,zG L ⟨s0,s1⟩=r:=⟨_,rfl⟩;obtain⟨b,hb0⟩:∃r,decide ((⟨s0,s1⟩:Hp)∈L)=r:=⟨_,rfl⟩;rw[hr0,hb0];obtain⟨n,hn⟩:∃n,L.length=n:=⟨_,rfl⟩;rw[hn] at hl ⊢;have k0:=Blk.new w 143 #[.string s0,.int .i64 s1];have u0:Below w.heap.size w (w.alloc (.cells #[.string s0,.int .i64 s1] 143)):=bR.alloc (Nat.le_refl _) _;have H:=aI7 (hr.below u0) k0 u0 hup hn hr0 hb0;clear hr k0 u0 hup hn hr0 hb0;have eg:∀args w,(callFunc 82 args).run Tryz.prog w=.ok (.enter 82 args) w:=Go.Proofs.enters_of Tryz.func82 (by kernel_rfl) rfl;unfold Hp.agg;dsimp only
 go_enter Tryz.func81,Tryz.ntmps81;go_upto_region 1 with (fail);generalize w.alloc (.cells #[.string s0,.int .i64 s1] 143)=W0 at H ⊢;go_wp2_with fail;go_loopw [9,10,11] (fun lo hi _ wr=>∃i j:Nat,i≤j∧j≤n∧lo=.int .i64 i∧hi=.int .i64 j∧Hid (Below W0.heap.size W0 wr)∧Hid ((∀k x,k<i→L[k]?=some x→ltH x ⟨s0,s1⟩=true)∧∀k x,j≤k→L[k]?=some x→ltH x ⟨s0,s1⟩=false)) (fun lo hi _ _=>(intOf hi).toNat-(intOf lo).toNat)
 case atStart=>exact⟨0,n,Nat.zero_le _,Nat.le_refl _,rfl,rfl,hIz bR,hIz ⟨fun k x hk=>by omega,fun k x hk hx=>by have:=(gO.1 hx).1;have:=H.out.2.2.2.2.1;omega⟩⟩
 case round =>
  obtain⟨i,j,hij,hjn,rfl,rfl,hbw,hs⟩:=hrel;by_cases hlt:i<j
  ·have hltI:(i:Int)<(j:Int):=by omega
   obtain⟨k,hk⟩:∃k,(i+j) / 2=k:=⟨_,rfl⟩;have hq:((i:Int)+(j:Int)) / 2=(k:Int):=by rw[← hk];omega
   have hkj:k<j:=by omega
   have hik:i≤k:=by omega
   have hkn:k<n:=by omega
   have hknI:(k:Int)<(n:Int):=by omega
   have hw2:IntKind.i64.wrap ((k:Int)+1)=(k:Int)+1:=IntWalk.i64_in _ (by omega);obtain⟨⟨x0,x1⟩,hx⟩:∃x,L[k]?=some x:=⟨L[k]'(by rw[H.out.2.2.2.2.1];exact hkn),gEz _⟩;obtain⟨ab,ao,rfl,y0,y1⟩:=(H.out.1.below hbw.out).hp hx;dsimp only at y0 y1
   obtain⟨v,hv⟩:∃v,ML ⟨x0,x1⟩ ⟨s0,s1⟩=v:=⟨_,rfl⟩;have hcon:=fun W=>tH ⟨x0,x1⟩ ⟨s0,s1⟩ W
   rw[hv] at hcon;unfold Hp.agg at hcon;dsimp only at hcon
   have hlt2:=NI ⟨x0,x1⟩ ⟨s0,s1⟩;rw[hv] at hlt2;have HX:=aI2 hx hlt2;have HC:=hIz hcon;have SR:=hIz (show ∀W,Below W0.heap.size W0 W→W.cell? ⟨w.heap.size,0,none⟩=some (.string s0)∧W.cell? ⟨w.heap.size,1,none⟩=some (.int .i64 s1)∧W.cell? ⟨ab,ao+k*2,none⟩=some (.string x0)∧W.cell? ⟨ab,ao+k*2+1,none⟩=some (.int .i64 x1) from fun W hb=>by
    have kb:=H.out.2.1.upd (upF hb) id;obtain⟨b',o',e,z0,z1⟩:=(H.out.1.below hb).hp HX.out.1;injection e with e;injection e with e1 e2;subst e1;subst e2;exact⟨kb.cell 0,kb.cell 1,z0,z1⟩)
   have hS:=SR.out _ hbw.out.drew;clear hx hlt2 hcon hv hk y0 y1;go_upto_region 5 with (fail);refine aF (fun W=>W.cell? ⟨w.heap.size,0,none⟩=some (.string s0)∧W.cell? ⟨w.heap.size,1,none⟩=some (.int .i64 s1)∧W.cell? ⟨ab,ao+k*2,none⟩=some (.string x0)∧W.cell? ⟨ab,ao+k*2+1,none⟩=some (.int .i64 x1)) 8 [(0,true),(1,true),(2,true),(3,true),(4,true),(5,true),(6,false),(7,true)] hS ?_
   iterate 6 refine aC rfl ?_
   refine aM rfl rfl (fun K hK=>?_);go_simp;refine(HC.out wr.drew).mono ?_;rintro e W5 ⟨rfl,b5⟩;have HB5:=hIz (hbw.out.drew.trans (b5.mono hbw.out.size));refine hK _ _ (fun _=>SR.out _ HB5.out) ?_;clear hK K hS b5;(try simp only[Act.put,gA,gS,gZ,sA,sZ,sS])
   by_cases hv0:v<0
   ·have hlx:ltH ⟨x0,x1⟩ ⟨s0,s1⟩=true:=by rw[← HX.out.2];simpa using hv0
    have HL:=hIz hlx;clear hlx;refine aC rfl ?_;refine aG ?_;go_wp2;go_roundw
    case rel=>exact⟨k+1,j,by omega,hjn,by go_num,rfl,HB5,hIz ⟨fun k' x' hk' hx'=>by
      rcases Nat.lt_succ_iff_lt_or_eq.1 hk' with h|rfl
      ·exact GV.tr _ _ _ (vV H.out.2.2.2.1 hx' HX.out.1 h) HL.out
      ·rw[HX.out.1] at hx';injection hx' with e;rw[← e];exact HL.out,hs.out.2⟩⟩
    case measure=>simp[intOf];omega
   ·have hlx:ltH ⟨x0,x1⟩ ⟨s0,s1⟩=false:=by rw[← HX.out.2];simpa using hv0
    have HL:=hIz hlx;clear hlx;refine aC rfl ?_;refine aG ?_;go_wp2;go_roundw
    case rel=>exact⟨i,k,hik,by omega,rfl,rfl,HB5,hIz ⟨hs.out.1,fun k' x' hk' hx'=>by
      rcases Nat.lt_or_eq_of_le hk' with h|rfl
      ·cases e:ltH x' ⟨s0,s1⟩
       ·rfl
       ·have:=GV.tr _ _ _ (vV H.out.2.2.2.1 HX.out.1 hx' h) e;rw[HL.out] at this;cases this
      ·rw[HX.out.1] at hx';injection hx' with e;rw[← e];exact HL.out⟩⟩
    case measure=>simp[intOf];omega
  ·obtain rfl:i=j:=by omega
   have hri:r=i:=by
    rw[← H.out.2.2.2.2.2.1];exact NL H.out.2.2.2.1 (by rw[H.out.2.2.2.2.1];exact hjn) hs.out.1 hs.out.2
   subst hri;obtain⟨W2,hW2⟩:∃W,W=wr:=⟨_,rfl⟩;subst hW2;by_cases hin:r<n
   ·have hinI:(r:Int)<(n:Int):=by omega
    obtain⟨⟨x0,x1⟩,hx⟩:∃x,L[r]?=some x:=⟨L[r]'(by rw[H.out.2.2.2.2.1];exact hin),gEz _⟩;obtain⟨ab,ao,rfl,-,-⟩:=(H.out.1.below hbw.out).hp hx;obtain⟨v,hv⟩:∃v,ML ⟨x0,x1⟩ ⟨s0,s1⟩=v:=⟨_,rfl⟩;have hcon:=fun W=>tH ⟨x0,x1⟩ ⟨s0,s1⟩ W
    rw[hv] at hcon;unfold Hp.agg at hcon;dsimp only at hcon
    have hbv:b=decide (v=0):=by
     rw[← H.out.2.2.2.2.2.2,← hv,Bool.eq_iff_iff,decide_eq_true_iff,decide_eq_true_iff,BX];constructor
     ·intro hm;obtain⟨k,hk,e⟩:=List.getElem_of_mem hm;have hk':L[k]?=some ⟨s0,s1⟩:=by rw[gEz hk,e]
      rcases Nat.lt_trichotomy k r with h|rfl|h
      ·have:=hs.out.1 k _ h hk';rw[GV.irr] at this;cases this
      ·rw[hx] at hk';injection hk'
      ·have h1:=hs.out.2 r _ (Nat.le_refl _) hx;rw[vV H.out.2.2.2.1 hx hk' h] at h1;cases h1
     ·intro e;rw[← e];exact mG hx
    have HX:=aI2 hx hbv;have HC:=hIz hcon;have SR:=hIz (show ∀W,Below W0.heap.size W0 W→W.cell? ⟨w.heap.size,0,none⟩=some (.string s0)∧W.cell? ⟨w.heap.size,1,none⟩=some (.int .i64 s1)∧W.cell? ⟨ab,ao+r*2,none⟩=some (.string x0)∧W.cell? ⟨ab,ao+r*2+1,none⟩=some (.int .i64 x1) from fun W hb=>by
     have kb:=H.out.2.1.upd (upF hb) id;obtain⟨b',o',e,z0,z1⟩:=(H.out.1.below hb).hp HX.out.1;injection e with e;injection e with e1 e2;subst e1;subst e2;exact⟨kb.cell 0,kb.cell 1,z0,z1⟩)
    have hS:=SR.out _ hbw.out.drew;clear hx hbv hcon hv;go_upto_region 8 with (fail);refine aF (fun W=>W.cell? ⟨w.heap.size,0,none⟩=some (.string s0)∧W.cell? ⟨w.heap.size,1,none⟩=some (.int .i64 s1)∧W.cell? ⟨ab,ao+r*2,none⟩=some (.string x0)∧W.cell? ⟨ab,ao+r*2+1,none⟩=some (.int .i64 x1)) 16 [(0,true),(1,true),(2,true),(3,true),(4,true),(5,true),(6,true),(7,true),(8,true),(9,true),(10,true),(11,false),(12,true),(13,true),(14,true),(15,true)] hS ?_
    iterate 11 refine aC rfl ?_
    (refine BL rfl (by first | with_reducible rfl | kernel_rfl) (fun K hK=>?_);go_simp)
    refine(HC.out W2.drew).mono ?_;rintro e W5 ⟨rfl,b5⟩;have HB5:=hIz (hbw.out.drew.trans (b5.mono hbw.out.size));refine hK _ _ (fun _=>SR.out _ HB5.out) ?_;clear hK K hS b5;(try simp only[Act.put,gA,gS,gZ,sA,sZ,sS])
    iterate 4 refine aC rfl ?_
    refine aG ?_;have FIN:=hIz (tHn H.out.2.2.1 HB5.out);have HV:=hIz HX.out.2;go_wp2;refine bodyPost_ret (v:=.tuple #[.int .i64 r,.bool (v==0)]) (by simp[results,Tryz.f81,go_sem]) rfl ⟨?_,FIN.out⟩;rw[HV.out];congr 1
   ·obtain rfl:r=n:=by omega
    have hbf:b=false:=by
     cases b with
     | false=>rfl
     | true =>
      have hm:=of_decide_eq_true H.out.2.2.2.2.2.2;obtain⟨k,hk,e⟩:=List.getElem_of_mem hm;have:=hs.out.1 k _ (by have:=H.out.2.2.2.2.1;omega) (by rw[gEz hk,e]);rw[GV.irr] at this;cases this
    subst hbf;have hS:True:=trivial;have FIN:=hIz (tHn H.out.2.2.1 hbw.out.drew);go_upto_region 8 with (fail);refine aF (fun _=>True) 16 [(0,true),(1,true),(2,true),(3,true),(4,true),(5,true),(6,true),(7,true),(8,true),(9,true),(10,true),(11,false),(12,true),(13,true),(14,true),(15,true)] hS ?_
    iterate 5 refine aC rfl ?_
    iterate 6 (refine eX rfl (by kernel_rfl) ?_;(try simp only[Act.put,gA,gS,gZ,sA,sZ,sS]))
    (refine sX rfl (by kernel_rfl) (by first | assumption | trivial | exact UP.out _ H5.out) ?_;(try simp only[Act.put,gA,gS,gZ,sA,sZ,sS]))
    (refine eX rfl (by kernel_rfl) ?_;(try simp only[Act.put,gA,gS,gZ,sA,sZ,sS]))
    iterate 3 refine aC rfl ?_
    refine aG ?_;go_wp2;refine bodyPost_ret (v:=.tuple #[.int .i64 r,.bool false]) (by simp[results,Tryz.f81,go_sem]) rfl ⟨rfl,FIN.out⟩
open Go.RowKit
def pK(w:World)(L:List Txt)(e:Ending)(w':World):Prop:=∃v,e=.returned v∧w'.ownsRow w.heap.size 9 1 v L.length (aE L)∧Below w.heap.size w w'
theorem gD(w:World)(base:Nat)(v:Value)(L:List Txt)(own:w.ownsRow base 9 1 v L.length (aE L))(s:Txt)(hl:(L.length+1)*16≤140737488355328)(hb:base≤w.heap.size) :
  ∃v' w',(Builtin.append_ #[25,25] 25 #[v,.slice (some ⟨w.heap.size,0,none⟩) 1 1]).run Tryz.prog (w.alloc (.cells #[.string s] 9))=.ok v' w'∧w'.ownsRow base 9 1 v' (L++[s]).length (aE (L++[s]))∧Upd (fun k=>v.ownBlock=some k) w w'∧∀k,v.ownBlock=some k→base≤k:=by
 obtain⟨v',w',happ,own',up,-⟩:=cI w base 25 9 1 16 _ Tryz.underlying25 cH rfl (by decide) v L.length _ own [.string s] 1 rfl (by simp;exact rfl) hl (by unfold maxLen;omega) hb;refine⟨v',w',happ,?_,up,fun k hk=>(own.lt k hk).1⟩;rw[List.length_append,aE,List.map_append];exact own'

structure BH(w:World)(r:Nat)(L:List Txt)(m:Nat):Prop where
 ex:∃kv,bW w Tryz.prog 9 r kv∧(∀q∈kv,∃(s:Txt) (v:Int),q=(.string s,.int .i64 v)∧1≤v∧v≤m∧s∈L)∧∀s∈L,∃v,((.string s,v):Value × Value)∈kv
theorem BH.upd{w w':World}{r m:Nat}{L:List Txt}{F:Nat→Prop}(h:BH w r L m)(hu:Upd F w w')(hF:¬F r):BH w' r L m:=by
 obtain⟨kv,h1,h2,h3⟩:=h.ex;exact⟨kv,h1.upd hu hF,h2,h3⟩
theorem BH.lt{w:World}{r m:Nat}{L:List Txt}(h:BH w r L m):r<w.heap.size:=by
 obtain⟨kv,h1,-⟩:=h.ex;exact h1.lt
theorem BH.look{w:World}{r m:Nat}{L:List Txt}(h:BH w r L m){s:Txt}(hs:fH s) :
  ∃v:Int,(Instr.lookup 136 (.map (some r)) (.string s) false).run Tryz.prog w=.ok (.int .i64 v) w∧((v==0)=!inB s L)∧0≤v∧v≤m:=by
 obtain⟨kv,h1,h2,h3⟩:=h.ex;by_cases hin:s∈L
 ·obtain⟨v,hv⟩:=h3 s hin;obtain⟨t,x,e,hx1,hx2,-⟩:=h2 _ hv;injection e with e1 e2;subst e2;refine⟨x,h1.look_hit fU Tryz.underlying136 hv false,?_,by omega,hx2⟩;rw[bC.2 hin];simp
  omega
 ·refine⟨0,h1.look_miss fU Tryz.underlying136 (lP hs) (fun q hq e=>?_) (by kernel_rfl) false,by rw[show inB s L=false from by cases e:inB s L;rfl;exact(hin (bC.1 e)).elim];rfl,by omega,by omega⟩;obtain⟨t,x,rfl,-,-,ht⟩:=h2 q hq;simp only[Value.string.injEq] at e
  subst e;exact hin ht
theorem BH.step{w:World}{r m:Nat}{L:List Txt}(h:BH w r L m){s:Txt}(hs:fH s){x:Int}(h0:0≤x)(hx:x≤m) :
  ∃w',(Instr.mapUpdate 136 (.map (some r)) (.string s) (.int .i64 (x+1))).run Tryz.prog w=.ok () w'∧BH w' r (s::L) (m+1)∧Upd (fun q=>q=r) w w':=by
 obtain⟨kv,h1,h2,h3⟩:=h.ex;have up:∀{w':World},w.grownBy w' (some r)→Upd (fun q=>q=r) w w':=fun hg=>(Upd.of_grown hg).mono (fun i _ e=>by injection e with e;exact e.symm)
 by_cases hin:∃v,((.string s,v):Value × Value)∈kv
 ·obtain⟨v,hv⟩:=hin;obtain⟨w',j,hr,hj,hm,hg,-⟩:=h1.put_hit fU Tryz.underlying136 (.int .i64 (x+1)) hv;refine⟨w',hr,⟨_,hm,fun q hq=>?_,fun t ht=>?_⟩,up hg⟩
  ·rcases List.mem_or_eq_of_mem_set hq with hq|rfl
   ·obtain⟨t,y,e,a,b,c⟩:=h2 q hq;exact⟨t,y,e,a,by omega,List.mem_cons_of_mem _ c⟩
   ·exact⟨s,x+1,rfl,by omega,by omega,List.mem_cons_self⟩
  ·have hjl:=(gO.1 hj).1;have key:∀y,((.string t,y):Value × Value)∈kv→∃y,((.string t,y):Value × Value)∈kv.set j (.string s,.int .i64 (x+1)):=fun y hy=>by
    obtain⟨i,hi⟩:=List.mem_iff_getElem?.1 hy;by_cases e:j=i
    ·subst e;rw[hj] at hi;injection hi with hi;injection hi with hi _;rw[← hi];exact⟨_,mG (i:=j) (by rw[List.getElem?_set_self hjl])⟩
    ·exact⟨y,mG (i:=i) (by rw[List.getElem?_set_ne e];exact hi)⟩
   rcases List.mem_cons.1 ht with rfl|ht
   ·exact key _ hv
   ·obtain⟨y,hy⟩:=h3 t ht;exact key y hy
 ·obtain⟨w',hr,hm,hg,-⟩:=h1.put_miss fU Tryz.underlying136 (.int .i64 (x+1)) (lP hs) (fun q hq e=>hin ⟨q.2,by rw[← e];exact hq⟩);refine⟨w',hr,⟨_,hm,fun q hq=>?_,fun t ht=>?_⟩,up hg⟩
  ·rcases List.mem_append.1 hq with hq|hq
   ·obtain⟨t,y,e,a,b,c⟩:=h2 q hq;exact⟨t,y,e,a,by omega,List.mem_cons_of_mem _ c⟩
   ·obtain rfl:=List.mem_singleton.1 hq;exact⟨s,x+1,rfl,by omega,by omega,List.mem_cons_self⟩
  ·rcases List.mem_cons.1 ht with rfl|ht
   ·exact⟨_,by simp;exact .inr rfl⟩
   ·obtain⟨y,hy⟩:=h3 t ht;exact⟨y,List.mem_append.2 (.inl hy)⟩

def dV(E:List Ed):Nat→List Txt
 | 0=>[]
 | k+1=>match E[k]? with
  | some x=>x.to::x.fr::dV E k
  | none=>dV E k
theorem zH{E:List Ed}{k:Nat}{x:Ed}(h:E[k]?=some x):dV E (k+1)=x.to::x.fr::dV E k:=by rw[dV,h]
theorem lQ(E:List Ed)(s:Txt):∀k,s∈dV E k↔∃(i:Nat) (x:Ed),i<k∧E[i]?=some x∧(s=x.fr∨s=x.to)
 | 0=>by simp[dV]
 | k+1=>by
  have ih:=lQ E s k;unfold dV;cases hx:E[k]? with
  | none =>
   simp only
   rw[ih];constructor
   ·rintro⟨i,x,a,b⟩;exact⟨i,x,by omega,b⟩
   ·rintro⟨i,x,a,b,c⟩;refine⟨i,x,?_,b,c⟩;rcases Nat.lt_succ_iff_lt_or_eq.1 a with a|rfl
    ·exact a
    ·rw[hx] at b;cases b
  | some y =>
   simp only[List.mem_cons]
   rw[ih];constructor
   ·rintro (rfl|rfl|⟨i,x,a,b⟩)
    ·exact⟨k,y,by omega,hx,.inr rfl⟩
    ·exact⟨k,y,by omega,hx,.inl rfl⟩
    ·exact⟨i,x,by omega,b⟩
   ·rintro⟨i,x,a,b,c⟩;rcases Nat.lt_succ_iff_lt_or_eq.1 a with a|rfl
    ·exact .inr (.inr ⟨i,x,a,b,c⟩)
    ·rw[hx] at b;injection b with b;subst b;rcases c with c|c
     ·exact .inr (.inl c)
     ·exact .inl c
def cB(N:List Txt)(E:List Ed):List Txt:=N.filter fun s=>!inB s (dV E E.length)
def dW(N:List Txt)(E:List Ed)(k:Nat):List Txt:=(N.take k).filter fun s=>!inB s (dV E E.length)
theorem dB{α:Type}{l:List α}{k:Nat}{x:α}(h:l[k]?=some x):l.take (k+1)=l.take k++[x]:=by
 obtain⟨hk,rfl⟩:=gO.1 h;exact List.take_succ_eq_append_getElem hk
theorem pW{N:List Txt}{E:List Ed}{k:Nat}{s:Txt}(h:N[k]?=some s)(hb:inB s (dV E E.length)=false):dW N E (k+1)=dW N E k++[s]:=by
 rw[dW,dB h,List.filter_append];simp[hb,dW]
theorem nL{N:List Txt}{E:List Ed}{k:Nat}{s:Txt}(h:N[k]?=some s)(hb:inB s (dV E E.length)=true):dW N E (k+1)=dW N E k:=by
 rw[dW,dB h,List.filter_append];simp[hb,dW]
theorem pX(N:List Txt)(E:List Ed):dW N E N.length=cB N E:=by rw[dW,List.take_length];rfl
theorem tI(N:List Txt)(E:List Ed)(k:Nat):(dW N E k).length≤k:=Nat.le_trans (List.length_filter_le _ _) (by rw[List.length_take];omega)

theorem IG(w:World)(A:Option Addr)(c:Nat)(B:Option Addr)(d:Nat)(N:List Txt)(E:List Ed)(h:lN w A c B d N E) :
  Calls Tryz.prog 140 #[cP A N.length c B E.length d] w (pK w (cB N E)):=by
 have k0:=Blk.new w 28 #[.slice A N.length c,.slice B E.length d];have u0:Below w.heap.size w (w.alloc (.cells #[.slice A N.length c,.slice B E.length d] 28)):=bR.alloc (Nat.le_refl _) _;have hn:N.length*16≤140737488355328:=h.fit.n;have hd:E.length≤140737488355328:=by have:=h.fit.e;omega
 have HA:=aI2 h.fit.tn h.fit.te;have H:=aI3 (h.below u0) k0 u0;clear h k0 u0;unfold cP;go_enter Tryz.func140,Tryz.ntmps140;go_upto_region 1 with (fail);generalize w.alloc (.cells #[.slice A N.length c,.slice B E.length d] 28)=W0 at H ⊢;have hmm:=@run_makeMap Tryz.prog;go_upto_region 2 with (fail);have m3:BH (W0.alloc (.map #[] 0)) W0.heap.size [] 0:=⟨[],bW.made W0 Tryz.prog 9,fun q hq=>(by cases hq),fun s hs=>(by cases hs)⟩;have b3:Below W0.heap.size W0 (W0.alloc (.map #[] 0)):=bR.alloc (Nat.le_refl _) _;have k3:=H.out.2.1.upd (upF b3) id;have H3:=aI4 (H.out.1.below b3) k3 (tHn H.out.2.2 b3) m3;have hr1:w.heap.size<W0.heap.size:=H.out.2.1.lt;have HAB:=hIz (show(∀(j:Nat) (x:Ed),E[j]?=some x→∃b o,B=some ⟨b,o,none⟩∧b<W0.heap.size)∧∀(j:Nat) (x:Txt),N[j]?=some x→∃b o,A=some ⟨b,o,none⟩∧b<W0.heap.size from
  ⟨fun j x hx=>by obtain⟨b,o,e,y0,-⟩:=H.out.1.re.ed hx;exact⟨b,o,e,World.block_lt_of_cell? _ _ y0⟩,fun j x hx=>by obtain⟨b,o,e,y0⟩:=H.out.1.rn.txt hx;exact⟨b,o,e,World.block_lt_of_cell? _ _ y0⟩⟩)
 clear b3 m3 k3 hmm;generalize W0.alloc (.map #[] 0)=W3 at H3 ⊢;have q1:W3.cell? ⟨w.heap.size,1,none⟩=some (.slice B E.length d):=H3.out.2.1.cell 1;go_wp2_with fail;clear q1;go_loopw [5,13] (fun _ i wr=>∃k:Nat,k≤E.length∧i=.int .i64 k∧Hid (Upd (fun q=>q=W0.heap.size) W3 wr)∧Hid (BH wr W0.heap.size (dV E k) (2*k))) (fun _ i _=>E.length-(intOf i).toNat)
 case atStart=>exact⟨0,Nat.zero_le _,rfl,hIz (Upd.refl _ _),hIz H3.out.2.2.2⟩
 case round =>
  obtain⟨k,hk,rfl,hu,hm⟩:=hrel;by_cases hlt:k<E.length
  ·have hltI:(k:Int)<(E.length:Int):=by omega
   have hkw:IntKind.i64.wrap ((k:Int)+1)=(k:Int)+1:=IntWalk.i64_in _ (by omega);obtain⟨⟨s0,s1,s2⟩,hx⟩:∃x,E[k]?=some x:=⟨E[k],gEz _⟩;obtain⟨ab,ao,rfl,hab⟩:=HAB.out.1 k _ hx;obtain⟨ab',ao',e,y0,y1,y2⟩:=H3.out.1.re.ed hx;injection e with e;injection e with e e2;subst e;subst e2;dsimp only at y0 y1 y2
   have hl3:=World.block_lt_of_cell? W3 _ y0;have cc:=fun i=>hu.out.cell (p:=⟨ab,i,none⟩) hl3 (by show ¬ab=_;omega)
   have x0:=(cc _).trans y0;have x1:=(cc _).trans y1;have x2:=(cc _).trans y2;have hok:=HA.out.2 _ (mG hx);have kx:=Blk.new wr 88 #[.string s0,.string s1,.string s2];have ux:Upd (fun q=>q=W0.heap.size) W3 (wr.alloc (.cells #[.string s0,.string s1,.string s2] 88)):=hu.out.alloc _;have mx:=hm.out.upd (Upd.of_below ((Below.refl wr.heap.size wr).alloc (Nat.le_refl _) (.cells #[.string s0,.string s1,.string s2] 88)) (fun _=>False)) id;have hrw:=hm.out.lt;have HX:=aI5 hx hok kx ux mx;clear hx hok kx ux mx y0 y1 y2 cc hl3;go_upto_region 5 with (fail);generalize wr.alloc (.cells #[.string s0,.string s1,.string s2] 88)=W5 at HX ⊢;clear x0 x1 x2;have x0:W5.cell? ⟨wr.heap.size,0,none⟩=some (.string s0):=HX.out.2.2.1.cell 0;obtain⟨v0,l0,-,h0,h0'⟩:=HX.out.2.2.2.2.look (s:=s0) HX.out.2.1.1;have hw0:IntKind.i64.wrap (v0+1)=v0+1:=IntWalk.i64_in _ (by omega);obtain⟨w6,r6,m6,u6⟩:=HX.out.2.2.2.2.step (s:=s0) HX.out.2.1.1 h0 (by omega);have k6:=HX.out.2.2.1.upd u6 (by omega);have H6:=aI2 (HX.out.2.2.2.1.trans u6 (fun i e=>.inl e)) m6;clear m6 u6;have x2:w6.cell? ⟨wr.heap.size,2,none⟩=some (.string s2):=k6.cell 2;obtain⟨v1,l1,-,h1,h1'⟩:=H6.out.2.look (s:=s2) HX.out.2.1.2.2;have hw1:IntKind.i64.wrap (v1+1)=v1+1:=IntWalk.i64_in _ (by omega);obtain⟨w7,r7,m7,u7⟩:=H6.out.2.step (s:=s2) HX.out.2.1.2.2 h1 (by omega);have H7:=aI2 (H6.out.1.trans u7 (fun i e=>.inl e)) m7;clear m7 u7 k6;go_wp2;go_roundw
   case rel=>exact⟨k+1,by omega,by go_num,hIz H7.out.1,hIz (by rw[zH HX.out.1];exact H7.out.2)⟩
   case measure=>simp[intOf];omega
  ·obtain rfl:k=E.length:=by omega
   obtain⟨W4,hW4⟩:∃W,W=wr:=⟨_,rfl⟩;subst hW4;have k4:=H3.out.2.1.upd hu.out (by omega);have q0:W4.cell? ⟨w.heap.size,0,none⟩=some (.slice A N.length c):=k4.cell 0;have bw4:Below w.heap.size w W4:=H3.out.2.2.1.trans (hu.out.below (fun q _ e=>by omega) H3.out.2.2.1.size);have H4:=aI3 bw4 hu.out hm.out;clear k4 bw4 hk hlt hu hm;go_wp2_with fail;clear q0;go_loopw [6,8,31] (fun v _ i wz=>∃k:Nat,k≤N.length∧i=.int .i64 k∧Hid (Below W4.heap.size W4 wz)∧Hid (wz.ownsRow W4.heap.size 9 1 v (dW N E k).length (aE (dW N E k)))) (fun _ _ i _=>N.length-(intOf i).toNat)
   case atStart=>exact⟨0,Nat.zero_le _,rfl,hIz bR,hIz (World.ownsRow_nil _ _ _ _)⟩
   case round =>
    obtain⟨k,hk,rfl,hb,ho⟩:=hrel;obtain⟨A5,c5,rfl,-,-⟩:=aK ho.out;obtain⟨n5,hn5⟩:∃n5,(dW N E k).length=n5:=⟨_,rfl⟩;have hle:=tI N E k;by_cases hlt:k<N.length
    ·have hltI:(k:Int)<(N.length:Int):=by omega
     have hkw:IntKind.i64.wrap ((k:Int)+1)=(k:Int)+1:=IntWalk.i64_in _ (by omega);obtain⟨s,hx⟩:∃x,N[k]?=some x:=⟨N[k],gEz _⟩;obtain⟨ab,ao,rfl,hab⟩:=HAB.out.2 k _ hx;obtain⟨ab',ao',e,y0⟩:=H3.out.1.rn.txt hx;injection e with e;injection e with e e2;subst e;subst e2;have hl3:=World.block_lt_of_cell? W3 _ y0;have x0:wr.cell? ⟨ab,ao+k,none⟩=some (.string s):=(hb.out.cell (p:=⟨ab,ao+k,none⟩) (Nat.lt_of_lt_of_le hl3 H4.out.2.1.size)).trans ((H4.out.2.1.cell (p:=⟨ab,ao+k,none⟩) hl3 (by show ¬ab=_;omega)).trans y0);obtain⟨v0,l0,hv0,-⟩:=(H4.out.2.2.upd (upF hb.out) id).look (s:=s) (HA.out.1 s (mG hx));obtain⟨b,hbb⟩:∃b,inB s (dV E E.length)=b:=⟨_,rfl⟩;rw[hbb] at hv0;have HX:=aI2 hx hbb;clear hx hbb y0 hl3;rw[hn5];cases b
     ·simp only[Bool.not_false] at hv0
      obtain⟨v6,w6,happ,own6,u6,hv6⟩:=gD wr W4.heap.size _ _ ho.out s (by omega) hb.out.size;rw[hn5] at happ;have b6:Below W4.heap.size W4 w6:=hb.out.trans (u6.below (fun q _ e=>hv6 q e) hb.out.size);have H6:=aI2 own6 b6;clear own6 b6 u6 hv6 hn5 hle;go_wp2_with (at_builtin;refine wpList_append_run rfl _ _ _ rfl rfl rfl happ ?_);go_roundw
      case rel=>exact⟨k+1,by omega,by go_num,hIz H6.out.2,hIz (by rw[pW HX.out.1 HX.out.2];exact H6.out.1)⟩
      case measure=>simp[intOf];omega
     ·simp only[Bool.not_true] at hv0
      have HN5:=hIz hn5;clear hn5 hle;go_wp2;go_roundw
      case rel=>exact⟨k+1,by omega,by go_num,hb,hIz (by rw[nL HX.out.1 HX.out.2];have:=ho.out;rw[HN5.out] at this ⊢;exact this)⟩
      case measure=>simp[intOf];omega
    ·obtain rfl:k=N.length:=by omega
     have fin:pK w (cB N E) (.returned (.slice A5 n5 c5)) wr:=by
      rw[← pX];refine⟨_,rfl,?_,tHn H4.out.1 hb.out⟩;rw[← hn5];exact bQ ho.out (fun q hq=>Nat.le_trans H4.out.1.size (ho.out.lt q hq).1)
     have FIN:=hIz fin;rw[hn5];clear fin hn5 hle;go_wp2;go_ret;exact FIN.out
open Go.Shelf
def jA:Go.Shelf.Ren:=⟨fun | 0=>0 | 1=>1 | 2=>2 | 106=>70 | 122=>93 | 125=>91 | 128=>130 | 129=>131 | 166=>141 | 169=>142 | 170=>274 | 190=>137 | 194=>139 | 213=>109 | 215=>132 | 240=>165 | 258=>164 | 265=>147 | 276=>194 | 302=>185 | 303=>186 | 304=>187 | 305=>188 | 306=>189 | 307=>190 | 308=>191 | 309=>192 | 310=>193 | 329=>159 | 330=>160 | 333=>202 | 334=>203 | 335=>204 | 336=>205 | 338=>199 | 344=>230 | 347=>243 | 348=>244 | 349=>245 | 350=>246 | 351=>247 | 352=>248 | 353=>249 | 354=>250 | 355=>251 | 356=>252 | 357=>253 | 358=>254 | 359=>255 | 360=>257 | 361=>258 | 362=>275 | 366=>276 | 367=>280 | n=>n,fun | 0=>0 | 1=>1 | 2=>2 | 3=>3 | 4=>4 | 5=>5 | 6=>6 | 7=>7 | 8=>8 | 9=>9 | 10=>10 | 11=>11 | 12=>12 | 13=>13 | 14=>14 | 15=>15 | 16=>16 | 17=>17 | 18=>18 | 19=>19 | 20=>20 | 21=>21 | 22=>279 | 27=>145 | 28=>42 | 31=>25 | 32=>86 | 33=>186 | 37=>221 | 41=>165 | 43=>160 | 46=>183 | 47=>182 | 51=>216 | 52=>215 | 53=>162 | 54=>217 | 70=>220 | 71=>222 | 72=>223 | 73=>157 | 74=>224 | 75=>225 | 76=>226 | 77=>227 | 80=>228 | 81=>49 | 100=>219 | 102=>218 | 103=>102 | 104=>78 | 111=>159 | 112=>207 | 127=>256 | 131=>98 | 135=>255 | 164=>282 | 165=>283 | 182=>209 | 183=>210 | 188=>276 | 189=>277 | 190=>278 | 191=>280 | 192=>281 | 218=>248 | 219=>249 | 220=>250 | 222=>252 | 224=>289 | 225=>290 | 228=>274 | 229=>76 | 231=>307 | 233=>296 | 238=>317 | 239=>318 | 240=>319 | 241=>320 | 242=>321 | 243=>322 | 244=>323 | 245=>324 | 246=>325 | 247=>326 | 248=>327 | 249=>328 | n=>n,fun n=>n⟩
theorem II:Lays.n166 Tryz.prog jA:={
 mixed:=(by kernel_rfl)
 f166:=Tryz.func141.trans (congrArg some (by kernel_rfl))
 f240:=Tryz.func165.trans (congrArg some (by kernel_rfl))
 f276:=Tryz.func194.trans (congrArg some (by kernel_rfl))
 t0:=Tryz.underlying0
 a0:=Tryz.isAgg0
 z0:=Tryz.sizeOf0
 v0:=Tryz.zeroValue0
 t3:=Tryz.underlying3
 a3:=Tryz.isAgg3
 z3:=Tryz.sizeOf3
 v3:=Tryz.zeroValue3
 t4:=Tryz.underlying4
 a4:=Tryz.isAgg4
 z4:=Tryz.sizeOf4
 v4:=Tryz.zeroValue4
 t9:=Tryz.underlying9
 a9:=Tryz.isAgg9
 z9:=Tryz.sizeOf9
 v9:=Tryz.zeroValue9
 t20:=Tryz.underlying20
 a20:=Tryz.isAgg20
 z20:=Tryz.sizeOf20
 v20:=Tryz.zeroValue20
 t37:=Tryz.underlying221
 a37:=Tryz.isAgg221
 z37:=Tryz.sizeOf221
 v37:=Tryz.zeroValue221
 t70:=Tryz.underlying220
 a70:=Tryz.isAgg220
 z70:=Tryz.sizeOf220
 v70:=Tryz.zeroValue220
 t72:=Tryz.underlying223
 a72:=Tryz.isAgg223
 z72:=Tryz.sizeOf223
 v72:=Tryz.zeroValue223
 t75:=Tryz.underlying225
 a75:=Tryz.isAgg225
 z75:=Tryz.sizeOf225
 v75:=Tryz.zeroValue225
 t164:=Tryz.underlying282
 a164:=Tryz.isAgg282
 z164:=Tryz.sizeOf282
 v164:=Tryz.zeroValue282 }
theorem TF:Lays.n169 Tryz.prog jA:={
 mixed:=(by kernel_rfl)
 f169:=Tryz.func142.trans (congrArg some (by kernel_rfl))
 t0:=Tryz.underlying0
 a0:=Tryz.isAgg0
 z0:=Tryz.sizeOf0
 v0:=Tryz.zeroValue0
 t3:=Tryz.underlying3
 a3:=Tryz.isAgg3
 z3:=Tryz.sizeOf3
 v3:=Tryz.zeroValue3
 t9:=Tryz.underlying9
 a9:=Tryz.isAgg9
 z9:=Tryz.sizeOf9
 v9:=Tryz.zeroValue9
 t37:=Tryz.underlying221
 a37:=Tryz.isAgg221
 z37:=Tryz.sizeOf221
 v37:=Tryz.zeroValue221
 t70:=Tryz.underlying220
 a70:=Tryz.isAgg220
 z70:=Tryz.sizeOf220
 v70:=Tryz.zeroValue220
 t72:=Tryz.underlying223
 a72:=Tryz.isAgg223
 z72:=Tryz.sizeOf223
 v72:=Tryz.zeroValue223
 t127:=Tryz.underlying256
 a127:=Tryz.isAgg256
 z127:=Tryz.sizeOf256
 v127:=Tryz.zeroValue256 }
theorem MM:Builder.Extra Tryz.prog jA:={
 sizeBuilder:=(by kernel_rfl)
 liesBuilder:=(by kernel_rfl)
 t5:=Tryz.underlying5
 a5:=Tryz.isAgg5
 z5:=Tryz.sizeOf5
 v5:=Tryz.zeroValue5
 infoByte:=(by kernel_rfl)
 cellsByte:=(by kernel_rfl)
 sizeByte:=(by kernel_rfl)
 neB5:=(by decide) }
open Go.RowKit
def IsB(w:World)(b:Nat)(l:List UInt8):Prop:=Lib.IsBuilderF 223 5 b b (Lib.byteCells l) w
theorem IsB.alloc{w:World}{b:Nat}{l:List UInt8}(h:IsB w b l)(o:Obj):IsB (w.alloc o) b l:=Lib.IsBuilderF.alloc h o
theorem IsB.below{w w':World}{b:Nat}{l:List UInt8}(h:IsB w b l)(hb:Below w.heap.size w w'):IsB w' b l:=by
 have hg:w.grownBy w' none:=(upF hb).to_grown (fun _ _ e=>e.elim);have key:∀p,Lib.BuilderAtF 223 5 b b p (Lib.byteCells l) w→Lib.BuilderAtF 223 5 b b p (Lib.byteCells l) w':=fun p ⟨h1,v,h2,h3,h4⟩ =>
  ⟨h1,v,(hb.block b (Array.getElem?_eq_some_iff.1 h2).1).trans h2,h3.kept hg (by cases v.ownBlock <;> simp),h4⟩
 exact h.imp (key _) (key _)
theorem IsB.new(w:World):IsB (w.alloc (.cells #[.pointer none,.slice none 0 0] 223)) w.heap.size []:=
 .inl ⟨Nat.le_refl _,.slice none 0 0,heap_alloc_new w _,World.ownsRowF_nil _ _ _ _,by simp[Value.ownBlock]⟩
theorem MN(w:World)(b:Nat)(l:List UInt8)(s:Txt)(h:IsB w b l)(hl:l.length+s.size≤140737488355328)(hb:b≤w.heap.size) :
  Calls Tryz.prog 141 #[.pointer (some ⟨b,0,none⟩),.string s] w fun e w'=>e=.returned (.tuple #[.int .i64 s.size,.nilIface])∧IsB w' b (l++s.data.toList)∧Below b w w'∧Lib.OthersKept 5 (some b) w w':=by
 have hcon:=Any.Builder_WriteString_k II MM b b (Lib.byteCells l) s w h (by rw[Lib.byteCells_length];exact hl) hb;change Calls Tryz.prog 141 _ _ _ at hcon
 refine hcon.mono ?_;rintro e w' ⟨rfl,h1,h2,h3⟩;refine⟨rfl,.inr ?_,h2,h3⟩;have:Lib.byteCells (l++s.data.toList)=Lib.byteCells l++Lib.strCells s:=by rw[Lib.strCells_eq];simp[Lib.byteCells]
 rw[this];exact h1
theorem NM(w:World)(b:Nat)(l:List UInt8)(h:IsB w b l)(hb:b≤w.heap.size) :
  Calls Tryz.prog 142 #[.pointer (some ⟨b,0,none⟩)] w fun e w'=>e=.returned (.string ⟨l.toArray⟩)∧Below b w w':=by
 have hcon:=Any.Builder_String_any_k TF MM b b l w h hb;change Calls Tryz.prog 142 _ _ _ at hcon
 exact hcon.mono fun e w' hh=>⟨hh.1,hh.2.2.1⟩
theorem IJ{w w':World}{base n b:Nat}{v:Value}{xs:List Value}(h:w.ownsRow base 9 1 v n xs)(hk:Lib.OthersKept 5 (some b) w w')(hb:v.ownBlock≠some b):w'.ownsRow base 9 1 v n xs:=by
 refine⟨h.1,?_⟩;rcases h.2 with h2|⟨g,cap,cur,rfl,h3,hg,r⟩
 ·exact .inl h2
 ·exact .inr ⟨g,cap,cur,rfl,h3,hk g _ hg (fun e=>hb e) (fun c fz e=>by injection e with _ e _;exact absurd e (by decide)),r⟩

def MO:List UInt8:=[32,59,10]
def eC(s:Txt):List UInt8:=s.data.toList++MO
def iH(x:Ed):List UInt8:=x.fr.data.toList++[32]++x.lb.data.toList++[32]++x.to.data.toList++MO
def mQ(N:List Txt)(E:List Ed):List UInt8:=(cB N E).flatMap eC++E.flatMap iH
structure kE(N:List Txt)(E:List Ed):Prop where
 n:∀s∈N,s.size≤16
 e:∀x∈E,x.fr.size≤16∧x.lb.size≤16∧x.to.size≤16
theorem fW{s:Txt}(h:dE s=true):1≤s.size∧s.size≤16:=by
 unfold dE at h;rw[Bool.and_eq_true] at h;exact of_decide_eq_true h.1
theorem nM{s:Txt}(h:fS s=true):dE s=true:=by
 unfold fS at h;rw[Bool.and_eq_true] at h;exact h.1
theorem kE.of{N:List Txt}{E:List Ed}(h:bT N E=true):kE N E:=by
 unfold bT at h;rw[Bool.and_eq_true,List.all_eq_true,List.all_eq_true] at h;refine⟨fun s hs=>(fW (h.1 s hs)).2,fun x hx=>?_⟩;have:=h.2 x hx;unfold dQ at this;rw[Bool.and_eq_true,Bool.and_eq_true] at this;exact⟨(fW this.1).2,(fW (nM this.2.1)).2,(fW this.2.2).2⟩
theorem tJ(s:Txt):s.data.toList.length=s.size:=by rw[Array.length_toList];rfl
theorem kL{α β:Type}{f:α→List β}{c:Nat}:∀{l:List α},(∀x∈l,(f x).length≤c)→(l.flatMap f).length≤l.length*c
 | [],_=>by simp
 | x::l,h=>by
  have h1:=h x (by simp);have h2:=kL (l:=l) (fun y hy=>h y (by simp[hy]));simp only[List.flatMap_cons,List.length_append,List.length_cons,Nat.add_mul]
  omega
theorem mW{s:Txt}(h:s.size≤16):(eC s).length≤19:=by simp[eC,MO];omega
theorem xQ{x:Ed}(h:x.fr.size≤16∧x.lb.size≤16∧x.to.size≤16):(iH x).length≤53:=by simp[iH,MO];omega
theorem gI{N:List Txt}{E:List Ed}{s:Txt}(h:s∈cB N E):s∈N:=(List.mem_filter.1 h).1
theorem tK(N:List Txt)(E:List Ed):(cB N E).length≤N.length:=List.length_filter_le _ _
theorem cQ(a b:Txt):(a++b).data.toList=a.data.toList++b.data.toList:=by simp
theorem dM(a b:Txt):(a++b).size=a.size+b.size:=by simp
theorem lR(a b:Txt)(h:a.size+b.size≤1000):∀w,(Op.stringOp .add a b).run Tryz.prog w=.ok (.string (a++b)) w:=fun w=>run_string_add_sum w a b (by omega)

theorem IK(w:World)(A:Option Addr)(c:Nat)(B:Option Addr)(d:Nat)(N:List Txt)(E:List Ed)(h:lN w A c B d N E)(hs:kE N E)(hN:N.length≤32)(hE:E.length≤256) :
  Calls Tryz.prog 106 #[cP A N.length c B E.length d] w (Sam w (.string ⟨(mQ N E).toArray⟩)):=by
 have k0:=(Blk.new w 28 #[.slice A N.length c,.slice B E.length d]).alloc (.cells #[.pointer none,.slice none 0 0] 223);have i0:=IsB.new (w.alloc (.cells #[.slice A N.length c,.slice B E.length d] 28));simp only[World.size_alloc] at i0
 have u0:Below w.heap.size w ((w.alloc (.cells #[.slice A N.length c,.slice B E.length d] 28)).alloc (.cells #[.pointer none,.slice none 0 0] 223)):=by(repeat (first | exact Below.refl _ _ | apply Below.drew | refine Below.alloc ?_ (by first | exact Nat.le_refl _ | (simp;done) | (simp;omega)) _ | refine Below.setCell ?_ (by first | exact Nat.le_refl _ | (simp;done) | (simp;omega)) _))
 have hz:((w.alloc (.cells #[.slice A N.length c,.slice B E.length d] 28)).alloc (.cells #[.pointer none,.slice none 0 0] 223)).heap.size=w.heap.size+2:=by simp
 have HB:=hIz (show ∀(j:Nat) (x:Ed),E[j]?=some x→∃b o,B=some ⟨b,o,none⟩∧b<w.heap.size from fun j x hx=>by obtain⟨b,o,e,y0,-⟩:=h.re.ed hx;exact⟨b,o,e,World.block_lt_of_cell? _ _ y0⟩);have HS:=hIz hs;have H:=aI5 (h.below u0) k0 u0 i0 hz;clear h k0 u0 i0 hz hs;unfold cP;go_enter Tryz.func106,Tryz.ntmps106;go_upto_region 2 with (fail);generalize (w.alloc (.cells #[.slice A N.length c,.slice B E.length d] 28)).alloc (.cells #[.pointer none,.slice none 0 0] 223)=W1 at H ⊢;have q0:W1.cell? ⟨w.heap.size,0,none⟩=some (.slice A N.length c):=H.out.2.1.cell 0;have q1:W1.cell? ⟨w.heap.size,1,none⟩=some (.slice B E.length d):=H.out.2.1.cell 1;go_wp2_with fail;refine(IG W1 A c B d N E H.out.1).mono ?_;rintro e w2 ⟨v,rfl,own2,b2⟩;obtain⟨A2,c2,rfl,-,-⟩:=aK own2;obtain⟨n2,hn2⟩:∃n2,(cB N E).length=n2:=⟨_,rfl⟩;have hn2':n2≤32:=by rw[← hn2];exact Nat.le_trans (tK N E) hN
 have i2:=H.out.2.2.2.1.below b2;have bb2:=tHn H.out.2.2.1 b2;have hz2:=b2.size;have HBM:=hIz (b2.mono (show w.heap.size+1≤W1.heap.size from by have:=H.out.2.2.2.2;omega));have hown:(Value.slice A2 (cB N E).length c2).ownBlock≠some (w.heap.size+1):=fun e=>by
  have:=(own2.lt _ e).1;have:=H.out.2.2.2.2;omega
 have H2:=aI6 i2 bb2 (H.out.1.below b2) own2 hown (H.out.2.1.upd (upF b2) id);have hzz:w.heap.size+2≤w2.heap.size:=by have:=H.out.2.2.2.2;omega
 clear i2 b2 bb2 own2 hown q0 q1 hz2;rw[hn2];have HN2:=hIz hn2;clear hn2;go_wp2_with fail;go_loopw [5,11] (fun _ i wr=>∃k:Nat,k≤n2∧i=.int .i64 k∧Hid (Below (w.heap.size+1) w2 wr)∧Hid (Lib.OthersKept 5 (some (w.heap.size+1)) w2 wr)∧Hid (IsB wr (w.heap.size+1) (((cB N E).take k).flatMap eC))) (fun _ i _=>n2-(intOf i).toNat)
 case atStart=>exact⟨0,Nat.zero_le _,rfl,hIz bR,hIz (Lib.OthersKept.refl _ _ _),hIz (by simpa using H2.out.1)⟩
 case round =>
  obtain⟨k,hk,rfl,hb,ho,hi⟩:=hrel;by_cases hlt:k<n2
  ·have hltI:(k:Int)<(n2:Int):=by omega
   have hkw:IntKind.i64.wrap ((k:Int)+1)=(k:Int)+1:=IntWalk.i64_in _ (by omega);obtain⟨s,hx⟩:∃x,(cB N E)[k]?=some x:=⟨(cB N E)[k]'(by rw[HN2.out];exact hlt),gEz _⟩;have ow:=IJ H2.out.2.2.2.1 ho.out H2.out.2.2.2.2.1;have rw2:=aX.of_own ow;obtain⟨ab,ao,rfl,x0⟩:=rw2.txt hx;have hsz:s.size≤16:=HS.out.n s (gI (mG hx));have a1:=lR s ⟨#[32,59,10]⟩ (by show s.size+3≤1000;omega);have hll:(((cB N E).take k).flatMap eC).length≤k*19:=by
    have:=kL (f:=eC) (c:=19) (l:=(cB N E).take k) (fun x hx=>mW (HS.out.n x (gI (List.mem_of_mem_take hx))));have h3:((cB N E).take k).length≤k:=by rw[List.length_take];omega
    exact Nat.le_trans this (Nat.mul_le_mul_right _ h3)
   have hcon:=MN wr (w.heap.size+1) _ (s++⟨#[32,59,10]⟩) hi.out (by rw[dM];show _+(s.size+3)≤_;omega) (by have:=hb.out.size;omega);rw[cQ,show(s.data.toList++(⟨#[32,59,10]⟩:Txt).data.toList)=eC s from rfl] at hcon;have htk:((cB N E).take k).flatMap eC++eC s=((cB N E).take (k+1)).flatMap eC:=by rw[dB hx];simp
   rw[htk] at hcon;have HX:=hIz hcon;clear hcon htk hll hx ow rw2;go_wp2_with fail;refine HX.out.mono ?_;rintro e w5 ⟨rfl,i5,b5,o5⟩;have H5:=aI3 (hb.out.trans b5) (ho.out.trans o5) i5;clear i5 b5 o5;go_wp2;go_roundw
   case rel=>exact⟨k+1,by omega,by go_num,hIz H5.out.1,hIz H5.out.2.1,hIz H5.out.2.2⟩
   case measure=>simp[intOf];omega
  ·obtain rfl:k=n2:=by omega
   obtain⟨W4,hW4⟩:∃W,W=wr:=⟨_,rfl⟩;subst hW4;have i4:IsB W4 (w.heap.size+1) ((cB N E).flatMap eC):=by
    have:=hi.out;rw[List.take_of_length_le (by rw[HN2.out];exact Nat.le_refl _)] at this;exact this
   have hll:((cB N E).flatMap eC).length≤32*19:=by
    have:=kL (f:=eC) (c:=19) (l:=cB N E) (fun x hx=>mW (HS.out.n x (gI hx)));rw[HN2.out] at this;exact Nat.le_trans this (Nat.mul_le_mul_right _ hn2')
   have bb4:Below (w.heap.size+1) W1 W4:=by
    exact HBM.out.trans hb.out
   have k4:W4.cell? ⟨w.heap.size,1,none⟩=some (.slice B E.length d):=(bb4.cell (p:=⟨w.heap.size,1,none⟩) (by show w.heap.size<_;omega)).trans (H.out.2.1.cell 1);have q1:=k4;have bw4:Below w.heap.size w W4:=H.out.2.2.1.trans (bb4.mono (by omega));have HI4:=aI4 i4 hll bb4 bw4;have hz4:w.heap.size+2≤W4.heap.size:=Nat.le_trans hzz hb.out.size;clear i4 hll bb4 bw4 k4 hb ho hi hlt;go_wp2_with fail;clear q1;go_loopw [7,22] (fun _ i wr=>∃k:Nat,k≤E.length∧i=.int .i64 k∧Hid (Below (w.heap.size+1) W4 wr)∧Hid (IsB wr (w.heap.size+1) ((cB N E).flatMap eC++(E.take k).flatMap iH))) (fun _ i _=>E.length-(intOf i).toNat)
   case atStart=>exact⟨0,Nat.zero_le _,rfl,hIz bR,hIz (by simpa using HI4.out.1)⟩
   case round =>
    obtain⟨k,hk,rfl,hb,hi⟩:=hrel;by_cases hlt:k<E.length
    ·have hltI:(k:Int)<(E.length:Int):=by omega
     have hkw:IntKind.i64.wrap ((k:Int)+1)=(k:Int)+1:=IntWalk.i64_in _ (by omega);obtain⟨⟨s0,s1,s2⟩,hx⟩:∃x,E[k]?=some x:=⟨E[k],gEz _⟩;obtain⟨ab,ao,rfl,hab⟩:=HB.out k _ hx;obtain⟨ab',ao',e,y0,y1,y2⟩:=H.out.1.re.ed hx;injection e with e;injection e with e e2;subst e;subst e2;dsimp only at y0 y1 y2
     have bz:=HI4.out.2.2.1.trans hb.out;have cc:=fun i=>bz.cell (p:=⟨ab,i,none⟩) (by show ab<_;omega)
     have x0:=(cc _).trans y0;have x1:=(cc _).trans y1;have x2:=(cc _).trans y2;have hsz:=HS.out.e _ (mG hx);dsimp only at hsz
     have hll:(((cB N E).flatMap eC)++(E.take k).flatMap iH).length≤32*19+256*53:=by
      have h2:=HI4.out.2.1;have:=kL (f:=iH) (c:=53) (l:=E.take k) (fun x hx=>xQ (HS.out.e x (List.mem_of_mem_take hx)));have h3:(E.take k).length≤256:=by rw[List.length_take];omega
      have h4:=Nat.le_trans this (Nat.mul_le_mul_right _ h3);rw[List.length_append];omega
     have kx:=Blk.new wr 88 #[.string s0,.string s1,.string s2];have bx:Below wr.heap.size wr (wr.alloc (.cells #[.string s0,.string s1,.string s2] 88)):=bR.alloc (Nat.le_refl _) _;have ix:=hi.out.alloc (.cells #[.string s0,.string s1,.string s2] 88);have hzr:=hb.out.size;have HX:=aI4 hx kx (hb.out.trans (bx.mono (by omega))) ix;have hzx:(wr.alloc (.cells #[.string s0,.string s1,.string s2] 88)).heap.size=wr.heap.size+1:=by simp
     clear hx kx bx ix y0 y1 y2 cc bz;go_upto_region 10 with (fail);generalize wr.alloc (.cells #[.string s0,.string s1,.string s2] 88)=W5 at HX hzx ⊢;clear x0 x1 x2;have x0:W5.cell? ⟨wr.heap.size,0,none⟩=some (.string s0):=HX.out.2.1.cell 0;have x1:W5.cell? ⟨wr.heap.size,1,none⟩=some (.string s1):=HX.out.2.1.cell 1;have x2:W5.cell? ⟨wr.heap.size,2,none⟩=some (.string s2):=HX.out.2.1.cell 2;obtain⟨t0,ht0⟩:∃t,s0++(⟨#[32]⟩:Txt)=t:=⟨_,rfl⟩;have z0:t0.size=s0.size+1:=by rw[← ht0,dM];rfl
     obtain⟨t1,ht1⟩:∃t,t0++s1=t:=⟨_,rfl⟩;have z1:t1.size=t0.size+s1.size:=by rw[← ht1,dM]
     obtain⟨t2,ht2⟩:∃t,t1++(⟨#[32]⟩:Txt)=t:=⟨_,rfl⟩;have z2:t2.size=t1.size+1:=by rw[← ht2,dM];rfl
     obtain⟨t3,ht3⟩:∃t,t2++s2=t:=⟨_,rfl⟩;have z3:t3.size=t2.size+s2.size:=by rw[← ht3,dM]
     obtain⟨t4,ht4⟩:∃t,t3++(⟨#[32,59,10]⟩:Txt)=t:=⟨_,rfl⟩;have z4:t4.size=t3.size+3:=by rw[← ht4,dM];rfl
     have hdat:t4.data.toList=iH ⟨s0,s1,s2⟩:=by
      rw[← ht4,cQ,← ht3,cQ,← ht2,cQ,← ht1,cQ,← ht0,cQ];rfl
     have a0:=lR s0 ⟨#[32]⟩ (by show s0.size+1≤1000;omega);have a1:=lR t0 s1 (by omega);have a2:=lR t1 ⟨#[32]⟩ (by show t1.size+1≤1000;omega);have a3:=lR t2 s2 (by omega);have a4:=lR t3 ⟨#[32,59,10]⟩ (by show t3.size+3≤1000;omega);rw[ht0] at a0;rw[ht1] at a1;rw[ht2] at a2;rw[ht3] at a3;rw[ht4] at a4;have hcon:=MN W5 (w.heap.size+1) _ t4 HX.out.2.2.2 (by omega) (by omega);have htk:(cB N E).flatMap eC++(E.take k).flatMap iH++t4.data.toList=(cB N E).flatMap eC++(E.take (k+1)).flatMap iH:=by rw[dB HX.out.1,hdat];simp
     rw[htk] at hcon;have HC:=hIz hcon;clear hcon htk hll ht0 ht1 ht2 ht3 ht4 z0 z1 z2 z3 z4 hdat hsz;go_wp2_with fail;refine HC.out.mono ?_;rintro e w6 ⟨rfl,i6,b6,-⟩;have H6:=aI2 (HX.out.2.2.1.trans b6) i6;clear i6 b6;go_wp2;go_roundw
     case rel=>exact⟨k+1,by omega,by go_num,hIz H6.out.1,hIz H6.out.2⟩
     case measure=>simp[intOf];omega
    ·obtain rfl:k=E.length:=by omega
     have hcon:=NM wr (w.heap.size+1) _ hi.out (by have:=hb.out.size;omega);rw[List.take_length] at hcon;have HC:=hIz hcon;have bwr:=HI4.out.2.2.2.trans (hb.out.mono (by omega));have HW:=hIz bwr;clear hcon bwr;go_wp2_with fail;refine HC.out.mono ?_;rintro e w6 ⟨rfl,b6⟩;have FIN:=hIz (HW.out.trans (b6.mono (by omega)));clear b6;go_wp2;go_ret;exact⟨rfl,FIN.out⟩
open Go.Shelf
def zI:Go.Shelf.Ren:=⟨fun | 0=>0 | 1=>1 | 2=>2 | 41=>138 | 43=>139 | 53=>137 | 59=>191 | 63=>164 | 64=>91 | 68=>205 | 70=>185 | 71=>186 | 72=>187 | 73=>188 | 74=>189 | 75=>190 | 76=>192 | 77=>193 | 78=>130 | 79=>131 | 88=>202 | 89=>159 | 90=>160 | 91=>203 | 92=>204 | 96=>230 | 98=>243 | 99=>244 | 100=>245 | 101=>246 | 102=>247 | 103=>248 | 104=>249 | 105=>250 | 106=>251 | 107=>252 | 108=>253 | 109=>254 | 110=>255 | 111=>257 | 112=>258 | 113=>276 | n=>n,fun | 0=>0 | 1=>1 | 2=>2 | 3=>3 | 4=>4 | 5=>5 | 6=>6 | 7=>7 | 8=>8 | 9=>9 | 10=>10 | 11=>11 | 12=>12 | 13=>13 | 14=>14 | 15=>15 | 16=>16 | 17=>17 | 18=>18 | 19=>19 | 20=>20 | 21=>21 | 22=>25 | 23=>9 | 24=>86 | 28=>186 | 32=>219 | 36=>218 | 44=>98 | 51=>183 | 52=>279 | 53=>78 | 56=>255 | 57=>182 | 59=>276 | 60=>209 | 61=>210 | 62=>277 | 63=>278 | 64=>280 | 65=>281 | 66=>215 | 67=>216 | 68=>217 | 69=>162 | 75=>248 | 76=>249 | 77=>250 | 78=>289 | 79=>252 | 80=>290 | 83=>274 | 84=>76 | 85=>307 | 87=>228 | 88=>317 | 89=>318 | 90=>319 | 91=>320 | 92=>321 | 93=>49 | 94=>322 | 95=>323 | 96=>324 | 97=>256 | 98=>325 | 99=>326 | 100=>327 | 101=>328 | 102=>282 | n=>n,fun n=>n⟩
theorem IL:SlLaysE.n43 Tryz.prog zI:={
 mixed:=(by kernel_rfl)
 f43:=⟨Tryz.f139.name,by decide,Tryz.func139.trans (congrArg some (by kernel_rfl))⟩
 t0:=Tryz.underlying0
 a0:=Tryz.isAgg0
 z0:=Tryz.sizeOf0
 v0:=Tryz.zeroValue0
 t3:=Tryz.underlying3
 a3:=Tryz.isAgg3
 z3:=Tryz.sizeOf3
 v3:=Tryz.zeroValue3
 t4:=Tryz.underlying4
 a4:=Tryz.isAgg4
 z4:=Tryz.sizeOf4
 v4:=Tryz.zeroValue4
 t22:=Tryz.underlying25
 a22:=Tryz.isAgg25
 z22:=Tryz.sizeOf25
 v22:=Tryz.zeroValue25
 a23:=Tryz.isAgg9
 z23:=Tryz.sizeOf9 }
open Go.Shelf
def tL:Go.Shelf.Ren:=⟨fun | 0=>0 | 1=>1 | 2=>2 | 6=>180 | 11=>93 | 14=>200 | 15=>91 | 16=>205 | 18=>132 | 20=>214 | 21=>215 | 22=>216 | 23=>217 | 24=>218 | 25=>219 | 26=>220 | 27=>221 | 28=>130 | 29=>131 | 46=>234 | 47=>159 | 48=>160 | 49=>235 | 50=>236 | 57=>241 | 60=>243 | 61=>244 | 62=>245 | 63=>246 | 64=>247 | 65=>248 | 66=>249 | 67=>250 | 68=>251 | 69=>252 | 70=>253 | 71=>254 | 72=>255 | 73=>257 | 74=>258 | 75=>276 | n=>n,fun | 0=>0 | 1=>1 | 2=>2 | 3=>3 | 4=>4 | 5=>5 | 6=>6 | 7=>7 | 8=>8 | 9=>9 | 10=>10 | 11=>11 | 12=>12 | 13=>13 | 14=>14 | 15=>15 | 16=>16 | 17=>17 | 18=>18 | 19=>19 | 20=>20 | 21=>21 | 22=>25 | 23=>271 | 24=>9 | 25=>145 | 26=>219 | 27=>42 | 29=>160 | 37=>287 | 38=>182 | 39=>183 | 40=>78 | 42=>159 | 44=>297 | 45=>209 | 46=>210 | 47=>298 | 48=>299 | 49=>300 | 50=>98 | 51=>301 | 52=>215 | 53=>216 | 54=>217 | 55=>162 | 66=>248 | 67=>249 | 68=>250 | 69=>310 | 70=>252 | 71=>311 | 76=>274 | 77=>76 | 78=>315 | 81=>228 | 82=>317 | 83=>318 | 84=>319 | 85=>320 | 86=>321 | 87=>49 | 88=>322 | 89=>323 | 90=>324 | 91=>256 | 92=>325 | 93=>326 | 94=>327 | 95=>328 | 96=>282 | n=>n,fun n=>n⟩
theorem TG:SlLaysF.n6 Tryz.prog tL:={
 mixed:=(by kernel_rfl)
 f6:=⟨Tryz.f180.name,by decide,Tryz.func180.trans (congrArg some (by kernel_rfl))⟩
 f14:=⟨Tryz.f200.name,by decide,Tryz.func200.trans (congrArg some (by kernel_rfl))⟩
 f15:=Tryz.func91.trans (congrArg some (by kernel_rfl))
 f20:=⟨Tryz.f214.name,by decide,Tryz.func214.trans (congrArg some (by kernel_rfl))⟩
 f21:=⟨Tryz.f215.name,by decide,Tryz.func215.trans (congrArg some (by kernel_rfl))⟩
 f22:=⟨Tryz.f216.name,by decide,Tryz.func216.trans (congrArg some (by kernel_rfl))⟩
 f23:=⟨Tryz.f217.name,by decide,Tryz.func217.trans (congrArg some (by kernel_rfl))⟩
 f24:=⟨Tryz.f218.name,by decide,Tryz.func218.trans (congrArg some (by kernel_rfl))⟩
 f25:=⟨Tryz.f219.name,by decide,Tryz.func219.trans (congrArg some (by kernel_rfl))⟩
 f26:=⟨Tryz.f220.name,by decide,Tryz.func220.trans (congrArg some (by kernel_rfl))⟩
 f27:=⟨Tryz.f221.name,by decide,Tryz.func221.trans (congrArg some (by kernel_rfl))⟩
 f28:=Tryz.func130.trans (congrArg some (by kernel_rfl))
 f29:=Tryz.func131.trans (congrArg some (by kernel_rfl))
 f46:=⟨Tryz.f234.name,by decide,Tryz.func234.trans (congrArg some (by kernel_rfl))⟩
 f47:=Tryz.func159.trans (congrArg some (by kernel_rfl))
 f48:=Tryz.func160.trans (congrArg some (by kernel_rfl))
 f49:=⟨Tryz.f235.name,by decide,Tryz.func235.trans (congrArg some (by kernel_rfl))⟩
 f50:=⟨Tryz.f236.name,by decide,Tryz.func236.trans (congrArg some (by kernel_rfl))⟩
 f57:=⟨Tryz.f241.name,by decide,Tryz.func241.trans (congrArg some (by kernel_rfl))⟩
 t0:=Tryz.underlying0
 a0:=Tryz.isAgg0
 z0:=Tryz.sizeOf0
 v0:=Tryz.zeroValue0
 t3:=Tryz.underlying3
 a3:=Tryz.isAgg3
 z3:=Tryz.sizeOf3
 v3:=Tryz.zeroValue3
 t4:=Tryz.underlying4
 a4:=Tryz.isAgg4
 z4:=Tryz.sizeOf4
 v4:=Tryz.zeroValue4
 t5:=Tryz.underlying5
 a5:=Tryz.isAgg5
 z5:=Tryz.sizeOf5
 v5:=Tryz.zeroValue5
 t9:=Tryz.underlying9
 a9:=Tryz.isAgg9
 z9:=Tryz.sizeOf9
 v9:=Tryz.zeroValue9
 t22:=Tryz.underlying25
 a22:=Tryz.isAgg25
 z22:=Tryz.sizeOf25
 v22:=Tryz.zeroValue25
 a24:=Tryz.isAgg9
 z24:=Tryz.sizeOf9
 t25:=Tryz.underlying145
 a25:=Tryz.isAgg145
 z25:=Tryz.sizeOf145
 v25:=Tryz.zeroValue145
 t39:=Tryz.underlying183
 a39:=Tryz.isAgg183
 z39:=Tryz.sizeOf183
 v39:=Tryz.zeroValue183
 t45:=Tryz.underlying209
 a45:=Tryz.isAgg209
 z45:=Tryz.sizeOf209
 v45:=Tryz.zeroValue209
 t46:=Tryz.underlying210
 a46:=Tryz.isAgg210
 z46:=Tryz.sizeOf210
 v46:=Tryz.zeroValue210
 t50:=Tryz.underlying98
 a50:=Tryz.isAgg98
 z50:=Tryz.sizeOf98
 v50:=Tryz.zeroValue98
 t53:=Tryz.underlying216
 a53:=Tryz.isAgg216
 z53:=Tryz.sizeOf216
 v53:=Tryz.zeroValue216
 t55:=Tryz.underlying162
 a55:=Tryz.isAgg162
 z55:=Tryz.sizeOf162
 v55:=Tryz.zeroValue162
 t66:=Tryz.underlying248
 a66:=Tryz.isAgg248
 z66:=Tryz.sizeOf248
 v66:=Tryz.zeroValue248
 t70:=Tryz.underlying252
 a70:=Tryz.isAgg252
 z70:=Tryz.sizeOf252
 v70:=Tryz.zeroValue252
 t76:=Tryz.underlying274
 a76:=Tryz.isAgg274
 z76:=Tryz.sizeOf274
 v76:=Tryz.zeroValue274
 t77:=Tryz.underlying76
 a77:=Tryz.isAgg76
 z77:=Tryz.sizeOf76
 v77:=Tryz.zeroValue76 }
theorem QR:SlLaysF0.n6 Tryz.prog tL:={
 mixed:=(by kernel_rfl)
 f6:=⟨Tryz.f180.name,by decide,Tryz.func180.trans (congrArg some (by kernel_rfl))⟩
 f14:=⟨Tryz.f200.name,by decide,Tryz.func200.trans (congrArg some (by kernel_rfl))⟩
 f15:=Tryz.func91.trans (congrArg some (by kernel_rfl))
 f20:=⟨Tryz.f214.name,by decide,Tryz.func214.trans (congrArg some (by kernel_rfl))⟩
 f21:=⟨Tryz.f215.name,by decide,Tryz.func215.trans (congrArg some (by kernel_rfl))⟩
 f22:=⟨Tryz.f216.name,by decide,Tryz.func216.trans (congrArg some (by kernel_rfl))⟩
 f23:=⟨Tryz.f217.name,by decide,Tryz.func217.trans (congrArg some (by kernel_rfl))⟩
 f24:=⟨Tryz.f218.name,by decide,Tryz.func218.trans (congrArg some (by kernel_rfl))⟩
 f25:=⟨Tryz.f219.name,by decide,Tryz.func219.trans (congrArg some (by kernel_rfl))⟩
 f26:=⟨Tryz.f220.name,by decide,Tryz.func220.trans (congrArg some (by kernel_rfl))⟩
 f27:=⟨Tryz.f221.name,by decide,Tryz.func221.trans (congrArg some (by kernel_rfl))⟩
 f28:=Tryz.func130.trans (congrArg some (by kernel_rfl))
 f29:=Tryz.func131.trans (congrArg some (by kernel_rfl))
 f46:=⟨Tryz.f234.name,by decide,Tryz.func234.trans (congrArg some (by kernel_rfl))⟩
 f47:=Tryz.func159.trans (congrArg some (by kernel_rfl))
 f48:=Tryz.func160.trans (congrArg some (by kernel_rfl))
 f49:=⟨Tryz.f235.name,by decide,Tryz.func235.trans (congrArg some (by kernel_rfl))⟩
 f50:=⟨Tryz.f236.name,by decide,Tryz.func236.trans (congrArg some (by kernel_rfl))⟩
 f57:=⟨Tryz.f241.name,by decide,Tryz.func241.trans (congrArg some (by kernel_rfl))⟩
 t0:=Tryz.underlying0
 a0:=Tryz.isAgg0
 z0:=Tryz.sizeOf0
 v0:=Tryz.zeroValue0
 t3:=Tryz.underlying3
 a3:=Tryz.isAgg3
 z3:=Tryz.sizeOf3
 v3:=Tryz.zeroValue3
 t4:=Tryz.underlying4
 a4:=Tryz.isAgg4
 z4:=Tryz.sizeOf4
 v4:=Tryz.zeroValue4
 t5:=Tryz.underlying5
 a5:=Tryz.isAgg5
 z5:=Tryz.sizeOf5
 v5:=Tryz.zeroValue5
 t9:=Tryz.underlying9
 a9:=Tryz.isAgg9
 z9:=Tryz.sizeOf9
 v9:=Tryz.zeroValue9
 t22:=Tryz.underlying25
 a22:=Tryz.isAgg25
 z22:=Tryz.sizeOf25
 v22:=Tryz.zeroValue25
 t25:=Tryz.underlying145
 a25:=Tryz.isAgg145
 z25:=Tryz.sizeOf145
 v25:=Tryz.zeroValue145
 t39:=Tryz.underlying183
 a39:=Tryz.isAgg183
 z39:=Tryz.sizeOf183
 v39:=Tryz.zeroValue183
 t45:=Tryz.underlying209
 a45:=Tryz.isAgg209
 z45:=Tryz.sizeOf209
 v45:=Tryz.zeroValue209
 t46:=Tryz.underlying210
 a46:=Tryz.isAgg210
 z46:=Tryz.sizeOf210
 v46:=Tryz.zeroValue210
 t50:=Tryz.underlying98
 a50:=Tryz.isAgg98
 z50:=Tryz.sizeOf98
 v50:=Tryz.zeroValue98
 t53:=Tryz.underlying216
 a53:=Tryz.isAgg216
 z53:=Tryz.sizeOf216
 v53:=Tryz.zeroValue216
 t55:=Tryz.underlying162
 a55:=Tryz.isAgg162
 z55:=Tryz.sizeOf162
 v55:=Tryz.zeroValue162
 t66:=Tryz.underlying248
 a66:=Tryz.isAgg248
 z66:=Tryz.sizeOf248
 v66:=Tryz.zeroValue248
 t70:=Tryz.underlying252
 a70:=Tryz.isAgg252
 z70:=Tryz.sizeOf252
 v70:=Tryz.zeroValue252
 t76:=Tryz.underlying274
 a76:=Tryz.isAgg274
 z76:=Tryz.sizeOf274
 v76:=Tryz.zeroValue274
 t77:=Tryz.underlying76
 a77:=Tryz.isAgg76
 z77:=Tryz.sizeOf76
 v77:=Tryz.zeroValue76 }
end Go.Proofs.YteffnejneoocgaaGreatDoor
