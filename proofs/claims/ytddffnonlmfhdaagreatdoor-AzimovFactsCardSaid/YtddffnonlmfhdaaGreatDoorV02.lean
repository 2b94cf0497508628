/- Edges: are all names, all labels? Are all ends among the nodes?; Graphs: hops held one against the other; where a hop stands in a rising list; Graphs: where a hop stands in a rising list (slices.BinarySearchFunc); Edges: the lone nodes; The library's contracts laid at this program: which function, which type bears which number; Edges: the text of a graph; The library's contracts laid at this program: which function, which type bears which number; The library's contracts laid at this program: which function, which type bears which number. -/
import Derived.Test.YtddffnonlmfhdaaGreatDoorV01
import Derived.Shelf.Abstract
import Derived.Shelf.Strings.BuilderK
import Derived.Test.YtddffnonlmfhdaaGreatDoorProg
import Derived.Laws.Concat
import Derived.Shelf.SlicesE.Clone
import Derived.Shelf.SlicesE.Compact
import Derived.Shelf.SlSortCmp.Whole1
import Derived.Shelf.SlSortCmp.NoneTotal
set_option linter.unusedVariables false
set_option linter.unusedSimpArgs false
set_option maxHeartbeats 16000000
set_option maxRecDepth 100000
namespace Go.Proofs.YtddffnonlmfhdaaGreatDoor
open Go.RowKit
def eH(x:Ed):Bool:=dS x.fr&&(gI x.lb&&dS x.to)
def bU(N:List Txt)(E:List Ed):Bool:=N.all dS&&E.all eH
theorem bB{α:Type}{p:α→Bool}{l:List α}{k:Nat}{x:α}(h:l[k]?=some x)(hp:p x=false):l.all p=false:=by
 rw[List.all_eq_false];exact⟨x,mG h,by rw[hp];simp⟩
theorem eZ{α:Type}{p:α→Bool}{l:List α}(h:∀(k:Nat) (x:α),l[k]?=some x→p x=true):l.all p=true:=by
 rw[List.all_eq_true];intro x hx;obtain⟨k,hk⟩:=List.mem_iff_getElem?.1 hx;exact h k x hk

theorem uN(w:World)(A:Option Addr)(c:Nat)(B:Option Addr)(d:Nat)(N:List Txt)(E:List Ed)(h:lB w A c B d N E) :
  Calls Tryz.prog 90 #[cP A N.length c B E.length d] w (Sam w (.bool (bU N E))):=by
 have k0:=Blk.new w 34 #[.slice A N.length c,.slice B E.length d];have u0:Below w.heap.size w (w.alloc (.cells #[.slice A N.length c,.slice B E.length d] 34)):=bR.alloc (Nat.le_refl _) _;have hn:N.length≤140737488355328:=by have:=h.fit.n;omega
 have hd:E.length≤140737488355328:=by have:=h.fit.e;omega
 have HA:=aI2 h.fit.tn h.fit.te;have H:=aI3 (h.below u0) k0 u0;clear h k0 u0;unfold cP;go_enter Tryz.func90,Tryz.ntmps90;go_upto_region 1 with (fail);generalize w.alloc (.cells #[.slice A N.length c,.slice B E.length d] 34)=W0 at H ⊢;have q0:W0.cell? ⟨w.heap.size,0,none⟩=some (.slice A N.length c):=H.out.2.1.cell 0;have q1:W0.cell? ⟨w.heap.size,1,none⟩=some (.slice B E.length d):=H.out.2.1.cell 1;go_wp2_with fail;go_loop [4,10] (fun _ i=>∃k:Nat,k≤N.length∧i=.int .i64 k∧Hid (∀j,j<k→∀x,N[j]?=some x→dS x=true)) (fun _ i=>N.length-(intOf i).toNat)
 case atStart=>exact⟨0,Nat.zero_le _,rfl,hIz (fun j hj=>by omega)⟩
 case round =>
  obtain⟨k,hk,rfl,hall⟩:=hrel;by_cases hlt:k<N.length
  ·have hltI:(k:Int)<(N.length:Int):=by omega
   have hkw:IntKind.i64.wrap ((k:Int)+1)=(k:Int)+1:=IntWalk.i64_in _ (by omega);obtain⟨x,hx⟩:∃x,N[k]?=some x:=⟨N[k],gEz _⟩;obtain⟨ab,ao,rfl,x0⟩:=H.out.1.rn.txt hx;have hcon:=fun w=>lE x w (HA.out.1 x (mG hx))
   obtain⟨b,hb⟩:∃b,dS x=b:=⟨_,rfl⟩;rw[hb] at hcon;have HX:=aI2 hx hb;clear hx hb;cases b
   ·go_wp2_with fail;refine(hcon _).mono ?_;rintro e w' ⟨rfl,rfl⟩;go_wp2;go_ret;refine⟨iK ?_,H.out.2.2⟩;rw[bU,bB HX.out.1 HX.out.2,Bool.false_and]
   ·go_wp2_with fail;refine(hcon _).mono ?_;rintro e w' ⟨rfl,rfl⟩;go_wp2;go_round
    case rel=>exact⟨k+1,by omega,by go_num,hIz (fun j hj y hy=>by
     rcases Nat.lt_succ_iff_lt_or_eq.1 hj with h|rfl
     ·exact hall.out j h y hy
     ·rw[HX.out.1] at hy;injection hy with hy;rw[← hy];exact HX.out.2)⟩
    case measure=>simp[intOf];omega
  ·obtain rfl:k=N.length:=by omega
   have hN:N.all dS=true:=eZ (fun j x hx=>hall.out j (gO.1 hx).1 x hx);have HN:=hIz hN;clear hN hall hk hlt;go_wp2_with fail;clear q0 q1;go_loopw [6,21] (fun _ i wr=>∃k:Nat,k≤E.length∧i=.int .i64 k∧Hid (Below W0.heap.size W0 wr)∧Hid (∀j,j<k→∀x,E[j]?=some x→eH x=true)) (fun _ i _=>E.length-(intOf i).toNat)
   case atStart=>exact⟨0,Nat.zero_le _,rfl,hIz bR,hIz (fun j hj=>by omega)⟩
   case round =>
    obtain⟨k,hk,rfl,hb,hall⟩:=hrel;by_cases hlt:k<E.length
    ·have hltI:(k:Int)<(E.length:Int):=by omega
     have hkw:IntKind.i64.wrap ((k:Int)+1)=(k:Int)+1:=IntWalk.i64_in _ (by omega);obtain⟨⟨s0,s1,s2⟩,hx⟩:∃x,E[k]?=some x:=⟨E[k],gEz _⟩;obtain⟨ab,ao,rfl,x0,x1,x2⟩:=(H.out.1.below hb.out).re.ed hx;dsimp only at x0 x1 x2
     have hok:=HA.out.2 _ (mG hx);have c0:=fun w=>lE s0 w hok.1
     have c1:=fun w=>DZ s1 w hok.2.1
     have c2:=fun w=>lE s2 w hok.2.2
     obtain⟨v0,e0⟩:∃b,dS s0=b:=⟨_,rfl⟩;obtain⟨v1,e1⟩:∃b,gI s1=b:=⟨_,rfl⟩;obtain⟨v2,e2⟩:∃b,dS s2=b:=⟨_,rfl⟩;rw[e0] at c0;rw[e1] at c1;rw[e2] at c2;have hv:eH ⟨s0,s1,s2⟩=(v0&&(v1&&v2)):=by rw[eH,e0,e1,e2]
     have kx:=Blk.new wr 32 #[.string s0,.string s1,.string s2];have bx:Below wr.heap.size wr (wr.alloc (.cells #[.string s0,.string s1,.string s2] 32)):=bR.alloc (Nat.le_refl _) _;have HX:=aI4 hx hv kx (tHn hb.out bx);clear hx hok e0 e1 e2 hv kx bx;go_upto_region 10 with (fail);generalize wr.alloc (.cells #[.string s0,.string s1,.string s2] 32)=W1 at HX ⊢;clear x0 x1 x2;have x0:W1.cell? ⟨wr.heap.size,0,none⟩=some (.string s0):=HX.out.2.2.1.cell 0;have x1:W1.cell? ⟨wr.heap.size,1,none⟩=some (.string s1):=HX.out.2.2.1.cell 1;have x2:W1.cell? ⟨wr.heap.size,2,none⟩=some (.string s2):=HX.out.2.2.1.cell 2;go_wp2_with fail;refine(c0 _).mono ?_;rintro e w' ⟨rfl,rfl⟩;cases v0
     ·go_wp2;go_ret;refine⟨iK ?_,tHn H.out.2.2 HX.out.2.2.2⟩;rw[bU,bB (p:=eH) HX.out.1 HX.out.2.1,Bool.and_false]
     ·go_wp2_with fail;refine(c1 _).mono ?_;rintro e w' ⟨rfl,rfl⟩;cases v1
      ·go_wp2;go_ret;refine⟨iK ?_,tHn H.out.2.2 HX.out.2.2.2⟩;rw[bU,bB (p:=eH) HX.out.1 HX.out.2.1,Bool.and_false]
      ·go_wp2_with fail;refine(c2 _).mono ?_;rintro e w' ⟨rfl,rfl⟩;cases v2
       ·go_wp2;go_ret;refine⟨iK ?_,tHn H.out.2.2 HX.out.2.2.2⟩;rw[bU,bB (p:=eH) HX.out.1 HX.out.2.1,Bool.and_false]
       ·go_wp2;go_roundw
        case rel=>exact⟨k+1,by omega,by go_num,hIz HX.out.2.2.2,hIz (fun j hj y hy=>by
         rcases Nat.lt_succ_iff_lt_or_eq.1 hj with h|rfl
         ·exact hall.out j h y hy
         ·rw[HX.out.1] at hy;injection hy with hy;rw[← hy];exact HX.out.2.1)⟩
        case measure=>simp[intOf];omega
    ·obtain rfl:k=E.length:=by omega
     go_wp2;go_ret;refine⟨iK ?_,tHn H.out.2.2 hb.out⟩;rw[bU,HN.out,Bool.true_and];exact(eZ (fun j x hx=>hall.out j (gO.1 hx).1 x hx)).symm

def kvN(N:List Txt):Nat→List (Value × Value)
 | 0=>[]
 | k+1=>match N[k]? with
  | some s=>kvN N k++[(.string s,.int .i64 ((k:Int)+1))]
  | none=>kvN N k
theorem mD(N:List Txt):∀k,∀q∈kvN N k,∃(i:Nat) (s:Txt),i<k∧N[i]?=some s∧q=(.string s,.int .i64 ((i:Int)+1))
 | 0,q,h=>by simp[kvN] at h
 | k+1,q,h=>by
  unfold kvN at h;cases hx:N[k]? with
  | none =>
   rw[hx] at h;obtain⟨i,s,h1,h2,h3⟩:=mD N k q h;exact⟨i,s,by omega,h2,h3⟩
  | some s =>
   rw[hx] at h;rcases List.mem_append.1 h with h|h
   ·obtain⟨i,s,h1,h2,h3⟩:=mD N k q h;exact⟨i,s,by omega,h2,h3⟩
   ·exact⟨k,s,by omega,hx,List.mem_singleton.1 h⟩
theorem EC(N:List Txt):∀k (i:Nat) (s:Txt),i<k→N[i]?=some s→((.string s,.int .i64 ((i:Int)+1)):Value × Value)∈kvN N k
 | 0,_,_,h,_=>by omega
 | k+1,i,s,h,hi=>by
  unfold kvN;by_cases e:i=k
  ·subst e;rw[hi];simp
  ·have:=EC N k i s (by omega) hi;cases N[k]? with
   | none=>exact this
   | some _=>exact List.mem_append.2 (.inl this)
theorem fY:Maps.Keyed Tryz.prog 9:=Maps.string_keyed Tryz.underlying9
theorem mE{s:Txt}(hs:eP s):∃l,keyOf Tryz.prog 9 (.string s)=some l:=by
 have h:s.size≤maxLen:=hs;simp[keyOf,mapKey,Tryz.underlying9,h]
def inB(s:Txt)(N:List Txt):Bool:=N.any fun t=>decide (t=s)
theorem bE{s:Txt}{N:List Txt}:inB s N=true↔s∈N:=by
 unfold inB;rw[List.any_eq_true];constructor
 ·rintro⟨t,h,e⟩;rw[of_decide_eq_true e] at h;exact h
 ·intro h;exact⟨s,h,by simp⟩
theorem PP{N:List Txt}(hN:upB ltT N=true){k:Nat}{s:Txt}(hs:N[k]?=some s):∀q∈kvN N k,q.1≠.string s:=by
 intro q hq e;obtain⟨i,t,hi,ht,rfl⟩:=mD N k q hq;simp only[Value.string.injEq] at e
 subst e;have h:=eY eX hN;have h1:=List.pairwise_iff_getElem.1 h i k (gO.1 ht).1 (gO.1 hs).1 hi;rw[(gO.1 ht).2,(gO.1 hs).2,eX.irr] at h1;cases h1
theorem uO{w:World}{r:Nat}{N:List Txt}(h:dH w Tryz.prog 9 r (kvN N N.length))(s:Txt)(hk:eP s) :
  ∃v:Int,(Instr.lookup 105 (.map (some r)) (.string s) false).run Tryz.prog w=.ok (.int .i64 v) w∧((v==0)=!inB s N)∧0≤v:=by
 by_cases hs:s∈N
 ·obtain⟨i,hi⟩:=List.mem_iff_getElem?.1 hs;refine⟨(i:Int)+1,h.look_hit fY Tryz.underlying105 (EC N N.length i s (gO.1 hi).1 hi) false,?_,by omega⟩;rw[bE.2 hs];simp
  omega
 ·refine⟨0,h.look_miss fY Tryz.underlying105 (mE hk) (fun q hq e=>?_) (by kernel_rfl) false,by rw[show inB s N=false from by cases e:inB s N;rfl;exact(hs (bE.1 e)).elim];rfl,by omega⟩;obtain⟨i,t,hi,ht,rfl⟩:=mD N N.length q hq;simp only[Value.string.injEq] at e
  subst e;exact hs (mG ht)
def fP(N:List Txt)(x:Ed):Bool:=inB x.fr N&&inB x.to N
def fZ(N:List Txt)(E:List Ed):Bool:=upB ltT N&&(upB ltE E&&E.all (fP N))

theorem KL(w:World)(A:Option Addr)(c:Nat)(B:Option Addr)(d:Nat)(N:List Txt)(E:List Ed)(h:lB w A c B d N E) :
  Calls Tryz.prog 89 #[cP A N.length c B E.length d] w (Sam w (.bool (fZ N E))):=by
 have k0:=Blk.new w 34 #[.slice A N.length c,.slice B E.length d];have u0:Below w.heap.size w (w.alloc (.cells #[.slice A N.length c,.slice B E.length d] 34)):=bR.alloc (Nat.le_refl _) _;have hn:N.length≤140737488355328:=by have:=h.fit.n;omega
 have hd:E.length≤140737488355328:=by have:=h.fit.e;omega
 have HA:=aI3 h.fit h.hc h.hd;have H:=aI3 (h.below u0) k0 u0;clear h k0 u0;obtain⟨v0,e0⟩:∃b,upB ltT N=b:=⟨_,rfl⟩;obtain⟨v1,e1⟩:∃b,upB ltE E=b:=⟨_,rfl⟩;have HE:=aI2 e0 e1;clear e0 e1;unfold cP;go_enter Tryz.func89,Tryz.ntmps89;go_upto_region 1 with (fail);generalize w.alloc (.cells #[.slice A N.length c,.slice B E.length d] 34)=W0 at H ⊢;have q0:W0.cell? ⟨w.heap.size,0,none⟩=some (.slice A N.length c):=H.out.2.1.cell 0;have q1:W0.cell? ⟨w.heap.size,1,none⟩=some (.slice B E.length d):=H.out.2.1.cell 1;go_wp2_with fail;refine(BO W0 A c N H.out.1.rn HA.out.2.1 HA.out.1.n).mono ?_;rintro e w1 ⟨rfl,b1⟩;rw[HE.out.1];have k1:=H.out.2.1.upd (upF b1) id;clear q0 q1;have q0:w1.cell? ⟨w.heap.size,0,none⟩=some (.slice A N.length c):=k1.cell 0;have q1:w1.cell? ⟨w.heap.size,1,none⟩=some (.slice B E.length d):=k1.cell 1;have H1:=aI3 (H.out.1.below b1) k1 (tHn H.out.2.2 b1);clear k1 b1;cases v0
 ·go_wp2;go_ret;refine⟨iK ?_,H1.out.2.2⟩;rw[fZ,HE.out.1,Bool.false_and]
 go_wp2_with fail;refine(EB w1 B d E H1.out.1.re HA.out.2.2 HA.out.1.e).mono ?_;rintro e w2 ⟨rfl,b2⟩;rw[HE.out.2];have k2:=H1.out.2.1.upd (upF b2) id;clear q0 q1;have q0:w2.cell? ⟨w.heap.size,0,none⟩=some (.slice A N.length c):=k2.cell 0;have H2:=aI3 (H1.out.1.below b2) k2 (tHn H1.out.2.2 b2);clear k2 b2;cases v1
 ·go_wp2;go_ret;refine⟨iK ?_,H2.out.2.2⟩;rw[fZ,HE.out.1,HE.out.2];rfl
 have hmm:=@run_makeMap Tryz.prog;clear q0;go_upto_region 4 with (fail);have m3:=dH.made w2 Tryz.prog 9;have b3:Below w2.heap.size w2 (w2.alloc (.map #[] 0)):=bR.alloc (Nat.le_refl _) _;have k3:=H2.out.2.1.upd (upF b3) id;have H3:=aI4 (H2.out.1.below b3) k3 (tHn H2.out.2.2 b3) m3;have hr1:w.heap.size<w2.heap.size:=H2.out.2.1.lt;clear b3 m3 k3 hmm;generalize w2.alloc (.map #[] 0)=W3 at H3 ⊢;have q0:W3.cell? ⟨w.heap.size,0,none⟩=some (.slice A N.length c):=H3.out.2.1.cell 0;go_wp2_with fail;clear q0;have HA2:=hIz (show ∀b o s,A=some ⟨b,o,s⟩→N≠[]→b<w2.heap.size from fun b o s e hne=>by
  obtain⟨x,hx⟩:=List.exists_mem_of_ne_nil N hne;obtain⟨i,hi⟩:=List.mem_iff_getElem?.1 hx;obtain⟨b',o',e',hc⟩:=H2.out.1.rn.txt hi;rw[e] at e';injection e' with e';injection e' with e' _ _;subst e';exact World.block_lt_of_cell? w2 _ hc)
 have HB2:=hIz (show ∀b o s,B=some ⟨b,o,s⟩→E≠[]→b<w2.heap.size from fun b o s e hne=>by
  obtain⟨x,hx⟩:=List.exists_mem_of_ne_nil E hne;obtain⟨i,hi⟩:=List.mem_iff_getElem?.1 hx;obtain⟨b',o',e',hc,-,-⟩:=H2.out.1.re.ed hi;rw[e] at e';injection e' with e';injection e' with e' _ _;subst e';exact World.block_lt_of_cell? w2 _ hc)
 go_loopw [4,5,22] (fun _ _ i wr=>∃k:Nat,k≤N.length∧i=.int .i64 k∧Hid (Upd (fun q=>q=w2.heap.size) W3 wr)∧Hid (dH wr Tryz.prog 9 w2.heap.size (kvN N k))) (fun _ _ i _=>N.length-(intOf i).toNat)
 case atStart=>exact⟨0,Nat.zero_le _,rfl,hIz (Upd.refl _ _),hIz H3.out.2.2.2⟩
 case round =>
  obtain⟨k,hk,rfl,hu,hm⟩:=hrel;by_cases hlt:k<N.length
  ·have hltI:(k:Int)<(N.length:Int):=by omega
   have hkw:IntKind.i64.wrap ((k:Int)+1)=(k:Int)+1:=IntWalk.i64_in _ (by omega);obtain⟨x,hx⟩:∃x,N[k]?=some x:=⟨N[k],gEz _⟩;obtain⟨ab,ao,rfl,y0⟩:=H3.out.1.rn.txt hx;have hab:=HA2.out ab ao none rfl (fun e=>by rw[e] at hx;simp at hx);have x0:wr.cell? ⟨ab,ao+k,none⟩=some (.string x):=(hu.out.cell (p:=⟨ab,ao+k,none⟩) (World.block_lt_of_cell? W3 _ y0) (by show ¬ab=_;omega)).trans y0;obtain⟨w5,hrun,hm5,hg5,hz5⟩:=hm.out.put_miss fY Tryz.underlying105 (.int .i64 ((k:Int)+1)) (mE (HA.out.1.tn x (mG hx))) (PP HE.out.1 hx);have hkv:kvN N (k+1)=kvN N k++[(.string x,.int .i64 ((k:Int)+1))]:=by rw[kvN,hx]
   rw[← hkv] at hm5;have HX:=aI2 hm5 (hu.out.trans (Upd.of_grown hg5) (fun i e=>.inl (by injection e with e;exact e.symm)));clear y0 hx hm5 hg5 hz5 hkv;go_wp2;go_roundw
   case rel=>exact⟨k+1,by omega,by go_num,hIz HX.out.2,hIz HX.out.1⟩
   case measure=>simp[intOf];omega
  ·obtain rfl:k=N.length:=by omega
   have k4:=H3.out.2.1.upd hu.out (by omega);have q1:wr.cell? ⟨w.heap.size,1,none⟩=some (.slice B E.length d):=k4.cell 1;have bw4:Below w.heap.size w wr:=H3.out.2.2.1.trans (hu.out.below (fun q _ e=>by omega) H3.out.2.2.1.size);have re4:∀(j:Nat) (x:Ed),E[j]?=some x→∃b o,B=some ⟨b,o,none⟩∧b<wr.heap.size∧wr.cell? ⟨b,o+j*3,none⟩=some (.string x.fr)∧wr.cell? ⟨b,o+j*3+1,none⟩=some (.string x.lb)∧wr.cell? ⟨b,o+j*3+2,none⟩=some (.string x.to):=fun j x hx=>by
    obtain⟨bb,bo,e,y0,y1,y2⟩:=H3.out.1.re.ed hx;have hbb:=HB2.out bb bo none e (fun e=>by rw[e] at hx;simp at hx);have hlt3:=World.block_lt_of_cell? W3 _ y0;have cc:=fun i=>hu.out.cell (p:=⟨bb,i,none⟩) hlt3 (by show ¬bb=_;omega)
    exact⟨bb,bo,e,Nat.lt_of_lt_of_le hlt3 hu.out.size,(cc _).trans y0,(cc _).trans y1,(cc _).trans y2⟩
   have H4:=aI2 bw4 re4;clear k4 bw4 re4 hk hlt hu;obtain⟨W4,hW4⟩:∃W,W=wr:=⟨_,rfl⟩;subst hW4;go_wp2_with fail;clear q1;go_loopw [7,35] (fun _ i wz=>∃k:Nat,k≤E.length∧i=.int .i64 k∧Hid (Below W4.heap.size W4 wz)∧Hid (∀j,j<k→∀x,E[j]?=some x→fP N x=true)) (fun _ i _=>E.length-(intOf i).toNat)
   case atStart=>exact⟨0,Nat.zero_le _,rfl,hIz bR,hIz (fun j hj=>by omega)⟩
   case round =>
    obtain⟨k,hk,rfl,hb,hall⟩:=hrel;by_cases hlt:k<E.length
    ·have hltI:(k:Int)<(E.length:Int):=by omega
     have hkw:IntKind.i64.wrap ((k:Int)+1)=(k:Int)+1:=IntWalk.i64_in _ (by omega);obtain⟨⟨s0,s1,s2⟩,hx⟩:∃x,E[k]?=some x:=⟨E[k],gEz _⟩;obtain⟨ab,ao,rfl,hlt4,y0,y1,y2⟩:=H4.out.2 k _ hx;dsimp only at y0 y1 y2
     have cc:=fun i=>hb.out.cell (p:=⟨ab,i,none⟩) hlt4
     have x0:=(cc _).trans y0;have x1:=(cc _).trans y1;have x2:=(cc _).trans y2;have kx:=Blk.new wr 32 #[.string s0,.string s1,.string s2];have bx:Below wr.heap.size wr (wr.alloc (.cells #[.string s0,.string s1,.string s2] 32)):=bR.alloc (Nat.le_refl _) _;have b5:=tHn hb.out bx;have hm5:=hm.out.upd (upF b5) id;have HX:=aI4 hx kx b5 hm5;clear hx y0 y1 y2 cc kx bx b5 hm5;go_upto_region 12 with (fail);generalize wr.alloc (.cells #[.string s0,.string s1,.string s2] 32)=W5 at HX ⊢;clear x0 x1 x2;have x0:W5.cell? ⟨wr.heap.size,0,none⟩=some (.string s0):=HX.out.2.1.cell 0;have x2:W5.cell? ⟨wr.heap.size,2,none⟩=some (.string s2):=HX.out.2.1.cell 2;obtain⟨v0,l0,h0,-⟩:=uO HX.out.2.2.2 s0 ((HA.out.1.te _ (mG HX.out.1)).1);obtain⟨v1,l1,h1,-⟩:=uO HX.out.2.2.2 s2 ((HA.out.1.te _ (mG HX.out.1)).2.2);obtain⟨i0,e0⟩:∃b,inB s0 N=b:=⟨_,rfl⟩;obtain⟨i1,e1⟩:∃b,inB s2 N=b:=⟨_,rfl⟩;rw[e0] at h0;rw[e1] at h1;have hv:fP N ⟨s0,s1,s2⟩=(i0&&i1):=by rw[fP,e0,e1]
     have HV:=hIz hv;clear e0 e1 hv;have fin:w.heap.size≤W4.heap.size:=H4.out.1.size;cases i0
     ·simp only[Bool.not_false] at h0
      go_wp2;go_ret;refine⟨iK ?_,tHn H4.out.1 HX.out.2.2.1⟩;rw[fZ,HE.out.1,HE.out.2,bB (p:=fP N) HX.out.1 HV.out];rfl
     ·simp only[Bool.not_true] at h0
      cases i1
      ·simp only[Bool.not_false] at h1
       go_wp2;go_ret;refine⟨iK ?_,tHn H4.out.1 HX.out.2.2.1⟩;rw[fZ,HE.out.1,HE.out.2,bB (p:=fP N) HX.out.1 HV.out];rfl
      ·simp only[Bool.not_true] at h1
       go_wp2;go_roundw
       case rel=>exact⟨k+1,by omega,by go_num,hIz HX.out.2.2.1,hIz (fun j hj y hy=>by
        rcases Nat.lt_succ_iff_lt_or_eq.1 hj with h|rfl
        ·exact hall.out j h y hy
        ·rw[HX.out.1] at hy;injection hy with hy;rw[← hy];exact HV.out)⟩
       case measure=>simp[intOf];omega
    ·obtain rfl:k=E.length:=by omega
     go_wp2;go_ret;refine⟨iK ?_,tHn H4.out.1 hb.out⟩;rw[fZ,HE.out.1,HE.out.2,eZ (p:=fP N) (fun j x hx=>hall.out j (gO.1 hx).1 x hx)];rfl
open Go.RowKit
structure Hp where
 lb:Txt
 nd:Int
deriving DecidableEq
def Hp.cells(x:Hp):List Value:=[.string x.lb,.int .i64 x.nd]
def Hp.agg(x:Hp):Value:=.agg #[.string x.lb,.int .i64 x.nd]
def ED(a b:Int):Int:=if a<b then -1 else if b<a then 1 else 0
def or2(a b:Int):Int:=if a≠0 then a else b
def OM(x y:Hp):Int:=or2 (kZ x.lb y.lb) (ED x.nd y.nd)
def ltH(x y:Hp):Bool:=if x.lb=y.lb then decide (x.nd<y.nd) else ltT x.lb y.lb
theorem EE{a b:Int}:ED a b=0↔a=b:=by
 unfold ED;split
 ·constructor
  ·intro h;cases h
  ·rintro rfl;omega
 ·split
  ·constructor
   ·intro h;cases h
   ·rintro rfl;omega
  ·constructor
   ·intro _;omega
   ·intro _;rfl
theorem PQ(a b:Int):decide (ED a b<0)=decide (a<b):=by
 unfold ED;by_cases h:a<b
 ·rw[if_pos h,decide_eq_true h];rfl
 ·rw[if_neg h,decide_eq_false h];split <;> rfl
theorem PR(x y:Hp):decide (OM x y<0)=ltH x y:=by
 unfold OM or2 ltH;by_cases h:x.lb=y.lb
 ·rw[if_neg (by simp[fJ,h]),if_pos h];exact PQ _ _
 ·rw[if_pos (by simpa[fJ] using h),if_neg h];exact jG _ _
theorem EF{x y:Hp}:OM x y=0↔x=y:=by
 obtain⟨a,n⟩:=x;obtain⟨b,m⟩:=y;unfold OM or2;dsimp only
 by_cases h:kZ a b=0
 ·rw[if_neg (by simpa using h),EE];rw[fJ] at h;subst h;simp
 ·rw[if_pos h];constructor
  ·intro h2;exact(h h2).elim
  ·intro h2;injection h2 with h2 h3;exact(h (fJ.2 h2)).elim
theorem KM:Sto ltH where
 irr:=fun a=>by simp[ltH]
 tr:=fun a b c h k=>by
  unfold ltH at h k ⊢;by_cases h1:a.lb=b.lb
  ·rw[if_pos h1] at h;by_cases h2:b.lb=c.lb
   ·rw[if_pos h2] at k;rw[if_pos (h1.trans h2)];simp at h k ⊢
    omega
   ·rw[if_neg h2] at k;rw[if_neg (by rw[h1];exact h2),h1];exact k
  ·rw[if_neg h1] at h;by_cases h2:b.lb=c.lb
   ·rw[if_neg (by rw[← h2];exact h1),← h2];exact h
   ·rw[if_neg h2] at k;have h3:=eX.tr _ _ _ h k;rw[if_neg (eX.ne h3)];exact h3
 tri:=fun a b h k=>by
  obtain⟨s,n⟩:=a;obtain⟨t,m⟩:=b;unfold ltH at h k;dsimp only at h k
  by_cases h1:s=t
  ·subst h1;simp at h k
   have:n=m:=by omega
   rw[this]
  ·rw[if_neg h1] at h;rw[if_neg (fun e=>h1 e.symm)] at k;exact(h1 (eX.tri _ _ h k)).elim

theorem uP(x:Int)(w:World):Calls Tryz.prog 163 #[.int .i64 x] w (kK w (.bool false)):=by
 go_enter Tryz.func163,Tryz.ntmps163;go_wp2;go_ret;exact⟨by simp,rfl⟩
theorem KN(x y:Int)(w:World):Calls Tryz.prog 127 #[.int .i64 x,.int .i64 y] w (kK w (.int .i64 (ED x y))):=by
 obtain⟨r,hr⟩:∃r,ED x y=r:=⟨_,rfl⟩;rw[hr];have HR:=hIz hr;clear hr;go_enter Tryz.func127,Tryz.ntmps127;go_wp2_with fail;refine(uP x w).mono ?_;rintro e w' ⟨rfl,hw⟩;subst w';go_wp2_with fail;refine(uP y w).mono ?_;rintro e w' ⟨rfl,hw⟩;subst w';by_cases h1:x<y
 ·have HE:=hIz (show(-1:Int)=r by rw[← HR.out,ED,if_pos h1]);go_wp2;go_ret;exact⟨by rw[← HE.out];rfl,rfl⟩
 by_cases h2:y<x
 ·have HE:=hIz (show(1:Int)=r by rw[← HR.out,ED,if_neg h1,if_pos h2]);go_wp2;go_ret;exact⟨by rw[← HE.out];rfl,rfl⟩
 ·have HE:=hIz (show(0:Int)=r by rw[← HR.out,ED,if_neg h1,if_neg h2]);go_wp2;go_ret;exact⟨by rw[← HE.out];rfl,rfl⟩
theorem PS(w:World)(g:Nat)(a b:Int)(h:Blk w g 3 #[.int .i64 a,.int .i64 b]) :
  Calls Tryz.prog 126 #[.slice (some ⟨g,0,none⟩) 2 2] w (kK w (.int .i64 (or2 a b))):=by
 have key:∀x,or2 a b=x→Calls Tryz.prog 126 #[.slice (some ⟨g,0,none⟩) 2 2] w (kK w (.int .i64 x)):=by
  intro x hx;have c0:w.cell? ⟨g,0,none⟩=some (.int .i64 a):=h.cell 0;have c1:w.cell? ⟨g,1,none⟩=some (.int .i64 b):=h.cell 1;clear h;have HX:=hIz hx;clear hx;go_enter Tryz.func126,Tryz.ntmps126;go_wp2_with fail;go_loop [5,8] (fun _ i=>∃k:Nat,k≤2∧i=.int .i64 k∧Hid ((1≤k→a=0)∧(2≤k→b=0))) (fun _ i=>2-(intOf i).toNat)
  case atStart=>exact⟨0,by omega,rfl,hIz ⟨by omega,by omega⟩⟩
  case round =>
   obtain⟨k,hk,rfl,hz⟩:=hrel;have hk4:k=0∨k=1∨k=2:=by omega
   rcases hk4 with rfl|rfl|rfl
   ·by_cases ha:a=0
    ·have HA:=hIz ha;have e:(a==0)=true:=by simpa using ha
     go_wp2;go_round
     case rel=>exact⟨1,by omega,rfl,hIz ⟨fun _=>HA.out,by omega⟩⟩
     case measure=>simp[intOf]
    ·have HA:=hIz ha;go_wp2;go_ret;refine⟨?_,rfl⟩;rw[← HX.out,or2,if_pos HA.out];rfl
   ·by_cases ha:b=0
    ·have HA:=hIz ha;go_wp2;go_round
     case rel=>exact⟨2,by omega,rfl,hIz ⟨fun _=>hz.out.1 (by omega),fun _=>HA.out⟩⟩
     case measure=>simp[intOf]
    ·have HA:=hIz ha;go_wp2;go_ret;refine⟨?_,rfl⟩;rw[← HX.out,or2,if_neg (by simp[hz.out.1 (by omega)])];rfl
   ·go_wp2;go_ret;refine⟨?_,rfl⟩;rw[← HX.out,or2,if_neg (by simp[hz.out.1 (by omega)]),hz.out.2 (by omega)];rfl
 exact key _ rfl
theorem uQ(x y:Hp)(w:World):Calls Tryz.prog 88 #[x.agg,y.agg] w (Sam w (.int .i64 (OM x y))):=by
 obtain⟨a0,a1⟩:=x;obtain⟨b0,b1⟩:=y;unfold OM;dsimp only
 obtain⟨v0,e0⟩:∃v,kZ a0 b0=v:=⟨_,rfl⟩;obtain⟨v1,e1⟩:∃v,ED a1 b1=v:=⟨_,rfl⟩;have H0:=fun W=>eG a0 b0 W
 have H1:=fun W=>KN a1 b1 W
 rw[e0] at H0 ⊢;rw[e1] at H1 ⊢;clear e0 e1;have k0:=(Blk.new w 103 #[.string a0,.int .i64 a1]).alloc (.cells #[.string b0,.int .i64 b1] 103);have k1:=Blk.new (w.alloc (.cells #[.string a0,.int .i64 a1] 103)) 103 #[.string b0,.int .i64 b1];simp only[World.size_alloc] at k1
 have bb:Below w.heap.size w ((w.alloc (.cells #[.string a0,.int .i64 a1] 103)).alloc (.cells #[.string b0,.int .i64 b1] 103)):=by(repeat (first | exact Below.refl _ _ | apply Below.drew | refine Below.alloc ?_ (by first | exact Nat.le_refl _ | (simp;done) | (simp;omega)) _ | refine Below.setCell ?_ (by first | exact Nat.le_refl _ | (simp;done) | (simp;omega)) _))
 have HK:=aI3 k0 k1 bb;clear k0 k1 bb;unfold Hp.agg;dsimp only
 go_enter Tryz.func88,Tryz.ntmps88;go_upto_region 1 with (fail);generalize (w.alloc (.cells #[.string a0,.int .i64 a1] 103)).alloc (.cells #[.string b0,.int .i64 b1] 103)=W0 at HK ⊢;have UP:=hIz (show ∀W,Below W0.heap.size W0 W→W.cell? ⟨w.heap.size,0,none⟩=some (.string a0)∧W.cell? ⟨w.heap.size,1,none⟩=some (.int .i64 a1)∧W.cell? ⟨w.heap.size+1,0,none⟩=some (.string b0)∧W.cell? ⟨w.heap.size+1,1,none⟩=some (.int .i64 b1) from fun W hb=>by
  have u:=Upd.of_below hb (fun _=>False);have h1:=HK.out.1.upd u id;have h2:=HK.out.2.1.upd u id;exact⟨h1.cell 0,h1.cell 1,h2.cell 0,h2.cell 1⟩)
 have HB0:=hIz (show Below W0.heap.size W0 W0.drew from bR.drew);have hS:=UP.out _ HB0.out;refine aF (fun W=>W.cell? ⟨w.heap.size,0,none⟩=some (.string a0)∧W.cell? ⟨w.heap.size,1,none⟩=some (.int .i64 a1)∧W.cell? ⟨w.heap.size+1,0,none⟩=some (.string b0)∧W.cell? ⟨w.heap.size+1,1,none⟩=some (.int .i64 b1)) 13 [(0,true),(1,true),(2,true),(3,true),(5,true),(6,true),(7,true),(8,true),(4,false),(9,false),(10,false),(11,false),(12,true)] hS ?_;generalize W0.drew=W1 at HB0 hS ⊢
 iterate 8 refine aC rfl ?_
 refine aN rfl rfl (fun K hK=>?_);go_simp;refine(H0 _).mono ?_;rintro e w1 ⟨rfl,hw⟩;subst w1;refine hK _ _ (fun _=>hS) ?_;clear hK K;(try simp only[Act.put,gA,gS,gZ,sA,sZ,sS])
 refine aN rfl rfl (fun K hK=>?_);go_simp;refine(H1 _).mono ?_;rintro e w1 ⟨rfl,hw⟩;subst w1;refine hK _ _ (fun _=>hS) ?_;clear hK K;(try simp only[Act.put,gA,gS,gZ,sA,sZ,sS])
 have kA:=Blk.new W1 3 #[.int .i64 v0,.int .i64 v1];have bA:=HB0.out.alloc HB0.out.size (.cells #[.int .i64 v0,.int .i64 v1] 3);have HA:=aI2 (PS _ _ v0 v1 kA) bA;clear kA bA;refine aN rfl rfl (fun K hK=>?_);go_simp;refine hK _ _ (fun _=>UP.out _ HA.out.2) ?_;clear hK K;(try simp only[Act.put,gA,gS,gZ,sA,sZ,sS])
 generalize W1.alloc (.cells #[.int .i64 v0,.int .i64 v1] 3)=W2 at HA ⊢;refine aN rfl rfl (fun K hK=>?_);go_simp;refine HA.out.1.mono ?_;rintro e w1 ⟨rfl,hw⟩;subst w1;have FIN:=hIz (tHn HK.out.2.2 HA.out.2);refine hK _ _ (fun _=>UP.out _ HA.out.2) ?_;clear hK K;(try simp only[Act.put,gA,gS,gZ,sA,sZ,sS])
 refine aC rfl ?_;refine aG ?_;go_wp2;go_ret;exact⟨rfl,FIN.out⟩

def aS(L:List Hp):List Value:=L.flatMap Hp.cells
theorem fB(L:List Hp):(aS L).length=L.length*2:=eC Hp.cells 2 (fun _=>rfl) L
theorem ON(E:List Hp):∀u∈aS E,u.oneCell'=true:=by
 intro u hu;obtain⟨x,_,hx⟩:=List.mem_flatMap.1 hu;simp[Hp.cells] at hx
 rcases hx with rfl|rfl <;> rfl
theorem nI:(Tryz.prog.info? 103).map (fun i=>(i.zero,i.size,i.bytes))=some (some (.agg #[.string ByteArray.empty,.int .i64 0]),2,24):=by kernel_rfl
theorem aU.hp{w:World}{B:Option Addr}{L:List Hp}(h:aU w B (aS L)){k:Nat}{x:Hp}(hk:L[k]?=some x) :
  ∃b o,B=some ⟨b,o,none⟩∧w.cell? ⟨b,o+k*2,none⟩=some (.string x.lb)∧w.cell? ⟨b,o+k*2+1,none⟩=some (.int .i64 x.nd):=by
 have g:=fun j hj=>cW Hp.cells 2 (fun _=>rfl) L k j x hk hj
 obtain⟨b,o,e,y0⟩:=h (k*2+0) _ (g 0 (by decide));obtain⟨b1,o1,e1,y1⟩:=h (k*2+1) _ (g 1 (by decide));rw[e] at e1;injection e1 with e1;injection e1 with e3 e4;subst e3;subst e4;exact⟨b,o,e,y0,by rw[Nat.add_assoc];exact y1⟩
open Go.RowKit
def BP(L:List Hp)(h:Hp):Nat:=L.countP fun x=>ltH x h
theorem PT(L:List Hp)(h:Hp):BP L h≤L.length:=List.countP_le_length
theorem PU{L:List Hp}{h:Hp}(_hup:dK ltH L){i:Nat}(hi:i≤L.length)(h1:∀k x,k<i→L[k]?=some x→ltH x h=true)(h2:∀k x,i≤k→L[k]?=some x→ltH x h=false):BP L h=i:=by
 have e:BP L h=(L.take i).countP (fun x=>ltH x h)+(L.drop i).countP (fun x=>ltH x h):=by
  unfold BP;rw[← List.countP_append,List.take_append_drop]
 have a:(L.take i).countP (fun x=>ltH x h)=(L.take i).length:=by
  rw[List.countP_eq_length];intro x hx;obtain⟨k,hk,rfl⟩:=List.getElem_of_mem hx;rw[List.length_take] at hk;exact h1 k _ (by omega) (by rw[List.getElem_take,gEz])
 have b:(L.drop i).countP (fun x=>ltH x h)=0:=by
  rw[List.countP_eq_zero];intro x hx;obtain⟨k,hk,rfl⟩:=List.getElem_of_mem hx;rw[List.length_drop] at hk;rw[h2 (i+k) _ (by omega) (by rw[List.getElem_drop,gEz])];simp
 rw[e,a,b,List.length_take];omega
theorem xM{L:List Hp}(hup:dK ltH L){i j:Nat}{x y:Hp}(hx:L[i]?=some x)(hy:L[j]?=some y)(hij:i<j):ltH x y=true:=by
 obtain⟨h1,e1⟩:=gO.1 hx;obtain⟨h2,e2⟩:=gO.1 hy;have:=(List.pairwise_iff_getElem.1 hup) i j h1 h2 hij;rwa [e1,e2] at this
theorem EG(w:World)(A:Option Addr)(c:Nat)(L:List Hp)(h:Hp)(hr:aU w A (aS L))(hup:dK ltH L)(hl:L.length*24≤140737488355328) :
  Calls Tryz.prog 87 #[.slice A L.length c,h.agg,.func (.func 88) #[] #[]] w (Sam w (.tuple #[.int .i64 (BP L h),.bool (decide (h∈L))])):=by
 obtain⟨s0,s1⟩:=h;obtain⟨r,hr0⟩:∃r,BP L ⟨s0,s1⟩=r:=⟨_,rfl⟩;obtain⟨b,hb0⟩:∃r,decide ((⟨s0,s1⟩:Hp)∈L)=r:=⟨_,rfl⟩;rw[hr0,hb0];obtain⟨n,hn⟩:∃n,L.length=n:=⟨_,rfl⟩;rw[hn] at hl ⊢;have k0:=Blk.new w 103 #[.string s0,.int .i64 s1];have u0:Below w.heap.size w (w.alloc (.cells #[.string s0,.int .i64 s1] 103)):=bR.alloc (Nat.le_refl _) _;have H:=aI7 (hr.below u0) k0 u0 hup hn hr0 hb0;clear hr k0 u0 hup hn hr0 hb0;have eg:∀args w,(callFunc 88 args).run Tryz.prog w=.ok (.enter 88 args) w:=Go.Proofs.enters_of Tryz.func88 (by kernel_rfl) rfl;unfold Hp.agg;dsimp only
 go_enter Tryz.func87,Tryz.ntmps87;go_upto_region 1 with (fail);generalize w.alloc (.cells #[.string s0,.int .i64 s1] 103)=W0 at H ⊢;go_wp2_with fail;go_loopw [9,10,11] (fun lo hi _ wr=>∃i j:Nat,i≤j∧j≤n∧lo=.int .i64 i∧hi=.int .i64 j∧Hid (Below W0.heap.size W0 wr)∧Hid ((∀k x,k<i→L[k]?=some x→ltH x ⟨s0,s1⟩=true)∧∀k x,j≤k→L[k]?=some x→ltH x ⟨s0,s1⟩=false)) (fun lo hi _ _=>(intOf hi).toNat-(intOf lo).toNat)
 case atStart=>exact⟨0,n,Nat.zero_le _,Nat.le_refl _,rfl,rfl,hIz bR,hIz ⟨fun k x hk=>by omega,fun k x hk hx=>by have:=(gO.1 hx).1;have:=H.out.2.2.2.2.1;omega⟩⟩
 case round =>
  obtain⟨i,j,hij,hjn,rfl,rfl,hbw,hs⟩:=hrel;by_cases hlt:i<j
  ·have hltI:(i:Int)<(j:Int):=by omega
   obtain⟨k,hk⟩:∃k,(i+j) / 2=k:=⟨_,rfl⟩;have hq:((i:Int)+(j:Int)) / 2=(k:Int):=by rw[← hk];omega
   have hkj:k<j:=by omega
   have hik:i≤k:=by omega
   have hkn:k<n:=by omega
   have hknI:(k:Int)<(n:Int):=by omega
   have hw2:IntKind.i64.wrap ((k:Int)+1)=(k:Int)+1:=IntWalk.i64_in _ (by omega);obtain⟨⟨x0,x1⟩,hx⟩:∃x,L[k]?=some x:=⟨L[k]'(by rw[H.out.2.2.2.2.1];exact hkn),gEz _⟩;obtain⟨ab,ao,rfl,y0,y1⟩:=(H.out.1.below hbw.out).hp hx;dsimp only at y0 y1
   obtain⟨v,hv⟩:∃v,OM ⟨x0,x1⟩ ⟨s0,s1⟩=v:=⟨_,rfl⟩;have hcon:=fun W=>uQ ⟨x0,x1⟩ ⟨s0,s1⟩ W
   rw[hv] at hcon;unfold Hp.agg at hcon;dsimp only at hcon
   have hlt2:=PR ⟨x0,x1⟩ ⟨s0,s1⟩;rw[hv] at hlt2;have HX:=aI2 hx hlt2;have HC:=hIz hcon;have SR:=hIz (show ∀W,Below W0.heap.size W0 W→W.cell? ⟨w.heap.size,0,none⟩=some (.string s0)∧W.cell? ⟨w.heap.size,1,none⟩=some (.int .i64 s1)∧W.cell? ⟨ab,ao+k*2,none⟩=some (.string x0)∧W.cell? ⟨ab,ao+k*2+1,none⟩=some (.int .i64 x1) from fun W hb=>by
    have kb:=H.out.2.1.upd (upF hb) id;obtain⟨b',o',e,z0,z1⟩:=(H.out.1.below hb).hp HX.out.1;injection e with e;injection e with e1 e2;subst e1;subst e2;exact⟨kb.cell 0,kb.cell 1,z0,z1⟩)
   have hS:=SR.out _ hbw.out.drew;clear hx hlt2 hcon hv hk y0 y1;go_upto_region 5 with (fail);refine aF (fun W=>W.cell? ⟨w.heap.size,0,none⟩=some (.string s0)∧W.cell? ⟨w.heap.size,1,none⟩=some (.int .i64 s1)∧W.cell? ⟨ab,ao+k*2,none⟩=some (.string x0)∧W.cell? ⟨ab,ao+k*2+1,none⟩=some (.int .i64 x1)) 8 [(0,true),(1,true),(2,true),(3,true),(4,true),(5,true),(6,false),(7,true)] hS ?_
   iterate 6 refine aC rfl ?_
   refine aN rfl rfl (fun K hK=>?_);go_simp;refine(HC.out wr.drew).mono ?_;rintro e W5 ⟨rfl,b5⟩;have HB5:=hIz (hbw.out.drew.trans (b5.mono hbw.out.size));refine hK _ _ (fun _=>SR.out _ HB5.out) ?_;clear hK K hS b5;(try simp only[Act.put,gA,gS,gZ,sA,sZ,sS])
   by_cases hv0:v<0
   ·have hlx:ltH ⟨x0,x1⟩ ⟨s0,s1⟩=true:=by rw[← HX.out.2];simpa using hv0
    have HL:=hIz hlx;clear hlx;refine aC rfl ?_;refine aG ?_;go_wp2;go_roundw
    case rel=>exact⟨k+1,j,by omega,hjn,by go_num,rfl,HB5,hIz ⟨fun k' x' hk' hx'=>by
      rcases Nat.lt_succ_iff_lt_or_eq.1 hk' with h|rfl
      ·exact KM.tr _ _ _ (xM H.out.2.2.2.1 hx' HX.out.1 h) HL.out
      ·rw[HX.out.1] at hx';injection hx' with e;rw[← e];exact HL.out,hs.out.2⟩⟩
    case measure=>simp[intOf];omega
   ·have hlx:ltH ⟨x0,x1⟩ ⟨s0,s1⟩=false:=by rw[← HX.out.2];simpa using hv0
    have HL:=hIz hlx;clear hlx;refine aC rfl ?_;refine aG ?_;go_wp2;go_roundw
    case rel=>exact⟨i,k,hik,by omega,rfl,rfl,HB5,hIz ⟨hs.out.1,fun k' x' hk' hx'=>by
      rcases Nat.lt_or_eq_of_le hk' with h|rfl
      ·cases e:ltH x' ⟨s0,s1⟩
       ·rfl
       ·have:=KM.tr _ _ _ (xM H.out.2.2.2.1 HX.out.1 hx' h) e;rw[HL.out] at this;cases this
      ·rw[HX.out.1] at hx';injection hx' with e;rw[← e];exact HL.out⟩⟩
    case measure=>simp[intOf];omega
  ·obtain rfl:i=j:=by omega
   have hri:r=i:=by
    rw[← H.out.2.2.2.2.2.1];exact PU H.out.2.2.2.1 (by rw[H.out.2.2.2.2.1];exact hjn) hs.out.1 hs.out.2
   subst hri;obtain⟨W2,hW2⟩:∃W,W=wr:=⟨_,rfl⟩;subst hW2;by_cases hin:r<n
   ·have hinI:(r:Int)<(n:Int):=by omega
    obtain⟨⟨x0,x1⟩,hx⟩:∃x,L[r]?=some x:=⟨L[r]'(by rw[H.out.2.2.2.2.1];exact hin),gEz _⟩;obtain⟨ab,ao,rfl,-,-⟩:=(H.out.1.below hbw.out).hp hx;obtain⟨v,hv⟩:∃v,OM ⟨x0,x1⟩ ⟨s0,s1⟩=v:=⟨_,rfl⟩;have hcon:=fun W=>uQ ⟨x0,x1⟩ ⟨s0,s1⟩ W
    rw[hv] at hcon;unfold Hp.agg at hcon;dsimp only at hcon
    have hbv:b=decide (v=0):=by
     rw[← H.out.2.2.2.2.2.2,← hv,Bool.eq_iff_iff,decide_eq_true_iff,decide_eq_true_iff,EF];constructor
     ·intro hm;obtain⟨k,hk,e⟩:=List.getElem_of_mem hm;have hk':L[k]?=some ⟨s0,s1⟩:=by rw[gEz hk,e]
      rcases Nat.lt_trichotomy k r with h|rfl|h
      ·have:=hs.out.1 k _ h hk';rw[KM.irr] at this;cases this
      ·rw[hx] at hk';injection hk'
      ·have h1:=hs.out.2 r _ (Nat.le_refl _) hx;rw[xM H.out.2.2.2.1 hx hk' h] at h1;cases h1
     ·intro e;rw[← e];exact mG hx
    have HX:=aI2 hx hbv;have HC:=hIz hcon;have SR:=hIz (show ∀W,Below W0.heap.size W0 W→W.cell? ⟨w.heap.size,0,none⟩=some (.string s0)∧W.cell? ⟨w.heap.size,1,none⟩=some (.int .i64 s1)∧W.cell? ⟨ab,ao+r*2,none⟩=some (.string x0)∧W.cell? ⟨ab,ao+r*2+1,none⟩=some (.int .i64 x1) from fun W hb=>by
     have kb:=H.out.2.1.upd (upF hb) id;obtain⟨b',o',e,z0,z1⟩:=(H.out.1.below hb).hp HX.out.1;injection e with e;injection e with e1 e2;subst e1;subst e2;exact⟨kb.cell 0,kb.cell 1,z0,z1⟩)
    have hS:=SR.out _ hbw.out.drew;clear hx hbv hcon hv;go_upto_region 8 with (fail);refine aF (fun W=>W.cell? ⟨w.heap.size,0,none⟩=some (.string s0)∧W.cell? ⟨w.heap.size,1,none⟩=some (.int .i64 s1)∧W.cell? ⟨ab,ao+r*2,none⟩=some (.string x0)∧W.cell? ⟨ab,ao+r*2+1,none⟩=some (.int .i64 x1)) 16 [(0,true),(1,true),(2,true),(3,true),(4,true),(5,true),(6,true),(7,true),(8,true),(9,true),(10,true),(11,false),(12,true),(13,true),(14,true),(15,true)] hS ?_
    iterate 11 refine aC rfl ?_
    (refine DU rfl (by first | with_reducible rfl | kernel_rfl) (fun K hK=>?_);go_simp)
    refine(HC.out W2.drew).mono ?_;rintro e W5 ⟨rfl,b5⟩;have HB5:=hIz (hbw.out.drew.trans (b5.mono hbw.out.size));refine hK _ _ (fun _=>SR.out _ HB5.out) ?_;clear hK K hS b5;(try simp only[Act.put,gA,gS,gZ,sA,sZ,sS])
    iterate 4 refine aC rfl ?_
    refine aG ?_;have FIN:=hIz (tHn H.out.2.2.1 HB5.out);have HV:=hIz HX.out.2;go_wp2;refine bodyPost_ret (v:=.tuple #[.int .i64 r,.bool (v==0)]) (by simp[results,Tryz.f87,go_sem]) rfl ⟨?_,FIN.out⟩;rw[HV.out];congr 1
   ·obtain rfl:r=n:=by omega
    have hbf:b=false:=by
     cases b with
     | false=>rfl
     | true =>
      have hm:=of_decide_eq_true H.out.2.2.2.2.2.2;obtain⟨k,hk,e⟩:=List.getElem_of_mem hm;have:=hs.out.1 k _ (by have:=H.out.2.2.2.2.1;omega) (by rw[gEz hk,e]);rw[KM.irr] at this;cases this
    subst hbf;have hS:True:=trivial;have FIN:=hIz (tHn H.out.2.2.1 hbw.out.drew);go_upto_region 8 with (fail);refine aF (fun _=>True) 16 [(0,true),(1,true),(2,true),(3,true),(4,true),(5,true),(6,true),(7,true),(8,true),(9,true),(10,true),(11,false),(12,true),(13,true),(14,true),(15,true)] hS ?_
    iterate 5 refine aC rfl ?_
    iterate 6 (refine eD rfl (by kernel_rfl) ?_;(try simp only[Act.put,gA,gS,gZ,sA,sZ,sS]))
    (refine uH rfl (by kernel_rfl) (by first | assumption | trivial | exact UP.out _ H5.out) ?_;(try simp only[Act.put,gA,gS,gZ,sA,sZ,sS]))
    (refine eD rfl (by kernel_rfl) ?_;(try simp only[Act.put,gA,gS,gZ,sA,sZ,sS]))
    iterate 3 refine aC rfl ?_
    refine aG ?_;go_wp2;refine bodyPost_ret (v:=.tuple #[.int .i64 r,.bool false]) (by simp[results,Tryz.f87,go_sem]) rfl ⟨rfl,FIN.out⟩
open Go.RowKit
def pZ(w:World)(L:List Txt)(e:Ending)(w':World):Prop:=∃v,e=.returned v∧w'.ownsRow w.heap.size 9 1 v L.length (aE L)∧Below w.heap.size w w'
theorem gJ(w:World)(base:Nat)(v:Value)(L:List Txt)(own:w.ownsRow base 9 1 v L.length (aE L))(s:Txt)(hl:(L.length+1)*16≤140737488355328)(hb:base≤w.heap.size) :
  ∃v' w',(Builtin.append_ #[26,26] 26 #[v,.slice (some ⟨w.heap.size,0,none⟩) 1 1]).run Tryz.prog (w.alloc (.cells #[.string s] 9))=.ok v' w'∧w'.ownsRow base 9 1 v' (L++[s]).length (aE (L++[s]))∧Upd (fun k=>v.ownBlock=some k) w w'∧∀k,v.ownBlock=some k→base≤k:=by
 obtain⟨v',w',happ,own',up,-⟩:=dJ w base 26 9 1 16 _ Tryz.underlying26 bI rfl (by decide) v L.length _ own [.string s] 1 rfl (by simp;exact rfl) hl (by unfold maxLen;omega) hb;refine⟨v',w',happ,?_,up,fun k hk=>(own.lt k hk).1⟩;rw[List.length_append,aE,List.map_append];exact own'

structure DT(w:World)(r:Nat)(L:List Txt)(m:Nat):Prop where
 ex:∃kv,dH w Tryz.prog 9 r kv∧(∀q∈kv,∃(s:Txt) (v:Int),q=(.string s,.int .i64 v)∧1≤v∧v≤m∧s∈L)∧∀s∈L,∃v,((.string s,v):Value × Value)∈kv
theorem DT.upd{w w':World}{r m:Nat}{L:List Txt}{F:Nat→Prop}(h:DT w r L m)(hu:Upd F w w')(hF:¬F r):DT w' r L m:=by
 obtain⟨kv,h1,h2,h3⟩:=h.ex;exact⟨kv,h1.upd hu hF,h2,h3⟩
theorem DT.lt{w:World}{r m:Nat}{L:List Txt}(h:DT w r L m):r<w.heap.size:=by
 obtain⟨kv,h1,-⟩:=h.ex;exact h1.lt
theorem DT.look{w:World}{r m:Nat}{L:List Txt}(h:DT w r L m){s:Txt}(hs:eP s) :
  ∃v:Int,(Instr.lookup 105 (.map (some r)) (.string s) false).run Tryz.prog w=.ok (.int .i64 v) w∧((v==0)=!inB s L)∧0≤v∧v≤m:=by
 obtain⟨kv,h1,h2,h3⟩:=h.ex;by_cases hin:s∈L
 ·obtain⟨v,hv⟩:=h3 s hin;obtain⟨t,x,e,hx1,hx2,-⟩:=h2 _ hv;injection e with e1 e2;subst e2;refine⟨x,h1.look_hit fY Tryz.underlying105 hv false,?_,by omega,hx2⟩;rw[bE.2 hin];simp
  omega
 ·refine⟨0,h1.look_miss fY Tryz.underlying105 (mE hs) (fun q hq e=>?_) (by kernel_rfl) false,by rw[show inB s L=false from by cases e:inB s L;rfl;exact(hin (bE.1 e)).elim];rfl,by omega,by omega⟩;obtain⟨t,x,rfl,-,-,ht⟩:=h2 q hq;simp only[Value.string.injEq] at e
  subst e;exact hin ht
theorem DT.step{w:World}{r m:Nat}{L:List Txt}(h:DT w r L m){s:Txt}(hs:eP s){x:Int}(h0:0≤x)(hx:x≤m) :
  ∃w',(Instr.mapUpdate 105 (.map (some r)) (.string s) (.int .i64 (x+1))).run Tryz.prog w=.ok () w'∧DT w' r (s::L) (m+1)∧Upd (fun q=>q=r) w w':=by
 obtain⟨kv,h1,h2,h3⟩:=h.ex;have up:∀{w':World},w.grownBy w' (some r)→Upd (fun q=>q=r) w w':=fun hg=>(Upd.of_grown hg).mono (fun i _ e=>by injection e with e;exact e.symm)
 by_cases hin:∃v,((.string s,v):Value × Value)∈kv
 ·obtain⟨v,hv⟩:=hin;obtain⟨w',j,hr,hj,hm,hg,-⟩:=h1.put_hit fY Tryz.underlying105 (.int .i64 (x+1)) hv;refine⟨w',hr,⟨_,hm,fun q hq=>?_,fun t ht=>?_⟩,up hg⟩
  ·rcases List.mem_or_eq_of_mem_set hq with hq|rfl
   ·obtain⟨t,y,e,a,b,c⟩:=h2 q hq;exact⟨t,y,e,a,by omega,List.mem_cons_of_mem _ c⟩
   ·exact⟨s,x+1,rfl,by omega,by omega,List.mem_cons_self⟩
  ·have hjl:=(gO.1 hj).1;have key:∀y,((.string t,y):Value × Value)∈kv→∃y,((.string t,y):Value × Value)∈kv.set j (.string s,.int .i64 (x+1)):=fun y hy=>by
    obtain⟨i,hi⟩:=List.mem_iff_getElem?.1 hy;by_cases e:j=i
    ·subst e;rw[hj] at hi;injection hi with hi;injection hi with hi _;rw[← hi];exact⟨_,mG (i:=j) (by rw[List.getElem?_set_self hjl])⟩
    ·exact⟨y,mG (i:=i) (by rw[List.getElem?_set_ne e];exact hi)⟩
   rcases List.mem_cons.1 ht with rfl|ht
   ·exact key _ hv
   ·obtain⟨y,hy⟩:=h3 t ht;exact key y hy
 ·obtain⟨w',hr,hm,hg,-⟩:=h1.put_miss fY Tryz.underlying105 (.int .i64 (x+1)) (mE hs) (fun q hq e=>hin ⟨q.2,by rw[← e];exact hq⟩);refine⟨w',hr,⟨_,hm,fun q hq=>?_,fun t ht=>?_⟩,up hg⟩
  ·rcases List.mem_append.1 hq with hq|hq
   ·obtain⟨t,y,e,a,b,c⟩:=h2 q hq;exact⟨t,y,e,a,by omega,List.mem_cons_of_mem _ c⟩
   ·obtain rfl:=List.mem_singleton.1 hq;exact⟨s,x+1,rfl,by omega,by omega,List.mem_cons_self⟩
  ·rcases List.mem_cons.1 ht with rfl|ht
   ·exact⟨_,by simp;exact .inr rfl⟩
   ·obtain⟨y,hy⟩:=h3 t ht;exact⟨y,List.mem_append.2 (.inl hy)⟩

def eJ(E:List Ed):Nat→List Txt
 | 0=>[]
 | k+1=>match E[k]? with
  | some x=>x.to::x.fr::eJ E k
  | none=>eJ E k
theorem BQ{E:List Ed}{k:Nat}{x:Ed}(h:E[k]?=some x):eJ E (k+1)=x.to::x.fr::eJ E k:=by rw[eJ,h]
theorem mF(E:List Ed)(s:Txt):∀k,s∈eJ E k↔∃(i:Nat) (x:Ed),i<k∧E[i]?=some x∧(s=x.fr∨s=x.to)
 | 0=>by simp[eJ]
 | k+1=>by
  have ih:=mF E s k;unfold eJ;cases hx:E[k]? with
  | none =>
   simp only
   rw[ih];constructor
   ·rintro⟨i,x,a,b⟩;exact⟨i,x,by omega,b⟩
   ·rintro⟨i,x,a,b,c⟩;refine⟨i,x,?_,b,c⟩;rcases Nat.lt_succ_iff_lt_or_eq.1 a with a|rfl
    ·exact a
    ·rw[hx] at b;cases b
  | some y =>
   simp only[List.mem_cons]
   rw[ih];constructor
   ·rintro (rfl|rfl|⟨i,x,a,b⟩)
    ·exact⟨k,y,by omega,hx,.inr rfl⟩
    ·exact⟨k,y,by omega,hx,.inl rfl⟩
    ·exact⟨i,x,by omega,b⟩
   ·rintro⟨i,x,a,b,c⟩;rcases Nat.lt_succ_iff_lt_or_eq.1 a with a|rfl
    ·exact .inr (.inr ⟨i,x,a,b,c⟩)
    ·rw[hx] at b;injection b with b;subst b;rcases c with c|c
     ·exact .inr (.inl c)
     ·exact .inl c
def cB(N:List Txt)(E:List Ed):List Txt:=N.filter fun s=>!inB s (eJ E E.length)
def eK(N:List Txt)(E:List Ed)(k:Nat):List Txt:=(N.take k).filter fun s=>!inB s (eJ E E.length)
theorem dL{α:Type}{l:List α}{k:Nat}{x:α}(h:l[k]?=some x):l.take (k+1)=l.take k++[x]:=by
 obtain⟨hk,rfl⟩:=gO.1 h;exact List.take_succ_eq_append_getElem hk
theorem qM{N:List Txt}{E:List Ed}{k:Nat}{s:Txt}(h:N[k]?=some s)(hb:inB s (eJ E E.length)=false):eK N E (k+1)=eK N E k++[s]:=by
 rw[eK,dL h,List.filter_append];simp[hb,eK]
theorem oH{N:List Txt}{E:List Ed}{k:Nat}{s:Txt}(h:N[k]?=some s)(hb:inB s (eJ E E.length)=true):eK N E (k+1)=eK N E k:=by
 rw[eK,dL h,List.filter_append];simp[hb,eK]
theorem qO(N:List Txt)(E:List Ed):eK N E N.length=cB N E:=by rw[eK,List.take_length];rfl
theorem uR(N:List Txt)(E:List Ed)(k:Nat):(eK N E k).length≤k:=Nat.le_trans (List.length_filter_le _ _) (by rw[List.length_take];omega)

theorem KO(w:World)(A:Option Addr)(c:Nat)(B:Option Addr)(d:Nat)(N:List Txt)(E:List Ed)(h:lB w A c B d N E) :
  Calls Tryz.prog 168 #[cP A N.length c B E.length d] w (pZ w (cB N E)):=by
 have k0:=Blk.new w 34 #[.slice A N.length c,.slice B E.length d];have u0:Below w.heap.size w (w.alloc (.cells #[.slice A N.length c,.slice B E.length d] 34)):=bR.alloc (Nat.le_refl _) _;have hn:N.length*16≤140737488355328:=h.fit.n;have hd:E.length≤140737488355328:=by have:=h.fit.e;omega
 have HA:=aI2 h.fit.tn h.fit.te;have H:=aI3 (h.below u0) k0 u0;clear h k0 u0;unfold cP;go_enter Tryz.func168,Tryz.ntmps168;go_upto_region 1 with (fail);generalize w.alloc (.cells #[.slice A N.length c,.slice B E.length d] 34)=W0 at H ⊢;have hmm:=@run_makeMap Tryz.prog;go_upto_region 2 with (fail);have m3:DT (W0.alloc (.map #[] 0)) W0.heap.size [] 0:=⟨[],dH.made W0 Tryz.prog 9,fun q hq=>(by cases hq),fun s hs=>(by cases hs)⟩;have b3:Below W0.heap.size W0 (W0.alloc (.map #[] 0)):=bR.alloc (Nat.le_refl _) _;have k3:=H.out.2.1.upd (upF b3) id;have H3:=aI4 (H.out.1.below b3) k3 (tHn H.out.2.2 b3) m3;have hr1:w.heap.size<W0.heap.size:=H.out.2.1.lt;have HAB:=hIz (show(∀(j:Nat) (x:Ed),E[j]?=some x→∃b o,B=some ⟨b,o,none⟩∧b<W0.heap.size)∧∀(j:Nat) (x:Txt),N[j]?=some x→∃b o,A=some ⟨b,o,none⟩∧b<W0.heap.size from
  ⟨fun j x hx=>by obtain⟨b,o,e,y0,-⟩:=H.out.1.re.ed hx;exact⟨b,o,e,World.block_lt_of_cell? _ _ y0⟩,fun j x hx=>by obtain⟨b,o,e,y0⟩:=H.out.1.rn.txt hx;exact⟨b,o,e,World.block_lt_of_cell? _ _ y0⟩⟩)
 clear b3 m3 k3 hmm;generalize W0.alloc (.map #[] 0)=W3 at H3 ⊢;have q1:W3.cell? ⟨w.heap.size,1,none⟩=some (.slice B E.length d):=H3.out.2.1.cell 1;go_wp2_with fail;clear q1;go_loopw [5,13] (fun _ i wr=>∃k:Nat,k≤E.length∧i=.int .i64 k∧Hid (Upd (fun q=>q=W0.heap.size) W3 wr)∧Hid (DT wr W0.heap.size (eJ E k) (2*k))) (fun _ i _=>E.length-(intOf i).toNat)
 case atStart=>exact⟨0,Nat.zero_le _,rfl,hIz (Upd.refl _ _),hIz H3.out.2.2.2⟩
 case round =>
  obtain⟨k,hk,rfl,hu,hm⟩:=hrel;by_cases hlt:k<E.length
  ·have hltI:(k:Int)<(E.length:Int):=by omega
   have hkw:IntKind.i64.wrap ((k:Int)+1)=(k:Int)+1:=IntWalk.i64_in _ (by omega);obtain⟨⟨s0,s1,s2⟩,hx⟩:∃x,E[k]?=some x:=⟨E[k],gEz _⟩;obtain⟨ab,ao,rfl,hab⟩:=HAB.out.1 k _ hx;obtain⟨ab',ao',e,y0,y1,y2⟩:=H3.out.1.re.ed hx;injection e with e;injection e with e e2;subst e;subst e2;dsimp only at y0 y1 y2
   have hl3:=World.block_lt_of_cell? W3 _ y0;have cc:=fun i=>hu.out.cell (p:=⟨ab,i,none⟩) hl3 (by show ¬ab=_;omega)
   have x0:=(cc _).trans y0;have x1:=(cc _).trans y1;have x2:=(cc _).trans y2;have hok:=HA.out.2 _ (mG hx);have kx:=Blk.new wr 32 #[.string s0,.string s1,.string s2];have ux:Upd (fun q=>q=W0.heap.size) W3 (wr.alloc (.cells #[.string s0,.string s1,.string s2] 32)):=hu.out.alloc _;have mx:=hm.out.upd (Upd.of_below ((Below.refl wr.heap.size wr).alloc (Nat.le_refl _) (.cells #[.string s0,.string s1,.string s2] 32)) (fun _=>False)) id;have hrw:=hm.out.lt;have HX:=aI5 hx hok kx ux mx;clear hx hok kx ux mx y0 y1 y2 cc hl3;go_upto_region 5 with (fail);generalize wr.alloc (.cells #[.string s0,.string s1,.string s2] 32)=W5 at HX ⊢;clear x0 x1 x2;have x0:W5.cell? ⟨wr.heap.size,0,none⟩=some (.string s0):=HX.out.2.2.1.cell 0;obtain⟨v0,l0,-,h0,h0'⟩:=HX.out.2.2.2.2.look (s:=s0) HX.out.2.1.1;have hw0:IntKind.i64.wrap (v0+1)=v0+1:=IntWalk.i64_in _ (by omega);obtain⟨w6,r6,m6,u6⟩:=HX.out.2.2.2.2.step (s:=s0) HX.out.2.1.1 h0 (by omega);have k6:=HX.out.2.2.1.upd u6 (by omega);have H6:=aI2 (HX.out.2.2.2.1.trans u6 (fun i e=>.inl e)) m6;clear m6 u6;have x2:w6.cell? ⟨wr.heap.size,2,none⟩=some (.string s2):=k6.cell 2;obtain⟨v1,l1,-,h1,h1'⟩:=H6.out.2.look (s:=s2) HX.out.2.1.2.2;have hw1:IntKind.i64.wrap (v1+1)=v1+1:=IntWalk.i64_in _ (by omega);obtain⟨w7,r7,m7,u7⟩:=H6.out.2.step (s:=s2) HX.out.2.1.2.2 h1 (by omega);have H7:=aI2 (H6.out.1.trans u7 (fun i e=>.inl e)) m7;clear m7 u7 k6;go_wp2;go_roundw
   case rel=>exact⟨k+1,by omega,by go_num,hIz H7.out.1,hIz (by rw[BQ HX.out.1];exact H7.out.2)⟩
   case measure=>simp[intOf];omega
  ·obtain rfl:k=E.length:=by omega
   obtain⟨W4,hW4⟩:∃W,W=wr:=⟨_,rfl⟩;subst hW4;have k4:=H3.out.2.1.upd hu.out (by omega);have q0:W4.cell? ⟨w.heap.size,0,none⟩=some (.slice A N.length c):=k4.cell 0;have bw4:Below w.heap.size w W4:=H3.out.2.2.1.trans (hu.out.below (fun q _ e=>by omega) H3.out.2.2.1.size);have H4:=aI3 bw4 hu.out hm.out;clear k4 bw4 hk hlt hu hm;go_wp2_with fail;clear q0;go_loopw [6,8,31] (fun v _ i wz=>∃k:Nat,k≤N.length∧i=.int .i64 k∧Hid (Below W4.heap.size W4 wz)∧Hid (wz.ownsRow W4.heap.size 9 1 v (eK N E k).length (aE (eK N E k)))) (fun _ _ i _=>N.length-(intOf i).toNat)
   case atStart=>exact⟨0,Nat.zero_le _,rfl,hIz bR,hIz (World.ownsRow_nil _ _ _ _)⟩
   case round =>
    obtain⟨k,hk,rfl,hb,ho⟩:=hrel;obtain⟨A5,c5,rfl,-,-⟩:=aK ho.out;obtain⟨n5,hn5⟩:∃n5,(eK N E k).length=n5:=⟨_,rfl⟩;have hle:=uR N E k;by_cases hlt:k<N.length
    ·have hltI:(k:Int)<(N.length:Int):=by omega
     have hkw:IntKind.i64.wrap ((k:Int)+1)=(k:Int)+1:=IntWalk.i64_in _ (by omega);obtain⟨s,hx⟩:∃x,N[k]?=some x:=⟨N[k],gEz _⟩;obtain⟨ab,ao,rfl,hab⟩:=HAB.out.2 k _ hx;obtain⟨ab',ao',e,y0⟩:=H3.out.1.rn.txt hx;injection e with e;injection e with e e2;subst e;subst e2;have hl3:=World.block_lt_of_cell? W3 _ y0;have x0:wr.cell? ⟨ab,ao+k,none⟩=some (.string s):=(hb.out.cell (p:=⟨ab,ao+k,none⟩) (Nat.lt_of_lt_of_le hl3 H4.out.2.1.size)).trans ((H4.out.2.1.cell (p:=⟨ab,ao+k,none⟩) hl3 (by show ¬ab=_;omega)).trans y0);obtain⟨v0,l0,hv0,-⟩:=(H4.out.2.2.upd (upF hb.out) id).look (s:=s) (HA.out.1 s (mG hx));obtain⟨b,hbb⟩:∃b,inB s (eJ E E.length)=b:=⟨_,rfl⟩;rw[hbb] at hv0;have HX:=aI2 hx hbb;clear hx hbb y0 hl3;rw[hn5];cases b
     ·simp only[Bool.not_false] at hv0
      obtain⟨v6,w6,happ,own6,u6,hv6⟩:=gJ wr W4.heap.size _ _ ho.out s (by omega) hb.out.size;rw[hn5] at happ;have b6:Below W4.heap.size W4 w6:=hb.out.trans (u6.below (fun q _ e=>hv6 q e) hb.out.size);have H6:=aI2 own6 b6;clear own6 b6 u6 hv6 hn5 hle;go_wp2_with (at_builtin;refine wpList_append_run rfl _ _ _ rfl rfl rfl happ ?_);go_roundw
      case rel=>exact⟨k+1,by omega,by go_num,hIz H6.out.2,hIz (by rw[qM HX.out.1 HX.out.2];exact H6.out.1)⟩
      case measure=>simp[intOf];omega
     ·simp only[Bool.not_true] at hv0
      have HN5:=hIz hn5;clear hn5 hle;go_wp2;go_roundw
      case rel=>exact⟨k+1,by omega,by go_num,hb,hIz (by rw[oH HX.out.1 HX.out.2];have:=ho.out;rw[HN5.out] at this ⊢;exact this)⟩
      case measure=>simp[intOf];omega
    ·obtain rfl:k=N.length:=by omega
     have fin:pZ w (cB N E) (.returned (.slice A5 n5 c5)) wr:=by
      rw[← qO];refine⟨_,rfl,?_,tHn H4.out.1 hb.out⟩;rw[← hn5];exact aQ ho.out (fun q hq=>Nat.le_trans H4.out.1.size (ho.out.lt q hq).1)
     have FIN:=hIz fin;rw[hn5];clear fin hn5 hle;go_wp2;go_ret;exact FIN.out
open Go.Shelf
def jJ:Go.Shelf.Ren:=⟨fun | 0=>0 | 1=>1 | 2=>2 | 106=>80 | 122=>127 | 125=>185 | 128=>209 | 129=>210 | 166=>169 | 169=>170 | 170=>286 | 190=>166 | 194=>167 | 213=>122 | 215=>163 | 240=>189 | 258=>188 | 265=>160 | 276=>220 | 302=>211 | 303=>212 | 304=>213 | 305=>214 | 306=>215 | 307=>216 | 308=>217 | 309=>218 | 310=>219 | 329=>226 | 330=>227 | 333=>230 | 334=>231 | 335=>232 | 336=>233 | 338=>187 | 344=>251 | 347=>260 | 348=>261 | 349=>262 | 350=>263 | 351=>264 | 352=>265 | 353=>266 | 354=>267 | 355=>268 | 356=>269 | 357=>270 | 358=>271 | 359=>272 | 360=>274 | 361=>275 | 362=>287 | 366=>288 | 367=>292 | n=>n,fun | 0=>0 | 1=>1 | 2=>2 | 3=>3 | 4=>4 | 5=>5 | 6=>6 | 7=>7 | 8=>8 | 9=>9 | 10=>10 | 11=>11 | 12=>12 | 13=>13 | 14=>14 | 15=>15 | 16=>16 | 17=>17 | 18=>18 | 19=>19 | 20=>20 | 21=>21 | 22=>289 | 27=>147 | 28=>181 | 31=>26 | 33=>210 | 37=>239 | 41=>212 | 43=>190 | 46=>201 | 47=>260 | 51=>284 | 52=>283 | 53=>166 | 54=>249 | 70=>238 | 71=>240 | 72=>241 | 73=>186 | 74=>242 | 75=>243 | 76=>244 | 77=>245 | 80=>246 | 81=>64 | 100=>237 | 101=>131 | 102=>112 | 103=>110 | 104=>160 | 111=>189 | 112=>194 | 127=>263 | 131=>153 | 135=>262 | 164=>292 | 165=>293 | 182=>277 | 183=>278 | 188=>286 | 189=>287 | 190=>288 | 191=>290 | 192=>291 | 218=>298 | 219=>299 | 220=>300 | 222=>302 | 224=>304 | 225=>305 | 228=>316 | 229=>93 | 231=>318 | 233=>285 | 238=>325 | 239=>326 | 240=>327 | 241=>328 | 242=>329 | 243=>330 | 244=>331 | 245=>332 | 246=>333 | 247=>334 | 248=>335 | 249=>336 | n=>n,fun n=>n⟩
theorem KP:Lays.n166 Tryz.prog jJ:={
 mixed:=(by kernel_rfl)
 f166:=Tryz.func169.trans (congrArg some (by kernel_rfl))
 f240:=Tryz.func189.trans (congrArg some (by kernel_rfl))
 f276:=Tryz.func220.trans (congrArg some (by kernel_rfl))
 t0:=Tryz.underlying0
 a0:=Tryz.isAgg0
 z0:=Tryz.sizeOf0
 v0:=Tryz.zeroValue0
 t3:=Tryz.underlying3
 a3:=Tryz.isAgg3
 z3:=Tryz.sizeOf3
 v3:=Tryz.zeroValue3
 t4:=Tryz.underlying4
 a4:=Tryz.isAgg4
 z4:=Tryz.sizeOf4
 v4:=Tryz.zeroValue4
 t9:=Tryz.underlying9
 a9:=Tryz.isAgg9
 z9:=Tryz.sizeOf9
 v9:=Tryz.zeroValue9
 t20:=Tryz.underlying20
 a20:=Tryz.isAgg20
 z20:=Tryz.sizeOf20
 v20:=Tryz.zeroValue20
 t37:=Tryz.underlying239
 a37:=Tryz.isAgg239
 z37:=Tryz.sizeOf239
 v37:=Tryz.zeroValue239
 t70:=Tryz.underlying238
 a70:=Tryz.isAgg238
 z70:=Tryz.sizeOf238
 v70:=Tryz.zeroValue238
 t72:=Tryz.underlying241
 a72:=Tryz.isAgg241
 z72:=Tryz.sizeOf241
 v72:=Tryz.zeroValue241
 t75:=Tryz.underlying243
 a75:=Tryz.isAgg243
 z75:=Tryz.sizeOf243
 v75:=Tryz.zeroValue243
 t164:=Tryz.underlying292
 a164:=Tryz.isAgg292
 z164:=Tryz.sizeOf292
 v164:=Tryz.zeroValue292 }
theorem WA:Lays.n169 Tryz.prog jJ:={
 mixed:=(by kernel_rfl)
 f169:=Tryz.func170.trans (congrArg some (by kernel_rfl))
 t0:=Tryz.underlying0
 a0:=Tryz.isAgg0
 z0:=Tryz.sizeOf0
 v0:=Tryz.zeroValue0
 t3:=Tryz.underlying3
 a3:=Tryz.isAgg3
 z3:=Tryz.sizeOf3
 v3:=Tryz.zeroValue3
 t9:=Tryz.underlying9
 a9:=Tryz.isAgg9
 z9:=Tryz.sizeOf9
 v9:=Tryz.zeroValue9
 t37:=Tryz.underlying239
 a37:=Tryz.isAgg239
 z37:=Tryz.sizeOf239
 v37:=Tryz.zeroValue239
 t70:=Tryz.underlying238
 a70:=Tryz.isAgg238
 z70:=Tryz.sizeOf238
 v70:=Tryz.zeroValue238
 t72:=Tryz.underlying241
 a72:=Tryz.isAgg241
 z72:=Tryz.sizeOf241
 v72:=Tryz.zeroValue241
 t127:=Tryz.underlying263
 a127:=Tryz.isAgg263
 z127:=Tryz.sizeOf263
 v127:=Tryz.zeroValue263 }
theorem OO:Builder.Extra Tryz.prog jJ:={
 sizeBuilder:=(by kernel_rfl)
 liesBuilder:=(by kernel_rfl)
 t5:=Tryz.underlying5
 a5:=Tryz.isAgg5
 z5:=Tryz.sizeOf5
 v5:=Tryz.zeroValue5
 infoByte:=(by kernel_rfl)
 cellsByte:=(by kernel_rfl)
 sizeByte:=(by kernel_rfl)
 neB5:=(by decide) }
open Go.RowKit
def IsB(w:World)(b:Nat)(l:List UInt8):Prop:=Lib.IsBuilderF 241 5 b b (Lib.byteCells l) w
theorem IsB.alloc{w:World}{b:Nat}{l:List UInt8}(h:IsB w b l)(o:Obj):IsB (w.alloc o) b l:=Lib.IsBuilderF.alloc h o
theorem IsB.below{w w':World}{b:Nat}{l:List UInt8}(h:IsB w b l)(hb:Below w.heap.size w w'):IsB w' b l:=by
 have hg:w.grownBy w' none:=(upF hb).to_grown (fun _ _ e=>e.elim);have key:∀p,Lib.BuilderAtF 241 5 b b p (Lib.byteCells l) w→Lib.BuilderAtF 241 5 b b p (Lib.byteCells l) w':=fun p ⟨h1,v,h2,h3,h4⟩ =>
  ⟨h1,v,(hb.block b (Array.getElem?_eq_some_iff.1 h2).1).trans h2,h3.kept hg (by cases v.ownBlock <;> simp),h4⟩
 exact h.imp (key _) (key _)
theorem IsB.new(w:World):IsB (w.alloc (.cells #[.pointer none,.slice none 0 0] 241)) w.heap.size []:=
 .inl ⟨Nat.le_refl _,.slice none 0 0,heap_alloc_new w _,World.ownsRowF_nil _ _ _ _,by simp[Value.ownBlock]⟩
theorem OP(w:World)(b:Nat)(l:List UInt8)(s:Txt)(h:IsB w b l)(hl:l.length+s.size≤140737488355328)(hb:b≤w.heap.size) :
  Calls Tryz.prog 169 #[.pointer (some ⟨b,0,none⟩),.string s] w fun e w'=>e=.returned (.tuple #[.int .i64 s.size,.nilIface])∧IsB w' b (l++s.data.toList)∧Below b w w'∧Lib.OthersKept 5 (some b) w w':=by
 have hcon:=Any.Builder_WriteString_k KP OO b b (Lib.byteCells l) s w h (by rw[Lib.byteCells_length];exact hl) hb;change Calls Tryz.prog 169 _ _ _ at hcon
 refine hcon.mono ?_;rintro e w' ⟨rfl,h1,h2,h3⟩;refine⟨rfl,.inr ?_,h2,h3⟩;have:Lib.byteCells (l++s.data.toList)=Lib.byteCells l++Lib.strCells s:=by rw[Lib.strCells_eq];simp[Lib.byteCells]
 rw[this];exact h1
theorem PW(w:World)(b:Nat)(l:List UInt8)(h:IsB w b l)(hb:b≤w.heap.size) :
  Calls Tryz.prog 170 #[.pointer (some ⟨b,0,none⟩)] w fun e w'=>e=.returned (.string ⟨l.toArray⟩)∧Below b w w':=by
 have hcon:=Any.Builder_String_any_k WA OO b b l w h hb;change Calls Tryz.prog 170 _ _ _ at hcon
 exact hcon.mono fun e w' hh=>⟨hh.1,hh.2.2.1⟩
theorem KQ{w w':World}{base n b:Nat}{v:Value}{xs:List Value}(h:w.ownsRow base 9 1 v n xs)(hk:Lib.OthersKept 5 (some b) w w')(hb:v.ownBlock≠some b):w'.ownsRow base 9 1 v n xs:=by
 refine⟨h.1,?_⟩;rcases h.2 with h2|⟨g,cap,cur,rfl,h3,hg,r⟩
 ·exact .inl h2
 ·exact .inr ⟨g,cap,cur,rfl,h3,hk g _ hg (fun e=>hb e) (fun c fz e=>by injection e with _ e _;exact absurd e (by decide)),r⟩

def OQ:List UInt8:=[32,59,10]
def eQ(s:Txt):List UInt8:=s.data.toList++OQ
def iL(x:Ed):List UInt8:=x.fr.data.toList++[32]++x.lb.data.toList++[32]++x.to.data.toList++OQ
def kR(N:List Txt)(E:List Ed):List UInt8:=(cB N E).flatMap eQ++E.flatMap iL
structure kL(N:List Txt)(E:List Ed):Prop where
 n:∀s∈N,s.size≤16
 e:∀x∈E,x.fr.size≤16∧x.lb.size≤16∧x.to.size≤16
theorem gB{s:Txt}(h:dS s=true):1≤s.size∧s.size≤16:=by
 unfold dS at h;rw[Bool.and_eq_true] at h;exact of_decide_eq_true h.1
theorem oI{s:Txt}(h:gI s=true):dS s=true:=by
 unfold gI at h;rw[Bool.and_eq_true] at h;exact h.1
theorem kL.of{N:List Txt}{E:List Ed}(h:bU N E=true):kL N E:=by
 unfold bU at h;rw[Bool.and_eq_true,List.all_eq_true,List.all_eq_true] at h;refine⟨fun s hs=>(gB (h.1 s hs)).2,fun x hx=>?_⟩;have:=h.2 x hx;unfold eH at this;rw[Bool.and_eq_true,Bool.and_eq_true] at this;exact⟨(gB this.1).2,(gB (oI this.2.1)).2,(gB this.2.2).2⟩
theorem uS(s:Txt):s.data.toList.length=s.size:=by rw[Array.length_toList];rfl
theorem kS{α β:Type}{f:α→List β}{c:Nat}:∀{l:List α},(∀x∈l,(f x).length≤c)→(l.flatMap f).length≤l.length*c
 | [],_=>by simp
 | x::l,h=>by
  have h1:=h x (by simp);have h2:=kS (l:=l) (fun y hy=>h y (by simp[hy]));simp only[List.flatMap_cons,List.length_append,List.length_cons,Nat.add_mul]
  omega
theorem nJ{s:Txt}(h:s.size≤16):(eQ s).length≤19:=by simp[eQ,OQ];omega
theorem zN{x:Ed}(h:x.fr.size≤16∧x.lb.size≤16∧x.to.size≤16):(iL x).length≤53:=by simp[iL,OQ];omega
theorem gT{N:List Txt}{E:List Ed}{s:Txt}(h:s∈cB N E):s∈N:=(List.mem_filter.1 h).1
theorem uT(N:List Txt)(E:List Ed):(cB N E).length≤N.length:=List.length_filter_le _ _
theorem cY(a b:Txt):(a++b).data.toList=a.data.toList++b.data.toList:=by simp
theorem eE(a b:Txt):(a++b).size=a.size+b.size:=by simp
theorem mH(a b:Txt)(h:a.size+b.size≤1000):∀w,(Op.stringOp .add a b).run Tryz.prog w=.ok (.string (a++b)) w:=fun w=>run_string_add_sum w a b (by omega)

theorem KR(w:World)(A:Option Addr)(c:Nat)(B:Option Addr)(d:Nat)(N:List Txt)(E:List Ed)(h:lB w A c B d N E)(hs:kL N E)(hN:N.length≤32)(hE:E.length≤256) :
  Calls Tryz.prog 134 #[cP A N.length c B E.length d] w (Sam w (.string ⟨(kR N E).toArray⟩)):=by
 have k0:=(Blk.new w 34 #[.slice A N.length c,.slice B E.length d]).alloc (.cells #[.pointer none,.slice none 0 0] 241);have i0:=IsB.new (w.alloc (.cells #[.slice A N.length c,.slice B E.length d] 34));simp only[World.size_alloc] at i0
 have u0:Below w.heap.size w ((w.alloc (.cells #[.slice A N.length c,.slice B E.length d] 34)).alloc (.cells #[.pointer none,.slice none 0 0] 241)):=by(repeat (first | exact Below.refl _ _ | apply Below.drew | refine Below.alloc ?_ (by first | exact Nat.le_refl _ | (simp;done) | (simp;omega)) _ | refine Below.setCell ?_ (by first | exact Nat.le_refl _ | (simp;done) | (simp;omega)) _))
 have hz:((w.alloc (.cells #[.slice A N.length c,.slice B E.length d] 34)).alloc (.cells #[.pointer none,.slice none 0 0] 241)).heap.size=w.heap.size+2:=by simp
 have HB:=hIz (show ∀(j:Nat) (x:Ed),E[j]?=some x→∃b o,B=some ⟨b,o,none⟩∧b<w.heap.size from fun j x hx=>by obtain⟨b,o,e,y0,-⟩:=h.re.ed hx;exact⟨b,o,e,World.block_lt_of_cell? _ _ y0⟩);have HS:=hIz hs;have H:=aI5 (h.below u0) k0 u0 i0 hz;clear h k0 u0 i0 hz hs;unfold cP;go_enter Tryz.func134,Tryz.ntmps134;go_upto_region 2 with (fail);generalize (w.alloc (.cells #[.slice A N.length c,.slice B E.length d] 34)).alloc (.cells #[.pointer none,.slice none 0 0] 241)=W1 at H ⊢;have q0:W1.cell? ⟨w.heap.size,0,none⟩=some (.slice A N.length c):=H.out.2.1.cell 0;have q1:W1.cell? ⟨w.heap.size,1,none⟩=some (.slice B E.length d):=H.out.2.1.cell 1;go_wp2_with fail;refine(KO W1 A c B d N E H.out.1).mono ?_;rintro e w2 ⟨v,rfl,own2,b2⟩;obtain⟨A2,c2,rfl,-,-⟩:=aK own2;obtain⟨n2,hn2⟩:∃n2,(cB N E).length=n2:=⟨_,rfl⟩;have hn2':n2≤32:=by rw[← hn2];exact Nat.le_trans (uT N E) hN
 have i2:=H.out.2.2.2.1.below b2;have bb2:=tHn H.out.2.2.1 b2;have hz2:=b2.size;have HBM:=hIz (b2.mono (show w.heap.size+1≤W1.heap.size from by have:=H.out.2.2.2.2;omega));have hown:(Value.slice A2 (cB N E).length c2).ownBlock≠some (w.heap.size+1):=fun e=>by
  have:=(own2.lt _ e).1;have:=H.out.2.2.2.2;omega
 have H2:=aI6 i2 bb2 (H.out.1.below b2) own2 hown (H.out.2.1.upd (upF b2) id);have hzz:w.heap.size+2≤w2.heap.size:=by have:=H.out.2.2.2.2;omega
 clear i2 b2 bb2 own2 hown q0 q1 hz2;rw[hn2];have HN2:=hIz hn2;clear hn2;go_wp2_with fail;go_loopw [5,11] (fun _ i wr=>∃k:Nat,k≤n2∧i=.int .i64 k∧Hid (Below (w.heap.size+1) w2 wr)∧Hid (Lib.OthersKept 5 (some (w.heap.size+1)) w2 wr)∧Hid (IsB wr (w.heap.size+1) (((cB N E).take k).flatMap eQ))) (fun _ i _=>n2-(intOf i).toNat)
 case atStart=>exact⟨0,Nat.zero_le _,rfl,hIz bR,hIz (Lib.OthersKept.refl _ _ _),hIz (by simpa using H2.out.1)⟩
 case round =>
  obtain⟨k,hk,rfl,hb,ho,hi⟩:=hrel;by_cases hlt:k<n2
  ·have hltI:(k:Int)<(n2:Int):=by omega
   have hkw:IntKind.i64.wrap ((k:Int)+1)=(k:Int)+1:=IntWalk.i64_in _ (by omega);obtain⟨s,hx⟩:∃x,(cB N E)[k]?=some x:=⟨(cB N E)[k]'(by rw[HN2.out];exact hlt),gEz _⟩;have ow:=KQ H2.out.2.2.2.1 ho.out H2.out.2.2.2.2.1;have rw2:=aU.of_own ow;obtain⟨ab,ao,rfl,x0⟩:=rw2.txt hx;have hsz:s.size≤16:=HS.out.n s (gT (mG hx));have a1:=mH s ⟨#[32,59,10]⟩ (by show s.size+3≤1000;omega);have hll:(((cB N E).take k).flatMap eQ).length≤k*19:=by
    have:=kS (f:=eQ) (c:=19) (l:=(cB N E).take k) (fun x hx=>nJ (HS.out.n x (gT (List.mem_of_mem_take hx))));have h3:((cB N E).take k).length≤k:=by rw[List.length_take];omega
    exact Nat.le_trans this (Nat.mul_le_mul_right _ h3)
   have hcon:=OP wr (w.heap.size+1) _ (s++⟨#[32,59,10]⟩) hi.out (by rw[eE];show _+(s.size+3)≤_;omega) (by have:=hb.out.size;omega);rw[cY,show(s.data.toList++(⟨#[32,59,10]⟩:Txt).data.toList)=eQ s from rfl] at hcon;have htk:((cB N E).take k).flatMap eQ++eQ s=((cB N E).take (k+1)).flatMap eQ:=by rw[dL hx];simp
   rw[htk] at hcon;have HX:=hIz hcon;clear hcon htk hll hx ow rw2;go_wp2_with fail;refine HX.out.mono ?_;rintro e w5 ⟨rfl,i5,b5,o5⟩;have H5:=aI3 (hb.out.trans b5) (ho.out.trans o5) i5;clear i5 b5 o5;go_wp2;go_roundw
   case rel=>exact⟨k+1,by omega,by go_num,hIz H5.out.1,hIz H5.out.2.1,hIz H5.out.2.2⟩
   case measure=>simp[intOf];omega
  ·obtain rfl:k=n2:=by omega
   obtain⟨W4,hW4⟩:∃W,W=wr:=⟨_,rfl⟩;subst hW4;have i4:IsB W4 (w.heap.size+1) ((cB N E).flatMap eQ):=by
    have:=hi.out;rw[List.take_of_length_le (by rw[HN2.out];exact Nat.le_refl _)] at this;exact this
   have hll:((cB N E).flatMap eQ).length≤32*19:=by
    have:=kS (f:=eQ) (c:=19) (l:=cB N E) (fun x hx=>nJ (HS.out.n x (gT hx)));rw[HN2.out] at this;exact Nat.le_trans this (Nat.mul_le_mul_right _ hn2')
   have bb4:Below (w.heap.size+1) W1 W4:=by
    exact HBM.out.trans hb.out
   have k4:W4.cell? ⟨w.heap.size,1,none⟩=some (.slice B E.length d):=(bb4.cell (p:=⟨w.heap.size,1,none⟩) (by show w.heap.size<_;omega)).trans (H.out.2.1.cell 1);have q1:=k4;have bw4:Below w.heap.size w W4:=H.out.2.2.1.trans (bb4.mono (by omega));have HI4:=aI4 i4 hll bb4 bw4;have hz4:w.heap.size+2≤W4.heap.size:=Nat.le_trans hzz hb.out.size;clear i4 hll bb4 bw4 k4 hb ho hi hlt;go_wp2_with fail;clear q1;go_loopw [7,22] (fun _ i wr=>∃k:Nat,k≤E.length∧i=.int .i64 k∧Hid (Below (w.heap.size+1) W4 wr)∧Hid (IsB wr (w.heap.size+1) ((cB N E).flatMap eQ++(E.take k).flatMap iL))) (fun _ i _=>E.length-(intOf i).toNat)
   case atStart=>exact⟨0,Nat.zero_le _,rfl,hIz bR,hIz (by simpa using HI4.out.1)⟩
   case round =>
    obtain⟨k,hk,rfl,hb,hi⟩:=hrel;by_cases hlt:k<E.length
    ·have hltI:(k:Int)<(E.length:Int):=by omega
     have hkw:IntKind.i64.wrap ((k:Int)+1)=(k:Int)+1:=IntWalk.i64_in _ (by omega);obtain⟨⟨s0,s1,s2⟩,hx⟩:∃x,E[k]?=some x:=⟨E[k],gEz _⟩;obtain⟨ab,ao,rfl,hab⟩:=HB.out k _ hx;obtain⟨ab',ao',e,y0,y1,y2⟩:=H.out.1.re.ed hx;injection e with e;injection e with e e2;subst e;subst e2;dsimp only at y0 y1 y2
     have bz:=HI4.out.2.2.1.trans hb.out;have cc:=fun i=>bz.cell (p:=⟨ab,i,none⟩) (by show ab<_;omega)
     have x0:=(cc _).trans y0;have x1:=(cc _).trans y1;have x2:=(cc _).trans y2;have hsz:=HS.out.e _ (mG hx);dsimp only at hsz
     have hll:(((cB N E).flatMap eQ)++(E.take k).flatMap iL).length≤32*19+256*53:=by
      have h2:=HI4.out.2.1;have:=kS (f:=iL) (c:=53) (l:=E.take k) (fun x hx=>zN (HS.out.e x (List.mem_of_mem_take hx)));have h3:(E.take k).length≤256:=by rw[List.length_take];omega
      have h4:=Nat.le_trans this (Nat.mul_le_mul_right _ h3);rw[List.length_append];omega
     have kx:=Blk.new wr 32 #[.string s0,.string s1,.string s2];have bx:Below wr.heap.size wr (wr.alloc (.cells #[.string s0,.string s1,.string s2] 32)):=bR.alloc (Nat.le_refl _) _;have ix:=hi.out.alloc (.cells #[.string s0,.string s1,.string s2] 32);have hzr:=hb.out.size;have HX:=aI4 hx kx (hb.out.trans (bx.mono (by omega))) ix;have hzx:(wr.alloc (.cells #[.string s0,.string s1,.string s2] 32)).heap.size=wr.heap.size+1:=by simp
     clear hx kx bx ix y0 y1 y2 cc bz;go_upto_region 10 with (fail);generalize wr.alloc (.cells #[.string s0,.string s1,.string s2] 32)=W5 at HX hzx ⊢;clear x0 x1 x2;have x0:W5.cell? ⟨wr.heap.size,0,none⟩=some (.string s0):=HX.out.2.1.cell 0;have x1:W5.cell? ⟨wr.heap.size,1,none⟩=some (.string s1):=HX.out.2.1.cell 1;have x2:W5.cell? ⟨wr.heap.size,2,none⟩=some (.string s2):=HX.out.2.1.cell 2;obtain⟨t0,ht0⟩:∃t,s0++(⟨#[32]⟩:Txt)=t:=⟨_,rfl⟩;have z0:t0.size=s0.size+1:=by rw[← ht0,eE];rfl
     obtain⟨t1,ht1⟩:∃t,t0++s1=t:=⟨_,rfl⟩;have z1:t1.size=t0.size+s1.size:=by rw[← ht1,eE]
     obtain⟨t2,ht2⟩:∃t,t1++(⟨#[32]⟩:Txt)=t:=⟨_,rfl⟩;have z2:t2.size=t1.size+1:=by rw[← ht2,eE];rfl
     obtain⟨t3,ht3⟩:∃t,t2++s2=t:=⟨_,rfl⟩;have z3:t3.size=t2.size+s2.size:=by rw[← ht3,eE]
     obtain⟨t4,ht4⟩:∃t,t3++(⟨#[32,59,10]⟩:Txt)=t:=⟨_,rfl⟩;have z4:t4.size=t3.size+3:=by rw[← ht4,eE];rfl
     have hdat:t4.data.toList=iL ⟨s0,s1,s2⟩:=by
      rw[← ht4,cY,← ht3,cY,← ht2,cY,← ht1,cY,← ht0,cY];rfl
     have a0:=mH s0 ⟨#[32]⟩ (by show s0.size+1≤1000;omega);have a1:=mH t0 s1 (by omega);have a2:=mH t1 ⟨#[32]⟩ (by show t1.size+1≤1000;omega);have a3:=mH t2 s2 (by omega);have a4:=mH t3 ⟨#[32,59,10]⟩ (by show t3.size+3≤1000;omega);rw[ht0] at a0;rw[ht1] at a1;rw[ht2] at a2;rw[ht3] at a3;rw[ht4] at a4;have hcon:=OP W5 (w.heap.size+1) _ t4 HX.out.2.2.2 (by omega) (by omega);have htk:(cB N E).flatMap eQ++(E.take k).flatMap iL++t4.data.toList=(cB N E).flatMap eQ++(E.take (k+1)).flatMap iL:=by rw[dL HX.out.1,hdat];simp
     rw[htk] at hcon;have HC:=hIz hcon;clear hcon htk hll ht0 ht1 ht2 ht3 ht4 z0 z1 z2 z3 z4 hdat hsz;go_wp2_with fail;refine HC.out.mono ?_;rintro e w6 ⟨rfl,i6,b6,-⟩;have H6:=aI2 (HX.out.2.2.1.trans b6) i6;clear i6 b6;go_wp2;go_roundw
     case rel=>exact⟨k+1,by omega,by go_num,hIz H6.out.1,hIz H6.out.2⟩
     case measure=>simp[intOf];omega
    ·obtain rfl:k=E.length:=by omega
     have hcon:=PW wr (w.heap.size+1) _ hi.out (by have:=hb.out.size;omega);rw[List.take_length] at hcon;have HC:=hIz hcon;have bwr:=HI4.out.2.2.2.trans (hb.out.mono (by omega));have HW:=hIz bwr;clear hcon bwr;go_wp2_with fail;refine HC.out.mono ?_;rintro e w6 ⟨rfl,b6⟩;have FIN:=hIz (HW.out.trans (b6.mono (by omega)));clear b6;go_wp2;go_ret;exact⟨rfl,FIN.out⟩
open Go.Shelf
def BR:Go.Shelf.Ren:=⟨fun | 0=>0 | 1=>1 | 2=>2 | 41=>49 | 43=>167 | 53=>166 | 59=>217 | 63=>188 | 64=>185 | 68=>233 | 70=>211 | 71=>212 | 72=>213 | 73=>214 | 74=>215 | 75=>216 | 76=>218 | 77=>219 | 78=>209 | 79=>210 | 88=>230 | 89=>226 | 90=>227 | 91=>231 | 92=>232 | 96=>251 | 98=>260 | 99=>261 | 100=>262 | 101=>263 | 102=>264 | 103=>265 | 104=>266 | 105=>267 | 106=>268 | 107=>269 | 108=>270 | 109=>271 | 110=>272 | 111=>274 | 112=>275 | 113=>288 | n=>n,fun | 0=>0 | 1=>1 | 2=>2 | 3=>3 | 4=>4 | 5=>5 | 6=>6 | 7=>7 | 8=>8 | 9=>9 | 10=>10 | 11=>11 | 12=>12 | 13=>13 | 14=>14 | 15=>15 | 16=>16 | 17=>17 | 18=>18 | 19=>19 | 20=>20 | 21=>21 | 22=>26 | 23=>9 | 28=>210 | 30=>131 | 32=>237 | 36=>112 | 44=>153 | 51=>201 | 52=>289 | 53=>160 | 56=>262 | 57=>260 | 59=>286 | 60=>277 | 61=>278 | 62=>287 | 63=>288 | 64=>290 | 65=>291 | 66=>283 | 67=>284 | 68=>249 | 69=>166 | 75=>298 | 76=>299 | 77=>300 | 78=>304 | 79=>302 | 80=>305 | 83=>316 | 84=>93 | 85=>318 | 87=>246 | 88=>325 | 89=>326 | 90=>327 | 91=>328 | 92=>329 | 93=>64 | 94=>330 | 95=>331 | 96=>332 | 97=>263 | 98=>333 | 99=>334 | 100=>335 | 101=>336 | 102=>292 | n=>n,fun n=>n⟩
theorem KT:SlLaysE.n43 Tryz.prog BR:={
 mixed:=(by kernel_rfl)
 f43:=⟨Tryz.f167.name,by decide,Tryz.func167.trans (congrArg some (by kernel_rfl))⟩
 t0:=Tryz.underlying0
 a0:=Tryz.isAgg0
 z0:=Tryz.sizeOf0
 v0:=Tryz.zeroValue0
 t3:=Tryz.underlying3
 a3:=Tryz.isAgg3
 z3:=Tryz.sizeOf3
 v3:=Tryz.zeroValue3
 t4:=Tryz.underlying4
 a4:=Tryz.isAgg4
 z4:=Tryz.sizeOf4
 v4:=Tryz.zeroValue4
 t22:=Tryz.underlying26
 a22:=Tryz.isAgg26
 z22:=Tryz.sizeOf26
 v22:=Tryz.zeroValue26
 a23:=Tryz.isAgg9
 z23:=Tryz.sizeOf9 }
open Go.Shelf
def uU:Go.Shelf.Ren:=⟨fun | 0=>0 | 1=>1 | 2=>2 | 6=>192 | 11=>127 | 14=>222 | 15=>185 | 16=>233 | 18=>163 | 20=>234 | 21=>235 | 22=>236 | 23=>237 | 24=>238 | 25=>239 | 26=>240 | 27=>241 | 28=>209 | 29=>210 | 46=>252 | 47=>226 | 48=>227 | 49=>253 | 50=>254 | 57=>258 | 60=>260 | 61=>261 | 62=>262 | 63=>263 | 64=>264 | 65=>265 | 66=>266 | 67=>267 | 68=>268 | 69=>269 | 70=>270 | 71=>271 | 72=>272 | 73=>274 | 74=>275 | 75=>288 | n=>n,fun | 0=>0 | 1=>1 | 2=>2 | 3=>3 | 4=>4 | 5=>5 | 6=>6 | 7=>7 | 8=>8 | 9=>9 | 10=>10 | 11=>11 | 12=>12 | 13=>13 | 14=>14 | 15=>15 | 16=>16 | 17=>17 | 18=>18 | 19=>19 | 20=>20 | 21=>21 | 22=>26 | 23=>265 | 24=>9 | 25=>147 | 26=>237 | 27=>181 | 29=>190 | 37=>295 | 38=>260 | 39=>201 | 40=>160 | 42=>189 | 44=>306 | 45=>277 | 46=>278 | 47=>307 | 48=>308 | 49=>309 | 50=>153 | 51=>310 | 52=>283 | 53=>284 | 54=>249 | 55=>166 | 66=>298 | 67=>299 | 68=>300 | 69=>319 | 70=>302 | 71=>320 | 76=>316 | 77=>93 | 78=>323 | 81=>246 | 82=>325 | 83=>326 | 84=>327 | 85=>328 | 86=>329 | 87=>64 | 88=>330 | 89=>331 | 90=>332 | 91=>263 | 92=>333 | 93=>334 | 94=>335 | 95=>336 | 96=>292 | n=>n,fun n=>n⟩
theorem WB:SlLaysF.n6 Tryz.prog uU:={
 mixed:=(by kernel_rfl)
 f6:=⟨Tryz.f192.name,by decide,Tryz.func192.trans (congrArg some (by kernel_rfl))⟩
 f14:=⟨Tryz.f222.name,by decide,Tryz.func222.trans (congrArg some (by kernel_rfl))⟩
 f15:=Tryz.func185.trans (congrArg some (by kernel_rfl))
 f20:=⟨Tryz.f234.name,by decide,Tryz.func234.trans (congrArg some (by kernel_rfl))⟩
 f21:=⟨Tryz.f235.name,by decide,Tryz.func235.trans (congrArg some (by kernel_rfl))⟩
 f22:=⟨Tryz.f236.name,by decide,Tryz.func236.trans (congrArg some (by kernel_rfl))⟩
 f23:=⟨Tryz.f237.name,by decide,Tryz.func237.trans (congrArg some (by kernel_rfl))⟩
 f24:=⟨Tryz.f238.name,by decide,Tryz.func238.trans (congrArg some (by kernel_rfl))⟩
 f25:=⟨Tryz.f239.name,by decide,Tryz.func239.trans (congrArg some (by kernel_rfl))⟩
 f26:=⟨Tryz.f240.name,by decide,Tryz.func240.trans (congrArg some (by kernel_rfl))⟩
 f27:=⟨Tryz.f241.name,by decide,Tryz.func241.trans (congrArg some (by kernel_rfl))⟩
 f28:=Tryz.func209.trans (congrArg some (by kernel_rfl))
 f29:=Tryz.func210.trans (congrArg some (by kernel_rfl))
 f46:=⟨Tryz.f252.name,by decide,Tryz.func252.trans (congrArg some (by kernel_rfl))⟩
 f47:=Tryz.func226.trans (congrArg some (by kernel_rfl))
 f48:=Tryz.func227.trans (congrArg some (by kernel_rfl))
 f49:=⟨Tryz.f253.name,by decide,Tryz.func253.trans (congrArg some (by kernel_rfl))⟩
 f50:=⟨Tryz.f254.name,by decide,Tryz.func254.trans (congrArg some (by kernel_rfl))⟩
 f57:=⟨Tryz.f258.name,by decide,Tryz.func258.trans (congrArg some (by kernel_rfl))⟩
 t0:=Tryz.underlying0
 a0:=Tryz.isAgg0
 z0:=Tryz.sizeOf0
 v0:=Tryz.zeroValue0
 t3:=Tryz.underlying3
 a3:=Tryz.isAgg3
 z3:=Tryz.sizeOf3
 v3:=Tryz.zeroValue3
 t4:=Tryz.underlying4
 a4:=Tryz.isAgg4
 z4:=Tryz.sizeOf4
 v4:=Tryz.zeroValue4
 t5:=Tryz.underlying5
 a5:=Tryz.isAgg5
 z5:=Tryz.sizeOf5
 v5:=Tryz.zeroValue5
 t9:=Tryz.underlying9
 a9:=Tryz.isAgg9
 z9:=Tryz.sizeOf9
 v9:=Tryz.zeroValue9
 t22:=Tryz.underlying26
 a22:=Tryz.isAgg26
 z22:=Tryz.sizeOf26
 v22:=Tryz.zeroValue26
 a24:=Tryz.isAgg9
 z24:=Tryz.sizeOf9
 t25:=Tryz.underlying147
 a25:=Tryz.isAgg147
 z25:=Tryz.sizeOf147
 v25:=Tryz.zeroValue147
 t39:=Tryz.underlying201
 a39:=Tryz.isAgg201
 z39:=Tryz.sizeOf201
 v39:=Tryz.zeroValue201
 t45:=Tryz.underlying277
 a45:=Tryz.isAgg277
 z45:=Tryz.sizeOf277
 v45:=Tryz.zeroValue277
 t46:=Tryz.underlying278
 a46:=Tryz.isAgg278
 z46:=Tryz.sizeOf278
 v46:=Tryz.zeroValue278
 t50:=Tryz.underlying153
 a50:=Tryz.isAgg153
 z50:=Tryz.sizeOf153
 v50:=Tryz.zeroValue153
 t53:=Tryz.underlying284
 a53:=Tryz.isAgg284
 z53:=Tryz.sizeOf284
 v53:=Tryz.zeroValue284
 t55:=Tryz.underlying166
 a55:=Tryz.isAgg166
 z55:=Tryz.sizeOf166
 v55:=Tryz.zeroValue166
 t66:=Tryz.underlying298
 a66:=Tryz.isAgg298
 z66:=Tryz.sizeOf298
 v66:=Tryz.zeroValue298
 t70:=Tryz.underlying302
 a70:=Tryz.isAgg302
 z70:=Tryz.sizeOf302
 v70:=Tryz.zeroValue302
 t76:=Tryz.underlying316
 a76:=Tryz.isAgg316
 z76:=Tryz.sizeOf316
 v76:=Tryz.zeroValue316
 t77:=Tryz.underlying93
 a77:=Tryz.isAgg93
 z77:=Tryz.sizeOf93
 v77:=Tryz.zeroValue93 }
theorem TD:SlLaysF0.n6 Tryz.prog uU:={
 mixed:=(by kernel_rfl)
 f6:=⟨Tryz.f192.name,by decide,Tryz.func192.trans (congrArg some (by kernel_rfl))⟩
 f14:=⟨Tryz.f222.name,by decide,Tryz.func222.trans (congrArg some (by kernel_rfl))⟩
 f15:=Tryz.func185.trans (congrArg some (by kernel_rfl))
 f20:=⟨Tryz.f234.name,by decide,Tryz.func234.trans (congrArg some (by kernel_rfl))⟩
 f21:=⟨Tryz.f235.name,by decide,Tryz.func235.trans (congrArg some (by kernel_rfl))⟩
 f22:=⟨Tryz.f236.name,by decide,Tryz.func236.trans (congrArg some (by kernel_rfl))⟩
 f23:=⟨Tryz.f237.name,by decide,Tryz.func237.trans (congrArg some (by kernel_rfl))⟩
 f24:=⟨Tryz.f238.name,by decide,Tryz.func238.trans (congrArg some (by kernel_rfl))⟩
 f25:=⟨Tryz.f239.name,by decide,Tryz.func239.trans (congrArg some (by kernel_rfl))⟩
 f26:=⟨Tryz.f240.name,by decide,Tryz.func240.trans (congrArg some (by kernel_rfl))⟩
 f27:=⟨Tryz.f241.name,by decide,Tryz.func241.trans (congrArg some (by kernel_rfl))⟩
 f28:=Tryz.func209.trans (congrArg some (by kernel_rfl))
 f29:=Tryz.func210.trans (congrArg some (by kernel_rfl))
 f46:=⟨Tryz.f252.name,by decide,Tryz.func252.trans (congrArg some (by kernel_rfl))⟩
 f47:=Tryz.func226.trans (congrArg some (by kernel_rfl))
 f48:=Tryz.func227.trans (congrArg some (by kernel_rfl))
 f49:=⟨Tryz.f253.name,by decide,Tryz.func253.trans (congrArg some (by kernel_rfl))⟩
 f50:=⟨Tryz.f254.name,by decide,Tryz.func254.trans (congrArg some (by kernel_rfl))⟩
 f57:=⟨Tryz.f258.name,by decide,Tryz.func258.trans (congrArg some (by kernel_rfl))⟩
 t0:=Tryz.underlying0
 a0:=Tryz.isAgg0
 z0:=Tryz.sizeOf0
 v0:=Tryz.zeroValue0
 t3:=Tryz.underlying3
 a3:=Tryz.isAgg3
 z3:=Tryz.sizeOf3
 v3:=Tryz.zeroValue3
 t4:=Tryz.underlying4
 a4:=Tryz.isAgg4
 z4:=Tryz.sizeOf4
 v4:=Tryz.zeroValue4
 t5:=Tryz.underlying5
 a5:=Tryz.isAgg5
 z5:=Tryz.sizeOf5
 v5:=Tryz.zeroValue5
 t9:=Tryz.underlying9
 a9:=Tryz.isAgg9
 z9:=Tryz.sizeOf9
 v9:=Tryz.zeroValue9
 t22:=Tryz.underlying26
 a22:=Tryz.isAgg26
 z22:=Tryz.sizeOf26
 v22:=Tryz.zeroValue26
 t25:=Tryz.underlying147
 a25:=Tryz.isAgg147
 z25:=Tryz.sizeOf147
 v25:=Tryz.zeroValue147
 t39:=Tryz.underlying201
 a39:=Tryz.isAgg201
 z39:=Tryz.sizeOf201
 v39:=Tryz.zeroValue201
 t45:=Tryz.underlying277
 a45:=Tryz.isAgg277
 z45:=Tryz.sizeOf277
 v45:=Tryz.zeroValue277
 t46:=Tryz.underlying278
 a46:=Tryz.isAgg278
 z46:=Tryz.sizeOf278
 v46:=Tryz.zeroValue278
 t50:=Tryz.underlying153
 a50:=Tryz.isAgg153
 z50:=Tryz.sizeOf153
 v50:=Tryz.zeroValue153
 t53:=Tryz.underlying284
 a53:=Tryz.isAgg284
 z53:=Tryz.sizeOf284
 v53:=Tryz.zeroValue284
 t55:=Tryz.underlying166
 a55:=Tryz.isAgg166
 z55:=Tryz.sizeOf166
 v55:=Tryz.zeroValue166
 t66:=Tryz.underlying298
 a66:=Tryz.isAgg298
 z66:=Tryz.sizeOf298
 v66:=Tryz.zeroValue298
 t70:=Tryz.underlying302
 a70:=Tryz.isAgg302
 z70:=Tryz.sizeOf302
 v70:=Tryz.zeroValue302
 t76:=Tryz.underlying316
 a76:=Tryz.isAgg316
 z76:=Tryz.sizeOf316
 v76:=Tryz.zeroValue316
 t77:=Tryz.underlying93
 a77:=Tryz.isAgg93
 z77:=Tryz.sizeOf93
 v77:=Tryz.zeroValue93 }
end Go.Proofs.YtddffnonlmfhdaaGreatDoor
