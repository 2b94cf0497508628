/- Graphs: what stands in a graph's rows; Graphs: Has; Graphs: New, Of, Nodes, Node; clones; Edges: cut to what this seat wants; Edges: cut to what this seat wants; Graphs that grow: what comes edge by edge; what is refused or comes again (the plain law); Graphs: Of; Graphs: Copy; Graphs: In, Len, Labels. -/
import Derived.Test.YtnokckdkaifibaaGreatDoorO08
import Derived.Shelf.SlMaps.Clone
set_option linter.unusedVariables false
set_option linter.unusedSimpArgs false
set_option maxHeartbeats 16000000
set_option maxRecDepth 100000
namespace Go.Proofs.YtnokckdkaifibaaGreatDoor
open Go.RowKit
structure dS(N:List Txt)(X:List Ed)(U V:Nat→List Hp):Prop where
 up:∀k,eO ltH (U k)
 vp:∀k,eO ltH (V k)
 um:∀k h,h∈U k↔∃x∈X,N[k]?=some x.fr∧h=⟨x.lb,(eL N x.to:Int)⟩
 vm:∀k h,h∈V k↔∃x∈X,N[k]?=some x.to∧h=⟨x.lb,(eL N x.fr:Int)⟩
def GrS(w:World)(F:Nat→Prop)(p:Nat)(G:Gr):Prop:=∃U V,tW w F p G.N U V G.X.length∧dS G.N G.X U V
theorem GrS.upd{w w':World}{F Q:Nat→Prop}{p:Nat}{G:Gr}(h:GrS w F p G)(hu:Upd Q w w')(hd:∀k,F k→¬Q k):GrS w' F p G:=by
 obtain⟨U,V,h1,h2⟩:=h;exact⟨U,V,h1.upd hu hd,h2⟩
theorem GrS.below{w w':World}{F:Nat→Prop}{p:Nat}{G:Gr}(h:GrS w F p G)(hb:Below w.heap.size w w'):GrS w' F p G:=h.upd (upF hb) (fun _ _=>id)
def CR(w:World)(F:Nat→Prop)(p:Nat)(G:Gr)(w':World):Prop:=∃F',GrS w' F' p G∧Upd F w w'∧∀k,F' k→F k∨w.heap.size≤k
theorem CR.refl{w w':World}{F:Nat→Prop}{p:Nat}{G:Gr}(h:GrS w F p G)(hb:Below w.heap.size w w'):CR w F p G w':=⟨F,h.below hb,Upd.of_below hb F,fun _ hk=>.inl hk⟩

theorem dS.new:dS [] [] (fun _=>[]) (fun _=>[]):=⟨fun _=>List.Pairwise.nil,fun _=>List.Pairwise.nil,fun k h=>by simp,fun k h=>by simp⟩
theorem tC{N:List Txt}{s t:Txt}(h:t∈N)(k:Nat):(cI N s)[k]?=some t↔N[k]?=some t:=by
 unfold cI;split
 ·rfl
 ·rename_i hs
  constructor
  ·intro e;rw[List.getElem?_append] at e;split at e
   ·exact e
   ·rw[List.getElem?_singleton] at e;split at e
    ·injection e with e;exact(hs (bK.2 (by rw[e];exact h))).elim
    ·cases e
  ·intro e;rw[List.getElem?_append_left (gO.1 e).1];exact e
theorem dS.node{N:List Txt}{X:List Ed}{U V:Nat→List Hp}(h:dS N X U V)(he:∀x∈X,x.fr∈N∧x.to∈N)(s:Txt):dS (cI N s) X U V:=by
 refine⟨h.up,h.vp,fun k y=>?_,fun k y=>?_⟩
 ·rw[h.um];constructor
  ·rintro⟨x,hx,h1,h2⟩;exact⟨x,hx,(tC (he x hx).1 k).2 h1,by rw[gM (he x hx).2];exact h2⟩
  ·rintro⟨x,hx,h1,h2⟩;exact⟨x,hx,(tC (he x hx).1 k).1 h1,by rw[gM (he x hx).2] at h2;exact h2⟩
 ·rw[h.vm];constructor
  ·rintro⟨x,hx,h1,h2⟩;exact⟨x,hx,(tC (he x hx).2 k).2 h1,by rw[gM (he x hx).1];exact h2⟩
  ·rintro⟨x,hx,h1,h2⟩;exact⟨x,hx,(tC (he x hx).2 k).1 h1,by rw[gM (he x hx).1] at h2;exact h2⟩
theorem tE{N:List Txt}{s t:Txt}(hs:s∈N)(ht:t∈N)(e:(eL N s:Int)=eL N t):s=t:=by
 have e:eL N s=eL N t:=by omega
 have h1:=dV hs;rw[e,dV ht] at h1;injection h1 with h1;exact h1.symm
theorem dS.edge{N:List Txt}{X:List Ed}{U V:Nat→List Hp}(h:dS N X U V)(hN:N.Nodup)(he:∀x∈X,x.fr∈N∧x.to∈N){x:Ed}(hf:x.fr∈N)(ht:x.to∈N)(hx:x ∉ X):dS N (X++[x]) (FK N U x) (FM N V x):=by
 have nU:(⟨x.lb,(eL N x.to:Int)⟩:Hp) ∉ U (eL N x.fr):=fun hm=>by
  obtain⟨y,hy,h1,h2⟩:=(h.um _ _).1 hm;rw[dV hf] at h1;injection h1 with h1;injection h2 with h2 h3;have:=tE ht (he y hy).2 h3;obtain⟨a,b,c⟩:=x;obtain⟨a',b',c'⟩:=y;dsimp only at h1 h2 this
  subst h1;subst h2;subst this;exact hx hy
 have nV:(⟨x.lb,(eL N x.fr:Int)⟩:Hp) ∉ V (eL N x.to):=fun hm=>by
  obtain⟨y,hy,h1,h2⟩:=(h.vm _ _).1 hm;rw[dV ht] at h1;injection h1 with h1;injection h2 with h2 h3;have:=tE hf (he y hy).1 h3;obtain⟨a,b,c⟩:=x;obtain⟨a',b',c'⟩:=y;dsimp only at h1 h2 this
  subst h1;subst h2;subst this;exact hx hy
 refine⟨fun k=>?_,fun k=>?_,fun k y=>?_,fun k y=>?_⟩
 ·unfold FK iD;split
  ·exact mS (h.up _) nU
  ·exact h.up k
 ·unfold FM iD;split
  ·exact mS (h.vp _) nV
  ·exact h.vp k
 ·unfold FK iD;split
  ·rename_i hk
   subst hk;rw[rV,h.um];constructor
   ·rintro (⟨z,hz,h1,h2⟩|rfl)
    ·exact⟨z,List.mem_append.2 (.inl hz),h1,h2⟩
    ·exact⟨x,by simp,dV hf,rfl⟩
   ·rintro⟨z,hz,h1,h2⟩;rcases List.mem_append.1 hz with hz|hz
    ·exact .inl ⟨z,hz,h1,h2⟩
    ·rw[List.mem_singleton] at hz;subst hz;exact .inr h2
  ·rename_i hk
   rw[h.um];constructor
   ·rintro⟨z,hz,h1,h2⟩;exact⟨z,List.mem_append.2 (.inl hz),h1,h2⟩
   ·rintro⟨z,hz,h1,h2⟩;rcases List.mem_append.1 hz with hz|hz
    ·exact⟨z,hz,h1,h2⟩
    ·rw[List.mem_singleton] at hz;subst hz;exact(hk (jD hN h1).symm).elim
 ·unfold FM iD;split
  ·rename_i hk
   subst hk;rw[rV,h.vm];constructor
   ·rintro (⟨z,hz,h1,h2⟩|rfl)
    ·exact⟨z,List.mem_append.2 (.inl hz),h1,h2⟩
    ·exact⟨x,by simp,dV ht,rfl⟩
   ·rintro⟨z,hz,h1,h2⟩;rcases List.mem_append.1 hz with hz|hz
    ·exact .inl ⟨z,hz,h1,h2⟩
    ·rw[List.mem_singleton] at hz;subst hz;exact .inr h2
  ·rename_i hk
   rw[h.vm];constructor
   ·rintro⟨z,hz,h1,h2⟩;exact⟨z,List.mem_append.2 (.inl hz),h1,h2⟩
   ·rintro⟨z,hz,h1,h2⟩;rcases List.mem_append.1 hz with hz|hz
    ·exact⟨z,hz,h1,h2⟩
    ·rw[List.mem_singleton] at hz;subst hz;exact(hk (jD hN h1).symm).elim
theorem dS.len{N:List Txt}{X:List Ed}{U V:Nat→List Hp}(h:dS N X U V)(k:Nat):(U k).length≤X.length∧(V k).length≤X.length:=by
 constructor
 ·have:=fH (L:=U k) (M:=X.map fun x=>(⟨x.lb,(eL N x.to:Int)⟩:Hp)) ((h.up k).nodup JJ) (fun y hy=>by
   obtain⟨x,hx,-,e⟩:=(h.um k y).1 hy;exact List.mem_map.2 ⟨x,hx,e.symm⟩)
  simpa using this
 ·have:=fH (L:=V k) (M:=X.map fun x=>(⟨x.lb,(eL N x.fr:Int)⟩:Hp)) ((h.vp k).nodup JJ) (fun y hy=>by
   obtain⟨x,hx,-,e⟩:=(h.vm k y).1 hy;exact List.mem_map.2 ⟨x,hx,e.symm⟩)
  simpa using this
theorem dS.out{N:List Txt}{X:List Ed}{U V:Nat→List Hp}(h:dS N X U V){k:Nat}(hk:N.length≤k):U k=[]∧V k=[]:=by
 constructor
 ·refine List.eq_nil_iff_forall_not_mem.2 fun y hy=>?_
  obtain⟨x,-,e,-⟩:=(h.um k y).1 hy;rw[List.getElem?_eq_none hk] at e;cases e
 ·refine List.eq_nil_iff_forall_not_mem.2 fun y hy=>?_
  obtain⟨x,-,e,-⟩:=(h.vm k y).1 hy;rw[List.getElem?_eq_none hk] at e;cases e
theorem pC{N:List Txt}{X:List Ed}{U V:Nat→List Hp}(h:dS N X U V):∀k,(eH N U k).length≤N.length*X.length
 | 0=>by simp[eH]
 | k+1=>by
  have key:∀j,j≤N.length→(eH N U j).length≤j*X.length:=fun j=>by
   induction j with
   | zero=>intro _;simp[eH]
   | succ j ih =>
    intro hj;have h1:=ih (by omega);have h2:=(h.len j).1;rw[kJ,List.length_append,List.length_map,Nat.add_mul];omega
  by_cases hk:k+1≤N.length
  ·exact Nat.le_trans (key _ hk) (Nat.mul_le_mul_right _ hk)
  ·have h1:=pC h k;rw[kJ,(h.out (by omega)).1];simpa using h1
theorem vI{N:List Txt}{X:List Ed}{U V:Nat→List Hp}(h:dS N X U V)(he:∀x∈X,x.fr∈N∧x.to∈N)(y:Ed):y∈eH N U N.length↔y∈X:=by
 unfold eH;simp only[List.mem_flatMap,List.mem_range,List.mem_map]
 constructor
 ·rintro⟨k,hk,z,hz,rfl⟩;obtain⟨x,hx,h1,rfl⟩:=(h.um k z).1 hz;unfold FO;dsimp only
  rw[h1,Int.toNat_natCast,dV (he x hx).2];exact hx
 ·intro hy;refine⟨eL N y.fr,fW (he y hy).1,⟨y.lb,(eL N y.to:Int)⟩,(h.um _ _).2 ⟨y,hy,dV (he y hy).1,rfl⟩,?_⟩;unfold FO;dsimp only
  rw[dV (he y hy).1,Int.toNat_natCast,dV (he y hy).2];rfl
theorem GOk.few{G:Gr}(h:GOk G):G.N.length≤32∧G.X.length≤256:=by
 have hc:=rX h.may;have h1:=fH h.nd (M:=gN G.N G.X) (fun s hs=>lP.2 (.inl hs));have h2:=fH h.xd (M:=gE G.X) (fun s hs=>gK.2 hs);unfold eG at hc;split at hc
 ·cases hc
 split at hc
 ·cases hc
 split at hc
 ·cases hc
 omega
theorem LI{G:Gr}(h:GOk G){U V:Nat→List Hp}(ho:dS G.N G.X U V):ofI G.N (eH G.N U G.N.length)=0∧ofN G.N (eH G.N U G.N.length)=eW G∧ofE G.N (eH G.N U G.N.length)=eR G:=by
 have hm:=vI ho h.ends;have h1:ofI G.N (eH G.N U G.N.length)=ofI G.N G.X:=rY (fun s=>by simp only[hm]) hm (fun s hs=>.inl hs) (fun s hs=>.inl hs);have h0:=h1.trans h.may;refine⟨h0,?_,?_⟩
 ·unfold ofN;rw[if_pos h0];exact wW (fun s=>by simp only[hm])
 ·unfold ofE;rw[if_pos h0];exact wX hm
theorem PL{G:Gr}(h:GOk G){U V:Nat→List Hp}(ho:dS G.N G.X U V):RB G.N (eH G.N U G.N.length):=by
 have hf:=h.few;have hs:=kW.of (lQ h.may);have hl:=pC ho G.N.length;have h8:G.N.length*G.X.length≤32*256:=Nat.mul_le_mul hf.1 hf.2;refine⟨by omega,by omega,fun t ht=>by have:=hs.n t ht;unfold dA;omega,fun x hx=>?_⟩;have:=hs.e x ((vI ho h.ends x).1 hx);unfold oD dA;omega
def VF(w:World)(G:Gr)(e:Ending)(w':World):Prop:=
 ∃A c B d,e=.returned (dX A (eW G).length c B (eR G).length d)∧w'.ownsRow w.heap.size 9 1 (.slice A (eW G).length c) (eW G).length (aG (eW G))∧w'.ownsRow w.heap.size 23 3 (.slice B (eR G).length d) (eR G).length (aT (eR G))∧Below w.heap.size w w'
theorem PM(w:World)(F:Nat→Prop)(p:Nat)(G:Gr)(h:GrS w F p G)(ok:GOk G):Calls Tryz.prog 54 #[.pointer (some ⟨p,0,none⟩)] w (VF w G):=by
 obtain⟨U,V,hg,ho⟩:=h;have hf:=ok.few;have hd:=LI ok ho;have h8:G.N.length*G.X.length≤32*256:=Nat.mul_le_mul hf.1 hf.2;refine(LH w F p G.N U V _ hg (by omega) (fun k=>by have:=pC ho k;omega) (fun k x hx=>?_) (PL ok ho)).mono ?_
 ·obtain⟨y,hy,-,rfl⟩:=(ho.um k x).1 hx;exact⟨Int.natCast_nonneg _,by simpa using fW (ok.ends y hy).2⟩
 ·rintro e w' ⟨A,c,B,d,rfl,o1,o2,b⟩;rw[hd.2.1] at o1 ⊢;rw[hd.2.2] at o2 ⊢;exact⟨A,c,B,d,rfl,o1,o2,b⟩
open Go.RowKit
theorem dS.has{N:List Txt}{X:List Ed}{U V:Nat→List Hp}(h:dS N X U V)(he:∀x∈X,x.fr∈N∧x.to∈N){x:Ed}(hf:x.fr∈N)(ht:x.to∈N):(⟨x.lb,(eL N x.to:Int)⟩:Hp)∈U (eL N x.fr)↔x∈X:=by
 rw[h.um];constructor
 ·rintro⟨y,hy,h1,h2⟩;rw[dV hf] at h1;injection h1 with h1;injection h2 with h2 h3;have:=tE ht (he y hy).2 h3;obtain⟨a,b,c⟩:=x;obtain⟨a',b',c'⟩:=y;dsimp only at h1 h2 this
  subst h1;subst h2;subst this;exact hy
 ·intro hx;exact⟨x,hx,dV hf,rfl⟩
theorem pE{N:List Txt}{s:Txt}(h:s∈N):JC N s=(eL N s:Int)+1:=by unfold JC;rw[if_pos (bK.2 h)]
theorem tF{N:List Txt}{s:Txt}(h:s ∉ N):JC N s=0:=by unfold JC;rw[if_neg (fun e=>h (bK.1 e))]
theorem SH(w:World)(F:Nat→Prop)(p:Nat)(G:Gr)(h:GrS w F p G)(ok:GOk G)(x:Ed)(k0:dA x.fr)(k2:dA x.to) :
  Calls Tryz.prog 23 #[.pointer (some ⟨p,0,none⟩),.string x.fr,.string x.lb,.string x.to] w (Sam w (.bool (decide (x∈G.X)))):=by
 obtain⟨U,V,⟨O,⟨r,nv,ov,iv,fo,fi⟩,hg,-⟩,ho⟩:=h;have q1:w.cell? ⟨p,1,none⟩=some (.map (some r)):=hg.blk.cell 1;have l0:=iH hg.map x.fr k0;have l1:=iH hg.map x.to k2;by_cases hf:x.fr∈G.N
 ·rw[pE hf] at l0;have hlf:=fW hf;have hN:=ok.few.1;obtain⟨i,hi⟩:∃i,eL G.N x.fr=i:=⟨_,rfl⟩;rw[hi] at l0 hlf;have z0:((i:Int)+1==0)=false:=by simp;omega
  by_cases ht:x.to∈G.N
  ·rw[pE ht] at l1;have hlt:=fW ht;obtain⟨j,hj⟩:∃j,eL G.N x.to=j:=⟨_,rfl⟩;rw[hj] at l1 hlt;have z1:((j:Int)+1==0)=false:=by simp;omega
   have w0:IntKind.i64.wrap (i:Int)=(i:Int):=IntWalk.i64_in _ (by omega);have w1:IntKind.i64.wrap (j:Int)=(j:Int):=IntWalk.i64_in _ (by omega);have hdec:decide ((⟨x.lb,(j:Int)⟩:Hp)∈U i)=decide (x∈G.X):=by rw[← hi,← hj];exact decide_eq_decide.2 (ho.has ok.ends hf ht)
   obtain⟨og,oc,eo,-,co,-⟩:=iN hg.ro hlf;dsimp only at eo co
   subst eo;obtain⟨A,cA,eA,-,-⟩:=aH (hg.fo i);dsimp only at eA
   have hrow:=hg.fo i;dsimp only at hrow
   rw[eA] at co hrow;have hUl:=(ho.len i).1;have hX:=ok.few.2;have hcon:=fun W (hb:Below w.heap.size w W)=>DF W A cA (U i) ⟨x.lb,(j:Int)⟩ ((bO.of_own hrow).below hb) (ho.up i) (by omega)
   rw[hdec] at hcon;obtain⟨m,hm⟩:∃m,(U i).length=m:=⟨_,rfl⟩;rw[hm] at hcon co;obtain⟨n,hn⟩:∃n,G.N.length=n:=⟨_,rfl⟩;have q2:w.cell? ⟨p,2,none⟩=some (.slice (some ⟨og,0,none⟩) n oc):=by rw[← hn];exact hg.blk.cell 2
   rw[hn] at hlf hlt hN;have SR:=hIz (show ∀W,Below w.heap.size w W→W.cell? ⟨p,1,none⟩=some (.map (some r))∧W.cell? ⟨p,2,none⟩=some (.slice (some ⟨og,0,none⟩) n oc)∧W.cell? ⟨og,i,none⟩=some (.slice A m cA)∧(Instr.lookup 128 (.map (some r)) (.string x.fr) false).run Tryz.prog W=.ok (.int .i64 ((i:Int)+1)) W∧(Instr.lookup 128 (.map (some r)) (.string x.to) false).run Tryz.prog W=.ok (.int .i64 ((j:Int)+1)) W from fun W hb=>by
    have hu:=Upd.of_below hb (fun _=>False);have hm':=hg.map.upd hu id;have hblk:=hg.blk.upd hu id;have lo:=World.block_lt_of_cell? w _ co;refine⟨hblk.cell 1,by rw[← hn];exact hblk.cell 2,by rw[hu.cell (p:=⟨og,i,none⟩) lo id];exact co,?_,?_⟩
    ·have:=iH hm' x.fr k0;rwa [pE hf,hi] at this
    ·have:=iH hm' x.to k2;rwa [pE ht,hj] at this)
   have hS:=SR.out w.drew (Below.refl _ w).drew;clear hg ho hrow hUl hX eA hi hj hm hn hdec ok;have hlfI:(i:Int)<(n:Int):=by omega
   go_enter Tryz.func23,Tryz.ntmps23;go_wp2_with fail;refine(iR w p r q1).mono ?_;rintro e w' ⟨rfl,hw⟩;subst w';go_upto_region 3 with (fail);clear q1 q2 co l0 l1;have HB:=hIz (show Below w.heap.size w w.drew from(Below.refl _ w).drew);refine aN (fun W=>W.cell? ⟨p,1,none⟩=some (.map (some r))∧W.cell? ⟨p,2,none⟩=some (.slice (some ⟨og,0,none⟩) n oc)∧W.cell? ⟨og,i,none⟩=some (.slice A m cA)∧(Instr.lookup 128 (.map (some r)) (.string x.fr) false).run Tryz.prog W=.ok (.int .i64 ((i:Int)+1)) W∧(Instr.lookup 128 (.map (some r)) (.string x.to) false).run Tryz.prog W=.ok (.int .i64 ((j:Int)+1)) W) 28 [(0,true),(1,true),(2,true),(3,true),(4,true),(5,true),(6,true),(7,true),(8,true),(9,true),(10,true),(11,true),(12,true),(13,true),(14,true),(15,true),(16,true),(17,true),(18,true),(19,true),(20,true),(21,true),(22,false),(23,true),(24,true),(25,true),(26,true),(27,true)] hS ?_;generalize w.drew=W1 at HB hS ⊢
   iterate 22 refine aD rfl ?_
   refine aK rfl rfl (fun K hK=>?_);have hc:=hcon W1 HB.out;unfold Hp.agg at hc;dsimp only at hc
   go_simp;refine hc.mono ?_;rintro e W2 ⟨rfl,b2⟩;have HB2:=hIz (tHn HB.out b2);refine hK _ _ (fun _=>SR.out _ HB2.out) ?_;clear hK K hS hc hcon b2;(try simp only[Act.put,gA,gS,gZ,sA,sZ,sS])
   iterate 5 refine aD rfl ?_
   refine aJ ?_;go_wp2;go_ret;exact⟨rfl,HB2.out⟩
  ·rw[tF ht] at l1;have hx:decide (x∈G.X)=false:=decide_eq_false fun hx=>ht (ok.ends x hx).2
   rw[hx];clear hg ho hi ok;go_enter Tryz.func23,Tryz.ntmps23;go_wp2_with fail;refine(iR w p r q1).mono ?_;rintro e w' ⟨rfl,hw⟩;subst w';go_wp2;go_ret;exact⟨rfl,Below.refl _ _⟩
 ·rw[tF hf] at l0;have hx:decide (x∈G.X)=false:=decide_eq_false fun hx=>hf (ok.ends x hx).1
  rw[hx];clear hg ho ok l1;go_enter Tryz.func23,Tryz.ntmps23;go_wp2_with fail;refine(iR w p r q1).mono ?_;rintro e w' ⟨rfl,hw⟩;subst w';go_wp2;go_ret;exact⟨rfl,Below.refl _ _⟩
open Go.RowKit
def VG(w:World)(L:List Hp)(e:Ending)(w':World):Prop:=∃v,e=.returned v∧w'.ownsRow w.heap.size 145 2 v L.length (aR L)∧Below w.heap.size w w'
theorem zA(w:World)(A:Option Addr)(c:Nat)(L:List Hp)(h:bO w A (aR L))(hl:L.length*24≤140737488355328) :
  Calls Tryz.prog 89 #[.slice A L.length c] w (VG w L):=by
 have heq:=fun (A:Option Addr) (n c n' c':Nat) (w:World)=>Lib.run_eql_slice_nil (P:=Tryz.prog) w 143 145 A n c n' c' Tryz.underlying143
 rcases A with _|⟨gb,go,sp⟩
 ·have hL:L=[]:=by
   cases L with
   | nil=>rfl
   | cons s L=>obtain⟨b,o,e,-⟩:=h 0 (.string s.lb) rfl;cases e
  subst hL;clear h hl;go_enter Tryz.func89,Tryz.ntmps89;go_wp2;go_ret;exact⟨_,rfl,World.ownsRow_nil _ _ _ _,Below.refl _ _⟩
 ·obtain⟨i0,hi0,hz0,hz1,hz2⟩:=info_parts lJ;have b1:Below w.heap.size w (w.alloc (.cells #[] 145)):=bR.alloc (Nat.le_refl _) _;have hr:=(h.below b1).reads (dH L) (by decide);have own:(w.alloc (.cells #[] 145)).ownsRow w.heap.size 145 2 (.slice (some ⟨w.heap.size,0,none⟩) 0 0) 0 []:=⟨rfl,.inr ⟨w.heap.size,0,#[],rfl,Nat.le_refl _,heap_alloc_new w _,Nat.le_refl _,by decide,rfl,rfl⟩⟩;obtain⟨v',w',happ,own',gr,-,-⟩:=run_append_own_at (P:=Tryz.prog) (w.alloc (.cells #[] 145)) w.heap.size 143 143 145 i0 _ 2 24 Tryz.underlying143 hi0 hz0 hz1 hz2 rfl (by decide) (.slice (some ⟨w.heap.size,0,none⟩) 0 0) 0 [] own ⟨gb,go,sp⟩ L.length c (aR L) (dH L) (hr.2.2 _ rfl) (DE L) (by unfold maxLen;omega) (by omega) (by simp);have fin:VG w L (.returned v') w':=⟨v',rfl,by simpa using own',b1.grown gr (by simp) (fun k hk=>by simp[Value.ownBlock] at hk;omega)⟩;have FIN:=hIz fin;clear fin own own' gr hr b1 hi0 hz0 hz1 hz2 h;go_enter Tryz.func89,Tryz.ntmps89;go_wp2_with (at_builtin;refine wpList_append_run rfl _ _ _ rfl rfl rfl happ ?_);go_ret;exact FIN.out

def gQ(B:Nat)(p:Nat)(G:Gr)(w':World):Prop:=∃F,GrS w' F p G∧(∀k,F k→B≤k)
theorem gQ.step{B p:Nat}{G':Gr}{w w':World}{F:Nat→Prop}(hF:∀k,F k→B≤k)(hB:B≤w.heap.size)(h:CR w F p G' w'):gQ B p G' w'∧Below B w w':=by
 obtain⟨F',g,u,n⟩:=h;refine⟨⟨F',g,fun k hk=>?_⟩,u.below (fun i _ hi=>hF i hi) hB⟩;rcases n k hk with h|h
 ·exact hF k h
 ·omega
theorem gQ.below{B p:Nat}{G:Gr}{w w':World}(h:gQ B p G w)(hb:Below w.heap.size w w'):gQ B p G w':=by
 obtain⟨F,g,n⟩:=h;exact⟨F,g.below hb,n⟩
def FP(w:World)(G:Gr)(f:Value→Value)(e:Ending)(w':World):Prop:=∃p,e=.returned (f (.pointer (some ⟨p,0,none⟩)))∧gQ w.heap.size p G w'∧Below w.heap.size w w'
theorem PN(w:World):gQ w.heap.size (w.heap.size+1) ⟨[],[]⟩ ((w.alloc (.map #[] 0)).alloc (.cells #[.slice none 0 0,.map (some w.heap.size),.slice none 0 0,.slice none 0 0,.int .i64 0] 131)):=by
 have k1:=Blk.new (w.alloc (.map #[] 0)) 131 #[.slice none 0 0,.map (some w.heap.size),.slice none 0 0,.slice none 0 0,.int .i64 0];have hz:(w.alloc (.map #[] 0)).heap.size=w.heap.size+1:=by simp
 rw[hz] at k1;refine⟨fun k=>(if k=w.heap.size+1 then some Ro.p else if k=w.heap.size then some Ro.m else none)≠none,⟨fun _=>[],fun _=>[],⟨fun k=>if k=w.heap.size+1 then some Ro.p else if k=w.heap.size then some Ro.m else none,⟨w.heap.size,.slice none 0 0,.slice none 0 0,.slice none 0 0,fun _=>.slice none 0 0,fun _=>.slice none 0 0⟩,⟨k1,(cY.made w _ _).alloc _,World.ownsRow_nil _ _ _ _,World.ownsRow_nil _ _ _ _,World.ownsRow_nil _ _ _ _,fun _=>World.ownsRow_nil _ _ _ _,fun _=>World.ownsRow_nil _ _ _ _,if_pos rfl,?_,?_,?_,?_,?_,?_,?_,fun _ _=>⟨rfl,rfl⟩⟩,rfl⟩,dS.new⟩,?_⟩
 ·show(if w.heap.size=w.heap.size+1 then some Ro.p else if w.heap.size=w.heap.size then some Ro.m else none)=some Ro.m
  rw[if_neg (by omega),if_pos rfl]
 ·intro k hk;simp[Value.ownBlock] at hk
 ·intro k hk;simp[Value.ownBlock] at hk
 ·intro k hk;simp[Value.ownBlock] at hk
 ·intro j k hk;simp[Value.ownBlock] at hk
 ·intro j k hk;simp[Value.ownBlock] at hk
 ·intro k hk;simp only[World.size_alloc] at *
  split at hk
  ·omega
  split at hk
  ·omega
  ·exact absurd rfl hk
 ·intro k hk;split at hk
  ·omega
  split at hk
  ·omega
  ·exact absurd rfl hk
theorem vJ(w:World):Calls Tryz.prog 16 #[] w (FP w ⟨[],[]⟩ id):=by
 have FIN:=hIz (PN w);have HB:=hIz (show Below w.heap.size w ((w.alloc (.map #[] 0)).alloc (.cells #[.slice none 0 0,.map (some w.heap.size),.slice none 0 0,.slice none 0 0,.int .i64 0] 131)) from(bR.alloc (Nat.le_refl _) _).alloc (by simp) _);have hmm:=@run_makeMap Tryz.prog;go_enter Tryz.func16,Tryz.ntmps16;go_wp2;go_ret;exact⟨_,rfl,FIN.out,HB.out⟩
theorem LJ(w:World)(F:Nat→Prop)(p:Nat)(G:Gr)(h:GrS w F p G)(ok:GOk G):Calls Tryz.prog 52 #[.pointer (some ⟨p,0,none⟩)] w (CP w G.N):=by
 obtain⟨U,V,⟨O,⟨r,nv,ov,iv,fo,fi⟩,hg,-⟩,-⟩:=h;have hN:=ok.few.1;have q1:w.cell? ⟨p,1,none⟩=some (.map (some r)):=hg.blk.cell 1;obtain⟨nA,nc,e1,-,-⟩:=aH hg.rn;dsimp only at e1
 subst e1;have hcon:=eP w nA nc G.N (bO.of_own hg.rn) (by omega);obtain⟨n,hn⟩:∃n,G.N.length=n:=⟨_,rfl⟩;have q0:w.cell? ⟨p,0,none⟩=some (.slice nA n nc):=by rw[← hn];exact hg.blk.cell 0
 rw[hn] at hcon;clear hg hn hN;go_enter Tryz.func52,Tryz.ntmps52;go_wp2_with fail;refine(iR w p r q1).mono ?_;rintro e w' ⟨rfl,hw⟩;subst w';go_wp2_with fail;refine hcon.mono ?_;rintro e w' ⟨v,rfl,o,b⟩;have FIN:=hIz (show CP w G.N (.returned v) w' from⟨v,rfl,o,b⟩);clear o b hcon;go_wp2;go_ret;exact FIN.out
def QX(N:List Txt)(s:Txt):Value:=if inB s N=true then .tuple #[.int .i64 (eL N s),.int .i64 0] else .tuple #[.int .i64 0,.int .i64 4]
theorem tG(w:World)(F:Nat→Prop)(p:Nat)(G:Gr)(h:GrS w F p G)(ok:GOk G)(s:Txt)(hk:dA s):Calls Tryz.prog 48 #[.pointer (some ⟨p,0,none⟩),.string s] w (nE w (QX G.N s)):=by
 obtain⟨U,V,⟨O,⟨r,nv,ov,iv,fo,fi⟩,hg,-⟩,-⟩:=h;have hN:=ok.few.1;have q1:w.cell? ⟨p,1,none⟩=some (.map (some r)):=hg.blk.cell 1;have l0:=iH hg.map s hk;unfold QX;by_cases hs:s∈G.N
 ·rw[if_pos (bK.2 hs)];have hlt:=fW hs;rw[pE hs] at l0;generalize eL G.N s=i at l0 hlt ⊢;have z0:((i:Int)+1==0)=false:=by simp;omega
  have w0:IntKind.i64.wrap (i:Int)=(i:Int):=IntWalk.i64_in _ (by omega);clear hg;go_enter Tryz.func48,Tryz.ntmps48;go_wp2_with fail;refine(iR w p r q1).mono ?_;rintro e w' ⟨rfl,hw⟩;subst w';go_wp2;refine bodyPost_ret (v:=.tuple #[.int .i64 (i:Int),.int .i64 0]) (by simp[results,Tryz.f48,go_sem]) rfl ⟨rfl,rfl⟩
 ·rw[if_neg (fun e=>hs (bK.1 e))];rw[tF hs] at l0;clear hg;go_enter Tryz.func48,Tryz.ntmps48;go_wp2_with fail;refine(iR w p r q1).mono ?_;rintro e w' ⟨rfl,hw⟩;subst w';go_wp2;refine bodyPost_ret (v:=.tuple #[.int .i64 0,.int .i64 4]) (by simp[results,Tryz.f48,go_sem]) rfl ⟨rfl,rfl⟩
theorem FQ(w:World)(b:Nat)(es:Array MapEntry)(clock:Nat)(hb:w.heap[b]?=some (.map es clock)) :
  Calls Tryz.prog 88 #[.map (some b)] w fun e w'=>e=.returned (.map (some w.heap.size))∧w'=w.alloc (.map es clock):=by
 have hq:=fun w=>run_eql_map_nil_sl (P:=Tryz.prog) w 128 _ _ (some b) Tryz.underlying128
 go_enter Tryz.func88,Tryz.ntmps88;go_wp2;rw[run_callFunc_extern Tryz.func131 (by kernel_rfl) (by kernel_rfl) (by kernel_rfl) (e:=Extern.MapsClone.clone) (by kernel_rfl),run_maps_clone_sl w 128 hb];simp only[Result.andThen]
 rw[Oper.upon_value];go_wp2;rw[run_typeAssert_map_sl _ 128 20 _ _ _ Tryz.underlying128];simp only[Result.andThen]
 rw[Oper.upon_value];go_wp2;go_ret;exact⟨rfl,rfl⟩
open Go.RowKit
theorem mB{N:List Txt}{E:List Ed}(h:mO N E=true):eO ltT N∧eO ltE E∧∀x∈E,x.fr∈N∧x.to∈N:=by
 unfold mO at h;rw[Bool.and_eq_true,Bool.and_eq_true,List.all_eq_true] at h;refine⟨fR gJ h.1,fR qI h.2.1,fun x hx=>?_⟩;have:=h.2.2 x hx;unfold lH at this;rw[Bool.and_eq_true,bK,bK] at this;exact this
theorem PO{N M:List Txt}{E:List Ed}(h:eO ltT N)(_he:∀x∈E,x.fr∈N∧x.to∈N)(hm:∀s,s∈N↔s∈M∨∃x∈E,s=x.fr∨s=x.to):gN M E=N:=
 gG gJ (fS h) (fun s=>(hm s).trans oP.symm)
theorem PP{E:List Ed}(h:eO ltE E):gE E=E:=gG qI (fS h) (fun _=>Iff.rfl)
theorem LK{N M:List Txt}{E:List Ed}(h:eJ N E=0)(hM:∀s,s∈N↔s∈M∨∃x∈E,s=x.fr∨s=x.to):ofI M E=0∧gN M E=N∧gE E=E:=by
 obtain⟨h1,h2,h3⟩:=eY h;obtain⟨f1,f2,f3⟩:=mB h1;have e1:=PO f1 f3 hM;have e2:=PP f2;refine⟨?_,e1,e2⟩;have hn:=fB.1 h2;have hn':cV M E=true:=fB.2 ⟨fun s hs=>hn.1 s ((hM s).2 (.inl hs)),hn.2⟩;rw[ofI,if_neg (by rw[hn'];simp),e1,e2,h3]
theorem qX{N:List Txt}{E:List Ed}(h:ofI N E=0):eJ (gN N E) (gE E)=0:=by
 have hn:=fB.1 (lQ h);have u1:=(cG gJ (rS N E)).up;have u2:=(cG qI E).up;have hf:mO (gN N E) (gE E)=true:=by
  unfold mO;rw[Bool.and_eq_true,Bool.and_eq_true,List.all_eq_true];refine⟨fS u1,fS u2,fun x hx=>?_⟩;unfold lH;rw[Bool.and_eq_true,bK,bK];have:=gK.1 hx;exact⟨lP.2 (.inr ⟨x,this,.inl rfl⟩),lP.2 (.inr ⟨x,this,.inr rfl⟩)⟩
 have hm:cV (gN N E) (gE E)=true:=by
  refine fB.2 ⟨fun s hs=>?_,fun x hx=>hn.2 x (gK.1 hx)⟩;rcases lP.1 hs with h1|⟨x,hx,rfl|rfl⟩
  ·exact hn.1 s h1
  ·exact(hn.2 x hx).1
  ·exact(hn.2 x hx).2.2
 rw[eJ,if_neg (by rw[hf];simp),if_neg (by rw[hm];simp),rX h]
open Go.RowKit
theorem FR{N M:List Txt}{E F:List Ed}(h:eJ N E=0)(hN:∀s,s∈M↔s∈N)(hE:∀x,x∈F↔x∈E):ofI M F=0∧gN M F=N∧gE F=E:=by
 obtain⟨f1,f2,f3⟩:=mB (eY h).1;obtain⟨a,b,c⟩:=LK h (M:=N) (fun s=>⟨.inl,fun hs=>by
  rcases hs with hs|⟨x,hx,rfl|rfl⟩
  ·exact hs
  ·exact(f3 x hx).1
  ·exact(f3 x hx).2⟩)
 have hends:∀s,(s∈M∨∃x∈F,s=x.fr∨s=x.to)↔(s∈N∨∃x∈E,s=x.fr∨s=x.to):=fun s=>by
  constructor
  ·rintro (hs|⟨x,hx,hs⟩)
   ·exact .inl ((hN s).1 hs)
   ·exact .inr ⟨x,(hE x).1 hx,hs⟩
  ·rintro (hs|⟨x,hx,hs⟩)
   ·exact .inl ((hN s).2 hs)
   ·exact .inr ⟨x,(hE x).2 hx,hs⟩
 refine⟨?_,by rw[wW hends,b],by rw[wX hE,c]⟩;rw[rY hends hE (fun s hs=>.inl ((hN s).1 hs)) (fun s hs=>.inl ((hN s).2 hs)),a]
open Go.RowKit
theorem kY{G:Gr}{x:Ed}(hx:x ∉ G.X)(h:ofI G.N (G.X++[x])=0):aM G x=(⟨cI (cI G.N x.fr) x.to,G.X++[x]⟩,true,0):=by
 unfold aM;rw[if_neg hx,if_pos h]
theorem AX{G:Gr}{s:Txt}(h:s∈G.N):cL G s=(G,false,0):=by
 unfold cL;rw[if_pos (bK.2 h)]
theorem vK(G:Gr)(x:Ed):((aM G x).2.1=true→(aM G x).2.2=0)∧((aM G x).2.1=false→(aM G x).1=G)∧((aM G x).2.2=0→x∈(aM G x).1.X)∧(∃M,(aM G x).1.N=G.N++M)∧(∀y∈G.X,y∈(aM G x).1.X)∧((aM G x).2.2≠0→ofI G.N (G.X++[x])≠0)∧((aM G x).2.1=true→x ∉ G.X):=by
 unfold aM;split
 ·rename_i h
  exact⟨fun e=>(by cases e),fun _=>rfl,fun _=>h,⟨[],by simp⟩,fun _ h=>h,fun e=>absurd rfl e,fun e=>by cases e⟩
 split
 ·rename_i h h2
  refine⟨fun _=>rfl,fun e=>(by cases e),fun _=>by simp,?_,fun y hy=>List.mem_append.2 (.inl hy),fun e=>absurd rfl e,fun _=>h⟩;have key:∀(N:List Txt) s,∃M,cI N s=N++M:=fun N s=>by
   unfold cI;split
   ·exact⟨[],by simp⟩
   ·exact⟨[s],rfl⟩
  obtain⟨M,e1⟩:=key G.N x.fr;obtain⟨M',e2⟩:=key (cI G.N x.fr) x.to;exact⟨M++M',by dsimp only;rw[e2,e1,List.append_assoc]⟩
 ·rename_i h h2
  exact⟨fun e=>(by cases e),fun _=>rfl,fun e=>absurd e h2,⟨[],by simp⟩,fun _ h=>h,fun e=>e,fun e=>by cases e⟩
theorem vL(G:Gr)(s:Txt):((cL G s).2.1=true→(cL G s).2.2=0)∧((cL G s).2.1=false→(cL G s).1=G)∧((cL G s).2.2=0→s∈(cL G s).1.N)∧(∃M,(cL G s).1.N=G.N++M)∧(cL G s).1.X=G.X∧((cL G s).2.1=true→s ∉ G.N):=by
 unfold cL;split
 ·rename_i h
  exact⟨fun e=>(by cases e),fun _=>rfl,fun _=>bK.1 h,⟨[],by simp⟩,rfl,fun e=>by cases e⟩
 split
 ·rename_i h h2
  exact⟨fun _=>rfl,fun e=>(by cases e),fun _=>by simp,⟨[s],rfl⟩,rfl,fun _ hs=>h (bK.2 hs)⟩
 ·rename_i h h2
  exact⟨fun e=>(by cases e),fun _=>rfl,fun e=>absurd e h2,⟨[],by simp⟩,rfl,fun e=>by cases e⟩
structure UD(G G1 G2:Gr)(m1 m2:Bool)(e1 e2:Int)(x:Ed)(s:Txt):Prop where
 same:KI (eW G2) (eR G2) (eW G) (eR G)=!(m1||m2)
 fair:(m1=true→e1=0)∧(m2=true→e2=0)
 has:e1=0→x∈G2.X
 again:∃e,aM G2 x=(G2,false,e)∧(e1=0→e=0)
 twice:∃e,cL G2 s=(G2,false,e)∧(e2=0→e=0)
 more:∃M,G2.N=G.N++M
 may:eJ (eW G2) (eR G2)=0
theorem stays{G:Gr}(ok:GOk G)(x:Ed)(s:Txt):UD G (aM G x).1 (cL (aM G x).1 s).1 (aM G x).2.1 (cL (aM G x).1 s).2.1 (aM G x).2.2 (cL (aM G x).1 s).2.2 x s:=by
 obtain⟨a1,a2,a3,⟨M1,a4⟩,a5,a6,a7⟩:=vK G x;have ok1:=ok.edge x;obtain⟨b1,b2,b3,⟨M2,b4⟩,b5,b6⟩:=vL (aM G x).1 s;have ok2:=ok1.node s;generalize hG1:(aM G x).1=G1 at *;generalize hm1:(aM G x).2.1=m1 at *;generalize he1:(aM G x).2.2=e1 at *;generalize hG2:(cL G1 s).1=G2 at *;generalize hm2:(cL G1 s).2.1=m2 at *;generalize he2:(cL G1 s).2.2=e2 at *;have hin:m1=false→m2=false→G2=G:=fun h1 h2=>(b2 h2).trans (a2 h1)
 refine⟨?_,⟨a1,b1⟩,fun h=>by rw[b5];exact a3 h,?_,?_,⟨M1++M2,by rw[b4,a4,List.append_assoc]⟩,qX ok2.may⟩
 ·cases h1:m1 with
  | true =>
   have hx:=a7 h1;have hx2:x∈G2.X:=by rw[b5];exact a3 (a1 h1)
   have:eR G2≠eR G:=fun e=>hx (gK.1 (by show x∈eR G;rw[← e];exact gK.2 hx2))
   simp[KI,this]
  | false =>
   cases h2:m2 with
   | true =>
    have hs:=b6 h2;rw[a2 h1] at hs;have:eW G2≠eW G:=fun e=>hs ((nQ ok).1 (by rw[← e];exact(nQ ok2).2 (b3 (b1 h2))))
    simp[KI,this]
   | false =>
    rw[hin h1 h2];simp[KI]
 ·by_cases h:e1=0
  ·exact⟨0,by unfold aM;rw[if_pos (by rw[b5];exact a3 h)],fun _=>rfl⟩
  ·have h1:m1=false:=by
    cases h1:m1 with
    | true=>exact absurd (a1 h1) h
    | false=>rfl
   have hx:x ∉ G2.X:=by
    rw[b5,a2 h1];intro hx;apply h
    rw[← he1];unfold aM;rw[if_pos hx]
   have ho:ofI G2.N (G2.X++[x])≠0:=fun e=>a6 h (wV (fun t ht=>.inl (by rw[b4,a4];simp[ht])) (fun y hy=>by rw[b5,a2 h1];exact hy) e)
   exact⟨_,by unfold aM;rw[if_neg hx,if_neg ho],fun e=>absurd e h⟩
 ·by_cases h:e2=0
  ·exact⟨0,AX (b3 h),fun _=>rfl⟩
  ·have h2:m2=false:=by
    cases h2:m2 with
    | true=>exact absurd (b1 h2) h
    | false=>rfl
   have:=b2 h2;rw[this];refine⟨e2,?_,fun e=>absurd e h⟩;rw[← hm2,← he2] at *;exact Prod.ext (by rw[hG2];exact this) (Prod.ext h2 rfl)
open Go.RowKit
theorem gQ.mono{B B' p:Nat}{G:Gr}{w:World}(h:gQ B p G w)(hb:B'≤B):gQ B' p G w:=by
 obtain⟨F,g,n⟩:=h;exact⟨F,g,fun k hk=>Nat.le_trans hb (n k hk)⟩
theorem vM{N:List Txt}(hd:N.Nodup){k:Nat}{s:Txt}(h:N[k]?=some s):cI (N.take k) s=N.take (k+1):=by
 have hs:s ∉ N.take k:=fun hm=>by
  have e:=List.take_append_drop k N;obtain⟨hk,hk2⟩:=gO.1 h;have hmem:s∈N.drop k:=by
   rw[List.drop_eq_getElem_cons hk,hk2];simp
  rw[← e,List.nodup_append] at hd;exact hd.2.2 s hm s hmem rfl
 unfold cI;rw[if_neg (fun e=>hs (bK.1 e)),List.take_add_one,h];rfl
theorem FU{N:List Txt}{s:Txt}(h:s∈N):cI N s=N:=by unfold cI;rw[if_pos (bK.2 h)]
theorem qY{α:Type}{N:List α}(hd:N.Nodup){k:Nat}{s:α}(h:N[k]?=some s):s ∉ N.take k:=fun hm=>by
 have e:=List.take_append_drop k N;obtain⟨hk,hk2⟩:=gO.1 h;have hmem:s∈N.drop k:=by
  rw[List.drop_eq_getElem_cons hk,hk2];simp
 rw[← e,List.nodup_append] at hd;exact hd.2.2 s hm s hmem rfl
def FV(w:World)(N:List Txt)(E:List Ed)(e:Ending)(w':World):Prop:=
 (eJ N E≠0∧e=.returned (.tuple #[.pointer none,.int .i64 (eJ N E)])∧Below w.heap.size w w')∨(eJ N E=0∧FP w ⟨N,E⟩ (fun v=>.tuple #[v,.int .i64 0]) e w')
theorem AY{B p k:Nat}{N:List Txt}{w:World}(hd:N.Nodup)(h:gQ B p ⟨N.take k,[]⟩ w)(hB:B≤w.heap.size){s:Txt}(hs:N[k]?=some s)(hk:dA s)(hl:N.length≤32) :
  Calls Tryz.prog 62 #[.pointer (some ⟨p,0,none⟩),.string s] w (fun e w'=>(∃v,e=.returned v)∧gQ B p ⟨N.take (k+1),[]⟩ w'∧Below B w w'):=by
 obtain⟨F,⟨U,V,g,ho⟩,n⟩:=h;refine(sH w F p (N.take k) U V _ s g hk (by rw[List.length_take];omega)).mono ?_;rintro e w' ⟨rfl,F',g',u',n'⟩;have:=gQ.step (G':=⟨N.take (k+1),[]⟩) n hB ⟨F',⟨U,V,by rw[vM hd hs] at g';exact g',by have:=ho.node (fun x hx=>by cases hx) s;rw[vM hd hs] at this;exact this⟩,u',n'⟩;exact⟨⟨_,rfl⟩,this⟩
theorem BA{B p k:Nat}{N:List Txt}{E:List Ed}{w:World}(hN:N.Nodup)(hd:E.Nodup)(hends:∀x∈E,x.fr∈N∧x.to∈N)(h:gQ B p ⟨N,E.take k⟩ w)(hB:B≤w.heap.size){x:Ed}(hx:E[k]?=some x)(hk:oD x)(hl:N.length≤32)(he:E.length≤256) :
  Calls Tryz.prog 63 #[.pointer (some ⟨p,0,none⟩),x.agg] w (fun e w'=>(∃v,e=.returned v)∧gQ B p ⟨N,E.take (k+1)⟩ w'∧Below B w w'):=by
 obtain⟨F,⟨U,V,g,ho⟩,n⟩:=h;have hlt:(E.take k).length≤256:=by rw[List.length_take];omega
 have hUV:=fun k=>ho.len k
 dsimp only at ho hUV
 have hm:=hends x (mG hx);have hts:∀y∈E.take k,y.fr∈N∧y.to∈N:=fun y hy=>hends y (List.mem_of_mem_take hy)
 refine(yZ w F p N U V _ x g hk (by omega) (fun k=>⟨ho.up k,by have:=(hUV k).1;omega⟩) (fun k=>⟨ho.vp k,by have:=(hUV k).2;omega⟩) ⟨by omega,by dsimp only;omega⟩).mono ?_;rintro e w' ⟨rfl,F',g',u',n'⟩;have e1:cI (cI N x.fr) x.to=N:=by rw[FU hm.1,FU hm.2]
 rw[e1] at g';have e2:E.take k++[x]=E.take (k+1):=by rw[List.take_add_one,hx];rfl
 have hops:=ho.edge hN hts hm.1 hm.2 (qY hd hx);rw[e2] at hops;have e3:(((E.take (k+1)).length:Nat):Int)=((E.take k).length:Int)+1:=by rw[← e2];simp
 have:=gQ.step (G':=⟨N,E.take (k+1)⟩) n hB ⟨F',⟨_,_,by dsimp only;rw[e3];exact g',hops⟩,u',n'⟩;exact⟨⟨_,rfl⟩,this⟩
theorem PQ(w:World)(A:Option Addr)(c:Nat)(B:Option Addr)(d:Nat)(N:List Txt)(E:List Ed)(h:qL w A c B d N E) :
  Calls Tryz.prog 14 #[dX A N.length c B E.length d] w (FV w N E):=by
 have k0:=Blk.new w 52 #[.slice A N.length c,.slice B E.length d];have u0:Below w.heap.size w (w.alloc (.cells #[.slice A N.length c,.slice B E.length d] 52)):=bR.alloc (Nat.le_refl _) _;have H:=aI3 (h.below u0) k0 u0;clear h k0 u0;obtain⟨z,hz⟩:∃z,eJ N E=z:=⟨_,rfl⟩;have HZ:=hIz hz;clear hz;unfold dX;obtain⟨n,hn⟩:∃n,N.length=n:=⟨_,rfl⟩;obtain⟨m,hm⟩:∃m,E.length=m:=⟨_,rfl⟩;have hche:=fun W hG=>AJ W A c B d N E hG
 unfold dX at hche;rw[hn,hm] at H hche ⊢;have HL:=aI2 hn hm;clear hn hm;go_enter Tryz.func14,Tryz.ntmps14;go_upto_region 1 with (fail);generalize w.alloc (.cells #[.slice A n c,.slice B m d] 52)=W0 at H ⊢;have q0:W0.cell? ⟨w.heap.size,0,none⟩=some (.slice A n c):=H.out.2.1.cell 0;have q1:W0.cell? ⟨w.heap.size,1,none⟩=some (.slice B m d):=H.out.2.1.cell 1;have hcon:=hche W0 H.out.1;rw[HZ.out] at hcon;go_wp2_with fail;refine hcon.mono ?_;clear hcon hche q0 q1;rintro e W1 ⟨rfl,b1⟩;have H1:=aI3 (H.out.1.below b1) (H.out.2.1.upd (upF b1) id) (tHn H.out.2.2 b1);clear b1;by_cases h0:z=0
 ·subst h0;have hc:=eY HZ.out;have hform:=mB hc.1;have hcap:=PK hc.2.2;have hn32:n≤32:=by rw[← HL.out.1];exact hcap.1
  have hm256:m≤256:=by rw[← HL.out.2];exact hcap.2.2.1
  have HF:=aI4 (hform.1.nodup gJ) (hform.2.1.nodup qI) hform.2.2 H.out.1.fit;clear hc hform hcap;go_wp2_with fail;refine(vJ W1).mono ?_;rintro e W2 ⟨p,rfl,fr2,b2⟩;have H2:=aI2 fr2 b2;have q0:W2.cell? ⟨w.heap.size,0,none⟩=some (.slice A n c):=(H1.out.2.1.upd (upF b2) id).cell 0;clear b2 fr2;go_wp2_with fail;clear q0;go_loopw [19] (fun i wr=>∃k:Nat,k≤n∧i=.int .i64 k∧Hid (gQ W1.heap.size p ⟨N.take k,[]⟩ wr)∧Hid (Below W1.heap.size W1 wr)) (fun i _=>n-(intOf i).toNat)
  case atStart=>exact⟨0,Nat.zero_le _,rfl,hIz H2.out.1,hIz H2.out.2⟩
  case round =>
   obtain⟨k,hk,rfl,hfr,hbw⟩:=hrel;by_cases hlt:k<n
   ·have hltI:(k:Int)<(n:Int):=by omega
    have hkw:IntKind.i64.wrap ((k:Int)+1)=(k:Int)+1:=IntWalk.i64_in _ (by omega);obtain⟨s,hs⟩:∃s,N[k]?=some s:=⟨N[k]'(by rw[HL.out.1];exact hlt),gEz _⟩;obtain⟨ab,ao,rfl,y0⟩:=((H1.out.1.rn.below hbw.out).txt hs);have hcon:=AY HF.out.1 hfr.out hbw.out.size hs (HF.out.2.2.2.tn s (mG hs)) (by rw[HL.out.1];exact hn32);clear hs;go_wp2_with fail;refine hcon.mono ?_;clear hcon y0;rintro e W3 ⟨⟨v,rfl⟩,f3,b3⟩;have HB3:=aI2 f3 (hbw.out.trans b3);clear f3 b3;go_wp2;go_roundw
    case rel=>exact⟨k+1,by omega,by go_num,hIz HB3.out.1,hIz HB3.out.2⟩
    case measure=>simp[intOf];omega
   ·obtain rfl:k=n:=by omega
    have q1:wr.cell? ⟨w.heap.size,1,none⟩=some (.slice B m d):=(H1.out.2.1.upd (upF hbw.out) id).cell 1;have HW:=hIz (show gQ W1.heap.size p ⟨N,E.take 0⟩ wr from by
     have:=hfr.out;rw[← HL.out.1,List.take_length] at this;exact this)
    clear hfr;go_wp2_with fail;clear q1;generalize wr=W4 at HW hbw ⊢;go_loopw [30] (fun i wr=>∃k:Nat,k≤m∧i=.int .i64 k∧Hid (gQ W1.heap.size p ⟨N,E.take k⟩ wr)∧Hid (Below W1.heap.size W1 wr)) (fun i _=>m-(intOf i).toNat)
    case atStart=>exact⟨0,Nat.zero_le _,rfl,HW,hbw⟩
    case round =>
     obtain⟨j,hj,rfl,hfr,hbz⟩:=hrel;by_cases hjt:j<m
     ·have hjtI:(j:Int)<(m:Int):=by omega
      have hjw:IntKind.i64.wrap ((j:Int)+1)=(j:Int)+1:=IntWalk.i64_in _ (by omega);obtain⟨x,hx⟩:∃x,E[j]?=some x:=⟨E[j]'(by rw[HL.out.2];exact hjt),gEz _⟩;have hxk:=HF.out.2.2.2.te x (mG hx);obtain⟨s0,s1,s2⟩:=x;obtain⟨ab,ao,rfl,y0,y1,y2⟩:=((H1.out.1.re.below hbz.out).ed hx);dsimp only at y0 y1 y2
      have k5:=Blk.new wr 23 #[.string s0,.string s1,.string s2];have u5:Below wr.heap.size wr (wr.alloc (.cells #[.string s0,.string s1,.string s2] 23)):=bR.alloc (Nat.le_refl _) _;have hcon:=BA (w:=wr.alloc (.cells #[.string s0,.string s1,.string s2] 23)) HF.out.1 HF.out.2.1 HF.out.2.2.1 (hfr.out.below u5) (by have:=hbz.out.size;have:=u5.size;omega) hx hxk (by rw[HL.out.1];exact hn32) (by rw[HL.out.2];exact hm256);have HU:=aI2 k5 (tHn hbz.out u5);clear k5 u5 hx;unfold Ed.agg at hcon;dsimp only at hcon
      go_upto_region 13 with (fail);generalize wr.alloc (.cells #[.string s0,.string s1,.string s2] 23)=W6 at HU hcon ⊢;clear y0 y1 y2;have y0:W6.cell? ⟨wr.heap.size,0,none⟩=some (.string s0):=HU.out.1.cell 0;have y1:W6.cell? ⟨wr.heap.size,1,none⟩=some (.string s1):=HU.out.1.cell 1;have y2:W6.cell? ⟨wr.heap.size,2,none⟩=some (.string s2):=HU.out.1.cell 2;go_wp2_with fail;refine hcon.mono ?_;clear hcon y0 y1 y2;rintro e W7 ⟨⟨v,rfl⟩,f7,b7⟩;have HB7:=aI2 f7 (HU.out.2.trans b7);clear f7 b7;go_wp2;go_roundw
      case rel=>exact⟨j+1,by omega,by go_num,hIz HB7.out.1,hIz HB7.out.2⟩
      case measure=>simp[intOf];omega
     ·obtain rfl:j=m:=by omega
      have FIN:=hIz (show FV w N E (.returned (.tuple #[.pointer (some ⟨p,0,none⟩),.int .i64 0])) wr from by
       refine .inr ⟨HZ.out,p,rfl,?_,tHn H1.out.2.2 hbz.out⟩;have:=hfr.out;rw[← HL.out.2,List.take_length] at this;exact this.mono H1.out.2.2.size)
      clear hfr hbz;go_wp2;refine bodyPost_ret (v:=.tuple #[.pointer (some ⟨p,0,none⟩),.int .i64 0]) (by simp[results,Tryz.f14,go_sem]) rfl FIN.out
 ·have h0I:(z==0)=false:=by simpa using h0
  have FIN:=hIz (show FV w N E (.returned (.tuple #[.pointer none,.int .i64 z])) W1 from .inl ⟨by rw[HZ.out];exact h0,by rw[HZ.out],H1.out.2.2⟩);go_wp2;refine bodyPost_ret (v:=.tuple #[.pointer none,.int .i64 z]) (by simp[results,Tryz.f14,go_sem]) rfl FIN.out
open Go.RowKit
structure GrC(w:World)(B:Nat)(O:Nat→Option Ro)(p:Nat)(N:List Txt)(U V:Nat→List Hp)(cnt:Int)(m l:Nat)(D:GrD):Prop where
 blk:Blk w p 131 #[D.nv,.map (some D.r),D.ov,D.iv,.int .i64 cnt]
 map:cY w Tryz.prog 9 D.r (kvN N N.length)
 rn:w.ownsRow 0 9 1 D.nv N.length (aG N)
 ro:w.ownsRow 0 143 1 D.ov m (kX D.fo m)
 ri:w.ownsRow 0 143 1 D.iv l (kX D.fi l)
 fo:∀k,k<m→w.ownsRow 0 145 2 (D.fo k) (U k).length (aR (U k))
 fi:∀k,k<l→w.ownsRow 0 145 2 (D.fi k) (V k).length (aR (V k))
 op:O p=some .p
 om:O D.r=some .m
 on:∀k,D.nv.ownBlock=some k→O k=some .n
 oo:∀k,D.ov.ownBlock=some k→O k=some .o
 ii:∀k,D.iv.ownBlock=some k→O k=some .i
 oU:∀j k,(D.fo j).ownBlock=some k→O k=some (.oo j)
 oV:∀j k,(D.fi j).ownBlock=some k→O k=some (.ii j)
 lt:∀k,O k≠none→k<w.heap.size
 lo:∀k,O k≠none→B≤k
 outO:∀k,m≤k→D.fo k=.slice none 0 0
 outI:∀k,l≤k→D.fi k=.slice none 0 0
theorem GrC.pushO{w V3:World}{B:Nat}{O:Nat→Option Ro}{p:Nat}{N:List Txt}{U V:Nat→List Hp}{cnt:Int}{m l:Nat}{D:GrD}(h:GrC w B O p N U V cnt m l D){v nw:Value}(bs:Nat)
  (hv:V3.ownsRow w.heap.size 145 2 v (U m).length (aR (U m))) (hvl:∀k,v.ownBlock=some k→k<bs) (hbs:w.heap.size≤bs) (u:Upd (fun k=>D.ov.ownBlock=some k) w V3) (o:V3.ownsRow 0 143 1 nw (m+1) (kX D.fo m++[v]))
  (pl:∀k,nw.ownBlock=some k→D.ov.ownBlock=some k∨bs≤k) (hB:B≤w.heap.size):∃O' D',GrC (V3.setCell ⟨p,2,none⟩ nw) B O' p N U V cnt (m+1) l D':=by
 have us:=(Upd.refl (fun k=>k=p) V3).setCell (p:=⟨p,2,none⟩) (.inl rfl) nw;have fresh:∀k,w.heap.size≤k→O k=none:=fun k hk=>by
  cases e:O k with
  | none=>rfl
  | some t=>have:=h.lt k (by simp[e]);omega
 have hnv:∀k,v.ownBlock=some k→O k=none∧w.heap.size≤k∧k<bs:=fun k hk=>⟨fresh k (hv.lt k hk).1,(hv.lt k hk).1,hvl k hk⟩
 have hnw:∀k,nw.ownBlock=some k→O k=some .o∨O k=none∧bs≤k:=fun k hk=>by
  rcases pl k hk with h1|h1
  ·exact .inl (h.oo k h1)
  ·exact .inr ⟨fresh k (by omega),h1⟩
 have keep:∀k t,O k=some t→(t=Ro.o→False)→(if v.ownBlock=some k then some (Ro.oo m) else if nw.ownBlock=some k then some Ro.o else O k)=some t:=fun k t e ht=>by
  rw[if_neg,if_neg,e]
  ·intro hk;rcases hnw k hk with h1|h1
   ·rw[h1] at e;injection e with e;exact ht e.symm
   ·rw[h1.1] at e;cases e
  ·intro hk;rw[(hnv k hk).1] at e;cases e
 have no:∀k t,O k=some t→(t=Ro.o→False)→(t=Ro.p→False)→¬D.ov.ownBlock=some k∧¬k=p:=fun k t e h1 h2 =>
  ⟨fun hk=>(by have:=h.oo k hk;rw[e] at this;injection this with this;exact h1 this),fun hk=>(by rw[hk,h.op] at e;injection e with e;exact h2 e.symm)⟩
 have no1:∀k t,O k=some t→(t=Ro.o→False)→¬D.ov.ownBlock=some k:=fun k t e h1 hk=>by
  have:=h.oo k hk;rw[e] at this;injection this with this;exact h1 this
 have nwp:∀k,nw.ownBlock=some k→¬k=p:=fun k hk e=>by
  subst e;rcases hnw k hk with h1|h1
  ·rw[h.op] at h1;cases h1
  ·rw[h.op] at h1;cases h1.1
 have nvp:∀k,v.ownBlock=some k→¬k=p:=fun k hk e=>by
  have:=(hnv k hk).1;rw[e,h.op] at this;cases this
 have k2:=fun {x:Value} {base e size n:Nat} {xs:List Value} (hx:w.ownsRow base e size x n xs) (hr:∀k,x.ownBlock=some k→¬D.ov.ownBlock=some k∧¬k=p)=>aB (aB hx u fun k hk=>(hr k hk).1) us fun k hk=>(hr k hk).2
 have erow:kX (iD D.fo m v) (m+1)=kX D.fo m++[v]:=by
  rw[lS,cX];congr 1
  unfold kX;refine List.map_congr_left fun k hk=>?_
  rw[List.mem_range] at hk;exact bL _ _ (by omega)
 have bp:=no1 _ _ h.op nofun;have bm:=no _ _ h.om nofun nofun;refine⟨fun k=>if v.ownBlock=some k then some (Ro.oo m) else if nw.ownBlock=some k then some Ro.o else O k,⟨D.r,D.nv,nw,D.iv,iD D.fo m v,D.fi⟩,?_⟩;constructor
 case blk=>exact(h.blk.upd u bp).set 2 nw
 case map=>exact(h.map.upd u bm.1).upd us bm.2
 case rn=>exact k2 h.rn fun k hk=>no _ _ (h.on k hk) nofun nofun
 case ro =>
  (try dsimp only)
  rw[erow];exact aB o us nwp
 case ri=>exact k2 h.ri fun k hk=>no _ _ (h.ii k hk) nofun nofun
 case fo =>
  intro k hk;(try dsimp only)
  by_cases e:k=m
  ·subst e;rw[cX];exact bC (aB hv us nvp) (fun _ _=>Nat.zero_le _)
  ·rw[bL _ _ e];exact k2 (h.fo k (by omega)) fun j hj=>no _ _ (h.oU k j hj) nofun nofun
 case fi=>exact fun k hk=>k2 (h.fi k hk) fun j hj=>no _ _ (h.oV k j hj) nofun nofun
 case op=>exact keep _ _ h.op nofun
 case om=>exact keep _ _ h.om nofun
 case on=>exact fun k hk=>keep _ _ (h.on k hk) nofun
 case oo =>
  intro k hk;(try dsimp only at hk ⊢)
  rw[if_neg,if_pos hk];intro h1;rcases hnw k hk with h2|h2
  ·rw[(hnv k h1).1] at h2;cases h2
  ·have:=(hnv k h1).2.2;omega
 case ii=>exact fun k hk=>keep _ _ (h.ii k hk) nofun
 case oU =>
  intro j k hk;(try dsimp only at hk ⊢)
  by_cases e:j=m
  ·subst e;rw[cX] at hk;rw[if_pos hk]
  ·rw[bL _ _ e] at hk;exact keep _ _ (h.oU j k hk) nofun
 case oV=>exact fun j k hk=>keep _ _ (h.oV j k hk) nofun
 case lt =>
  intro k hk;(try dsimp only at hk)
  by_cases h1:v.ownBlock=some k
  ·exact Nat.lt_of_lt_of_le (hv.lt k h1).2 us.size
  ·rw[if_neg h1] at hk;by_cases h2:nw.ownBlock=some k
   ·exact Nat.lt_of_lt_of_le (o.lt k h2).2 us.size
   ·rw[if_neg h2] at hk;exact Nat.lt_of_lt_of_le (h.lt k hk) (Nat.le_trans u.size us.size)
 case lo =>
  intro k hk;(try dsimp only at hk)
  by_cases h1:v.ownBlock=some k
  ·have:=(hnv k h1).2.1;omega
  ·rw[if_neg h1] at hk;by_cases h2:nw.ownBlock=some k
   ·rcases hnw k h2 with h3|h3
    ·exact h.lo k (by rw[h3];nofun)
    ·omega
   ·rw[if_neg h2] at hk;exact h.lo k hk
 case outO =>
  intro k hk;(try dsimp only)
  rw[bL _ _ (by omega)];exact h.outO k (by omega)
 case outI=>exact h.outI
theorem GrC.pushI{w V3:World}{B:Nat}{O:Nat→Option Ro}{p:Nat}{N:List Txt}{U V:Nat→List Hp}{cnt:Int}{m l:Nat}{D:GrD}(h:GrC w B O p N U V cnt m l D){v nw:Value}(bs:Nat)
  (hv:V3.ownsRow w.heap.size 145 2 v (V l).length (aR (V l))) (hvl:∀k,v.ownBlock=some k→k<bs) (hbs:w.heap.size≤bs) (u:Upd (fun k=>D.iv.ownBlock=some k) w V3) (o:V3.ownsRow 0 143 1 nw (l+1) (kX D.fi l++[v]))
  (pl:∀k,nw.ownBlock=some k→D.iv.ownBlock=some k∨bs≤k) (hB:B≤w.heap.size):∃O' D',GrC (V3.setCell ⟨p,3,none⟩ nw) B O' p N U V cnt m (l+1) D':=by
 have us:=(Upd.refl (fun k=>k=p) V3).setCell (p:=⟨p,3,none⟩) (.inl rfl) nw;have fresh:∀k,w.heap.size≤k→O k=none:=fun k hk=>by
  cases e:O k with
  | none=>rfl
  | some t=>have:=h.lt k (by simp[e]);omega
 have hnv:∀k,v.ownBlock=some k→O k=none∧w.heap.size≤k∧k<bs:=fun k hk=>⟨fresh k (hv.lt k hk).1,(hv.lt k hk).1,hvl k hk⟩
 have hnw:∀k,nw.ownBlock=some k→O k=some .i∨O k=none∧bs≤k:=fun k hk=>by
  rcases pl k hk with h1|h1
  ·exact .inl (h.ii k h1)
  ·exact .inr ⟨fresh k (by omega),h1⟩
 have keep:∀k t,O k=some t→(t=Ro.i→False)→(if v.ownBlock=some k then some (Ro.ii l) else if nw.ownBlock=some k then some Ro.i else O k)=some t:=fun k t e ht=>by
  rw[if_neg,if_neg,e]
  ·intro hk;rcases hnw k hk with h1|h1
   ·rw[h1] at e;injection e with e;exact ht e.symm
   ·rw[h1.1] at e;cases e
  ·intro hk;rw[(hnv k hk).1] at e;cases e
 have no:∀k t,O k=some t→(t=Ro.i→False)→(t=Ro.p→False)→¬D.iv.ownBlock=some k∧¬k=p:=fun k t e h1 h2 =>
  ⟨fun hk=>(by have:=h.ii k hk;rw[e] at this;injection this with this;exact h1 this),fun hk=>(by rw[hk,h.op] at e;injection e with e;exact h2 e.symm)⟩
 have no1:∀k t,O k=some t→(t=Ro.i→False)→¬D.iv.ownBlock=some k:=fun k t e h1 hk=>by
  have:=h.ii k hk;rw[e] at this;injection this with this;exact h1 this
 have nwp:∀k,nw.ownBlock=some k→¬k=p:=fun k hk e=>by
  subst e;rcases hnw k hk with h1|h1
  ·rw[h.op] at h1;cases h1
  ·rw[h.op] at h1;cases h1.1
 have nvp:∀k,v.ownBlock=some k→¬k=p:=fun k hk e=>by
  have:=(hnv k hk).1;rw[e,h.op] at this;cases this
 have k2:=fun {x:Value} {base e size n:Nat} {xs:List Value} (hx:w.ownsRow base e size x n xs) (hr:∀k,x.ownBlock=some k→¬D.iv.ownBlock=some k∧¬k=p)=>aB (aB hx u fun k hk=>(hr k hk).1) us fun k hk=>(hr k hk).2
 have erow:kX (iD D.fi l v) (l+1)=kX D.fi l++[v]:=by
  rw[lS,cX];congr 1
  unfold kX;refine List.map_congr_left fun k hk=>?_
  rw[List.mem_range] at hk;exact bL _ _ (by omega)
 have bp:=no1 _ _ h.op nofun;have bm:=no _ _ h.om nofun nofun;refine⟨fun k=>if v.ownBlock=some k then some (Ro.ii l) else if nw.ownBlock=some k then some Ro.i else O k,⟨D.r,D.nv,D.ov,nw,D.fo,iD D.fi l v⟩,?_⟩;constructor
 case blk=>exact(h.blk.upd u bp).set 3 nw
 case map=>exact(h.map.upd u bm.1).upd us bm.2
 case rn=>exact k2 h.rn fun k hk=>no _ _ (h.on k hk) nofun nofun
 case ri =>
  (try dsimp only)
  rw[erow];exact aB o us nwp
 case ro=>exact k2 h.ro fun k hk=>no _ _ (h.oo k hk) nofun nofun
 case fi =>
  intro k hk;(try dsimp only)
  by_cases e:k=l
  ·subst e;rw[cX];exact bC (aB hv us nvp) (fun _ _=>Nat.zero_le _)
  ·rw[bL _ _ e];exact k2 (h.fi k (by omega)) fun j hj=>no _ _ (h.oV k j hj) nofun nofun
 case fo=>exact fun k hk=>k2 (h.fo k hk) fun j hj=>no _ _ (h.oU k j hj) nofun nofun
 case op=>exact keep _ _ h.op nofun
 case om=>exact keep _ _ h.om nofun
 case on=>exact fun k hk=>keep _ _ (h.on k hk) nofun
 case ii =>
  intro k hk;(try dsimp only at hk ⊢)
  rw[if_neg,if_pos hk];intro h1;rcases hnw k hk with h2|h2
  ·rw[(hnv k h1).1] at h2;cases h2
  ·have:=(hnv k h1).2.2;omega
 case oo=>exact fun k hk=>keep _ _ (h.oo k hk) nofun
 case oV =>
  intro j k hk;(try dsimp only at hk ⊢)
  by_cases e:j=l
  ·subst e;rw[cX] at hk;rw[if_pos hk]
  ·rw[bL _ _ e] at hk;exact keep _ _ (h.oV j k hk) nofun
 case oU=>exact fun j k hk=>keep _ _ (h.oU j k hk) nofun
 case lt =>
  intro k hk;(try dsimp only at hk)
  by_cases h1:v.ownBlock=some k
  ·exact Nat.lt_of_lt_of_le (hv.lt k h1).2 us.size
  ·rw[if_neg h1] at hk;by_cases h2:nw.ownBlock=some k
   ·exact Nat.lt_of_lt_of_le (o.lt k h2).2 us.size
   ·rw[if_neg h2] at hk;exact Nat.lt_of_lt_of_le (h.lt k hk) (Nat.le_trans u.size us.size)
 case lo =>
  intro k hk;(try dsimp only at hk)
  by_cases h1:v.ownBlock=some k
  ·have:=(hnv k h1).2.1;omega
  ·rw[if_neg h1] at hk;by_cases h2:nw.ownBlock=some k
   ·rcases hnw k h2 with h3|h3
    ·exact h.lo k (by rw[h3];nofun)
    ·omega
   ·rw[if_neg h2] at hk;exact h.lo k hk
 case outI =>
  intro k hk;(try dsimp only)
  rw[bL _ _ (by omega)];exact h.outI k (by omega)
 case outO=>exact h.outO
theorem GrC.all{w:World}{B:Nat}{O:Nat→Option Ro}{p:Nat}{G:Gr}{U V:Nat→List Hp}{D:GrD}(h:GrC w B O p G.N U V G.X.length G.N.length G.N.length D)(ho:dS G.N G.X U V):gQ B p G w:=by
 refine⟨fun k=>O k≠none,⟨U,V,⟨O,D,⟨h.blk,h.map,h.rn,h.ro,h.ri,fun k=>?_,fun k=>?_,h.op,h.om,h.on,h.oo,h.ii,h.oU,h.oV,h.lt,fun k hk=>⟨h.outO k hk,h.outI k hk⟩⟩,rfl⟩,ho⟩,h.lo⟩
 ·by_cases hk:k<G.N.length
  ·exact h.fo k hk
  ·rw[h.outO k (by omega),(ho.out (by omega)).1];exact World.ownsRow_nil _ _ _ _
 ·by_cases hk:k<G.N.length
  ·exact h.fi k hk
  ·rw[h.outI k (by omega),(ho.out (by omega)).2];exact World.ownsRow_nil _ _ _ _
theorem GrC.start{w w1 w2:World}{nv:Value}{N:List Txt}{U V:Nat→List Hp}{cnt:Int}(hn:w1.ownsRow w.heap.size 9 1 nv N.length (aG N))(b1:Below w.heap.size w w1)(es:Array MapEntry)(clock:Nat)(hb:w1.alloc (.map es clock)=w2)(hm:cY w2 Tryz.prog 9 w1.heap.size (kvN N N.length)) :
  ∃O D,GrC (w2.alloc (.cells #[nv,.map (some w1.heap.size),.slice none 0 0,.slice none 0 0,.int .i64 cnt] 131)) w.heap.size O w2.heap.size N U V cnt 0 0 D:=by
 subst hb;have hz:(w1.alloc (.map es clock)).heap.size=w1.heap.size+1:=by simp
 have kb:=Blk.new (w1.alloc (.map es clock)) 131 #[nv,.map (some w1.heap.size),.slice none 0 0,.slice none 0 0,.int .i64 cnt];rw[hz] at kb ⊢;have hs:=b1.size;refine⟨fun k=>if k=w1.heap.size+1 then some Ro.p else if k=w1.heap.size then some Ro.m else if nv.ownBlock=some k then some Ro.n else none,⟨w1.heap.size,nv,.slice none 0 0,.slice none 0 0,fun _=>.slice none 0 0,fun _=>.slice none 0 0⟩,?_⟩;constructor
 case blk=>exact kb
 case map=>exact hm.alloc _
 case rn=>exact bC ((hn.alloc _).alloc _) (fun _ _=>Nat.zero_le _)
 case ro=>exact World.ownsRow_nil _ _ _ _
 case ri=>exact World.ownsRow_nil _ _ _ _
 case fo=>exact fun k hk=>absurd hk (Nat.not_lt_zero _)
 case fi=>exact fun k hk=>absurd hk (Nat.not_lt_zero _)
 case op=>exact if_pos rfl
 case om =>
  (try dsimp only)
  rw[if_neg (by omega),if_pos rfl]
 case on =>
  intro k hk;have:=(hn.lt k hk).2;(try dsimp only at hk ⊢)
  rw[if_neg (by omega),if_neg (by omega),if_pos hk]
 case oo=>intro k hk;simp[Value.ownBlock] at hk
 case ii=>intro k hk;simp[Value.ownBlock] at hk
 case oU=>intro j k hk;simp[Value.ownBlock] at hk
 case oV=>intro j k hk;simp[Value.ownBlock] at hk
 case lt =>
  intro k hk;simp only[World.size_alloc]
  (try dsimp only at hk)
  split at hk
  ·omega
  split at hk
  ·omega
  split at hk
  ·rename_i h
   have:=(hn.lt k h).2;omega
  ·exact absurd rfl hk
 case lo =>
  intro k hk;(try dsimp only at hk)
  split at hk
  ·omega
  split at hk
  ·omega
  split at hk
  ·rename_i h
   exact(hn.lt k h).1
  ·exact absurd rfl hk
 case outO=>exact fun _ _=>rfl
 case outI=>exact fun _ _=>rfl
theorem FW(w:World)(F:Nat→Prop)(p:Nat)(G:Gr)(h:GrS w F p G)(ok:GOk G):Calls Tryz.prog 34 #[.pointer (some ⟨p,0,none⟩)] w (FP w G id):=by
 obtain⟨U,V,⟨O,⟨r,nv,ov,iv,fo,fi⟩,hg,-⟩,ho⟩:=h;have hf:=ok.few;obtain⟨nA,nc,e1,-,-⟩:=aH hg.rn;(try dsimp only at e1)
 subst e1;have HG:=aI2 hg ho;have q1:w.cell? ⟨p,1,none⟩=some (.map (some r)):=hg.blk.cell 1;obtain⟨es,clock,hes,hrest⟩:=hg.map;(try dsimp only at hes)
 have hct:=eP w.drew nA nc G.N (bO.of_own hg.rn) (by omega);obtain⟨n,hn⟩:∃n,G.N.length=n:=⟨_,rfl⟩;have hn32:n≤32:=by omega
 have hX:G.X.length≤256:=hf.2;have SR:=hIz (show ∀W,Below w.heap.size w W→W.cell? ⟨p,0,none⟩=some (.slice nA n nc)∧W.cell? ⟨p,1,none⟩=some (.map (some r))∧W.cell? ⟨p,4,none⟩=some (.int .i64 (G.X.length:Int)) from fun W hb=>by
  have kb:=hg.blk.upd (upF hb) id;exact⟨by rw[← hn];exact kb.cell 0,kb.cell 1,kb.cell 4⟩)
 have HL:=hIz hn;have HM:=aI2 hes hrest;rw[hn] at hct;clear hg ho hes hrest hn hf ok;obtain⟨cnt,hcnt⟩:∃c,(G.X.length:Int)=c:=⟨_,rfl⟩;have HCT:=hIz hcnt;rw[hcnt] at SR;clear hcnt;go_enter Tryz.func34,Tryz.ntmps34;go_wp2_with fail;refine(iR w p r q1).mono ?_;rintro e w' ⟨rfl,hw⟩;subst w';go_upto_region 3 with (fail);clear q1;have hS:=SR.out w.drew (Below.refl _ w).drew;refine aN (fun W=>W.cell? ⟨p,0,none⟩=some (.slice nA n nc)∧W.cell? ⟨p,1,none⟩=some (.map (some r))∧W.cell? ⟨p,4,none⟩=some (.int .i64 cnt)) 17 [(0,true),(1,true),(2,true),(3,true),(5,true),(6,true),(7,true),(8,true),(10,true),(11,true),(12,true),(13,true),(4,false),(9,false),(14,true),(15,false),(16,true)] hS ?_;have B1:=hIz (show Below w.heap.size w w.drew from bR.drew);have Z1:=hIz (show w.drew.heap.size=w.heap.size from rfl);generalize w.drew=V1 at hS hct B1 Z1 ⊢
 iterate 12 refine aD rfl ?_
 refine aK rfl rfl (fun K hK=>?_);go_simp;refine hct.mono ?_;rintro e V2 ⟨v,rfl,own2,b2⟩;rw[Z1.out] at own2 b2;rw[HL.out] at own2;obtain⟨NA,Nc,rfl,-,-⟩:=aH own2;have B2:=hIz (B1.out.trans b2);have HV:=hIz own2;have hm2:=(upF B2.out).block r (Array.getElem?_eq_some_iff.1 HM.out.1).1 id;rw[HM.out.1] at hm2;have hcm:=FQ V2 r es clock hm2;clear own2 b2 hct B1 Z1 hm2;refine hK _ _ (fun _=>SR.out _ B2.out) ?_;clear hK K hS;(try simp only[Act.put,gA,gS,gZ,sA,sZ,sS])
 refine aK rfl rfl (fun K hK=>?_);go_simp;refine hcm.mono ?_;clear hcm;rintro e V3 ⟨rfl,hV3⟩;have B3:=hIz (show Below w.heap.size w V3 from by rw[hV3];exact B2.out.alloc B2.out.size _);have M3:=hIz (show cY V3 Tryz.prog 9 V2.heap.size (kvN G.N G.N.length) from by rw[hV3];exact⟨es,clock,heap_alloc_new V2 _,HM.out.2⟩);have HV3:=hIz hV3.symm;clear hV3;have hS:=SR.out _ B3.out;refine hK _ _ (fun _=>hS) ?_;clear hK K;(try simp only[Act.put,gA,gS,gZ,sA,sZ,sS])
 refine aD rfl ?_;refine aK rfl rfl (fun K hK=>?_);go_simp;have B4:=hIz (B3.out.alloc B3.out.size (.cells #[.slice NA n Nc,.map (some V2.heap.size),.slice none 0 0,.slice none 0 0,.int .i64 cnt] 131));have HC0:=hIz (GrC.start (N:=G.N) (U:=U) (V:=V) (cnt:=cnt) (by rw[HL.out];exact HV.out) B2.out es clock HV3.out M3.out);refine hK _ _ (fun _=>SR.out _ B4.out) ?_;clear hK K hS;(try simp only[Act.put,gA,gS,gZ,sA,sZ,sS])
 generalize V3.alloc (.cells #[.slice NA n Nc,.map (some V2.heap.size),.slice none 0 0,.slice none 0 0,.int .i64 cnt] 131)=W4 at B4 HC0 ⊢;generalize V3.heap.size=po at HC0 ⊢;have hS:=SR.out _ B4.out;refine aD rfl ?_;refine aJ ?_;obtain⟨z0,-,-⟩:=hS;clear HV HV3 M3 B2 B3 HM;go_wp2_with fail;clear z0 SR;go_loopw [29] (fun i wr=>∃k:Nat,k≤n∧i=.int .i64 k∧Hid (∃O D,GrC wr w.heap.size O po G.N U V cnt k k D)∧Hid (Below w.heap.size w wr)) (fun i _=>n-(intOf i).toNat)
 case atStart=>exact⟨0,Nat.zero_le _,rfl,HC0,B4⟩
 case round =>
  obtain⟨k,hk,rfl,HC0,HB0⟩:=hrel;by_cases hlt:k<n
  ·have hltI:(k:Int)<(n:Int):=by omega
   have hkw:IntKind.i64.wrap ((k:Int)+1)=(k:Int)+1:=IntWalk.i64_in _ (by omega);have hltN:k<G.N.length:=by rw[HL.out];exact hlt
   -- O
   obtain⟨O0,D0,hC0⟩:=HC0.out;obtain⟨A2,c2,e2,-,-⟩:=aH hC0.ro;have hg:=HG.out.1.upd (upF HB0.out) (fun _ _=>id);obtain⟨og,oc,eo,-,co,-⟩:=iN hg.ro hltN;(try dsimp only at eo co)
   obtain⟨Av,cA,eA,-,-⟩:=aH (hg.fo k);dsimp only at eA
   have hrow:=hg.fo k;(try dsimp only at hrow)
   rw[eA] at co hrow;have hcl:=zA wr.drew Av cA (U k) (bO.of_own hrow) (by have:=(HG.out.2.len k).1;omega);obtain⟨mm,hmm⟩:∃m,(U k).length=m:=⟨_,rfl⟩;rw[hmm] at hcl co;have hblk:=hC0.blk;rw[e2] at hblk;have hn1:¬(Value.slice A2 k c2).ownBlock=some po:=fun e=>by have:=hC0.oo po (by rw[e2];exact e);rw[hC0.op] at this;cases this
   have SR:=hIz (show ∀W,Upd (fun b=>(Value.slice A2 k c2).ownBlock=some b) wr W→W.cell? ⟨po,2,none⟩=some (.slice A2 k c2)∧W.cell? ⟨p,2,none⟩=some (.slice (some ⟨og,0,none⟩) n oc)∧W.cell? ⟨og,k,none⟩=some (.slice Av mm cA) from fun W hu=>by
    have lo:=fun b (e:(Value.slice A2 k c2).ownBlock=some b)=>hC0.lo b (by rw[hC0.oo b (by rw[e2];exact e)];nofun)
    have n2:¬(Value.slice A2 k c2).ownBlock=some p:=fun e=>by have:=lo p e;have:=HG.out.1.blk.lt;omega
    have n3:¬(Value.slice A2 k c2).ownBlock=some og:=fun e=>by have:=lo og e;have:=(HG.out.1.ro.lt og (by dsimp only;rw[eo];rfl)).2;omega
    refine⟨(hblk.upd hu hn1).cell 2,?_,?_⟩
    ·have:=(hg.blk.upd hu n2).cell 2;(try dsimp only at this)
     rw[eo,HL.out] at this;exact this
    ·rw[hu.cell (p:=⟨og,k,none⟩) (World.block_lt_of_cell? wr _ co) n3];exact co)
   have hS:=SR.out wr.drew (Upd.refl _ _).drew;have HD:=aI5 hblk e2 hC0 hmm hn1;clear hg hrow eA co hblk e2 hC0 hmm eo hn1;go_upto_region 7 with (fail);refine aN (fun W=>W.cell? ⟨po,2,none⟩=some (.slice A2 k c2)∧W.cell? ⟨p,2,none⟩=some (.slice (some ⟨og,0,none⟩) n oc)∧W.cell? ⟨og,k,none⟩=some (.slice Av mm cA)) 17 [(0,true),(1,true),(2,true),(3,true),(4,true),(5,true),(6,true),(7,true),(8,true),(9,true),(10,true),(11,true),(12,false),(13,false),(14,false),(15,true),(16,true),(17,false)] hS ?_;have B1:=hIz (show Below wr.heap.size wr wr.drew from bR.drew);have Z1:=hIz (show wr.drew.heap.size=wr.heap.size from rfl);generalize wr.drew=V1 at hS hcl B1 Z1 ⊢
   iterate 12 refine aD rfl ?_
   refine aK rfl rfl (fun K hK=>?_);go_simp;refine hcl.mono ?_;rintro e V2 ⟨v,rfl,ov2,bv⟩;rw[Z1.out] at ov2 bv;rw[HD.out.2.2.2.1] at ov2;obtain⟨vA,vc,rfl,-,-⟩:=aH ov2;have B2:=hIz (B1.out.trans bv);have HV:=hIz ov2;clear ov2 bv hcl Z1 B1;refine hK _ _ (fun _=>SR.out _ (Upd.of_below B2.out _)) ?_;clear hK K hS;(try simp only[Act.put,gA,gS,gZ,sA,sZ,sS])
   refine aK rfl rfl (fun K hK=>?_);go_simp;have B3:=hIz (B2.out.alloc B2.out.size (.cells #[.slice vA mm vc] 143));have hnew:=Blk.new V2 143 #[.slice vA mm vc];have HV3:=hIz (HV.out.alloc (.cells #[.slice vA mm vc] 143));have hvl:=hIz (show ∀k,(Value.slice vA mm vc).ownBlock=some k→k<(V2.alloc (.cells #[.slice vA mm vc] 143)).heap.size from fun k hk=>(HV3.out.lt k hk).2);refine hK _ _ (fun _=>SR.out _ (Upd.of_below B3.out _)) ?_;clear hK K;(try simp only[Act.put,gA,gS,gZ,sA,sZ,sS])
   generalize V2.alloc (.cells #[.slice vA mm vc] 143)=V3 at B3 hnew HV3 hvl ⊢;have own3:=HD.out.2.2.1.ro;rw[HD.out.2.1] at own3;obtain⟨A4,c4,V4,happ,o4,u4,p4⟩:=cK V3 0 129 143 1 24 _ Tryz.underlying129 fC rfl (by decide) (by decide) A2 k c2 _ (aB own3 (upF B3.out) (fun _ _ h=>h)) (some ⟨V2.heap.size,0,none⟩) 1 1 [.slice vA mm vc] (jF hnew) rfl (by simp;rfl) (by omega) (Nat.zero_le _);have U4:=hIz ((Upd.of_below B3.out (fun b=>(Value.slice A2 k c2).ownBlock=some b)).trans u4 (fun _ h=>.inl h));have kb4:=HD.out.1.upd U4.out HD.out.2.2.2.2;have HC1:=hIz (HD.out.2.2.1.pushO V3.heap.size (v:=.slice vA mm vc) (nw:=.slice A4 (k+1) c4) (by rw[HD.out.2.2.2.1];exact aB HV3.out u4 (fun b hb e=>by have:=(HV3.out.lt b hb).1;have:=(own3.lt b e).2;omega)) hvl.out B3.out.size (by rw[HD.out.2.1];exact U4.out) o4 (fun b hb=>by rw[HD.out.2.1];exact p4 b hb) HB0.out.size);have HB1:=hIz (show Below w.heap.size w (V4.setCell ⟨po,2,none⟩ (.slice A4 (k+1) c4)) from HB0.out.trans ((U4.out.below (fun b _ e=>HD.out.2.2.1.lo b (by rw[HD.out.2.2.1.oo b (by rw[HD.out.2.1];exact e)];nofun)) HB0.out.size).trans (((Upd.refl (fun b=>b=po) V4).setCell (p:=⟨po,2,none⟩) (.inl rfl) (.slice A4 (k+1) c4)).below (fun b _ e=>by rw[e];exact HD.out.2.2.1.lo po (by rw[HD.out.2.2.1.op];nofun)) (Nat.le_trans HB0.out.size U4.out.size))));have hS:=SR.out _ U4.out;have f0:V4.frozen? ⟨po,2,none⟩=false:=kb4.frozen 2;clear own3 o4 u4 p4 kb4 hnew;refine aK rfl rfl (fun K hK=>?_);refine bQ _ _ _ rfl rfl rfl happ ?_;refine hK _ _ (fun _=>hS) ?_
   clear hK K happ;(try simp only[Act.put,gA,gS,gZ,sA,sZ,sS])
   refine aD rfl ?_;refine aD rfl ?_;refine aK rfl rfl (fun K hK=>?_);obtain⟨r0,r1,r2⟩:=hS;go_simp;refine hK _ _ (fun h=>absurd rfl h) ?_;clear hK K r0 r1 r2 f0 SR HD HV HV3 hvl B2 B3 U4;(try simp only[Act.put,gA,gS,gZ,sA,sZ,sS])
   refine aJ ?_;generalize V4.setCell ⟨po,2,none⟩ (.slice A4 (k+1) c4)=W1 at HC1 HB1 ⊢;-- I
   obtain⟨O1,D1,hC1⟩:=HC1.out;obtain⟨A2,c2,e2,-,-⟩:=aH hC1.ri;have hg:=HG.out.1.upd (upF HB1.out) (fun _ _=>id);obtain⟨og,oc,eo,-,co,-⟩:=iN hg.ri hltN;(try dsimp only at eo co)
   obtain⟨Av,cA,eA,-,-⟩:=aH (hg.fi k);dsimp only at eA
   have hrow:=hg.fi k;(try dsimp only at hrow)
   rw[eA] at co hrow;have hcl:=zA W1.drew Av cA (V k) (bO.of_own hrow) (by have:=(HG.out.2.len k).2;omega);obtain⟨mm,hmm⟩:∃m,(V k).length=m:=⟨_,rfl⟩;rw[hmm] at hcl co;have hblk:=hC1.blk;rw[e2] at hblk;have hn1:¬(Value.slice A2 k c2).ownBlock=some po:=fun e=>by have:=hC1.ii po (by rw[e2];exact e);rw[hC1.op] at this;cases this
   have SR:=hIz (show ∀W,Upd (fun b=>(Value.slice A2 k c2).ownBlock=some b) W1 W→W.cell? ⟨po,3,none⟩=some (.slice A2 k c2)∧W.cell? ⟨p,3,none⟩=some (.slice (some ⟨og,0,none⟩) n oc)∧W.cell? ⟨og,k,none⟩=some (.slice Av mm cA) from fun W hu=>by
    have lo:=fun b (e:(Value.slice A2 k c2).ownBlock=some b)=>hC1.lo b (by rw[hC1.ii b (by rw[e2];exact e)];nofun)
    have n2:¬(Value.slice A2 k c2).ownBlock=some p:=fun e=>by have:=lo p e;have:=HG.out.1.blk.lt;omega
    have n3:¬(Value.slice A2 k c2).ownBlock=some og:=fun e=>by have:=lo og e;have:=(HG.out.1.ri.lt og (by dsimp only;rw[eo];rfl)).2;omega
    refine⟨(hblk.upd hu hn1).cell 3,?_,?_⟩
    ·have:=(hg.blk.upd hu n2).cell 3;(try dsimp only at this)
     rw[eo,HL.out] at this;exact this
    ·rw[hu.cell (p:=⟨og,k,none⟩) (World.block_lt_of_cell? W1 _ co) n3];exact co)
   have hS:=SR.out W1.drew (Upd.refl _ _).drew;have HD:=aI5 hblk e2 hC1 hmm hn1;clear hg hrow eA co hblk e2 hC1 hmm eo hn1;go_upto_region 8 with (fail);refine aN (fun W=>W.cell? ⟨po,3,none⟩=some (.slice A2 k c2)∧W.cell? ⟨p,3,none⟩=some (.slice (some ⟨og,0,none⟩) n oc)∧W.cell? ⟨og,k,none⟩=some (.slice Av mm cA)) 17 [(0,true),(1,true),(2,true),(3,true),(4,true),(5,true),(6,true),(7,true),(8,true),(9,true),(10,true),(11,true),(12,false),(13,false),(14,false),(15,true),(16,true),(17,false)] hS ?_;have B1:=hIz (show Below W1.heap.size W1 W1.drew from bR.drew);have Z1:=hIz (show W1.drew.heap.size=W1.heap.size from rfl);generalize W1.drew=V1 at hS hcl B1 Z1 ⊢
   iterate 12 refine aD rfl ?_
   refine aK rfl rfl (fun K hK=>?_);go_simp;refine hcl.mono ?_;rintro e V2 ⟨v,rfl,ov2,bv⟩;rw[Z1.out] at ov2 bv;rw[HD.out.2.2.2.1] at ov2;obtain⟨vA,vc,rfl,-,-⟩:=aH ov2;have B2:=hIz (B1.out.trans bv);have HV:=hIz ov2;clear ov2 bv hcl Z1 B1;refine hK _ _ (fun _=>SR.out _ (Upd.of_below B2.out _)) ?_;clear hK K hS;(try simp only[Act.put,gA,gS,gZ,sA,sZ,sS])
   refine aK rfl rfl (fun K hK=>?_);go_simp;have B3:=hIz (B2.out.alloc B2.out.size (.cells #[.slice vA mm vc] 143));have hnew:=Blk.new V2 143 #[.slice vA mm vc];have HV3:=hIz (HV.out.alloc (.cells #[.slice vA mm vc] 143));have hvl:=hIz (show ∀k,(Value.slice vA mm vc).ownBlock=some k→k<(V2.alloc (.cells #[.slice vA mm vc] 143)).heap.size from fun k hk=>(HV3.out.lt k hk).2);refine hK _ _ (fun _=>SR.out _ (Upd.of_below B3.out _)) ?_;clear hK K;(try simp only[Act.put,gA,gS,gZ,sA,sZ,sS])
   generalize V2.alloc (.cells #[.slice vA mm vc] 143)=V3 at B3 hnew HV3 hvl ⊢;have own3:=HD.out.2.2.1.ri;rw[HD.out.2.1] at own3;obtain⟨A4,c4,V4,happ,o4,u4,p4⟩:=cK V3 0 129 143 1 24 _ Tryz.underlying129 fC rfl (by decide) (by decide) A2 k c2 _ (aB own3 (upF B3.out) (fun _ _ h=>h)) (some ⟨V2.heap.size,0,none⟩) 1 1 [.slice vA mm vc] (jF hnew) rfl (by simp;rfl) (by omega) (Nat.zero_le _);have U4:=hIz ((Upd.of_below B3.out (fun b=>(Value.slice A2 k c2).ownBlock=some b)).trans u4 (fun _ h=>.inl h));have kb4:=HD.out.1.upd U4.out HD.out.2.2.2.2;have HC2:=hIz (HD.out.2.2.1.pushI V3.heap.size (v:=.slice vA mm vc) (nw:=.slice A4 (k+1) c4) (by rw[HD.out.2.2.2.1];exact aB HV3.out u4 (fun b hb e=>by have:=(HV3.out.lt b hb).1;have:=(own3.lt b e).2;omega)) hvl.out B3.out.size (by rw[HD.out.2.1];exact U4.out) o4 (fun b hb=>by rw[HD.out.2.1];exact p4 b hb) HB1.out.size);have HB2:=hIz (show Below w.heap.size w (V4.setCell ⟨po,3,none⟩ (.slice A4 (k+1) c4)) from HB1.out.trans ((U4.out.below (fun b _ e=>HD.out.2.2.1.lo b (by rw[HD.out.2.2.1.ii b (by rw[HD.out.2.1];exact e)];nofun)) HB1.out.size).trans (((Upd.refl (fun b=>b=po) V4).setCell (p:=⟨po,3,none⟩) (.inl rfl) (.slice A4 (k+1) c4)).below (fun b _ e=>by rw[e];exact HD.out.2.2.1.lo po (by rw[HD.out.2.2.1.op];nofun)) (Nat.le_trans HB1.out.size U4.out.size))));have hS:=SR.out _ U4.out;have f0:V4.frozen? ⟨po,3,none⟩=false:=kb4.frozen 3;clear own3 o4 u4 p4 kb4 hnew;refine aK rfl rfl (fun K hK=>?_);refine bQ _ _ _ rfl rfl rfl happ ?_;refine hK _ _ (fun _=>hS) ?_
   clear hK K happ;(try simp only[Act.put,gA,gS,gZ,sA,sZ,sS])
   refine aD rfl ?_;refine aD rfl ?_;refine aK rfl rfl (fun K hK=>?_);obtain⟨r0,r1,r2⟩:=hS;go_simp;refine hK _ _ (fun h=>absurd rfl h) ?_;clear hK K r0 r1 r2 f0 SR HD HV HV3 hvl B2 B3 U4;(try simp only[Act.put,gA,gS,gZ,sA,sZ,sS])
   refine aJ ?_;generalize V4.setCell ⟨po,3,none⟩ (.slice A4 (k+1) c4)=W2 at HC2 HB2 ⊢;go_wp2;go_roundw
   case rel=>exact⟨k+1,by omega,by go_num,HC2,HB2⟩
   case measure=>simp[intOf];omega
  ·obtain rfl:k=n:=by omega
   have FIN:=hIz (show FP w G id (.returned (.pointer (some ⟨po,0,none⟩))) wr from by
    obtain⟨O5,D5,hC⟩:=HC0.out;refine⟨po,rfl,GrC.all (O:=O5) (D:=D5) (U:=U) (V:=V) ?_ HG.out.2,HB0.out⟩;rw[HCT.out,HL.out];exact hC)
   clear HC0 HB0;go_wp2;go_ret;exact FIN.out
open Go.RowKit
theorem vO(w:World)(F:Nat→Prop)(p:Nat)(G:Gr)(h:GrS w F p G):Calls Tryz.prog 36 #[.pointer (some ⟨p,0,none⟩)] w (Sam w (.tuple #[.int .i64 (G.N.length:Nat),.int .i64 (G.X.length:Nat)])):=by
 obtain⟨U,V,⟨O,⟨r,nv,ov,iv,fo,fi⟩,hg,-⟩,-⟩:=h;have q1:w.cell? ⟨p,1,none⟩=some (.map (some r)):=hg.blk.cell 1;obtain⟨nA,nc,e1,-,-⟩:=aH hg.rn;dsimp only at e1
 subst e1;have q0:w.cell? ⟨p,0,none⟩=some (.slice nA G.N.length nc):=hg.blk.cell 0;have q4:w.cell? ⟨p,4,none⟩=some (.int .i64 (G.X.length:Int)):=hg.blk.cell 4;clear hg;generalize G.N.length=a at q0 ⊢;generalize ((G.X.length:Nat):Int)=b at q4 ⊢;go_enter Tryz.func36,Tryz.ntmps36;go_wp2_with fail;refine(iR w p r q1).mono ?_;rintro e w' ⟨rfl,hw⟩;subst w';go_upto_region 3 with (fail);go_quiet (fail)
 go_wp2;refine bodyPost_ret (v:=.tuple #[.int .i64 (a:Int),.int .i64 b]) (by simp[results,Tryz.f36,go_sem]) rfl ⟨rfl,((Upd.refl (fun _=>False) w).drewN _).below (fun _ _ h=>h.elim) (Nat.le_refl _)⟩
end Go.Proofs.YtnokckdkaifibaaGreatDoor
