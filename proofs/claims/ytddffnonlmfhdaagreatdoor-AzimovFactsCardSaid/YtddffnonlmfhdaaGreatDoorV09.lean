/- Graphs: Has; Graphs: New, Of, Nodes, Node; clones; Edges: cut to what this seat wants; Edges: cut to what this seat wants; Graphs that grow: what comes edge by edge; what is refused or comes again (the plain law); Graphs: Of; Graphs: In, Len, Labels; Graphs: fits; Graphs: AddNode, AddEdge; Graphs: Labels, Matrix. -/
import Derived.Test.YtddffnonlmfhdaaGreatDoorV08
import Derived.Shelf.SlMaps.Clone
import Derived.Test.YtddffnonlmfhdaaGreatDoorV06
set_option linter.unusedVariables false
set_option linter.unusedSimpArgs false
set_option maxHeartbeats 16000000
set_option maxRecDepth 100000
namespace Go.Proofs.YtddffnonlmfhdaaGreatDoor
open Go.RowKit
theorem eB.has{N:List Txt}{X:List Ed}{U V:Nat→List Hp}(h:eB N X U V)(he:∀x∈X,x.fr∈N∧x.to∈N){x:Ed}(hf:x.fr∈N)(ht:x.to∈N):(⟨x.lb,(eW N x.to:Int)⟩:Hp)∈U (eW N x.fr)↔x∈X:=by
 rw[h.um];constructor
 ·rintro⟨y,hy,h1,h2⟩;rw[dU hf] at h1;injection h1 with h1;injection h2 with h2 h3;have:=tI ht (he y hy).2 h3;obtain⟨a,b,c⟩:=x;obtain⟨a',b',c'⟩:=y;dsimp only at h1 h2 this
  subst h1;subst h2;subst this;exact hy
 ·intro hx;exact⟨x,hx,dU hf,rfl⟩
theorem tJ{N:List Txt}{s:Txt}(h:s∈N):KE N s=(eW N s:Int)+1:=by unfold KE;rw[if_pos (bE.2 h)]
theorem AP{N:List Txt}{s:Txt}(h:s ∉ N):KE N s=0:=by unfold KE;rw[if_neg (fun e=>h (bE.1 e))]
theorem UE(w:World)(F:Nat→Prop)(p:Nat)(G:Gr)(h:GrS w F p G)(ok:GOk G)(x:Ed)(k0:eP x.fr)(k2:eP x.to) :
  Calls Tryz.prog 43 #[.pointer (some ⟨p,0,none⟩),.string x.fr,.string x.lb,.string x.to] w (Sam w (.bool (decide (x∈G.X)))):=by
 obtain⟨U,V,⟨O,⟨r,nv,ov,iv,fo,fi⟩,hg,-⟩,ho⟩:=h;have q1:w.cell? ⟨p,1,none⟩=some (.map (some r)):=hg.blk.cell 1;have l0:=kC hg.map x.fr k0;have l1:=kC hg.map x.to k2;by_cases hf:x.fr∈G.N
 ·rw[tJ hf] at l0;have hlf:=gR hf;have hN:=ok.few.1;obtain⟨i,hi⟩:∃i,eW G.N x.fr=i:=⟨_,rfl⟩;rw[hi] at l0 hlf;have z0:((i:Int)+1==0)=false:=by simp;omega
  by_cases ht:x.to∈G.N
  ·rw[tJ ht] at l1;have hlt:=gR ht;obtain⟨j,hj⟩:∃j,eW G.N x.to=j:=⟨_,rfl⟩;rw[hj] at l1 hlt;have z1:((j:Int)+1==0)=false:=by simp;omega
   have w0:IntKind.i64.wrap (i:Int)=(i:Int):=IntWalk.i64_in _ (by omega);have w1:IntKind.i64.wrap (j:Int)=(j:Int):=IntWalk.i64_in _ (by omega);have hdec:decide ((⟨x.lb,(j:Int)⟩:Hp)∈U i)=decide (x∈G.X):=by rw[← hi,← hj];exact decide_eq_decide.2 (ho.has ok.ends hf ht)
   obtain⟨og,oc,eo,-,co,-⟩:=kV hg.ro hlf;dsimp only at eo co
   subst eo;obtain⟨A,cA,eA,-,-⟩:=aK (hg.fo i);dsimp only at eA
   have hrow:=hg.fo i;dsimp only at hrow
   rw[eA] at co hrow;have hUl:=(ho.len i).1;have hX:=ok.few.2;have hcon:=fun W (hb:Below w.heap.size w W)=>EG W A cA (U i) ⟨x.lb,(j:Int)⟩ ((aU.of_own hrow).below hb) (ho.up i) (by omega)
   rw[hdec] at hcon;obtain⟨m,hm⟩:∃m,(U i).length=m:=⟨_,rfl⟩;rw[hm] at hcon co;obtain⟨n,hn⟩:∃n,G.N.length=n:=⟨_,rfl⟩;have q2:w.cell? ⟨p,2,none⟩=some (.slice (some ⟨og,0,none⟩) n oc):=by rw[← hn];exact hg.blk.cell 2
   rw[hn] at hlf hlt hN;have SR:=hIz (show ∀W,Below w.heap.size w W→W.cell? ⟨p,1,none⟩=some (.map (some r))∧W.cell? ⟨p,2,none⟩=some (.slice (some ⟨og,0,none⟩) n oc)∧W.cell? ⟨og,i,none⟩=some (.slice A m cA)∧(Instr.lookup 105 (.map (some r)) (.string x.fr) false).run Tryz.prog W=.ok (.int .i64 ((i:Int)+1)) W∧(Instr.lookup 105 (.map (some r)) (.string x.to) false).run Tryz.prog W=.ok (.int .i64 ((j:Int)+1)) W from fun W hb=>by
    have hu:=Upd.of_below hb (fun _=>False);have hm':=hg.map.upd hu id;have hblk:=hg.blk.upd hu id;have lo:=World.block_lt_of_cell? w _ co;refine⟨hblk.cell 1,by rw[← hn];exact hblk.cell 2,by rw[hu.cell (p:=⟨og,i,none⟩) lo id];exact co,?_,?_⟩
    ·have:=kC hm' x.fr k0;rwa [tJ hf,hi] at this
    ·have:=kC hm' x.to k2;rwa [tJ ht,hj] at this)
   have hS:=SR.out w.drew (Below.refl _ w).drew;clear hg ho hrow hUl hX eA hi hj hm hn hdec ok;have hlfI:(i:Int)<(n:Int):=by omega
   go_enter Tryz.func43,Tryz.ntmps43;go_wp2_with fail;refine(nD w p r q1).mono ?_;rintro e w' ⟨rfl,hw⟩;subst w';go_upto_region 3 with (fail);clear q1 q2 co l0 l1;have HB:=hIz (show Below w.heap.size w w.drew from(Below.refl _ w).drew);refine aF (fun W=>W.cell? ⟨p,1,none⟩=some (.map (some r))∧W.cell? ⟨p,2,none⟩=some (.slice (some ⟨og,0,none⟩) n oc)∧W.cell? ⟨og,i,none⟩=some (.slice A m cA)∧(Instr.lookup 105 (.map (some r)) (.string x.fr) false).run Tryz.prog W=.ok (.int .i64 ((i:Int)+1)) W∧(Instr.lookup 105 (.map (some r)) (.string x.to) false).run Tryz.prog W=.ok (.int .i64 ((j:Int)+1)) W) 28 [(0,true),(1,true),(2,true),(3,true),(4,true),(5,true),(6,true),(7,true),(8,true),(9,true),(10,true),(11,true),(12,true),(13,true),(14,true),(15,true),(16,true),(17,true),(18,true),(19,true),(20,true),(21,true),(22,false),(23,true),(24,true),(25,true),(26,true),(27,true)] hS ?_;generalize w.drew=W1 at HB hS ⊢
   iterate 22 refine aC rfl ?_
   refine aN rfl rfl (fun K hK=>?_);have hc:=hcon W1 HB.out;unfold Hp.agg at hc;dsimp only at hc
   go_simp;refine hc.mono ?_;rintro e W2 ⟨rfl,b2⟩;have HB2:=hIz (tHn HB.out b2);refine hK _ _ (fun _=>SR.out _ HB2.out) ?_;clear hK K hS hc hcon b2;(try simp only[Act.put,gA,gS,gZ,sA,sZ,sS])
   iterate 5 refine aC rfl ?_
   refine aG ?_;go_wp2;go_ret;exact⟨rfl,HB2.out⟩
  ·rw[AP ht] at l1;have hx:decide (x∈G.X)=false:=decide_eq_false fun hx=>ht (ok.ends x hx).2
   rw[hx];clear hg ho hi ok;go_enter Tryz.func43,Tryz.ntmps43;go_wp2_with fail;refine(nD w p r q1).mono ?_;rintro e w' ⟨rfl,hw⟩;subst w';go_wp2;go_ret;exact⟨rfl,Below.refl _ _⟩
 ·rw[AP hf] at l0;have hx:decide (x∈G.X)=false:=decide_eq_false fun hx=>hf (ok.ends x hx).1
  rw[hx];clear hg ho ok l1;go_enter Tryz.func43,Tryz.ntmps43;go_wp2_with fail;refine(nD w p r q1).mono ?_;rintro e w' ⟨rfl,hw⟩;subst w';go_wp2;go_ret;exact⟨rfl,Below.refl _ _⟩
open Go.RowKit
def gG(B:Nat)(p:Nat)(G:Gr)(w':World):Prop:=∃F,GrS w' F p G∧(∀k,F k→B≤k)
theorem gG.step{B p:Nat}{G':Gr}{w w':World}{F:Nat→Prop}(hF:∀k,F k→B≤k)(hB:B≤w.heap.size)(h:KG w F p G' w'):gG B p G' w'∧Below B w w':=by
 obtain⟨F',g,u,n⟩:=h;refine⟨⟨F',g,fun k hk=>?_⟩,u.below (fun i _ hi=>hF i hi) hB⟩;rcases n k hk with h|h
 ·exact hF k h
 ·omega
theorem gG.below{B p:Nat}{G:Gr}{w w':World}(h:gG B p G w)(hb:Below w.heap.size w w'):gG B p G w':=by
 obtain⟨F,g,n⟩:=h;exact⟨F,g.below hb,n⟩
def UG(w:World)(G:Gr)(f:Value→Value)(e:Ending)(w':World):Prop:=∃p,e=.returned (f (.pointer (some ⟨p,0,none⟩)))∧gG w.heap.size p G w'∧Below w.heap.size w w'
theorem QX(w:World):gG w.heap.size (w.heap.size+1) ⟨[],[]⟩ ((w.alloc (.map #[] 0)).alloc (.cells #[.slice none 0 0,.map (some w.heap.size),.slice none 0 0,.slice none 0 0,.int .i64 0] 108)):=by
 have k1:=Blk.new (w.alloc (.map #[] 0)) 108 #[.slice none 0 0,.map (some w.heap.size),.slice none 0 0,.slice none 0 0,.int .i64 0];have hz:(w.alloc (.map #[] 0)).heap.size=w.heap.size+1:=by simp
 rw[hz] at k1;refine⟨fun k=>(if k=w.heap.size+1 then some Ro.p else if k=w.heap.size then some Ro.m else none)≠none,⟨fun _=>[],fun _=>[],⟨fun k=>if k=w.heap.size+1 then some Ro.p else if k=w.heap.size then some Ro.m else none,⟨w.heap.size,.slice none 0 0,.slice none 0 0,.slice none 0 0,fun _=>.slice none 0 0,fun _=>.slice none 0 0⟩,⟨k1,(dH.made w _ _).alloc _,World.ownsRow_nil _ _ _ _,World.ownsRow_nil _ _ _ _,World.ownsRow_nil _ _ _ _,fun _=>World.ownsRow_nil _ _ _ _,fun _=>World.ownsRow_nil _ _ _ _,if_pos rfl,?_,?_,?_,?_,?_,?_,?_,fun _ _=>⟨rfl,rfl⟩⟩,rfl⟩,eB.new⟩,?_⟩
 ·show(if w.heap.size=w.heap.size+1 then some Ro.p else if w.heap.size=w.heap.size then some Ro.m else none)=some Ro.m
  rw[if_neg (by omega),if_pos rfl]
 ·intro k hk;simp[Value.ownBlock] at hk
 ·intro k hk;simp[Value.ownBlock] at hk
 ·intro k hk;simp[Value.ownBlock] at hk
 ·intro j k hk;simp[Value.ownBlock] at hk
 ·intro j k hk;simp[Value.ownBlock] at hk
 ·intro k hk;simp only[World.size_alloc] at *
  split at hk
  ·omega
  split at hk
  ·omega
  ·exact absurd rfl hk
 ·intro k hk;split at hk
  ·omega
  split at hk
  ·omega
  ·exact absurd rfl hk
theorem OX(w:World):Calls Tryz.prog 10 #[] w (UG w ⟨[],[]⟩ id):=by
 have FIN:=hIz (QX w);have HB:=hIz (show Below w.heap.size w ((w.alloc (.map #[] 0)).alloc (.cells #[.slice none 0 0,.map (some w.heap.size),.slice none 0 0,.slice none 0 0,.int .i64 0] 108)) from(bR.alloc (Nat.le_refl _) _).alloc (by simp) _);have hmm:=@run_makeMap Tryz.prog;go_enter Tryz.func10,Tryz.ntmps10;go_wp2;go_ret;exact⟨_,rfl,FIN.out,HB.out⟩
open Go.RowKit
theorem nO{N:List Txt}{E:List Ed}(h:fZ N E=true):dK ltT N∧dK ltE E∧∀x∈E,x.fr∈N∧x.to∈N:=by
 unfold fZ at h;rw[Bool.and_eq_true,Bool.and_eq_true,List.all_eq_true] at h;refine⟨eY eX h.1,eY qH h.2.1,fun x hx=>?_⟩;have:=h.2.2 x hx;unfold fP at this;rw[Bool.and_eq_true,bE,bE] at this;exact this
theorem QY{N M:List Txt}{E:List Ed}(h:dK ltT N)(_he:∀x∈E,x.fr∈N∧x.to∈N)(hm:∀s,s∈N↔s∈M∨∃x∈E,s=x.fr∨s=x.to):gN M E=N:=
 gM eX (fX h) (fun s=>(hm s).trans oM.symm)
theorem QZ{E:List Ed}(h:dK ltE E):gE E=E:=gM qH (fX h) (fun _=>Iff.rfl)
theorem MK{N M:List Txt}{E:List Ed}(h:cJ N E=0)(hM:∀s,s∈N↔s∈M∨∃x∈E,s=x.fr∨s=x.to):ofI M E=0∧gN M E=N∧gE E=E:=by
 obtain⟨h1,h2,h3⟩:=kE h;obtain⟨f1,f2,f3⟩:=nO h1;have e1:=QY f1 f3 hM;have e2:=QZ f2;refine⟨?_,e1,e2⟩;have hn:=fK.1 h2;have hn':bU M E=true:=fK.2 ⟨fun s hs=>hn.1 s ((hM s).2 (.inl hs)),hn.2⟩;rw[ofI,if_neg (by rw[hn'];simp),e1,e2,h3]
theorem CJ{N:List Txt}{E:List Ed}(h:ofI N E=0):cJ (gN N E) (gE E)=0:=by
 have hn:=fK.1 (lL h);have u1:=(bJ eX (rY N E)).up;have u2:=(bJ qH E).up;have hf:fZ (gN N E) (gE E)=true:=by
  unfold fZ;rw[Bool.and_eq_true,Bool.and_eq_true,List.all_eq_true];refine⟨fX u1,fX u2,fun x hx=>?_⟩;unfold fP;rw[Bool.and_eq_true,bE,bE];have:=iX.1 hx;exact⟨lK.2 (.inr ⟨x,this,.inl rfl⟩),lK.2 (.inr ⟨x,this,.inr rfl⟩)⟩
 have hm:bU (gN N E) (gE E)=true:=by
  refine fK.2 ⟨fun s hs=>?_,fun x hx=>hn.2 x (iX.1 hx)⟩;rcases lK.1 hs with h1|⟨x,hx,rfl|rfl⟩
  ·exact hn.1 s h1
  ·exact(hn.2 x hx).1
  ·exact(hn.2 x hx).2.2
 rw[cJ,if_neg (by rw[hf];simp),if_neg (by rw[hm];simp),sG h]
open Go.RowKit
theorem RA{N M:List Txt}{E F:List Ed}(h:cJ N E=0)(hN:∀s,s∈M↔s∈N)(hE:∀x,x∈F↔x∈E):ofI M F=0∧gN M F=N∧gE F=E:=by
 obtain⟨f1,f2,f3⟩:=nO (kE h).1;obtain⟨a,b,c⟩:=MK h (M:=N) (fun s=>⟨.inl,fun hs=>by
  rcases hs with hs|⟨x,hx,rfl|rfl⟩
  ·exact hs
  ·exact(f3 x hx).1
  ·exact(f3 x hx).2⟩)
 have hends:∀s,(s∈M∨∃x∈F,s=x.fr∨s=x.to)↔(s∈N∨∃x∈E,s=x.fr∨s=x.to):=fun s=>by
  constructor
  ·rintro (hs|⟨x,hx,hs⟩)
   ·exact .inl ((hN s).1 hs)
   ·exact .inr ⟨x,(hE x).1 hx,hs⟩
  ·rintro (hs|⟨x,hx,hs⟩)
   ·exact .inl ((hN s).2 hs)
   ·exact .inr ⟨x,(hE x).2 hx,hs⟩
 refine⟨?_,by rw[xR hends,b],by rw[xS hE,c]⟩;rw[sH hends hE (fun s hs=>.inl ((hN s).1 hs)) (fun s hs=>.inl ((hN s).2 hs)),a]
open Go.RowKit
theorem pE{G:Gr}{x:Ed}(hx:x ∉ G.X)(h:ofI G.N (G.X++[x])=0):aX G x=(⟨cU (cU G.N x.fr) x.to,G.X++[x]⟩,true,0):=by
 unfold aX;rw[if_neg hx,if_pos h]
theorem CK{G:Gr}{s:Txt}(h:s∈G.N):cH G s=(G,false,0):=by
 unfold cH;rw[if_pos (bE.2 h)]
theorem vW(G:Gr)(x:Ed):((aX G x).2.1=true→(aX G x).2.2=0)∧((aX G x).2.1=false→(aX G x).1=G)∧((aX G x).2.2=0→x∈(aX G x).1.X)∧(∃M,(aX G x).1.N=G.N++M)∧(∀y∈G.X,y∈(aX G x).1.X)∧((aX G x).2.2≠0→ofI G.N (G.X++[x])≠0)∧((aX G x).2.1=true→x ∉ G.X):=by
 unfold aX;split
 ·rename_i h
  exact⟨fun e=>(by cases e),fun _=>rfl,fun _=>h,⟨[],by simp⟩,fun _ h=>h,fun e=>absurd rfl e,fun e=>by cases e⟩
 split
 ·rename_i h h2
  refine⟨fun _=>rfl,fun e=>(by cases e),fun _=>by simp,?_,fun y hy=>List.mem_append.2 (.inl hy),fun e=>absurd rfl e,fun _=>h⟩;have key:∀(N:List Txt) s,∃M,cU N s=N++M:=fun N s=>by
   unfold cU;split
   ·exact⟨[],by simp⟩
   ·exact⟨[s],rfl⟩
  obtain⟨M,e1⟩:=key G.N x.fr;obtain⟨M',e2⟩:=key (cU G.N x.fr) x.to;exact⟨M++M',by dsimp only;rw[e2,e1,List.append_assoc]⟩
 ·rename_i h h2
  exact⟨fun e=>(by cases e),fun _=>rfl,fun e=>absurd e h2,⟨[],by simp⟩,fun _ h=>h,fun e=>e,fun e=>by cases e⟩
theorem vX(G:Gr)(s:Txt):((cH G s).2.1=true→(cH G s).2.2=0)∧((cH G s).2.1=false→(cH G s).1=G)∧((cH G s).2.2=0→s∈(cH G s).1.N)∧(∃M,(cH G s).1.N=G.N++M)∧(cH G s).1.X=G.X∧((cH G s).2.1=true→s ∉ G.N):=by
 unfold cH;split
 ·rename_i h
  exact⟨fun e=>(by cases e),fun _=>rfl,fun _=>bE.1 h,⟨[],by simp⟩,rfl,fun e=>by cases e⟩
 split
 ·rename_i h h2
  exact⟨fun _=>rfl,fun e=>(by cases e),fun _=>by simp,⟨[s],rfl⟩,rfl,fun _ hs=>h (bE.2 hs)⟩
 ·rename_i h h2
  exact⟨fun e=>(by cases e),fun _=>rfl,fun e=>absurd e h2,⟨[],by simp⟩,rfl,fun e=>by cases e⟩
structure WJ(G G1 G2:Gr)(m1 m2:Bool)(e1 e2:Int)(x:Ed)(s:Txt):Prop where
 same:LJ (fC G2) (eT G2) (fC G) (eT G)=!(m1||m2)
 fair:(m1=true→e1=0)∧(m2=true→e2=0)
 has:e1=0→x∈G2.X
 again:∃e,aX G2 x=(G2,false,e)∧(e1=0→e=0)
 twice:∃e,cH G2 s=(G2,false,e)∧(e2=0→e=0)
 more:∃M,G2.N=G.N++M
 may:cJ (fC G2) (eT G2)=0
theorem stays{G:Gr}(ok:GOk G)(x:Ed)(s:Txt):WJ G (aX G x).1 (cH (aX G x).1 s).1 (aX G x).2.1 (cH (aX G x).1 s).2.1 (aX G x).2.2 (cH (aX G x).1 s).2.2 x s:=by
 obtain⟨a1,a2,a3,⟨M1,a4⟩,a5,a6,a7⟩:=vW G x;have ok1:=ok.edge x;obtain⟨b1,b2,b3,⟨M2,b4⟩,b5,b6⟩:=vX (aX G x).1 s;have ok2:=ok1.node s;generalize hG1:(aX G x).1=G1 at *;generalize hm1:(aX G x).2.1=m1 at *;generalize he1:(aX G x).2.2=e1 at *;generalize hG2:(cH G1 s).1=G2 at *;generalize hm2:(cH G1 s).2.1=m2 at *;generalize he2:(cH G1 s).2.2=e2 at *;have hin:m1=false→m2=false→G2=G:=fun h1 h2=>(b2 h2).trans (a2 h1)
 refine⟨?_,⟨a1,b1⟩,fun h=>by rw[b5];exact a3 h,?_,?_,⟨M1++M2,by rw[b4,a4,List.append_assoc]⟩,CJ ok2.may⟩
 ·cases h1:m1 with
  | true =>
   have hx:=a7 h1;have hx2:x∈G2.X:=by rw[b5];exact a3 (a1 h1)
   have:eT G2≠eT G:=fun e=>hx (iX.1 (by show x∈eT G;rw[← e];exact iX.2 hx2))
   simp[LJ,this]
  | false =>
   cases h2:m2 with
   | true =>
    have hs:=b6 h2;rw[a2 h1] at hs;have:fC G2≠fC G:=fun e=>hs ((nL ok).1 (by rw[← e];exact(nL ok2).2 (b3 (b1 h2))))
    simp[LJ,this]
   | false =>
    rw[hin h1 h2];simp[LJ]
 ·by_cases h:e1=0
  ·exact⟨0,by unfold aX;rw[if_pos (by rw[b5];exact a3 h)],fun _=>rfl⟩
  ·have h1:m1=false:=by
    cases h1:m1 with
    | true=>exact absurd (a1 h1) h
    | false=>rfl
   have hx:x ∉ G2.X:=by
    rw[b5,a2 h1];intro hx;apply h
    rw[← he1];unfold aX;rw[if_pos hx]
   have ho:ofI G2.N (G2.X++[x])≠0:=fun e=>a6 h (FF (fun t ht=>.inl (by rw[b4,a4];simp[ht])) (fun y hy=>by rw[b5,a2 h1];exact hy) e)
   exact⟨_,by unfold aX;rw[if_neg hx,if_neg ho],fun e=>absurd e h⟩
 ·by_cases h:e2=0
  ·exact⟨0,CK (b3 h),fun _=>rfl⟩
  ·have h2:m2=false:=by
    cases h2:m2 with
    | true=>exact absurd (b1 h2) h
    | false=>rfl
   have:=b2 h2;rw[this];refine⟨e2,?_,fun e=>absurd e h⟩;rw[← hm2,← he2] at *;exact Prod.ext (by rw[hG2];exact this) (Prod.ext h2 rfl)
open Go.RowKit
theorem gG.mono{B B' p:Nat}{G:Gr}{w:World}(h:gG B p G w)(hb:B'≤B):gG B' p G w:=by
 obtain⟨F,g,n⟩:=h;exact⟨F,g,fun k hk=>Nat.le_trans hb (n k hk)⟩
theorem vY{N:List Txt}(hd:N.Nodup){k:Nat}{s:Txt}(h:N[k]?=some s):cU (N.take k) s=N.take (k+1):=by
 have hs:s ∉ N.take k:=fun hm=>by
  have e:=List.take_append_drop k N;obtain⟨hk,hk2⟩:=gO.1 h;have hmem:s∈N.drop k:=by
   rw[List.drop_eq_getElem_cons hk,hk2];simp
  rw[← e,List.nodup_append] at hd;exact hd.2.2 s hm s hmem rfl
 unfold cU;rw[if_neg (fun e=>hs (bE.1 e)),List.take_add_one,h];rfl
theorem GY{N:List Txt}{s:Txt}(h:s∈N):cU N s=N:=by unfold cU;rw[if_pos (bE.2 h)]
theorem CL{α:Type}{N:List α}(hd:N.Nodup){k:Nat}{s:α}(h:N[k]?=some s):s ∉ N.take k:=fun hm=>by
 have e:=List.take_append_drop k N;obtain⟨hk,hk2⟩:=gO.1 h;have hmem:s∈N.drop k:=by
  rw[List.drop_eq_getElem_cons hk,hk2];simp
 rw[← e,List.nodup_append] at hd;exact hd.2.2 s hm s hmem rfl
def GZ(w:World)(N:List Txt)(E:List Ed)(e:Ending)(w':World):Prop:=
 (cJ N E≠0∧e=.returned (.tuple #[.pointer none,.int .i64 (cJ N E)])∧Below w.heap.size w w')∨(cJ N E=0∧UG w ⟨N,E⟩ (fun v=>.tuple #[v,.int .i64 0]) e w')
theorem CM{B p k:Nat}{N:List Txt}{w:World}(hd:N.Nodup)(h:gG B p ⟨N.take k,[]⟩ w)(hB:B≤w.heap.size){s:Txt}(hs:N[k]?=some s)(hk:eP s)(hl:N.length≤32) :
  Calls Tryz.prog 45 #[.pointer (some ⟨p,0,none⟩),.string s] w (fun e w'=>(∃v,e=.returned v)∧gG B p ⟨N.take (k+1),[]⟩ w'∧Below B w w'):=by
 obtain⟨F,⟨U,V,g,ho⟩,n⟩:=h;refine(sM w F p (N.take k) U V _ s g hk (by rw[List.length_take];omega)).mono ?_;rintro e w' ⟨rfl,F',g',u',n'⟩;have:=gG.step (G':=⟨N.take (k+1),[]⟩) n hB ⟨F',⟨U,V,by rw[vY hd hs] at g';exact g',by have:=ho.node (fun x hx=>by cases hx) s;rw[vY hd hs] at this;exact this⟩,u',n'⟩;exact⟨⟨_,rfl⟩,this⟩
theorem CN{B p k:Nat}{N:List Txt}{E:List Ed}{w:World}(hN:N.Nodup)(hd:E.Nodup)(hends:∀x∈E,x.fr∈N∧x.to∈N)(h:gG B p ⟨N,E.take k⟩ w)(hB:B≤w.heap.size){x:Ed}(hx:E[k]?=some x)(hk:uM x)(hl:N.length≤32)(he:E.length≤256) :
  Calls Tryz.prog 46 #[.pointer (some ⟨p,0,none⟩),x.agg] w (fun e w'=>(∃v,e=.returned v)∧gG B p ⟨N,E.take (k+1)⟩ w'∧Below B w w'):=by
 obtain⟨F,⟨U,V,g,ho⟩,n⟩:=h;have hlt:(E.take k).length≤256:=by rw[List.length_take];omega
 have hUV:=fun k=>ho.len k
 dsimp only at ho hUV
 have hm:=hends x (mG hx);have hts:∀y∈E.take k,y.fr∈N∧y.to∈N:=fun y hy=>hends y (List.mem_of_mem_take hy)
 refine(AO w F p N U V _ x g hk (by omega) (fun k=>⟨ho.up k,by have:=(hUV k).1;omega⟩) (fun k=>⟨ho.vp k,by have:=(hUV k).2;omega⟩) ⟨by omega,by dsimp only;omega⟩).mono ?_;rintro e w' ⟨rfl,F',g',u',n'⟩;have e1:cU (cU N x.fr) x.to=N:=by rw[GY hm.1,GY hm.2]
 rw[e1] at g';have e2:E.take k++[x]=E.take (k+1):=by rw[List.take_add_one,hx];rfl
 have hops:=ho.edge hN hts hm.1 hm.2 (CL hd hx);rw[e2] at hops;have e3:(((E.take (k+1)).length:Nat):Int)=((E.take k).length:Int)+1:=by rw[← e2];simp
 have:=gG.step (G':=⟨N,E.take (k+1)⟩) n hB ⟨F',⟨_,_,by dsimp only;rw[e3];exact g',hops⟩,u',n'⟩;exact⟨⟨_,rfl⟩,this⟩
theorem RB(w:World)(A:Option Addr)(c:Nat)(B:Option Addr)(d:Nat)(N:List Txt)(E:List Ed)(h:lB w A c B d N E) :
  Calls Tryz.prog 12 #[cP A N.length c B E.length d] w (GZ w N E):=by
 have k0:=Blk.new w 34 #[.slice A N.length c,.slice B E.length d];have u0:Below w.heap.size w (w.alloc (.cells #[.slice A N.length c,.slice B E.length d] 34)):=bR.alloc (Nat.le_refl _) _;have H:=aI3 (h.below u0) k0 u0;clear h k0 u0;obtain⟨z,hz⟩:∃z,cJ N E=z:=⟨_,rfl⟩;have HZ:=hIz hz;clear hz;unfold cP;obtain⟨n,hn⟩:∃n,N.length=n:=⟨_,rfl⟩;obtain⟨m,hm⟩:∃m,E.length=m:=⟨_,rfl⟩;have hche:=fun W hG=>BU W A c B d N E hG
 unfold cP at hche;rw[hn,hm] at H hche ⊢;have HL:=aI2 hn hm;clear hn hm;go_enter Tryz.func12,Tryz.ntmps12;go_upto_region 1 with (fail);generalize w.alloc (.cells #[.slice A n c,.slice B m d] 34)=W0 at H ⊢;have q0:W0.cell? ⟨w.heap.size,0,none⟩=some (.slice A n c):=H.out.2.1.cell 0;have q1:W0.cell? ⟨w.heap.size,1,none⟩=some (.slice B m d):=H.out.2.1.cell 1;have hcon:=hche W0 H.out.1;rw[HZ.out] at hcon;go_wp2_with fail;refine hcon.mono ?_;clear hcon hche q0 q1;rintro e W1 ⟨rfl,b1⟩;have H1:=aI3 (H.out.1.below b1) (H.out.2.1.upd (upF b1) id) (tHn H.out.2.2 b1);clear b1;by_cases h0:z=0
 ·subst h0;have hc:=kE HZ.out;have hform:=nO hc.1;have hcap:=QU hc.2.2;have hn32:n≤32:=by rw[← HL.out.1];exact hcap.1
  have hm256:m≤256:=by rw[← HL.out.2];exact hcap.2.2.1
  have HF:=aI4 (hform.1.nodup eX) (hform.2.1.nodup qH) hform.2.2 H.out.1.fit;clear hc hform hcap;go_wp2_with fail;refine(OX W1).mono ?_;rintro e W2 ⟨p,rfl,fr2,b2⟩;have H2:=aI2 fr2 b2;have q0:W2.cell? ⟨w.heap.size,0,none⟩=some (.slice A n c):=(H1.out.2.1.upd (upF b2) id).cell 0;clear b2 fr2;go_wp2_with fail;clear q0;go_loopw [19] (fun i wr=>∃k:Nat,k≤n∧i=.int .i64 k∧Hid (gG W1.heap.size p ⟨N.take k,[]⟩ wr)∧Hid (Below W1.heap.size W1 wr)) (fun i _=>n-(intOf i).toNat)
  case atStart=>exact⟨0,Nat.zero_le _,rfl,hIz H2.out.1,hIz H2.out.2⟩
  case round =>
   obtain⟨k,hk,rfl,hfr,hbw⟩:=hrel;by_cases hlt:k<n
   ·have hltI:(k:Int)<(n:Int):=by omega
    have hkw:IntKind.i64.wrap ((k:Int)+1)=(k:Int)+1:=IntWalk.i64_in _ (by omega);obtain⟨s,hs⟩:∃s,N[k]?=some s:=⟨N[k]'(by rw[HL.out.1];exact hlt),gEz _⟩;obtain⟨ab,ao,rfl,y0⟩:=((H1.out.1.rn.below hbw.out).txt hs);have hcon:=CM HF.out.1 hfr.out hbw.out.size hs (HF.out.2.2.2.tn s (mG hs)) (by rw[HL.out.1];exact hn32);clear hs;go_wp2_with fail;refine hcon.mono ?_;clear hcon y0;rintro e W3 ⟨⟨v,rfl⟩,f3,b3⟩;have HB3:=aI2 f3 (hbw.out.trans b3);clear f3 b3;go_wp2;go_roundw
    case rel=>exact⟨k+1,by omega,by go_num,hIz HB3.out.1,hIz HB3.out.2⟩
    case measure=>simp[intOf];omega
   ·obtain rfl:k=n:=by omega
    have q1:wr.cell? ⟨w.heap.size,1,none⟩=some (.slice B m d):=(H1.out.2.1.upd (upF hbw.out) id).cell 1;have HW:=hIz (show gG W1.heap.size p ⟨N,E.take 0⟩ wr from by
     have:=hfr.out;rw[← HL.out.1,List.take_length] at this;exact this)
    clear hfr;go_wp2_with fail;clear q1;generalize wr=W4 at HW hbw ⊢;go_loopw [30] (fun i wr=>∃k:Nat,k≤m∧i=.int .i64 k∧Hid (gG W1.heap.size p ⟨N,E.take k⟩ wr)∧Hid (Below W1.heap.size W1 wr)) (fun i _=>m-(intOf i).toNat)
    case atStart=>exact⟨0,Nat.zero_le _,rfl,HW,hbw⟩
    case round =>
     obtain⟨j,hj,rfl,hfr,hbz⟩:=hrel;by_cases hjt:j<m
     ·have hjtI:(j:Int)<(m:Int):=by omega
      have hjw:IntKind.i64.wrap ((j:Int)+1)=(j:Int)+1:=IntWalk.i64_in _ (by omega);obtain⟨x,hx⟩:∃x,E[j]?=some x:=⟨E[j]'(by rw[HL.out.2];exact hjt),gEz _⟩;have hxk:=HF.out.2.2.2.te x (mG hx);obtain⟨s0,s1,s2⟩:=x;obtain⟨ab,ao,rfl,y0,y1,y2⟩:=((H1.out.1.re.below hbz.out).ed hx);dsimp only at y0 y1 y2
      have k5:=Blk.new wr 32 #[.string s0,.string s1,.string s2];have u5:Below wr.heap.size wr (wr.alloc (.cells #[.string s0,.string s1,.string s2] 32)):=bR.alloc (Nat.le_refl _) _;have hcon:=CN (w:=wr.alloc (.cells #[.string s0,.string s1,.string s2] 32)) HF.out.1 HF.out.2.1 HF.out.2.2.1 (hfr.out.below u5) (by have:=hbz.out.size;have:=u5.size;omega) hx hxk (by rw[HL.out.1];exact hn32) (by rw[HL.out.2];exact hm256);have HU:=aI2 k5 (tHn hbz.out u5);clear k5 u5 hx;unfold Ed.agg at hcon;dsimp only at hcon
      go_upto_region 13 with (fail);generalize wr.alloc (.cells #[.string s0,.string s1,.string s2] 32)=W6 at HU hcon ⊢;clear y0 y1 y2;have y0:W6.cell? ⟨wr.heap.size,0,none⟩=some (.string s0):=HU.out.1.cell 0;have y1:W6.cell? ⟨wr.heap.size,1,none⟩=some (.string s1):=HU.out.1.cell 1;have y2:W6.cell? ⟨wr.heap.size,2,none⟩=some (.string s2):=HU.out.1.cell 2;go_wp2_with fail;refine hcon.mono ?_;clear hcon y0 y1 y2;rintro e W7 ⟨⟨v,rfl⟩,f7,b7⟩;have HB7:=aI2 f7 (HU.out.2.trans b7);clear f7 b7;go_wp2;go_roundw
      case rel=>exact⟨j+1,by omega,by go_num,hIz HB7.out.1,hIz HB7.out.2⟩
      case measure=>simp[intOf];omega
     ·obtain rfl:j=m:=by omega
      have FIN:=hIz (show GZ w N E (.returned (.tuple #[.pointer (some ⟨p,0,none⟩),.int .i64 0])) wr from by
       refine .inr ⟨HZ.out,p,rfl,?_,tHn H1.out.2.2 hbz.out⟩;have:=hfr.out;rw[← HL.out.2,List.take_length] at this;exact this.mono H1.out.2.2.size)
      clear hfr hbz;go_wp2;refine bodyPost_ret (v:=.tuple #[.pointer (some ⟨p,0,none⟩),.int .i64 0]) (by simp[results,Tryz.f12,go_sem]) rfl FIN.out
 ·have h0I:(z==0)=false:=by simpa using h0
  have FIN:=hIz (show GZ w N E (.returned (.tuple #[.pointer none,.int .i64 z])) W1 from .inl ⟨by rw[HZ.out];exact h0,by rw[HZ.out],H1.out.2.2⟩);go_wp2;refine bodyPost_ret (v:=.tuple #[.pointer none,.int .i64 z]) (by simp[results,Tryz.f12,go_sem]) rfl FIN.out
open Go.RowKit
theorem UH(w:World)(F:Nat→Prop)(p:Nat)(G:Gr)(h:GrS w F p G):Calls Tryz.prog 40 #[.pointer (some ⟨p,0,none⟩)] w (Sam w (.tuple #[.int .i64 (G.N.length:Nat),.int .i64 (G.X.length:Nat)])):=by
 obtain⟨U,V,⟨O,⟨r,nv,ov,iv,fo,fi⟩,hg,-⟩,-⟩:=h;have q1:w.cell? ⟨p,1,none⟩=some (.map (some r)):=hg.blk.cell 1;obtain⟨nA,nc,e1,-,-⟩:=aK hg.rn;dsimp only at e1
 subst e1;have q0:w.cell? ⟨p,0,none⟩=some (.slice nA G.N.length nc):=hg.blk.cell 0;have q4:w.cell? ⟨p,4,none⟩=some (.int .i64 (G.X.length:Int)):=hg.blk.cell 4;clear hg;generalize G.N.length=a at q0 ⊢;generalize ((G.X.length:Nat):Int)=b at q4 ⊢;go_enter Tryz.func40,Tryz.ntmps40;go_wp2_with fail;refine(nD w p r q1).mono ?_;rintro e w' ⟨rfl,hw⟩;subst w';go_upto_region 3 with (fail);go_quiet (fail)
 go_wp2;refine bodyPost_ret (v:=.tuple #[.int .i64 (a:Int),.int .i64 b]) (by simp[results,Tryz.f40,go_sem]) rfl ⟨rfl,((Upd.refl (fun _=>False) w).drewN _).below (fun _ _ h=>h.elim) (Nat.le_refl _)⟩
open Go.RowKit
theorem alX{W1 W:World}(ty:TypeId)(cs:Array Value)(h:Below W1.heap.size W1 W):Hid (Blk (W.alloc (.cells cs ty)) W.heap.size ty cs∧Below W1.heap.size W1 (W.alloc (.cells cs ty)))∧Hid (Below W.heap.size W (W.alloc (.cells cs ty)))∧W.heap.size<(W.alloc (.cells cs ty)).heap.size:=
 have k:=Blk.new W ty cs;⟨⟨k,h.alloc h.size _⟩,(Below.refl W.heap.size W).alloc (Nat.le_refl _) _,k.lt⟩

theorem RC(w:World)(F:Nat→Prop)(p:Nat)(G:Gr)(h:GrS w F p G)(ok:GOk G)(A:Option Addr)(c:Nat)(B:Option Addr)(d:Nat)(M:List Txt)(D:List Ed)(hM:aU w A (aE M))(hD:aU w B (aP D))(hm1:M.length≤1)(hd1:D.length≤1)(tM:∀s∈M,eP s)(tD:∀x∈D,uM x) :
  Calls Tryz.prog 82 #[.pointer (some ⟨p,0,none⟩),.slice A M.length c,.slice B D.length d] w (Sam w (.int .i64 (ofI (G.N++M) (G.X++D)))):=by
 have hcon:=QW w F p G h ok;have hf:=ok.few;have hs:=kL.of (lL ok.may);have hn5:(fC G).length≤32:=Nat.le_trans (iN (zX _ _) (fun s hs=>(nL ok).1 hs)) hf.1;have he5:(eT G).length≤256:=Nat.le_trans (iN (sF _) (fun x hx=>iX.1 hx)) hf.2;have HFT:=hIz (show TC (fC G++M) (eT G++D) from⟨by rw[List.length_append];omega,by rw[List.length_append];omega,fun t ht=>by
  rcases List.mem_append.1 ht with ht|ht
  ·have:=hs.n t ((nL ok).1 ht);unfold eP;omega
  ·exact tM t ht,fun x hx=>by
  rcases List.mem_append.1 hx with hx|hx
  ·have:=hs.e x (iX.1 hx);unfold uM eP;omega
  ·exact tD x hx⟩)
 have HBB:=hIz (show((fC G++M).length+(eT G++D).length*2)*16≤140737488355328 by simp only[List.length_append];omega);have HNL:=hIz (show((fC G).length+M.length)*16≤140737488355328∧((eT G).length+D.length)*48≤140737488355328 by omega);have HOI:=hIz (show ofI (fC G++M) (eT G++D)=ofI (G.N++M) (G.X++D) from QH M D);have HMD:=aI2 hM hD;obtain⟨x1,hx1⟩:∃q,(fC G).length=q:=⟨_,rfl⟩;obtain⟨x2,hx2⟩:∃q,(eT G).length=q:=⟨_,rfl⟩;obtain⟨m1,hm⟩:∃q,M.length=q:=⟨_,rfl⟩;obtain⟨m2,hdd⟩:∃q,D.length=q:=⟨_,rfl⟩;obtain⟨qN,hqN⟩:∃q,(fC G++M).length=q:=⟨_,rfl⟩;obtain⟨qE,hqE⟩:∃q,(eT G++D).length=q:=⟨_,rfl⟩;have HQ:=aI2 hqN hqE;have HN:=aI4 hx1 hx2 hm hdd;unfold XF cP at hcon;rw[hx1,hx2] at hcon;rw[hm,hdd];clear h hf hs hn5 he5 tM tD hM hD hm1 hd1 hx1 hx2 hm hdd hqN hqE ok;go_enter Tryz.func82,Tryz.ntmps82;go_wp2_with fail;refine hcon.mono ?_;clear hcon;rintro e W0 ⟨A5,c5,B5,d5,rfl,o1,o2,b0⟩;have k7:=Blk.new W0 34 #[.slice A5 x1 c5,.slice B5 x2 d5];have u7:Below W0.heap.size W0 (W0.alloc (.cells #[.slice A5 x1 c5,.slice B5 x2 d5] 34)):=bR.alloc (Nat.le_refl _) _;have HR0:=hIz (show aU W0 A5 (aE (fC G))∧aU W0 B5 (aP (eT G))∧aU W0 A (aE M)∧aU W0 B (aP D) from⟨aU.of_own o1,aU.of_own o2,HMD.out.1.below b0,HMD.out.2.below b0⟩);have HW0:=hIz b0;have HK7:=aI2 k7 u7;have hz7:(W0.alloc (.cells #[.slice A5 x1 c5,.slice B5 x2 d5] 34)).heap.size=W0.heap.size+1:=by simp
 clear o1 o2 b0 k7 u7;go_upto_region 2 with (fail);generalize W0.alloc (.cells #[.slice A5 x1 c5,.slice B5 x2 d5] 34)=W1 at HK7 hz7 ⊢;have US:=hIz (show ∀W,Below W1.heap.size W1 W→(fun w'=>w'.cell? ⟨W0.heap.size,0,none⟩=some (.slice A5 x1 c5)∧w'.cell? ⟨W0.heap.size,1,none⟩=some (.slice B5 x2 d5)) W from fun W hb=>by
  have kb:=HK7.out.1.upd (upF hb) id;exact⟨kb.cell 0,kb.cell 1⟩)
 have HWT:=hIz (show Below w.heap.size w W1 from tHn HW0.out HK7.out.2);have HR:=hIz (show aU W1 A5 (aE (fC G))∧aU W1 B5 (aP (eT G))∧aU W1 A (aE M)∧aU W1 B (aP D) from⟨HR0.out.1.below HK7.out.2,HR0.out.2.1.below HK7.out.2,HR0.out.2.2.1.below HK7.out.2,HR0.out.2.2.2.below HK7.out.2⟩);clear HR0 HK7 HW0 HMD hz7;have HB0:=hIz (show Below W1.heap.size W1 W1.drew from bR.drew);have hS:=US.out _ HB0.out;refine fH (fun w'=>w'.cell? ⟨W0.heap.size,0,none⟩=some (.slice A5 x1 c5)∧w'.cell? ⟨W0.heap.size,1,none⟩=some (.slice B5 x2 d5)) (by kernel_rfl) (by kernel_rfl) hS ?_;refine lM (fun hd=>?_);generalize W1.drew=V0 at HB0 hS ⊢;(refine aD 0 rfl hd hS ?_;clear hd;intro hd;(try simp only[Act.put,gA,gZ,sA,sZ,sS]))
 refine aD 1 rfl hd hS ?_;clear hd;intro hd;refine aD 2 rfl hd hS ?_;clear hd;intro hd;refine aD 5 rfl hd hS ?_;clear hd;intro hd;refine aD 6 rfl hd hS ?_;clear hd;intro hd;refine aD 7 rfl hd hS ?_;clear hd;intro hd;clear hS;refine sI hd 3 8 14 ?_ ?_ ?_<;>(clear hd;intro hd)
 focus
  refine aJ rfl rfl (fun K hK=>?_);go_simp;obtain⟨HX1,HS1,hlt1⟩:=alX 26 #[.slice A5 x1 c5,.slice A m1 c] HB0.out;refine hK _ _ (US.out _ HX1.out.2) ?_;clear hK K;(try simp only[Act.put,gA,gS,gZ,sA,sZ,sS])
  generalize V0.alloc (.cells #[.slice A5 x1 c5,.slice A m1 c] 26)=V1 at HX1 HS1 hlt1 ⊢;have HB1:=hIz HX1.out.2;refine sI hd 4 8 14 ?_ ?_ ?_<;>(clear hd;intro hd)
  focus
   refine aJ rfl rfl (fun K hK=>?_);go_simp;have hcon:=cK V1 V0.heap.size A5 c5 A c (fC G) M (by rw[HN.out.1,HN.out.2.2.1];exact HX1.out.1.upd (Upd.of_below bR (fun _=>False)) id) (HR.out.1.below HB1.out) (HR.out.2.2.1.below HB1.out) HNL.out.1;refine hcon.mono ?_;clear hcon;rintro e V2 ⟨v,rfl,own2X,b2X⟩;rw[HQ.out.1] at own2X;obtain⟨A2X,c2X,rfl,hle2X,row2X⟩:=bP own2X;have HB2:=hIz (tHn HB1.out b2X);have HS2:=hIz b2X;have HR2X:=aI2 row2X hle2X;clear own2X b2X row2X hle2X;refine hK _ _ (US.out _ HB2.out) ?_;clear hK K;(try simp only[Act.put,gA,gS,gZ,sA,sZ,sS])
   refine bK hd 8 14 ?_ ?_<;>(clear hd;intro hd)
   focus
    refine aJ rfl rfl (fun K hK=>?_);go_simp;obtain⟨HX3,HS3,hlt3⟩:=alX 27 #[.slice B5 x2 d5,.slice B m2 d] HB2.out;refine hK _ _ (US.out _ HX3.out.2) ?_;clear hK K;(try simp only[Act.put,gA,gS,gZ,sA,sZ,sS])
    generalize V2.alloc (.cells #[.slice B5 x2 d5,.slice B m2 d] 27)=V3 at HX3 HS3 hlt3 ⊢;have HB3:=hIz HX3.out.2;refine bK hd 9 14 ?_ ?_<;>(clear hd;intro hd)
    focus
     refine aJ rfl rfl (fun K hK=>?_);go_simp;have hcon:=bW V3 V2.heap.size B5 d5 B d (eT G) D (by rw[HN.out.2.1,HN.out.2.2.2];exact HX3.out.1.upd (Upd.of_below bR (fun _=>False)) id) (HR.out.2.1.below HB3.out) (HR.out.2.2.2.below HB3.out) HNL.out.2;refine hcon.mono ?_;clear hcon;rintro e V4 ⟨v,rfl,own4X,b4X⟩;rw[HQ.out.2] at own4X;obtain⟨A4X,c4X,rfl,hle4X,row4X⟩:=bP own4X;have HB4:=hIz (tHn HB3.out b4X);have HS4:=hIz b4X;have HR4X:=aI2 row4X hle4X;clear own4X b4X row4X hle4X;refine hK _ _ (US.out _ HB4.out) ?_;clear hK K;(try simp only[Act.put,gA,gS,gZ,sA,sZ,sS])
     refine bK hd 10 14 ?_ ?_<;>(clear hd;intro hd)
     focus
      refine aJ rfl rfl (fun K hK=>?_);have rA:=HR2X.out.1.below ((HS3.out).trans ((HS4.out).mono (HS3.out).size));have rB:=HR4X.out.1.below bR;have hmade:=eU V4 A2X c2X A4X c4X (fC G++M) (eT G++D) ⟨rA,rB,by rw[HQ.out.1];exact HR2X.out.2,by rw[HQ.out.2];exact HR4X.out.2,HFT.out⟩ HBB.out;clear rA rB;rw[HQ.out.1,HQ.out.2] at hmade;go_simp;refine hmade.mono ?_;clear hmade;rintro e V5 ⟨AZ,cZ,BZ,dZ,rfl,-,-,bZ⟩;have HB5:=hIz (tHn HB4.out bZ);have HS5:=hIz bZ;clear bZ;unfold cP;refine hK _ _ (US.out _ HB5.out) ?_;clear hK K;(try simp only[Act.put,gA,gS,gZ,sA,sZ,sS])
      have hS:=US.out _ HB5.out;refine aD 11 rfl hd hS ?_;clear hd;intro hd;refine aD 12 rfl hd hS ?_;clear hd;intro hd;refine aD 13 rfl hd hS ?_;clear hd;intro hd;clear hS;refine aH hd 14 ?_;clear hd;intro hd;refine aJ rfl rfl (fun K hK=>?_);go_simp;obtain⟨HX6,HS6,hlt6⟩:=alX 34 #[.slice none 0 0,.slice none 0 0] HB5.out;refine hK _ _ (US.out _ HX6.out.2) ?_;clear hK K;(try simp only[Act.put,gA,gS,gZ,sA,sZ,sS])
      generalize V5.alloc (.cells #[.slice none 0 0,.slice none 0 0] 34)=V6 at HX6 HS6 hlt6 ⊢;have HB6:=hIz HX6.out.2;have kr:=HX6.out.1.upd (Upd.of_below bR (fun _=>False)) id;have bZ:=HB6.out;have hz:=HB5.out.size;generalize V5.heap.size=kz at kr hz ⊢;rename World=>WZ
     rotate_left 1
     focus
      refine aJ rfl rfl (fun K hK=>?_);go_simp;obtain⟨HX7,HS7,hlt7⟩:=alX 34 #[.slice none 0 0,.slice none 0 0] HB4.out;refine hK _ _ (US.out _ HX7.out.2) ?_;clear hK K;(try simp only[Act.put,gA,gS,gZ,sA,sZ,sS])
      generalize V4.alloc (.cells #[.slice none 0 0,.slice none 0 0] 34)=V7 at HX7 HS7 hlt7 ⊢;have HB7:=hIz HX7.out.2;refine aH hd 10 ?_;clear hd;intro hd;refine aJ rfl rfl (fun K hK=>?_);have rA:=HR2X.out.1.below (((HS3.out).trans ((HS4.out).mono (HS3.out).size)).trans ((HS7.out).mono ((HS3.out).trans ((HS4.out).mono (HS3.out).size)).size));have rB:=HR4X.out.1.below (HS7.out);have hmade:=eU V7 A2X c2X A4X c4X (fC G++M) (eT G++D) ⟨rA,rB,by rw[HQ.out.1];exact HR2X.out.2,by rw[HQ.out.2];exact HR4X.out.2,HFT.out⟩ HBB.out;clear rA rB;rw[HQ.out.1,HQ.out.2] at hmade;go_simp;refine hmade.mono ?_;clear hmade;rintro e V8 ⟨AZ,cZ,BZ,dZ,rfl,-,-,bZ⟩;have HB8:=hIz (tHn HB7.out bZ);have HS8:=hIz bZ;clear bZ;unfold cP;refine hK _ _ (US.out _ HB8.out) ?_;clear hK K;(try simp only[Act.put,gA,gS,gZ,sA,sZ,sS])
      have hS:=US.out _ HB8.out;refine aD 11 rfl hd hS ?_;clear hd;intro hd;refine aD 12 rfl hd hS ?_;clear hd;intro hd;refine aD 13 rfl hd hS ?_;clear hd;intro hd;clear hS;have kr:=HX7.out.1.upd (Upd.of_below (HS8.out) (fun _=>False)) id;have bZ:=HB8.out;have hz:=HB4.out.size;generalize V4.heap.size=kz at kr hz ⊢;rename World=>WZ
     rotate_left 1
    rotate_left 2
    focus
     refine aJ rfl rfl (fun K hK=>?_);go_simp;obtain⟨HX9,HS9,hlt9⟩:=alX 34 #[.slice none 0 0,.slice none 0 0] HB3.out;refine hK _ _ (US.out _ HX9.out.2) ?_;clear hK K;(try simp only[Act.put,gA,gS,gZ,sA,sZ,sS])
     generalize V3.alloc (.cells #[.slice none 0 0,.slice none 0 0] 34)=V9 at HX9 HS9 hlt9 ⊢;have HB9:=hIz HX9.out.2;refine aH hd 9 ?_;clear hd;intro hd;refine aJ rfl rfl (fun K hK=>?_);go_simp;have hcon:=bW V9 V2.heap.size B5 d5 B d (eT G) D (by rw[HN.out.2.1,HN.out.2.2.2];exact HX3.out.1.upd (Upd.of_below (HS9.out) (fun _=>False)) id) (HR.out.2.1.below HB9.out) (HR.out.2.2.2.below HB9.out) HNL.out.2;refine hcon.mono ?_;clear hcon;rintro e V10 ⟨v,rfl,own10X,b10X⟩;rw[HQ.out.2] at own10X;obtain⟨A10X,c10X,rfl,hle10X,row10X⟩:=bP own10X;have HB10:=hIz (tHn HB9.out b10X);have HS10:=hIz b10X;have HR10X:=aI2 row10X hle10X;clear own10X b10X row10X hle10X;refine hK _ _ (US.out _ HB10.out) ?_;clear hK K;(try simp only[Act.put,gA,gS,gZ,sA,sZ,sS])
     refine aH hd 10 ?_;clear hd;intro hd;refine aJ rfl rfl (fun K hK=>?_);have rA:=HR2X.out.1.below (((HS3.out).trans ((HS9.out).mono (HS3.out).size)).trans ((HS10.out).mono ((HS3.out).trans ((HS9.out).mono (HS3.out).size)).size));have rB:=HR10X.out.1.below bR;have hmade:=eU V10 A2X c2X A10X c10X (fC G++M) (eT G++D) ⟨rA,rB,by rw[HQ.out.1];exact HR2X.out.2,by rw[HQ.out.2];exact HR10X.out.2,HFT.out⟩ HBB.out;clear rA rB;rw[HQ.out.1,HQ.out.2] at hmade;go_simp;refine hmade.mono ?_;clear hmade;rintro e V11 ⟨AZ,cZ,BZ,dZ,rfl,-,-,bZ⟩;have HB11:=hIz (tHn HB10.out bZ);have HS11:=hIz bZ;clear bZ;unfold cP;refine hK _ _ (US.out _ HB11.out) ?_;clear hK K;(try simp only[Act.put,gA,gS,gZ,sA,sZ,sS])
     have hS:=US.out _ HB11.out;refine aD 11 rfl hd hS ?_;clear hd;intro hd;refine aD 12 rfl hd hS ?_;clear hd;intro hd;refine aD 13 rfl hd hS ?_;clear hd;intro hd;clear hS;have kr:=HX9.out.1.upd (Upd.of_below ((HS10.out).trans ((HS11.out).mono (HS10.out).size)) (fun _=>False)) id;have bZ:=HB11.out;have hz:=HB3.out.size;generalize V3.heap.size=kz at kr hz ⊢;rename World=>WZ
    rotate_left 1
   rotate_left 3
   focus
    refine aJ rfl rfl (fun K hK=>?_);go_simp;obtain⟨HX12,HS12,hlt12⟩:=alX 34 #[.slice none 0 0,.slice none 0 0] HB2.out;refine hK _ _ (US.out _ HX12.out.2) ?_;clear hK K;(try simp only[Act.put,gA,gS,gZ,sA,sZ,sS])
    generalize V2.alloc (.cells #[.slice none 0 0,.slice none 0 0] 34)=V12 at HX12 HS12 hlt12 ⊢;have HB12:=hIz HX12.out.2;refine aH hd 8 ?_;clear hd;intro hd;refine aJ rfl rfl (fun K hK=>?_);go_simp;obtain⟨HX13,HS13,hlt13⟩:=alX 27 #[.slice B5 x2 d5,.slice B m2 d] HB12.out;refine hK _ _ (US.out _ HX13.out.2) ?_;clear hK K;(try simp only[Act.put,gA,gS,gZ,sA,sZ,sS])
    generalize V12.alloc (.cells #[.slice B5 x2 d5,.slice B m2 d] 27)=V13 at HX13 HS13 hlt13 ⊢;have HB13:=hIz HX13.out.2;refine aH hd 9 ?_;clear hd;intro hd;refine aJ rfl rfl (fun K hK=>?_);go_simp;have hcon:=bW V13 V12.heap.size B5 d5 B d (eT G) D (by rw[HN.out.2.1,HN.out.2.2.2];exact HX13.out.1.upd (Upd.of_below bR (fun _=>False)) id) (HR.out.2.1.below HB13.out) (HR.out.2.2.2.below HB13.out) HNL.out.2;refine hcon.mono ?_;clear hcon;rintro e V14 ⟨v,rfl,own14X,b14X⟩;rw[HQ.out.2] at own14X;obtain⟨A14X,c14X,rfl,hle14X,row14X⟩:=bP own14X;have HB14:=hIz (tHn HB13.out b14X);have HS14:=hIz b14X;have HR14X:=aI2 row14X hle14X;clear own14X b14X row14X hle14X;refine hK _ _ (US.out _ HB14.out) ?_;clear hK K;(try simp only[Act.put,gA,gS,gZ,sA,sZ,sS])
    refine aH hd 10 ?_;clear hd;intro hd;refine aJ rfl rfl (fun K hK=>?_);have rA:=HR2X.out.1.below (((HS12.out).trans ((HS13.out).mono (HS12.out).size)).trans ((HS14.out).mono ((HS12.out).trans ((HS13.out).mono (HS12.out).size)).size));have rB:=HR14X.out.1.below bR;have hmade:=eU V14 A2X c2X A14X c14X (fC G++M) (eT G++D) ⟨rA,rB,by rw[HQ.out.1];exact HR2X.out.2,by rw[HQ.out.2];exact HR14X.out.2,HFT.out⟩ HBB.out;clear rA rB;rw[HQ.out.1,HQ.out.2] at hmade;go_simp;refine hmade.mono ?_;clear hmade;rintro e V15 ⟨AZ,cZ,BZ,dZ,rfl,-,-,bZ⟩;have HB15:=hIz (tHn HB14.out bZ);have HS15:=hIz bZ;clear bZ;unfold cP;refine hK _ _ (US.out _ HB15.out) ?_;clear hK K;(try simp only[Act.put,gA,gS,gZ,sA,sZ,sS])
    have hS:=US.out _ HB15.out;refine aD 11 rfl hd hS ?_;clear hd;intro hd;refine aD 12 rfl hd hS ?_;clear hd;intro hd;refine aD 13 rfl hd hS ?_;clear hd;intro hd;clear hS;have kr:=HX12.out.1.upd (Upd.of_below (((HS13.out).trans ((HS14.out).mono (HS13.out).size)).trans ((HS15.out).mono ((HS13.out).trans ((HS14.out).mono (HS13.out).size)).size)) (fun _=>False)) id;have bZ:=HB15.out;have hz:=HB2.out.size;generalize V2.heap.size=kz at kr hz ⊢;rename World=>WZ
   rotate_left 1
  rotate_left 4
  focus
   refine aJ rfl rfl (fun K hK=>?_);go_simp;obtain⟨HX16,HS16,hlt16⟩:=alX 27 #[.slice B5 x2 d5,.slice B m2 d] HB1.out;refine hK _ _ (US.out _ HX16.out.2) ?_;clear hK K;(try simp only[Act.put,gA,gS,gZ,sA,sZ,sS])
   generalize V1.alloc (.cells #[.slice B5 x2 d5,.slice B m2 d] 27)=V16 at HX16 HS16 hlt16 ⊢;have HB16:=hIz HX16.out.2;refine bK hd 4 14 ?_ ?_<;>(clear hd;intro hd)
   focus
    refine aJ rfl rfl (fun K hK=>?_);go_simp;have hcon:=cK V16 V0.heap.size A5 c5 A c (fC G) M (by rw[HN.out.1,HN.out.2.2.1];exact HX1.out.1.upd (Upd.of_below (HS16.out) (fun _=>False)) id) (HR.out.1.below HB16.out) (HR.out.2.2.1.below HB16.out) HNL.out.1;refine hcon.mono ?_;clear hcon;rintro e V17 ⟨v,rfl,own17X,b17X⟩;rw[HQ.out.1] at own17X;obtain⟨A17X,c17X,rfl,hle17X,row17X⟩:=bP own17X;have HB17:=hIz (tHn HB16.out b17X);have HS17:=hIz b17X;have HR17X:=aI2 row17X hle17X;clear own17X b17X row17X hle17X;refine hK _ _ (US.out _ HB17.out) ?_;clear hK K;(try simp only[Act.put,gA,gS,gZ,sA,sZ,sS])
    refine bK hd 9 14 ?_ ?_<;>(clear hd;intro hd)
    focus
     refine aJ rfl rfl (fun K hK=>?_);go_simp;have hcon:=bW V17 V1.heap.size B5 d5 B d (eT G) D (by rw[HN.out.2.1,HN.out.2.2.2];exact HX16.out.1.upd (Upd.of_below (HS17.out) (fun _=>False)) id) (HR.out.2.1.below HB17.out) (HR.out.2.2.2.below HB17.out) HNL.out.2;refine hcon.mono ?_;clear hcon;rintro e V18 ⟨v,rfl,own18X,b18X⟩;rw[HQ.out.2] at own18X;obtain⟨A18X,c18X,rfl,hle18X,row18X⟩:=bP own18X;have HB18:=hIz (tHn HB17.out b18X);have HS18:=hIz b18X;have HR18X:=aI2 row18X hle18X;clear own18X b18X row18X hle18X;refine hK _ _ (US.out _ HB18.out) ?_;clear hK K;(try simp only[Act.put,gA,gS,gZ,sA,sZ,sS])
     refine bK hd 10 14 ?_ ?_<;>(clear hd;intro hd)
     focus
      refine aJ rfl rfl (fun K hK=>?_);have rA:=HR17X.out.1.below (HS18.out);have rB:=HR18X.out.1.below bR;have hmade:=eU V18 A17X c17X A18X c18X (fC G++M) (eT G++D) ⟨rA,rB,by rw[HQ.out.1];exact HR17X.out.2,by rw[HQ.out.2];exact HR18X.out.2,HFT.out⟩ HBB.out;clear rA rB;rw[HQ.out.1,HQ.out.2] at hmade;go_simp;refine hmade.mono ?_;clear hmade;rintro e V19 ⟨AZ,cZ,BZ,dZ,rfl,-,-,bZ⟩;have HB19:=hIz (tHn HB18.out bZ);have HS19:=hIz bZ;clear bZ;unfold cP;refine hK _ _ (US.out _ HB19.out) ?_;clear hK K;(try simp only[Act.put,gA,gS,gZ,sA,sZ,sS])
      have hS:=US.out _ HB19.out;refine aD 11 rfl hd hS ?_;clear hd;intro hd;refine aD 12 rfl hd hS ?_;clear hd;intro hd;refine aD 13 rfl hd hS ?_;clear hd;intro hd;clear hS;refine aH hd 14 ?_;clear hd;intro hd;refine aJ rfl rfl (fun K hK=>?_);go_simp;obtain⟨HX20,HS20,hlt20⟩:=alX 34 #[.slice none 0 0,.slice none 0 0] HB19.out;refine hK _ _ (US.out _ HX20.out.2) ?_;clear hK K;(try simp only[Act.put,gA,gS,gZ,sA,sZ,sS])
      generalize V19.alloc (.cells #[.slice none 0 0,.slice none 0 0] 34)=V20 at HX20 HS20 hlt20 ⊢;have HB20:=hIz HX20.out.2;have kr:=HX20.out.1.upd (Upd.of_below bR (fun _=>False)) id;have bZ:=HB20.out;have hz:=HB19.out.size;generalize V19.heap.size=kz at kr hz ⊢;rename World=>WZ
     rotate_left 1
     focus
      refine aJ rfl rfl (fun K hK=>?_);go_simp;obtain⟨HX21,HS21,hlt21⟩:=alX 34 #[.slice none 0 0,.slice none 0 0] HB18.out;refine hK _ _ (US.out _ HX21.out.2) ?_;clear hK K;(try simp only[Act.put,gA,gS,gZ,sA,sZ,sS])
      generalize V18.alloc (.cells #[.slice none 0 0,.slice none 0 0] 34)=V21 at HX21 HS21 hlt21 ⊢;have HB21:=hIz HX21.out.2;refine aH hd 10 ?_;clear hd;intro hd;refine aJ rfl rfl (fun K hK=>?_);have rA:=HR17X.out.1.below ((HS18.out).trans ((HS21.out).mono (HS18.out).size));have rB:=HR18X.out.1.below (HS21.out);have hmade:=eU V21 A17X c17X A18X c18X (fC G++M) (eT G++D) ⟨rA,rB,by rw[HQ.out.1];exact HR17X.out.2,by rw[HQ.out.2];exact HR18X.out.2,HFT.out⟩ HBB.out;clear rA rB;rw[HQ.out.1,HQ.out.2] at hmade;go_simp;refine hmade.mono ?_;clear hmade;rintro e V22 ⟨AZ,cZ,BZ,dZ,rfl,-,-,bZ⟩;have HB22:=hIz (tHn HB21.out bZ);have HS22:=hIz bZ;clear bZ;unfold cP;refine hK _ _ (US.out _ HB22.out) ?_;clear hK K;(try simp only[Act.put,gA,gS,gZ,sA,sZ,sS])
      have hS:=US.out _ HB22.out;refine aD 11 rfl hd hS ?_;clear hd;intro hd;refine aD 12 rfl hd hS ?_;clear hd;intro hd;refine aD 13 rfl hd hS ?_;clear hd;intro hd;clear hS;have kr:=HX21.out.1.upd (Upd.of_below (HS22.out) (fun _=>False)) id;have bZ:=HB22.out;have hz:=HB18.out.size;generalize V18.heap.size=kz at kr hz ⊢;rename World=>WZ
     rotate_left 1
    rotate_left 2
    focus
     refine aJ rfl rfl (fun K hK=>?_);go_simp;obtain⟨HX23,HS23,hlt23⟩:=alX 34 #[.slice none 0 0,.slice none 0 0] HB17.out;refine hK _ _ (US.out _ HX23.out.2) ?_;clear hK K;(try simp only[Act.put,gA,gS,gZ,sA,sZ,sS])
     generalize V17.alloc (.cells #[.slice none 0 0,.slice none 0 0] 34)=V23 at HX23 HS23 hlt23 ⊢;have HB23:=hIz HX23.out.2;refine aH hd 9 ?_;clear hd;intro hd;refine aJ rfl rfl (fun K hK=>?_);go_simp;have hcon:=bW V23 V1.heap.size B5 d5 B d (eT G) D (by rw[HN.out.2.1,HN.out.2.2.2];exact HX16.out.1.upd (Upd.of_below ((HS17.out).trans ((HS23.out).mono (HS17.out).size)) (fun _=>False)) id) (HR.out.2.1.below HB23.out) (HR.out.2.2.2.below HB23.out) HNL.out.2;refine hcon.mono ?_;clear hcon;rintro e V24 ⟨v,rfl,own24X,b24X⟩;rw[HQ.out.2] at own24X;obtain⟨A24X,c24X,rfl,hle24X,row24X⟩:=bP own24X;have HB24:=hIz (tHn HB23.out b24X);have HS24:=hIz b24X;have HR24X:=aI2 row24X hle24X;clear own24X b24X row24X hle24X;refine hK _ _ (US.out _ HB24.out) ?_;clear hK K;(try simp only[Act.put,gA,gS,gZ,sA,sZ,sS])
     refine aH hd 10 ?_;clear hd;intro hd;refine aJ rfl rfl (fun K hK=>?_);have rA:=HR17X.out.1.below ((HS23.out).trans ((HS24.out).mono (HS23.out).size));have rB:=HR24X.out.1.below bR;have hmade:=eU V24 A17X c17X A24X c24X (fC G++M) (eT G++D) ⟨rA,rB,by rw[HQ.out.1];exact HR17X.out.2,by rw[HQ.out.2];exact HR24X.out.2,HFT.out⟩ HBB.out;clear rA rB;rw[HQ.out.1,HQ.out.2] at hmade;go_simp;refine hmade.mono ?_;clear hmade;rintro e V25 ⟨AZ,cZ,BZ,dZ,rfl,-,-,bZ⟩;have HB25:=hIz (tHn HB24.out bZ);have HS25:=hIz bZ;clear bZ;unfold cP;refine hK _ _ (US.out _ HB25.out) ?_;clear hK K;(try simp only[Act.put,gA,gS,gZ,sA,sZ,sS])
     have hS:=US.out _ HB25.out;refine aD 11 rfl hd hS ?_;clear hd;intro hd;refine aD 12 rfl hd hS ?_;clear hd;intro hd;refine aD 13 rfl hd hS ?_;clear hd;intro hd;clear hS;have kr:=HX23.out.1.upd (Upd.of_below ((HS24.out).trans ((HS25.out).mono (HS24.out).size)) (fun _=>False)) id;have bZ:=HB25.out;have hz:=HB17.out.size;generalize V17.heap.size=kz at kr hz ⊢;rename World=>WZ
    rotate_left 1
   rotate_left 3
   focus
    refine aJ rfl rfl (fun K hK=>?_);go_simp;obtain⟨HX26,HS26,hlt26⟩:=alX 34 #[.slice none 0 0,.slice none 0 0] HB16.out;refine hK _ _ (US.out _ HX26.out.2) ?_;clear hK K;(try simp only[Act.put,gA,gS,gZ,sA,sZ,sS])
    generalize V16.alloc (.cells #[.slice none 0 0,.slice none 0 0] 34)=V26 at HX26 HS26 hlt26 ⊢;have HB26:=hIz HX26.out.2;refine aH hd 4 ?_;clear hd;intro hd;refine aJ rfl rfl (fun K hK=>?_);go_simp;have hcon:=cK V26 V0.heap.size A5 c5 A c (fC G) M (by rw[HN.out.1,HN.out.2.2.1];exact HX1.out.1.upd (Upd.of_below ((HS16.out).trans ((HS26.out).mono (HS16.out).size)) (fun _=>False)) id) (HR.out.1.below HB26.out) (HR.out.2.2.1.below HB26.out) HNL.out.1;refine hcon.mono ?_;clear hcon;rintro e V27 ⟨v,rfl,own27X,b27X⟩;rw[HQ.out.1] at own27X;obtain⟨A27X,c27X,rfl,hle27X,row27X⟩:=bP own27X;have HB27:=hIz (tHn HB26.out b27X);have HS27:=hIz b27X;have HR27X:=aI2 row27X hle27X;clear own27X b27X row27X hle27X;refine hK _ _ (US.out _ HB27.out) ?_;clear hK K;(try simp only[Act.put,gA,gS,gZ,sA,sZ,sS])
    refine aH hd 9 ?_;clear hd;intro hd;refine aJ rfl rfl (fun K hK=>?_);go_simp;have hcon:=bW V27 V1.heap.size B5 d5 B d (eT G) D (by rw[HN.out.2.1,HN.out.2.2.2];exact HX16.out.1.upd (Upd.of_below ((HS26.out).trans ((HS27.out).mono (HS26.out).size)) (fun _=>False)) id) (HR.out.2.1.below HB27.out) (HR.out.2.2.2.below HB27.out) HNL.out.2;refine hcon.mono ?_;clear hcon;rintro e V28 ⟨v,rfl,own28X,b28X⟩;rw[HQ.out.2] at own28X;obtain⟨A28X,c28X,rfl,hle28X,row28X⟩:=bP own28X;have HB28:=hIz (tHn HB27.out b28X);have HS28:=hIz b28X;have HR28X:=aI2 row28X hle28X;clear own28X b28X row28X hle28X;refine hK _ _ (US.out _ HB28.out) ?_;clear hK K;(try simp only[Act.put,gA,gS,gZ,sA,sZ,sS])
    refine aH hd 10 ?_;clear hd;intro hd;refine aJ rfl rfl (fun K hK=>?_);have rA:=HR27X.out.1.below (HS28.out);have rB:=HR28X.out.1.below bR;have hmade:=eU V28 A27X c27X A28X c28X (fC G++M) (eT G++D) ⟨rA,rB,by rw[HQ.out.1];exact HR27X.out.2,by rw[HQ.out.2];exact HR28X.out.2,HFT.out⟩ HBB.out;clear rA rB;rw[HQ.out.1,HQ.out.2] at hmade;go_simp;refine hmade.mono ?_;clear hmade;rintro e V29 ⟨AZ,cZ,BZ,dZ,rfl,-,-,bZ⟩;have HB29:=hIz (tHn HB28.out bZ);have HS29:=hIz bZ;clear bZ;unfold cP;refine hK _ _ (US.out _ HB29.out) ?_;clear hK K;(try simp only[Act.put,gA,gS,gZ,sA,sZ,sS])
    have hS:=US.out _ HB29.out;refine aD 11 rfl hd hS ?_;clear hd;intro hd;refine aD 12 rfl hd hS ?_;clear hd;intro hd;refine aD 13 rfl hd hS ?_;clear hd;intro hd;clear hS;have kr:=HX26.out.1.upd (Upd.of_below (((HS27.out).trans ((HS28.out).mono (HS27.out).size)).trans ((HS29.out).mono ((HS27.out).trans ((HS28.out).mono (HS27.out).size)).size)) (fun _=>False)) id;have bZ:=HB29.out;have hz:=HB16.out.size;generalize V16.heap.size=kz at kr hz ⊢;rename World=>WZ
   rotate_left 1
  rotate_left 4
  focus
   refine aJ rfl rfl (fun K hK=>?_);go_simp;obtain⟨HX30,HS30,hlt30⟩:=alX 34 #[.slice none 0 0,.slice none 0 0] HB1.out;refine hK _ _ (US.out _ HX30.out.2) ?_;clear hK K;(try simp only[Act.put,gA,gS,gZ,sA,sZ,sS])
   generalize V1.alloc (.cells #[.slice none 0 0,.slice none 0 0] 34)=V30 at HX30 HS30 hlt30 ⊢;have HB30:=hIz HX30.out.2;refine bK hd 4 8 ?_ ?_<;>(clear hd;intro hd)
   focus
    refine aJ rfl rfl (fun K hK=>?_);go_simp;have hcon:=cK V30 V0.heap.size A5 c5 A c (fC G) M (by rw[HN.out.1,HN.out.2.2.1];exact HX1.out.1.upd (Upd.of_below (HS30.out) (fun _=>False)) id) (HR.out.1.below HB30.out) (HR.out.2.2.1.below HB30.out) HNL.out.1;refine hcon.mono ?_;clear hcon;rintro e V31 ⟨v,rfl,own31X,b31X⟩;rw[HQ.out.1] at own31X;obtain⟨A31X,c31X,rfl,hle31X,row31X⟩:=bP own31X;have HB31:=hIz (tHn HB30.out b31X);have HS31:=hIz b31X;have HR31X:=aI2 row31X hle31X;clear own31X b31X row31X hle31X;refine hK _ _ (US.out _ HB31.out) ?_;clear hK K;(try simp only[Act.put,gA,gS,gZ,sA,sZ,sS])
    refine aH hd 8 ?_;clear hd;intro hd;refine aJ rfl rfl (fun K hK=>?_);go_simp;obtain⟨HX32,HS32,hlt32⟩:=alX 27 #[.slice B5 x2 d5,.slice B m2 d] HB31.out;refine hK _ _ (US.out _ HX32.out.2) ?_;clear hK K;(try simp only[Act.put,gA,gS,gZ,sA,sZ,sS])
    generalize V31.alloc (.cells #[.slice B5 x2 d5,.slice B m2 d] 27)=V32 at HX32 HS32 hlt32 ⊢;have HB32:=hIz HX32.out.2;refine aH hd 9 ?_;clear hd;intro hd;refine aJ rfl rfl (fun K hK=>?_);go_simp;have hcon:=bW V32 V31.heap.size B5 d5 B d (eT G) D (by rw[HN.out.2.1,HN.out.2.2.2];exact HX32.out.1.upd (Upd.of_below bR (fun _=>False)) id) (HR.out.2.1.below HB32.out) (HR.out.2.2.2.below HB32.out) HNL.out.2;refine hcon.mono ?_;clear hcon;rintro e V33 ⟨v,rfl,own33X,b33X⟩;rw[HQ.out.2] at own33X;obtain⟨A33X,c33X,rfl,hle33X,row33X⟩:=bP own33X;have HB33:=hIz (tHn HB32.out b33X);have HS33:=hIz b33X;have HR33X:=aI2 row33X hle33X;clear own33X b33X row33X hle33X;refine hK _ _ (US.out _ HB33.out) ?_;clear hK K;(try simp only[Act.put,gA,gS,gZ,sA,sZ,sS])
    refine aH hd 10 ?_;clear hd;intro hd;refine aJ rfl rfl (fun K hK=>?_);have rA:=HR31X.out.1.below ((HS32.out).trans ((HS33.out).mono (HS32.out).size));have rB:=HR33X.out.1.below bR;have hmade:=eU V33 A31X c31X A33X c33X (fC G++M) (eT G++D) ⟨rA,rB,by rw[HQ.out.1];exact HR31X.out.2,by rw[HQ.out.2];exact HR33X.out.2,HFT.out⟩ HBB.out;clear rA rB;rw[HQ.out.1,HQ.out.2] at hmade;go_simp;refine hmade.mono ?_;clear hmade;rintro e V34 ⟨AZ,cZ,BZ,dZ,rfl,-,-,bZ⟩;have HB34:=hIz (tHn HB33.out bZ);have HS34:=hIz bZ;clear bZ;unfold cP;refine hK _ _ (US.out _ HB34.out) ?_;clear hK K;(try simp only[Act.put,gA,gS,gZ,sA,sZ,sS])
    have hS:=US.out _ HB34.out;refine aD 11 rfl hd hS ?_;clear hd;intro hd;refine aD 12 rfl hd hS ?_;clear hd;intro hd;refine aD 13 rfl hd hS ?_;clear hd;intro hd;clear hS;have kr:=HX30.out.1.upd (Upd.of_below ((((HS31.out).trans ((HS32.out).mono (HS31.out).size)).trans ((HS33.out).mono ((HS31.out).trans ((HS32.out).mono (HS31.out).size)).size)).trans ((HS34.out).mono (((HS31.out).trans ((HS32.out).mono (HS31.out).size)).trans ((HS33.out).mono ((HS31.out).trans ((HS32.out).mono (HS31.out).size)).size)).size)) (fun _=>False)) id;have bZ:=HB34.out;have hz:=HB1.out.size;generalize V1.heap.size=kz at kr hz ⊢;rename World=>WZ
   rotate_left 1
   focus
    refine aJ rfl rfl (fun K hK=>?_);go_simp;obtain⟨HX35,HS35,hlt35⟩:=alX 27 #[.slice B5 x2 d5,.slice B m2 d] HB30.out;refine hK _ _ (US.out _ HX35.out.2) ?_;clear hK K;(try simp only[Act.put,gA,gS,gZ,sA,sZ,sS])
    generalize V30.alloc (.cells #[.slice B5 x2 d5,.slice B m2 d] 27)=V35 at HX35 HS35 hlt35 ⊢;have HB35:=hIz HX35.out.2;refine aH hd 4 ?_;clear hd;intro hd;refine aJ rfl rfl (fun K hK=>?_);go_simp;have hcon:=cK V35 V0.heap.size A5 c5 A c (fC G) M (by rw[HN.out.1,HN.out.2.2.1];exact HX1.out.1.upd (Upd.of_below ((HS30.out).trans ((HS35.out).mono (HS30.out).size)) (fun _=>False)) id) (HR.out.1.below HB35.out) (HR.out.2.2.1.below HB35.out) HNL.out.1;refine hcon.mono ?_;clear hcon;rintro e V36 ⟨v,rfl,own36X,b36X⟩;rw[HQ.out.1] at own36X;obtain⟨A36X,c36X,rfl,hle36X,row36X⟩:=bP own36X;have HB36:=hIz (tHn HB35.out b36X);have HS36:=hIz b36X;have HR36X:=aI2 row36X hle36X;clear own36X b36X row36X hle36X;refine hK _ _ (US.out _ HB36.out) ?_;clear hK K;(try simp only[Act.put,gA,gS,gZ,sA,sZ,sS])
    refine aH hd 9 ?_;clear hd;intro hd;refine aJ rfl rfl (fun K hK=>?_);go_simp;have hcon:=bW V36 V30.heap.size B5 d5 B d (eT G) D (by rw[HN.out.2.1,HN.out.2.2.2];exact HX35.out.1.upd (Upd.of_below (HS36.out) (fun _=>False)) id) (HR.out.2.1.below HB36.out) (HR.out.2.2.2.below HB36.out) HNL.out.2;refine hcon.mono ?_;clear hcon;rintro e V37 ⟨v,rfl,own37X,b37X⟩;rw[HQ.out.2] at own37X;obtain⟨A37X,c37X,rfl,hle37X,row37X⟩:=bP own37X;have HB37:=hIz (tHn HB36.out b37X);have HS37:=hIz b37X;have HR37X:=aI2 row37X hle37X;clear own37X b37X row37X hle37X;refine hK _ _ (US.out _ HB37.out) ?_;clear hK K;(try simp only[Act.put,gA,gS,gZ,sA,sZ,sS])
    refine aH hd 10 ?_;clear hd;intro hd;refine aJ rfl rfl (fun K hK=>?_);have rA:=HR36X.out.1.below (HS37.out);have rB:=HR37X.out.1.below bR;have hmade:=eU V37 A36X c36X A37X c37X (fC G++M) (eT G++D) ⟨rA,rB,by rw[HQ.out.1];exact HR36X.out.2,by rw[HQ.out.2];exact HR37X.out.2,HFT.out⟩ HBB.out;clear rA rB;rw[HQ.out.1,HQ.out.2] at hmade;go_simp;refine hmade.mono ?_;clear hmade;rintro e V38 ⟨AZ,cZ,BZ,dZ,rfl,-,-,bZ⟩;have HB38:=hIz (tHn HB37.out bZ);have HS38:=hIz bZ;clear bZ;unfold cP;refine hK _ _ (US.out _ HB38.out) ?_;clear hK K;(try simp only[Act.put,gA,gS,gZ,sA,sZ,sS])
    have hS:=US.out _ HB38.out;refine aD 11 rfl hd hS ?_;clear hd;intro hd;refine aD 12 rfl hd hS ?_;clear hd;intro hd;refine aD 13 rfl hd hS ?_;clear hd;intro hd;clear hS;have kr:=HX30.out.1.upd (Upd.of_below ((((HS35.out).trans ((HS36.out).mono (HS35.out).size)).trans ((HS37.out).mono ((HS35.out).trans ((HS36.out).mono (HS35.out).size)).size)).trans ((HS38.out).mono (((HS35.out).trans ((HS36.out).mono (HS35.out).size)).trans ((HS37.out).mono ((HS35.out).trans ((HS36.out).mono (HS35.out).size)).size)).size)) (fun _=>False)) id;have bZ:=HB38.out;have hz:=HB1.out.size;generalize V1.heap.size=kz at kr hz ⊢;rename World=>WZ
   rotate_left 1
  rotate_left 2
 rotate_left 10
 focus
  refine aJ rfl rfl (fun K hK=>?_);go_simp;obtain⟨HX39,HS39,hlt39⟩:=alX 27 #[.slice B5 x2 d5,.slice B m2 d] HB0.out;refine hK _ _ (US.out _ HX39.out.2) ?_;clear hK K;(try simp only[Act.put,gA,gS,gZ,sA,sZ,sS])
  generalize V0.alloc (.cells #[.slice B5 x2 d5,.slice B m2 d] 27)=V39 at HX39 HS39 hlt39 ⊢;have HB39:=hIz HX39.out.2;refine bK hd 3 14 ?_ ?_<;>(clear hd;intro hd)
  focus
   refine aJ rfl rfl (fun K hK=>?_);go_simp;obtain⟨HX40,HS40,hlt40⟩:=alX 26 #[.slice A5 x1 c5,.slice A m1 c] HB39.out;refine hK _ _ (US.out _ HX40.out.2) ?_;clear hK K;(try simp only[Act.put,gA,gS,gZ,sA,sZ,sS])
   generalize V39.alloc (.cells #[.slice A5 x1 c5,.slice A m1 c] 26)=V40 at HX40 HS40 hlt40 ⊢;have HB40:=hIz HX40.out.2;refine bK hd 4 14 ?_ ?_<;>(clear hd;intro hd)
   focus
    refine aJ rfl rfl (fun K hK=>?_);go_simp;have hcon:=cK V40 V39.heap.size A5 c5 A c (fC G) M (by rw[HN.out.1,HN.out.2.2.1];exact HX40.out.1.upd (Upd.of_below bR (fun _=>False)) id) (HR.out.1.below HB40.out) (HR.out.2.2.1.below HB40.out) HNL.out.1;refine hcon.mono ?_;clear hcon;rintro e V41 ⟨v,rfl,own41X,b41X⟩;rw[HQ.out.1] at own41X;obtain⟨A41X,c41X,rfl,hle41X,row41X⟩:=bP own41X;have HB41:=hIz (tHn HB40.out b41X);have HS41:=hIz b41X;have HR41X:=aI2 row41X hle41X;clear own41X b41X row41X hle41X;refine hK _ _ (US.out _ HB41.out) ?_;clear hK K;(try simp only[Act.put,gA,gS,gZ,sA,sZ,sS])
    refine bK hd 9 14 ?_ ?_<;>(clear hd;intro hd)
    focus
     refine aJ rfl rfl (fun K hK=>?_);go_simp;have hcon:=bW V41 V0.heap.size B5 d5 B d (eT G) D (by rw[HN.out.2.1,HN.out.2.2.2];exact HX39.out.1.upd (Upd.of_below ((HS40.out).trans ((HS41.out).mono (HS40.out).size)) (fun _=>False)) id) (HR.out.2.1.below HB41.out) (HR.out.2.2.2.below HB41.out) HNL.out.2;refine hcon.mono ?_;clear hcon;rintro e V42 ⟨v,rfl,own42X,b42X⟩;rw[HQ.out.2] at own42X;obtain⟨A42X,c42X,rfl,hle42X,row42X⟩:=bP own42X;have HB42:=hIz (tHn HB41.out b42X);have HS42:=hIz b42X;have HR42X:=aI2 row42X hle42X;clear own42X b42X row42X hle42X;refine hK _ _ (US.out _ HB42.out) ?_;clear hK K;(try simp only[Act.put,gA,gS,gZ,sA,sZ,sS])
     refine bK hd 10 14 ?_ ?_<;>(clear hd;intro hd)
     focus
      refine aJ rfl rfl (fun K hK=>?_);have rA:=HR41X.out.1.below (HS42.out);have rB:=HR42X.out.1.below bR;have hmade:=eU V42 A41X c41X A42X c42X (fC G++M) (eT G++D) ⟨rA,rB,by rw[HQ.out.1];exact HR41X.out.2,by rw[HQ.out.2];exact HR42X.out.2,HFT.out⟩ HBB.out;clear rA rB;rw[HQ.out.1,HQ.out.2] at hmade;go_simp;refine hmade.mono ?_;clear hmade;rintro e V43 ⟨AZ,cZ,BZ,dZ,rfl,-,-,bZ⟩;have HB43:=hIz (tHn HB42.out bZ);have HS43:=hIz bZ;clear bZ;unfold cP;refine hK _ _ (US.out _ HB43.out) ?_;clear hK K;(try simp only[Act.put,gA,gS,gZ,sA,sZ,sS])
      have hS:=US.out _ HB43.out;refine aD 11 rfl hd hS ?_;clear hd;intro hd;refine aD 12 rfl hd hS ?_;clear hd;intro hd;refine aD 13 rfl hd hS ?_;clear hd;intro hd;clear hS;refine aH hd 14 ?_;clear hd;intro hd;refine aJ rfl rfl (fun K hK=>?_);go_simp;obtain⟨HX44,HS44,hlt44⟩:=alX 34 #[.slice none 0 0,.slice none 0 0] HB43.out;refine hK _ _ (US.out _ HX44.out.2) ?_;clear hK K;(try simp only[Act.put,gA,gS,gZ,sA,sZ,sS])
      generalize V43.alloc (.cells #[.slice none 0 0,.slice none 0 0] 34)=V44 at HX44 HS44 hlt44 ⊢;have HB44:=hIz HX44.out.2;have kr:=HX44.out.1.upd (Upd.of_below bR (fun _=>False)) id;have bZ:=HB44.out;have hz:=HB43.out.size;generalize V43.heap.size=kz at kr hz ⊢;rename World=>WZ
     rotate_left 1
     focus
      refine aJ rfl rfl (fun K hK=>?_);go_simp;obtain⟨HX45,HS45,hlt45⟩:=alX 34 #[.slice none 0 0,.slice none 0 0] HB42.out;refine hK _ _ (US.out _ HX45.out.2) ?_;clear hK K;(try simp only[Act.put,gA,gS,gZ,sA,sZ,sS])
      generalize V42.alloc (.cells #[.slice none 0 0,.slice none 0 0] 34)=V45 at HX45 HS45 hlt45 ⊢;have HB45:=hIz HX45.out.2;refine aH hd 10 ?_;clear hd;intro hd;refine aJ rfl rfl (fun K hK=>?_);have rA:=HR41X.out.1.below ((HS42.out).trans ((HS45.out).mono (HS42.out).size));have rB:=HR42X.out.1.below (HS45.out);have hmade:=eU V45 A41X c41X A42X c42X (fC G++M) (eT G++D) ⟨rA,rB,by rw[HQ.out.1];exact HR41X.out.2,by rw[HQ.out.2];exact HR42X.out.2,HFT.out⟩ HBB.out;clear rA rB;rw[HQ.out.1,HQ.out.2] at hmade;go_simp;refine hmade.mono ?_;clear hmade;rintro e V46 ⟨AZ,cZ,BZ,dZ,rfl,-,-,bZ⟩;have HB46:=hIz (tHn HB45.out bZ);have HS46:=hIz bZ;clear bZ;unfold cP;refine hK _ _ (US.out _ HB46.out) ?_;clear hK K;(try simp only[Act.put,gA,gS,gZ,sA,sZ,sS])
      have hS:=US.out _ HB46.out;refine aD 11 rfl hd hS ?_;clear hd;intro hd;refine aD 12 rfl hd hS ?_;clear hd;intro hd;refine aD 13 rfl hd hS ?_;clear hd;intro hd;clear hS;have kr:=HX45.out.1.upd (Upd.of_below (HS46.out) (fun _=>False)) id;have bZ:=HB46.out;have hz:=HB42.out.size;generalize V42.heap.size=kz at kr hz ⊢;rename World=>WZ
     rotate_left 1
    rotate_left 2
    focus
     refine aJ rfl rfl (fun K hK=>?_);go_simp;obtain⟨HX47,HS47,hlt47⟩:=alX 34 #[.slice none 0 0,.slice none 0 0] HB41.out;refine hK _ _ (US.out _ HX47.out.2) ?_;clear hK K;(try simp only[Act.put,gA,gS,gZ,sA,sZ,sS])
     generalize V41.alloc (.cells #[.slice none 0 0,.slice none 0 0] 34)=V47 at HX47 HS47 hlt47 ⊢;have HB47:=hIz HX47.out.2;refine aH hd 9 ?_;clear hd;intro hd;refine aJ rfl rfl (fun K hK=>?_);go_simp;have hcon:=bW V47 V0.heap.size B5 d5 B d (eT G) D (by rw[HN.out.2.1,HN.out.2.2.2];exact HX39.out.1.upd (Upd.of_below (((HS40.out).trans ((HS41.out).mono (HS40.out).size)).trans ((HS47.out).mono ((HS40.out).trans ((HS41.out).mono (HS40.out).size)).size)) (fun _=>False)) id) (HR.out.2.1.below HB47.out) (HR.out.2.2.2.below HB47.out) HNL.out.2;refine hcon.mono ?_;clear hcon;rintro e V48 ⟨v,rfl,own48X,b48X⟩;rw[HQ.out.2] at own48X;obtain⟨A48X,c48X,rfl,hle48X,row48X⟩:=bP own48X;have HB48:=hIz (tHn HB47.out b48X);have HS48:=hIz b48X;have HR48X:=aI2 row48X hle48X;clear own48X b48X row48X hle48X;refine hK _ _ (US.out _ HB48.out) ?_;clear hK K;(try simp only[Act.put,gA,gS,gZ,sA,sZ,sS])
     refine aH hd 10 ?_;clear hd;intro hd;refine aJ rfl rfl (fun K hK=>?_);have rA:=HR41X.out.1.below ((HS47.out).trans ((HS48.out).mono (HS47.out).size));have rB:=HR48X.out.1.below bR;have hmade:=eU V48 A41X c41X A48X c48X (fC G++M) (eT G++D) ⟨rA,rB,by rw[HQ.out.1];exact HR41X.out.2,by rw[HQ.out.2];exact HR48X.out.2,HFT.out⟩ HBB.out;clear rA rB;rw[HQ.out.1,HQ.out.2] at hmade;go_simp;refine hmade.mono ?_;clear hmade;rintro e V49 ⟨AZ,cZ,BZ,dZ,rfl,-,-,bZ⟩;have HB49:=hIz (tHn HB48.out bZ);have HS49:=hIz bZ;clear bZ;unfold cP;refine hK _ _ (US.out _ HB49.out) ?_;clear hK K;(try simp only[Act.put,gA,gS,gZ,sA,sZ,sS])
     have hS:=US.out _ HB49.out;refine aD 11 rfl hd hS ?_;clear hd;intro hd;refine aD 12 rfl hd hS ?_;clear hd;intro hd;refine aD 13 rfl hd hS ?_;clear hd;intro hd;clear hS;have kr:=HX47.out.1.upd (Upd.of_below ((HS48.out).trans ((HS49.out).mono (HS48.out).size)) (fun _=>False)) id;have bZ:=HB49.out;have hz:=HB41.out.size;generalize V41.heap.size=kz at kr hz ⊢;rename World=>WZ
    rotate_left 1
   rotate_left 3
   focus
    refine aJ rfl rfl (fun K hK=>?_);go_simp;obtain⟨HX50,HS50,hlt50⟩:=alX 34 #[.slice none 0 0,.slice none 0 0] HB40.out;refine hK _ _ (US.out _ HX50.out.2) ?_;clear hK K;(try simp only[Act.put,gA,gS,gZ,sA,sZ,sS])
    generalize V40.alloc (.cells #[.slice none 0 0,.slice none 0 0] 34)=V50 at HX50 HS50 hlt50 ⊢;have HB50:=hIz HX50.out.2;refine aH hd 4 ?_;clear hd;intro hd;refine aJ rfl rfl (fun K hK=>?_);go_simp;have hcon:=cK V50 V39.heap.size A5 c5 A c (fC G) M (by rw[HN.out.1,HN.out.2.2.1];exact HX40.out.1.upd (Upd.of_below (HS50.out) (fun _=>False)) id) (HR.out.1.below HB50.out) (HR.out.2.2.1.below HB50.out) HNL.out.1;refine hcon.mono ?_;clear hcon;rintro e V51 ⟨v,rfl,own51X,b51X⟩;rw[HQ.out.1] at own51X;obtain⟨A51X,c51X,rfl,hle51X,row51X⟩:=bP own51X;have HB51:=hIz (tHn HB50.out b51X);have HS51:=hIz b51X;have HR51X:=aI2 row51X hle51X;clear own51X b51X row51X hle51X;refine hK _ _ (US.out _ HB51.out) ?_;clear hK K;(try simp only[Act.put,gA,gS,gZ,sA,sZ,sS])
    refine aH hd 9 ?_;clear hd;intro hd;refine aJ rfl rfl (fun K hK=>?_);go_simp;have hcon:=bW V51 V0.heap.size B5 d5 B d (eT G) D (by rw[HN.out.2.1,HN.out.2.2.2];exact HX39.out.1.upd (Upd.of_below (((HS40.out).trans ((HS50.out).mono (HS40.out).size)).trans ((HS51.out).mono ((HS40.out).trans ((HS50.out).mono (HS40.out).size)).size)) (fun _=>False)) id) (HR.out.2.1.below HB51.out) (HR.out.2.2.2.below HB51.out) HNL.out.2;refine hcon.mono ?_;clear hcon;rintro e V52 ⟨v,rfl,own52X,b52X⟩;rw[HQ.out.2] at own52X;obtain⟨A52X,c52X,rfl,hle52X,row52X⟩:=bP own52X;have HB52:=hIz (tHn HB51.out b52X);have HS52:=hIz b52X;have HR52X:=aI2 row52X hle52X;clear own52X b52X row52X hle52X;refine hK _ _ (US.out _ HB52.out) ?_;clear hK K;(try simp only[Act.put,gA,gS,gZ,sA,sZ,sS])
    refine aH hd 10 ?_;clear hd;intro hd;refine aJ rfl rfl (fun K hK=>?_);have rA:=HR51X.out.1.below (HS52.out);have rB:=HR52X.out.1.below bR;have hmade:=eU V52 A51X c51X A52X c52X (fC G++M) (eT G++D) ⟨rA,rB,by rw[HQ.out.1];exact HR51X.out.2,by rw[HQ.out.2];exact HR52X.out.2,HFT.out⟩ HBB.out;clear rA rB;rw[HQ.out.1,HQ.out.2] at hmade;go_simp;refine hmade.mono ?_;clear hmade;rintro e V53 ⟨AZ,cZ,BZ,dZ,rfl,-,-,bZ⟩;have HB53:=hIz (tHn HB52.out bZ);have HS53:=hIz bZ;clear bZ;unfold cP;refine hK _ _ (US.out _ HB53.out) ?_;clear hK K;(try simp only[Act.put,gA,gS,gZ,sA,sZ,sS])
    have hS:=US.out _ HB53.out;refine aD 11 rfl hd hS ?_;clear hd;intro hd;refine aD 12 rfl hd hS ?_;clear hd;intro hd;refine aD 13 rfl hd hS ?_;clear hd;intro hd;clear hS;have kr:=HX50.out.1.upd (Upd.of_below (((HS51.out).trans ((HS52.out).mono (HS51.out).size)).trans ((HS53.out).mono ((HS51.out).trans ((HS52.out).mono (HS51.out).size)).size)) (fun _=>False)) id;have bZ:=HB53.out;have hz:=HB40.out.size;generalize V40.heap.size=kz at kr hz ⊢;rename World=>WZ
   rotate_left 1
  rotate_left 4
  focus
   refine aJ rfl rfl (fun K hK=>?_);go_simp;obtain⟨HX54,HS54,hlt54⟩:=alX 34 #[.slice none 0 0,.slice none 0 0] HB39.out;refine hK _ _ (US.out _ HX54.out.2) ?_;clear hK K;(try simp only[Act.put,gA,gS,gZ,sA,sZ,sS])
   generalize V39.alloc (.cells #[.slice none 0 0,.slice none 0 0] 34)=V54 at HX54 HS54 hlt54 ⊢;have HB54:=hIz HX54.out.2;refine aH hd 3 ?_;clear hd;intro hd;refine aJ rfl rfl (fun K hK=>?_);go_simp;obtain⟨HX55,HS55,hlt55⟩:=alX 26 #[.slice A5 x1 c5,.slice A m1 c] HB54.out;refine hK _ _ (US.out _ HX55.out.2) ?_;clear hK K;(try simp only[Act.put,gA,gS,gZ,sA,sZ,sS])
   generalize V54.alloc (.cells #[.slice A5 x1 c5,.slice A m1 c] 26)=V55 at HX55 HS55 hlt55 ⊢;have HB55:=hIz HX55.out.2;refine aH hd 4 ?_;clear hd;intro hd;refine aJ rfl rfl (fun K hK=>?_);go_simp;have hcon:=cK V55 V54.heap.size A5 c5 A c (fC G) M (by rw[HN.out.1,HN.out.2.2.1];exact HX55.out.1.upd (Upd.of_below bR (fun _=>False)) id) (HR.out.1.below HB55.out) (HR.out.2.2.1.below HB55.out) HNL.out.1;refine hcon.mono ?_;clear hcon;rintro e V56 ⟨v,rfl,own56X,b56X⟩;rw[HQ.out.1] at own56X;obtain⟨A56X,c56X,rfl,hle56X,row56X⟩:=bP own56X;have HB56:=hIz (tHn HB55.out b56X);have HS56:=hIz b56X;have HR56X:=aI2 row56X hle56X;clear own56X b56X row56X hle56X;refine hK _ _ (US.out _ HB56.out) ?_;clear hK K;(try simp only[Act.put,gA,gS,gZ,sA,sZ,sS])
   refine aH hd 9 ?_;clear hd;intro hd;refine aJ rfl rfl (fun K hK=>?_);go_simp;have hcon:=bW V56 V0.heap.size B5 d5 B d (eT G) D (by rw[HN.out.2.1,HN.out.2.2.2];exact HX39.out.1.upd (Upd.of_below (((HS54.out).trans ((HS55.out).mono (HS54.out).size)).trans ((HS56.out).mono ((HS54.out).trans ((HS55.out).mono (HS54.out).size)).size)) (fun _=>False)) id) (HR.out.2.1.below HB56.out) (HR.out.2.2.2.below HB56.out) HNL.out.2;refine hcon.mono ?_;clear hcon;rintro e V57 ⟨v,rfl,own57X,b57X⟩;rw[HQ.out.2] at own57X;obtain⟨A57X,c57X,rfl,hle57X,row57X⟩:=bP own57X;have HB57:=hIz (tHn HB56.out b57X);have HS57:=hIz b57X;have HR57X:=aI2 row57X hle57X;clear own57X b57X row57X hle57X;refine hK _ _ (US.out _ HB57.out) ?_;clear hK K;(try simp only[Act.put,gA,gS,gZ,sA,sZ,sS])
   refine aH hd 10 ?_;clear hd;intro hd;refine aJ rfl rfl (fun K hK=>?_);have rA:=HR56X.out.1.below (HS57.out);have rB:=HR57X.out.1.below bR;have hmade:=eU V57 A56X c56X A57X c57X (fC G++M) (eT G++D) ⟨rA,rB,by rw[HQ.out.1];exact HR56X.out.2,by rw[HQ.out.2];exact HR57X.out.2,HFT.out⟩ HBB.out;clear rA rB;rw[HQ.out.1,HQ.out.2] at hmade;go_simp;refine hmade.mono ?_;clear hmade;rintro e V58 ⟨AZ,cZ,BZ,dZ,rfl,-,-,bZ⟩;have HB58:=hIz (tHn HB57.out bZ);have HS58:=hIz bZ;clear bZ;unfold cP;refine hK _ _ (US.out _ HB58.out) ?_;clear hK K;(try simp only[Act.put,gA,gS,gZ,sA,sZ,sS])
   have hS:=US.out _ HB58.out;refine aD 11 rfl hd hS ?_;clear hd;intro hd;refine aD 12 rfl hd hS ?_;clear hd;intro hd;refine aD 13 rfl hd hS ?_;clear hd;intro hd;clear hS;have kr:=HX54.out.1.upd (Upd.of_below ((((HS55.out).trans ((HS56.out).mono (HS55.out).size)).trans ((HS57.out).mono ((HS55.out).trans ((HS56.out).mono (HS55.out).size)).size)).trans ((HS58.out).mono (((HS55.out).trans ((HS56.out).mono (HS55.out).size)).trans ((HS57.out).mono ((HS55.out).trans ((HS56.out).mono (HS55.out).size)).size)).size)) (fun _=>False)) id;have bZ:=HB58.out;have hz:=HB39.out.size;generalize V39.heap.size=kz at kr hz ⊢;rename World=>WZ
  rotate_left 1
 rotate_left 5
 focus
  refine aJ rfl rfl (fun K hK=>?_);go_simp;obtain⟨HX59,HS59,hlt59⟩:=alX 34 #[.slice none 0 0,.slice none 0 0] HB0.out;refine hK _ _ (US.out _ HX59.out.2) ?_;clear hK K;(try simp only[Act.put,gA,gS,gZ,sA,sZ,sS])
  generalize V0.alloc (.cells #[.slice none 0 0,.slice none 0 0] 34)=V59 at HX59 HS59 hlt59 ⊢;have HB59:=hIz HX59.out.2;refine bK hd 3 8 ?_ ?_<;>(clear hd;intro hd)
  focus
   refine aJ rfl rfl (fun K hK=>?_);go_simp;obtain⟨HX60,HS60,hlt60⟩:=alX 26 #[.slice A5 x1 c5,.slice A m1 c] HB59.out;refine hK _ _ (US.out _ HX60.out.2) ?_;clear hK K;(try simp only[Act.put,gA,gS,gZ,sA,sZ,sS])
   generalize V59.alloc (.cells #[.slice A5 x1 c5,.slice A m1 c] 26)=V60 at HX60 HS60 hlt60 ⊢;have HB60:=hIz HX60.out.2;refine bK hd 4 8 ?_ ?_<;>(clear hd;intro hd)
   focus
    refine aJ rfl rfl (fun K hK=>?_);go_simp;have hcon:=cK V60 V59.heap.size A5 c5 A c (fC G) M (by rw[HN.out.1,HN.out.2.2.1];exact HX60.out.1.upd (Upd.of_below bR (fun _=>False)) id) (HR.out.1.below HB60.out) (HR.out.2.2.1.below HB60.out) HNL.out.1;refine hcon.mono ?_;clear hcon;rintro e V61 ⟨v,rfl,own61X,b61X⟩;rw[HQ.out.1] at own61X;obtain⟨A61X,c61X,rfl,hle61X,row61X⟩:=bP own61X;have HB61:=hIz (tHn HB60.out b61X);have HS61:=hIz b61X;have HR61X:=aI2 row61X hle61X;clear own61X b61X row61X hle61X;refine hK _ _ (US.out _ HB61.out) ?_;clear hK K;(try simp only[Act.put,gA,gS,gZ,sA,sZ,sS])
    refine aH hd 8 ?_;clear hd;intro hd;refine aJ rfl rfl (fun K hK=>?_);go_simp;obtain⟨HX62,HS62,hlt62⟩:=alX 27 #[.slice B5 x2 d5,.slice B m2 d] HB61.out;refine hK _ _ (US.out _ HX62.out.2) ?_;clear hK K;(try simp only[Act.put,gA,gS,gZ,sA,sZ,sS])
    generalize V61.alloc (.cells #[.slice B5 x2 d5,.slice B m2 d] 27)=V62 at HX62 HS62 hlt62 ⊢;have HB62:=hIz HX62.out.2;refine aH hd 9 ?_;clear hd;intro hd;refine aJ rfl rfl (fun K hK=>?_);go_simp;have hcon:=bW V62 V61.heap.size B5 d5 B d (eT G) D (by rw[HN.out.2.1,HN.out.2.2.2];exact HX62.out.1.upd (Upd.of_below bR (fun _=>False)) id) (HR.out.2.1.below HB62.out) (HR.out.2.2.2.below HB62.out) HNL.out.2;refine hcon.mono ?_;clear hcon;rintro e V63 ⟨v,rfl,own63X,b63X⟩;rw[HQ.out.2] at own63X;obtain⟨A63X,c63X,rfl,hle63X,row63X⟩:=bP own63X;have HB63:=hIz (tHn HB62.out b63X);have HS63:=hIz b63X;have HR63X:=aI2 row63X hle63X;clear own63X b63X row63X hle63X;refine hK _ _ (US.out _ HB63.out) ?_;clear hK K;(try simp only[Act.put,gA,gS,gZ,sA,sZ,sS])
    refine aH hd 10 ?_;clear hd;intro hd;refine aJ rfl rfl (fun K hK=>?_);have rA:=HR61X.out.1.below ((HS62.out).trans ((HS63.out).mono (HS62.out).size));have rB:=HR63X.out.1.below bR;have hmade:=eU V63 A61X c61X A63X c63X (fC G++M) (eT G++D) ⟨rA,rB,by rw[HQ.out.1];exact HR61X.out.2,by rw[HQ.out.2];exact HR63X.out.2,HFT.out⟩ HBB.out;clear rA rB;rw[HQ.out.1,HQ.out.2] at hmade;go_simp;refine hmade.mono ?_;clear hmade;rintro e V64 ⟨AZ,cZ,BZ,dZ,rfl,-,-,bZ⟩;have HB64:=hIz (tHn HB63.out bZ);have HS64:=hIz bZ;clear bZ;unfold cP;refine hK _ _ (US.out _ HB64.out) ?_;clear hK K;(try simp only[Act.put,gA,gS,gZ,sA,sZ,sS])
    have hS:=US.out _ HB64.out;refine aD 11 rfl hd hS ?_;clear hd;intro hd;refine aD 12 rfl hd hS ?_;clear hd;intro hd;refine aD 13 rfl hd hS ?_;clear hd;intro hd;clear hS;have kr:=HX59.out.1.upd (Upd.of_below (((((HS60.out).trans ((HS61.out).mono (HS60.out).size)).trans ((HS62.out).mono ((HS60.out).trans ((HS61.out).mono (HS60.out).size)).size)).trans ((HS63.out).mono (((HS60.out).trans ((HS61.out).mono (HS60.out).size)).trans ((HS62.out).mono ((HS60.out).trans ((HS61.out).mono (HS60.out).size)).size)).size)).trans ((HS64.out).mono ((((HS60.out).trans ((HS61.out).mono (HS60.out).size)).trans ((HS62.out).mono ((HS60.out).trans ((HS61.out).mono (HS60.out).size)).size)).trans ((HS63.out).mono (((HS60.out).trans ((HS61.out).mono (HS60.out).size)).trans ((HS62.out).mono ((HS60.out).trans ((HS61.out).mono (HS60.out).size)).size)).size)).size)) (fun _=>False)) id;have bZ:=HB64.out;have hz:=HB0.out.size;generalize V0.heap.size=kz at kr hz ⊢;rename World=>WZ
   rotate_left 1
   focus
    refine aJ rfl rfl (fun K hK=>?_);go_simp;obtain⟨HX65,HS65,hlt65⟩:=alX 27 #[.slice B5 x2 d5,.slice B m2 d] HB60.out;refine hK _ _ (US.out _ HX65.out.2) ?_;clear hK K;(try simp only[Act.put,gA,gS,gZ,sA,sZ,sS])
    generalize V60.alloc (.cells #[.slice B5 x2 d5,.slice B m2 d] 27)=V65 at HX65 HS65 hlt65 ⊢;have HB65:=hIz HX65.out.2;refine aH hd 4 ?_;clear hd;intro hd;refine aJ rfl rfl (fun K hK=>?_);go_simp;have hcon:=cK V65 V59.heap.size A5 c5 A c (fC G) M (by rw[HN.out.1,HN.out.2.2.1];exact HX60.out.1.upd (Upd.of_below (HS65.out) (fun _=>False)) id) (HR.out.1.below HB65.out) (HR.out.2.2.1.below HB65.out) HNL.out.1;refine hcon.mono ?_;clear hcon;rintro e V66 ⟨v,rfl,own66X,b66X⟩;rw[HQ.out.1] at own66X;obtain⟨A66X,c66X,rfl,hle66X,row66X⟩:=bP own66X;have HB66:=hIz (tHn HB65.out b66X);have HS66:=hIz b66X;have HR66X:=aI2 row66X hle66X;clear own66X b66X row66X hle66X;refine hK _ _ (US.out _ HB66.out) ?_;clear hK K;(try simp only[Act.put,gA,gS,gZ,sA,sZ,sS])
    refine aH hd 9 ?_;clear hd;intro hd;refine aJ rfl rfl (fun K hK=>?_);go_simp;have hcon:=bW V66 V60.heap.size B5 d5 B d (eT G) D (by rw[HN.out.2.1,HN.out.2.2.2];exact HX65.out.1.upd (Upd.of_below (HS66.out) (fun _=>False)) id) (HR.out.2.1.below HB66.out) (HR.out.2.2.2.below HB66.out) HNL.out.2;refine hcon.mono ?_;clear hcon;rintro e V67 ⟨v,rfl,own67X,b67X⟩;rw[HQ.out.2] at own67X;obtain⟨A67X,c67X,rfl,hle67X,row67X⟩:=bP own67X;have HB67:=hIz (tHn HB66.out b67X);have HS67:=hIz b67X;have HR67X:=aI2 row67X hle67X;clear own67X b67X row67X hle67X;refine hK _ _ (US.out _ HB67.out) ?_;clear hK K;(try simp only[Act.put,gA,gS,gZ,sA,sZ,sS])
    refine aH hd 10 ?_;clear hd;intro hd;refine aJ rfl rfl (fun K hK=>?_);have rA:=HR66X.out.1.below (HS67.out);have rB:=HR67X.out.1.below bR;have hmade:=eU V67 A66X c66X A67X c67X (fC G++M) (eT G++D) ⟨rA,rB,by rw[HQ.out.1];exact HR66X.out.2,by rw[HQ.out.2];exact HR67X.out.2,HFT.out⟩ HBB.out;clear rA rB;rw[HQ.out.1,HQ.out.2] at hmade;go_simp;refine hmade.mono ?_;clear hmade;rintro e V68 ⟨AZ,cZ,BZ,dZ,rfl,-,-,bZ⟩;have HB68:=hIz (tHn HB67.out bZ);have HS68:=hIz bZ;clear bZ;unfold cP;refine hK _ _ (US.out _ HB68.out) ?_;clear hK K;(try simp only[Act.put,gA,gS,gZ,sA,sZ,sS])
    have hS:=US.out _ HB68.out;refine aD 11 rfl hd hS ?_;clear hd;intro hd;refine aD 12 rfl hd hS ?_;clear hd;intro hd;refine aD 13 rfl hd hS ?_;clear hd;intro hd;clear hS;have kr:=HX59.out.1.upd (Upd.of_below (((((HS60.out).trans ((HS65.out).mono (HS60.out).size)).trans ((HS66.out).mono ((HS60.out).trans ((HS65.out).mono (HS60.out).size)).size)).trans ((HS67.out).mono (((HS60.out).trans ((HS65.out).mono (HS60.out).size)).trans ((HS66.out).mono ((HS60.out).trans ((HS65.out).mono (HS60.out).size)).size)).size)).trans ((HS68.out).mono ((((HS60.out).trans ((HS65.out).mono (HS60.out).size)).trans ((HS66.out).mono ((HS60.out).trans ((HS65.out).mono (HS60.out).size)).size)).trans ((HS67.out).mono (((HS60.out).trans ((HS65.out).mono (HS60.out).size)).trans ((HS66.out).mono ((HS60.out).trans ((HS65.out).mono (HS60.out).size)).size)).size)).size)) (fun _=>False)) id;have bZ:=HB68.out;have hz:=HB0.out.size;generalize V0.heap.size=kz at kr hz ⊢;rename World=>WZ
   rotate_left 1
  rotate_left 2
  focus
   refine aJ rfl rfl (fun K hK=>?_);go_simp;obtain⟨HX69,HS69,hlt69⟩:=alX 27 #[.slice B5 x2 d5,.slice B m2 d] HB59.out;refine hK _ _ (US.out _ HX69.out.2) ?_;clear hK K;(try simp only[Act.put,gA,gS,gZ,sA,sZ,sS])
   generalize V59.alloc (.cells #[.slice B5 x2 d5,.slice B m2 d] 27)=V69 at HX69 HS69 hlt69 ⊢;have HB69:=hIz HX69.out.2;refine aH hd 3 ?_;clear hd;intro hd;refine aJ rfl rfl (fun K hK=>?_);go_simp;obtain⟨HX70,HS70,hlt70⟩:=alX 26 #[.slice A5 x1 c5,.slice A m1 c] HB69.out;refine hK _ _ (US.out _ HX70.out.2) ?_;clear hK K;(try simp only[Act.put,gA,gS,gZ,sA,sZ,sS])
   generalize V69.alloc (.cells #[.slice A5 x1 c5,.slice A m1 c] 26)=V70 at HX70 HS70 hlt70 ⊢;have HB70:=hIz HX70.out.2;refine aH hd 4 ?_;clear hd;intro hd;refine aJ rfl rfl (fun K hK=>?_);go_simp;have hcon:=cK V70 V69.heap.size A5 c5 A c (fC G) M (by rw[HN.out.1,HN.out.2.2.1];exact HX70.out.1.upd (Upd.of_below bR (fun _=>False)) id) (HR.out.1.below HB70.out) (HR.out.2.2.1.below HB70.out) HNL.out.1;refine hcon.mono ?_;clear hcon;rintro e V71 ⟨v,rfl,own71X,b71X⟩;rw[HQ.out.1] at own71X;obtain⟨A71X,c71X,rfl,hle71X,row71X⟩:=bP own71X;have HB71:=hIz (tHn HB70.out b71X);have HS71:=hIz b71X;have HR71X:=aI2 row71X hle71X;clear own71X b71X row71X hle71X;refine hK _ _ (US.out _ HB71.out) ?_;clear hK K;(try simp only[Act.put,gA,gS,gZ,sA,sZ,sS])
   refine aH hd 9 ?_;clear hd;intro hd;refine aJ rfl rfl (fun K hK=>?_);go_simp;have hcon:=bW V71 V59.heap.size B5 d5 B d (eT G) D (by rw[HN.out.2.1,HN.out.2.2.2];exact HX69.out.1.upd (Upd.of_below ((HS70.out).trans ((HS71.out).mono (HS70.out).size)) (fun _=>False)) id) (HR.out.2.1.below HB71.out) (HR.out.2.2.2.below HB71.out) HNL.out.2;refine hcon.mono ?_;clear hcon;rintro e V72 ⟨v,rfl,own72X,b72X⟩;rw[HQ.out.2] at own72X;obtain⟨A72X,c72X,rfl,hle72X,row72X⟩:=bP own72X;have HB72:=hIz (tHn HB71.out b72X);have HS72:=hIz b72X;have HR72X:=aI2 row72X hle72X;clear own72X b72X row72X hle72X;refine hK _ _ (US.out _ HB72.out) ?_;clear hK K;(try simp only[Act.put,gA,gS,gZ,sA,sZ,sS])
   refine aH hd 10 ?_;clear hd;intro hd;refine aJ rfl rfl (fun K hK=>?_);have rA:=HR71X.out.1.below (HS72.out);have rB:=HR72X.out.1.below bR;have hmade:=eU V72 A71X c71X A72X c72X (fC G++M) (eT G++D) ⟨rA,rB,by rw[HQ.out.1];exact HR71X.out.2,by rw[HQ.out.2];exact HR72X.out.2,HFT.out⟩ HBB.out;clear rA rB;rw[HQ.out.1,HQ.out.2] at hmade;go_simp;refine hmade.mono ?_;clear hmade;rintro e V73 ⟨AZ,cZ,BZ,dZ,rfl,-,-,bZ⟩;have HB73:=hIz (tHn HB72.out bZ);have HS73:=hIz bZ;clear bZ;unfold cP;refine hK _ _ (US.out _ HB73.out) ?_;clear hK K;(try simp only[Act.put,gA,gS,gZ,sA,sZ,sS])
   have hS:=US.out _ HB73.out;refine aD 11 rfl hd hS ?_;clear hd;intro hd;refine aD 12 rfl hd hS ?_;clear hd;intro hd;refine aD 13 rfl hd hS ?_;clear hd;intro hd;clear hS;have kr:=HX59.out.1.upd (Upd.of_below (((((HS69.out).trans ((HS70.out).mono (HS69.out).size)).trans ((HS71.out).mono ((HS69.out).trans ((HS70.out).mono (HS69.out).size)).size)).trans ((HS72.out).mono (((HS69.out).trans ((HS70.out).mono (HS69.out).size)).trans ((HS71.out).mono ((HS69.out).trans ((HS70.out).mono (HS69.out).size)).size)).size)).trans ((HS73.out).mono ((((HS69.out).trans ((HS70.out).mono (HS69.out).size)).trans ((HS71.out).mono ((HS69.out).trans ((HS70.out).mono (HS69.out).size)).size)).trans ((HS72.out).mono (((HS69.out).trans ((HS70.out).mono (HS69.out).size)).trans ((HS71.out).mono ((HS69.out).trans ((HS70.out).mono (HS69.out).size)).size)).size)).size)) (fun _=>False)) id;have bZ:=HB73.out;have hz:=HB0.out.size;generalize V0.heap.size=kz at kr hz ⊢;rename World=>WZ
  rotate_left 1
 rotate_left 3
 all_goals
  have r0:WZ.cell? ⟨kz,0,none⟩=some (.slice none 0 0):=kr.cell 0;have r1:WZ.cell? ⟨kz,1,none⟩=some (.slice none 0 0):=kr.cell 1;have f0:=kr.frozen 0;have f1:=kr.frozen 1;generalize (ofN (fC G++M) (eT G++D)).length=l1;generalize (ofE (fC G++M) (eT G++D)).length=l2;have uF:=((Upd.refl (fun q=>q=kz) WZ).setCell (p:=⟨kz,0,none⟩) (.inl rfl) (.slice AZ l1 cZ)).setCell (p:=⟨kz,1,none⟩) (.inl rfl) (.slice BZ l2 dZ);have bF:=uF.below (B:=W1.heap.size) (fun q _ e=>by subst e;exact hz) bZ.size;have bY:=bZ.trans bF;have hS:=US.out _ bY;have FIN:=hIz (tHn HWT.out bY);clear kr uF bF bZ bY hz;refine aH hd 15 ?_;clear hd;intro hd;refine aJ rfl rfl (fun K hK=>?_);go_simp;refine hK _ _ hS ?_;clear hK K;(try simp only[Act.put,gA,gS,gZ,sA,sZ,sS])
  refine aD 16 rfl hd hS ?_;clear hd;intro hd;refine cX (by kernel_rfl) ?_;clear hS hd r0 r1 f0 f1;go_wp2;go_ret;exact⟨by rw[← HOI.out];rfl,FIN.out⟩
open Go.RowKit
def VR(w:World)(F:Nat→Prop)(p:Nat)(r:Gr × Bool × Int)(e:Ending)(w':World):Prop:=e=.returned (.tuple #[.bool r.2.1,.int .i64 r.2.2])∧KG w F p r.1 w'
theorem KG.after{w w1 w':World}{F:Nat→Prop}{p:Nat}{G:Gr}(hb:Below w.heap.size w w1)(h:KG w1 F p G w'):KG w F p G w':=by
 obtain⟨F',g,u,n⟩:=h;exact⟨F',g,(Upd.of_below hb F).trans u (fun _ h=>.inl h),fun k hk=>(n k hk).imp id fun h=>Nat.le_trans hb.size h⟩
theorem kH(w:World)(F:Nat→Prop)(p:Nat)(G:Gr)(h:GrS w F p G)(ok:GOk G)(x:Ed)(hk:uM x) :
  Calls Tryz.prog 27 #[.pointer (some ⟨p,0,none⟩),.string x.fr,.string x.lb,.string x.to] w (VR w F p (aX G x)):=by
 have h0:=h;obtain⟨U,V,hgr,ho⟩:=h;obtain⟨O,⟨r,nv,ov,iv,fo,fi⟩,hg,hF⟩:=hgr;have q1:w.cell? ⟨p,1,none⟩=some (.map (some r)):=hg.blk.cell 1;have hhas:=UE w F p G h0 ok x hk.1 hk.2.2;clear hg ho hF;by_cases hx:x∈G.X
 ·rw[decide_eq_true hx] at hhas;have HG:=hIz (show ∀W,Below w.heap.size w W→VR w F p (aX G x) (.returned (.tuple #[.bool false,.int .i64 0])) W from fun W hb=>by
   have e:aX G x=(G,false,0):=by unfold aX;rw[if_pos hx]
   rw[e];exact⟨rfl,KG.refl h0 hb⟩)
  clear ok h0;go_enter Tryz.func27,Tryz.ntmps27;go_wp2_with fail;refine(nD w p r q1).mono ?_;rintro e w' ⟨rfl,hw⟩;subst w';go_wp2_with fail;refine hhas.mono ?_;rintro e W1 ⟨rfl,b1⟩;have FIN:=hIz (HG.out W1 b1);clear b1;go_wp2;refine bodyPost_ret (v:=.tuple #[.bool false,.int .i64 0]) (by simp[results,Tryz.f27,go_sem]) rfl FIN.out
 ·rw[decide_eq_false hx] at hhas;have H:=aI4 h0 ok hx hk;clear ok h0 hk;obtain⟨s0,s1,s2⟩:=x;dsimp only at hhas
  go_enter Tryz.func27,Tryz.ntmps27;go_wp2_with fail;refine(nD w p r q1).mono ?_;rintro e w' ⟨rfl,hw⟩;subst w';go_wp2_with fail;refine hhas.mono ?_;clear hhas q1;rintro e W1 ⟨rfl,b1⟩;have k1:=Blk.new W1 32 #[.string s0,.string s1,.string s2];have u1:Below W1.heap.size W1 (W1.alloc (.cells #[.string s0,.string s1,.string s2] 32)):=bR.alloc (Nat.le_refl _) _;have HW:=aI2 (tHn b1 u1) k1;clear k1 u1 b1;go_upto_region 6 with (fail);generalize W1.alloc (.cells #[.string s0,.string s1,.string s2] 32)=W2 at HW ⊢;have q0:W2.cell? ⟨W1.heap.size,0,none⟩=some (.string s0):=HW.out.2.cell 0;have q1:W2.cell? ⟨W1.heap.size,1,none⟩=some (.string s1):=HW.out.2.cell 1;have q2:W2.cell? ⟨W1.heap.size,2,none⟩=some (.string s2):=HW.out.2.cell 2;have k3:=Blk.new W2 32 #[.string s0,.string s1,.string s2];have u3:Below W2.heap.size W2 (W2.alloc (.cells #[.string s0,.string s1,.string s2] 32)):=bR.alloc (Nat.le_refl _) _;have b3:=tHn HW.out.1 u3;have hcon:=RC (W2.alloc (.cells #[.string s0,.string s1,.string s2] 32)) F p G (H.out.1.below b3) H.out.2.1 none 0 (some ⟨W2.heap.size,0,none⟩) 1 [] [⟨s0,s1,s2⟩] (fun j u hj=>by simp[aE] at hj) (fun j u hj=>⟨W2.heap.size,0,rfl,by rw[Nat.zero_add,k3.cell j];simpa[aP,Ed.cells] using hj⟩) (by simp) (by simp) (fun t ht=>by cases ht) (fun y hy=>by rw[List.mem_singleton] at hy;subst hy;exact H.out.2.2.2);rw[List.append_nil] at hcon;obtain⟨z,hz⟩:∃z,ofI G.N (G.X++[⟨s0,s1,s2⟩])=z:=⟨_,rfl⟩;rw[hz] at hcon;have HZ:=aI3 hz b3 (HW.out.2.upd (upF u3) id);clear k3 u3 b3 hz;go_wp2_with fail
  refine hcon.mono ?_;clear hcon q0 q1 q2;rintro e W4 ⟨rfl,b4⟩;have HB:=hIz (show Below w.heap.size w W4 from tHn HZ.out.2.1 b4);have k4:=HZ.out.2.2.upd (upF b4) id;have q0:W4.cell? ⟨W1.heap.size,0,none⟩=some (.string s0):=k4.cell 0;have q1:W4.cell? ⟨W1.heap.size,1,none⟩=some (.string s1):=k4.cell 1;have q2:W4.cell? ⟨W1.heap.size,2,none⟩=some (.string s2):=k4.cell 2;clear b4 k4;by_cases h0:z=0
  ·subst h0;have hf:=H.out.2.1.few;obtain⟨U,V,hgr,ho⟩:=H.out.1.below HB.out;have hUV:=fun k=>ho.len k
   have hc:=AO W4 F p G.N U V G.X.length ⟨s0,s1,s2⟩ hgr H.out.2.2.2 (by omega) (fun k=>⟨ho.up k,by have:=(hUV k).1;omega⟩) (fun k=>⟨ho.vp k,by have:=(hUV k).2;omega⟩) ⟨by omega,by omega⟩;have HO:=hIz ho;clear hgr ho hUV hf;unfold Ed.agg at hc;dsimp only at hc
   go_wp2_with fail;refine hc.mono ?_;clear hc q0 q1 q2;rintro e W5 ⟨rfl,F5,g5,u5,n5⟩;have FIN:=hIz (show VR w F p (aX G ⟨s0,s1,s2⟩) (.returned (.tuple #[.bool true,.int .i64 0])) W5 from by
    have e:aX G ⟨s0,s1,s2⟩=(⟨cU (cU G.N s0) s2,G.X++[⟨s0,s1,s2⟩]⟩,true,0):=by unfold aX;rw[if_neg H.out.2.2.1,if_pos HZ.out.1]
    have ok:=H.out.2.1;rw[e];have m:∀y∈G.X,y.fr∈cU (cU G.N s0) s2∧y.to∈cU (cU G.N s0) s2:=fun y hy=>by
     simp only[fG]
     exact⟨.inl (.inl (ok.ends y hy).1),.inl (.inl (ok.ends y hy).2)⟩
    have m1:∀y∈G.X,y.fr∈cU G.N s0∧y.to∈cU G.N s0:=fun y hy=>by
     simp only[fG]
     exact⟨.inl (ok.ends y hy).1,.inl (ok.ends y hy).2⟩
    have hops:=((HO.out.node ok.ends s0).node m1 s2).edge (hO (hO ok.nd s0) s2) m (x:=⟨s0,s1,s2⟩) (by simp[fG]) (by simp[fG]) H.out.2.2.1;refine⟨rfl,KG.after HB.out ⟨F5,⟨_,_,?_,hops⟩,u5,n5⟩⟩;have e2:(((G.X++[⟨s0,s1,s2⟩]:List Ed).length:Nat):Int)=(G.X.length:Int)+1:=by simp
    dsimp only
    rw[e2];exact g5)
   clear g5 u5 n5;go_wp2;refine bodyPost_ret (v:=.tuple #[.bool true,.int .i64 0]) (by simp[results,Tryz.f27,go_sem]) rfl FIN.out
  ·have h0I:(z==0)=false:=by simpa using h0
   have FIN:=hIz (show VR w F p (aX G ⟨s0,s1,s2⟩) (.returned (.tuple #[.bool false,.int .i64 z])) W4 from by
    have e:aX G ⟨s0,s1,s2⟩=(G,false,z):=by unfold aX;rw[if_neg H.out.2.2.1,if_neg (by rw[HZ.out.1];exact h0),HZ.out.1]
    rw[e];exact⟨rfl,KG.refl H.out.1 HB.out⟩)
   go_wp2;refine bodyPost_ret (v:=.tuple #[.bool false,.int .i64 z]) (by simp[results,Tryz.f27,go_sem]) rfl FIN.out
open Go.RowKit
theorem OY{o:List Nat}(ho:Wd o){i j i' j':Nat}(hi:i<64)(hi':i'<64):gC (List.zipWith orN o (kM i j)) i' j'=(gC o i' j'||decide (i'=i∧j'=j)):=by
 obtain⟨x,hx⟩:∃x,o[i']?=some x:=⟨o[i']'(by rw[ho.len];exact hi'),gEz _⟩;by_cases e:i'=i
 ·subst e;have hz:(List.zipWith orN o (kM i' j))[i']?=some (orN x (2 ^ j)):=by rw[List.getElem?_zipWith,hx,xW hi]
  unfold gC;rw[hz,hx];simp only[Option.getD_some,orN,Nat.testBit_or,true_and]
  rw[Nat.testBit_two_pow];simp[eq_comm]
 ·have ho2:(kM i j)[i']?=some 0:=by
   unfold kM;rw[List.getElem?_set,if_neg (fun h=>e h.symm),jM hi']
  have hz:(List.zipWith orN o (kM i j))[i']?=some (orN x 0):=by rw[List.getElem?_zipWith,hx,ho2]
  unfold gC;rw[hz,hx];simp[orN,e]
theorem lS(b:Option (List Nat)){i j:Nat}(hi:i<64):gC (dD b) i j=cV b i j:=by
 cases b with
 | none =>
  unfold gC dD;rw[Option.getD_none,jM hi];simp[cV]
 | some r=>rfl
theorem RD{b:Option (List Nat)}(hw:Wd (dD b)){i j i' j':Nat}(hi:i<64)(hi':i'<64):cV (setO b i j) i' j'=(cV b i' j'||decide (i'=i∧j'=j)):=by
 unfold setO;split
 ·rename_i h
  by_cases e:i'=i∧j'=j
  ·rw[e.1,e.2,h];rfl
  ·simp[e]
 ·show gC _ i' j'=_
  rw[OY hw hi hi',lS b hi']
theorem QuS.wd{w:World}{F:Nat→Prop}{p side:Nat}{b:Option (List Nat)}(h:QuS w F p side b):Wd (dD b):=by
 obtain⟨O,dep,cnt,m,last,L,pv,lv,-,ok,-⟩:=h;exact kT ok
theorem gK.below{B p side:Nat}{b:Option (List Nat)}{w w':World}(h:gK B p side b w)(hb:Below w.heap.size w w'):gK B p side b w':=by
 obtain⟨F,g,n⟩:=h;exact⟨F,g.below hb,n⟩
theorem gK.step{B p side:Nat}{b:Option (List Nat)}{w w':World}{F:Nat→Prop}(hF:∀k,F k→B≤k)(hB:B≤w.heap.size)(h:QTo w F p side b w'):gK B p side b w'∧Below B w w':=by
 obtain⟨F',g,u,n⟩:=h;refine⟨⟨F',g,fun k hk=>?_⟩,u.below (fun i _ hi=>hF i hi) hB⟩;rcases n k hk with h|h
 ·exact hF k h
 ·omega
end Go.Proofs.YtddffnonlmfhdaaGreatDoor
