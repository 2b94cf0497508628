/- GraphPlays: the steps that ask; GraphPlays: the memory of its walk; Graphs: some answers that the document fixes (the walk); The document's graph: Of, with where its rows lie (a copy of GpQ's, with upper bounds). -/
import Derived.Test.YtddffnonlmfhdaaGreatDoorU14
import Derived.Test.YtddffnonlmfhdaaGreatDoorU07
import Derived.Test.YtddffnonlmfhdaaGreatDoorU09
import Derived.Test.YtddffnonlmfhdaaGreatDoorU10
set_option linter.unusedVariables false
set_option linter.unusedSimpArgs false
set_option maxHeartbeats 16000000
set_option maxRecDepth 100000
namespace Go.Proofs.YtddffnonlmfhdaaGreatDoor
open Go.RowKit
theorem sD:datN ⟨[],[]⟩=[]∧datE ⟨[],[]⟩=[]:=by
 constructor
 ·refine List.eq_nil_iff_forall_not_mem.2 (fun x hx=>?_);have:=(kG GOk.new).1 hx;cases this
 ·refine List.eq_nil_iff_forall_not_mem.2 (fun x hx=>?_);have:=fO.1 hx;cases this
theorem uX:ofN [] []=[]∧ofE [] []=[]∧jB [] []=[]:=by
 have h1:=iE.new.datN GOk.new;have h2:=iE.new.datE GOk.new;have h3:=nI GOk.new;rw[sD.1] at h1;rw[sD.2] at h2;rw[sD.1,sD.2] at h3;refine⟨h1,h2,h3.trans ?_⟩;refine List.eq_nil_iff_forall_not_mem.2 (fun x hx=>?_);have:=((aZ dW _).mem x).1 hx;simp[lbs] at this
theorem yH{w:World}{v:Value}{e:Ending}{w':World}(h:eJ w v e w'):Sam w v e w':=⟨h.1,by rw[h.2];exact Below.refl _ _⟩
theorem mE(w:World):dX w none 0 none 0 [] []:=⟨fun j u h=>by simp[aC] at h,fun j u h=>by simp[aH] at h,Nat.le_refl _,Nat.le_refl _,⟨by simp,by simp,fun s h=>(by cases h),fun x h=>(by cases h)⟩⟩
theorem pB{w:World}{F:Nat→Prop}{q:Option Addr}{v:RgC}(h:jS w F q v):Calls Tryz.prog 16 #[.pointer q,v.val] w (Sam w (.bool true)):=by
 rcases h with ⟨rfl,rfl,-⟩|⟨p,G,E,rfl,hs⟩
 ·exact uH w (.pointer none) false none 0 none 0 [] [] (mE w) [] [] [] (fun W _=>(IF W).mono (fun e W' h=>yH h)) (fun W _=>(zH W).mono (fun e W' h=>⟨_,h.1,World.ownsRow_nil _ _ _ _,by rw[h.2];exact Below.refl _ _⟩))
   (fun W _=>(wA W).mono (fun e W' h=>⟨_,h.1,World.ownsRow_nil _ _ _ _,by rw[h.2];exact Below.refl _ _⟩)) (fun W _=>(CT W).mono (fun e W' h=>⟨none,0,none,0,h.1,World.ownsRow_nil _ _ _ _,World.ownsRow_nil _ _ _ _,h.2⟩))
   (by rw[uX.1,uX.2.1,uX.2.2]) uX.1 uX.2.1 (by simp) (by simp) (by simp) (by simp) (by simp) (mE w).fit
 ·have hf:=hs.few;have hd:=uW hs.ok;have e1:=hs.rg.datN hs.ok;have e2:=hs.rg.datE hs.ok;rw[hs.val];refine uH w (.pointer (some ⟨p,0,none⟩)) true v.A v.c v.B v.d G.N E hs.for (aR ltT (lbs (datE G))) (datN G) (datE G) (fun W hb=>?_) (fun W hb=>GJ W F p G (hs.below hb).gr hs.ok) (fun W hb=>CN W F p G (hs.below hb).gr hs.ok) (fun W hb=>vR W F p G (hs.below hb).gr hs.ok) (by rw[e1,e2];exact nI hs.ok) e1 e2 (by omega) (by omega) (by omega) (by omega) (by omega) hd.1;have:=NY W F p G (hs.below hb).gr;rwa [← hs.rg.len hs.ok] at this
section
variable {w:World} {F:Nat→Prop} {q:Option Addr} {v:RgC} {dO oa ob on:Int} {x:Ed} {GA:Option Addr} {gn gc:Nat} {GB:Option Addr} {gm gd:Nat}
theorem EP(h:jS w F q v)(hd:dO=4):Calls Tryz.prog 15 #[.pointer q,v.val,opV dO oa ob on x GA gn gc GB gm gd] w (fT w F q v):=
 (zO w (.pointer q) v.b v.A v.n v.c v.B v.m v.d dO oa ob on x GA gn gc GB gm gd hd (fun W hb=>pB (h.below hb))).mono (fun e w' hs=>fT.same h hs)
theorem EQ(h:jS w F q v)(h2:(dO==2)=false)(h3:(dO==3)=false)(h4:(dO==4)=false)(h5:(dO==5)=false)(h6:(dO==6)=false)(h7:(dO==7)=false):Calls Tryz.prog 15 #[.pointer q,v.val,opV dO oa ob on x GA gn gc GB gm gd] w (fT w F q v):=
 (zN w (.pointer q) v.b v.A v.n v.c v.B v.m v.d dO oa ob on x GA gn gc GB gm gd h2 h3 h4 h5 h6 h7).mono (fun e w' hs=>fT.same h hs)
theorem OP{N:List Txt}(hd:N.Nodup)(W:World)(b:Bool)(A:Option Addr)(c:Nat)(hN:aV W A (aC N))(hl:N.length≤100000)(u:Value){s:Txt}(hs:s∈N) :
  Calls Tryz.prog 54 #[.agg #[.bool b,.slice A N.length c,u],.string s] W (Sam W (.int .i64 (cS N s:Int))):=by
 refine(dD W b A c N hN (by omega) u s).mono ?_;rintro e W' ⟨k,rfl,hk,hb⟩;rw[EB hd hs hk];exact⟨rfl,hb⟩
theorem ER{N:List Txt}(W:World)(b:Bool)(A:Option Addr)(c:Nat)(hN:aV W A (aC N))(hl:N.length≤100000)(u:Value){s:Txt}(hs:s ∉ N) :
  Calls Tryz.prog 54 #[.agg #[.bool b,.slice A N.length c,u],.string s] W (Sam W (.int .i64 (-1))):=by
 refine(dD W b A c N hN (by omega) u s).mono ?_;rintro e W' ⟨k,rfl,hk,hb⟩;rcases hk with ⟨i,-,hi,-⟩|⟨rfl,-⟩
 ·exact(hs (mG hi)).elim
 ·exact⟨rfl,hb⟩
theorem JC(h:jS w F q v)(hd:dO=5)(hx:pE x):Calls Tryz.prog 15 #[.pointer q,v.val,opV dO oa ob on x GA gn gc GB gm gd] w (fT w F q v):=by
 have h0:=h;rcases h with ⟨rfl,rfl,hF⟩|⟨p,G,E,rfl,hs⟩
 ·refine(rZ w (.pointer none) none 0 0 none 0 0 dO oa ob on x GA gn gc GB gm gd hd (-1) false (by decide) (fun W _=>CP W x.fr) (fun W _=>ER (N:=[]) W false none 0 (mE W).rn (by simp) _ (by simp)) (fun W _=>(IG W x).mono (fun e W' h=>yH h)) (fun W _=>?_)).mono (fun e w' hs=>fT.same h0 hs);have:=kU W false (.slice none 0 0) none 0 [] (mE W).re (by simp) x;unfold rgV;simpa using this
 ·have hf:=hs.few;have hhas:=fun (W:World) (hb:Below w.heap.size w W)=>kU W true (.slice v.A G.N.length v.c) v.B v.d E (hs.below hb).re (by omega) x
  have hm:decide (x∈E)=decide (x∈G.X):=decide_eq_decide.2 (hs.rg.mem x);rw[hm] at hhas;rw[hs.val];have hnode:=fun (W:World) (hb:Below w.heap.size w W)=>BL W F p G (hs.below hb).gr hs.ok x.fr hx.1
  by_cases hin:x.fr∈G.N
  ·unfold MZ at hnode;rw[if_pos (aQ.2 hin)] at hnode;refine(uM w (.pointer (some ⟨p,0,none⟩)) v.A G.N.length v.c v.B E.length v.d dO oa ob on x GA gn gc GB gm gd hd (cS G.N x.fr:Int) (decide (x∈G.X)) (by omega) hnode (fun W hb=>OP hs.ok.nd W true v.A v.c (hs.below hb).rn (by omega) _ hin) (fun W hb=>tJ W F p G (hs.below hb).gr hs.ok x hx.1 hx.2.2) hhas).mono (fun e w' hss=>?_);rw[← hs.val] at hss;exact fT.same h0 hss
  ·unfold MZ at hnode;rw[if_neg (fun e=>hin (aQ.1 e))] at hnode;refine(rY w (.pointer (some ⟨p,0,none⟩)) v.A G.N.length v.c v.B E.length v.d dO oa ob on x GA gn gc GB gm gd hd (-1) (decide (x∈G.X)) (by decide) hnode (fun W hb=>ER W true v.A v.c (hs.below hb).rn (by omega) _ hin) (fun W hb=>tJ W F p G (hs.below hb).gr hs.ok x hx.1 hx.2.2) hhas).mono (fun e w' hss=>?_);rw[← hs.val] at hss;exact fT.same h0 hss
theorem ES(h:jS w F q v)(hd:dO=6):Calls Tryz.prog 15 #[.pointer q,v.val,opV dO oa ob on x GA gn gc GB gm gd] w (fT w F q v):=by
 have h0:=h;rcases h with ⟨rfl,rfl,hF⟩|⟨p,G,E,rfl,hs⟩
 ·exact(mC w (.pointer none) false none 0 0 none 0 0 dO oa ob on x GA gn gc GB gm gd hd 1 [] [] (by simp) (by simp) (fun W _=>(II W on).mono (fun e W' h=>⟨none,0,h.1,World.ownsRow_nil _ _ _ _,by rw[h.2];exact Below.refl _ _⟩)) (fun W _=>(MF W on).mono (fun e W' h=>⟨none,0,h.1,World.ownsRow_nil _ _ _ _,by rw[h.2];exact Below.refl _ _⟩))
   (fun W _=>(uK W on true).mono (fun e W' h=>⟨none,0,h.1,World.ownsRow_nil _ _ _ _,h.2⟩)) (fun W _=>(uK W on false).mono (fun e W' h=>⟨none,0,h.1,World.ownsRow_nil _ _ _ _,h.2⟩))).mono (fun e w' hs=>fT.same h0 hs)
 ·have hf:=hs.few;rw[hs.val];by_cases hn:on<0∨(G.N.length:Int)≤on
  ·refine(mC w (.pointer (some ⟨p,0,none⟩)) true v.A G.N.length v.c v.B E.length v.d dO oa ob on x GA gn gc GB gm gd hd 4 [] [] (by simp) (by simp) (fun W hb=>(CU W F p G (hs.below hb).gr hs.ok on hn).mono (fun e W' h=>⟨none,0,h.1,World.ownsRow_nil _ _ _ _,by rw[h.2];exact Below.refl _ _⟩)) (fun W hb=>(IJ W F p G (hs.below hb).gr hs.ok on hn).mono (fun e W' h=>⟨none,0,h.1,World.ownsRow_nil _ _ _ _,by rw[h.2];exact Below.refl _ _⟩))
    (fun W _=>(uL W v.A G.N.length v.c _ on true (by omega) hn).mono (fun e W' h=>⟨none,0,h.1,World.ownsRow_nil _ _ _ _,h.2⟩)) (fun W _=>(uL W v.A G.N.length v.c _ on false (by omega) hn).mono (fun e W' h=>⟨none,0,h.1,World.ownsRow_nil _ _ _ _,h.2⟩))).mono (fun e w' hss=>?_)
   rw[← hs.val] at hss;exact fT.same h0 hss
  ·obtain⟨k,rfl⟩:∃k:Nat,on=(k:Int):=⟨on.toNat,by omega⟩;have hk:k<G.N.length:=by omega
   obtain⟨s,hks⟩:∃s,G.N[k]?=some s:=⟨G.N[k],gEz hk⟩;have hd2:=uW hs.ok;have e1:=hs.rg.datN hs.ok;have e2:=hs.rg.datE hs.ok;have hLB:jB (ofN G.N E) (ofE G.N E)=aR ltT (lbs (datE G)):=by rw[e1,e2];exact nI hs.ok
   have hll:(aR ltT (lbs (datE G))).length*G.N.length≤256*32:=Nat.mul_le_mul hd2.2.2.2 hf.1;have l1:=lZ G.N E s true (aR ltT (lbs (datE G)));have l2:=lZ G.N E s false (aR ltT (lbs (datE G)));refine(mC w (.pointer (some ⟨p,0,none⟩)) true v.A G.N.length v.c v.B E.length v.d dO oa ob (k:Int) x GA gn gc GB gm gd hd 0 (bW G.N E s true (aR ltT (lbs (datE G)))) (bW G.N E s false (aR ltT (lbs (datE G)))) (by omega) (by omega) (fun W hb=>(JV W F p G (hs.below hb).gr hs.ok k hk).mono ?_) (fun W hb=>(PM W F p G (hs.below hb).gr hs.ok k hk).mono ?_) (fun W hb=>?_) (fun W hb=>?_)).mono (fun e w' hss=>?_)
   ·rintro e W' ⟨v',L,hL,rfl,own,b⟩;rw[ML hs.rg hs.ok hks hL];obtain⟨A',c',rfl,-,-⟩:=aG own;exact⟨A',c',rfl,own,b⟩
   ·rintro e W' ⟨v',L,hL,rfl,own,b⟩;rw[OM hs.rg hs.ok hks hL];obtain⟨A',c',rfl,-,-⟩:=aG own;exact⟨A',c',rfl,own,b⟩
   ·have hfit:yM (ofN G.N E) (ofE G.N E):=by rw[e1,e2];exact hd2.1
    exact xX W v.A v.c v.B v.d G.N E (hs.below hb).for true k _ hk (by omega) (fun V hV=>by
     have:=zM V v.A v.c v.B v.d G.N E hV (by omega) hfit k s hks (by rw[hLB];omega);rwa [hLB] at this)
   ·have hfit:yM (ofN G.N E) (ofE G.N E):=by rw[e1,e2];exact hd2.1
    exact xX W v.A v.c v.B v.d G.N E (hs.below hb).for false k _ hk (by omega) (fun V hV=>by
     have:=wI V v.A v.c v.B v.d G.N E hV (by omega) hfit k s hks (by rw[hLB];omega);rwa [hLB] at this)
   ·rw[← hs.val] at hss;exact fT.same h0 hss
theorem JD(h:jS w F q v)(hT:iN w)(hd:dO=7):Calls Tryz.prog 15 #[.pointer q,v.val,opV dO oa ob on x GA gn gc GB gm gd] w (fT w F q v):=by
 have h0:=h;have hTW:∀W,Below w.heap.size w W→iN W:=fun W hb=>hT.upd (upF hb) hT.lt id
 have hTB:∀W W',iN W→Below W.heap.size W W'→iN W':=fun W W' ht hb=>ht.upd (upF hb) ht.lt id
 have hnone:∀(W:World) (A':Option Addr) (c':Nat),iN W→aV W A' (aY [])→Calls Tryz.prog 61 #[.pointer none,.agg #[.int .i64 0,.slice A' ([]:List (Nat × Nat)).length c']] W (Sam W (.bool true)):=fun W A' c' ht hr =>
  uU W none 0 none kQ ht (.inl ⟨rfl,rfl⟩) A' c' hr (fun W _=>EJ W) (fun W _=>IZ W) (fun W _=>zQ W)
 rcases h with ⟨rfl,rfl,hF⟩|⟨p,G,E,rfl,hs⟩
 ·exact(oW w (.pointer none) false none 0 0 none 0 0 dO oa ob on x GA gn gc GB gm gd hd 1 0 [] (fun mv W=>mv=none∧iN W) (fun W hb _=>(wB W x.lb on).mono (fun e W' h=>⟨none,h.1,by rw[h.2];exact Below.refl _ _,rfl,by rw[h.2];exact hTW W hb⟩))
   (fun W _=>(IU W x.lb on).mono (fun e W' h=>⟨none,0,h.1,fun j u hj=>by simp[aY] at hj,h.2⟩)) (fun mv W W' h hb=>⟨h.1,hTB W W' h.2 hb⟩) (fun mv W A' c' _ h hr=>by rw[h.1];exact hnone W A' c' h.2 hr) (fun mv W h _=>by rw[h.1];exact(yD W 0 0).mono (fun e W' h=>⟨⟨_,h.1⟩,by rw[h.2];exact Below.refl _ _⟩))).mono (fun e w' hs=>fT.same h0 hs)
 ·have hf:=hs.few;rw[hs.val];by_cases hn:on<1∨1024<on∨on<(G.N.length:Int)
  ·refine(oW w (.pointer (some ⟨p,0,none⟩)) true v.A G.N.length v.c v.B E.length v.d dO oa ob on x GA gn gc GB gm gd hd 5 0 [] (fun mv W=>mv=none∧iN W) (fun W hb _=>(IL W F p G (hs.below hb).gr hs.ok x.lb on hn).mono (fun e W' h=>⟨none,h.1,h.2,rfl,hTB W W' (hTW W hb) h.2⟩))
    (fun W _=>(IV W v.A G.N.length v.c _ x.lb on hn).mono (fun e W' h=>⟨none,0,h.1,fun j u hj=>by simp[aY] at hj,h.2⟩)) (fun mv W W' h hb=>⟨h.1,hTB W W' h.2 hb⟩) (fun mv W A' c' _ h hr=>by rw[h.1];exact hnone W A' c' h.2 hr) (fun mv W h _=>by rw[h.1];exact(yD W 0 0).mono (fun e W' h=>⟨⟨_,h.1⟩,by rw[h.2];exact Below.refl _ _⟩))).mono (fun e w' hss=>?_)
   rw[← hs.val] at hss;exact fT.same h0 hss
  ·obtain⟨sd,rfl⟩:∃k:Nat,on=(k:Int):=⟨on.toNat,by omega⟩;refine(oW w (.pointer (some ⟨p,0,none⟩)) true v.A G.N.length v.c v.B E.length v.d dO oa ob (sd:Int) x GA gn gc GB gm gd hd 0 (sd:Int) (aR iD (rX G.N E x.lb)) (fun mv W=>∃q b F',mv=some ⟨q,0,none⟩∧QuS W F' q sd b∧(∀k,F' k→w.heap.size+3≤k)∧IE G x.lb b∧iN W) (fun W hb hz=>(CO W F p G (hs.below hb).gr hs.ok x.lb sd (by omega) (by omega) (by omega)).mono ?_)
    (fun W hb=>(IW W v.A v.c v.B v.d G.N E (hs.below hb).for hs.ok.nd (fun y hy=>hs.ok.ends y ((hs.rg.mem y).1 hy)) x.lb (sd:Int) (by omega) (by omega) (by omega) (by omega) (by omega)).mono ?_) ?_ ?_ ?_).mono (fun e w' hss=>?_)
   ·rintro e W' ⟨q,b,rfl,⟨F',hq,hF'⟩,hb',hm⟩;exact⟨_,rfl,hb',q,b,F',rfl,hq,fun k hk=>Nat.le_trans hz (hF' k hk),hm,hTB W W' (hTW W hb) hb'⟩
   ·rintro e W' ⟨A',c',rfl,own,hb'⟩;exact⟨A',c',rfl,aV.of_own own,hb'⟩
   ·rintro mv W W' ⟨q,b,F',rfl,hq,h1,h2,h3⟩ hb;exact⟨q,b,F',rfl,hq.below hb,h1,h2,hTB W W' h3 hb⟩
   ·rintro mv W A' c' hbw ⟨q,b,F',rfl,hq,h1,h2,h3⟩ hr;have hwd:=hq.wd;have hcs:=IQ hs.rg hs.ok hwd h2;rw[hcs] at hr ⊢;have hcell:∀W',Below W.heap.size W W'→W'.cell? ⟨q,0,none⟩=some (.int .i64 (sd:Int))∧W'.cell? ⟨q,2,none⟩=some (.int .i64 ((qcL b).length:Int)):=fun W' hb=>by
     obtain⟨O,dep,cnt,m,last,LL,pv,lv,hi,ok2,-⟩:=hq.below hb;have hc:=xN ok2;rw[DS,← hc];exact⟨hi.blk.cell 0,hi.blk.cell 2⟩
    exact uU W (some ⟨q,0,none⟩) (sd:Int) b hwd h3 (.inr ⟨by simp,by omega⟩) A' c' hr (fun W' hb=>CC W' q sd (by omega) (hcell W' hb).1) (fun W' hb=>GU W' q sd _ (by omega) (hcell W' hb).1 (hcell W' hb).2) (fun W' hb=>zK W' F' q sd b (hq.below hb))
   ·rintro mv W ⟨q,b,F',rfl,hq,h1,h2,h3⟩ hz;refine(xP W F' q sd b hq 0 0 (by omega) (by omega) (by omega) (by omega)).mono ?_;rintro e W' ⟨rfl,F2,-,hu,-⟩;exact⟨⟨_,rfl⟩,hu.below (fun k _ hk=>h1 k hk) hz⟩
   ·rw[← hs.val] at hss;exact fT.same h0 hss
end
open Go.RowKit
theorem KB{N:List Txt}{E:List Ed}(h:bP N E=0):GOk ⟨N,E⟩:=by
 have hf:=nG (eI h).1;exact⟨hf.1.nodup dW,hf.2.1.nodup jR,hf.2.2,(LM h (fun _=>Iff.rfl) (fun _=>Iff.rfl)).1⟩
structure OpC where
 dO:Int
 oa:Int
 ob:Int
 on:Int
 x:Ed
 GA:Option Addr
 gc:Nat
 GB:Option Addr
 gd:Nat
 N:List Txt
 E:List Ed
def OpC.cells(o:OpC):List Value:=[.int .i64 o.dO,.int .i64 o.oa,.int .i64 o.ob,.int .i64 o.on,.string o.x.fr,.string o.x.lb,.string o.x.to,.slice o.GA o.N.length o.gc,.slice o.GB o.E.length o.gd]
def mF(S:List OpC):List Value:=S.flatMap OpC.cells
structure zR(W:World)(o:OpC):Prop where
 fg:dX W o.GA o.gc o.GB o.gd o.N o.E
 ex:pE o.x
theorem aV.op{w:World}{A:Option Addr}{S:List OpC}(h:aV w A (mF S)){k:Nat}{o:OpC}(hk:S[k]?=some o) :
  ∃b t,A=some ⟨b,t,none⟩∧w.cell? ⟨b,t+k*9,none⟩=some (.int .i64 o.dO)∧w.cell? ⟨b,t+k*9+1,none⟩=some (.int .i64 o.oa)∧w.cell? ⟨b,t+k*9+2,none⟩=some (.int .i64 o.ob)∧w.cell? ⟨b,t+k*9+3,none⟩=some (.int .i64 o.on) ∧
   w.cell? ⟨b,t+k*9+4,none⟩=some (.string o.x.fr)∧w.cell? ⟨b,t+k*9+5,none⟩=some (.string o.x.lb)∧w.cell? ⟨b,t+k*9+6,none⟩=some (.string o.x.to)∧w.cell? ⟨b,t+k*9+7,none⟩=some (.slice o.GA o.N.length o.gc)∧w.cell? ⟨b,t+k*9+8,none⟩=some (.slice o.GB o.E.length o.gd):=by
 have hg:=fun j (hj:j<9)=>dR OpC.cells 9 (fun _=>rfl) S k j o hk hj
 obtain⟨b,t,rfl,h0⟩:=h _ _ (hg 0 (by omega));have nx:∀(j:Nat) (hj:j<9),w.cell? ⟨b,t+(k*9+j),none⟩=some (o.cells[j]'hj):=fun j hj=>by
  obtain⟨b1,o1,e1,h1⟩:=h _ _ ((hg j hj).trans (gEz (l:=o.cells) hj));injection e1 with e1;injection e1 with e1 e2;subst e1;subst e2;exact h1
 exact⟨b,t,rfl,h0,nx 1 (by omega),nx 2 (by omega),nx 3 (by omega),nx 4 (by omega),nx 5 (by omega),nx 6 (by omega),nx 7 (by omega),nx 8 (by omega)⟩
theorem yI(a:Int):∃k:Nat,k<2∧bits .and .i64 a 1=(k:Int):=by
 refine⟨(BitVec.ofInt 64 a &&& BitVec.ofInt 64 1).toNat,?_,?_⟩
 ·rw[BitVec.toNat_and];have:(BitVec.ofInt 64 1).toNat=1:=by decide
  rw[this];exact Nat.lt_of_le_of_lt Nat.and_le_right (by decide)
 ·show IntKind.i64.wrap ((BitVec.ofInt 64 a &&& BitVec.ofInt 64 1).toNat:Int)=_
  have h2:(BitVec.ofInt 64 a &&& BitVec.ofInt 64 1).toNat<2:=by
   rw[BitVec.toNat_and];have:(BitVec.ofInt 64 1).toNat=1:=by decide
   rw[this];exact Nat.lt_of_le_of_lt Nat.and_le_right (by decide)
  exact IntWalk.i64_in _ (by omega)
def upI{α:Type}(f:Nat→α)(a:Nat)(x:α)(i:Nat):α:=if i=a then x else f i
theorem gB{α:Type}(f:Nat→α)(a:Nat)(x:α):upI f a x a=x:=if_pos rfl
theorem fU{α:Type}(f:Nat→α){a i:Nat}(x:α)(h:i≠a):upI f a x i=f i:=if_neg h
def CG(W:World)(g:Nat)(q:Nat→Option Addr):Prop:=∃cs,Blk W g 25 cs∧cs.size=2∧∀i,i<2→cs[i]?=some (.pointer (q i))
def CW(W:World)(g:Nat)(v:Nat→RgC):Prop:=∃cs,Blk W g 30 cs∧cs.size=6∧∀i,i<2→cs[i*3]?=some (.bool (v i).b)∧cs[i*3+1]?=some (.slice (v i).A (v i).n (v i).c)∧cs[i*3+2]?=some (.slice (v i).B (v i).m (v i).d)
theorem CG.upd{W W':World}{g:Nat}{q:Nat→Option Addr}{P:Nat→Prop}(h:CG W g q)(hu:Upd P W W')(hP:¬P g):CG W' g q:=by
 obtain⟨cs,k,h1,h2⟩:=h;exact⟨cs,k.upd hu hP,h1,h2⟩
theorem CW.upd{W W':World}{g:Nat}{v:Nat→RgC}{P:Nat→Prop}(h:CW W g v)(hu:Upd P W W')(hP:¬P g):CW W' g v:=by
 obtain⟨cs,k,h1,h2⟩:=h;exact⟨cs,k.upd hu hP,h1,h2⟩
theorem CG.get{W:World}{g:Nat}{q:Nat→Option Addr}(h:CG W g q){i:Nat}(hi:i<2):W.cell? ⟨g,i,none⟩=some (.pointer (q i))∧W.frozen? ⟨g,i,none⟩=false:=by
 obtain⟨cs,k,h1,h2⟩:=h;exact⟨(k.cell i).trans (h2 i hi),k.frozen i⟩
theorem CW.get{W:World}{g:Nat}{v:Nat→RgC}(h:CW W g v){i:Nat}(hi:i<2):W.cell? ⟨g,i*3,none⟩=some (.bool (v i).b)∧W.cell? ⟨g,i*3+1,none⟩=some (.slice (v i).A (v i).n (v i).c)∧W.cell? ⟨g,i*3+2,none⟩=some (.slice (v i).B (v i).m (v i).d)∧W.frozen? ⟨g,i*3,none⟩=false∧W.frozen? ⟨g,i*3+1,none⟩=false∧W.frozen? ⟨g,i*3+2,none⟩=false:=by
 obtain⟨cs,k,h1,h2⟩:=h;obtain⟨a,b,c⟩:=h2 i hi;exact⟨(k.cell _).trans a,(k.cell _).trans b,(k.cell _).trans c,k.frozen _,k.frozen _,k.frozen _⟩
theorem CG.set{W:World}{g:Nat}{q:Nat→Option Addr}(h:CG W g q){a:Nat}(ha:a<2)(p:Option Addr):CG (W.setCell ⟨g,a,none⟩ (.pointer p)) g (upI q a p):=by
 obtain⟨cs,k,h1,h2⟩:=h;refine⟨_,k.set a _,by simp[h1],fun i hi=>?_⟩;by_cases e:i=a
 ·subst e;rw[gB,Array.getElem?_setIfInBounds_self_of_lt (by omega)]
 ·rw[fU _ _ e,Array.getElem?_setIfInBounds_ne (by omega)];exact h2 i hi
theorem CW.set{W:World}{g:Nat}{v:Nat→RgC}(h:CW W g v){a:Nat}(ha:a<2)(u:RgC):CW (((W.setCell ⟨g,a*3,none⟩ (.bool u.b)).setCell ⟨g,a*3+1,none⟩ (.slice u.A u.n u.c)).setCell ⟨g,a*3+2,none⟩ (.slice u.B u.m u.d)) g (upI v a u):=by
 obtain⟨cs,k,h1,h2⟩:=h;refine⟨_,((k.set (a*3) _).set (a*3+1) _).set (a*3+2) _,by simp[h1],fun i hi=>?_⟩;by_cases e:i=a
 ·subst e;rw[gB];refine⟨?_,?_,?_⟩
  ·rw[Array.getElem?_setIfInBounds_ne (by omega),Array.getElem?_setIfInBounds_ne (by omega),Array.getElem?_setIfInBounds_self_of_lt (by omega)]
  ·rw[Array.getElem?_setIfInBounds_ne (by omega),Array.getElem?_setIfInBounds_self_of_lt (by simp;omega)]
  ·rw[Array.getElem?_setIfInBounds_self_of_lt (by simp;omega)]
 ·rw[fU _ _ e];obtain⟨x,y,z⟩:=h2 i hi;refine⟨?_,?_,?_⟩
  ·rw[Array.getElem?_setIfInBounds_ne (by omega),Array.getElem?_setIfInBounds_ne (by omega),Array.getElem?_setIfInBounds_ne (by omega)];exact x
  ·rw[Array.getElem?_setIfInBounds_ne (by omega),Array.getElem?_setIfInBounds_ne (by omega),Array.getElem?_setIfInBounds_ne (by omega)];exact y
  ·rw[Array.getElem?_setIfInBounds_ne (by omega),Array.getElem?_setIfInBounds_ne (by omega),Array.getElem?_setIfInBounds_ne (by omega)];exact z
def two(w:World)(k:Nat):Prop:=k=w.heap.size∨k=w.heap.size+1
structure GPS(w W:World)(q:Nat→Option Addr)(v:Nat→RgC)(F:Nat→Nat→Prop):Prop where
 bw:Below w.heap.size w W
 z:w.heap.size+2≤W.heap.size
 sl:∀i,i<2→jS W (F i) (q i) (v i)
 lo:∀i,i<2→∀k,F i k→w.heap.size+2≤k
 ap:∀i j,i<2→j<2→i≠j→∀k,F i k→¬F j k
 aw:∀i j,i<2→j<2→sC (v i) (F j)
 ro:∀i,i<2→sC (v i) (two w)
theorem GPS.upd{w W W':World}{q:Nat→Option Addr}{v:Nat→RgC}{F:Nat→Nat→Prop}{P:Nat→Prop}(h:GPS w W q v F)(hu:Upd P W W')(hb:Below w.heap.size W W')(hP:∀i,i<2→∀k,F i k→¬P k)(ha:∀i,i<2→sC (v i) P):GPS w W' q v F:=
 ⟨h.bw.trans hb,Nat.le_trans h.z hu.size,fun i hi=>(h.sl i hi).upd hu (hP i hi) (ha i hi),h.lo,h.ap,h.aw,h.ro⟩
theorem GPS.put{w W W':World}{q:Nat→Option Addr}{v:Nat→RgC}{F:Nat→Nat→Prop}{P:Nat→Prop}(h:GPS w W q v F){a:Nat}(ha:a<2)(hu:Upd P W W')(hP:∀k,P k→F a k){q':Option Addr}{v':RgC}{F':Nat→Prop}(hs:jS W' F' q' v')(hF:∀k,F' k→F a k∨W.heap.size≤k)
  (h1:∀j,j<2→j≠a→sC v' (F j)) (h2:sC v' (two w)):GPS w W' (upI q a q') (upI v a v') (upI F a F'):=by
 have hb:Below w.heap.size W W':=hu.below (fun k _ hk=>by have:=h.lo a ha k (hP k hk);omega) (by have:=h.z;omega);have hlo:∀k,F' k→w.heap.size+2≤k:=fun k hk=>by
  rcases hF k hk with hk|hk
  ·exact h.lo a ha k hk
  ·have:=h.z;omega
 refine⟨h.bw.trans hb,Nat.le_trans h.z hu.size,fun i hi=>?_,fun i hi=>?_,fun i j hi hj hij=>?_,fun i j hi hj=>?_,fun i hi=>?_⟩
 ·by_cases e:i=a
  ·subst e;rw[gB,gB,gB];exact hs
  ·rw[fU _ _ e,fU _ _ e,fU _ _ e];exact(h.sl i hi).upd hu (fun k hk hp=>h.ap i a hi ha e k hk (hP k hp)) ((h.aw i a hi ha).mono hP)
 ·by_cases e:i=a
  ·subst e;rw[gB];exact hlo
  ·rw[fU _ _ e];exact h.lo i hi
 ·by_cases e:i=a
  ·subst e;rw[gB,fU _ _ (fun e=>hij e.symm)];intro k hk hj';rcases hF k hk with hk|hk
   ·exact h.ap i j hi hj hij k hk hj'
   ·have:=(h.sl j hj).lt k hj';omega
  ·rw[fU _ _ e];by_cases e2:j=a
   ·subst e2;rw[gB];intro k hk hj';rcases hF k hj' with hk' | hk'
    ·exact h.ap i j hi hj hij k hk hk'
    ·have:=(h.sl i hi).lt k hk;omega
   ·rw[fU _ _ e2];exact h.ap i j hi hj hij
 ·by_cases e:i=a
  ·subst e;rw[gB];by_cases e2:j=i
   ·subst e2;rw[gB];exact hs.aw
   ·rw[fU _ _ e2];exact h1 j hj e2
  ·rw[fU _ _ e];by_cases e2:j=a
   ·subst e2;rw[gB];have hi2:=(h.sl i hi).inw;refine⟨fun b o s e hk=>?_,fun b o s e hk=>?_⟩
    ·rcases hF b hk with hk|hk
     ·exact(h.aw i j hi hj).1 b o s e hk
     ·have:=hi2.1 b o s e;omega
    ·rcases hF b hk with hk|hk
     ·exact(h.aw i j hi hj).2 b o s e hk
     ·have:=hi2.2 b o s e;omega
   ·rw[fU _ _ e2];exact h.aw i j hi hj
 ·by_cases e:i=a
  ·subst e;rw[gB];exact h2
  ·rw[fU _ _ e];exact h.ro i hi
def GPI(w W:World):Prop:=∃q v F,GPS w W q v F∧CG W w.heap.size q∧CW W (w.heap.size+1) v
theorem GPI.of{w W:World}{q:Nat→Option Addr}{v:Nat→RgC}{F:Nat→Nat→Prop}{q0:Nat→Option Addr}{v0:Nat→RgC}{a:Nat}(ha:a<2)(h:GPS w W (upI q0 a (q a)) (upI v0 a (v a)) F)(hg:CG W w.heap.size q0)(hw:CW W (w.heap.size+1) v0) :
  GPI w ((((W.setCell ⟨w.heap.size,a,none⟩ (.pointer (q a))).setCell ⟨w.heap.size+1,a*3,none⟩ (.bool (v a).b)).setCell ⟨w.heap.size+1,a*3+1,none⟩ (.slice (v a).A (v a).n (v a).c)).setCell ⟨w.heap.size+1,a*3+2,none⟩ (.slice (v a).B (v a).m (v a).d)):=by
 have u1:Upd (two w) W (W.setCell ⟨w.heap.size,a,none⟩ (.pointer (q a))):=(Upd.refl (two w) W).setCell (p:=⟨w.heap.size,a,none⟩) (.inl (.inl rfl)) _;have u2:Upd (fun k=>k=w.heap.size+1) (W.setCell ⟨w.heap.size,a,none⟩ (.pointer (q a))) ((((W.setCell ⟨w.heap.size,a,none⟩ (.pointer (q a))).setCell ⟨w.heap.size+1,a*3,none⟩ (.bool (v a).b)).setCell ⟨w.heap.size+1,a*3+1,none⟩ (.slice (v a).A (v a).n (v a).c)).setCell ⟨w.heap.size+1,a*3+2,none⟩ (.slice (v a).B (v a).m (v a).d)):=
  (((Upd.refl (fun k=>k=w.heap.size+1) _).setCell (p:=⟨w.heap.size+1,a*3,none⟩) (.inl rfl) _).setCell (p:=⟨w.heap.size+1,a*3+1,none⟩) (.inl rfl) _).setCell (p:=⟨w.heap.size+1,a*3+2,none⟩) (.inl rfl) _
 have u:Upd (two w) W _:=u1.trans (u2.mono (fun k _ e=>.inr e)) (fun i h=>.inl h);refine⟨_,_,F,h.upd u (u.below (fun k _ hk=>by rcases hk with e | e <;> omega) (by have:=h.z;omega)) (fun i hi k hk e=>by have:=h.lo i hi k hk;rcases e with e | e <;> omega) h.ro,?_,?_⟩
 ·exact(hg.set ha (q a)).upd u2 (by omega)
 ·exact(hw.upd ((Upd.refl (fun k=>k=w.heap.size) W).setCell (p:=⟨w.heap.size,a,none⟩) (.inl rfl) _) (by omega)).set ha (v a)
theorem GPI.of2{w W:World}{q:Nat→Option Addr}{F:Nat→Nat→Prop}{v0:Nat→RgC}{u:RgC}{a:Nat}(ha:a<2)(h:GPS w W q (upI v0 a u) F)(hg:CG W w.heap.size q)(hw:CW W (w.heap.size+1) v0) :
  GPI w (((W.setCell ⟨w.heap.size+1,a*3,none⟩ (.bool u.b)).setCell ⟨w.heap.size+1,a*3+1,none⟩ (.slice u.A u.n u.c)).setCell ⟨w.heap.size+1,a*3+2,none⟩ (.slice u.B u.m u.d)):=by
 have u2:Upd (fun k=>k=w.heap.size+1) W (((W.setCell ⟨w.heap.size+1,a*3,none⟩ (.bool u.b)).setCell ⟨w.heap.size+1,a*3+1,none⟩ (.slice u.A u.n u.c)).setCell ⟨w.heap.size+1,a*3+2,none⟩ (.slice u.B u.m u.d)):=
  (((Upd.refl (fun k=>k=w.heap.size+1) _).setCell (p:=⟨w.heap.size+1,a*3,none⟩) (.inl rfl) _).setCell (p:=⟨w.heap.size+1,a*3+1,none⟩) (.inl rfl) _).setCell (p:=⟨w.heap.size+1,a*3+2,none⟩) (.inl rfl) _
 have hu:Upd (two w) W _:=u2.mono (fun k _ e=>.inr e);refine⟨_,_,F,h.upd hu (hu.below (fun k _ hk=>by rcases hk with e | e <;> omega) (by have:=h.z;omega)) (fun i hi k hk e=>by have:=h.lo i hi k hk;rcases e with e | e <;> omega) h.ro,?_,?_⟩
 ·exact hg.upd u2 (by omega)
 ·exact hw.set ha u
theorem yJ{α:Type}(f:Nat→α)(a:Nat):upI f a (f a)=f:=by
 funext i
 unfold upI;split
 ·rename_i h;rw[h]
 ·rfl
theorem GPS.start{w W:World}(hb:Below w.heap.size w W)(hz:w.heap.size+2≤W.heap.size):GPS w W (fun _=>none) (fun _=>zC) (fun _ _=>False):=
 ⟨hb,hz,fun _ _=>.inl ⟨rfl,rfl,fun _=>id⟩,fun _ _ _ h=>h.elim,fun _ _ _ _ _ _ h=>h.elim,fun _ _ _ _=>⟨fun b o s e=>(by cases e),fun b o s e=>(by cases e)⟩,fun _ _=>⟨fun b o s e=>(by cases e),fun b o s e=>(by cases e)⟩⟩
theorem GPS.tab{w W:World}{q:Nat→Option Addr}{v:Nat→RgC}{F:Nat→Nat→Prop}(h:GPS w W q v F)(hT:iN w):iN W:=hT.upd (Upd.of_below h.bw (fun _=>False)) hT.lt id
open Go.RowKit
theorem PV{L:List Hp}(h:GL grW 0 L):L=[⟨tX,1⟩]:=by
 have hm:∀y,y∈L↔y∈([⟨tX,1⟩]:List Hp):=fun y=>by
  rw[h.mem];have hi:(cS grW.N tA:Int)=1:=by decide +kernel
  constructor
  ·rintro⟨x,hx,-,rfl⟩;simp only[grW,List.mem_singleton] at hx
   subst hx;show(⟨tX,(cS grW.N tA:Int)⟩:Hp)∈_
   rw[hi];simp
  ·intro hy;rw[List.mem_singleton] at hy;subst hy;exact⟨edW,by simp[grW],rfl,by show _=(⟨tX,(cS grW.N tA:Int)⟩:Hp);rw[hi]⟩
 exact(eX.is yT ⟨h.up,fun y=>Iff.rfl⟩).trans ((eX.is yT ⟨(by unfold cL;simp:cL ltH [(⟨tX,1⟩:Hp)]),fun y=>(hm y).symm⟩).symm)
theorem mH(w:World):Calls Tryz.prog 9 #[] w (Sam w (.bool true)):=by
 have kW:pE edW:=by unfold pE cT;decide
 have okW:GOk grW:=by have:=GOk.new.edge edW;rw[NW] at this;exact this
 go_enter Tryz.func9,Tryz.ntmps9;go_wp2_with fail;refine(BK w).mono ?_;rintro e W1 ⟨p,rfl,⟨F1,g1,n1⟩,b1⟩;have hc:=lW W1 F1 p ⟨[],[]⟩ g1 GOk.new edW kW;rw[NW] at hc;have HB1:=hIz b1;have HF1:=hIz n1;clear b1 n1 g1;unfold edW tB tX tA at hc;dsimp only at hc
 go_wp2_with fail;refine hc.mono ?_;clear hc;rintro e W2 ⟨rfl,F2,g2,u2,n2⟩;have hb2:=fB.step HF1.out HB1.out.size ⟨F2,g2,u2,n2⟩;obtain⟨⟨F3,g3,n3⟩,b3⟩:=hb2;have HB2:=hIz (HB1.out.trans b3);have HF2:=hIz n3;clear g2 u2 n2 b3 n3;have hc:=lW W2 F3 p grW g3 okW edW kW;rw[PK] at hc;clear g3;unfold edW tB tX tA at hc;dsimp only at hc
 go_wp2_with fail;refine hc.mono ?_;clear hc;rintro e W3 ⟨rfl,F4,g4,u4,n4⟩;obtain⟨⟨F5,g5,n5⟩,b5⟩:=fB.step HF2.out HB2.out.size ⟨F4,g4,u4,n4⟩;have HB3:=hIz (HB2.out.trans b5);have HF3:=hIz n5;clear g4 u4 n4 b5 n5;have hc:=BL W3 F5 p grW g5 okW tA (by unfold cT;decide);have hni:MZ grW.N tA=.tuple #[.int .i64 1,.int .i64 0]:=by
  unfold MZ;have h1:inB tA grW.N=true:=by decide +kernel
  have h2:(cS grW.N tA:Int)=1:=by decide +kernel
  rw[h1,h2];rfl
 rw[hni] at hc;unfold tA at hc;go_wp2_with fail;refine hc.mono ?_;clear hc;rintro e w' ⟨rfl,hw⟩;subst w';have hc:=qA W3 F5 p grW g5 okW ⟨#[]⟩ (by unfold cT;decide);rw[QI] at hc;clear g5;go_wp2_with fail;refine hc.mono ?_;clear hc;rintro e W4 ⟨rfl,F6,g6,u6,n6⟩;obtain⟨⟨F7,g7,n7⟩,b7⟩:=fB.step HF3.out HB3.out.size ⟨F6,g6,u6,n6⟩;have HB4:=hIz (HB3.out.trans b7);clear g6 u6 n6 b7 n7;have hc:=JV W4 F7 p grW g7 okW 0 (by decide);have HG7:=hIz g7;clear g7;go_wp2_with fail;refine hc.mono ?_;clear hc;rintro e W5 ⟨v,L,hL,rfl,o,b⟩;obtain rfl:=PV hL;have HB5:=hIz (tHn HB4.out b);obtain⟨g,c,rfl,-,-,-,-,hc⟩:=bC o (by decide);have y0:W5.cell? ⟨g,0,none⟩=some (.string tX):=(hc 0 _ rfl).1;have y1:W5.cell? ⟨g,1,none⟩=some (.int .i64 1):=(hc 1 _ rfl).1;have g8:=HG7.out.below b;have h1:=tJ W5 F7 p grW g8 okW edW kW.1 kW.2.2;rw[decide_eq_true (by simp[grW])] at h1;have HG8:=hIz g8;clear g8 hc o b hL;unfold edW tB tX tA at h1;dsimp only at h1
 unfold tX at y0;go_wp2_with fail;refine h1.mono ?_;clear h1 y0 y1;rintro e W6 ⟨rfl,b6⟩;have HB6:=hIz (tHn HB5.out b6);have h2:=tJ W6 F7 p grW (HG8.out.below b6) okW ⟨tA,tX,tB⟩ (by unfold cT;decide) (by unfold cT;decide);have hno:decide ((⟨tA,tX,tB⟩:Ed)∈grW.X)=false:=by decide +kernel
 rw[hno] at h2;clear b6 HG8 hno;unfold tB tX tA at h2;dsimp only at h2
 go_wp2_with fail;refine h2.mono ?_;clear h2;rintro e W7 ⟨rfl,b7⟩;have HB7:=hIz (tHn HB6.out b7);clear b7;go_wp2;go_ret;exact⟨rfl,HB7.out⟩
open Go.RowKit Go.Shelf
def OQ(w:World)(N:List Txt)(E:List Ed)(e:Ending)(w':World):Prop:=
 Below w.heap.size w w'∧((bP N E≠0∧e=.returned (.tuple #[.agg #[.bool false,.slice none 0 0,.slice none 0 0],.int .i64 (bP N E)]))∨(bP N E=0∧∃A c B d,e=.returned (.tuple #[.agg #[.bool true,.slice A N.length c,.slice B E.length d],.int .i64 0])∧aV w' A (aC N)∧aV w' B (aH E)∧N.length≤c∧E.length≤d∧(∀b o s,A=some ⟨b,o,s⟩→w.heap.size≤b∧b<w'.heap.size)∧(∀b o s,B=some ⟨b,o,s⟩→w.heap.size≤b∧b<w'.heap.size)))
theorem qL(w:World)(A:Option Addr)(c:Nat)(B:Option Addr)(d:Nat)(N:List Txt)(E:List Ed)(h:dX w A c B d N E) :
  Calls Tryz.prog 13 #[bQ A N.length c B E.length d] w (OQ w N E):=by
 have b0:Below w.heap.size w ((w.alloc (.cells #[.slice A N.length c,.slice B E.length d] 34)).alloc (.cells #[.bool false,.slice none 0 0,.slice none 0 0] 29)):=by(repeat (first | exact Below.refl _ _ | apply Below.drew | refine Below.alloc ?_ (by first | exact Nat.le_refl _ | (simp;done) | (simp;omega)) _ | refine Below.setCell ?_ (by first | exact Nat.le_refl _ | (simp;done) | (simp;omega)) _))
 have k1:=(Blk.new w 34 #[.slice A N.length c,.slice B E.length d]).alloc (.cells #[.bool false,.slice none 0 0,.slice none 0 0] 29);have k2:=Blk.new (w.alloc (.cells #[.slice A N.length c,.slice B E.length d] 34)) 29 #[.bool false,.slice none 0 0,.slice none 0 0];simp only[World.size_alloc] at k2
 have hcon:=mO _ A c B d N E (h.below b0);have hfn:=h.fit.n;have hfe:=h.fit.e;unfold bQ at hcon ⊢;obtain⟨n,hn⟩:∃n,N.length=n:=⟨_,rfl⟩;obtain⟨m,hm⟩:∃m,E.length=m:=⟨_,rfl⟩;obtain⟨ci,hci⟩:∃ci,bP N E=ci:=⟨_,rfl⟩;rw[hn,hm] at b0 k1 k2 hcon ⊢;rw[hn] at hfn;rw[hm] at hfe;rw[hci] at hcon;have H:=aI4 b0 k1 k2 h;have HL:=aI3 hn hm hci;clear b0 k1 k2 h hn hm hci;go_enter Tryz.func13,Tryz.ntmps13;go_upto_region 1 with (fail);generalize (w.alloc (.cells #[.slice A n c,.slice B m d] 34)).alloc (.cells #[.bool false,.slice none 0 0,.slice none 0 0] 29)=W0 at H hcon ⊢;have q0:W0.cell? ⟨w.heap.size,0,none⟩=some (.slice A n c):=H.out.2.1.cell 0;have q1:W0.cell? ⟨w.heap.size,1,none⟩=some (.slice B m d):=H.out.2.1.cell 1;go_wp2_with fail;refine hcon.mono ?_;clear hcon q0 q1;rintro e W1 ⟨rfl,b1⟩;have hu1:=Upd.of_below b1 (fun _=>False);have K1:=H.out.2.1.upd hu1 id;have K2:=H.out.2.2.1.upd hu1 id;have B1:=tHn H.out.1 b1;have ff:=H.out.2.2.2.below B1;have H1:=aI4 B1 K1 K2 ff;have q0:W1.cell? ⟨w.heap.size,0,none⟩=some (.slice A n c):=K1.cell 0;have q1:W1.cell? ⟨w.heap.size,1,none⟩=some (.slice B m d):=K1.cell 1;have s0:W1.cell? ⟨w.heap.size+1,0,none⟩=some (.bool false):=K2.cell 0;have s1:W1.cell? ⟨w.heap.size+1,1,none⟩=some (.slice none 0 0):=K2.cell 1;have s2:W1.cell? ⟨w.heap.size+1,2,none⟩=some (.slice none 0 0):=K2.cell 2;have g0:=K2.frozen 0;have g1:=K2.frozen 1;have g2:=K2.frozen 2;clear H hu1 b1 K1 K2 B1 ff;by_cases h0:ci=0
 ·subst h0;clear s0 s1 s2 g0 g1 g2;have hS:(fun V:World=>V.cell? ⟨w.heap.size,0,none⟩=some (.slice A n c)∧V.cell? ⟨w.heap.size,1,none⟩=some (.slice B m d)) W1.drew:=⟨q0,q1⟩;have US:=hIz (show ∀V,Below W1.heap.size W1 V→(fun V:World=>V.cell? ⟨w.heap.size,0,none⟩=some (.slice A n c)∧V.cell? ⟨w.heap.size,1,none⟩=some (.slice B m d)) V from fun V hb=>by
   have hk:=H1.out.2.1.upd (upF hb) id;exact⟨hk.cell 0,hk.cell 1⟩)
  have HB:=hIz (show Below W1.heap.size W1 W1.drew from bR.drew);go_upto_region 4 with (fail);refine gC (fun V=>V.cell? ⟨w.heap.size,0,none⟩=some (.slice A n c)∧V.cell? ⟨w.heap.size,1,none⟩=some (.slice B m d)) (by kernel_rfl) (by kernel_rfl) hS ?_;refine oI (fun hd=>?_);clear q0 q1;refine aD 1 rfl hd hS ?_;clear hd;intro hd;refine aD 2 rfl hd hS ?_;clear hd;intro hd;refine aD 5 rfl hd hS ?_;clear hd;intro hd;refine aD 6 rfl hd hS ?_;clear hd;intro hd;clear hS;generalize W1.drew=V0 at HB ⊢;refine cP hd 0 4 ?_ ?_<;>(clear hd;intro hd)
  ·refine aL rfl rfl (fun K hK=>?_);go_simp;have bz:Below V0.heap.size V0 (V0.alloc (.cells #[] 9)):=bR.alloc (Nat.le_refl _) _;have oz:(V0.alloc (.cells #[] 9)).ownsRow V0.heap.size 9 1 (.slice (some ⟨V0.heap.size,0,none⟩) 0 0) 0 []:=dG V0 _ 1;have z0:=hIz (show(V0.alloc (.cells #[] 9)).ownsRow W1.heap.size 9 1 (.slice (some ⟨V0.heap.size,0,none⟩) 0 0) 0 [] from aJ oz (fun k hk=>Nat.le_trans HB.out.size (oz.lt k hk).1));clear oz;have HB:=hIz (tHn HB.out bz);clear bz;refine hK _ _ (US.out _ HB.out) ?_;clear hK K;(try simp only[Act.put,gA,gS,gZ,sA,sZ,sS])
   obtain⟨V1,hV1⟩:∃V,V=V0.alloc (.cells #[] 9):=⟨_,rfl⟩;rw[← hV1] at HB z0 ⊢;clear hV1;refine cP hd 3 4 ?_ ?_<;>(clear hd;intro hd)
   ·refine aL rfl rfl (fun K hK=>?_);obtain⟨A3,c3,V2,happ,r3,up,pl⟩:=bB V1 W1.heap.size 26 9 1 16 _ Tryz.underlying26 bJ rfl (by decide) (by decide) (some ⟨V0.heap.size,0,none⟩) 0 0 [] z0.out A n c (aC N) ((H1.out.2.2.2.below HB.out).rn) (by rw[cC N,HL.out.1]) (gT N) (by omega) HB.out.size;rw[Nat.zero_add] at happ r3 pl;rw[List.nil_append] at r3;have r3:=hIz r3;have HB:=hIz (HB.out.trans (up.below (fun q _ hq=>(z0.out.lt q hq).1) HB.out.size));clear up pl;refine fA _ _ _ rfl rfl rfl happ ?_;refine hK _ _ (US.out _ HB.out) ?_;clear hK K happ;(try simp only[Act.put,gA,gS,gZ,sA,sZ,sS])
    refine aM hd 4 ?_;clear hd;intro hd;refine aL rfl rfl (fun K hK=>?_);go_simp;have bz:Below V2.heap.size V2 (V2.alloc (.cells #[] 32)):=bR.alloc (Nat.le_refl _) _;have oz:(V2.alloc (.cells #[] 32)).ownsRow V2.heap.size 32 3 (.slice (some ⟨V2.heap.size,0,none⟩) 0 0) 0 []:=dG V2 _ 3;have z4:=hIz (show(V2.alloc (.cells #[] 32)).ownsRow W1.heap.size 32 3 (.slice (some ⟨V2.heap.size,0,none⟩) 0 0) 0 [] from aJ oz (fun k hk=>Nat.le_trans HB.out.size (oz.lt k hk).1));clear oz;have p3:=hIz (show ∀k,(Value.slice A3 n c3).ownBlock=some k→k≠V2.heap.size from fun k hk e=>by have:=(r3.out.lt k hk).2;omega);have r3:=hIz (aA r3.out (upF bz) (fun _ _=>id));have HB:=hIz (tHn HB.out bz);clear bz;refine hK _ _ (US.out _ HB.out) ?_;clear hK K;(try simp only[Act.put,gA,gS,gZ,sA,sZ,sS])
    obtain⟨V3,hV3⟩:∃V,V=V2.alloc (.cells #[] 32):=⟨_,rfl⟩;rw[← hV3] at HB z4 r3 ⊢;clear hV3;refine aM hd 7 ?_;clear hd;intro hd;refine aL rfl rfl (fun K hK=>?_);obtain⟨A7,c7,V4,happ,r7,up,pl⟩:=bB V3 W1.heap.size 27 32 3 48 _ Tryz.underlying27 dN rfl (by decide) (by decide) (some ⟨V2.heap.size,0,none⟩) 0 0 [] z4.out B m d (aH E) ((H1.out.2.2.2.below HB.out).re) (by rw[bK E,HL.out.2.1]) (mJ E) (by omega) HB.out.size;rw[Nat.zero_add] at happ r7 pl;rw[List.nil_append] at r7;have r7:=hIz r7;have r3:=hIz (aA r3.out up (fun k hk hF=>by
     have e2:V2.heap.size=k:=by simpa[Value.ownBlock] using hF
     exact p3.out k hk e2.symm))
    have HB:=hIz (HB.out.trans (up.below (fun q _ hq=>(z4.out.lt q hq).1) HB.out.size));clear up pl;refine fA _ _ _ rfl rfl rfl happ ?_;refine hK _ _ (US.out _ HB.out) ?_;clear hK K happ;(try simp only[Act.put,gA,gS,gZ,sA,sZ,sS])
    have l3:=eC r3.out;have l7:=eC r7.out;have K2:=H1.out.2.2.1.upd (upF HB.out) id;have hS:(fun V:World=>V.cell? ⟨w.heap.size,0,none⟩=some (.slice A n c)∧V.cell? ⟨w.heap.size,1,none⟩=some (.slice B m d)) V4:=US.out _ HB.out;have s0:V4.cell? ⟨w.heap.size+1,0,none⟩=some (.bool false):=K2.cell 0;have s1:V4.cell? ⟨w.heap.size+1,1,none⟩=some (.slice none 0 0):=K2.cell 1;have s2:V4.cell? ⟨w.heap.size+1,2,none⟩=some (.slice none 0 0):=K2.cell 2;have g0:=K2.frozen 0;have g1:=K2.frozen 1;have g2:=K2.frozen 2;have KF:=aW K2 (.bool true) (.slice A3 n c3) (.slice A7 m c7);have UF:=aX V4 (w.heap.size+1) (.bool true) (.slice A3 n c3) (.slice A7 m c7);have hS9:(fun V:World=>V.cell? ⟨w.heap.size,0,none⟩=some (.slice A n c)∧V.cell? ⟨w.heap.size,1,none⟩=some (.slice B m d)) ((((V4.setCell ⟨w.heap.size+1,0,none⟩ (.bool true)).setCell ⟨w.heap.size+1,1,none⟩ (.slice A3 n c3)).setCell ⟨w.heap.size+1,2,none⟩ (.slice A7 m c7))):=by
     have hk:=(H1.out.2.1.upd (upF HB.out) id).upd UF (fun e=>by omega);exact⟨hk.cell 0,hk.cell 1⟩
    have y0:=KF.cell 0;have y1:=KF.cell 1;have y2:=KF.cell 2;simp only[List.getElem?_toArray,List.getElem?_cons_succ,List.getElem?_cons_zero] at y0 y1 y2
    have FIN:=hIz (show OQ w N E (.returned (.tuple #[.agg #[.bool true,.slice A3 n c3,.slice A7 m c7],.int .i64 0])) ((((V4.setCell ⟨w.heap.size+1,0,none⟩ (.bool true)).setCell ⟨w.heap.size+1,1,none⟩ (.slice A3 n c3)).setCell ⟨w.heap.size+1,2,none⟩ (.slice A7 m c7))) from by
     have hz:=H1.out.1.size;have hz2:=H1.out.2.2.1.lt;refine⟨(tHn H1.out.1 HB.out).trans (UF.below (fun q _ e=>by omega) (Nat.le_trans hz HB.out.size)),.inr ⟨HL.out.2.2,A3,c3,A7,c7,by rw[HL.out.1,HL.out.2.1],?_,?_,by rw[HL.out.1];exact l3,by rw[HL.out.2.1];exact l7,fun b o s e=>⟨Nat.le_trans hz ((r3.out.lt b (by rw[e];rfl)).1),Nat.lt_of_lt_of_le (r3.out.lt b (by rw[e];rfl)).2 UF.size⟩,fun b o s e=>⟨Nat.le_trans hz ((r7.out.lt b (by rw[e];rfl)).1),Nat.lt_of_lt_of_le (r7.out.lt b (by rw[e];rfl)).2 UF.size⟩⟩⟩
     ·exact aV.of_own (aA r3.out UF (fun k hk e=>by have:=(r3.out.lt k hk).1;omega))
     ·exact aV.of_own (aA r7.out UF (fun k hk e=>by have:=(r7.out.lt k hk).1;omega)))
    clear K2 l3 l7 KF UF;refine aD 8 rfl hd hS ?_;clear hd;intro hd;refine aM hd 9 ?_;clear hd;intro hd;refine aL rfl rfl (fun K hK=>?_);go_simp;refine hK _ _ hS9 ?_;clear hK K hS;have hS:=hS9;clear hS9 s0 s1 s2 g0 g1 g2;(try simp only[Act.put,gA,gS,gZ,sA,sZ,sS])
    refine aD 10 rfl hd hS ?_;clear hd;intro hd;refine iQ (by kernel_rfl) ?_;clear hS hd;go_wp2;generalize (((V4.setCell ⟨w.heap.size+1,0,none⟩ (.bool true)).setCell ⟨w.heap.size+1,1,none⟩ (.slice A3 n c3)).setCell ⟨w.heap.size+1,2,none⟩ (.slice A7 m c7))=WF at FIN y0 y1 y2 ⊢;refine bodyPost_ret (v:=.tuple #[.agg #[.bool true,.slice A3 n c3,.slice A7 m c7],.int .i64 0]) (by simp[results,Tryz.f13,go_sem,y0,y1,y2]) rfl FIN.out
   ·refine aL rfl rfl (fun K hK=>?_);go_simp;have bz:Below V1.heap.size V1 (V1.alloc (.cells #[] 32)):=bR.alloc (Nat.le_refl _) _;have oz:(V1.alloc (.cells #[] 32)).ownsRow V1.heap.size 32 3 (.slice (some ⟨V1.heap.size,0,none⟩) 0 0) 0 []:=dG V1 _ 3;have z4:=hIz (show(V1.alloc (.cells #[] 32)).ownsRow W1.heap.size 32 3 (.slice (some ⟨V1.heap.size,0,none⟩) 0 0) 0 [] from aJ oz (fun k hk=>Nat.le_trans HB.out.size (oz.lt k hk).1));clear oz;have hne:=hIz (show V0.heap.size≠V1.heap.size from fun e=>by have:=(z0.out.lt V0.heap.size rfl).2;omega);have z0:=hIz (aA z0.out (upF bz) (fun _ _=>id));have HB:=hIz (tHn HB.out bz);clear bz;refine hK _ _ (US.out _ HB.out) ?_;clear hK K;(try simp only[Act.put,gA,gS,gZ,sA,sZ,sS])
    obtain⟨V5,hV5⟩:∃V,V=V1.alloc (.cells #[] 32):=⟨_,rfl⟩;rw[← hV5] at HB z4 z0 ⊢;clear hV5;refine aM hd 3 ?_;clear hd;intro hd;refine aL rfl rfl (fun K hK=>?_);obtain⟨A3,c3,V6,happ,r3,up,pl⟩:=bB V5 W1.heap.size 26 9 1 16 _ Tryz.underlying26 bJ rfl (by decide) (by decide) (some ⟨V0.heap.size,0,none⟩) 0 0 [] z0.out A n c (aC N) ((H1.out.2.2.2.below HB.out).rn) (by rw[cC N,HL.out.1]) (gT N) (by omega) HB.out.size;rw[Nat.zero_add] at happ r3 pl;rw[List.nil_append] at r3;have r3:=hIz r3;have p3:=hIz (show ∀k,(Value.slice A3 n c3).ownBlock=some k→k≠V1.heap.size from fun k hk e=>by
     have h4:=(z4.out.lt V1.heap.size rfl).2;rcases pl k hk with h|h
     ·have e2:V0.heap.size=k:=by simpa[Value.ownBlock] using h
      exact hne.out (e2.trans e)
     ·omega)
    have z4:=hIz (aA z4.out up (fun k hk hF=>by
     have e1:V1.heap.size=k:=by simpa[Value.ownBlock] using hk
     have e2:V0.heap.size=k:=by simpa[Value.ownBlock] using hF
     exact hne.out (e2.trans e1.symm)))
    have HB:=hIz (HB.out.trans (up.below (fun q _ hq=>(z0.out.lt q hq).1) HB.out.size));clear up pl;refine fA _ _ _ rfl rfl rfl happ ?_;refine hK _ _ (US.out _ HB.out) ?_;clear hK K happ;(try simp only[Act.put,gA,gS,gZ,sA,sZ,sS])
    refine aM hd 7 ?_;clear hd;intro hd;refine aL rfl rfl (fun K hK=>?_);obtain⟨A7,c7,V7,happ,r7,up,pl⟩:=bB V6 W1.heap.size 27 32 3 48 _ Tryz.underlying27 dN rfl (by decide) (by decide) (some ⟨V1.heap.size,0,none⟩) 0 0 [] z4.out B m d (aH E) ((H1.out.2.2.2.below HB.out).re) (by rw[bK E,HL.out.2.1]) (mJ E) (by omega) HB.out.size;rw[Nat.zero_add] at happ r7 pl;rw[List.nil_append] at r7;have r7:=hIz r7;have r3:=hIz (aA r3.out up (fun k hk hF=>by
     have e2:V1.heap.size=k:=by simpa[Value.ownBlock] using hF
     exact p3.out k hk e2.symm))
    have HB:=hIz (HB.out.trans (up.below (fun q _ hq=>(z4.out.lt q hq).1) HB.out.size));clear up pl;refine fA _ _ _ rfl rfl rfl happ ?_;refine hK _ _ (US.out _ HB.out) ?_;clear hK K happ;(try simp only[Act.put,gA,gS,gZ,sA,sZ,sS])
    have l3:=eC r3.out;have l7:=eC r7.out;have K2:=H1.out.2.2.1.upd (upF HB.out) id;have hS:(fun V:World=>V.cell? ⟨w.heap.size,0,none⟩=some (.slice A n c)∧V.cell? ⟨w.heap.size,1,none⟩=some (.slice B m d)) V7:=US.out _ HB.out;have s0:V7.cell? ⟨w.heap.size+1,0,none⟩=some (.bool false):=K2.cell 0;have s1:V7.cell? ⟨w.heap.size+1,1,none⟩=some (.slice none 0 0):=K2.cell 1;have s2:V7.cell? ⟨w.heap.size+1,2,none⟩=some (.slice none 0 0):=K2.cell 2;have g0:=K2.frozen 0;have g1:=K2.frozen 1;have g2:=K2.frozen 2;have KF:=aW K2 (.bool true) (.slice A3 n c3) (.slice A7 m c7);have UF:=aX V7 (w.heap.size+1) (.bool true) (.slice A3 n c3) (.slice A7 m c7);have hS9:(fun V:World=>V.cell? ⟨w.heap.size,0,none⟩=some (.slice A n c)∧V.cell? ⟨w.heap.size,1,none⟩=some (.slice B m d)) ((((V7.setCell ⟨w.heap.size+1,0,none⟩ (.bool true)).setCell ⟨w.heap.size+1,1,none⟩ (.slice A3 n c3)).setCell ⟨w.heap.size+1,2,none⟩ (.slice A7 m c7))):=by
     have hk:=(H1.out.2.1.upd (upF HB.out) id).upd UF (fun e=>by omega);exact⟨hk.cell 0,hk.cell 1⟩
    have y0:=KF.cell 0;have y1:=KF.cell 1;have y2:=KF.cell 2;simp only[List.getElem?_toArray,List.getElem?_cons_succ,List.getElem?_cons_zero] at y0 y1 y2
    have FIN:=hIz (show OQ w N E (.returned (.tuple #[.agg #[.bool true,.slice A3 n c3,.slice A7 m c7],.int .i64 0])) ((((V7.setCell ⟨w.heap.size+1,0,none⟩ (.bool true)).setCell ⟨w.heap.size+1,1,none⟩ (.slice A3 n c3)).setCell ⟨w.heap.size+1,2,none⟩ (.slice A7 m c7))) from by
     have hz:=H1.out.1.size;have hz2:=H1.out.2.2.1.lt;refine⟨(tHn H1.out.1 HB.out).trans (UF.below (fun q _ e=>by omega) (Nat.le_trans hz HB.out.size)),.inr ⟨HL.out.2.2,A3,c3,A7,c7,by rw[HL.out.1,HL.out.2.1],?_,?_,by rw[HL.out.1];exact l3,by rw[HL.out.2.1];exact l7,fun b o s e=>⟨Nat.le_trans hz ((r3.out.lt b (by rw[e];rfl)).1),Nat.lt_of_lt_of_le (r3.out.lt b (by rw[e];rfl)).2 UF.size⟩,fun b o s e=>⟨Nat.le_trans hz ((r7.out.lt b (by rw[e];rfl)).1),Nat.lt_of_lt_of_le (r7.out.lt b (by rw[e];rfl)).2 UF.size⟩⟩⟩
     ·exact aV.of_own (aA r3.out UF (fun k hk e=>by have:=(r3.out.lt k hk).1;omega))
     ·exact aV.of_own (aA r7.out UF (fun k hk e=>by have:=(r7.out.lt k hk).1;omega)))
    clear K2 l3 l7 KF UF;refine aD 8 rfl hd hS ?_;clear hd;intro hd;refine aM hd 9 ?_;clear hd;intro hd;refine aL rfl rfl (fun K hK=>?_);go_simp;refine hK _ _ hS9 ?_;clear hK K hS;have hS:=hS9;clear hS9 s0 s1 s2 g0 g1 g2;(try simp only[Act.put,gA,gS,gZ,sA,sZ,sS])
    refine aD 10 rfl hd hS ?_;clear hd;intro hd;refine iQ (by kernel_rfl) ?_;clear hS hd;go_wp2;generalize (((V7.setCell ⟨w.heap.size+1,0,none⟩ (.bool true)).setCell ⟨w.heap.size+1,1,none⟩ (.slice A3 n c3)).setCell ⟨w.heap.size+1,2,none⟩ (.slice A7 m c7))=WF at FIN y0 y1 y2 ⊢;refine bodyPost_ret (v:=.tuple #[.agg #[.bool true,.slice A3 n c3,.slice A7 m c7],.int .i64 0]) (by simp[results,Tryz.f13,go_sem,y0,y1,y2]) rfl FIN.out
  ·refine aL rfl rfl (fun K hK=>?_);go_simp;have bz:Below V0.heap.size V0 (V0.alloc (.cells #[] 32)):=bR.alloc (Nat.le_refl _) _;have oz:(V0.alloc (.cells #[] 32)).ownsRow V0.heap.size 32 3 (.slice (some ⟨V0.heap.size,0,none⟩) 0 0) 0 []:=dG V0 _ 3;have z4:=hIz (show(V0.alloc (.cells #[] 32)).ownsRow W1.heap.size 32 3 (.slice (some ⟨V0.heap.size,0,none⟩) 0 0) 0 [] from aJ oz (fun k hk=>Nat.le_trans HB.out.size (oz.lt k hk).1));clear oz;have HB:=hIz (tHn HB.out bz);clear bz;refine hK _ _ (US.out _ HB.out) ?_;clear hK K;(try simp only[Act.put,gA,gS,gZ,sA,sZ,sS])
   obtain⟨V8,hV8⟩:∃V,V=V0.alloc (.cells #[] 32):=⟨_,rfl⟩;rw[← hV8] at HB z4 ⊢;clear hV8;refine aM hd 0 ?_;clear hd;intro hd;refine aL rfl rfl (fun K hK=>?_);go_simp;have bz:Below V8.heap.size V8 (V8.alloc (.cells #[] 9)):=bR.alloc (Nat.le_refl _) _;have oz:(V8.alloc (.cells #[] 9)).ownsRow V8.heap.size 9 1 (.slice (some ⟨V8.heap.size,0,none⟩) 0 0) 0 []:=dG V8 _ 1;have z0:=hIz (show(V8.alloc (.cells #[] 9)).ownsRow W1.heap.size 9 1 (.slice (some ⟨V8.heap.size,0,none⟩) 0 0) 0 [] from aJ oz (fun k hk=>Nat.le_trans HB.out.size (oz.lt k hk).1));clear oz;have hne:=hIz (show V8.heap.size≠V0.heap.size from fun e=>by have:=(z4.out.lt V0.heap.size rfl).2;omega);have z4:=hIz (aA z4.out (upF bz) (fun _ _=>id));have HB:=hIz (tHn HB.out bz);clear bz;refine hK _ _ (US.out _ HB.out) ?_;clear hK K;(try simp only[Act.put,gA,gS,gZ,sA,sZ,sS])
   obtain⟨V9,hV9⟩:∃V,V=V8.alloc (.cells #[] 9):=⟨_,rfl⟩;rw[← hV9] at HB z0 z4 ⊢;clear hV9;refine aM hd 3 ?_;clear hd;intro hd;refine aL rfl rfl (fun K hK=>?_);obtain⟨A3,c3,V10,happ,r3,up,pl⟩:=bB V9 W1.heap.size 26 9 1 16 _ Tryz.underlying26 bJ rfl (by decide) (by decide) (some ⟨V8.heap.size,0,none⟩) 0 0 [] z0.out A n c (aC N) ((H1.out.2.2.2.below HB.out).rn) (by rw[cC N,HL.out.1]) (gT N) (by omega) HB.out.size;rw[Nat.zero_add] at happ r3 pl;rw[List.nil_append] at r3;have r3:=hIz r3;have p3:=hIz (show ∀k,(Value.slice A3 n c3).ownBlock=some k→k≠V0.heap.size from fun k hk e=>by
    have h4:=(z4.out.lt V0.heap.size rfl).2;rcases pl k hk with h|h
    ·have e2:V8.heap.size=k:=by simpa[Value.ownBlock] using h
     exact hne.out (e2.trans e)
    ·omega)
   have z4:=hIz (aA z4.out up (fun k hk hF=>by
    have e1:V0.heap.size=k:=by simpa[Value.ownBlock] using hk
    have e2:V8.heap.size=k:=by simpa[Value.ownBlock] using hF
    exact hne.out (e2.trans e1.symm)))
   have HB:=hIz (HB.out.trans (up.below (fun q _ hq=>(z0.out.lt q hq).1) HB.out.size));clear up pl;refine fA _ _ _ rfl rfl rfl happ ?_;refine hK _ _ (US.out _ HB.out) ?_;clear hK K happ;(try simp only[Act.put,gA,gS,gZ,sA,sZ,sS])
   refine aM hd 7 ?_;clear hd;intro hd;refine aL rfl rfl (fun K hK=>?_);obtain⟨A7,c7,V11,happ,r7,up,pl⟩:=bB V10 W1.heap.size 27 32 3 48 _ Tryz.underlying27 dN rfl (by decide) (by decide) (some ⟨V0.heap.size,0,none⟩) 0 0 [] z4.out B m d (aH E) ((H1.out.2.2.2.below HB.out).re) (by rw[bK E,HL.out.2.1]) (mJ E) (by omega) HB.out.size;rw[Nat.zero_add] at happ r7 pl;rw[List.nil_append] at r7;have r7:=hIz r7;have r3:=hIz (aA r3.out up (fun k hk hF=>by
    have e2:V0.heap.size=k:=by simpa[Value.ownBlock] using hF
    exact p3.out k hk e2.symm))
   have HB:=hIz (HB.out.trans (up.below (fun q _ hq=>(z4.out.lt q hq).1) HB.out.size));clear up pl;refine fA _ _ _ rfl rfl rfl happ ?_;refine hK _ _ (US.out _ HB.out) ?_;clear hK K happ;(try simp only[Act.put,gA,gS,gZ,sA,sZ,sS])
   have l3:=eC r3.out;have l7:=eC r7.out;have K2:=H1.out.2.2.1.upd (upF HB.out) id;have hS:(fun V:World=>V.cell? ⟨w.heap.size,0,none⟩=some (.slice A n c)∧V.cell? ⟨w.heap.size,1,none⟩=some (.slice B m d)) V11:=US.out _ HB.out;have s0:V11.cell? ⟨w.heap.size+1,0,none⟩=some (.bool false):=K2.cell 0;have s1:V11.cell? ⟨w.heap.size+1,1,none⟩=some (.slice none 0 0):=K2.cell 1;have s2:V11.cell? ⟨w.heap.size+1,2,none⟩=some (.slice none 0 0):=K2.cell 2;have g0:=K2.frozen 0;have g1:=K2.frozen 1;have g2:=K2.frozen 2;have KF:=aW K2 (.bool true) (.slice A3 n c3) (.slice A7 m c7);have UF:=aX V11 (w.heap.size+1) (.bool true) (.slice A3 n c3) (.slice A7 m c7);have hS9:(fun V:World=>V.cell? ⟨w.heap.size,0,none⟩=some (.slice A n c)∧V.cell? ⟨w.heap.size,1,none⟩=some (.slice B m d)) ((((V11.setCell ⟨w.heap.size+1,0,none⟩ (.bool true)).setCell ⟨w.heap.size+1,1,none⟩ (.slice A3 n c3)).setCell ⟨w.heap.size+1,2,none⟩ (.slice A7 m c7))):=by
    have hk:=(H1.out.2.1.upd (upF HB.out) id).upd UF (fun e=>by omega);exact⟨hk.cell 0,hk.cell 1⟩
   have y0:=KF.cell 0;have y1:=KF.cell 1;have y2:=KF.cell 2;simp only[List.getElem?_toArray,List.getElem?_cons_succ,List.getElem?_cons_zero] at y0 y1 y2
   have FIN:=hIz (show OQ w N E (.returned (.tuple #[.agg #[.bool true,.slice A3 n c3,.slice A7 m c7],.int .i64 0])) ((((V11.setCell ⟨w.heap.size+1,0,none⟩ (.bool true)).setCell ⟨w.heap.size+1,1,none⟩ (.slice A3 n c3)).setCell ⟨w.heap.size+1,2,none⟩ (.slice A7 m c7))) from by
    have hz:=H1.out.1.size;have hz2:=H1.out.2.2.1.lt;refine⟨(tHn H1.out.1 HB.out).trans (UF.below (fun q _ e=>by omega) (Nat.le_trans hz HB.out.size)),.inr ⟨HL.out.2.2,A3,c3,A7,c7,by rw[HL.out.1,HL.out.2.1],?_,?_,by rw[HL.out.1];exact l3,by rw[HL.out.2.1];exact l7,fun b o s e=>⟨Nat.le_trans hz ((r3.out.lt b (by rw[e];rfl)).1),Nat.lt_of_lt_of_le (r3.out.lt b (by rw[e];rfl)).2 UF.size⟩,fun b o s e=>⟨Nat.le_trans hz ((r7.out.lt b (by rw[e];rfl)).1),Nat.lt_of_lt_of_le (r7.out.lt b (by rw[e];rfl)).2 UF.size⟩⟩⟩
    ·exact aV.of_own (aA r3.out UF (fun k hk e=>by have:=(r3.out.lt k hk).1;omega))
    ·exact aV.of_own (aA r7.out UF (fun k hk e=>by have:=(r7.out.lt k hk).1;omega)))
   clear K2 l3 l7 KF UF;refine aD 8 rfl hd hS ?_;clear hd;intro hd;refine aM hd 9 ?_;clear hd;intro hd;refine aL rfl rfl (fun K hK=>?_);go_simp;refine hK _ _ hS9 ?_;clear hK K hS;have hS:=hS9;clear hS9 s0 s1 s2 g0 g1 g2;(try simp only[Act.put,gA,gS,gZ,sA,sZ,sS])
   refine aD 10 rfl hd hS ?_;clear hd;intro hd;refine iQ (by kernel_rfl) ?_;clear hS hd;go_wp2;generalize (((V11.setCell ⟨w.heap.size+1,0,none⟩ (.bool true)).setCell ⟨w.heap.size+1,1,none⟩ (.slice A3 n c3)).setCell ⟨w.heap.size+1,2,none⟩ (.slice A7 m c7))=WF at FIN y0 y1 y2 ⊢;refine bodyPost_ret (v:=.tuple #[.agg #[.bool true,.slice A3 n c3,.slice A7 m c7],.int .i64 0]) (by simp[results,Tryz.f13,go_sem,y0,y1,y2]) rfl FIN.out
 ·have h0e:=h0;have hne:(ci != 0)=true:=by simpa using h0
  have FIN:=hIz (show ∀V,Below w.heap.size w V→OQ w N E (.returned (.tuple #[.agg #[.bool false,.slice none 0 0,.slice none 0 0],.int .i64 ci])) V from fun V hb=>⟨hb,.inl ⟨by rw[HL.out.2.2];exact h0e,by rw[HL.out.2.2]⟩⟩);have KF:=aW H1.out.2.2.1 (.bool false) (.slice none 0 0) (.slice none 0 0);have UF:=aX W1 (w.heap.size+1) (.bool false) (.slice none 0 0) (.slice none 0 0);have y0:=KF.cell 0;have y1:=KF.cell 1;have y2:=KF.cell 2;simp only[List.getElem?_toArray,List.getElem?_cons_succ,List.getElem?_cons_zero] at y0 y1 y2
  have FIN:=hIz (FIN.out ((((W1.setCell ⟨w.heap.size+1,0,none⟩ (.bool false)).setCell ⟨w.heap.size+1,1,none⟩ (.slice none 0 0)).setCell ⟨w.heap.size+1,2,none⟩ (.slice none 0 0))) (H1.out.1.trans (UF.below (fun q _ e=>by omega) H1.out.1.size)));clear h0e h0 KF UF;go_wp2;generalize (((W1.setCell ⟨w.heap.size+1,0,none⟩ (.bool false)).setCell ⟨w.heap.size+1,1,none⟩ (.slice none 0 0)).setCell ⟨w.heap.size+1,2,none⟩ (.slice none 0 0))=WF at FIN y0 y1 y2 ⊢;refine bodyPost_ret (v:=.tuple #[.agg #[.bool false,.slice none 0 0,.slice none 0 0],.int .i64 ci]) (by simp[results,Tryz.f13,go_sem,y0,y1,y2]) rfl FIN.out
end Go.Proofs.YtddffnonlmfhdaaGreatDoor
