/- GraphPlays: the walk; A graph, a list of texts, a list of edges that come in, read: the slices lie in memory, and none is too great; A script of graph calls that comes in, read. -/
import Derived.Test.YtddffnonlmfhdaaGreatDoorU15
import Derived.ProofKit
import Derived.OpenShut
import Derived.ShutString
import Derived.ChangeOld
import Derived.ChangeSame
import Derived.Below
import Derived.Deep.Slices
import Derived.MapViews
import Derived.SizedLaws
import Derived.Test.YtddffnonlmfhdaaGreatDoorU01
set_option linter.unusedVariables false
set_option linter.unusedSimpArgs false
set_option maxHeartbeats 16000000
set_option maxRecDepth 100000
namespace Go.Proofs.YtddffnonlmfhdaaGreatDoor
open Go.RowKit
theorem JE{w:World}{F:Nat→Prop}{q:Option Addr}{v:RgC}{dO oa ob on:Int}{x:Ed}{GA:Option Addr}{gn gc:Nat}{GB:Option Addr}{gm gd:Nat}(h:jS w F q v)(hT:iN w)(hx:pE x):Calls Tryz.prog 15 #[.pointer q,v.val,opV dO oa ob on x GA gn gc GB gm gd] w (fT w F q v):=by
 by_cases h2:dO=2
 ·exact EN h h2 hx
 by_cases h3:dO=3
 ·exact EO h h3 hx
 by_cases h4:dO=4
 ·exact EP h h4
 by_cases h5:dO=5
 ·exact JC h h5 hx
 by_cases h6:dO=6
 ·exact ES h h6
 by_cases h7:dO=7
 ·exact JD h hT h7
 exact EQ h (by simp[h2]) (by simp[h3]) (by simp[h4]) (by simp[h5]) (by simp[h6]) (by simp[h7])
theorem ET{w:World}{F:Nat→Prop}{q:Option Addr}{v:RgC}(h:jS w F q v):Calls Tryz.prog 14 #[.pointer q] w (fun e w'=>∃q' F',e=.returned (.pointer q')∧Below w.heap.size w w'∧jS w' F' q' v∧∀k,F' k→w.heap.size≤k):=by
 rcases h with ⟨rfl,rfl,hF⟩|⟨p,G,E,rfl,hs⟩
 ·refine(CS w).mono ?_;rintro e w' ⟨rfl,hw⟩;subst hw;exact⟨none,fun _=>False,rfl,Below.refl _ _,.inl ⟨rfl,rfl,fun _=>id⟩,fun _ h=>h.elim⟩
 ·refine(LO w F p G hs.gr hs.ok).mono ?_;rintro e w' ⟨p',rfl,⟨F',g,hF⟩,hb⟩;have hs':=hs.below hb;exact⟨_,F',rfl,hb,.inr ⟨p',G,E,rfl,⟨g,hs.ok,hs.rg,hs.b,hs.n,hs.m,hs'.rn,hs'.re,hs.hc,hs.hd,hs'.inw,sC.from hs.inw hF⟩⟩,hF⟩
def PW:RgC:=⟨true,none,0,0,none,0,0⟩
theorem JF{w W1 W2:World}{p:Nat}(h:fB w.heap.size p ⟨[],[]⟩ W1)(b2:Below W1.heap.size W1 W2):∃F',jS W2 F' (some ⟨p,0,none⟩) PW∧∀k,F' k→w.heap.size≤k:=by
 obtain⟨F',g,hF⟩:=h;exact⟨F',.inr ⟨p,⟨[],[]⟩,[],rfl,⟨g.below b2,GOk.new,iE.new,rfl,rfl,rfl,(mE W2).rn,(mE W2).re,Nat.le_refl _,Nat.le_refl _,⟨fun b o s e=>(by cases e),fun b o s e=>(by cases e)⟩,⟨fun b o s e=>(by cases e),fun b o s e=>(by cases e)⟩⟩⟩,hF⟩
theorem MS{w W1 W2:World}{p:Nat}{N:List Txt}{E:List Ed}(hc0:bP N E=0)(h:fB w.heap.size p ⟨N,E⟩ W1)(hw:w.heap.size≤W1.heap.size)(b2:Below W1.heap.size W1 W2){A:Option Addr}{c:Nat}{B:Option Addr}{d:Nat}(rn:aV W2 A (aC N))(re:aV W2 B (aH E))(hc:N.length≤c)(hd:E.length≤d)
  (hA:∀b o s,A=some ⟨b,o,s⟩→W1.heap.size≤b) (hB:∀b o s,B=some ⟨b,o,s⟩→W1.heap.size≤b) (hA2:∀b o s,A=some ⟨b,o,s⟩→b<W2.heap.size) (hB2:∀b o s,B=some ⟨b,o,s⟩→b<W2.heap.size) :
  ∃F',jS W2 F' (some ⟨p,0,none⟩) ⟨true,A,N.length,c,B,E.length,d⟩∧∀k,F' k→w.heap.size≤k:=by
 obtain⟨F',g,hF⟩:=h;exact⟨F',.inr ⟨p,⟨N,E⟩,E,rfl,⟨g.below b2,KB hc0,iE.self (KB hc0),rfl,rfl,rfl,rn,re,hc,hd,⟨hA2,hB2⟩,⟨fun b o s e hk=>by have:=hA b o s e;have:=g.lt b hk;omega,fun b o s e hk=>by have:=hB b o s e;have:=g.lt b hk;omega⟩⟩⟩,hF⟩
theorem zS(w:World)(A:Option Addr)(c:Nat)(S:List OpC)(hS:aV w A (mF S))(hf:∀o∈S,zR w o)(hT:iN w)(hl:S.length≤10000000000000) :
  Calls Tryz.prog 3 #[.slice A S.length c] w (Sam w (.bool true)):=by
 obtain⟨n,hn⟩:∃n,S.length=n:=⟨_,rfl⟩;rw[hn] at hl ⊢;have b0:Below w.heap.size w ((w.alloc (.cells #[.pointer none,.pointer none] 25)).alloc (.cells #[.bool false,.slice none 0 0,.slice none 0 0,.bool false,.slice none 0 0,.slice none 0 0] 30)):=by(repeat (first | exact Below.refl _ _ | apply Below.drew | refine Below.alloc ?_ (by first | exact Nat.le_refl _ | (simp;done) | (simp;omega)) _ | refine Below.setCell ?_ (by first | exact Nat.le_refl _ | (simp;done) | (simp;omega)) _))
 have k0:=(Blk.new w 25 #[.pointer none,.pointer none]).alloc (.cells #[.bool false,.slice none 0 0,.slice none 0 0,.bool false,.slice none 0 0,.slice none 0 0] 30);have k1:=Blk.new (w.alloc (.cells #[.pointer none,.pointer none] 25)) 30 #[.bool false,.slice none 0 0,.slice none 0 0,.bool false,.slice none 0 0,.slice none 0 0];simp only[World.size_alloc] at k1
 have hz:((w.alloc (.cells #[.pointer none,.pointer none] 25)).alloc (.cells #[.bool false,.slice none 0 0,.slice none 0 0,.bool false,.slice none 0 0,.slice none 0 0] 30)).heap.size=w.heap.size+2:=by simp
 have I0:=hIz (show GPI w _ from⟨_,_,_,GPS.start b0 (by rw[hz];exact Nat.le_refl _),⟨_,k0,rfl,fun i hi=>by rcases (show i=0∨i=1 by omega) with rfl | rfl <;> rfl⟩,⟨_,k1,rfl,fun i hi=>by rcases (show i=0∨i=1 by omega) with rfl | rfl <;> exact⟨rfl,rfl,rfl⟩⟩⟩);have H:=aI4 hS hf hT hn;clear hS hf hT hn b0 k0 k1 hz;go_enter Tryz.func3,Tryz.ntmps3;by_cases h60:60<n
 ·have h60I:(60:Int)<(n:Int):=by omega
  go_wp2_with fail;refine(mH w).mono ?_;rintro e W ⟨rfl,hb⟩;have FIN:=hIz hb;clear hb;go_wp2;go_ret;exact⟨rfl,FIN.out⟩
 have h60I:¬(60:Int)<(n:Int):=by omega
 go_upto_region 5 with (fail);generalize (w.alloc (.cells #[.pointer none,.pointer none] 25)).alloc (.cells #[.bool false,.slice none 0 0,.slice none 0 0,.bool false,.slice none 0 0,.slice none 0 0] 30)=W0 at I0 ⊢;go_wp2_with fail;clear h60 h60I;go_loopw [5] (fun iv wr=>∃k:Nat,k≤n∧iv=.int .i64 (k:Int)∧Hid (GPI w wr)) (fun iv _=>n-(intOf iv).toNat)
 case atStart=>exact⟨0,Nat.zero_le _,rfl,I0⟩
 case round =>
  obtain⟨k,hk,rfl,HI⟩:=hrel;by_cases hlt:k<n
  ·have hltI:(k:Int)<(n:Int):=by omega
   have hkw:IntKind.i64.wrap ((k:Int)+1)=(k:Int)+1:=IntWalk.i64_in _ (by omega);obtain⟨o,ho⟩:∃o,S[k]?=some o:=⟨S[k]'(by rw[H.out.2.2.2];exact hlt),gEz _⟩;have hof:=H.out.2.1 o (mG ho);have hbw:Below w.heap.size w wr:=by
    obtain⟨q,v,F,hg,-,-⟩:=HI.out;exact hg.bw
   obtain⟨rb,rt,rfl,a0,a1,a2,a3,a4,a5,a6,a7,a8⟩:=(H.out.1.below hbw).op ho;obtain⟨⟨dO,oa,ob,on,⟨x0,x1,x2⟩,GA,gc,GB,gd,N,E⟩,ho⟩:∃o',o'=o:=⟨_,rfl⟩;subst ho;obtain⟨fg,fx⟩:=hof;dsimp only at a0 a1 a2 a3 a4 a5 a6 a7 a8 fg fx
   obtain⟨n1,hn1⟩:∃n,N.length=n:=⟨_,rfl⟩;obtain⟨n2,hn2⟩:∃n,E.length=n:=⟨_,rfl⟩;rw[hn1] at a7;rw[hn2] at a8;have hfN:=fg.fit.n;have hfE:=fg.fit.e;rw[hn1] at hfN;rw[hn2] at hfE;have HO:=aI4 fg fx hn1 hn2;clear fg fx hn1 hn2;obtain⟨a,ha2,hab⟩:=yI oa;obtain⟨b,hb2,hbb⟩:=yI ob;obtain⟨q,v,F,hG,hcg,hcw⟩:=HI.out;have b1:Below wr.heap.size wr (wr.alloc (.cells #[.int .i64 dO,.int .i64 oa,.int .i64 ob,.int .i64 on,.string x0,.string x1,.string x2,.slice GA n1 gc,.slice GB n2 gd] 36)):=bR.alloc (Nat.le_refl _) _;have k6:=Blk.new wr 36 #[.int .i64 dO,.int .i64 oa,.int .i64 ob,.int .i64 on,.string x0,.string x1,.string x2,.slice GA n1 gc,.slice GB n2 gd];have G1:=aI5 (hG.upd (upF b1) (b1.mono hbw.size) (fun _ _ _ _=>id) (fun _ _=>⟨fun _ _ _ _=>id,fun _ _ _ _=>id⟩)) (hcg.upd (upF b1) id) (hcw.upd (upF b1) id) k6 hG.z;have HFW:=hIz (show ∀k,F a k→k≠wr.heap.size from fun k hk e=>by have:=(hG.sl a ha2).lt k hk;omega);clear hG hcg hcw k6 HI b1;go_upto_region 9 with (fail);clear a0 a1 a2 a3 a4 a5 a6 a7 a8;generalize wr.alloc (.cells #[.int .i64 dO,.int .i64 oa,.int .i64 ob,.int .i64 on,.string x0,.string x1,.string x2,.slice GA n1 gc,.slice GB n2 gd] 36)=W1 at G1 ⊢;have hS1:W1.drew.cell? ⟨wr.heap.size,1,none⟩=some (.int .i64 oa)∧W1.drew.cell? ⟨wr.heap.size,2,none⟩=some (.int .i64 ob):=⟨G1.out.2.2.2.1.cell 1,G1.out.2.2.2.1.cell 2⟩;refine aO (fun V:World=>V.cell? ⟨wr.heap.size,1,none⟩=some (.int .i64 oa)∧V.cell? ⟨wr.heap.size,2,none⟩=some (.int .i64 ob)) 8 [(0,true),(1,true),(2,true),(3,true),(4,true),(5,true),(6,true),(7,true)] (by kernel_rfl) (by kernel_rfl) (fun _ _ d _ _ h=>by cases d <;> exact h) hS1 ?_
   iterate 8 refine aB rfl ?_
   refine aF ?_;clear hS1;have b2:Below W1.heap.size W1 W1.drew:=bR.drew;have G2:=aI5 (G1.out.1.upd (upF b2) (b2.mono (Nat.le_trans (by omega) G1.out.1.z)) (fun _ _ _ _=>id) (fun _ _=>⟨fun _ _ _ _=>id,fun _ _ _ _=>id⟩)) (G1.out.2.1.upd (upF b2) id) (G1.out.2.2.1.upd (upF b2) id) G1.out.2.2.2.1.drew G1.out.2.2.2.2;generalize W1.drew=W2 at G2 ⊢;clear G1 b2;have e0:W2.cell? ⟨wr.heap.size,0,none⟩=some (.int .i64 dO):=G2.out.2.2.2.1.cell 0;have e7:W2.cell? ⟨wr.heap.size,7,none⟩=some (.slice GA n1 gc):=G2.out.2.2.2.1.cell 7;have e8:W2.cell? ⟨wr.heap.size,8,none⟩=some (.slice GB n2 gd):=G2.out.2.2.2.1.cell 8;obtain⟨s,hs⟩:∃s,n1+n2=s:=⟨_,rfl⟩;have hsum:IntKind.i64.wrap ((n1:Int)+(n2:Int))=(s:Int):=by rw[IntWalk.i64_in _ (by omega)];omega
   by_cases hbig:1000<s
   ·have hbigI:(1000:Int)<(s:Int):=by omega
    have HB:=hIz G2.out.1.bw;clear G2 hs;go_wp2_with fail;refine(mH W2).mono ?_;rintro e W ⟨rfl,hb⟩;have FIN:=hIz (tHn HB.out hb);clear hb e0 e7 e8;go_wp2;go_ret;exact⟨rfl,FIN.out⟩
   have hbigI:¬(1000:Int)<(s:Int):=by omega
   have haI:(a:Int)<2:=by omega
   have hbI:(b:Int)<2:=by omega
   clear hs;by_cases d0:dO=0
   ·have d0b:(dO==0)=true:=by rw[d0];rfl
    clear d0;go_upto_region 18 with (fail);refine aO (fun _=>True) 8 [(0,true),(1,true),(2,false),(4,true),(3,false),(5,false),(6,true),(7,false)] (by kernel_rfl) (by kernel_rfl) (fun _ _ d _ _ h=>by cases d <;> exact h) trivial ?_;have BD:=hIz (show Below W2.heap.size W2 W2.drew from bR.drew);generalize W2.drew=W25 at BD ⊢;clear e0 e7 e8
    iterate 2 refine aB rfl ?_
    refine aN rfl rfl (fun K hK=>?_);go_simp;refine(BK W25).mono ?_;rintro e W3 ⟨p,rfl,hfr,b3⟩;have F3:=aI2 hfr b3;clear hfr b3;refine hK _ _ (fun _=>trivial) ?_;clear hK K;(try simp only[Act.put,gA,gS,gZ,sA,sZ,sS])
    refine aB rfl ?_;refine aN rfl rfl (fun K hK=>?_);go_simp;refine(IT W3).mono ?_;rintro e W4 ⟨rfl,b4⟩;unfold rgV;refine hK _ _ (fun _=>trivial) ?_;clear hK K;(try simp only[Act.put,gA,gS,gZ,sA,sZ,sS])
    have b24:Below W2.heap.size W2 W4:=BD.out.trans ((tHn F3.out.2 b4).mono BD.out.size);obtain⟨F',hsl,hF'⟩:=JF F3.out.1 b4;have hcg:=G2.out.2.1.upd (upF b24) id;have hcw:=G2.out.2.2.1.upd (upF b24) id;obtain⟨c0,f0⟩:=hcg.get ha2;obtain⟨c1,c2,c3,f1,f2,f3⟩:=hcw.get ha2;have hgp:=G2.out.1.put ha2 (upF b24) (fun _ h=>h.elim) hsl (fun k hk=>.inr (Nat.le_trans BD.out.size (hF' k hk))) (fun j _ _=>⟨fun b o s e=>(by cases e),fun b o s e=>(by cases e)⟩) ⟨fun b o s e=>(by cases e),fun b o s e=>(by cases e)⟩;have HN:=hIz (GPI.of (q:=fun _=>some ⟨p,0,none⟩) (v:=fun _=>PW) ha2 hgp hcg hcw);clear hsl hF' hcg hcw hgp b24 b4 G2 F3;refine aN rfl rfl (fun K hK=>?_);go_simp;refine hK _ _ (fun _=>trivial) ?_;clear hK K;(try simp only[Act.put,gA,gS,gZ,sA,sZ,sS])
    refine aB rfl ?_;refine aN rfl rfl (fun K hK=>?_);go_simp;refine hK _ _ (fun _=>trivial) ?_;clear hK K;(try simp only[Act.put,gA,gS,gZ,sA,sZ,sS])
    refine aF ?_;clear c0 c1 c2 c3 f0 f1 f2 f3;unfold PW at HN;dsimp only at HN
    go_wp2;go_roundw
    case rel=>exact⟨k+1,by omega,by go_num,HN⟩
    case measure=>simp[intOf];omega
   have d0b:(dO==0)=false:=by simp[d0]
   clear d0;by_cases d1:dO=1
   ·have d1b:(dO==1)=true:=by rw[d1];rfl
    clear d1;have hfg:=HO.out.1.below G2.out.1.bw;have hcon:=LN W2 GA gc GB gd N E hfg;unfold bQ at hcon;rw[HO.out.2.2.1,HO.out.2.2.2] at hcon;go_wp2_with fail;refine hcon.mono ?_;clear hcon;rintro e W3 (⟨hci,rfl,b3⟩|⟨hci,p,rfl,hfr,b3⟩)
    ·obtain⟨ci,hcie⟩:∃ci,bP N E=ci:=⟨_,rfl⟩;have hrof:=qL W3 GA gc GB gd N E (hfg.below b3);unfold bQ at hrof;rw[HO.out.2.2.1,HO.out.2.2.2] at hrof;rw[hcie];have HR:=hIz hrof;have HCI:=aI2 hci hcie;have e7:=(G2.out.2.2.2.1.upd (upF b3) id).cell 7;have e8:=(G2.out.2.2.2.1.upd (upF b3) id).cell 8;simp only[List.getElem?_toArray,List.getElem?_cons_succ,List.getElem?_cons_zero] at e7 e8
     have B3:=hIz b3;clear hrof hci hcie b3 hfg e0;go_wp2_with fail;refine HR.out.mono ?_;rintro e W35 ⟨b4,⟨-,rfl⟩|⟨h0,-⟩⟩
     ·rw[HCI.out.2];have b24:Below W2.heap.size W2 W35:=tHn B3.out b4;have HZ3:=hIz (show w.heap.size+2≤W35.heap.size from Nat.le_trans G2.out.1.z b24.size);have k11:=Blk.new W35 29 #[.bool false,.slice none 0 0,.slice none 0 0];have b11:Below W2.heap.size W2 (W35.alloc (.cells #[.bool false,.slice none 0 0,.slice none 0 0] 29)):=b24.alloc b24.size _;have hcg:=G2.out.2.1.upd (upF b11) id;have hcw:=G2.out.2.2.1.upd (upF b11) id;have hgp:=G2.out.1.put ha2 (upF b11) (fun _ h=>h.elim) (q':=none) (v':=zC) (F':=fun _=>False) (.inl ⟨rfl,rfl,fun _=>id⟩) (fun k hk=>hk.elim) (fun j _ _=>⟨fun b o s e=>(by cases e),fun b o s e=>(by cases e)⟩) ⟨fun b o s e=>(by cases e),fun b o s e=>(by cases e)⟩;clear b4 b24 b11 e7 e8 G2 B3 HR HO;have hcc:(ci==ci)=true:=by simp
      go_upto_region 22 with (fail);generalize W35.alloc (.cells #[.bool false,.slice none 0 0,.slice none 0 0] 29)=W4 at k11 hcg hcw hgp ⊢;generalize W35=W3 at HZ3 k11 ⊢;have K11:=hIz k11;have e0:W4.cell? ⟨W3.heap.size,0,none⟩=some (.bool false):=k11.cell 0;have HN:=hIz (GPI.of (q:=fun _=>none) (v:=fun _=>zC) ha2 (hgp.upd (Upd.of_below ((Below.refl W4.heap.size W4).drew) (fun _=>False)) ((Below.refl W4.heap.size W4).drew.mono (Nat.le_trans (by omega) hgp.z)) (fun _ _ _ _=>id) (fun _ _=>⟨fun _ _ _ _=>id,fun _ _ _ _=>id⟩)) (hcg.upd (Upd.of_below ((Below.refl W4.heap.size W4).drew) (fun _=>False)) id) (hcw.upd (Upd.of_below ((Below.refl W4.heap.size W4).drew) (fun _=>False)) id));have HCG:=hIz hcg;have HCW:=hIz hcw;have hz3:w.heap.size+2≤W3.heap.size:=HZ3.out;clear k11 hgp hcg hcw;go_upto_region 24 with (fail);clear e0;have hS:(fun V:World=>V.cell? ⟨W3.heap.size,0,none⟩=some (.bool false)∧V.cell? ⟨W3.heap.size,1,none⟩=some (.slice none 0 0)∧V.cell? ⟨W3.heap.size,2,none⟩=some (.slice none 0 0)) W4.drew:=⟨K11.out.drew.cell 0,K11.out.drew.cell 1,K11.out.drew.cell 2⟩;refine aE (fun V:World=>V.cell? ⟨W3.heap.size,0,none⟩=some (.bool false)∧V.cell? ⟨W3.heap.size,1,none⟩=some (.slice none 0 0)∧V.cell? ⟨W3.heap.size,2,none⟩=some (.slice none 0 0)) 7 [(0,true),(1,true),(2,true),(3,true),(4,true),(5,false),(6,true),(7,false)] hS ?_;have KD:=hIz K11.out.drew;obtain⟨c0,f0⟩:=HCG.out.get ha2;obtain⟨c1,c2,c3,f1,f2,f3⟩:=HCW.out.get ha2;have c0:W4.drew.cell? ⟨w.heap.size,a,none⟩=some (.pointer (q a)):=c0
      have c1:W4.drew.cell? ⟨w.heap.size+1,a*3,none⟩=some (.bool (v a).b):=c1;have c2:W4.drew.cell? ⟨w.heap.size+1,a*3+1,none⟩=some (.slice (v a).A (v a).n (v a).c):=c2;have c3:W4.drew.cell? ⟨w.heap.size+1,a*3+2,none⟩=some (.slice (v a).B (v a).m (v a).d):=c3;have f0:W4.drew.frozen? ⟨w.heap.size,a,none⟩=false:=f0;have f1:W4.drew.frozen? ⟨w.heap.size+1,a*3,none⟩=false:=f1;have f2:W4.drew.frozen? ⟨w.heap.size+1,a*3+1,none⟩=false:=f2;have f3:W4.drew.frozen? ⟨w.heap.size+1,a*3+2,none⟩=false:=f3;generalize W4.drew=W45 at HN KD hS c0 c1 c2 c3 f0 f1 f2 f3 ⊢
      iterate 5 refine aB rfl ?_
      clear hS;have HS5:=hIz (show(fun V:World=>V.cell? ⟨W3.heap.size,0,none⟩=some (.bool false)∧V.cell? ⟨W3.heap.size,1,none⟩=some (.slice none 0 0)∧V.cell? ⟨W3.heap.size,2,none⟩=some (.slice none 0 0)) (W45.setCell ⟨w.heap.size,a,none⟩ (.pointer none)) from by
       have k:=KD.out.upd ((Upd.refl (fun k=>k=w.heap.size) W45).setCell (p:=⟨w.heap.size,a,none⟩) (.inl rfl) (.pointer none)) (by omega);exact⟨k.cell 0,k.cell 1,k.cell 2⟩)
      refine aN rfl rfl (fun K hK=>?_);go_simp;refine hK _ _ (fun _=>HS5.out) ?_;clear hK K HS5;(try simp only[Act.put,gA,gS,gZ,sA,sZ,sS])
      refine aB rfl ?_;refine aN rfl rfl (fun K hK=>?_);go_simp;refine hK _ _ (fun h=>absurd rfl h) ?_;clear hK K;(try simp only[Act.put,gA,gS,gZ,sA,sZ,sS])
      refine aF ?_;clear c0 c1 c2 c3 f0 f1 f2 f3;unfold zC at HN;dsimp only at HN
      go_wp2;go_roundw
      case rel=>exact⟨k+1,by omega,by go_num,HN⟩
      case measure=>simp[intOf];omega
     ·exact(HCI.out.1 h0).elim
    ·have hrof:=qL W3 GA gc GB gd N E (hfg.below b3);unfold bQ at hrof;rw[HO.out.2.2.1,HO.out.2.2.2] at hrof;have HR:=hIz hrof;have HCI:=aI2 hci hfr;have e7:=(G2.out.2.2.2.1.upd (upF b3) id).cell 7;have e8:=(G2.out.2.2.2.1.upd (upF b3) id).cell 8;simp only[List.getElem?_toArray,List.getElem?_cons_succ,List.getElem?_cons_zero] at e7 e8
     have B3:=hIz b3;clear hrof hci hfr b3 hfg e0;go_wp2_with fail;refine HR.out.mono ?_;rintro e W35 ⟨b4,⟨h0,-⟩|⟨-,A',c',B',d',rfl,rn,re,hc,hd,hA,hB⟩⟩
     ·exact(h0 HCI.out.1).elim
     ·obtain⟨F',hsl,hF'⟩:=MS HCI.out.1 HCI.out.2 B3.out.size b4 rn re hc hd (fun b o s e=>(hA b o s e).1) (fun b o s e=>(hB b o s e).1) (fun b o s e=>(hA b o s e).2) (fun b o s e=>(hB b o s e).2);rw[HO.out.2.2.1,HO.out.2.2.2] at hsl ⊢;have b24:Below W2.heap.size W2 W35:=tHn B3.out b4;have HZ3:=hIz (show w.heap.size+2≤W35.heap.size from Nat.le_trans G2.out.1.z b24.size);have k11:=Blk.new W35 29 #[.bool true,.slice A' n1 c',.slice B' n2 d'];have b41:Below W35.heap.size W35 (W35.alloc (.cells #[.bool true,.slice A' n1 c',.slice B' n2 d'] 29)):=bR.alloc (Nat.le_refl _) _;have b11:Below W2.heap.size W2 (W35.alloc (.cells #[.bool true,.slice A' n1 c',.slice B' n2 d'] 29)):=b24.alloc b24.size _;have hcg:=G2.out.2.1.upd (upF b11) id;have hcw:=G2.out.2.2.1.upd (upF b11) id;have hz2:=G2.out.1.z;have hz23:=B3.out.size;have hgp:=G2.out.1.put ha2 (upF b11) (fun _ h=>h.elim) (hsl.below b41) (fun k hk=>.inr (hF' k hk)) (fun j hj _=>⟨fun b o s e hk=>by have h1:=(hA b o s e).1;have h2:=(G2.out.1.sl j hj).lt b hk;omega,fun b o s e hk=>by have h1:=(hB b o s e).1;have h2:=(G2.out.1.sl j hj).lt b hk;omega⟩) ⟨fun b o s e hk=>by have h1:=(hA b o s e).1;rcases hk with hk | hk <;> omega,fun b o s e hk=>by have h1:=(hB b o s e).1;rcases hk with hk | hk <;> omega⟩;clear b4 b24 b11 b41 e7 e8 G2 B3 HR HO HCI hsl hF' rn re hc hd hA hB hz2 hz23;go_upto_region 22 with (fail);generalize W35.alloc (.cells #[.bool true,.slice A' n1 c',.slice B' n2 d'] 29)=W4 at k11 hcg hcw hgp ⊢;generalize W35=W3 at HZ3 k11 ⊢;have K11:=hIz k11
      have e0:W4.cell? ⟨W3.heap.size,0,none⟩=some (.bool true):=k11.cell 0;have HN:=hIz (GPI.of (q:=fun _=>(some ⟨p,0,none⟩)) (v:=fun _=>(⟨true,A',n1,c',B',n2,d'⟩:RgC)) ha2 (hgp.upd (Upd.of_below ((Below.refl W4.heap.size W4).drew) (fun _=>False)) ((Below.refl W4.heap.size W4).drew.mono (Nat.le_trans (by omega) hgp.z)) (fun _ _ _ _=>id) (fun _ _=>⟨fun _ _ _ _=>id,fun _ _ _ _=>id⟩)) (hcg.upd (Upd.of_below ((Below.refl W4.heap.size W4).drew) (fun _=>False)) id) (hcw.upd (Upd.of_below ((Below.refl W4.heap.size W4).drew) (fun _=>False)) id));have HCG:=hIz hcg;have HCW:=hIz hcw;have hz3:w.heap.size+2≤W3.heap.size:=HZ3.out;clear k11 hgp hcg hcw;go_upto_region 24 with (fail);clear e0;have hS:(fun V:World=>V.cell? ⟨W3.heap.size,0,none⟩=some (.bool true)∧V.cell? ⟨W3.heap.size,1,none⟩=some (.slice A' n1 c')∧V.cell? ⟨W3.heap.size,2,none⟩=some (.slice B' n2 d')) W4.drew:=⟨K11.out.drew.cell 0,K11.out.drew.cell 1,K11.out.drew.cell 2⟩;refine aE (fun V:World=>V.cell? ⟨W3.heap.size,0,none⟩=some (.bool true)∧V.cell? ⟨W3.heap.size,1,none⟩=some (.slice A' n1 c')∧V.cell? ⟨W3.heap.size,2,none⟩=some (.slice B' n2 d')) 7 [(0,true),(1,true),(2,true),(3,true),(4,true),(5,false),(6,true),(7,false)] hS ?_;have KD:=hIz K11.out.drew;obtain⟨c0,f0⟩:=HCG.out.get ha2;obtain⟨c1,c2,c3,f1,f2,f3⟩:=HCW.out.get ha2;have c0:W4.drew.cell? ⟨w.heap.size,a,none⟩=some (.pointer (q a)):=c0;have c1:W4.drew.cell? ⟨w.heap.size+1,a*3,none⟩=some (.bool (v a).b):=c1;have c2:W4.drew.cell? ⟨w.heap.size+1,a*3+1,none⟩=some (.slice (v a).A (v a).n (v a).c):=c2
      have c3:W4.drew.cell? ⟨w.heap.size+1,a*3+2,none⟩=some (.slice (v a).B (v a).m (v a).d):=c3;have f0:W4.drew.frozen? ⟨w.heap.size,a,none⟩=false:=f0;have f1:W4.drew.frozen? ⟨w.heap.size+1,a*3,none⟩=false:=f1;have f2:W4.drew.frozen? ⟨w.heap.size+1,a*3+1,none⟩=false:=f2;have f3:W4.drew.frozen? ⟨w.heap.size+1,a*3+2,none⟩=false:=f3;generalize W4.drew=W45 at HN KD hS c0 c1 c2 c3 f0 f1 f2 f3 ⊢
      iterate 5 refine aB rfl ?_
      clear hS;have HS5:=hIz (show(fun V:World=>V.cell? ⟨W3.heap.size,0,none⟩=some (.bool true)∧V.cell? ⟨W3.heap.size,1,none⟩=some (.slice A' n1 c')∧V.cell? ⟨W3.heap.size,2,none⟩=some (.slice B' n2 d')) (W45.setCell ⟨w.heap.size,a,none⟩ (.pointer (some ⟨p,0,none⟩))) from by
       have k:=KD.out.upd ((Upd.refl (fun k=>k=w.heap.size) W45).setCell (p:=⟨w.heap.size,a,none⟩) (.inl rfl) (.pointer (some ⟨p,0,none⟩))) (by omega);exact⟨k.cell 0,k.cell 1,k.cell 2⟩)
      refine aN rfl rfl (fun K hK=>?_);go_simp;refine hK _ _ (fun _=>HS5.out) ?_;clear hK K HS5;(try simp only[Act.put,gA,gS,gZ,sA,sZ,sS])
      refine aB rfl ?_;refine aN rfl rfl (fun K hK=>?_);go_simp;refine hK _ _ (fun h=>absurd rfl h) ?_;clear hK K;(try simp only[Act.put,gA,gS,gZ,sA,sZ,sS])
      refine aF ?_;clear c0 c1 c2 c3 f0 f1 f2 f3;dsimp only at HN
      go_wp2;go_roundw
      case rel=>exact⟨k+1,by omega,by go_num,HN⟩
      case measure=>simp[intOf];omega
   have d1b:(dO==1)=false:=by simp[d1]
   clear d1;by_cases d8:dO=8
   ·have d8b:(dO==8)=true:=by rw[d8];rfl
    clear d8;go_upto_region 26 with (fail);obtain⟨g1,g2,g3,-,-,-⟩:=G2.out.2.2.1.get ha2;have hS:(fun V:World=>V.cell? ⟨w.heap.size+1,a*3,none⟩=some (.bool (v a).b)∧V.cell? ⟨w.heap.size+1,a*3+1,none⟩=some (.slice (v a).A (v a).n (v a).c)∧V.cell? ⟨w.heap.size+1,a*3+2,none⟩=some (.slice (v a).B (v a).m (v a).d)) W2.drew:=⟨g1,g2,g3⟩;clear g1 g2 g3;refine jA (fun V:World=>V.cell? ⟨w.heap.size+1,a*3,none⟩=some (.bool (v a).b)∧V.cell? ⟨w.heap.size+1,a*3+1,none⟩=some (.slice (v a).A (v a).n (v a).c)∧V.cell? ⟨w.heap.size+1,a*3+2,none⟩=some (.slice (v a).B (v a).m (v a).d)) (aT 12) (by kernel_rfl) ?_;have BD:=hIz (show Below W2.heap.size W2 W2.drew from bR.drew);have g0:W2.drew.cell? ⟨w.heap.size,a,none⟩=some (.pointer (q a)):=(G2.out.2.1.get ha2).1;generalize W2.drew=W25 at BD hS g0 ⊢;clear e0 e7 e8;intro hd;(refine dJ (i:=0) (v:=?_) rfl (by kernel_rfl) hd (fun _ _ d _ _ h=>by cases d <;> exact h) (by first | with_reducible rfl | kernel_rfl) ?_ ?_;rotate_left;(focus (intro wS;go_simp;(try with_reducible rfl);done));clear hd;intro hd;(try simp only[Act.put,gA,gS,gZ,sA,sZ,sS]))
    (refine dJ (i:=1) (v:=?_) rfl (by kernel_rfl) hd (fun _ _ d _ _ h=>by cases d <;> exact h) (by first | with_reducible rfl | kernel_rfl) ?_ ?_;rotate_left;(focus (intro wS;go_simp;(try with_reducible rfl);done));clear hd;intro hd;(try simp only[Act.put,gA,gS,gZ,sA,sZ,sS]))
    (refine dJ (i:=2) (v:=?_) rfl (by kernel_rfl) hd (fun _ _ d _ _ h=>by cases d <;> exact h) (by first | with_reducible rfl | kernel_rfl) ?_ ?_;rotate_left;(focus (intro wS;go_simp;(try with_reducible rfl);done));clear hd;intro hd;(try simp only[Act.put,gA,gS,gZ,sA,sZ,sS]))
    (refine dJ (i:=3) (v:=?_) rfl (by kernel_rfl) hd (fun _ _ d _ _ h=>by cases d <;> exact h) (by first | with_reducible rfl | kernel_rfl) ?_ ?_;rotate_left;(focus (intro wS;go_simp;(try with_reducible rfl);done));clear hd;intro hd;(try simp only[Act.put,gA,gS,gZ,sA,sZ,sS]))
    (refine dJ (i:=6) (v:=?_) rfl (by kernel_rfl) hd (fun _ _ d _ _ h=>by cases d <;> exact h) (by first | with_reducible rfl | kernel_rfl) ?_ ?_;rotate_left;(focus (intro wS;go_simp;(try with_reducible rfl);done));clear hd;intro hd;(try simp only[Act.put,gA,gS,gZ,sA,sZ,sS]))
    (refine dJ (i:=7) (v:=?_) rfl (by kernel_rfl) hd (fun _ _ d _ _ h=>by cases d <;> exact h) (by first | with_reducible rfl | kernel_rfl) ?_ ?_;rotate_left;(focus (intro wS;go_simp;(try with_reducible rfl);done));clear hd;intro hd;(try simp only[Act.put,gA,gS,gZ,sA,sZ,sS]))
    refine cW 8 rfl hd hS ?_;clear hd;intro hd;refine aU hd 4 ?_;clear hd;intro hd;refine bD (S:=(fun V:World=>V.cell? ⟨w.heap.size+1,a*3,none⟩=some (.bool (v a).b)∧V.cell? ⟨w.heap.size+1,a*3+1,none⟩=some (.slice (v a).A (v a).n (v a).c)∧V.cell? ⟨w.heap.size+1,a*3+2,none⟩=some (.slice (v a).B (v a).m (v a).d))) (late:=aT 12) rfl rfl (fun K hK=>?_);go_simp;refine hK _ _ (fun _ h=>h) ?_;clear hK K hS g0;(try simp only[Act.put,gA,gS,gZ,sA,sZ,sS])
    have hsa:=(G2.out.1.sl a ha2).below BD.out;refine aU hd 5 ?_;clear hd;intro hd;refine bD (S:=(fun V:World=>V.cell? ⟨w.heap.size+1,a*3,none⟩=some (.bool (v a).b)∧V.cell? ⟨w.heap.size+1,a*3+1,none⟩=some (.slice (v a).A (v a).n (v a).c)∧V.cell? ⟨w.heap.size+1,a*3+2,none⟩=some (.slice (v a).B (v a).m (v a).d))) (late:=aT 12) rfl rfl (fun K hK=>?_);go_simp;refine(ET hsa).mono ?_;rintro e W3 ⟨q',F',rfl,b3,hsl,hF'⟩;have b23:Below W2.heap.size W2 W3:=tHn BD.out b3;have hcg:=G2.out.2.1.upd (upF b23) id;have hcw:=G2.out.2.2.1.upd (upF b23) id;have hgp:=G2.out.1.put (a:=b) hb2 (upF b23) (fun _ h=>h.elim) hsl (fun k hk=>.inr (Nat.le_trans BD.out.size (hF' k hk))) (fun j hj _=>G2.out.1.aw a j ha2 hj) (G2.out.1.ro a ha2);have HN:=hIz (GPI.of (q:=fun _=>q') (v:=fun _=>v a) hb2 hgp hcg hcw);have HS3:=hIz (show(fun V:World=>V.cell? ⟨w.heap.size+1,a*3,none⟩=some (.bool (v a).b)∧V.cell? ⟨w.heap.size+1,a*3+1,none⟩=some (.slice (v a).A (v a).n (v a).c)∧V.cell? ⟨w.heap.size+1,a*3+2,none⟩=some (.slice (v a).B (v a).m (v a).d)) W3 from⟨(hcw.get ha2).1,(hcw.get ha2).2.1,(hcw.get ha2).2.2.1⟩);have HS4:=hIz (show(fun V:World=>V.cell? ⟨w.heap.size+1,a*3,none⟩=some (.bool (v a).b)∧V.cell? ⟨w.heap.size+1,a*3+1,none⟩=some (.slice (v a).A (v a).n (v a).c)∧V.cell? ⟨w.heap.size+1,a*3+2,none⟩=some (.slice (v a).B (v a).m (v a).d)) (W3.setCell ⟨w.heap.size,b,none⟩ (.pointer q')) from by
     have hcw:=hcw.upd ((Upd.refl (fun k=>k=w.heap.size) W3).setCell (p:=⟨w.heap.size,b,none⟩) (.inl rfl) (.pointer q')) (by omega);exact⟨(hcw.get ha2).1,(hcw.get ha2).2.1,(hcw.get ha2).2.2.1⟩)
    refine hK _ _ (fun _ _=>HS3.out) ?_;clear hK K HS3;(try simp only[Act.put,gA,gS,gZ,sA,sZ,sS])
    obtain⟨c0,f0⟩:=hcg.get hb2;obtain⟨c1,c2,c3,f1,f2,f3⟩:=hcw.get hb2;clear hsl hF' hgp b23 b3 hsa hcg hcw G2 BD;(refine dJ (i:=9) (v:=?_) rfl (by kernel_rfl) hd (fun _ _ d _ _ h=>by cases d <;> exact h) (by first | with_reducible rfl | kernel_rfl) ?_ ?_;rotate_left;(focus (intro wS;go_simp;(try with_reducible rfl);done));clear hd;intro hd;(try simp only[Act.put,gA,gS,gZ,sA,sZ,sS]))
    refine aU hd 10 ?_;clear hd;intro hd;refine bD (S:=(fun V:World=>V.cell? ⟨w.heap.size+1,a*3,none⟩=some (.bool (v a).b)∧V.cell? ⟨w.heap.size+1,a*3+1,none⟩=some (.slice (v a).A (v a).n (v a).c)∧V.cell? ⟨w.heap.size+1,a*3+2,none⟩=some (.slice (v a).B (v a).m (v a).d))) (late:=aT 12) rfl rfl (fun K hK=>?_);go_simp;refine hK _ _ (fun _ _=>HS4.out) ?_;clear hK K HS4;(try simp only[Act.put,gA,gS,gZ,sA,sZ,sS])
    (refine dJ (i:=11) (v:=?_) rfl (by kernel_rfl) hd (fun _ _ d _ _ h=>by cases d <;> exact h) (by first | with_reducible rfl | kernel_rfl) ?_ ?_;rotate_left;(focus (intro wS;go_simp;(try with_reducible rfl);done));clear hd;intro hd;(try simp only[Act.put,gA,gS,gZ,sA,sZ,sS]))
    refine aU hd 12 ?_;clear hd;intro hd;refine bD (S:=(fun V:World=>V.cell? ⟨w.heap.size+1,a*3,none⟩=some (.bool (v a).b)∧V.cell? ⟨w.heap.size+1,a*3+1,none⟩=some (.slice (v a).A (v a).n (v a).c)∧V.cell? ⟨w.heap.size+1,a*3+2,none⟩=some (.slice (v a).B (v a).m (v a).d))) (late:=aT 12) rfl rfl (fun K hK=>?_);go_simp;refine hK _ _ (fun h _=>absurd h (by decide)) ?_;clear hK K;(try simp only[Act.put,gA,gS,gZ,sA,sZ,sS])
    refine kI (by kernel_rfl) ?_;clear c0 c1 c2 c3 f0 f1 f2 f3 hd;go_wp2;go_roundw
    case rel=>exact⟨k+1,by omega,by go_num,HN⟩
    case measure=>simp[intOf];omega
   have d8b:(dO==8)=false:=by simp[d8]
   clear d8;go_upto_region 13 with (fail);obtain⟨g0,-⟩:=G2.out.2.1.get ha2;obtain⟨g1,g2,g3,-,-,-⟩:=G2.out.2.2.1.get ha2;have K6:=G2.out.2.2.2.1;have hS:(fun V:World=>V.cell? ⟨w.heap.size,a,none⟩=some (.pointer (q a))∧V.cell? ⟨w.heap.size+1,a*3,none⟩=some (.bool (v a).b)∧V.cell? ⟨w.heap.size+1,a*3+1,none⟩=some (.slice (v a).A (v a).n (v a).c)∧V.cell? ⟨w.heap.size+1,a*3+2,none⟩=some (.slice (v a).B (v a).m (v a).d)∧V.cell? ⟨wr.heap.size,0,none⟩=some (.int .i64 dO)∧V.cell? ⟨wr.heap.size,1,none⟩=some (.int .i64 oa)∧V.cell? ⟨wr.heap.size,2,none⟩=some (.int .i64 ob)∧V.cell? ⟨wr.heap.size,3,none⟩=some (.int .i64 on)∧V.cell? ⟨wr.heap.size,4,none⟩=some (.string x0)∧V.cell? ⟨wr.heap.size,5,none⟩=some (.string x1)∧V.cell? ⟨wr.heap.size,6,none⟩=some (.string x2)∧V.cell? ⟨wr.heap.size,7,none⟩=some (.slice GA n1 gc)∧V.cell? ⟨wr.heap.size,8,none⟩=some (.slice GB n2 gd)) W2.drew:=⟨g0,g1,g2,g3,K6.cell 0,K6.cell 1,K6.cell 2,K6.cell 3,K6.cell 4,K6.cell 5,K6.cell 6,K6.cell 7,K6.cell 8⟩;clear g0 g1 g2 g3 K6;refine gC (fun V:World=>V.cell? ⟨w.heap.size,a,none⟩=some (.pointer (q a))∧V.cell? ⟨w.heap.size+1,a*3,none⟩=some (.bool (v a).b)∧V.cell? ⟨w.heap.size+1,a*3+1,none⟩=some (.slice (v a).A (v a).n (v a).c)∧V.cell? ⟨w.heap.size+1,a*3+2,none⟩=some (.slice (v a).B (v a).m (v a).d)∧V.cell? ⟨wr.heap.size,0,none⟩=some (.int .i64 dO)∧V.cell? ⟨wr.heap.size,1,none⟩=some (.int .i64 oa)∧V.cell? ⟨wr.heap.size,2,none⟩=some (.int .i64 ob)∧V.cell? ⟨wr.heap.size,3,none⟩=some (.int .i64 on)∧V.cell? ⟨wr.heap.size,4,none⟩=some (.string x0)∧V.cell? ⟨wr.heap.size,5,none⟩=some (.string x1)∧V.cell? ⟨wr.heap.size,6,none⟩=some (.string x2)∧V.cell? ⟨wr.heap.size,7,none⟩=some (.slice GA n1 gc)∧V.cell? ⟨wr.heap.size,8,none⟩=some (.slice GB n2 gd)) (by kernel_rfl) (by kernel_rfl) hS ?_
   have BD:=(show Below W2.heap.size W2 W2.drew from bR.drew);have G3:=aI5 (G2.out.1.upd (upF BD) (BD.mono (Nat.le_trans (by omega) G2.out.1.z)) (fun _ _ _ _=>id) (fun _ _=>⟨fun _ _ _ _=>id,fun _ _ _ _=>id⟩)) (G2.out.2.1.upd (upF BD) id) (G2.out.2.2.1.upd (upF BD) id) (G2.out.2.2.2.1.upd (upF BD) id) G2.out.2.2.2.2;clear G2 BD;generalize W2.drew=W25 at hS G3 ⊢;clear e0 e7 e8;refine oI (fun hd=>?_);(refine aD 0 rfl hd hS ?_;clear hd;intro hd;(try simp only[Act.put,gA,gZ,sA,sZ,sS]))
   refine aD 1 rfl hd hS ?_;clear hd;intro hd;refine aD 2 rfl hd hS ?_;clear hd;intro hd;refine aD 3 rfl hd hS ?_;clear hd;intro hd;refine aD 4 rfl hd hS ?_;clear hd;intro hd;refine aD 5 rfl hd hS ?_;clear hd;intro hd;refine aD 6 rfl hd hS ?_;clear hd;intro hd;have SR:=hIz (show ∀V P,Upd P W25 V→¬P w.heap.size→¬P (w.heap.size+1)→¬P wr.heap.size→(fun V:World=>V.cell? ⟨w.heap.size,a,none⟩=some (.pointer (q a))∧V.cell? ⟨w.heap.size+1,a*3,none⟩=some (.bool (v a).b)∧V.cell? ⟨w.heap.size+1,a*3+1,none⟩=some (.slice (v a).A (v a).n (v a).c)∧V.cell? ⟨w.heap.size+1,a*3+2,none⟩=some (.slice (v a).B (v a).m (v a).d)∧V.cell? ⟨wr.heap.size,0,none⟩=some (.int .i64 dO)∧V.cell? ⟨wr.heap.size,1,none⟩=some (.int .i64 oa)∧V.cell? ⟨wr.heap.size,2,none⟩=some (.int .i64 ob)∧V.cell? ⟨wr.heap.size,3,none⟩=some (.int .i64 on)∧V.cell? ⟨wr.heap.size,4,none⟩=some (.string x0)∧V.cell? ⟨wr.heap.size,5,none⟩=some (.string x1)∧V.cell? ⟨wr.heap.size,6,none⟩=some (.string x2)∧V.cell? ⟨wr.heap.size,7,none⟩=some (.slice GA n1 gc)∧V.cell? ⟨wr.heap.size,8,none⟩=some (.slice GB n2 gd)) V from fun V P hu h1 h2 h3=>by
    have hcg:=G3.out.2.1.upd hu h1;have hcw:=G3.out.2.2.1.upd hu h2;have K6:=G3.out.2.2.2.1.upd hu h3;exact⟨(hcg.get ha2).1,(hcw.get ha2).1,(hcw.get ha2).2.1,(hcw.get ha2).2.2.1,K6.cell 0,K6.cell 1,K6.cell 2,K6.cell 3,K6.cell 4,K6.cell 5,K6.cell 6,K6.cell 7,K6.cell 8⟩)
   have NF:=hIz (show ¬F a w.heap.size∧¬F a (w.heap.size+1)∧(∀k,F a k→w.heap.size+2≤k∧k≠wr.heap.size) from⟨fun h=>by have:=G3.out.1.lo a ha2 _ h;omega,fun h=>by have:=G3.out.1.lo a ha2 _ h;omega,fun k h=>⟨G3.out.1.lo a ha2 _ h,HFW.out k h⟩⟩);have STEP:=hIz (show ∀W,jS W (F a) (q a) (v a)→iN W→Calls Tryz.prog 15 #[.pointer (q a),.agg #[.bool (v a).b,.slice (v a).A (v a).n (v a).c,.slice (v a).B (v a).m (v a).d],.agg #[.int .i64 dO,.int .i64 oa,.int .i64 ob,.int .i64 on,.string x0,.string x1,.string x2,.slice GA n1 gc,.slice GB n2 gd]] W (fT W (F a) (q a) (v a)) from fun W hs ht=>JE (x:=⟨x0,x1,x2⟩) hs ht HO.out.2.1);have hTT:=H.out.2.2.1;refine cP hd 7 11 ?_ ?_<;>(clear hd;intro hd)
   ·refine aL rfl rfl (fun K hK=>?_);go_simp;refine(STEP.out W25 (G3.out.1.sl a ha2) (G3.out.1.tab hTT)).mono ?_;rintro e W3 ⟨v',F',rfl,hsl,hu,hF',haw⟩;have hS3:=SR.out W3 _ hu NF.out.1 NF.out.2.1 (fun h=>(NF.out.2.2 _ h).2 rfl);have hg3:=G3.out.1.put ha2 hu (fun _ h=>h) hsl hF' (fun j hj hne=>haw (F j) (fun k hk=>(G3.out.1.sl j hj).lt k hk) (G3.out.1.aw a j ha2 hj)) (haw (two w) (fun k hk=>by have:=G3.out.1.z;rcases hk with h | h <;> omega) (G3.out.1.ro a ha2));rw[yJ] at hg3;have C3:=aI4 hg3 (G3.out.2.1.upd hu NF.out.1) (G3.out.2.2.1.upd hu NF.out.2.1) hu;clear hsl hF' haw hg3;unfold RgC.val rgV;refine hK _ _ hS3 ?_;clear hK K hS;have hS:=hS3;clear hS3;(try simp only[Act.put,gA,gS,gZ,sA,sZ,sS])
    refine aD 8 rfl hd hS ?_;clear hd;intro hd;refine aD 9 rfl hd hS ?_;clear hd;intro hd;refine aD 10 rfl hd hS ?_;clear hd;intro hd;have kN:=Blk.new W3 29 #[.bool false,.slice none 0 0,.slice none 0 0];have q0:=kN.cell 0;have q1:=kN.cell 1;have q2:=kN.cell 2;have f0:=kN.frozen 0;have f1:=kN.frozen 1;have f2:=kN.frozen 2;simp only[List.getElem?_toArray,List.getElem?_cons_succ,List.getElem?_cons_zero] at q0 q1 q2
    have bN:Below W3.heap.size W3 (W3.alloc (.cells #[.bool false,.slice none 0 0,.slice none 0 0] 29)):=bR.alloc (Nat.le_refl _) _;have bV:Below W3.heap.size W3 (W3.alloc (.cells #[.bool v'.b,.slice v'.A v'.n v'.c,.slice v'.B v'.m v'.d] 29)):=bR.alloc (Nat.le_refl _) _;have kV:=Blk.new W3 29 #[.bool v'.b,.slice v'.A v'.n v'.c,.slice v'.B v'.m v'.d];have hSN:=SR.out (W3.alloc (.cells #[.bool false,.slice none 0 0,.slice none 0 0] 29)) _ (C3.out.2.2.2.trans (Upd.of_below bN (F a)) (fun i h=>.inl h)) NF.out.1 NF.out.2.1 (fun h=>(NF.out.2.2 _ h).2 rfl);have hSV:=SR.out (W3.alloc (.cells #[.bool v'.b,.slice v'.A v'.n v'.c,.slice v'.B v'.m v'.d] 29)) _ (C3.out.2.2.2.trans (Upd.of_below bV (F a)) (fun i h=>.inl h)) NF.out.1 NF.out.2.1 (fun h=>(NF.out.2.2 _ h).2 rfl);have KE:=hIz (show Blk (W3.alloc (.cells #[.bool v'.b,.slice v'.A v'.n v'.c,.slice v'.B v'.m v'.d] 29)) W3.heap.size 29 #[.bool v'.b,.slice v'.A v'.n v'.c,.slice v'.B v'.m v'.d]∧GPS w (W3.alloc (.cells #[.bool v'.b,.slice v'.A v'.n v'.c,.slice v'.B v'.m v'.d] 29)) q (upI v a v') (upI F a F')∧CG (W3.alloc (.cells #[.bool v'.b,.slice v'.A v'.n v'.c,.slice v'.B v'.m v'.d] 29)) w.heap.size q∧CW (W3.alloc (.cells #[.bool v'.b,.slice v'.A v'.n v'.c,.slice v'.B v'.m v'.d] 29)) (w.heap.size+1) v from by
     exact⟨kV,C3.out.1.upd (upF bV) (bV.mono (Nat.le_trans (by omega) C3.out.1.z)) (fun _ _ _ _=>id) (fun _ _=>⟨fun _ _ _ _=>id,fun _ _ _ _=>id⟩),C3.out.2.1.upd (upF bV) id,C3.out.2.2.1.upd (upF bV) id⟩)
    clear kN bN bV kV C3;refine aM hd 11 ?_;clear hd;intro hd;refine aL rfl rfl (fun K hK=>?_);go_simp;refine hK _ _ hSN ?_;clear hK K hS;have hS:=hSN;clear hSN;(try simp only[Act.put,gA,gS,gZ,sA,sZ,sS])
    refine aM hd 12 ?_;clear hd;intro hd;refine aL rfl rfl (fun K hK=>?_);go_simp;refine hK _ _ hSV ?_;clear hK K hS q0 q1 q2 f0 f1 f2;have hS:=hSV;clear hSV;(try simp only[Act.put,gA,gS,gZ,sA,sZ,sS])
    refine aD 13 rfl hd hS ?_;clear hd;intro hd;refine iQ (by kernel_rfl) ?_;clear hS hd;obtain⟨p13,hp⟩:∃p,W3.heap.size=p:=⟨_,rfl⟩;rw[hp] at KE ⊢;clear hp;generalize W3.alloc (.cells #[.bool v'.b,.slice v'.A v'.n v'.c,.slice v'.B v'.m v'.d] 29)=WE at KE ⊢;go_upto_region 14 with (fail);go_upto_region 16 with (fail);have z0:WE.cell? ⟨p13,0,none⟩=some (.bool v'.b):=KE.out.1.cell 0;have z1:WE.cell? ⟨p13,1,none⟩=some (.slice v'.A v'.n v'.c):=KE.out.1.cell 1;have z2:WE.cell? ⟨p13,2,none⟩=some (.slice v'.B v'.m v'.d):=KE.out.1.cell 2;obtain⟨c1,c2,c3,f1,f2,f3⟩:=KE.out.2.2.2.get ha2;have HN:=hIz (GPI.of2 ha2 KE.out.2.1 KE.out.2.2.1 KE.out.2.2.2);clear KE;go_wp2;go_roundw
    case rel=>exact⟨k+1,by omega,by go_num,HN⟩
    case measure=>simp[intOf];omega
   ·refine aL rfl rfl (fun K hK=>?_);go_simp;have kN:=Blk.new W25 29 #[.bool false,.slice none 0 0,.slice none 0 0];have bN:Below W25.heap.size W25 (W25.alloc (.cells #[.bool false,.slice none 0 0,.slice none 0 0] 29)):=bR.alloc (Nat.le_refl _) _;have hSN:=SR.out (W25.alloc (.cells #[.bool false,.slice none 0 0,.slice none 0 0] 29)) _ (Upd.of_below bN (F a)) NF.out.1 NF.out.2.1 (fun h=>(NF.out.2.2 _ h).2 rfl);have hzN:W25.heap.size<(W25.alloc (.cells #[.bool false,.slice none 0 0,.slice none 0 0] 29)).heap.size:=by simp
    have HN5:=aI3 kN bN hzN;clear kN bN hzN;refine hK _ _ hSN ?_;clear hK K hS;have hS:=hSN;clear hSN;(try simp only[Act.put,gA,gS,gZ,sA,sZ,sS])
    generalize W25.alloc (.cells #[.bool false,.slice none 0 0,.slice none 0 0] 29)=W26 at HN5 hS ⊢;refine aM hd 7 ?_;clear hd;intro hd;refine aL rfl rfl (fun K hK=>?_);go_simp;have G26:=G3.out.1.upd (Upd.of_below HN5.out.2.1 (fun _=>False)) (HN5.out.2.1.mono (Nat.le_trans (by omega) G3.out.1.z)) (fun _ _ _ _=>id) (fun _ _=>⟨fun _ _ _ _=>id,fun _ _ _ _=>id⟩);refine(STEP.out W26 (G26.sl a ha2) (G26.tab hTT)).mono ?_;rintro e W3 ⟨v',F',rfl,hsl,hu,hF',haw⟩;have hu5:Upd (F a) W25 W3:=(Upd.of_below HN5.out.2.1 (F a)).trans hu (fun i h=>.inl h);have hS3:=SR.out W3 _ hu5 NF.out.1 NF.out.2.1 (fun h=>(NF.out.2.2 _ h).2 rfl);have hg3:=G26.put ha2 hu (fun _ h=>h) hsl hF' (fun j hj hne=>haw (F j) (fun k hk=>(G26.sl j hj).lt k hk) (G26.aw a j ha2 hj)) (haw (two w) (fun k hk=>by have:=G26.z;rcases hk with h | h <;> omega) (G26.ro a ha2));rw[yJ] at hg3;have kM:Blk W3 W25.heap.size 29 #[.bool false,.slice none 0 0,.slice none 0 0]:=HN5.out.1.upd hu (fun h=>by have:=(G3.out.1.sl a ha2).lt _ h;omega);have q0:=kM.cell 0;have q1:=kM.cell 1;have q2:=kM.cell 2;have f0:=kM.frozen 0;have f1:=kM.frozen 1;have f2:=kM.frozen 2;simp only[List.getElem?_toArray,List.getElem?_cons_succ,List.getElem?_cons_zero] at q0 q1 q2
    have kV:=aW kM (.bool v'.b) (.slice v'.A v'.n v'.c) (.slice v'.B v'.m v'.d);have uV:=aX W3 W25.heap.size (.bool v'.b) (.slice v'.A v'.n v'.c) (.slice v'.B v'.m v'.d);have zz:=G3.out.1.z;have zw:=G3.out.2.2.2.1.lt;have hSV:=SR.out (((W3.setCell ⟨W25.heap.size,0,none⟩ (.bool v'.b)).setCell ⟨W25.heap.size,1,none⟩ (.slice v'.A v'.n v'.c)).setCell ⟨W25.heap.size,2,none⟩ (.slice v'.B v'.m v'.d)) (fun k=>F a k∨k=W25.heap.size) ((hu5.mono (fun k _ h=>.inl h)).trans (uV.mono (fun k _ h=>.inr h)) (fun i h=>.inl h)) (fun h=>h.elim NF.out.1 (fun e=>by omega)) (fun h=>h.elim NF.out.2.1 (fun e=>by omega)) (fun h=>h.elim (fun h=>(NF.out.2.2 _ h).2 rfl) (fun e=>by omega));have HP:=hIz (show ∀k,upI F a F' a k→k≠W25.heap.size from fun k hk e=>by
     rw[gB] at hk;rcases hF' k hk with h|h
     ·have:=(G3.out.1.sl a ha2).lt k h;omega
     ·have:=HN5.out.2.2;omega)
    have KE:=hIz (show Blk (((W3.setCell ⟨W25.heap.size,0,none⟩ (.bool v'.b)).setCell ⟨W25.heap.size,1,none⟩ (.slice v'.A v'.n v'.c)).setCell ⟨W25.heap.size,2,none⟩ (.slice v'.B v'.m v'.d)) W25.heap.size 29 #[.bool v'.b,.slice v'.A v'.n v'.c,.slice v'.B v'.m v'.d]∧GPS w (((W3.setCell ⟨W25.heap.size,0,none⟩ (.bool v'.b)).setCell ⟨W25.heap.size,1,none⟩ (.slice v'.A v'.n v'.c)).setCell ⟨W25.heap.size,2,none⟩ (.slice v'.B v'.m v'.d)) q (upI v a v') (upI F a F')∧CG (((W3.setCell ⟨W25.heap.size,0,none⟩ (.bool v'.b)).setCell ⟨W25.heap.size,1,none⟩ (.slice v'.A v'.n v'.c)).setCell ⟨W25.heap.size,2,none⟩ (.slice v'.B v'.m v'.d)) w.heap.size q∧CW (((W3.setCell ⟨W25.heap.size,0,none⟩ (.bool v'.b)).setCell ⟨W25.heap.size,1,none⟩ (.slice v'.A v'.n v'.c)).setCell ⟨W25.heap.size,2,none⟩ (.slice v'.B v'.m v'.d)) (w.heap.size+1) v from by
     refine⟨kV,hg3.upd uV (uV.below (fun q _ e=>by omega) (by have:=hu5.size;omega)) (fun i hi k hk e=>?_) (fun i hi=>?_),((G3.out.2.1.upd hu5 NF.out.1).upd uV (by omega)),((G3.out.2.2.1.upd hu5 NF.out.2.1).upd uV (by omega))⟩
     ·by_cases hia:i=a
      ·subst hia;exact HP.out k hk e
      ·rw[fU _ _ hia] at hk;have:=(G3.out.1.sl i hi).lt k hk;omega
     ·by_cases hia:i=a
      ·subst hia;rw[gB];exact haw (fun k=>k=W25.heap.size) (fun k e=>by have:=HN5.out.2.2;omega) (sC.from (G3.out.1.sl i hi).inw (fun k e=>by omega))
      ·rw[fU _ _ hia];exact sC.from (G3.out.1.sl i hi).inw (fun k e=>by omega))
    clear hsl hF' haw hg3 kM kV uV zz zw HP G26 hu hu5;unfold RgC.val rgV;refine hK _ _ hS3 ?_;clear hK K hS;have hS:=hS3;clear hS3;(try simp only[Act.put,gA,gS,gZ,sA,sZ,sS])
    refine aD 8 rfl hd hS ?_;clear hd;intro hd;refine aD 9 rfl hd hS ?_;clear hd;intro hd;refine aD 10 rfl hd hS ?_;clear hd;intro hd;refine aM hd 12 ?_;clear hd;intro hd;refine aL rfl rfl (fun K hK=>?_);go_simp;refine hK _ _ hSV ?_;clear hK K hS q0 q1 q2 f0 f1 f2;have hS:=hSV;clear hSV;(try simp only[Act.put,gA,gS,gZ,sA,sZ,sS])
    refine aD 13 rfl hd hS ?_;clear hd;intro hd;refine iQ (by kernel_rfl) ?_;clear hS hd;obtain⟨p13,hp⟩:∃p,W25.heap.size=p:=⟨_,rfl⟩;rw[hp] at KE ⊢;clear hp;generalize ((W3.setCell ⟨p13,0,none⟩ (.bool v'.b)).setCell ⟨p13,1,none⟩ (.slice v'.A v'.n v'.c)).setCell ⟨p13,2,none⟩ (.slice v'.B v'.m v'.d)=WE at KE ⊢;go_upto_region 14 with (fail);go_upto_region 16 with (fail);have z0:WE.cell? ⟨p13,0,none⟩=some (.bool v'.b):=KE.out.1.cell 0;have z1:WE.cell? ⟨p13,1,none⟩=some (.slice v'.A v'.n v'.c):=KE.out.1.cell 1;have z2:WE.cell? ⟨p13,2,none⟩=some (.slice v'.B v'.m v'.d):=KE.out.1.cell 2;obtain⟨c1,c2,c3,f1,f2,f3⟩:=KE.out.2.2.2.get ha2;have HN:=hIz (GPI.of2 ha2 KE.out.2.1 KE.out.2.2.1 KE.out.2.2.2);clear KE;go_wp2;go_roundw
    case rel=>exact⟨k+1,by omega,by go_num,HN⟩
    case measure=>simp[intOf];omega
  ·obtain rfl:k=n:=by omega
   have hltI:¬(k:Int)<(k:Int):=by omega
   obtain⟨q,v,F,hG,hcg,hcw⟩:=HI.out;have hl0:=pB (hG.sl 0 (by omega));have hl1:=fun (W:World) (hb:Below wr.heap.size wr W)=>pB ((hG.sl 1 (by omega)).below hb)
   unfold RgC.val rgV at hl0 hl1;have GG:=aI3 hG.bw hcg hcw;have c0:wr.cell? ⟨w.heap.size,0,none⟩=some (.pointer (q 0)):=(hcg.get (by omega)).1;have c1:wr.cell? ⟨w.heap.size+1,0,none⟩=some (.bool (v 0).b):=(hcw.get (i:=0) (by omega)).1;have c2:wr.cell? ⟨w.heap.size+1,1,none⟩=some (.slice (v 0).A (v 0).n (v 0).c):=(hcw.get (i:=0) (by omega)).2.1;have c3:wr.cell? ⟨w.heap.size+1,2,none⟩=some (.slice (v 0).B (v 0).m (v 0).d):=(hcw.get (i:=0) (by omega)).2.2.1;have HL1:=hIz hl1;clear hG hcg hcw HI hl1;go_wp2_with fail;refine hl0.mono ?_;clear hl0 c0 c1 c2 c3;rintro e W5 ⟨rfl,b5⟩;have hcg:=GG.out.2.1.upd (upF b5) id;have hcw:=GG.out.2.2.upd (upF b5) id;have c0:W5.cell? ⟨w.heap.size,1,none⟩=some (.pointer (q 1)):=(hcg.get (by omega)).1;have c1:W5.cell? ⟨w.heap.size+1,3,none⟩=some (.bool (v 1).b):=(hcw.get (i:=1) (by omega)).1;have c2:W5.cell? ⟨w.heap.size+1,4,none⟩=some (.slice (v 1).A (v 1).n (v 1).c):=(hcw.get (i:=1) (by omega)).2.1;have c3:W5.cell? ⟨w.heap.size+1,5,none⟩=some (.slice (v 1).B (v 1).m (v 1).d):=(hcw.get (i:=1) (by omega)).2.2.1;have B5:=hIz b5;clear hcg hcw b5;go_wp2_with fail;refine(HL1.out W5 B5.out).mono ?_;clear c0 c1 c2 c3;rintro e W6 ⟨rfl,b6⟩;have B6:=hIz (tHn B5.out b6);clear b6;go_wp2_with fail;refine(mH W6).mono ?_;rintro e W7 ⟨rfl,b7⟩;have FIN:=hIz (GG.out.1.trans ((tHn B6.out b7).mono GG.out.1.size));clear b7;go_wp2;go_ret;exact⟨rfl,FIN.out⟩
end Go.Proofs.YtddffnonlmfhdaaGreatDoor
namespace Go.Proofs.YtddffnonlmfhdaaGreatDoor.edRead
open Go.ChangeShapes Go.WideShapes Go.ChangeAt Go.RowKit
set_option linter.unusedVariables false
theorem own:ownKnob Tryz.prog.godebug=none:=by kernel_rfl
theorem MT:laidOutB Tryz.prog=true:=by kernel_rfl

section
variable {H:Type} {enc:TypeId × Value→H} {P:Program} {w:World}
theorem qM{t e m fuel:Nat}{v:Value}{x:DataW H × List MemPlace}(ht:P.underlying t=some (.slice e))(hk:P.keyTypeAt m e=true)
  (h:DataW.trod enc P w 0 (fun _=>true) true fuel t [v]=some x) (hz:∀n∈x.1.weights P t,n≤reachBytes) :
  v=.slice none 0 0∨∃a n c,v=.slice (some a) n c∧n≤c∧c*P.bytesOf e≤reachBytes∧∀i,i<c→∃cs L,cs.length=P.cellsOf e∧(∀j,j<P.cellsOf e→w.cell? (a.add (i*P.cellsOf e+j))=cs[j]?)∧P.keyLits m e cs=some L:=by
 rcases Deep.open_slice ht h with ⟨hcs,_⟩|⟨a,len,cap,m',n',D,Pl,hcs,_,hl,hm,hmm,hx,hi⟩
 ·injection hcs with hcs;exact .inl hcs
 ·injection hcs with hcs;subst hcs;obtain rfl:m'=cap:=by rw[hmm];exact if_pos rfl
  refine .inr ⟨a,len,m',rfl,hl,?_,fun i hic=>?_⟩
  ·subst hx;exact hz (m'*P.bytesOf e) (by
    simp only[DataW.weights,ht,List.length_map,List.length_range,show len+(m'-len)=m' by omega]
    simp)
  ·obtain⟨cs',hc,ht'⟩:=hi i (by simpa using hic);obtain⟨_,hlen,hat⟩:=World.cells?_some hc;exact⟨cs',_,hlen,fun j hj=>by rw[← Deep.add_add];exact hat j hj,(keyLits_of_trod m e hk n' cs' _ ht').1⟩
end
theorem uY:Tryz.prog.cellsOf 9=1:=by kernel_rfl
theorem nM{n:Nat}{c:Value}{l:List Lit}(h:Tryz.prog.keyLits n 9 [c]=some l):∃s:Txt,c=.string s∧cT s:=by
 cases n with
 | zero=>simp[Program.keyLits] at h
 | succ n =>
  unfold Program.keyLits at h;simp only[Tryz.underlying9] at h
  cases c <;> simp at h;obtain⟨hw,_⟩:=h;refine⟨_,rfl,?_⟩;unfold cT;unfold maxLen at hw;omega
theorem MU{α:Type}:∀{l:List α},l.length=1→∃a,l=[a]
 | [a],_=>⟨a,rfl⟩
theorem EU{α:Type}:∀{l:List α},l.length=3→∃a b c,l=[a,b,c]
 | [a,b,c],_=>⟨a,b,c,rfl⟩
theorem qO:Tryz.prog.cellsOf 32=3:=by kernel_rfl
theorem EV:Tryz.prog.bytesOf 9=16:=by kernel_rfl
theorem zT:Tryz.prog.bytesOf 32=48:=by kernel_rfl
theorem EW{cs:List Value}{L:List Lit}(hl:cs.length=3)(h:Tryz.prog.keyLits 2 32 cs=some L):∃x:Ed,cs=x.cells∧pE x:=by
 obtain⟨c0,c1,c2,rfl⟩:=EU hl;rw[show(2:Nat)=1+1 from rfl] at h;unfold Program.keyLits at h;simp only[Tryz.underlying32] at h
 split at h
 ·obtain⟨l,hl',_⟩:=Option.map_eq_some_iff.1 h;simp only[uY,List.mapM_cons,List.mapM_nil,bind,Option.bind_eq_some_iff] at hl'
  obtain⟨l0,h0,q0,⟨l1,h1,q1,⟨l2,h2,-⟩,-⟩,-⟩:=hl';simp at h0 h1 h2
  obtain⟨x,rfl,hx⟩:=nM h0;obtain⟨y,rfl,hy⟩:=nM h1;obtain⟨z,rfl,hz⟩:=nM h2;exact⟨⟨x,y,z⟩,rfl,hx,hy,hz⟩
 ·cases h

theorem EX{α:Type}[Inhabited α](cells:α→List Value)(k:Nat)(hlen:∀x,(cells x).length=k)(h0:0<k){W:World}{a:Addr}{n:Nat}(Q:α→Prop)(hg:∀i,i<n→∃x:α,Q x∧∀j,j<k→W.cell? (a.add (i*k+j))=(cells x)[j]?) :
  ∃l:List α,l.length=n∧(∀x∈l,Q x)∧aV W (some a) (l.flatMap cells):=by
 obtain⟨f,hf⟩:=Deep.choose_lt hg;refine⟨(List.range n).map f,by simp,?_,?_⟩
 ·intro x hx;obtain⟨i,hi,rfl⟩:=List.mem_map.1 hx;exact(hf i (List.mem_range.1 hi)).1
 ·intro j u hj;have hlt:=(gO.1 hj).1;rw[dS cells k hlen] at hlt;simp only[List.length_map,List.length_range] at hlt
  have hi:j / k<n:=Nat.div_lt_of_lt_mul (by rw[Nat.mul_comm];exact hlt);have hjm:j % k<k:=Nat.mod_lt _ h0;have hjd:j / k*k+j % k=j:=by rw[Nat.mul_comm];exact Nat.div_add_mod j k
  have h1:=dR cells k hlen ((List.range n).map f) (j / k) (j % k) (f (j / k)) (by rw[List.getElem?_map,List.getElem?_range hi];rfl) hjm;rw[hjd,hj] at h1;have h2:=(hf (j / k) hi).2 (j % k) hjm;rw[hjd,← h1] at h2;have h3:=(hf 0 (Nat.lt_of_le_of_lt (Nat.zero_le _) hi)).2 0 h0;have hlen0:=hlen (f 0);rw[gEz (by omega)] at h3;have hs:=World.cell?_spot h3;obtain⟨b,o,s⟩:=a;obtain rfl:s=none:=by simpa[Addr.add] using hs
  rw[Addr.add_lit] at h2;exact⟨b,o,rfl,h2⟩
instance:Inhabited Txt:=⟨ByteArray.empty⟩
instance:Inhabited Ed:=⟨⟨default,default,default⟩⟩
theorem JG(l:List Txt):(l.flatMap fun s=>[Value.string s])=aC l:=by
 induction l with
 | nil=>rfl
 | cons x l ih=>rw[List.flatMap_cons,ih];rfl

theorem EY{H:Type}{enc:TypeId × Value→H}{W:World}{fuel:Nat}{v:Value}{y:DataW H × List MemPlace}(t0:DataW.trod enc Tryz.prog W 0 (fun _=>true) true fuel 26 [v]=some y)
  (w0:∀n∈y.1.weights Tryz.prog 26,n≤reachBytes):∃A c N,v=.slice A (List.length N) c∧aV W A (aC N)∧N.length≤c∧N.length*16≤140737488355328∧∀s∈N,cT s:=by
 rcases qM Tryz.underlying26 (m:=2) (by kernel_rfl) t0 w0 with rfl|⟨a,n,c,rfl,hnc,hb,hi⟩
 ·exact⟨none,0,[],rfl,fun j u hj=>by simp[aC] at hj,Nat.le_refl _,by simp,by simp⟩
 ·obtain⟨l,hl,hq,hr⟩:=EX (fun s:Txt=>[Value.string s]) 1 (fun _=>rfl) (by decide) (W:=W) (a:=a) (n:=n) cT (fun i hin=>by
   obtain⟨cs,L,hlen,hat,hL⟩:=hi i (by omega);rw[uY] at hat hlen;obtain⟨c0,rfl⟩:=MU hlen;obtain⟨s,rfl,hs⟩:=nM hL;exact⟨s,hs,hat⟩)
  subst hl;rw[EV] at hb;simp only[reachBytes] at hb
  rw[JG] at hr;exact⟨_,c,l,rfl,hr,hnc,by omega,hq⟩
theorem JH{H:Type}{enc:TypeId × Value→H}{W:World}{fuel:Nat}{v:Value}{y:DataW H × List MemPlace}(t0:DataW.trod enc Tryz.prog W 0 (fun _=>true) true fuel 27 [v]=some y)
  (w0:∀n∈y.1.weights Tryz.prog 27,n≤reachBytes):∃A c E,v=.slice A (List.length E) c∧aV W A (aH E)∧E.length≤c∧E.length*48≤140737488355328∧∀x∈E,pE x:=by
 rcases qM Tryz.underlying27 (m:=2) (by kernel_rfl) t0 w0 with rfl|⟨a,n,c,rfl,hnc,hb,hi⟩
 ·exact⟨none,0,[],rfl,fun j u hj=>by simp[aH] at hj,Nat.le_refl _,by simp,by simp⟩
 ·obtain⟨l,hl,hq,hr⟩:=EX Ed.cells 3 (fun _=>rfl) (by decide) (W:=W) (a:=a) (n:=n) pE (fun i hin=>by
   obtain⟨cs,L,hlen,hat,hL⟩:=hi i (by omega);rw[qO] at hat hlen;obtain⟨f,rfl,hw⟩:=EW hlen hL;exact⟨f,hw,hat⟩)
  subst hl;rw[zT] at hb;simp only[reachBytes] at hb
  exact⟨_,c,l,rfl,hr,hnc,by omega,hq⟩
theorem wN:Tryz.prog.cellsOf 34=2:=by kernel_rfl
theorem zU:Tryz.prog.cellsOf 26=1:=by kernel_rfl
theorem EZ:Tryz.prog.cellsOf 27=1:=by kernel_rfl

end Go.Proofs.YtddffnonlmfhdaaGreatDoor.edRead
namespace Go.Proofs.YtddffnonlmfhdaaGreatDoor.edRead
open Go.ChangeShapes Go.WideShapes Go.ChangeAt Go.RowKit
set_option linter.unusedVariables false
section
variable {H:Type} {enc:TypeId × Value→H} {P:Program} {w:World} {base:Nat} {spare:Nat→Bool} {held:Bool}
theorem vB{t:TypeId}{f0 f1 f2 f3 f4 f5:Field}{fuel:Nat}{cs:List Value}{x:DataW H × List MemPlace}(ht:P.underlying t=some (.struct #[f0,f1,f2,f3,f4,f5]))(h:DataW.trod enc P w base spare held fuel t cs=some x) :
  ∃y0 y1 y2 y3 y4 y5 n,x.1=.agg [y0.1,y1.1,y2.1,y3.1,y4.1,y5.1]∧cs.length=P.cellsOf t∧DataW.trod enc P w base spare held n f0.type ((cs.drop f0.offset).take (P.cellsOf f0.type))=some y0 ∧
   DataW.trod enc P w base spare held n f1.type ((cs.drop f1.offset).take (P.cellsOf f1.type))=some y1∧DataW.trod enc P w base spare held n f2.type ((cs.drop f2.offset).take (P.cellsOf f2.type))=some y2 ∧
   DataW.trod enc P w base spare held n f3.type ((cs.drop f3.offset).take (P.cellsOf f3.type))=some y3∧DataW.trod enc P w base spare held n f4.type ((cs.drop f4.offset).take (P.cellsOf f4.type))=some y4 ∧
   DataW.trod enc P w base spare held n f5.type ((cs.drop f5.offset).take (P.cellsOf f5.type))=some y5:=by
 obtain⟨xs,n,_,rfl,hl,hlen,hf⟩:=DataW.trod_struct ht h;match xs,hlen with
 | [y0,y1,y2,y3,y4,y5],_=>exact⟨y0,y1,y2,y3,y4,y5,n,by simp,hl,by simpa using hf 0 f0 rfl,by simpa using hf 1 f1 rfl,by simpa using hf 2 f2 rfl,by simpa using hf 3 f3 rfl,by simpa using hf 4 f4 rfl,by simpa using hf 5 f5 rfl⟩
end
theorem zW:Tryz.prog.cellsOf 3=1:=by kernel_rfl
theorem JI:Tryz.prog.cellsOf 36=9:=by kernel_rfl
theorem JJ:Tryz.prog.bytesOf 36=128:=by kernel_rfl
instance:Inhabited OpC:=⟨⟨0,0,0,0,⟨ByteArray.empty,ByteArray.empty,ByteArray.empty⟩,none,0,none,0,[],[]⟩⟩
theorem mT{H:Type}{P:Program}{e:TypeId}{d:DataW H}:∀{l:List (DataW H)},d∈l→∀n∈d.weights P e,n∈DataW.weightsAll P e l
 | x::l,h,n,hn=>by
  rw[DataW.weightsAll,List.mem_append];rcases List.mem_cons.1 h with rfl|h
  ·exact .inl hn
  ·exact .inr (mT h n hn)
theorem JK{α:Type}:∀{l:List α},l.length=9→∃c0 c1 c2 c3 c4 c5 c6 c7 c8,l=[c0,c1,c2,c3,c4,c5,c6,c7,c8]
 | [c0,c1,c2,c3,c4,c5,c6,c7,c8],_=>⟨c0,c1,c2,c3,c4,c5,c6,c7,c8,rfl⟩
theorem zX{H:Type}{enc:TypeId × Value→H}{W:World}{fuel:Nat}{c0 c1:Value}{y:DataW H × List MemPlace}(hf:DataW.trod enc Tryz.prog W 0 (fun _=>true) true fuel 34 [c0,c1]=some y)
  (hz:∀n∈y.1.weights Tryz.prog 34,n≤reachBytes):∃A c B d N E,c0=.slice A (List.length N) c∧c1=.slice B (List.length E) d∧dX W A c B d N E:=by
 obtain⟨y0,y1,n,hx,-,t0,t1⟩:=trod_struct2 Tryz.underlying34 hf;simp only[zU,EZ,List.drop_zero,List.take_succ_cons,List.take_zero,List.drop_succ_cons] at t0 t1
 subst hx;have w0:∀n∈y0.1.weights Tryz.prog 26,n≤reachBytes:=fun n hn=>hz n (by
  simp only[DataW.weights,Tryz.underlying34,DataW.weightsEach,List.map_cons,List.map_nil,List.mem_append]
  exact .inl hn)
 have w1:∀n∈y1.1.weights Tryz.prog 27,n≤reachBytes:=fun n hn=>hz n (by
  simp only[DataW.weights,Tryz.underlying34,DataW.weightsEach,List.map_cons,List.map_nil,List.mem_append]
  exact .inr (.inl hn))
 obtain⟨A,c,N,rfl,hr0,hc0,hb0,hq0⟩:=EY t0 w0;obtain⟨B,d,E,rfl,hr1,hc1,hb1,hq1⟩:=JH t1 w1;exact⟨A,c,B,d,N,E,rfl,rfl,hr0,hr1,hc0,hc1,hb0,hb1,hq0,hq1⟩
theorem MV{H:Type}{enc:TypeId × Value→H}{W:World}{fuel:Nat}{cs:List Value}{y:DataW H × List MemPlace}(hl:cs.length=9)(t:DataW.trod enc Tryz.prog W 0 (fun _=>true) true fuel 36 cs=some y)
  (hz:∀n∈y.1.weights Tryz.prog 36,n≤reachBytes):∃o:OpC,cs=o.cells∧zR W o:=by
 obtain⟨c0,c1,c2,c3,c4,c5,c6,c7,c8,rfl⟩:=JK hl;obtain⟨y0,y1,y2,y3,y4,y5,n,hx,-,t0,t1,t2,t3,t4,t5⟩:=vB Tryz.underlying36 t;simp only[zW,qO,wN,List.drop_zero,List.take_succ_cons,List.take_zero,List.drop_succ_cons] at t0 t1 t2 t3 t4 t5
 have w5:∀n∈y5.1.weights Tryz.prog 34,n≤reachBytes:=fun n hn=>hz n (by
  rw[hx];simp only[DataW.weights,Tryz.underlying36,DataW.weightsEach,List.map_cons,List.map_nil,List.mem_append]
  exact .inr (.inr (.inr (.inr (.inr (.inl hn))))))
 obtain⟨i0,e,-,-⟩:=DataW.trod_int Tryz.underlying3 t0;injection e with e _;subst e;obtain⟨i1,e,-,-⟩:=DataW.trod_int Tryz.underlying3 t1;injection e with e _;subst e;obtain⟨i2,e,-,-⟩:=DataW.trod_int Tryz.underlying3 t2;injection e with e _;subst e;obtain⟨i3,e,-,-⟩:=DataW.trod_int Tryz.underlying3 t3;injection e with e _;subst e;have hk:=(keyLits_of_trod 2 32 (by kernel_rfl) n _ _ t4).1;obtain⟨x,hxc,ok⟩:=EW rfl hk;injection hxc with e4 hxc;injection hxc with e5 hxc;injection hxc with e6 _;obtain⟨A,c,B,d,N,E,rfl,rfl,hG⟩:=zX t5 w5;exact⟨⟨i0,i1,i2,i3,x,A,c,B,d,N,E⟩,by rw[e4,e5,e6];rfl,hG,ok⟩
theorem JL{H:Type}{enc:TypeId × Value→H}{W:World}{fuel:Nat}{v:Value}{y:DataW H × List MemPlace}(t0:DataW.trod enc Tryz.prog W 0 (fun _=>true) true fuel 22 [v]=some y)
  (w0:∀n∈y.1.weights Tryz.prog 22,n≤reachBytes):∃A c S,v=.slice A (List.length S) c∧aV W A (mF S)∧S.length≤10000000000000∧∀x∈S,zR W x:=by
 rcases Deep.open_slice Tryz.underlying22 t0 with ⟨hcs,_⟩|⟨a,len,cap,m',n',D,Pl,hcs,_,hl,hm,hmm,hx,hi⟩
 ·injection hcs with hcs;subst hcs;exact⟨none,0,[],rfl,fun j u hj=>by simp[mF] at hj,by simp,by simp⟩
 ·injection hcs with hcs;subst hcs;obtain rfl:m'=cap:=by rw[hmm];exact if_pos rfl
  subst hx;have hb:=w0 (m'*Tryz.prog.bytesOf 36) (by
   simp only[DataW.weights,Tryz.underlying22,List.length_map,List.length_range,show len+(m'-len)=m' by omega]
   simp)
  have hd:∀i,i<len→∀n∈(D i).weights Tryz.prog 36,n≤reachBytes:=fun i hi' n hn=>w0 n (by
   simp only[DataW.weights,Tryz.underlying22,List.mem_cons,List.mem_append]
   exact .inr (.inl (mT (List.mem_map.2 ⟨i,List.mem_range.2 hi',rfl⟩) n hn)))
  obtain⟨l,hll,hq,hr⟩:=EX OpC.cells 9 (fun _=>rfl) (by decide) (W:=W) (a:=a) (n:=len) (fun v=>zR W v) (fun i hin=>by
   obtain⟨cs',hc,ht'⟩:=hi i (by omega);obtain⟨_,hlen,hat⟩:=World.cells?_some hc;rw[JI] at hlen hat;obtain⟨v,rfl,h1⟩:=MV hlen ht' (hd i hin);exact⟨v,h1,fun j hj=>by
    have:=hat j hj;rw[Deep.add_add] at this;exact this⟩)
  subst hll;rw[JJ] at hb;simp only[reachBytes] at hb
  exact⟨_,m',l,rfl,hr,by omega,hq⟩
theorem MW{H:Type}{enc:TypeId × Value→H}{W:World}{base:Nat}{v:Value}{d0:DataW H}{p0:List MemPlace}(hv:Value.okWide Tryz.prog W .any base 22 v)(h:DataW.Trod enc Tryz.prog W 0 (fun _=>true) true 22 v d0 p0)
  (hz:∀n∈d0.weights Tryz.prog 22,n≤reachBytes):∃A c S,v=.slice A (List.length S) c∧aV W A (mF S)∧S.length≤10000000000000∧∀x∈S,zR W x:=by
 obtain⟨a,len,cap,rfl⟩:=okWide_slice Tryz.underlying22 hv;obtain⟨fuel,hf⟩:=h;exact JL (y:=(d0,p0)) hf hz
end Go.Proofs.YtddffnonlmfhdaaGreatDoor.edRead
