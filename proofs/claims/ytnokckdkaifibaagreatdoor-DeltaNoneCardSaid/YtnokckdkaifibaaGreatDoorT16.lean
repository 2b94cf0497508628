/- delta: what a new edge brings (AddEdge's second function); delta: what comes to a kept closure (plain law; its parts in memory); delta: a node comes (come, AddNode). (Written by mkDlW.py.); delta: an edge comes (come, AddEdge). (Written by mkDlW.py.); delta: New; layer 23's laws: awake; DeltaNone: the walk; A graph, a list of texts, a list of edges that come in, read: the slices lie in memory, and none is too great; An edge, a row of texts, a row of edges that come in, read; A grammar in weak normal form, a fact, a production that come in, read. -/
import Derived.Test.YtnokckdkaifibaaGreatDoorT14
import Derived.Test.YtnokckdkaifibaaGreatDoorT15
import Derived.ProofKit
import Derived.OpenShut
import Derived.ShutString
import Derived.ChangeOld
import Derived.ChangeSame
import Derived.Below
import Derived.Deep.Slices
import Derived.MapViews
import Derived.SizedLaws
import Derived.Test.YtnokckdkaifibaaGreatDoorT01
import Derived.Test.YtnokckdkaifibaaGreatDoorT12
set_option linter.unusedVariables false
set_option linter.unusedSimpArgs false
set_option maxHeartbeats 16000000
set_option maxRecDepth 100000
namespace Go.Proofs.YtnokckdkaifibaaGreatDoor
open Go.RowKit Go.Shelf
def BrB(PV:List Pv)(labels:List Txt)(lb:Txt)(u v:Nat)(B B':aX)(q:Nat):Prop:=(∀k,WdO (B' k))∧∀k i j,aY (B' k) i j=true↔aY (B k) i j=true∨(i=u∧j=v∧∃m x s,PV[m]?=some x∧m<q∧x.pr.body=[s]∧labels[s.at_.toNat]?=some lb∧x.pr.head.toNat=k)
section
variable {PV:List Pv} {labels:List Txt} {lb:Txt} {u v:Nat} {B B':aX} {q:Nat}
theorem BrB.start(h:∀k,WdO (B k)):BrB PV labels lb u v B B 0:=⟨h,fun k i j=>by
 constructor
 ·exact .inl
 ·rintro (h|⟨_,_,m,x,s,_,h,_⟩)
  ·exact h
  ·omega⟩
theorem BrB.skip(h:BrB PV labels lb u v B B' q){x:Pv}(hx:PV[q]?=some x)(hb:∀s,x.pr.body=[s]→labels[s.at_.toNat]?≠some lb):BrB PV labels lb u v B B' (q+1):=⟨h.1,fun k i j=>by
 rw[h.2];constructor
 ·rintro (h1|⟨h1,h2,m,y,s,h3,h4,h5⟩)
  ·exact .inl h1
  ·exact .inr ⟨h1,h2,m,y,s,h3,by omega,h5⟩
 ·rintro (h1|⟨h1,h2,m,y,s,h3,h4,h5,h6,h7⟩)
  ·exact .inl h1
  ·refine .inr ⟨h1,h2,m,y,s,h3,?_,h5,h6,h7⟩;by_cases e:m=q
   ·subst e;rw[hx] at h3;obtain rfl:=Option.some.inj h3;exact(hb s h5 h6).elim
   ·omega⟩
theorem BrB.step(h:BrB PV labels lb u v B B' q){x:Pv}(hx:PV[q]?=some x){s:Sy}(hb:x.pr.body=[s])(hl:labels[s.at_.toNat]?=some lb){a:Nat}(ha:x.pr.head.toNat=a)(hu:u<64)(hv:v<64):BrB PV labels lb u v B (upM B' a (setO (B' a) u v)) (q+1):=by
 refine⟨fun k=>?_,fun k i j=>?_⟩
 ·by_cases e:k=a
  ·subst e;rw[cJ];exact EN (h.1 _) u v hv
  ·rw[cV B' _ e];exact h.1 k
 ·by_cases e:k=a
  ·subst e;rw[cJ,EO (h.1 _) hu hv,h.2];constructor
   ·rintro ((h1|⟨h1,h2,m,y,t,h3,h4,h5⟩)|⟨rfl,rfl⟩)
    ·exact .inl h1
    ·exact .inr ⟨h1,h2,m,y,t,h3,by omega,h5⟩
    ·exact .inr ⟨rfl,rfl,q,x,s,hx,by omega,hb,hl,ha⟩
   ·rintro (h1|⟨h1,h2,_⟩)
    ·exact .inl (.inl h1)
    ·exact .inr ⟨h1,h2⟩
  ·rw[cV B' _ e,h.2];constructor
   ·rintro (h1|⟨h1,h2,m,y,t,h3,h4,h5⟩)
    ·exact .inl h1
    ·exact .inr ⟨h1,h2,m,y,t,h3,by omega,h5⟩
   ·rintro (h1|⟨h1,h2,m,y,t,h3,h4,h5,h6,h7⟩)
    ·exact .inl h1
    ·refine .inr ⟨h1,h2,m,y,t,h3,?_,h5,h6,h7⟩;by_cases e2:m=q
     ·subst e2;rw[hx] at h3;obtain rfl:=Option.some.inj h3;exact(e (h7.symm.trans ha)).elim
     ·omega
end
def BrI(w:World)(F:Nat→Prop)(vn:Value)(nts:Nat)(PV:List Pv)(labels:List Txt)(lb:Txt)(u v:Nat)(B:aX)(q:Nat)(W:World):Prop:=∃B',oK w F vn 32 nts B' W∧BrB PV labels lb u v B B' q
theorem zO(w:World)(K Fg FT F:Nat→Prop)(p nts pc cl pg:Nat)(PA LA:Option Addr)(PV:List Pv)(labels:List Txt)(mv:Value)(G:Gr)(T:aX)(h:DcI w K Fg FT p nts pc cl pg PA LA PV labels mv G T)(ok:GOk G)(vn:Value)(B:aX)(hF:MtS w F vn 32 nts B)(hd:∀k,F k→¬K k)
  (hg:∀x∈PV,vV nts x.pr) (h1:∀x∈PV,∀s,x.pr.body=[s]→0≤s.at_∧s.at_<(labels.length:Int)) (hw:∀k,WdO (B k)) (hm:PV.length≤140737488355328) (hl:labels.length≤140737488355328)
  (g1 g2 g3 g4:Nat) (fr lb tn:Txt) (hfr:eL fr) (hto:eL tn) (c1:w.cell? ⟨g1,0,none⟩=some (.pointer (some ⟨p,0,none⟩))) (c2:w.cell? ⟨g2,0,none⟩=some (.string fr)) (c3:w.cell? ⟨g3,0,none⟩=some (.string tn)) (c4:w.cell? ⟨g4,0,none⟩=some (.string lb)) (n1:¬F g1) (n4:¬F g4)
  (u v:Nat) (hu:OI G.N fr=.tuple #[.int .i64 (u:Int),.int .i64 0]) (hv:OI G.N tn=.tuple #[.int .i64 (v:Int),.int .i64 0]) (hu32:u<32) (hv32:v<32) :
  Calls Tryz.prog 47 #[vn,.pointer (some ⟨g1,0,none⟩),.pointer (some ⟨g2,0,none⟩),.pointer (some ⟨g3,0,none⟩),.pointer (some ⟨g4,0,none⟩)] w (fun e w'=>e=.returned (.tuple #[])∧BrI w F vn nts PV labels lb u v B PV.length w'):=by
 obtain⟨A,c,rfl⟩:=hF.form;have q3:w.cell? ⟨p,3,none⟩=some (.pointer (some ⟨pg,0,none⟩)):=h.cp.blk.cell 3;have q1:w.cell? ⟨p,1,none⟩=some (.slice PA PV.length pc):=h.cp.blk.cell 1;obtain⟨m,hmm⟩:∃m,PV.length=m:=⟨_,rfl⟩;rw[hmm] at q1 hm ⊢;have HM:=hIz hmm;clear hmm;have bd:Below w.heap.size w w.drew:=bR.drew;have hno1:=DH w.drew Fg pg G (h.gr.below bd) ok fr hfr;have bd2:Below w.heap.size w w.drew.drew:=bd.drew;have hno2:=DH w.drew.drew Fg pg G (h.gr.below bd2) ok tn hto;rw[hu] at hno1;rw[hv] at hno2;have H:=aI8 h hF hd hg h1 hw n1 n4;have BD:=hIz bd2;clear h hF hd hg h1 hw n1 n4 hu hv bd bd2;go_enter Tryz.func47,Tryz.ntmps47;go_upto_region 0 with (fail);refine aR (fun W:World=>W.cell? ⟨g1,0,none⟩=some (.pointer (some ⟨p,0,none⟩))∧W.cell? ⟨p,3,none⟩=some (.pointer (some ⟨pg,0,none⟩))∧W.cell? ⟨g2,0,none⟩=some (.string fr)) 11 [(0,true),(1,true),(2,true),(3,true),(4,true),(5,false),(6,true),(7,true),(8,true),(9,true),(10,true)] (by kernel_rfl) (by kernel_rfl) (fun _ _ d _ _ h=>by cases d <;> exact h) ⟨c1,q3,c2⟩ ?_
 iterate 5 refine aD rfl ?_
 refine aJ rfl rfl (fun K hK=>?_);go_simp;refine hno1.mono ?_;rintro e V ⟨rfl,hV⟩;subst V;refine hK _ _ (fun _=>⟨c1,q3,c2⟩) ?_;clear hK K;(try simp only[Act.put,gA,gS,gZ,sA,sZ,sS])
 iterate 5 refine aD rfl ?_
 refine aK ?_;go_upto_region 1 with (fail);refine aR (fun W:World=>W.cell? ⟨g1,0,none⟩=some (.pointer (some ⟨p,0,none⟩))∧W.cell? ⟨p,3,none⟩=some (.pointer (some ⟨pg,0,none⟩))∧W.cell? ⟨g3,0,none⟩=some (.string tn)) 11 [(0,true),(1,true),(2,true),(3,true),(4,true),(5,false),(6,true),(7,true),(8,true),(9,true),(10,true)] (by kernel_rfl) (by kernel_rfl) (fun _ _ d _ _ h=>by cases d <;> exact h) ⟨c1,q3,c3⟩ ?_
 iterate 5 refine aD rfl ?_
 refine aJ rfl rfl (fun K hK=>?_);go_simp;refine hno2.mono ?_;rintro e V ⟨rfl,hV⟩;subst V;refine hK _ _ (fun _=>⟨c1,q3,c3⟩) ?_;clear hK K;(try simp only[Act.put,gA,gS,gZ,sA,sZ,sS])
 iterate 5 refine aD rfl ?_
 refine aK ?_;clear hno1 hno2;have C:=aI2 c1 c4;have d1:=aS BD.out c1;have dq:=aS BD.out q1;generalize w.drew.drew=V2 at BD d1 dq ⊢;clear c1 c2 c3 c4 q3 q1;go_upto_region 2 with (fail);go_wp2;clear d1 dq;go_loopw [36] (fun i wr=>∃q:Nat,q≤m∧i=.int .i64 (q:Int)∧Hid (BrI w F (.slice A nts c) nts PV labels lb u v B q wr)) (fun i _=>m-(intOf i).toNat)
 case atStart=>exact⟨0,Nat.zero_le _,rfl,hIz ⟨B,oK.after BD.out ⟨F,H.out.2.1.below BD.out,Upd.refl _ _,fun _ h=>.inl h⟩,BrB.start H.out.2.2.2.2.2.1⟩⟩
 case round =>
  obtain⟨q,hq,rfl,hi⟩:=hrel;by_cases hlt:q<m
  ·have hltI:(q:Int)<(m:Int):=by omega
   obtain⟨B1,⟨F1,hm1,hu1,hF1⟩,hB1⟩:=hi.out;obtain⟨x,hx⟩:∃x,PV[q]?=some x:=⟨_,gEz (by rw[HM.out];omega)⟩;have hxm:=mG hx;have hc1:=H.out.1.cp.upd hu1 (fun k hk hf=>H.out.2.2.1 k hf hk);have e1:=(hu1.cell (p:=⟨g1,0,none⟩) (World.block_lt_of_cell? w _ C.out.1) H.out.2.2.2.2.2.2.1).trans C.out.1;have e4:=(hu1.cell (p:=⟨g4,0,none⟩) (World.block_lt_of_cell? w _ C.out.2) H.out.2.2.2.2.2.2.2).trans C.out.2;obtain⟨pb,po,rfl,c0,c1⟩:=hc1.pv.1.pv hx;have hgx:=H.out.2.2.2.1 x hxm;obtain⟨a,ha⟩:∃a:Nat,x.pr.head=(a:Int):=⟨x.pr.head.toNat,(Int.toNat_of_nonneg hgx.h0).symm⟩;have han:a<nts:=by have:=hgx.h1;omega
   have hta:x.pr.head.toNat=a:=by rw[ha];exact Int.toNat_natCast a
   rw[ha] at c0;have b1:Below wr.heap.size wr (wr.alloc (.cells #[.int .i64 (a:Int),.slice x.adr x.pr.body.length x.cap] 76)):=bR.alloc (Nat.le_refl _) _;have kb:=Blk.new wr 76 #[.int .i64 (a:Int),.slice x.adr x.pr.body.length x.cap];by_cases h2:x.pr.body.length=1
   ·obtain⟨s,hst⟩:∃s,x.pr.body=[s]:=by
     match hbody:x.pr.body,h2 with
     | [s],_=>exact⟨s,rfl⟩
    obtain⟨s0,s1⟩:=H.out.2.2.2.2.1 x hxm s hst;have hrow:=hc1.pv.2 x hxm;rw[hst] at hrow;obtain⟨la,l⟩:=s;dsimp only at s0 s1
    obtain⟨l,rfl⟩:∃l':Nat,l=(l':Int):=⟨l.toNat,(Int.toNat_of_nonneg s0).symm⟩;obtain⟨y,hy⟩:∃y,labels[l]?=some y:=⟨_,gEz (by omega)⟩;obtain⟨nl,hnl⟩:∃nl,labels.length=nl:=⟨_,rfl⟩;have q2:wr.cell? ⟨p,2,none⟩=some (.slice LA nl cl):=by rw[← hnl];exact hc1.blk.cell 2
    obtain⟨lg,lo,rfl,cy⟩:=hc1.lab.txt hy;obtain⟨gb,gof,hadr,-⟩:=hrow 0 (.bool la) rfl;obtain⟨gb',gof',e,d1⟩:=hrow 1 (.int .i64 (l:Int)) rfl;rw[hadr] at e;injection e with e;injection e with e5 e6;subst e5;subst e6;rw[hadr,h2] at c1 b1 kb;have hlI:(l:Int)<(nl:Int):=by omega
    have b2:=fun n=>b1.trans (Below.mono (show Below _ _ ((wr.alloc (.cells #[.int .i64 (a:Int),.slice (some ⟨gb,gof,none⟩) 1 x.cap] 76)).drewN n) from⟨rfl,rfl,rfl,Nat.le_refl _,fun _ _=>rfl⟩) b1.size)
    have z0:(wr.alloc (.cells #[.int .i64 (a:Int),.slice (some ⟨gb,gof,none⟩) 1 x.cap] 76)).cell? ⟨wr.heap.size,0,none⟩=some (.int .i64 (a:Int)):=kb.cell 0;have z1:(wr.alloc (.cells #[.int .i64 (a:Int),.slice (some ⟨gb,gof,none⟩) 1 x.cap] 76)).cell? ⟨wr.heap.size,1,none⟩=some (.slice (some ⟨gb,gof,none⟩) 1 x.cap):=kb.cell 1;have d1:=aS b1 d1;have v1:=aS b1 e1;have v4:=aS b1 e4;have v2:=aS b1 q2;have vy:=aS b1 cy;have hkw:IntKind.i64.wrap ((q:Int)+1)=(q:Int)+1:=IntWalk.i64_in _ (by omega);by_cases hyl:y=lb
    ·subst hyl;have hst2:=hB1.step hx hst (by rw[Int.toNat_natCast];exact hy) hta (u:=u) (v:=v) (by omega) (by omega);have HX:=aI4 (fun n=>hm1.below (b2 n)) (fun n=>hu1.trans (Upd.of_below (b2 n) (fun _=>False)) (fun _ h=>h.elim)) hF1 hst2;have hanI:(a:Int)<(nts:Int):=by omega
     clear hx hxm hc1 e1 e4 hgx ha hta b1 b2 kb h2 hm1 hu1 hF1 hB1 hi hst hrow s0 s1 hy hnl q2 cy hadr hst2;go_upto_region 5 with (fail);generalize wr.alloc (.cells #[.int .i64 (a:Int),.slice (some ⟨gb,gof,none⟩) 1 x.cap] 76)=V at HX z0 z1 d1 v1 v4 v2 vy ⊢;clear c0 c1;go_quiet (fail)
     obtain⟨g,c',q',Fq,e,cg,hqs,-,hstep⟩:=(HX.out.1 nq).turn han;injection e with e _ e3;subst e;subst e3;have hset:=qS (V.drewN nq) Fq q' 32 (B1 a) hqs u v (by omega) (by omega) (by omega) (by omega);have HS:=hIz hstep;clear hstep hqs d1 v1 v4 v2 vy z1;go_wp2_with fail;refine hset.mono ?_;clear hset;rintro e W3 ⟨rfl,hto⟩;have FIN:=hIz (show BrI w F (.slice (some ⟨g,0,none⟩) nts c) nts PV labels y u v B (q+1) W3 from⟨_,oK.trans (HX.out.2.1 nq) HX.out.2.2.1 (HS.out _ W3 hto),HX.out.2.2.2⟩);clear hto;go_wp2;go_roundw
     case rel=>exact⟨q+1,by omega,by go_num,FIN⟩
     case measure=>simp[intOf];omega
    ·have FIN:=hIz (show ∀n,BrI w F (.slice A nts c) nts PV labels lb u v B (q+1) ((wr.alloc (.cells #[.int .i64 (a:Int),.slice (some ⟨gb,gof,none⟩) 1 x.cap] 76)).drewN n) from fun n =>
      ⟨B1,oK.trans hu1 hF1 ⟨F1,hm1.below (b2 n),Upd.of_below (b2 n) _,fun _ h=>.inl h⟩,hB1.skip hx (fun s e h=>by
       rw[hst] at e;injection e with e;subst e;rw[Int.toNat_natCast,hy] at h;exact hyl (Option.some.inj h))⟩)
     have hyb:(ByteArray.toList y==ByteArray.toList lb)=false:=by rw[txt_beq];exact decide_eq_false hyl
     clear hx hxm hc1 e1 e4 hgx ha han hta b1 b2 kb h2 hm1 hu1 hF1 hB1 hi hst hrow s0 s1 hy hnl q2 cy hadr;go_upto_region 5 with (fail);generalize wr.alloc (.cells #[.int .i64 (a:Int),.slice (some ⟨gb,gof,none⟩) 1 x.cap] 76)=V at FIN z0 z1 d1 v1 v4 v2 vy ⊢;clear c0 c1;go_quiet (fail)
     go_wp2;go_roundw
     case rel=>exact⟨q+1,by omega,by go_num,hIz (FIN.out _)⟩
     case measure=>simp[intOf];omega
   ·have hc2:((x.pr.body.length:Int)==1)=false:=by simp;omega
    have FIN:=hIz (show ∀n,BrI w F (.slice A nts c) nts PV labels lb u v B (q+1) ((wr.alloc (.cells #[.int .i64 (a:Int),.slice x.adr x.pr.body.length x.cap] 76)).drewN n) from fun n =>
     have bn:=b1.trans (Below.mono (show Below _ _ ((wr.alloc (.cells #[.int .i64 (a:Int),.slice x.adr x.pr.body.length x.cap] 76)).drewN n) from⟨rfl,rfl,rfl,Nat.le_refl _,fun _ _=>rfl⟩) b1.size);⟨B1,oK.trans hu1 hF1 ⟨F1,hm1.below bn,Upd.of_below bn _,fun _ h=>.inl h⟩,hB1.skip hx (fun s e=>(h2 (by rw[e];rfl)).elim)⟩)
    have k0:(wr.alloc (.cells #[.int .i64 (a:Int),.slice x.adr x.pr.body.length x.cap] 76)).cell? ⟨wr.heap.size,1,none⟩=some (.slice x.adr x.pr.body.length x.cap):=kb.cell 1;have hkw:IntKind.i64.wrap ((q:Int)+1)=(q:Int)+1:=IntWalk.i64_in _ (by omega);clear hx hxm hc1 e1 e4 hgx ha han hta b1 kb h2 hm1 hu1 hF1 hB1 hi;generalize x.pr.body.length=vl at *;go_upto_region 5 with (fail);generalize wr.alloc (.cells #[.int .i64 (a:Int),.slice x.adr vl x.cap] 76)=V at FIN k0 ⊢;clear c0 c1;go_quiet (fail)
    go_wp2;go_roundw
    case rel=>exact⟨q+1,by omega,by go_num,hIz (FIN.out _)⟩
    case measure=>simp[intOf];omega
  ·obtain rfl:q=m:=by omega
   have FIN:=hIz hi.out;clear hi;go_wp2;(try simp only[Exit.inBlock,Exit.then])
   exact bodyPost_end (results_none rfl _ _ _) rfl ⟨rfl,FIN.out⟩
open Go.RowKit Go.Shelf
structure zZ(nts:Nat)(P:List Pr)(labels:List Txt)(G:Gr)(T:aX):Prop where
 ok:GOk G
 g:∀p∈P,vV nts p
 l1:∀p∈P,∀s,p.body=[s]→0≤s.at_∧s.at_<(labels.length:Int)
 wd:∀k,WdO (T k)
 der:∀k,k<nts→∀i j,aY (T k) i j=true↔gU P (ElG G labels) G.N.length (k:Int) i j
 n1:1≤nts
 n5:nts≤512
 pl:P.length≤8192
 ll:labels.length≤16
theorem xT(N:List Txt)(s:Txt):N <+: cQ N s:=by
 unfold cQ;split
 ·exact List.prefix_refl N
 ·exact List.prefix_append N [s]
theorem rR{N N':List Txt}(h:N <+: N'){i:Nat}{s:Txt}(hs:N[i]?=some s):N'[i]?=some s:=by
 obtain⟨t,rfl⟩:=h;rw[List.getElem?_append_left (gO.1 hs).1];exact hs
theorem KF{N:List Txt}(h:N.Nodup){i j:Nat}{s:Txt}(hi:N[i]?=some s)(hj:N[j]?=some s):i=j:=by
 rw[← lT h hi,← lT h hj]
theorem zP(G:Gr)(x:Ed):(∃e,aO G x=(G,false,e))∨(aO G x=(⟨cQ (cQ G.N x.fr) x.to,G.X++[x]⟩,true,0)∧x ∉ G.X):=by
 unfold aO;split
 ·exact .inl ⟨_,rfl⟩
 ·rename_i h1
  split
  ·exact .inr ⟨rfl,h1⟩
  ·exact .inl ⟨_,rfl⟩
theorem EU{G:Gr}{N':List Txt}(hp:G.N <+: N')(hn:N'.Nodup)(he:∀x∈G.X,x.fr∈G.N∧x.to∈G.N){labels:List Txt}{k:Int}{i j:Nat}:ElG ⟨N',G.X⟩ labels k i j↔ElG G labels k i j:=by
 constructor
 ·rintro⟨lb,h1,x,hx,h2,h3,h4⟩;obtain⟨m1,m2⟩:=he x hx;obtain⟨a,ha⟩:=List.getElem?_of_mem m1;obtain⟨b,hb⟩:=List.getElem?_of_mem m2;obtain rfl:=KF hn h3 (rR hp ha);obtain rfl:=KF hn h4 (rR hp hb);exact⟨lb,h1,x,hx,h2,ha,hb⟩
 ·rintro⟨lb,h1,x,hx,h2,h3,h4⟩;exact⟨lb,h1,x,hx,h2,rR hp h3,rR hp h4⟩
theorem QU{G:Gr}{N':List Txt}{x:Ed}(hp:G.N <+: N')(hn:N'.Nodup)(he:∀x∈G.X,x.fr∈G.N∧x.to∈G.N){labels:List Txt}{k:Int}{i j:Nat}:ElG ⟨N',G.X++[x]⟩ labels k i j↔ElG G labels k i j∨(labels[k.toNat]?=some x.lb∧N'[i]?=some x.fr∧N'[j]?=some x.to):=by
 constructor
 ·rintro⟨lb,h1,y,hy,h2,h3,h4⟩;rcases List.mem_append.1 hy with hy|hy
  ·exact .inl ((EU hp hn he).1 ⟨lb,h1,y,hy,h2,h3,h4⟩)
  ·rw[List.mem_singleton] at hy;subst hy;subst h2;exact .inr ⟨h1,h3,h4⟩
 ·rintro (h|⟨h1,h2,h3⟩)
  ·obtain⟨lb,h1,y,hy,h2,h3,h4⟩:=(EU hp hn he).2 h;exact⟨lb,h1,y,List.mem_append.2 (.inl hy),h2,h3,h4⟩
  ·exact⟨x.lb,h1,x,List.mem_append.2 (.inr (List.mem_singleton.2 rfl)),rfl,h2,h3⟩
section
variable {nts:Nat} {labels:List Txt} {G:Gr} {T B1 B2:aX} {PV:List Pv}
theorem zZ.node(h:zZ nts (PV.map (·.pr)) labels G T){s:Txt}(hs:s ∉ G.N)(ok':GOk ⟨G.N++[s],G.X⟩)(hn:NdB PV G.N.length (G.N.length+1) noM B1 PV.length G.N.length):DlI (PV.map (·.pr)) (ElG ⟨G.N++[s],G.X⟩ labels) (G.N.length+1) nts T B1:=by
 have hel:∀k i j,ElG ⟨G.N++[s],G.X⟩ labels k i j↔ElG G labels k i j:=fun k i j=>EU (List.prefix_append _ _) ok'.nd h.ok.ends
 refine DlI.start h.g h.wd hn.1 h.der (fun k i j e=>(hel k i j).2 e) (Nat.le_succ _) (fun p hp hb i h1 h2=>?_) (fun p hp t hb i j h1 h2=>absurd ((hel _ _ _).1 h1) h2) (fun k hk i j hb=>?_)
 ·obtain⟨x,hx,rfl⟩:=List.mem_map.1 hp;obtain⟨m,hm⟩:=List.getElem?_of_mem hx;exact(hn.2 _ _ _).2 (.inr ⟨rfl,h1,m,x,hm,hb,rfl,.inl ⟨(gO.1 hm).1,h2⟩⟩)
 ·rcases (hn.2 k i j).1 hb with h1|⟨rfl,h1,m,x,hm,hbd,hh,h2⟩
  ·cases h1
  ·have hx:=mG hm;have hpr:x.pr∈PV.map (·.pr):=List.mem_map.2 ⟨x,hx,rfl⟩;have h0:=(h.g _ hpr).h0;have hlt:i<G.N.length+1:=h2.elim (fun h=>h.2) (fun h=>by omega);have e:x.pr=⟨(k:Int),[]⟩:=by
    have e1:x.pr.head=(k:Int):=by omega
    rw[← e1,← hbd]
   rw[e] at hpr;exact .eps hpr hlt
theorem zZ.edge(h:zZ nts (PV.map (·.pr)) labels G T){x:Ed}{N':List Txt}{u v:Nat}(hp:G.N <+: N')(ok':GOk ⟨N',G.X++[x]⟩)(hu:N'[u]?=some x.fr)(hv:N'[v]?=some x.to)
  (hn:NdB PV G.N.length N'.length noM B1 PV.length G.N.length) (hb:BrB PV labels x.lb u v B1 B2 PV.length):DlI (PV.map (·.pr)) (ElG ⟨N',G.X++[x]⟩ labels) N'.length nts T B2:=by
 have hel:∀k i j,ElG ⟨N',G.X++[x]⟩ labels k i j↔ElG G labels k i j∨(labels[k.toNat]?=some x.lb∧N'[i]?=some x.fr∧N'[j]?=some x.to):=fun k i j=>QU hp ok'.nd h.ok.ends
 refine DlI.start h.g h.wd hb.1 h.der (fun k i j e=>(hel k i j).2 (.inl e)) hp.length_le (fun p hp hbd i h1 h2=>?_) (fun p hp t hbd i j h1 h2=>?_) (fun k hk i j hbt=>?_)
 ·obtain⟨y,hy,rfl⟩:=List.mem_map.1 hp;obtain⟨m,hm⟩:=List.getElem?_of_mem hy;exact(hb.2 _ _ _).2 (.inl ((hn.2 _ _ _).2 (.inr ⟨rfl,h1,m,y,hm,hbd,rfl,.inl ⟨(gO.1 hm).1,h2⟩⟩)))
 ·rcases (hel _ _ _).1 h1 with h1|⟨h1,h3,h4⟩
  ·exact absurd h1 h2
  ·obtain⟨y,hy,rfl⟩:=List.mem_map.1 hp;obtain⟨m,hm⟩:=List.getElem?_of_mem hy;exact(hb.2 _ _ _).2 (.inr ⟨KF ok'.nd h3 hu,KF ok'.nd h4 hv,m,y,t,hm,(gO.1 hm).1,hbd,h1,rfl⟩)
 ·have hkey:∀y:Pv,y∈PV→y.pr.head.toNat=k→(⟨(k:Int),y.pr.body⟩:Pr)∈PV.map (·.pr):=fun y hy hh=>by
   have hpr:y.pr∈PV.map (·.pr):=List.mem_map.2 ⟨y,hy,rfl⟩;have h0:=(h.g _ hpr).h0;have e1:y.pr.head=(k:Int):=by omega
   rw[← e1];exact hpr
  rcases (hb.2 k i j).1 hbt with h1|⟨rfl,rfl,m,y,t,hm,-,hbd,hl,hh⟩
  ·rcases (hn.2 k i j).1 h1 with h1|⟨rfl,h1,m,y,hm,hbd,hh,h2⟩
   ·cases h1
   ·have hpr:=hkey y (mG hm) hh;have hlt:i<N'.length:=h2.elim (fun h=>h.2) (fun h=>by omega);rw[hbd] at hpr;exact .eps hpr hlt
  ·have hpr:=hkey y (mG hm) hh;rw[hbd] at hpr;exact .one hpr ((hel _ _ _).2 (.inr ⟨hl,hu,hv⟩))
end
section
variable {w w':World} {K Fg FT:Nat→Prop} {p nts pc cl pg:Nat} {PA LA:Option Addr} {PV:List Pv} {labels:List Txt} {mv:Value} {G G':Gr} {T T':aX}
theorem DcI.graph(h:DcI w K Fg FT p nts pc cl pg PA LA PV labels mv G T)(ht:DG w Fg pg G' w'):∃Fg',DcI w' K Fg' FT p nts pc cl pg PA LA PV labels mv G' T∧(∀k,Fg' k→Fg k∨w.heap.size≤k)∧Upd Fg w w':=by
 obtain⟨Fg',h1,h2,h3⟩:=ht;exact⟨Fg',⟨h.cp.upd h2 h.kg,h1,h.mt.upd h2 (fun k hk hg=>h.gt k hg hk),fun k hk hg=>(h3 k hg).elim (h.kg k hk) (fun e=>by have:=h.klt k hk;omega),h.kt,fun k hg hk=>(h3 k hg).elim (fun e=>h.gt k e hk) (fun e=>by have:=h.mt.lt k hk;omega),fun k hk=>Nat.lt_of_lt_of_le (h.klt k hk) h2.size⟩,h3,h2⟩
theorem DcI.facts(h:DcI w K Fg FT p nts pc cl pg PA LA PV labels mv G T){R FT':Nat→Prop}(hm:MtS w' FT' mv 32 nts T')(hu:Upd R w w')(hR:∀k,K k∨Fg k→¬R k)(hF:∀k,FT' k→FT k∨w.heap.size≤k):DcI w' K Fg FT' p nts pc cl pg PA LA PV labels mv G T':=
 ⟨h.cp.upd hu (fun k hk=>hR k (.inl hk)),h.gr.upd hu (fun k hk=>hR k (.inr hk)),hm,h.kg,fun k hk ht=>(hF k ht).elim (h.kt k hk) (fun e=>by have:=h.klt k hk;omega),fun k hk ht=>(hF k ht).elim (h.gt k hk) (fun e=>by have:=h.gr.flt k hk;omega),fun k hk=>Nat.lt_of_lt_of_le (h.klt k hk) hu.size⟩
end
def DcV(w:World)(K V:Nat→Prop)(p nts:Nat)(P:List Pr)(labels:List Txt)(G:Gr)(T:aX):Prop:=∃Fg FT pc cl pg PA LA PV mv,DcI w K Fg FT p nts pc cl pg PA LA PV labels mv G T∧PV.map (·.pr)=P∧V=fun k=>Fg k∨FT k
section
variable {w w':World} {K V R:Nat→Prop} {p nts:Nat} {P:List Pr} {labels:List Txt} {G:Gr} {T:aX}
theorem DcV.s(h:DcV w K V p nts P labels G T):DcS w (fun k=>K k∨V k) p nts P labels G T:=by
 obtain⟨Fg,FT,pc,cl,pg,PA,LA,PV,mv,hi,hp,rfl⟩:=h;exact⟨K,Fg,FT,pc,cl,pg,PA,LA,PV,mv,hi,hp,rfl⟩
end
def CmQ(w:World)(K V:Nat→Prop)(p nts:Nat)(P:List Pr)(labels:List Txt)(T:aX)(r:Gr × Bool × Int)(e:Ending)(w':World):Prop:=∃A c L T' V',e=.returned (.tuple #[.slice A L.length c,.bool r.2.1,.int .i64 r.2.2])∧w'.ownsRow w.heap.size 25 3 (.slice A L.length c) L.length (cP L)∧DcV w' K V' p nts P labels r.1 T'∧zZ nts P labels r.1 T'∧Upd V w w'∧(∀k,V' k→V k∨w.heap.size≤k) ∧
 (∀q,(Value.slice A L.length c).ownBlock=some q→¬V' q)∧gD nts T T' L∧L.Pairwise ltF∧(r.2.1=false→L=[])
open Go.RowKit Go.Shelf
theorem CmQ.after{w w1 w':World}{K F:Nat→Prop}{p nts:Nat}{P:List Pr}{labels:List Txt}{T:aX}{r:Gr × Bool × Int}{e:Ending}(hb:Below w.heap.size w w1)(h:CmQ w1 K F p nts P labels T r e w'):CmQ w K F p nts P labels T r e w':=by
 obtain⟨A,c,L,T',F',h1,h2,h3,h4,h5,h6,h7,h8,h9,h10⟩:=h;have hz:=hb.size;exact⟨A,c,L,T',F',h1,bC h2 (fun k hk=>Nat.le_trans hz (h2.lt k hk).1),h3,h4,(Upd.of_below hb F).trans h5 (fun i hi=>.inl hi),fun k hk=>(h6 k hk).imp id (fun h=>Nat.le_trans hz h),h7,h8,h9,h10⟩

open Go.RowKit Go.Shelf
theorem LI{N:List Txt}(hd:N.Nodup){i:Nat}{s:Txt}(h:N[i]?=some s):OI N s=.tuple #[.int .i64 (i:Int),.int .i64 0]:=by
 unfold OI;rw[if_pos (bV.2 (mG h)),lT hd h]

theorem zQ(w:World)(Fg:Nat→Prop)(p pg g1 g2 g3 g4:Nat)(G:Gr)(hg:GrS w Fg pg G)(ok:GOk G)(x:Ed)(hx:oR x)(c1:w.cell? ⟨g1,0,none⟩=some (.pointer (some ⟨p,0,none⟩)))(c2:w.cell? ⟨g2,0,none⟩=some (.string x.fr))(c3:w.cell? ⟨g3,0,none⟩=some (.string x.lb))(c4:w.cell? ⟨g4,0,none⟩=some (.string x.to))(q3:w.cell? ⟨p,3,none⟩=some (.pointer (some ⟨pg,0,none⟩)))
  (n1:¬Fg g1) (n2:¬Fg g2) (n3:¬Fg g3) (n4:¬Fg g4) (np:¬Fg p):Calls Tryz.prog 46 #[.pointer (some ⟨g1,0,none⟩),.pointer (some ⟨g2,0,none⟩),.pointer (some ⟨g3,0,none⟩),.pointer (some ⟨g4,0,none⟩)] w (PX w Fg pg (aO G x)):=by
 have hcon:=yX w.drew Fg pg G (hg.below bR.drew) ok x hx;obtain⟨r,hr⟩:∃r,aO G x=r:=⟨_,rfl⟩;rw[hr] at hcon ⊢;have HS:=hIz (show ∀V,Upd Fg w V→V.cell? ⟨g1,0,none⟩=some (.pointer (some ⟨p,0,none⟩))∧V.cell? ⟨p,3,none⟩=some (.pointer (some ⟨pg,0,none⟩))∧V.cell? ⟨g2,0,none⟩=some (.string x.fr)∧V.cell? ⟨g3,0,none⟩=some (.string x.lb)∧V.cell? ⟨g4,0,none⟩=some (.string x.to) from fun V hu=>by
  have key:∀g o v,w.cell? ⟨g,o,none⟩=some v→¬Fg g→V.cell? ⟨g,o,none⟩=some v:=fun g o v h n=>(hu.cell (p:=⟨g,o,none⟩) (World.block_lt_of_cell? _ _ h) n).trans h
  exact⟨key _ _ _ c1 n1,key _ _ _ q3 np,key _ _ _ c2 n2,key _ _ _ c3 n3,key _ _ _ c4 n4⟩)
 clear hr hg n1 np n2 n3 n4;have h0:=HS.out w.drew (Upd.refl _ _).drew;clear c1 q3 c2 c3 c4;go_enter Tryz.func46,Tryz.ntmps46;go_upto_region 1 with (fail);refine aR (fun V:World=>V.cell? ⟨g1,0,none⟩=some (.pointer (some ⟨p,0,none⟩))∧V.cell? ⟨p,3,none⟩=some (.pointer (some ⟨pg,0,none⟩))∧V.cell? ⟨g2,0,none⟩=some (.string x.fr)∧V.cell? ⟨g3,0,none⟩=some (.string x.lb)∧V.cell? ⟨g4,0,none⟩=some (.string x.to)) 12 [(0,true),(1,true),(2,true),(3,true),(4,true),(5,true),(6,true),(7,false),(8,true),(9,true),(10,true),(11,true)] (by kernel_rfl) (by kernel_rfl) (fun _ _ d _ _ h=>by cases d <;> exact h) h0 ?_
 iterate 7 refine aD rfl ?_
 refine aJ rfl rfl (fun K hK=>?_);go_simp;refine hcon.mono ?_;clear hcon h0;rintro e V ⟨rfl,ht⟩;have FIN:=hIz (DG.after (Below.refl _ w).drew ht);have hS:=HS.out V FIN.out.choose_spec.2.1;clear ht;refine hK _ _ (fun _=>hS) ?_;clear hK K hS;(try simp only[Act.put,gA,gS,gZ,sA,sZ,sS])
 iterate 4 refine aD rfl ?_
 refine aK ?_;go_wp2;refine bodyPost_ret (v:=.tuple #[.bool r.2.1,.int .i64 r.2.2]) (by simp[results,Tryz.f46,go_sem]) rfl ⟨rfl,FIN.out⟩

theorem zR(w:World)(K Fg FT:Nat→Prop)(p nts pc cl pg:Nat)(PA LA:Option Addr)(PV:List Pv)(labels:List Txt)(mv:Value)(G:Gr)(T:aX)(h:DcI w K Fg FT p nts pc cl pg PA LA PV labels mv G T)(hok:zZ nts (PV.map (·.pr)) labels G T)(hT:fW w)(hng:¬Fg 1)(hnt:¬FT 1)
  (x:Ed) (hx:oR x) (g1 g2 g3 g4:Nat) (c1:w.cell? ⟨g1,0,none⟩=some (.pointer (some ⟨p,0,none⟩))) (c2:w.cell? ⟨g2,0,none⟩=some (.string x.fr)) (c3:w.cell? ⟨g3,0,none⟩=some (.string x.lb)) (c4:w.cell? ⟨g4,0,none⟩=some (.string x.to)) (n1:¬Fg g1) (n2:¬Fg g2) (n3:¬Fg g3) (n4:¬Fg g4) :
  Calls Tryz.prog 42 #[.pointer (some ⟨p,0,none⟩),.func (.func 46) #[] #[.pointer (some ⟨g1,0,none⟩),.pointer (some ⟨g2,0,none⟩),.pointer (some ⟨g3,0,none⟩),.pointer (some ⟨g4,0,none⟩)],.func (.func 47) #[] #[.pointer (some ⟨g1,0,none⟩),.pointer (some ⟨g2,0,none⟩),.pointer (some ⟨g4,0,none⟩),.pointer (some ⟨g3,0,none⟩)]] w (CmQ w K (fun k=>Fg k∨FT k) p nts (PV.map (·.pr)) labels T (aO G x)):=by
 have hlen:=xD w Fg pg G h.gr;have q3:w.cell? ⟨p,3,none⟩=some (.pointer (some ⟨pg,0,none⟩)):=h.cp.blk.cell 3;have hnp:¬Fg p:=h.kg p h.cp.kp;have e1:∀args w,(callFunc 46 args).run Tryz.prog w=.ok (.enter 46 args) w:=enters_of Tryz.func46 (by kernel_rfl) rfl;have e2:∀args w,(callFunc 47 args).run Tryz.prog w=.ok (.enter 47 args) w:=enters_of Tryz.func47 (by kernel_rfl) rfl;obtain⟨n0,hn0⟩:∃n,G.N.length=n:=⟨_,rfl⟩;rw[hn0] at hlen;have HN:=hIz hn0;obtain⟨P,hPP⟩:∃P,PV.map (·.pr)=P:=⟨_,rfl⟩;have HP:=hIz hPP;rw[hPP];have H:=aI15 h hok hT hng hnt hx c1 n1 hnp c2 n2 c3 n3 c4 n4;clear h hok hT hng hnt hx c1 n1 hnp hn0 hPP c2 c3 c4 n2 n3 n4;go_enter Tryz.func42,Tryz.ntmps42;go_wp2_with fail;refine hlen.mono ?_;clear hlen q3;rintro e V1 ⟨rfl,b1⟩;have h1:=H.out.1.below b1;have hadd:=zQ V1 Fg p pg g1 g2 g3 g4 G h1.gr H.out.2.1.ok x H.out.2.2.2.2.2.1 (aS b1 H.out.2.2.2.2.2.2.1) (aS b1 H.out.2.2.2.2.2.2.2.2.2.1) (aS b1 H.out.2.2.2.2.2.2.2.2.2.2.2.1) (aS b1 H.out.2.2.2.2.2.2.2.2.2.2.2.2.2.1) (h1.cp.blk.cell 3) H.out.2.2.2.2.2.2.2.1 H.out.2.2.2.2.2.2.2.2.2.2.1 H.out.2.2.2.2.2.2.2.2.2.2.2.2.1 H.out.2.2.2.2.2.2.2.2.2.2.2.2.2.2 H.out.2.2.2.2.2.2.2.2.1;have H1:=aI2 h1 b1;clear h1 b1;rcases zP G x with ⟨err,hr⟩|⟨hr,hnew⟩
 ·rw[hr] at hadd;have HR:=hIz hr;clear hr;go_wp2_with fail;refine hadd.mono ?_;clear hadd;rintro e V2 ⟨rfl,ht⟩;obtain⟨Fg',hd2,hF2,hu2⟩:=H1.out.1.graph ht;have FIN:=hIz (show CmQ w K (fun k=>Fg k∨FT k) p nts P labels T (aO G x) (.returned (.tuple #[.slice none 0 0,.bool false,.int .i64 err])) V2 from by
   rw[HR.out];exact⟨none,0,[],T,fun k=>Fg' k∨FT k,rfl,World.ownsRow_nil _ _ _ _,⟨Fg',FT,pc,cl,pg,PA,LA,PV,mv,hd2,HP.out,rfl⟩,by rw[← HP.out];exact H.out.2.1,((Upd.of_below H1.out.2 (fun k=>Fg k∨FT k)).trans hu2 (fun i hi=>.inl (.inl hi))),fun k hk=>by
    have:=H1.out.2.size;rcases hk with hk|hk
    ·exact(hF2 k hk).elim (fun h=>.inl (.inl h)) (fun h=>.inr (by omega))
    ·exact .inl (.inr hk),fun q hq=>by simp[Value.ownBlock] at hq,gD.start nts T,List.Pairwise.nil,fun _=>rfl⟩)
  clear ht hd2 hF2 hu2;dsimp only
  by_cases he:err=0
  ·subst he;go_wp2;refine bodyPost_ret (v:=.tuple #[.slice none 0 0,.bool false,.int .i64 0]) (by simp[results,Tryz.f42,go_sem]) rfl FIN.out
  ·have f1:(err==0)=false:=by simp;omega
   have f2:(err != 0)=true:=by simp;omega
   have f3:(!(err==0))=true:=by rw[f1];rfl
   clear he;go_wp2;refine bodyPost_ret (v:=.tuple #[.slice none 0 0,.bool false,.int .i64 err]) (by simp[results,Tryz.f42,go_sem]) rfl FIN.out
 ·have hok':GOk (⟨cQ (cQ G.N x.fr) x.to,G.X++[x]⟩:Gr):=by
   have:=H.out.2.1.ok.edge x;rwa [hr] at this
  rw[hr] at hadd;have HR:=hIz hr;obtain⟨Y,hY⟩:∃Y,(⟨cQ (cQ G.N x.fr) x.to,G.X++[x]⟩:Gr)=Y:=⟨_,rfl⟩;have hpre:G.N <+: Y.N:=by rw[← hY];exact(xT _ _).trans (xT _ _)
  have hYok:GOk Y:=hY ▸ hok'
  have h32:Y.N.length≤32:=hYok.few.1;rw[hY] at hadd;have HY:=aI5 hY hnew hpre hYok h32;clear hr hok' hnew hY hpre hYok h32;go_wp2_with fail;refine hadd.mono ?_;clear hadd;rintro e V2 ⟨rfl,ht⟩;dsimp only at ht ⊢
  obtain⟨Fg',hd2,hF2,hu2⟩:=H1.out.1.graph ht;have hlen:=xD V2 Fg' pg Y hd2.gr;have q3:V2.cell? ⟨p,3,none⟩=some (.pointer (some ⟨pg,0,none⟩)):=hd2.cp.blk.cell 3;obtain⟨n1,hn1⟩:∃n,Y.N.length=n:=⟨_,rfl⟩;rw[hn1] at hlen;have HN1:=hIz hn1;have H2:=aI3 hd2 hF2 hu2;clear ht hd2 hF2 hu2 hn1;go_wp2_with fail;refine hlen.mono ?_;clear hlen q3;rintro e V3 ⟨rfl,b3⟩;have hd3:=H2.out.1.below b3;have q0:V3.cell? ⟨p,0,none⟩=some (.int .i64 (nts:Int)):=hd3.cp.blk.cell 0;have hno:=lK V3 nts H.out.2.1.n5;have H3:=aI2 hd3 b3;clear hd3 b3;go_wp2_with fail;refine hno.mono ?_;clear hno q0;rintro e V4 ⟨vn,F4,rfl,m4,hF4,b4⟩;have hd4:=H3.out.1.below b4;have hnk4:∀k,F4 k→¬K k:=fun k hk hk2=>by have:=hF4 k hk;have:=H3.out.1.klt k hk2;omega
  have hgP:∀x∈PV,vV nts x.pr:=fun x hx=>H.out.2.1.g _ (List.mem_map.2 ⟨x,hx,rfl⟩)
  have hmP:PV.length≤140737488355328:=by have:=H.out.2.1.pl;rw[List.length_map] at this;omega
  have hle01:n0≤n1:=by have:=HY.out.2.2.1.length_le;rw[HN.out,HN1.out] at this;exact this
  have hle32:n1≤32:=by have:=HY.out.2.2.2.2;rw[HN1.out] at this;exact this
  have hnod:=pK V4 K F4 p nts pc cl pg PA LA PV labels mv hd4.cp vn noM m4 hnk4 hgP (fun k r e=>by cases e) n0 n1 hle32 hle01 hmP;have H4:=aI3 hd4 hF4 b4;obtain⟨A4,c4,rfl⟩:=m4.form;clear hd4 hnk4 m4 hF4 b4 hgP hmP hle01;go_wp2_with fail;refine hnod.mono ?_;clear hnod;rintro e V5 ⟨rfl,B5,⟨F5,m5,hu5,hF5⟩,hB5⟩;have hz3:=H2.out.2.2.size;have hd5:DcI V5 K Fg' FT p nts pc cl pg PA LA PV labels mv Y T:=H4.out.1.upd hu5 (fun k hk hf=>by
   have h1:=H4.out.2.1 k hf;have h2:=H3.out.1.klt k;have h3:=H3.out.1.gr.flt k;have h4:=H3.out.1.mt.lt k;rcases hk with hk|hk|hk
   ·have:=h2 hk;omega
   ·have:=h3 hk;omega
   ·have:=h4 hk;omega)
  have hF5':∀k,F5 k→V3.heap.size≤k:=fun k hk=>(hF5 k hk).elim (H4.out.2.1 k) (fun h=>Nat.le_trans H4.out.2.2.size h)
  have bw5:Below V3.heap.size V3 V5:=H4.out.2.2.trans (hu5.below (fun k _ hk=>H4.out.2.1 k hk) H4.out.2.2.size);have H5:=aI5 hd5 m5 hF5' bw5 hB5;clear hd5 m5 hF5' bw5 hB5 hu5 hF5;have hY1:=HY.out.1;have hYo:=HY.out.2.2.2.1;obtain⟨u,hu⟩:∃u,Y.N[u]?=some x.fr:=List.getElem?_of_mem (by rw[← hY1];exact dE.2 (.inl (dE.2 (.inr rfl))));obtain⟨v,hv⟩:∃v,Y.N[v]?=some x.to:=List.getElem?_of_mem (by rw[← hY1];exact dE.2 (.inr rfl));have hul:=(gO.1 hu).1;have hvl:=(gO.1 hv).1;have h32:=HY.out.2.2.2.2;have hd5:=H5.out.1;have hu25:Upd (fun _=>False) V2 V5:=Upd.of_below (tHn H3.out.2 H5.out.2.2.2.1) _;have ck:∀g v,V1.cell? ⟨g,0,none⟩=some v→¬Fg g→V5.cell? ⟨g,0,none⟩=some v:=fun g v hc hn=>by
   have h1:=(H2.out.2.2.cell (p:=⟨g,0,none⟩) (World.block_lt_of_cell? _ _ hc) hn).trans hc;exact(hu25.cell (p:=⟨g,0,none⟩) (World.block_lt_of_cell? _ _ h1) id).trans h1
  have hF5n:∀g v,w.cell? ⟨g,0,none⟩=some v→¬F5 g:=fun g v hc hf=>by
   have h1:=H5.out.2.2.1 g hf;have h2:=World.block_lt_of_cell? _ _ hc;have h3:=H1.out.2.size;have h4:=H2.out.2.2.size;have h5:=H3.out.2.size;dsimp only at h2
   omega
  have hbr:=zO V5 K Fg' FT F5 p nts pc cl pg PA LA PV labels mv Y T hd5 hYo (.slice A4 nts c4) B5 H5.out.2.1 (fun k hf hk=>by have:=H5.out.2.2.1 k hf;have:=H3.out.1.klt k hk;omega) (fun x hx=>H.out.2.1.g _ (List.mem_map.2 ⟨x,hx,rfl⟩)) (fun y hy s hs=>H.out.2.1.l1 _ (List.mem_map.2 ⟨y,hy,rfl⟩) s hs) H5.out.2.2.2.2.1 (by have:=H.out.2.1.pl;rw[List.length_map] at this;omega) (by have:=H.out.2.1.ll;omega)
   g1 g2 g4 g3 x.fr x.lb x.to H.out.2.2.2.2.2.1.1 H.out.2.2.2.2.2.1.2.2 (ck g1 _ (aS H1.out.2 H.out.2.2.2.2.2.2.1) H.out.2.2.2.2.2.2.2.1) (ck g2 _ (aS H1.out.2 H.out.2.2.2.2.2.2.2.2.2.1) H.out.2.2.2.2.2.2.2.2.2.2.1) (ck g4 _ (aS H1.out.2 H.out.2.2.2.2.2.2.2.2.2.2.2.2.2.1) H.out.2.2.2.2.2.2.2.2.2.2.2.2.2.2) (ck g3 _ (aS H1.out.2 H.out.2.2.2.2.2.2.2.2.2.2.2.1) H.out.2.2.2.2.2.2.2.2.2.2.2.2.1) (hF5n g1 _ H.out.2.2.2.2.2.2.1) (hF5n g3 _ H.out.2.2.2.2.2.2.2.2.2.2.2.1) u v (LI hYo.nd hu) (LI hYo.nd hv) (by omega) (by omega)
  clear hu25 ck hF5n hd5;go_wp2_with fail;refine hbr.mono ?_;clear hbr;rintro e V6 ⟨rfl,B6,⟨F6,m6,hu6,hF6⟩,hB6⟩;have H6:=hIz (show DcI V6 K Fg' FT p nts pc cl pg PA LA PV labels mv Y T∧MtS V6 F6 (.slice A4 nts c4) 32 nts B6∧(∀k,F6 k→V3.heap.size≤k)∧Below V3.heap.size V3 V6∧DlI (PV.map (·.pr)) (ElG Y labels) n1 nts T B6 from by
   have z5:=H5.out.2.2.2.1.size;refine⟨H5.out.1.upd hu6 (fun k hk hf=>?_),m6,fun k hk=>(hF6 k hk).elim (H5.out.2.2.1 k) (fun h=>Nat.le_trans z5 h),H5.out.2.2.2.1.trans (hu6.below (fun k _ hk=>H5.out.2.2.1 k hk) z5),?_⟩
   ·have h1:=H5.out.2.2.1 k hf;have h2:=H3.out.1.klt k;have h3:=H3.out.1.gr.flt k;have h4:=H3.out.1.mt.lt k;rcases hk with hk|hk|hk
    ·have:=h2 hk;omega
    ·have:=h3 hk;omega
    ·have:=h4 hk;omega
   ·have hB:=H5.out.2.2.2.2;have hp:=HY.out.2.2.1;rw[← HN1.out];rw[← HN.out,← HN1.out] at hB;obtain⟨YN,YX⟩:=Y;have e2:YX=G.X++[x]:=by injection hY1 with _ e2;exact e2.symm
    subst e2;exact H.out.2.1.edge hp hYo hu hv hB hB6)
  clear m6 hu6 hF6 hB6 hY1 hYo hu hv hul hvl h32;obtain⟨hd6,m6,hF6,bw6,hI6⟩:=H6.out;have hlt3:∀k,K k∨Fg' k∨FT k→k<V3.heap.size:=fun k hk=>by
   have h2:=H3.out.1.klt k;have h3:=H3.out.1.gr.flt k;have h4:=H3.out.1.mt.lt k;rcases hk with hk|hk|hk
   ·exact h2 hk
   ·exact h3 hk
   ·exact h4 hk
  have hTw:fW V6:=(((H.out.2.2.1.upd (Upd.of_below H1.out.2 (fun _=>False)) H.out.2.2.1.lt id).upd H2.out.2.2 (Nat.lt_of_lt_of_le H.out.2.2.1.lt H1.out.2.size) H.out.2.2.2.1).upd (Upd.of_below (tHn H3.out.2 bw6) (fun _=>False)) (by have:=H.out.2.2.1.lt;have:=H1.out.2.size;have:=H2.out.2.2.size;omega) id);have hgrow:=uI V6 K FT F6 p nts pc cl pg PA LA PV labels mv (.slice A4 nts c4) T B6 (ElG Y labels) n1 ⟨hd6.cp,hd6.mt,m6,hd6.kt,fun k hk hf=>by have:=hF6 k hf;have:=hlt3 k (.inl hk);omega,fun k hk hf=>by have:=hF6 k hf;have:=hlt3 k (.inr (.inr hk));omega,fun x hx=>H.out.2.1.g _ (List.mem_map.2 ⟨x,hx,rfl⟩),hI6,fun k i j e=>by have:=e.lt;rw[HN1.out] at this;exact this,hle32,hTw,H.out.2.2.2.2.1,fun hf=>by have:=hF6 _ hf;have:=H.out.2.2.1.lt;have:=H1.out.2.size;have:=H2.out.2.2.size;have:=H3.out.2.size;omega⟩ H.out.2.1.n1 H.out.2.1.n5 (by have:=H.out.2.1.pl;rw[List.length_map] at this;omega);have HL3:=hIz hlt3;clear hd6 m6 hF6 bw6 hI6 hlt3 hTw;go_wp2_with fail;refine hgrow.mono ?_;clear hgrow;rintro e V7 ⟨v7,rfl,A7,c7,L7,T7,FT7,rfl,own7,m7,hu7,hF7,hr7,hg7,hs7,hw7,hd7⟩;have FIN:=hIz (show CmQ w K (fun k=>Fg k∨FT k) p nts P labels T (aO G x) (.returned (.tuple #[.slice A7 L7.length c7,.bool true,.int .i64 0])) V7 from by
   rw[HR.out,HY.out.1];obtain⟨hd6,m6,hF6,bw6,hI6⟩:=H6.out;have z1:=H1.out.2.size;have z2:=H2.out.2.2.size;have z3:=H3.out.2.size;have z6:=bw6.size;have z7:=hu7.size;have hR:∀k,K k∨Fg' k→¬(FT k∨F6 k):=fun k hk hf=>by
    rcases hf with hf|hf
    ·exact hk.elim (fun hk=>hd6.kt k hk hf) (fun hk=>hd6.gt k hk hf)
    ·have h1:=hF6 k hf;have h2:=HL3.out k (hk.elim .inl (fun h=>.inr (.inl h)));omega
   have hd8:=hd6.facts m7 hu7 hR hF7;refine⟨A7,c7,L7,T7,fun k=>Fg' k∨FT7 k,rfl,bC own7 (fun k hk=>by have:=(own7.lt k hk).1;omega),⟨Fg',FT7,pc,cl,pg,PA,LA,PV,mv,hd8,HP.out,rfl⟩,⟨HY.out.2.2.2.1,by rw[← HP.out];exact H.out.2.1.g,by rw[← HP.out];exact H.out.2.1.l1,hw7,?_,H.out.2.1.n1,H.out.2.1.n5,by rw[← HP.out];exact H.out.2.1.pl,H.out.2.1.ll⟩,?_,fun k hk=>?_,fun q hq hk=>?_,hg7,hs7,fun h=>by cases h⟩
   ·intro k hk i j;rw[hd7 k hk i j,← HP.out];show _↔gU _ (ElG Y labels) Y.N.length _ _ _
    rw[HN1.out]
   ·exact((((Upd.of_below H1.out.2 (fun k=>Fg k∨FT k)).trans H2.out.2.2 (fun i hi=>.inl (.inl hi))).trans (Upd.of_below (H3.out.2.trans (bw6.mono z3)) (fun _=>False)) (fun i hi=>hi.elim)).trans hu7 (fun i hi=>by
     rcases hi with hi|hi
     ·exact .inl (.inr hi)
     ·exact .inr (by have:=hF6 i hi;omega)))
   ·rcases hk with hk|hk
    ·exact(H2.out.2.1 k hk).elim (fun h=>.inl (.inl h)) (fun h=>.inr (by omega))
    ·exact(hF7 k hk).elim (fun h=>.inl (.inr h)) (fun h=>.inr (by omega))
   ·have h1:=(own7.lt q hq).1;rcases hk with hk|hk
    ·have:=HL3.out q (.inr (.inl hk));omega
    ·exact hr7 q hq hk)
  obtain⟨l7,hl7⟩:∃l,L7.length=l:=⟨_,rfl⟩;rw[hl7] at FIN ⊢;clear own7 m7 hu7 hF7 hr7 hg7 hs7 hw7 hd7 hl7;go_wp2;refine bodyPost_ret (v:=.tuple #[.slice A7 l7 c7,.bool true,.int .i64 0]) (by simp[results,Tryz.f42,go_sem]) rfl FIN.out
theorem uJ(w:World)(K V0:Nat→Prop)(p nts:Nat)(P:List Pr)(labels:List Txt)(G:Gr)(T:aX)(h:DcV w K V0 p nts P labels G T)(hok:zZ nts P labels G T)(hT:fW w)(hnt:¬V0 1)(x:Ed)(hx:oR x) :
  Calls Tryz.prog 10 #[.pointer (some ⟨p,0,none⟩),.string x.fr,.string x.lb,.string x.to] w (CmQ w K V0 p nts P labels T (aO G x)):=by
 obtain⟨Fg,FT,pc,cl,pg,PA,LA,PV,mv,hi,rfl,rfl⟩:=h;have b1:Below w.heap.size w ((((w.alloc (.cells #[.pointer (some ⟨p,0,none⟩)] 26)).alloc (.cells #[.string x.fr] 9)).alloc (.cells #[.string x.lb] 9)).alloc (.cells #[.string x.to] 9)):=by(repeat (first | exact Below.refl _ _ | apply Below.drew | refine Below.alloc ?_ (by first | exact Nat.le_refl _ | (simp;done) | (simp;omega)) _ | refine Below.setCell ?_ (by first | exact Nat.le_refl _ | (simp;done) | (simp;omega)) _))
 have k1:Blk ((((w.alloc (.cells #[.pointer (some ⟨p,0,none⟩)] 26)).alloc (.cells #[.string x.fr] 9)).alloc (.cells #[.string x.lb] 9)).alloc (.cells #[.string x.to] 9)) w.heap.size 26 #[.pointer (some ⟨p,0,none⟩)]:=(((Blk.new w 26 #[.pointer (some ⟨p,0,none⟩)]).alloc _).alloc _).alloc _;have k2:Blk ((((w.alloc (.cells #[.pointer (some ⟨p,0,none⟩)] 26)).alloc (.cells #[.string x.fr] 9)).alloc (.cells #[.string x.lb] 9)).alloc (.cells #[.string x.to] 9)) (w.heap.size+1) 9 #[.string x.fr]:=by
  have:=(Blk.new (w.alloc (.cells #[.pointer (some ⟨p,0,none⟩)] 26)) 9 #[.string x.fr]).alloc (.cells #[.string x.lb] 9) |>.alloc (.cells #[.string x.to] 9);simpa only [World.size_alloc] using this
 have k3:Blk ((((w.alloc (.cells #[.pointer (some ⟨p,0,none⟩)] 26)).alloc (.cells #[.string x.fr] 9)).alloc (.cells #[.string x.lb] 9)).alloc (.cells #[.string x.to] 9)) (w.heap.size+2) 9 #[.string x.lb]:=by
  have:=(Blk.new ((w.alloc (.cells #[.pointer (some ⟨p,0,none⟩)] 26)).alloc (.cells #[.string x.fr] 9)) 9 #[.string x.lb]).alloc (.cells #[.string x.to] 9);simpa only [World.size_alloc] using this
 have k4:Blk ((((w.alloc (.cells #[.pointer (some ⟨p,0,none⟩)] 26)).alloc (.cells #[.string x.fr] 9)).alloc (.cells #[.string x.lb] 9)).alloc (.cells #[.string x.to] 9)) (w.heap.size+3) 9 #[.string x.to]:=by
  have:=(Blk.new (((w.alloc (.cells #[.pointer (some ⟨p,0,none⟩)] 26)).alloc (.cells #[.string x.fr] 9)).alloc (.cells #[.string x.lb] 9)) 9 #[.string x.to]);simpa only [World.size_alloc] using this
 obtain⟨W,hW⟩:∃W,(((w.alloc (.cells #[.pointer (some ⟨p,0,none⟩)] 26)).alloc (.cells #[.string x.fr] 9)).alloc (.cells #[.string x.lb] 9)).alloc (.cells #[.string x.to] 9)=W:=⟨_,rfl⟩;rw[hW] at b1 k1 k2 k3 k4;have hi1:=hi.below b1;have his:=ER W p pg (hi1.cp.blk.cell 3);have hlt:∀k,Fg k→k<w.heap.size:=hi.gr.flt;have hcome:=zR W K Fg FT p nts pc cl pg PA LA PV labels mv G T hi1 hok (hT.upd (upF b1) hT.lt id) (fun e=>hnt (.inl e)) (fun e=>hnt (.inr e)) x hx w.heap.size (w.heap.size+1) (w.heap.size+2) (w.heap.size+3) (k1.cell 0) (k2.cell 0) (k3.cell 0) (k4.cell 0) (fun e=>by have:=hlt _ e;omega) (fun e=>by have:=hlt _ e;omega) (fun e=>by have:=hlt _ e;omega) (fun e=>by have:=hlt _ e;omega);have q0:W.cell? ⟨w.heap.size,0,none⟩=some (.pointer (some ⟨p,0,none⟩)):=k1.cell 0;have H:=hIz b1;clear b1 hi hi1 hlt hok hT hnt hx k1 k2 k3 k4;go_enter Tryz.func10,Tryz.ntmps10;go_upto_region 1 with (fail);(try rw[hW])
 clear hW;go_wp2_with fail;refine his.mono ?_;clear his;rintro e V ⟨rfl,hw⟩;subst V;go_wp2_with fail;refine hcome.mono ?_;clear hcome q0;rintro e V hq;obtain⟨A,c,L,T',F',rfl,h2⟩:=hq;obtain⟨l,hl⟩:∃l,L.length=l:=⟨_,rfl⟩;have FIN:=hIz (show CmQ w K (fun k=>Fg k∨FT k) p nts (PV.map (·.pr)) labels T (aO G x) (.returned (.tuple #[.slice A l c,.bool (aO G x).2.1,.int .i64 (aO G x).2.2])) V from CmQ.after H.out ⟨A,c,L,T',F',by rw[hl],h2⟩);rw[hl];clear h2 hl;obtain⟨r,hr⟩:∃r,aO G x=r:=⟨_,rfl⟩;rw[hr] at FIN ⊢;have HR:=hIz hr;clear hr;go_wp2;refine bodyPost_ret (v:=.tuple #[.slice A l c,.bool r.2.1,.int .i64 r.2.2]) (by simp[results,Tryz.f10,go_sem]) rfl (by rw[HR.out];exact FIN.out)
open Go.RowKit Go.Shelf
def KG(w:World)(nts:Int)(PV:List Pv)(labels:List Txt)(G:Gr)(e:Ending)(w':World):Prop:=
 (fK nts PV labels=2∧e=.returned (.tuple #[.pointer none,.int .i64 2])∧Below w.heap.size w w') ∨
 (fK nts PV labels=0∧∃p K V T,e=.returned (.tuple #[.pointer (some ⟨p,0,none⟩),.int .i64 0])∧DcV w' K V p nts.toNat (PV.map (·.pr)) labels G T∧(∀k,K k∨V k→w.heap.size≤k)∧Below w.heap.size w w'∧zZ nts.toNat (PV.map (·.pr)) labels G T)
def LbB(PV:List Pv)(labels:List Txt)(G:Gr)(B B':aX)(q:Nat):Prop:=(∀k,WdO (B' k))∧∀k i j,aY (B' k) i j=true↔aY (B k) i j=true∨∃m x s,PV[m]?=some x∧m<q∧x.pr.body=[s]∧x.pr.head.toNat=k∧ElG G labels s.at_ i j
section
variable {PV:List Pv} {labels:List Txt} {G:Gr} {B B':aX} {q:Nat}
theorem LbB.start(h:∀k,WdO (B k)):LbB PV labels G B B 0:=⟨h,fun k i j=>by
 constructor
 ·exact .inl
 ·rintro (h|⟨m,x,s,_,h,_⟩)
  ·exact h
  ·omega⟩
theorem LbB.skip(h:LbB PV labels G B B' q){x:Pv}(hx:PV[q]?=some x)(hb:x.pr.body.length≠1):LbB PV labels G B B' (q+1):=⟨h.1,fun k i j=>by
 rw[h.2];constructor
 ·rintro (h1|⟨m,y,s,h3,h4,h5⟩)
  ·exact .inl h1
  ·exact .inr ⟨m,y,s,h3,by omega,h5⟩
 ·rintro (h1|⟨m,y,s,h3,h4,h5,h6⟩)
  ·exact .inl h1
  ·refine .inr ⟨m,y,s,h3,?_,h5,h6⟩;by_cases e:m=q
   ·subst e;rw[hx] at h3;obtain rfl:=Option.some.inj h3;exact(hb (by rw[h5];rfl)).elim
   ·omega⟩
theorem LbB.step(h:LbB PV labels G B B' q){x:Pv}(hx:PV[q]?=some x){s:Sy}(hb:x.pr.body=[s]){lb:Txt}(hl:labels[s.at_.toNat]?=some lb){a:Nat}(ha:x.pr.head.toNat=a){b:Option (List Nat)}(hw:WdO b)(hm:JJ G lb b)(hN:G.N.length≤32):LbB PV labels G B (upM B' a (joinQ (B' a) b)) (q+1):=by
 have hbit:∀i j,aY b i j=true↔ElG G labels s.at_ i j:=fun i j=>by
  constructor
  ·intro hb2;obtain⟨y,hy,e⟩:=(hm i j (cK hw hb2) (fQ hw hb2)).1 hb2;exact⟨lb,hl,y,hy,e⟩
  ·intro he;have hlt:=he.lt;obtain⟨lb',hl',y,hy,e⟩:=he;rw[hl] at hl';obtain rfl:=Option.some.inj hl';exact(hm i j (by omega) (by omega)).2 ⟨y,hy,e⟩
 refine⟨fun k=>?_,fun k i j=>?_⟩
 ·by_cases e:k=a
  ·subst e;rw[cJ];exact(h.1 k).joinQ hw
  ·rw[cV B' _ e];exact h.1 k
 ·by_cases e:k=a
  ·subst e;rw[cJ,(jX.joinQ (h.1 k) hw).2,h.2,hbit];constructor
   ·rintro ((h1|⟨m,y,t,h3,h4,h5⟩)|h1)
    ·exact .inl h1
    ·exact .inr ⟨m,y,t,h3,by omega,h5⟩
    ·exact .inr ⟨q,x,s,hx,by omega,hb,ha,h1⟩
   ·rintro (h1|⟨m,y,t,h3,h4,h5,h6,h7⟩)
    ·exact .inl (.inl h1)
    ·by_cases e:m=q
     ·subst e;rw[hx] at h3;obtain rfl:=Option.some.inj h3;rw[hb] at h5;injection h5 with e5;subst e5;exact .inr h7
     ·exact .inl (.inr ⟨m,y,t,h3,by omega,h5,h6,h7⟩)
  ·rw[cV B' _ e,h.2];constructor
   ·rintro (h1|⟨m,y,t,h3,h4,h5⟩)
    ·exact .inl h1
    ·exact .inr ⟨m,y,t,h3,by omega,h5⟩
   ·rintro (h1|⟨m,y,t,h3,h4,h5,h6,h7⟩)
    ·exact .inl h1
    ·refine .inr ⟨m,y,t,h3,?_,h5,h6,h7⟩;by_cases e2:m=q
     ·subst e2;rw[hx] at h3;obtain rfl:=Option.some.inj h3;exact(e (h6.symm.trans ha)).elim
     ·omega
theorem EV{nts n:Nat}{B1 B2:aX}(hg:∀x∈PV,vV nts x.pr)(hn:NdB PV 0 n noM B1 PV.length 0)(hb:LbB PV labels G B1 B2 PV.length):DlI (PV.map (·.pr)) (ElG G labels) n nts noM B2:=by
 have hgP:∀p∈PV.map (·.pr),vV nts p:=fun p hp=>by
  obtain⟨x,hx,rfl⟩:=List.mem_map.1 hp;exact hg x hx
 refine DlI.start (El0:=fun _ _ _=>False) (n0:=0) hgP (fun k r e=>by cases e) hb.1 (fun k hk i j=>⟨fun h=>(by cases h),fun d=>?_⟩) (fun _ _ _ h=>h.elim) (Nat.zero_le _) (fun p hp hbd i _ h2=>?_) (fun p hp t hbd i j h1 _=>?_) (fun k hk i j hbt=>?_)
 ·have:∀a i j,gU (PV.map (·.pr)) (fun _ _ _=>False) 0 a i j→False:=fun a i j d=>by
   have:=d.lt (fun _ _ _ h=>h.elim);omega
  exact(this _ _ _ d).elim
 ·obtain⟨y,hy,rfl⟩:=List.mem_map.1 hp;obtain⟨m,hm⟩:=List.getElem?_of_mem hy;exact(hb.2 _ _ _).2 (.inl ((hn.2 _ _ _).2 (.inr ⟨rfl,Nat.zero_le _,m,y,hm,hbd,rfl,.inl ⟨(gO.1 hm).1,h2⟩⟩)))
 ·obtain⟨y,hy,rfl⟩:=List.mem_map.1 hp;obtain⟨m,hm⟩:=List.getElem?_of_mem hy;exact(hb.2 _ _ _).2 (.inr ⟨m,y,t,hm,(gO.1 hm).1,hbd,rfl,h1⟩)
 ·have hkey:∀y:Pv,y∈PV→y.pr.head.toNat=k→(⟨(k:Int),y.pr.body⟩:Pr)∈PV.map (·.pr):=fun y hy hh=>by
   have hpr:y.pr∈PV.map (·.pr):=List.mem_map.2 ⟨y,hy,rfl⟩;have h0:=(hg _ hy).h0;have e1:y.pr.head=(k:Int):=by omega
   rw[← e1];exact hpr
  rcases (hb.2 k i j).1 hbt with h1|⟨m,y,t,hm,-,hbd,hh,hl⟩
  ·rcases (hn.2 k i j).1 h1 with h1|⟨rfl,h1,m,y,hm,hbd,hh,h2⟩
   ·cases h1
   ·have hpr:=hkey y (mG hm) hh;have hlt:i<n:=h2.elim (fun h=>h.2) (fun h=>by omega);rw[hbd] at hpr;exact .eps hpr hlt
  ·have hpr:=hkey y (mG hm) hh;rw[hbd] at hpr;exact .one hpr hl
end
def LbI(w:World)(F:Nat→Prop)(vn:Value)(nts:Nat)(PV:List Pv)(labels:List Txt)(G:Gr)(B:aX)(q:Nat)(W:World):Prop:=∃B',oK w F vn 32 nts B' W∧LbB PV labels G B B' q
theorem DcI.made{V1 V2 V3 V4 V5 V6:World}{nts pc cl pg:Nat}{L:List Pv}{A LA:Option Addr}{labels:List Txt}{mv:Value}{Fg FT:Nat→Prop}{G:Gr}
  (hP:PvR V2 A L) (hA:∀b o s,A=some ⟨b,o,s⟩→V1.heap.size≤b∧b<V2.heap.size) (hv:∀v∈L,∀b o s,v.adr=some ⟨b,o,s⟩→V1.heap.size≤b∧b<V2.heap.size) (b2:Below V1.heap.size V1 V2)
  (hl:V3.ownsRow V2.heap.size 9 1 (.slice LA labels.length cl) labels.length (aE labels)) (b3:Below V2.heap.size V2 V3) (hg:GrS V4 Fg pg G) (hF:∀k,Fg k→V3.heap.size≤k) (b4:Below V3.heap.size V3 V4) (hm:MtS V5 FT mv 32 nts noM) (hFT:∀k,FT k→V4.heap.size≤k) (b5:Below V4.heap.size V4 V5)
  (hk:Blk V6 V5.heap.size 93 #[.int .i64 (nts:Int),.slice A L.length pc,.slice LA labels.length cl,.pointer (some ⟨pg,0,none⟩),mv]) (b6:Below V5.heap.size V5 V6) :
  DcI V6 (fun k=>(V1.heap.size≤k∧k<V3.heap.size)∨k=V5.heap.size) Fg FT V5.heap.size nts pc cl pg A LA L labels mv G noM:=by
 have z2:=b2.size;have z3:=b3.size;have z4:=b4.size;have z5:=b5.size;have b26:Below V2.heap.size V2 V6:=b3.trans ((b4.trans ((b5.trans (b6.mono z5)).mono z4)).mono z3);have b36:Below V3.heap.size V3 V6:=b4.trans ((b5.trans (b6.mono z5)).mono z4);have b46:Below V4.heap.size V4 V6:=b5.trans (b6.mono z5);have hTl:=hm.lt;have hGl:=hg.flt;have hkl:=hk.lt;refine⟨⟨hk,hP.below b26,(bS.of_own hl).below3 b36,.inr rfl,fun b o x e=>.inl ⟨(hA b o x e).1,by have:=(hA b o x e).2;omega⟩,fun v hv' b o x e=>.inl ⟨(hv v hv' b o x e).1,by have:=(hv v hv' b o x e).2;omega⟩,fun b o x e=>.inl (by
  subst e;have:=hl.lt b rfl;omega)⟩,hg.below b46,hm.below b6,fun k hk hf=>?_,fun k hk hf=>?_,fun k hf ht=>?_,fun k hk=>?_⟩
 ·have h1:=hF k hf;have h2:=hGl k hf;rcases hk with hk|hk
  ·omega
  ·omega
 ·have h1:=hFT k hf;have h2:=hTl k hf;rcases hk with hk|hk
  ·omega
  ·omega
 ·have h1:=hGl k hf;have h2:=hFT k ht;omega
 ·rcases hk with hk|hk
  ·omega
  ·omega
theorem KH(w:World)(nts:Int)(PA:Option Addr)(pc:Nat)(PV:List Pv)(hP:PvR w PA PV)(LA:Option Addr)(cl:Nat)(labels:List Txt)(hlab:bS w LA (aE labels))
  (Fg0:Nat→Prop) (pg0:Nat) (G:Gr) (hG:GrS w Fg0 pg0 G) (ok:GOk G) (hT:fW w) :
  Calls Tryz.prog 7 #[.agg #[.int .i64 nts,.slice PA PV.length pc],.slice LA labels.length cl,.pointer (some ⟨pg0,0,none⟩)] w (KG w nts PV labels G):=by
 have b1:Below w.heap.size w (w.alloc (.cells #[.int .i64 nts,.slice PA PV.length pc] 32)):=bR.alloc (Nat.le_refl _) _;have k1:=Blk.new w 32 #[.int .i64 nts,.slice PA PV.length pc];have hT1:=hT.upd (upF b1) hT.lt id;have hnew:=JT _ nts PA pc PV (hP.below b1) LA cl labels (hlab.below3 b1) Fg0 pg0 G (hG.below b1) ok hT1 hT1.lt;have H:=aI7 b1 k1 hP hlab hG ok hT;clear b1 k1 hT1 hP hlab hG ok hT;obtain⟨m,hm⟩:∃m,PV.length=m:=⟨_,rfl⟩;obtain⟨l,hl⟩:∃l,labels.length=l:=⟨_,rfl⟩;rw[hm] at H hnew ⊢;rw[hl] at hnew ⊢;have HM:=aI2 hm hl;clear hm hl;obtain⟨z,hz⟩:∃z,w.heap.size=z:=⟨_,rfl⟩;obtain⟨W0,hW0⟩:∃W0,w.alloc (.cells #[.int .i64 nts,.slice PA m pc] 32)=W0:=⟨_,rfl⟩;rw[hW0] at H hnew;rw[hz] at H;have HZ:=hIz hz;have q0:W0.cell? ⟨z,0,none⟩=some (.int .i64 nts):=H.out.2.1.cell 0;have q1:W0.cell? ⟨z,1,none⟩=some (.slice PA m pc):=H.out.2.1.cell 1;go_enter Tryz.func7,Tryz.ntmps7;go_upto_region 1 with (fail);(try rw[hW0])
 (try rw[hz])
 clear hW0 hz;go_wp2_with fail;refine hnew.mono ?_;clear hnew q0 q1;rintro e V1 (⟨h2,rfl,bq⟩|⟨h0,pz,Fz,Bz,rfl,-,-,bq,-,-⟩)
 ·have FIN:=hIz (show KG w nts PV labels G (.returned (.tuple #[.pointer none,.int .i64 2])) V1 from .inl ⟨h2,rfl,by have h1:=H.out.1;rw[← HZ.out] at h1;exact tHn h1 bq⟩);clear h2 bq;go_wp2;refine bodyPost_ret (v:=.tuple #[.pointer none,.int .i64 2]) (by simp[results,Tryz.f7,go_sem]) rfl FIN.out
 ·have hc:=pL nts PV labels;rw[h0] at hc;rcases hc with hc|⟨-,hl16,hn1,hn5,hp8,hup,hsh⟩
  ·cases hc
  obtain⟨nt,rfl⟩:∃nt:Nat,nts=(nt:Int):=⟨nts.toNat,by omega⟩;have hok:∀v∈PV,NN nt labels.length v:=fun v hv=>DZ (hsh v hv)
  have h01:=H.out.1;have bw1:Below z w V1:=h01.trans (bq.mono (by have:=h01.size;have:=HZ.out;omega));have k1:=H.out.2.1.upd (upF bq) id;have C:=hIz (show ∀V,Below V1.heap.size V1 V→V.cell? ⟨z,0,none⟩=some (.int .i64 (nt:Int))∧V.cell? ⟨z,1,none⟩=some (.slice PA m pc) from fun V hb=>by
   have k2:=k1.upd (upF hb) id;exact⟨k2.cell 0,k2.cell 1⟩)
  have bd:Below V1.heap.size V1 V1.drew:=bR.drew;have hP1:=H.out.2.2.1.below (by rw[HZ.out];exact bw1.trans (bd.mono (by have:=bw1.size;have:=HZ.out;omega)));have hown:=NU V1.drew (nt:Int) PA pc PV hP1 (by omega) (fun v hv=>by have:=(hok v hv).few;omega);rw[HM.out.1] at hown;have hl1:bS V1 LA (aE labels):=H.out.2.2.2.1.below3 (by rw[HZ.out];exact bw1);have hg1:GrS V1 Fg0 pg0 G:=H.out.2.2.2.2.1.below (by rw[HZ.out];exact bw1);have HA:=aI9 h0 hok bw1 hl1 hg1 hl16 hp8 hn1 hn5;clear h0 hup hsh hok h01 bw1 k1 hP1 hl1 hg1 bq bd;have hS:=C.out V1.drew bR.drew;go_upto_region 4 with (fail);refine aM (fun V:World=>V.cell? ⟨z,0,none⟩=some (.int .i64 (nt:Int))∧V.cell? ⟨z,1,none⟩=some (.slice PA m pc)) 12 [(0,true),(2,true),(4,true),(6,true),(7,true),(1,false),(3,false),(5,false),(8,false),(9,true),(10,false),(11,true)] hS ?_;clear hS;have B1:=hIz (show Below V1.heap.size V1 V1.drew from bR.drew);have hsz1:V1.drew.heap.size=V1.heap.size:=rfl
  iterate 5 refine aD rfl ?_
  refine aJ rfl rfl (fun K hK=>?_);go_simp;refine hown.mono ?_;clear hown;rintro e V2 ⟨L,oA,oc,rfl,hLp,hPv,hA,hLa,b2⟩;rw[hsz1] at hA hLa;have bw2:=B1.out.trans (b2.mono (Nat.le_of_eq hsz1.symm));have hcl:=eO V2 LA cl labels (HA.out.2.2.2.1.below3 bw2) (by have:=HA.out.2.2.2.2.2.1;omega);rw[HM.out.2] at hcl;obtain⟨lL,hlL⟩:∃l,L.length=l:=⟨_,rfl⟩;rw[hlL];have H2:=aI6 hLp hPv hA hLa bw2 hlL;have hS2:=C.out V2 bw2;clear hLp hPv hA hLa b2 bw2 hlL hsz1;refine hK _ _ (fun _=>hS2) ?_;clear hK K hS2;(try simp only[Act.put,gA,gS,gZ,sA,sZ,sS])
  refine aJ rfl rfl (fun K hK=>?_);go_simp;refine hcl.mono ?_;clear hcl;rintro e V3 ⟨v3,rfl,own3,b3⟩;rw[HM.out.2] at own3;obtain⟨A3,c3,rfl,-,-⟩:=aF own3;have bw3:=tHn H2.out.2.2.2.2.1 b3;have hcp:=NB V3 Fg0 pg0 G (HA.out.2.2.2.2.1.below bw3) H.out.2.2.2.2.2.1;have H3:=aI3 own3 b3 bw3;have hS3:=C.out V3 bw3;clear own3 b3 bw3;refine hK _ _ (fun _=>hS3) ?_;clear hK K hS3;(try simp only[Act.put,gA,gS,gZ,sA,sZ,sS])
  refine aJ rfl rfl (fun K hK=>?_);go_simp;refine hcp.mono ?_;clear hcp;rintro e V4 ⟨pg,rfl,⟨Fg,hgS,hgF⟩,b4⟩;have bw4:=tHn H3.out.2.2 b4;have hno:=lK V4 nt (by have:=HA.out.2.2.2.2.2.2.2.2;omega);have H4:=aI4 hgS hgF b4 bw4;have hS4:=C.out V4 bw4;clear hgS hgF b4 bw4;refine hK _ _ (fun _=>hS4) ?_;clear hK K hS4;(try simp only[Act.put,gA,gS,gZ,sA,sZ,sS])
  refine aJ rfl rfl (fun K hK=>?_);go_simp;refine hno.mono ?_;clear hno;rintro e V5 ⟨mv,FT,rfl,hmt,hFT,b5⟩;obtain⟨mA,mc,rfl⟩:=hmt.form;have bw5:=tHn H4.out.2.2.2 b5;have hS5:=C.out V5 bw5;have H5:=aI4 hmt hFT b5 bw5;clear hmt hFT b5 bw5;refine hK _ _ (fun _=>hS5) ?_;clear hK K hS5;(try simp only[Act.put,gA,gS,gZ,sA,sZ,sS])
  refine aD rfl ?_;refine aJ rfl rfl (fun K hK=>?_);go_simp;have b6:Below V5.heap.size V5 (V5.alloc (.cells #[.int .i64 (nt:Int),.slice oA lL oc,.slice A3 l c3,.pointer (some ⟨pg,0,none⟩),.slice mA nt mc] 93)):=bR.alloc (Nat.le_refl _) _;have k6:=Blk.new V5 93 #[.int .i64 (nt:Int),.slice oA lL oc,.slice A3 l c3,.pointer (some ⟨pg,0,none⟩),.slice mA nt mc];have hd6:DcI (V5.alloc (.cells #[.int .i64 (nt:Int),.slice oA lL oc,.slice A3 l c3,.pointer (some ⟨pg,0,none⟩),.slice mA nt mc] 93)) (fun k=>(V1.heap.size≤k∧k<V3.heap.size)∨k=V5.heap.size) Fg FT V5.heap.size nt oc c3 pg oA A3 L labels (.slice mA nt mc) G noM:=
   DcI.made (V1:=V1) (V2:=V2) (V3:=V3) (V4:=V4) (V5:=V5) H2.out.2.1 H2.out.2.2.1 H2.out.2.2.2.1 H2.out.2.2.2.2.1 (by rw[HM.out.2];exact H3.out.1) H3.out.2.1 H4.out.1 H4.out.2.1 H4.out.2.2.1 H5.out.1 H5.out.2.1 H5.out.2.2.1 (by rw[HM.out.2,H2.out.2.2.2.2.2];exact k6) b6
  have bw6:=tHn H5.out.2.2.2 b6;have hS6:=C.out _ bw6;have hlo:∀k,(((V1.heap.size≤k∧k<V3.heap.size)∨k=V5.heap.size)∨Fg k∨FT k)→V1.heap.size≤k:=fun k hk=>by
   have z2:=H2.out.2.2.2.2.1.size;have z3:=H3.out.2.1.size;have z4:=H4.out.2.2.1.size;have z5:=H5.out.2.2.1.size;rcases hk with (hk|hk)|hk|hk
   ·exact hk.1
   ·omega
   ·have:=H4.out.2.1 k hk;omega
   ·have:=H5.out.2.1 k hk;omega
  have H6:=aI3 hd6 bw6 hlo;clear k6 b6 hd6 bw6 hlo;refine hK _ _ (fun _=>hS6) ?_;clear hK K hS6;(try simp only[Act.put,gA,gS,gZ,sA,sZ,sS])
  refine aD rfl ?_;refine aK ?_;generalize hp:V5.heap.size=p at H6 ⊢;generalize V5.alloc (.cells #[.int .i64 (nt:Int),.slice oA lL oc,.slice A3 l c3,.pointer (some ⟨pg,0,none⟩),.slice mA nt mc] 93)=V6 at H6 ⊢;clear hp;obtain⟨K,hKK⟩:∃K,(fun k=>(V1.heap.size≤k∧k<V3.heap.size)∨k=p)=K:=⟨_,rfl⟩;have hlo:∀k,K k∨Fg k∨FT k→V1.heap.size≤k:=fun k hk=>H6.out.2.2 k (by rw[← hKK] at hk;exact hk)
  have hd6:=H6.out.1;rw[hKK] at hd6;have bw6:=H6.out.2.1;obtain⟨c0,c1⟩:=C.out V6 bw6;have hno:=lK V6 nt (by have:=HA.out.2.2.2.2.2.2.2.2;omega);have H7:=aI3 hd6 bw6 hlo;have HLp:=aI2 H2.out.1 H2.out.2.2.2.2.2;clear hKK hlo hd6 bw6 H6 H5 H4 H3 H2 B1;-- what is fresh
  go_wp2_with fail;refine hno.mono ?_;clear hno c0 c1;rintro e V7 ⟨vn,F7,rfl,m7,hF7,b7⟩;obtain⟨fA,fc,rfl⟩:=m7.form;have hd7:=H7.out.1.below b7;have bw7:=tHn H7.out.2.1 b7;have hlen:=xD V7 Fg0 pg0 G (HA.out.2.2.2.2.1.below bw7);obtain⟨n,hn⟩:∃n,G.N.length=n:=⟨_,rfl⟩;rw[hn] at hlen;have HN:=hIz hn;have H8:=aI5 hd7 m7 hF7 bw7 b7.size;clear hd7 m7 hF7 bw7 b7 hn;go_wp2_with fail;refine hlen.mono ?_;clear hlen;rintro e V8 ⟨rfl,b8⟩;have hd8:=H8.out.1.below b8;have m8:=H8.out.2.1.below b8;have hn32:n≤32:=by have:=H.out.2.2.2.2.2.1.few.1;rw[HN.out] at this;exact this
  have hLpv:∀x∈L,NN nt labels.length x:=fun x hx=>by
   have:x.pr∈PV.map (·.pr):=by rw[← HLp.out.1];exact List.mem_map.2 ⟨x,hx,rfl⟩
   obtain⟨y,hy,e⟩:=List.mem_map.1 this;have hk:=HA.out.2.1 y hy;exact⟨e ▸ hk.g,e ▸ hk.few,e ▸ hk.one⟩
  have hLl:L.length≤8192:=by
   have:=congrArg List.length HLp.out.1;rw[List.length_map,List.length_map,HM.out.1] at this;have:=HA.out.2.2.2.2.2.2.1;rw[HM.out.1] at this;omega
  have hnod:=pK V8 K F7 p nt oc c3 pg oA A3 L labels (.slice mA nt mc) hd8.cp (.slice fA nt fc) noM m8 (fun k hk hK=>by have h1:=H8.out.2.2.1 k hk;have h2:=H7.out.1.klt k hK;omega) (fun x hx=>(hLpv x hx).g) (fun k r e=>by cases e) 0 n hn32 (Nat.zero_le _) (by omega);have H9:=aI6 hd8 m8 (tHn H8.out.2.2.2.1 b8) hLpv hLl (Nat.le_trans H8.out.2.2.2.2 b8.size);rw[Int.ofNat_zero] at hnod;clear hd8 m8 b8 hLpv hLl;go_wp2_with fail;refine hnod.mono ?_;clear hnod;rintro e V9 ⟨rfl,B9,⟨F9,m9,hu9,hF9⟩,hB9⟩;have hd9:DcI V9 K Fg FT p nt oc c3 pg oA A3 L labels (.slice mA nt mc) G noM:=H9.out.1.upd hu9 (fun k hk hf=>by
   have h1:=H8.out.2.2.1 k hf;have h2:=H7.out.1.klt k;have h3:=H7.out.1.gr.flt k;have h4:=H7.out.1.mt.lt k;rcases hk with hk|hk|hk
   ·have:=h2 hk;omega
   ·have:=h3 hk;omega
   ·have:=h4 hk;omega)
  have hF9':∀k,F9 k→V6.heap.size≤k:=fun k hk=>(hF9 k hk).elim (H8.out.2.2.1 k) (fun h=>by have:=H9.out.2.2.2.2.2;omega)
  have hK6:∀k,K k∨Fg k∨FT k→k<V6.heap.size:=fun k hk=>by
   rcases hk with hk|hk|hk
   ·exact H7.out.1.klt k hk
   ·exact H7.out.1.gr.flt k hk
   ·exact H7.out.1.mt.lt k hk
  have bw9:Below V1.heap.size V1 V9:=H9.out.2.2.1.trans (hu9.below (fun k _ hk=>by have h1:=H8.out.2.2.1 k hk;have h2:=H7.out.2.1.size;omega) H9.out.2.2.1.size);have q1:V9.cell? ⟨p,1,none⟩=some (.slice oA lL oc):=by rw[← HLp.out.2];exact hd9.cp.blk.cell 1
  have HI0:=hIz (show LbI V9 F9 (.slice fA nt fc) nt L labels G B9 0 V9 from⟨B9,⟨F9,m9,Upd.refl _ _,fun _ h=>.inl h⟩,LbB.start hB9.1⟩);have H10:=aI6 hd9 hF9' hK6 bw9 hB9 (Nat.le_trans H9.out.2.2.2.2.2 hu9.size);have hll:lL≤8192:=by rw[← HLp.out.2];exact H9.out.2.2.2.2.1
  clear hd9 hF9' hK6 bw9 hB9 m9 hu9 hF9;go_wp2;clear q1;go_loopw [57] (fun i wr=>∃q:Nat,q≤lL∧i=.int .i64 (q:Int)∧Hid (LbI V9 F9 (.slice fA nt fc) nt L labels G B9 q wr)) (fun i _=>lL-(intOf i).toNat)
  case atStart=>exact⟨0,Nat.zero_le _,rfl,HI0⟩
  case round =>
   obtain⟨q,hq,rfl,hi⟩:=hrel;clear HI0;obtain⟨B1',⟨F1,hm1,hu1,hF1⟩,hB1⟩:=hi.out;have hc1:DcI wr K Fg FT p nt oc c3 pg oA A3 L labels (.slice mA nt mc) G noM:=H10.out.1.upd hu1 (fun k hk hf=>by have h1:=H10.out.2.1 k hf;have h2:=H10.out.2.2.1 k hk;omega);by_cases hlt:q<lL
   ·have hltI:(q:Int)<(lL:Int):=by omega
    have hkw:IntKind.i64.wrap ((q:Int)+1)=(q:Int)+1:=IntWalk.i64_in _ (by omega);obtain⟨x,hx⟩:∃x,L[q]?=some x:=⟨_,gEz (by rw[HLp.out.2];exact hlt)⟩;have hxm:=mG hx;obtain⟨pb,po,rfl,c0,c1⟩:=hc1.cp.pv.1.pv hx;have hgx:=H9.out.2.2.2.1 x hxm;obtain⟨a,ha⟩:∃a:Nat,x.pr.head=(a:Int):=⟨x.pr.head.toNat,(Int.toNat_of_nonneg hgx.g.h0).symm⟩;have han:a<nt:=by have:=hgx.g.h1;omega
    have hta:x.pr.head.toNat=a:=by rw[ha];exact Int.toNat_natCast a
    rw[ha] at c0;have b1:Below wr.heap.size wr (wr.alloc (.cells #[.int .i64 (a:Int),.slice x.adr x.pr.body.length x.cap] 76)):=bR.alloc (Nat.le_refl _) _;have kb:=Blk.new wr 76 #[.int .i64 (a:Int),.slice x.adr x.pr.body.length x.cap];by_cases h2:x.pr.body.length=1
    ·obtain⟨s,hst⟩:∃s,x.pr.body=[s]:=by
      match hbody:x.pr.body,h2 with
      | [s],_=>exact⟨s,rfl⟩
     obtain⟨s0,s1⟩:=hgx.one s hst;have hrow:=hc1.cp.pv.2 x hxm;rw[hst] at hrow;obtain⟨la,li0⟩:=s;dsimp only at s0 s1
     obtain⟨li,rfl⟩:∃l':Nat,li0=(l':Int):=⟨li0.toNat,(Int.toNat_of_nonneg s0).symm⟩;obtain⟨lb,hlb⟩:∃y,labels[li]?=some y:=⟨_,gEz (by omega)⟩;obtain⟨lg,lo,rfl,cy⟩:=hc1.cp.lab.txt hlb;obtain⟨gb,gof,hadr,-⟩:=hrow 0 (.bool la) rfl;obtain⟨gb',gof',e,d1⟩:=hrow 1 (.int .i64 (li:Int)) rfl;rw[hadr] at e;injection e with e;injection e with e5 e6;subst e5;subst e6;rw[hadr,h2] at c1 b1 kb;obtain⟨xc,hxc⟩:∃xc,x.cap=xc:=⟨_,rfl⟩;rw[hxc] at c1 b1 kb;have hlI:(li:Int)<(l:Int):=by have:=HM.out.2;omega
     have bd:=b1.drew;have q3:(wr.alloc (.cells #[.int .i64 (a:Int),.slice (some ⟨gb,gof,none⟩) 1 xc] 76)).drew.cell? ⟨p,3,none⟩=some (.pointer (some ⟨pg,0,none⟩)):=(hc1.below bd).cp.blk.cell 3;have q2:(wr.alloc (.cells #[.int .i64 (a:Int),.slice (some ⟨gb,gof,none⟩) 1 xc] 76)).drew.cell? ⟨p,2,none⟩=some (.slice (some ⟨lg,lo,none⟩) l c3):=by have:=(hc1.below bd).cp.blk.cell 2;rw[HM.out.2] at this;exact this
     have z1:(wr.alloc (.cells #[.int .i64 (a:Int),.slice (some ⟨gb,gof,none⟩) 1 xc] 76)).drew.cell? ⟨wr.heap.size,1,none⟩=some (.slice (some ⟨gb,gof,none⟩) 1 xc):=kb.cell 1;have zc:(wr.alloc (.cells #[.int .i64 (a:Int),.slice (some ⟨gb,gof,none⟩) 1 xc] 76)).cell? ⟨wr.heap.size,1,none⟩=some (.slice (some ⟨gb,gof,none⟩) 1 xc):=kb.cell 1;have d1':=aS bd d1;have cy':=aS bd cy;have hmat:=nX _ Fg pg G (hc1.below bd).gr H.out.2.2.2.2.2.1 lb 32 H.out.2.2.2.2.2.1.few.1 (by decide) (by decide);have HX:=aI9 (hm1.below bd) (hu1.trans (upF bd) (fun _ h=>h.elim)) hF1 hB1 hx hst hlb hta (kb.upd (Upd.refl (fun _=>False) _).drew id);clear hx hxm hgx ha hta b1 kb h2 hm1 hu1 hF1 hB1 hi hst hrow s0 s1 hlb cy hadr hc1 d1 bd hxc;go_upto_region 12 with (fail);generalize hz15:wr.heap.size=z15 at HX z1 zc ⊢;generalize wr.alloc (.cells #[.int .i64 (a:Int),.slice (some ⟨gb,gof,none⟩) 1 xc] 76)=V10 at HX q3 q2 z1 zc d1' cy' hmat ⊢;clear c0 c1 hz15 zc;refine aR (fun V:World=>V.cell? ⟨p,3,none⟩=some (.pointer (some ⟨pg,0,none⟩))∧V.cell? ⟨p,2,none⟩=some (.slice (some ⟨lg,lo,none⟩) l c3)∧V.cell? ⟨z15,1,none⟩=some (.slice (some ⟨gb,gof,none⟩) 1 xc)∧V.cell? ⟨gb,gof+1,none⟩=some (.int .i64 (li:Int))∧V.cell? ⟨lg,lo+li,none⟩=some (.string lb)) 21 [(0,true),(1,true),(2,true),(3,true),(4,true),(5,true),(6,true),(7,true),(8,true),(9,true),(10,true),(11,true),(12,true),(13,true),(14,true),(15,false),(16,true),(17,true),(18,true),(19,true),(20,true)] (by kernel_rfl) (by kernel_rfl) (fun _ _ d _ _ h=>by cases d <;> exact h) ⟨q3,q2,z1,d1',cy'⟩ ?_
     have SR:=hIz (show ∀V,Below V10.drew.heap.size V10.drew V→V.cell? ⟨p,3,none⟩=some (.pointer (some ⟨pg,0,none⟩))∧V.cell? ⟨p,2,none⟩=some (.slice (some ⟨lg,lo,none⟩) l c3)∧V.cell? ⟨z15,1,none⟩=some (.slice (some ⟨gb,gof,none⟩) 1 xc)∧V.cell? ⟨gb,gof+1,none⟩=some (.int .i64 (li:Int))∧V.cell? ⟨lg,lo+li,none⟩=some (.string lb) from fun V hb=>⟨aS hb q3,aS hb q2,aS hb z1,aS hb d1',aS hb cy'⟩);clear q3 q2 z1 d1' cy';generalize V10.drew=V11 at HX SR hmat ⊢
     iterate 15 refine aD rfl ?_
     refine aJ rfl rfl (fun K hK=>?_);go_simp;refine hmat.mono ?_;clear hmat;rintro e V12 ⟨qm,bm,rfl,⟨Fm,hqm,hFm⟩,b12,hMt⟩;have HS:=SR.out V12 b12;have H12:=aI4 hqm hFm b12 hMt;clear hqm hFm b12 hMt;refine hK _ _ (fun _=>HS) ?_;clear hK K HS;(try simp only[Act.put,gA,gS,gZ,sA,sZ,sS])
     iterate 5 refine aD rfl ?_
     refine aK ?_;have m12:=HX.out.1.below H12.out.2.2.1;obtain⟨g9,c9,q9,Fq9,e,cg,hq9,hsub,hstep⟩:=m12.turn han;injection e with e _ e3;subst e;subst e3;have k12:=HX.out.2.2.2.2.2.2.2.2.upd (Upd.of_below H12.out.2.2.1 (fun _=>False)) id;have zz:V12.cell? ⟨z15,0,none⟩=some (.int .i64 (a:Int)):=k12.cell 0;have hanI:(a:Int)<(nt:Int):=by omega
     have hj:=iY V12 Fq9 Fm q9 qm 32 (B1' a) bm hq9 H12.out.1;have HS:=hIz hstep;clear m12 hq9 hsub hstep k12;go_wp2_with fail;refine hj.mono ?_;clear hj zz cg;rintro e V13 ⟨rfl,hto⟩;have FIN:=hIz (show LbI V9 F9 (.slice (some ⟨g9,0,none⟩) nt fc) nt L labels G B9 (q+1) V13 from
      ⟨_,oK.trans (HX.out.2.1.trans (Upd.of_below H12.out.2.2.1 (fun _=>False)) (fun _ h=>h.elim)) HX.out.2.2.1 (HS.out _ V13 hto),HX.out.2.2.2.1.step HX.out.2.2.2.2.1 HX.out.2.2.2.2.2.1 (by rw[Int.toNat_natCast];exact HX.out.2.2.2.2.2.2.1) HX.out.2.2.2.2.2.2.2.1 H12.out.1.wdO H12.out.2.2.2 H.out.2.2.2.2.2.1.few.1⟩)
     clear hto;go_wp2;go_roundw
     case rel=>exact⟨q+1,by omega,by go_num,FIN⟩
     case measure=>simp[intOf];omega
    ·have hc2:((x.pr.body.length:Int)==1)=false:=by simp;omega
     have FIN:=hIz (show LbI V9 F9 (.slice fA nt fc) nt L labels G B9 (q+1) (wr.alloc (.cells #[.int .i64 (a:Int),.slice x.adr x.pr.body.length x.cap] 76)) from
      ⟨B1',oK.trans hu1 hF1 ⟨F1,hm1.below b1,Upd.of_below b1 _,fun _ h=>.inl h⟩,hB1.skip hx h2⟩)
     have k0:(wr.alloc (.cells #[.int .i64 (a:Int),.slice x.adr x.pr.body.length x.cap] 76)).cell? ⟨wr.heap.size,1,none⟩=some (.slice x.adr x.pr.body.length x.cap):=kb.cell 1;clear hx hxm hgx ha han hta b1 kb h2 hm1 hu1 hF1 hB1 hi hc1;generalize x.pr.body.length=vl at *;go_wp2;go_roundw
     case rel=>exact⟨q+1,by omega,by go_num,FIN⟩
     case measure=>simp[intOf];omega
   ·obtain rfl:lL=q:=by omega
    have hqL:lL=L.length:=HLp.out.2.symm;have hB1':LbB L labels G B9 B1' L.length:=by rw[← hqL];exact hB1
    have hnB:NdB L 0 n noM B9 L.length 0:=H10.out.2.2.2.2.1;have z1:=H7.out.2.1.size;have z9:=H10.out.2.2.2.1.size;have hF1':∀k,F1 k→V6.heap.size≤k:=fun k hk=>(hF1 k hk).elim (H10.out.2.1 k) (fun h=>Nat.le_trans H10.out.2.2.2.2.2 h)
    have bwr:Below V1.heap.size V1 wr:=H10.out.2.2.2.1.trans (hu1.below (fun k _ hk=>by have h1:=H10.out.2.1 k hk;omega) z9);have bw0:Below w.heap.size w wr:=by
     have h1:=HA.out.2.2.1;rw[← HZ.out] at h1;exact tHn h1 bwr
    have zw1:w.heap.size≤V1.heap.size:=by have h1:=HA.out.2.2.1.size;exact h1
    have htw:=H.out.2.2.2.2.2.2.lt;have hgrow:=uI wr K FT F1 p nt oc c3 pg oA A3 L labels (.slice mA nt mc) (.slice fA nt fc) noM B1' (ElG G labels) n ⟨hc1.cp,hc1.mt,hm1,hc1.kt,fun k hk hf=>by have h1:=hF1' k hf;have h2:=H10.out.2.2.1 k (.inl hk);omega,fun k hk hf=>by have h1:=hF1' k hf;have h2:=H10.out.2.2.1 k (.inr (.inr hk));omega,fun x hx=>(H9.out.2.2.2.1 x hx).g,EV (fun x hx=>(H9.out.2.2.2.1 x hx).g) hnB hB1',fun k i j e=>by have h1:=e.lt;rw[HN.out] at h1;exact h1,hn32,
     H.out.2.2.2.2.2.2.upd (upF bw0) htw id,fun hf=>by have h1:=H7.out.2.2 _ (.inr (.inr hf));omega,fun hf=>by have h1:=hF1' _ hf;omega⟩ (by have:=HA.out.2.2.2.2.2.2.2.1;omega) (by have:=HA.out.2.2.2.2.2.2.2.2;omega) (by rw[← hqL];omega)
    have H13:=aI4 hc1 hF1' bw0 (Nat.le_trans zw1 bwr.size);have hz69:=H10.out.2.2.2.2.2;clear hc1 hm1 hu1 hF1 hB1 hi hB1' hnB hF1' bwr bw0 hqL;go_wp2_with fail;refine hgrow.mono ?_;clear hgrow;rintro e V14 ⟨v14,rfl,A14,c14,L14,T14,FT14,rfl,-,m14,hu14,hF14,-,-,-,hw14,hd14⟩;have FIN:=hIz (show KG w (nt:Int) PV labels G (.returned (.tuple #[.pointer (some ⟨p,0,none⟩),.int .i64 0])) V14 from by
     have hlow:∀k,K k∨Fg k∨FT k→w.heap.size≤k:=fun k hk=>Nat.le_trans zw1 (H7.out.2.2 k hk)
     have hR:∀k,K k∨Fg k→¬(FT k∨F1 k):=fun k hk hf=>by
      rcases hf with hf|hf
      ·exact hk.elim (fun hk=>H13.out.1.kt k hk hf) (fun hk=>H13.out.1.gt k hk hf)
      ·have h1:=H13.out.2.1 k hf;have h2:=H10.out.2.2.1 k (hk.elim .inl (fun h=>.inr (.inl h)));omega
     refine .inr ⟨HA.out.1,p,K,fun k=>Fg k∨FT14 k,T14,rfl,?_,fun k hk=>?_,H13.out.2.2.1.trans (hu14.below (fun k _ hk=>hk.elim (fun hk=>hlow k (.inr (.inr hk))) (fun hk=>by have:=H13.out.2.1 k hk;omega)) H13.out.2.2.1.size),?_⟩
     ·rw[Int.toNat_natCast];exact⟨Fg,FT14,oc,c3,pg,oA,A3,L,.slice mA nt mc,H13.out.1.facts m14 hu14 hR hF14,HLp.out.1,rfl⟩
     ·rcases hk with hk|hk|hk
      ·exact hlow k (.inl hk)
      ·exact hlow k (.inr (.inl hk))
      ·exact(hF14 k hk).elim (fun h=>hlow k (.inr (.inr h))) (fun h=>by have:=H13.out.2.2.2;omega)
     ·rw[Int.toNat_natCast];refine⟨H.out.2.2.2.2.2.1,fun p hp=>?_,fun p hp s hs=>?_,hw14,fun k hk i j=>?_,by have:=HA.out.2.2.2.2.2.2.2.1;omega,by have:=HA.out.2.2.2.2.2.2.2.2;omega,by rw[List.length_map];exact HA.out.2.2.2.2.2.2.1,HA.out.2.2.2.2.2.1⟩
      ·obtain⟨y,hy,rfl⟩:=List.mem_map.1 hp;exact(HA.out.2.1 y hy).g
      ·obtain⟨y,hy,rfl⟩:=List.mem_map.1 hp;exact(HA.out.2.1 y hy).one s hs
      ·rw[hd14 k hk i j,HLp.out.1,HN.out])
    clear m14 hu14 hF14 hw14 hd14;go_wp2;refine bodyPost_ret (v:=.tuple #[.pointer (some ⟨p,0,none⟩),.int .i64 0]) (by simp[results,Tryz.f7,go_sem]) rfl FIN.out
open Go.RowKit Go.Shelf
structure AwI(w W:World)(K V:Nat→Prop)(p:Nat)(G:Gr)(T:aX):Prop where
 d:DcV W K V p 3 cC [sAq,sB] G T
 ok:zZ 3 cC [sAq,sB] G T
 lo:∀k,K k∨V k→w.heap.size≤k
 b:Below w.heap.size w W
 t:fW W
def AwQ(w W:World)(K V:Nat→Prop)(p:Nat)(T:aX)(r:Gr × Bool × Int)(e:Ending)(W':World):Prop:=∃A c L T' V',e=.returned (.tuple #[.slice A L.length c,.bool r.2.1,.int .i64 r.2.2])∧AwI w W' K V' p r.1 T'∧W'.ownsRow w.heap.size 25 3 (.slice A L.length c) L.length (cP L)∧Upd V W W'∧(∀k,V' k→V k∨W.heap.size≤k)∧(∀q,(Value.slice A L.length c).ownBlock=some q→¬V' q)∧gD 3 T T' L∧L.Pairwise ltF∧(r.2.1=false→L=[])
theorem xU{w W:World}{K V:Nat→Prop}{p:Nat}{G:Gr}{T:aX}(h:AwI w W K V p G T)(htab:1<w.heap.size)(x:Ed)(hx:oR x){r:Gr × Bool × Int}(hr:aO G x=r) :
  Calls Tryz.prog 10 #[.pointer (some ⟨p,0,none⟩),.string x.fr,.string x.lb,.string x.to] W (AwQ w W K V p T r):=by
 have hnt:¬V 1:=fun e=>by have:=h.lo _ (.inr e);omega
 refine(uJ W K V p 3 cC [sAq,sB] G T h.d h.ok h.t hnt x hx).mono ?_;rintro e W' ⟨A,c,L,T',V',e1,e2,e3,e4,e5,e6,e7,e8,e9,e10⟩;rw[hr] at e1 e3 e4 e10;have hz:=h.b.size;refine⟨A,c,L,T',V',e1,⟨e3,e4,fun k hk=>?_,h.b.trans (e5.below (fun q _ hq=>h.lo q (.inr hq)) hz),h.t.upd e5 h.t.lt hnt⟩,bC e2 (fun q hq=>Nat.le_trans hz (e2.lt q hq).1),e5,e6,e7,e8,e9,e10⟩;rcases hk with hk|hk
 ·exact h.lo k (.inl hk)
 ·exact(e6 k hk).elim (fun h'=>h.lo k (.inr h')) (fun h'=>by omega)
theorem QV{T:aX}(h:zZ 3 cC [sAq,sB] ⟨[],[]⟩ T):∀k,k<3→∀i j,aY (T k) i j=true→False:=fun k hk i j hb=>KC ((h.der k hk i j).1 hb)
theorem LJ{T:aX}(h:zZ 3 cC [sAq,sB] gr1 T):∀k,k<3→∀i j,aY (T k) i j=true↔(k:Int)=1∧i=0∧j=1:=fun k hk i j=>(h.der k hk i j).trans SJ
theorem LK{T:aX}(h:zZ 3 cC [sAq,sB] gr2 T):∀k,k<3→∀i j,aY (T k) i j=true↔eU (k:Int) i j:=fun k hk i j=>(h.der k hk i j).trans SD
theorem zS(w:World)(hT:fW w):Calls Tryz.prog 13 #[] w (Sam w (.bool true)):=by
 have hk1:oR ed1:=by unfold oR eL;decide
 have hk2:oR ed2:=by unfold oR eL;decide
 have hk3:oR ed3:=by unfold oR eL;decide
 have htab:=hT.lt;have HT:=hIz hT;have hsm:=pM w;clear hT;go_enter Tryz.func13,Tryz.ntmps13;go_wp2_with fail;refine hsm.mono ?_;clear hsm;rintro e W1 ⟨gp,gc,PV,rfl,hPV,hPr,b1⟩;have b2:Below W1.heap.size W1 (W1.alloc (.cells #[.string sAq,.string sB] 9)):=bR.alloc (Nat.le_refl _) _;have hlr:bS (W1.alloc (.cells #[.string sAq,.string sB] 9)) (some ⟨W1.heap.size,0,none⟩) (aE [sAq,sB]):=lZ (Blk.new W1 9 #[.string sAq,.string sB]);have hlen4:PV.length=4:=by have:=congrArg List.length hPr;simpa[cC] using this
 have hnw:=PW (W1.alloc (.cells #[.string sAq,.string sB] 9));have H1:=aI5 (hPV.below b2) hlr hPr hlen4 (tHn b1 b2);clear hPV hlr hPr hlen4 b1 b2;unfold sAq sB at hnw;go_wp2_with fail;refine hnw.mono ?_;clear hnw;rintro e W3 ⟨pg,rfl,⟨F1,g1,n1⟩,b3⟩;have hT3:fW W3:=HT.out.upd (Upd.of_below (tHn H1.out.2.2.2.2 b3) (fun _=>False)) htab id;have hnew:=KH W3 3 (some ⟨gp,0,none⟩) gc PV (H1.out.1.below b3) (some ⟨W1.heap.size,0,none⟩) 2 [sAq,sB] (H1.out.2.1.below3 b3) F1 pg ⟨[],[]⟩ g1 GOk.new hT3;rw[H1.out.2.2.2.1] at hnew;have H3:=aI2 hT3 (tHn H1.out.2.2.2.2 b3);clear g1 n1 b3 hT3;have hnq:=hIz (show ∀e w',KG W3 3 PV [sAq,sB] ⟨[],[]⟩ e w'→∃p K V T,e=.returned (.tuple #[.pointer (some ⟨p,0,none⟩),.int .i64 0])∧AwI w w' K V p ⟨[],[]⟩ T from by
  rintro e w' (⟨h,-,-⟩|⟨-,p,K,V,T,he,h1,h2,h3,h4⟩)
  ·rw[SG H1.out.2.2.1] at h;cases h
  ·rw[H1.out.2.2.1] at h1 h4;have hz:=H3.out.2.size;exact⟨p,K,V,T,he,h1,h4,fun k hk=>by have:=h2 k hk;omega,H3.out.2.trans (h3.mono hz),H3.out.1.upd (upF h3) H3.out.1.lt id⟩)
 unfold sAq sB at hnew;simp only[List.length_cons,List.length_nil,Nat.reduceAdd] at hnew
 go_wp2_with fail;refine hnew.mono ?_;clear hnew;rintro e W4 hq;obtain⟨p,K,V0,T0,rfl,h4⟩:=hnq.out e W4 hq;have hc:=xU h4 htab ed1 hk1 SB;have H4:=hIz h4;clear hq hnq h4;unfold ed1 sX sAq sY at hc;dsimp only at hc
 go_wp2_with fail;refine hc.mono ?_;clear hc;rintro e W5 ⟨A1,c1,L1,T1,V1,rfl,h5,-,-,-,-,hg1,hs1,-⟩;have hL1:=QS hg1 hs1 (QV H4.out.ok) (LJ h5.ok);subst hL1;dsimp only at h5 ⊢
 have hc:=xU h5 htab ed2 hk2 SC;have H5:=hIz h5;clear hg1 hs1 h5;unfold ed2 sY sB sZq at hc;dsimp only at hc
 go_wp2_with fail;refine hc.mono ?_;clear hc;rintro e W6 ⟨A2,c2,L2,T2,V2,rfl,h6,own2,-,-,hn2,hg2,hs2,-⟩;have hL2:=QT hg2 hs2 (LJ H5.out.ok) (LK h6.ok);subst hL2;dsimp only at h6 ⊢
 have hc:=xU h6 htab ed2 hk2 SK;have H6:=aI3 h6 own2 hn2;clear hg2 hs2 h6 own2 hn2;unfold ed2 sY sB sZq at hc;dsimp only at hc
 go_wp2_with fail;refine hc.mono ?_;clear hc;rintro e W7 ⟨A3,c3,L3,T3,V3,rfl,h7,-,hu7,hn7,-,-,-,hl3⟩;have hL3:=hl3 rfl;subst hL3;dsimp only at h7 ⊢
 have hc:=xU h7 htab ed3 hk3 SL;have H7:=aI3 h7 (aA H6.out.2.1 hu7 H6.out.2.2) (show ∀q,(Value.slice A2 [((0:Nat),(0:Nat),(2:Nat)),(2,1,2)].length c2).ownBlock=some q→¬V3 q from fun q hq hv=>(hn7 q hv).elim (H6.out.2.2 q hq) (fun h=>by have:=(H6.out.2.1.lt q hq).2;omega));clear hu7 hn7 hl3 h7;unfold ed3 sX sUA sY at hc;dsimp only at hc
 go_wp2_with fail;refine hc.mono ?_;clear hc;rintro e W8 ⟨A4,c4,L4,T4,V4,rfl,h8,-,hu8,-,-,-,-,hl4⟩;have hL4:=hl4 rfl;subst hL4;dsimp only at h8 ⊢
 have own8:=aA H7.out.2.1 hu8 H7.out.2.2;obtain⟨ga,gc2,e,-,-,-,-,-⟩:=aL own8 (by decide);injection e with e1 e2 e3;subst e1;obtain⟨q0,q1,q2⟩:=QO own8 (k:=0) rfl;have hlen:=JV W8 _ p 3 cC [sAq,sB] gr2 T4 h8.d.s (by decide) (by decide);rw[SE h8.ok.wd (LK h8.ok)] at hlen;have FIN:=hIz h8.b;clear hu8 hl4 h8 own8 H7 H6 H5 H4 e2 e3;dsimp only at q0 q1 q2
 simp only[List.length_cons,List.length_nil,Nat.reduceAdd,Nat.zero_mul,Nat.zero_add] at q0 q1 q2 ⊢
 go_wp2_with fail;refine hlen.mono ?_;clear hlen q0 q1 q2;rintro e W9 ⟨rfl,b9⟩;have FIN2:=hIz (tHn FIN.out b9);clear b9;go_wp2;go_ret;exact⟨rfl,FIN2.out⟩
open Go.RowKit Go.Shelf
theorem EW(w:World)(hT:fW w)(x:Ed)(a b c:Int):Calls Tryz.prog 3 #[.agg #[.string x.fr,.string x.lb,.string x.to],.agg #[.int .i64 a,.int .i64 b,.int .i64 c]] w (Sam w (.bool true)):=by
 have b1:Below w.heap.size w ((w.alloc (.cells #[.string x.fr,.string x.lb,.string x.to] 23)).alloc (.cells #[.int .i64 a,.int .i64 b,.int .i64 c] 25)):=by(repeat (first | exact Below.refl _ _ | apply Below.drew | refine Below.alloc ?_ (by first | exact Nat.le_refl _ | (simp;done) | (simp;omega)) _ | refine Below.setCell ?_ (by first | exact Nat.le_refl _ | (simp;done) | (simp;omega)) _))
 have k1:Blk ((w.alloc (.cells #[.string x.fr,.string x.lb,.string x.to] 23)).alloc (.cells #[.int .i64 a,.int .i64 b,.int .i64 c] 25)) w.heap.size 23 #[.string x.fr,.string x.lb,.string x.to]:=(Blk.new w _ _).alloc _;have k2:Blk ((w.alloc (.cells #[.string x.fr,.string x.lb,.string x.to] 23)).alloc (.cells #[.int .i64 a,.int .i64 b,.int .i64 c] 25)) (w.heap.size+1) 25 #[.int .i64 a,.int .i64 b,.int .i64 c]:=by
  have:=Blk.new (w.alloc (.cells #[.string x.fr,.string x.lb,.string x.to] 23)) 25 #[.int .i64 a,.int .i64 b,.int .i64 c];rwa [World.size_alloc] at this
 go_enter Tryz.func3,Tryz.ntmps3;go_upto_region 2 with (fail);generalize (w.alloc (.cells #[.string x.fr,.string x.lb,.string x.to] 23)).alloc (.cells #[.int .i64 a,.int .i64 b,.int .i64 c] 25)=W at b1 k1 k2 ⊢;obtain⟨z,hz⟩:∃z,w.heap.size=z:=⟨_,rfl⟩;rw[hz] at b1 k1 k2 ⊢;have C:=hIz (show ∀V,Below W.heap.size W V→V.cell? ⟨z,0,none⟩=some (.string x.fr)∧V.cell? ⟨z,1,none⟩=some (.string x.lb)∧V.cell? ⟨z,2,none⟩=some (.string x.to)∧V.cell? ⟨z+1,0,none⟩=some (.int .i64 a)∧V.cell? ⟨z+1,1,none⟩=some (.int .i64 b)∧V.cell? ⟨z+1,2,none⟩=some (.int .i64 c) from fun V hb=>by
  have j1:=k1.upd (upF hb) id;have j2:=k2.upd (upF hb) id;exact⟨j1.cell 0,j1.cell 1,j1.cell 2,j2.cell 0,j2.cell 1,j2.cell 2⟩)
 have H:=aI3 b1 hT hz;have hsm:=pM W;clear b1 k1 k2 hT hz;go_wp2_with fail;refine hsm.mono ?_;clear hsm;rintro e W1 ⟨gp,gc,PV,rfl,-,-,c1⟩;have c2:=c1.trans (((Below.refl _ W1).alloc (Nat.le_refl _) (.cells #[.string sAq,.string sB] 9)).mono c1.size);have hnw:=KA (W1.alloc (.cells #[.string sAq,.string sB] 9)) (.int .i64 3) (.slice (some ⟨gp,0,none⟩) 4 gc) (.slice (some ⟨W1.heap.size,0,none⟩) 2 2);have H1:=hIz c2;clear c1 c2;unfold sAq sB at hnw;go_wp2_with fail;refine hnw.mono ?_;clear hnw;rintro e W2 ⟨rfl,d2⟩;have e2:=tHn H1.out d2;obtain⟨x0,x1,x2,-,-,-⟩:=C.out W2 e2;have hn:=DB W2 x.fr;have H2:=hIz e2;clear d2 e2;go_wp2_with fail;refine hn.mono ?_;clear hn x0 x1 x2;rintro e W3 ⟨rfl,d3⟩;have e3:=tHn H2.out d3;obtain⟨x0,x1,x2,-,-,-⟩:=C.out W3 e3;have hn:=DC W3 x.fr x.lb x.to;have H3:=hIz e3;clear d3 e3;go_wp2_with fail;refine hn.mono ?_;clear hn x0 x1 x2;rintro e W4 ⟨rfl,d4⟩;have e4:=tHn H3.out d4;have hl:=zM W4 0;have H4:=hIz e4;clear d4 e4;go_wp2_with fail;refine hl.mono ?_;clear hl;rintro e W5 ⟨rfl,d5⟩;have e5:=tHn H4.out d5;obtain⟨-,-,-,x0,x1,x2⟩:=C.out W5 e5;have hk:=vZ W5 a b c;have H5:=hIz e5;clear d5 e5;go_wp2_with fail;refine hk.mono ?_;clear hk x0 x1 x2;rintro e W6 ⟨rfl,d6⟩;have e6:=tHn H5.out d6;have hbw:Below w.heap.size w W6:=by
  have h1:=H.out.1;rw[← H.out.2.2] at h1;exact tHn h1 e6
 have ha:=zS W6 (H.out.2.1.upd (upF hbw) H.out.2.1.lt id);have H6:=hIz hbw;clear d6 e6 hbw;go_wp2_with fail;refine ha.mono ?_;clear ha;rintro e W7 ⟨rfl,d7⟩;have FIN:=hIz (tHn H6.out d7);clear d7;go_wp2;go_ret;exact⟨rfl,FIN.out⟩
end Go.Proofs.YtnokckdkaifibaaGreatDoor
namespace Go.Proofs.YtnokckdkaifibaaGreatDoor.edRead
open Go.ChangeShapes Go.WideShapes Go.ChangeAt Go.RowKit
set_option linter.unusedVariables false
theorem own:ownKnob Tryz.prog.godebug=none:=by kernel_rfl
theorem EX:laidOutB Tryz.prog=true:=by kernel_rfl

section
variable {H:Type} {enc:TypeId × Value→H} {P:Program} {w:World}
end
theorem EY:Tryz.prog.cellsOf 9=1:=by kernel_rfl
theorem rS{n:Nat}{c:Value}{l:List Lit}(h:Tryz.prog.keyLits n 9 [c]=some l):∃s:Txt,c=.string s∧eL s:=by
 cases n with
 | zero=>simp[Program.keyLits] at h
 | succ n =>
  unfold Program.keyLits at h;simp only[Tryz.underlying9] at h
  cases c <;> simp at h;obtain⟨hw,_⟩:=h;refine⟨_,rfl,?_⟩;unfold eL;unfold maxLen at hw;omega
theorem len_one{α:Type}:∀{l:List α},l.length=1→∃a,l=[a]
 | [a],_=>⟨a,rfl⟩
theorem OC{α:Type}:∀{l:List α},l.length=2→∃a b,l=[a,b]
 | [a,b],_=>⟨a,b,rfl⟩
theorem uK{α:Type}:∀{l:List α},l.length=3→∃a b c,l=[a,b,c]
 | [a,b,c],_=>⟨a,b,c,rfl⟩
theorem zT:Tryz.prog.cellsOf 23=3:=by kernel_rfl
theorem OD{cs:List Value}{L:List Lit}(hl:cs.length=3)(h:Tryz.prog.keyLits 2 23 cs=some L):∃x:Ed,cs=x.cells∧oR x:=by
 obtain⟨c0,c1,c2,rfl⟩:=uK hl;rw[show(2:Nat)=1+1 from rfl] at h;unfold Program.keyLits at h;simp only[Tryz.underlying23] at h
 split at h
 ·obtain⟨l,hl',_⟩:=Option.map_eq_some_iff.1 h;simp only[EY,List.mapM_cons,List.mapM_nil,bind,Option.bind_eq_some_iff] at hl'
  obtain⟨l0,h0,q0,⟨l1,h1,q1,⟨l2,h2,-⟩,-⟩,-⟩:=hl';simp at h0 h1 h2
  obtain⟨x,rfl,hx⟩:=rS h0;obtain⟨y,rfl,hy⟩:=rS h1;obtain⟨z,rfl,hz⟩:=rS h2;exact⟨⟨x,y,z⟩,rfl,hx,hy,hz⟩
 ·cases h

instance:Inhabited Txt:=⟨ByteArray.empty⟩
instance:Inhabited Ed:=⟨⟨default,default,default⟩⟩
end Go.Proofs.YtnokckdkaifibaaGreatDoor.edRead
namespace Go.Proofs.YtnokckdkaifibaaGreatDoor.edRead
open Go.ChangeShapes Go.WideShapes Go.ChangeAt Go.RowKit
theorem EZ{H:Type}{enc:TypeId × Value→H}{W:World}{base:Nat}{v:Value}{d0:DataW H}{p0:List MemPlace}(hv:Value.okWide Tryz.prog W .any base 23 v)(h:DataW.Trod enc Tryz.prog W 0 (fun _=>true) true 23 v d0 p0) :
  ∃x:Ed,v=x.agg∧oR x:=by
 obtain⟨cs,rfl,hcs⟩:=okWide_struct Tryz.underlying23 hv;rw[zT] at hcs;obtain⟨fuel,hf⟩:=h;have hk:=(keyLits_of_trod 2 23 (by kernel_rfl) fuel _ _ hf).1;obtain⟨x,hx,ok⟩:=OD (by simpa[Value.cells] using hcs) hk;refine⟨x,?_,ok⟩;obtain⟨l⟩:=cs;simp only[Value.cells] at hx
 subst hx;rfl
end Go.Proofs.YtnokckdkaifibaaGreatDoor.edRead
namespace Go.Proofs.YtnokckdkaifibaaGreatDoor.edRead
open Go.ChangeShapes Go.WideShapes Go.ChangeAt Go.RowKit
set_option linter.unusedVariables false
theorem mT{n:Nat}{c:Value}{l:List Lit}(h:Tryz.prog.keyLits n 3 [c]=some l):∃x,c=.int .i64 x∧Wf x:=by
 cases n with
 | zero=>simp[Program.keyLits] at h
 | succ n =>
  unfold Program.keyLits at h;simp only[Tryz.underlying3] at h
  cases c <;> simp at h;rename_i k v
  obtain⟨⟨rfl,hw⟩,_⟩:=h;exact⟨v,rfl,hw⟩
theorem FA{n:Nat}{c:Value}{l:List Lit}(h:Tryz.prog.keyLits n 4 [c]=some l):∃x,c=.bool x:=by
 cases n with
 | zero=>simp[Program.keyLits] at h
 | succ n =>
  unfold Program.keyLits at h;simp only[Tryz.underlying4] at h
  cases c <;> simp at h;exact⟨_,rfl⟩
theorem uL:Tryz.prog.cellsOf 3=1:=by kernel_rfl
theorem zU:Tryz.prog.cellsOf 4=1:=by kernel_rfl
theorem zX:Tryz.prog.cellsOf 25=3:=by kernel_rfl
instance:Inhabited Sy:=⟨⟨false,0⟩⟩
instance:Inhabited Pv:=⟨⟨⟨0,[]⟩,none,0⟩⟩
theorem RF{cs:List Value}{L:List Lit}(hl:cs.length=2)(h:Tryz.prog.keyLits 2 101 cs=some L):∃s:Sy,cs=s.cells∧Wf s.at_:=by
 obtain⟨c0,c1,rfl⟩:=OC hl;rw[show(2:Nat)=1+1 from rfl] at h;unfold Program.keyLits at h;simp only[Tryz.underlying101] at h
 split at h
 ·obtain⟨l,hl',_⟩:=Option.map_eq_some_iff.1 h;simp only[zU,uL,List.mapM_cons,List.mapM_nil,bind,Option.bind_eq_some_iff] at hl'
  obtain⟨l0,h0,q0,⟨l1,h1,-⟩,-⟩:=hl';simp at h0 h1
  obtain⟨x,rfl⟩:=FA h0;obtain⟨y,rfl,hy⟩:=mT h1;exact⟨⟨x,y⟩,rfl,hy⟩
 ·cases h
theorem KI{H:Type}{enc:TypeId × Value→H}{W:World}{base:Nat}{v:Value}{d0:DataW H}{p0:List MemPlace}(hv:Value.okWide Tryz.prog W .any base 25 v)(h:DataW.Trod enc Tryz.prog W 0 (fun _=>true) true 25 v d0 p0) :
  ∃k i j:Int,v=.agg #[.int .i64 k,.int .i64 i,.int .i64 j]∧Wf k∧Wf i∧Wf j:=by
 obtain⟨cs,rfl,hcs⟩:=okWide_struct Tryz.underlying25 hv;rw[zX] at hcs;obtain⟨fuel,hf⟩:=h;have hk:=(keyLits_of_trod 2 25 (by kernel_rfl) fuel _ _ hf).1;obtain⟨c0,c1,c2,hc⟩:=uK (l:=cs.toList) (by simpa using hcs);obtain rfl:cs=#[c0,c1,c2]:=by cases cs;simp_all
 simp only[Value.cells] at hk
 rw[show(2:Nat)=1+1 from rfl] at hk;unfold Program.keyLits at hk;simp only[Tryz.underlying25] at hk
 split at hk
 ·obtain⟨l,hl',_⟩:=Option.map_eq_some_iff.1 hk;simp only[uL,List.mapM_cons,List.mapM_nil,bind,Option.bind_eq_some_iff] at hl'
  obtain⟨l0,h0,q0,⟨l1,h1,q1,⟨l2,h2,-⟩,-⟩,-⟩:=hl';simp at h0 h1 h2
  obtain⟨x,rfl,hx⟩:=mT h0;obtain⟨y,rfl,hy⟩:=mT h1;obtain⟨z,rfl,hz⟩:=mT h2;exact⟨x,y,z,rfl,hx,hy,hz⟩
 ·cases hk
end Go.Proofs.YtnokckdkaifibaaGreatDoor.edRead
