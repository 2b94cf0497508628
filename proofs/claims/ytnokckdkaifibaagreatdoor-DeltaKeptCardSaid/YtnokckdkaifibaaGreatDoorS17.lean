/- delta: New; layer 23's laws: awake; DeltaOrder: plain law: facts by the names of their nodes; DeltaKept: plain law: what is told; DeltaKept: its memory; layer 23's laws: many; delta: Has. (Written by mkDlO.py.); DeltaKept: the walk. -/
import Derived.Test.YtnokckdkaifibaaGreatDoorS16
import Derived.Test.YtnokckdkaifibaaGreatDoorS14
import Derived.Test.YtnokckdkaifibaaGreatDoorS15
import Derived.Test.YtnokckdkaifibaaGreatDoorS09
import Derived.Test.YtnokckdkaifibaaGreatDoorS13
import Derived.Deep.CutRange
set_option linter.unusedVariables false
set_option linter.unusedSimpArgs false
set_option maxHeartbeats 16000000
set_option maxRecDepth 100000
namespace Go.Proofs.YtnokckdkaifibaaGreatDoor
open Go.RowKit Go.Shelf
def MH(w:World)(nts:Int)(PV:List Pv)(labels:List Txt)(G:Gr)(e:Ending)(w':World):Prop:=
 (fX nts PV labels=2∧e=.returned (.tuple #[.pointer none,.int .i64 2])∧Below w.heap.size w w') ∨
 (fX nts PV labels=0∧∃p K V T,e=.returned (.tuple #[.pointer (some ⟨p,0,none⟩),.int .i64 0])∧DcV w' K V p nts.toNat (PV.map (·.pr)) labels G T∧(∀k,K k∨V k→w.heap.size≤k)∧Below w.heap.size w w'∧nS nts.toNat (PV.map (·.pr)) labels G T)
def LbB(PV:List Pv)(labels:List Txt)(G:Gr)(B B':aY)(q:Nat):Prop:=(∀k,WdO (B' k))∧∀k i j,aX (B' k) i j=true↔aX (B k) i j=true∨∃m x s,PV[m]?=some x∧m<q∧x.pr.body=[s]∧x.pr.head.toNat=k∧ElG G labels s.at_ i j
section
variable {PV:List Pv} {labels:List Txt} {G:Gr} {B B':aY} {q:Nat}
theorem LbB.start(h:∀k,WdO (B k)):LbB PV labels G B B 0:=⟨h,fun k i j=>by
 constructor
 ·exact .inl
 ·rintro (h|⟨m,x,s,_,h,_⟩)
  ·exact h
  ·omega⟩
theorem LbB.skip(h:LbB PV labels G B B' q){x:Pv}(hx:PV[q]?=some x)(hb:x.pr.body.length≠1):LbB PV labels G B B' (q+1):=⟨h.1,fun k i j=>by
 rw[h.2];constructor
 ·rintro (h1|⟨m,y,s,h3,h4,h5⟩)
  ·exact .inl h1
  ·exact .inr ⟨m,y,s,h3,by omega,h5⟩
 ·rintro (h1|⟨m,y,s,h3,h4,h5,h6⟩)
  ·exact .inl h1
  ·refine .inr ⟨m,y,s,h3,?_,h5,h6⟩;by_cases e:m=q
   ·subst e;rw[hx] at h3;obtain rfl:=Option.some.inj h3;exact(hb (by rw[h5];rfl)).elim
   ·omega⟩
theorem LbB.step(h:LbB PV labels G B B' q){x:Pv}(hx:PV[q]?=some x){s:Sy}(hb:x.pr.body=[s]){lb:Txt}(hl:labels[s.at_.toNat]?=some lb){a:Nat}(ha:x.pr.head.toNat=a){b:Option (List Nat)}(hw:WdO b)(hm:LN G lb b)(hN:G.N.length≤32):LbB PV labels G B (upM B' a (joinQ (B' a) b)) (q+1):=by
 have hbit:∀i j,aX b i j=true↔ElG G labels s.at_ i j:=fun i j=>by
  constructor
  ·intro hb2;obtain⟨y,hy,e⟩:=(hm i j (cJ hw hb2) (fM hw hb2)).1 hb2;exact⟨lb,hl,y,hy,e⟩
  ·intro he;have hlt:=he.lt;obtain⟨lb',hl',y,hy,e⟩:=he;rw[hl] at hl';obtain rfl:=Option.some.inj hl';exact(hm i j (by omega) (by omega)).2 ⟨y,hy,e⟩
 refine⟨fun k=>?_,fun k i j=>?_⟩
 ·by_cases e:k=a
  ·subst e;rw[cM];exact(h.1 k).joinQ hw
  ·rw[dA B' _ e];exact h.1 k
 ·by_cases e:k=a
  ·subst e;rw[cM,(kM.joinQ (h.1 k) hw).2,h.2,hbit];constructor
   ·rintro ((h1|⟨m,y,t,h3,h4,h5⟩)|h1)
    ·exact .inl h1
    ·exact .inr ⟨m,y,t,h3,by omega,h5⟩
    ·exact .inr ⟨q,x,s,hx,by omega,hb,ha,h1⟩
   ·rintro (h1|⟨m,y,t,h3,h4,h5,h6,h7⟩)
    ·exact .inl (.inl h1)
    ·by_cases e:m=q
     ·subst e;rw[hx] at h3;obtain rfl:=Option.some.inj h3;rw[hb] at h5;injection h5 with e5;subst e5;exact .inr h7
     ·exact .inl (.inr ⟨m,y,t,h3,by omega,h5,h6,h7⟩)
  ·rw[dA B' _ e,h.2];constructor
   ·rintro (h1|⟨m,y,t,h3,h4,h5⟩)
    ·exact .inl h1
    ·exact .inr ⟨m,y,t,h3,by omega,h5⟩
   ·rintro (h1|⟨m,y,t,h3,h4,h5,h6,h7⟩)
    ·exact .inl h1
    ·refine .inr ⟨m,y,t,h3,?_,h5,h6,h7⟩;by_cases e2:m=q
     ·subst e2;rw[hx] at h3;obtain rfl:=Option.some.inj h3;exact(e (h6.symm.trans ha)).elim
     ·omega
theorem IC{nts n:Nat}{B1 B2:aY}(hg:∀x∈PV,xQ nts x.pr)(hn:NdB PV 0 n noM B1 PV.length 0)(hb:LbB PV labels G B1 B2 PV.length):DlI (PV.map (·.pr)) (ElG G labels) n nts noM B2:=by
 have hgP:∀p∈PV.map (·.pr),xQ nts p:=fun p hp=>by
  obtain⟨x,hx,rfl⟩:=List.mem_map.1 hp;exact hg x hx
 refine DlI.start (El0:=fun _ _ _=>False) (n0:=0) hgP (fun k r e=>by cases e) hb.1 (fun k hk i j=>⟨fun h=>(by cases h),fun d=>?_⟩) (fun _ _ _ h=>h.elim) (Nat.zero_le _) (fun p hp hbd i _ h2=>?_) (fun p hp t hbd i j h1 _=>?_) (fun k hk i j hbt=>?_)
 ·have:∀a i j,gX (PV.map (·.pr)) (fun _ _ _=>False) 0 a i j→False:=fun a i j d=>by
   have:=d.lt (fun _ _ _ h=>h.elim);omega
  exact(this _ _ _ d).elim
 ·obtain⟨y,hy,rfl⟩:=List.mem_map.1 hp;obtain⟨m,hm⟩:=List.getElem?_of_mem hy;exact(hb.2 _ _ _).2 (.inl ((hn.2 _ _ _).2 (.inr ⟨rfl,Nat.zero_le _,m,y,hm,hbd,rfl,.inl ⟨(gO.1 hm).1,h2⟩⟩)))
 ·obtain⟨y,hy,rfl⟩:=List.mem_map.1 hp;obtain⟨m,hm⟩:=List.getElem?_of_mem hy;exact(hb.2 _ _ _).2 (.inr ⟨m,y,t,hm,(gO.1 hm).1,hbd,rfl,h1⟩)
 ·have hkey:∀y:Pv,y∈PV→y.pr.head.toNat=k→(⟨(k:Int),y.pr.body⟩:Pr)∈PV.map (·.pr):=fun y hy hh=>by
   have hpr:y.pr∈PV.map (·.pr):=List.mem_map.2 ⟨y,hy,rfl⟩;have h0:=(hg _ hy).h0;have e1:y.pr.head=(k:Int):=by omega
   rw[← e1];exact hpr
  rcases (hb.2 k i j).1 hbt with h1|⟨m,y,t,hm,-,hbd,hh,hl⟩
  ·rcases (hn.2 k i j).1 h1 with h1|⟨rfl,h1,m,y,hm,hbd,hh,h2⟩
   ·cases h1
   ·have hpr:=hkey y (mG hm) hh;have hlt:i<n:=h2.elim (fun h=>h.2) (fun h=>by omega);rw[hbd] at hpr;exact .eps hpr hlt
  ·have hpr:=hkey y (mG hm) hh;rw[hbd] at hpr;exact .one hpr hl
end
def LbI(w:World)(F:Nat→Prop)(vn:Value)(nts:Nat)(PV:List Pv)(labels:List Txt)(G:Gr)(B:aY)(q:Nat)(W:World):Prop:=∃B',pY w F vn 32 nts B' W∧LbB PV labels G B B' q
theorem DcI.made{V1 V2 V3 V4 V5 V6:World}{nts pc cl pg:Nat}{L:List Pv}{A LA:Option Addr}{labels:List Txt}{mv:Value}{Fg FT:Nat→Prop}{G:Gr}
  (hP:PvR V2 A L) (hA:∀b o s,A=some ⟨b,o,s⟩→V1.heap.size≤b∧b<V2.heap.size) (hv:∀v∈L,∀b o s,v.adr=some ⟨b,o,s⟩→V1.heap.size≤b∧b<V2.heap.size) (b2:Below V1.heap.size V1 V2)
  (hl:V3.ownsRow V2.heap.size 9 1 (.slice LA labels.length cl) labels.length (aE labels)) (b3:Below V2.heap.size V2 V3) (hg:GrS V4 Fg pg G) (hF:∀k,Fg k→V3.heap.size≤k) (b4:Below V3.heap.size V3 V4) (hm:MtS V5 FT mv 32 nts noM) (hFT:∀k,FT k→V4.heap.size≤k) (b5:Below V4.heap.size V4 V5)
  (hk:Blk V6 V5.heap.size 93 #[.int .i64 (nts:Int),.slice A L.length pc,.slice LA labels.length cl,.pointer (some ⟨pg,0,none⟩),mv]) (b6:Below V5.heap.size V5 V6) :
  DcI V6 (fun k=>(V1.heap.size≤k∧k<V3.heap.size)∨k=V5.heap.size) Fg FT V5.heap.size nts pc cl pg A LA L labels mv G noM:=by
 have z2:=b2.size;have z3:=b3.size;have z4:=b4.size;have z5:=b5.size;have b26:Below V2.heap.size V2 V6:=b3.trans ((b4.trans ((b5.trans (b6.mono z5)).mono z4)).mono z3);have b36:Below V3.heap.size V3 V6:=b4.trans ((b5.trans (b6.mono z5)).mono z4);have b46:Below V4.heap.size V4 V6:=b5.trans (b6.mono z5);have hTl:=hm.lt;have hGl:=hg.flt;have hkl:=hk.lt;refine⟨⟨hk,hP.below b26,(bJ.of_own hl).below3 b36,.inr rfl,fun b o x e=>.inl ⟨(hA b o x e).1,by have:=(hA b o x e).2;omega⟩,fun v hv' b o x e=>.inl ⟨(hv v hv' b o x e).1,by have:=(hv v hv' b o x e).2;omega⟩,fun b o x e=>.inl (by
  subst e;have:=hl.lt b rfl;omega)⟩,hg.below b46,hm.below b6,fun k hk hf=>?_,fun k hk hf=>?_,fun k hf ht=>?_,fun k hk=>?_⟩
 ·have h1:=hF k hf;have h2:=hGl k hf;rcases hk with hk|hk
  ·omega
  ·omega
 ·have h1:=hFT k hf;have h2:=hTl k hf;rcases hk with hk|hk
  ·omega
  ·omega
 ·have h1:=hGl k hf;have h2:=hFT k ht;omega
 ·rcases hk with hk|hk
  ·omega
  ·omega
theorem zL(w:World)(nts:Int)(PA:Option Addr)(pc:Nat)(PV:List Pv)(hP:PvR w PA PV)(LA:Option Addr)(cl:Nat)(labels:List Txt)(hlab:bJ w LA (aE labels))
  (Fg0:Nat→Prop) (pg0:Nat) (G:Gr) (hG:GrS w Fg0 pg0 G) (ok:GOk G) (hT:gG w) :
  Calls Tryz.prog 7 #[.agg #[.int .i64 nts,.slice PA PV.length pc],.slice LA labels.length cl,.pointer (some ⟨pg0,0,none⟩)] w (MH w nts PV labels G):=by
 have b1:Below w.heap.size w (w.alloc (.cells #[.int .i64 nts,.slice PA PV.length pc] 32)):=bR.alloc (Nat.le_refl _) _;have k1:=Blk.new w 32 #[.int .i64 nts,.slice PA PV.length pc];have hT1:=hT.upd (upF b1) hT.lt id;have hnew:=zG _ nts PA pc PV (hP.below b1) LA cl labels (hlab.below3 b1) Fg0 pg0 G (hG.below b1) ok hT1 hT1.lt;have H:=aI7 b1 k1 hP hlab hG ok hT;clear b1 k1 hT1 hP hlab hG ok hT;obtain⟨m,hm⟩:∃m,PV.length=m:=⟨_,rfl⟩;obtain⟨l,hl⟩:∃l,labels.length=l:=⟨_,rfl⟩;rw[hm] at H hnew ⊢;rw[hl] at hnew ⊢;have HM:=aI2 hm hl;clear hm hl;obtain⟨z,hz⟩:∃z,w.heap.size=z:=⟨_,rfl⟩;obtain⟨W0,hW0⟩:∃W0,w.alloc (.cells #[.int .i64 nts,.slice PA m pc] 32)=W0:=⟨_,rfl⟩;rw[hW0] at H hnew;rw[hz] at H;have HZ:=hIz hz;have q0:W0.cell? ⟨z,0,none⟩=some (.int .i64 nts):=H.out.2.1.cell 0;have q1:W0.cell? ⟨z,1,none⟩=some (.slice PA m pc):=H.out.2.1.cell 1;go_enter Tryz.func7,Tryz.ntmps7;go_upto_region 1 with (fail);(try rw[hW0])
 (try rw[hz])
 clear hW0 hz;go_wp2_with fail;refine hnew.mono ?_;clear hnew q0 q1;rintro e V1 (⟨h2,rfl,bq⟩|⟨h0,pz,Fz,Bz,rfl,-,-,bq,-,-⟩)
 ·have FIN:=hIz (show MH w nts PV labels G (.returned (.tuple #[.pointer none,.int .i64 2])) V1 from .inl ⟨h2,rfl,by have h1:=H.out.1;rw[← HZ.out] at h1;exact tHn h1 bq⟩);clear h2 bq;go_wp2;refine bodyPost_ret (v:=.tuple #[.pointer none,.int .i64 2]) (by simp[results,Tryz.f7,go_sem]) rfl FIN.out
 ·have hc:=mR nts PV labels;rw[h0] at hc;rcases hc with hc|⟨-,hl16,hn1,hn5,hp8,hup,hsh⟩
  ·cases hc
  obtain⟨nt,rfl⟩:∃nt:Nat,nts=(nt:Int):=⟨nts.toNat,by omega⟩;have hok:∀v∈PV,QB nt labels.length v:=fun v hv=>GJ (hsh v hv)
  have h01:=H.out.1;have bw1:Below z w V1:=h01.trans (bq.mono (by have:=h01.size;have:=HZ.out;omega));have k1:=H.out.2.1.upd (upF bq) id;have C:=hIz (show ∀V,Below V1.heap.size V1 V→V.cell? ⟨z,0,none⟩=some (.int .i64 (nt:Int))∧V.cell? ⟨z,1,none⟩=some (.slice PA m pc) from fun V hb=>by
   have k2:=k1.upd (upF hb) id;exact⟨k2.cell 0,k2.cell 1⟩)
  have bd:Below V1.heap.size V1 V1.drew:=bR.drew;have hP1:=H.out.2.2.1.below (by rw[HZ.out];exact bw1.trans (bd.mono (by have:=bw1.size;have:=HZ.out;omega)));have hown:=QI V1.drew (nt:Int) PA pc PV hP1 (by omega) (fun v hv=>by have:=(hok v hv).few;omega);rw[HM.out.1] at hown;have hl1:bJ V1 LA (aE labels):=H.out.2.2.2.1.below3 (by rw[HZ.out];exact bw1);have hg1:GrS V1 Fg0 pg0 G:=H.out.2.2.2.2.1.below (by rw[HZ.out];exact bw1);have HA:=aI9 h0 hok bw1 hl1 hg1 hl16 hp8 hn1 hn5;clear h0 hup hsh hok h01 bw1 k1 hP1 hl1 hg1 bq bd;have hS:=C.out V1.drew bR.drew;go_upto_region 4 with (fail);refine aP (fun V:World=>V.cell? ⟨z,0,none⟩=some (.int .i64 (nt:Int))∧V.cell? ⟨z,1,none⟩=some (.slice PA m pc)) 12 [(0,true),(2,true),(4,true),(6,true),(7,true),(1,false),(3,false),(5,false),(8,false),(9,true),(10,false),(11,true)] hS ?_;clear hS;have B1:=hIz (show Below V1.heap.size V1 V1.drew from bR.drew);have hsz1:V1.drew.heap.size=V1.heap.size:=rfl
  iterate 5 refine aC rfl ?_
  refine aM rfl rfl (fun K hK=>?_);go_simp;refine hown.mono ?_;clear hown;rintro e V2 ⟨L,oA,oc,rfl,hLp,hPv,hA,hLa,b2⟩;rw[hsz1] at hA hLa;have bw2:=B1.out.trans (b2.mono (Nat.le_of_eq hsz1.symm));have hcl:=eS V2 LA cl labels (HA.out.2.2.2.1.below3 bw2) (by have:=HA.out.2.2.2.2.2.1;omega);rw[HM.out.2] at hcl;obtain⟨lL,hlL⟩:∃l,L.length=l:=⟨_,rfl⟩;rw[hlL];have H2:=aI6 hLp hPv hA hLa bw2 hlL;have hS2:=C.out V2 bw2;clear hLp hPv hA hLa b2 bw2 hlL hsz1;refine hK _ _ (fun _=>hS2) ?_;clear hK K hS2;(try simp only[Act.put,gA,gS,gZ,sA,sZ,sS])
  refine aM rfl rfl (fun K hK=>?_);go_simp;refine hcl.mono ?_;clear hcl;rintro e V3 ⟨v3,rfl,own3,b3⟩;rw[HM.out.2] at own3;obtain⟨A3,c3,rfl,-,-⟩:=aF own3;have bw3:=tHn H2.out.2.2.2.2.1 b3;have hcp:=FO V3 Fg0 pg0 G (HA.out.2.2.2.2.1.below bw3) H.out.2.2.2.2.2.1;have H3:=aI3 own3 b3 bw3;have hS3:=C.out V3 bw3;clear own3 b3 bw3;refine hK _ _ (fun _=>hS3) ?_;clear hK K hS3;(try simp only[Act.put,gA,gS,gZ,sA,sZ,sS])
  refine aM rfl rfl (fun K hK=>?_);go_simp;refine hcp.mono ?_;clear hcp;rintro e V4 ⟨pg,rfl,⟨Fg,hgS,hgF⟩,b4⟩;have bw4:=tHn H3.out.2.2 b4;have hno:=lW V4 nt (by have:=HA.out.2.2.2.2.2.2.2.2;omega);have H4:=aI4 hgS hgF b4 bw4;have hS4:=C.out V4 bw4;clear hgS hgF b4 bw4;refine hK _ _ (fun _=>hS4) ?_;clear hK K hS4;(try simp only[Act.put,gA,gS,gZ,sA,sZ,sS])
  refine aM rfl rfl (fun K hK=>?_);go_simp;refine hno.mono ?_;clear hno;rintro e V5 ⟨mv,FT,rfl,hmt,hFT,b5⟩;obtain⟨mA,mc,rfl⟩:=hmt.form;have bw5:=tHn H4.out.2.2.2 b5;have hS5:=C.out V5 bw5;have H5:=aI4 hmt hFT b5 bw5;clear hmt hFT b5 bw5;refine hK _ _ (fun _=>hS5) ?_;clear hK K hS5;(try simp only[Act.put,gA,gS,gZ,sA,sZ,sS])
  refine aC rfl ?_;refine aM rfl rfl (fun K hK=>?_);go_simp;have b6:Below V5.heap.size V5 (V5.alloc (.cells #[.int .i64 (nt:Int),.slice oA lL oc,.slice A3 l c3,.pointer (some ⟨pg,0,none⟩),.slice mA nt mc] 93)):=bR.alloc (Nat.le_refl _) _;have k6:=Blk.new V5 93 #[.int .i64 (nt:Int),.slice oA lL oc,.slice A3 l c3,.pointer (some ⟨pg,0,none⟩),.slice mA nt mc];have hd6:DcI (V5.alloc (.cells #[.int .i64 (nt:Int),.slice oA lL oc,.slice A3 l c3,.pointer (some ⟨pg,0,none⟩),.slice mA nt mc] 93)) (fun k=>(V1.heap.size≤k∧k<V3.heap.size)∨k=V5.heap.size) Fg FT V5.heap.size nt oc c3 pg oA A3 L labels (.slice mA nt mc) G noM:=
   DcI.made (V1:=V1) (V2:=V2) (V3:=V3) (V4:=V4) (V5:=V5) H2.out.2.1 H2.out.2.2.1 H2.out.2.2.2.1 H2.out.2.2.2.2.1 (by rw[HM.out.2];exact H3.out.1) H3.out.2.1 H4.out.1 H4.out.2.1 H4.out.2.2.1 H5.out.1 H5.out.2.1 H5.out.2.2.1 (by rw[HM.out.2,H2.out.2.2.2.2.2];exact k6) b6
  have bw6:=tHn H5.out.2.2.2 b6;have hS6:=C.out _ bw6;have hlo:∀k,(((V1.heap.size≤k∧k<V3.heap.size)∨k=V5.heap.size)∨Fg k∨FT k)→V1.heap.size≤k:=fun k hk=>by
   have z2:=H2.out.2.2.2.2.1.size;have z3:=H3.out.2.1.size;have z4:=H4.out.2.2.1.size;have z5:=H5.out.2.2.1.size;rcases hk with (hk|hk)|hk|hk
   ·exact hk.1
   ·omega
   ·have:=H4.out.2.1 k hk;omega
   ·have:=H5.out.2.1 k hk;omega
  have H6:=aI3 hd6 bw6 hlo;clear k6 b6 hd6 bw6 hlo;refine hK _ _ (fun _=>hS6) ?_;clear hK K hS6;(try simp only[Act.put,gA,gS,gZ,sA,sZ,sS])
  refine aC rfl ?_;refine aG ?_;generalize hp:V5.heap.size=p at H6 ⊢;generalize V5.alloc (.cells #[.int .i64 (nt:Int),.slice oA lL oc,.slice A3 l c3,.pointer (some ⟨pg,0,none⟩),.slice mA nt mc] 93)=V6 at H6 ⊢;clear hp;obtain⟨K,hKK⟩:∃K,(fun k=>(V1.heap.size≤k∧k<V3.heap.size)∨k=p)=K:=⟨_,rfl⟩;have hlo:∀k,K k∨Fg k∨FT k→V1.heap.size≤k:=fun k hk=>H6.out.2.2 k (by rw[← hKK] at hk;exact hk)
  have hd6:=H6.out.1;rw[hKK] at hd6;have bw6:=H6.out.2.1;obtain⟨c0,c1⟩:=C.out V6 bw6;have hno:=lW V6 nt (by have:=HA.out.2.2.2.2.2.2.2.2;omega);have H7:=aI3 hd6 bw6 hlo;have HLp:=aI2 H2.out.1 H2.out.2.2.2.2.2;clear hKK hlo hd6 bw6 H6 H5 H4 H3 H2 B1;-- what is fresh
  go_wp2_with fail;refine hno.mono ?_;clear hno c0 c1;rintro e V7 ⟨vn,F7,rfl,m7,hF7,b7⟩;obtain⟨fA,fc,rfl⟩:=m7.form;have hd7:=H7.out.1.below b7;have bw7:=tHn H7.out.2.1 b7;have hlen:=vK V7 Fg0 pg0 G (HA.out.2.2.2.2.1.below bw7);obtain⟨n,hn⟩:∃n,G.N.length=n:=⟨_,rfl⟩;rw[hn] at hlen;have HN:=hIz hn;have H8:=aI5 hd7 m7 hF7 bw7 b7.size;clear hd7 m7 hF7 bw7 b7 hn;go_wp2_with fail;refine hlen.mono ?_;clear hlen;rintro e V8 ⟨rfl,b8⟩;have hd8:=H8.out.1.below b8;have m8:=H8.out.2.1.below b8;have hn32:n≤32:=by have:=H.out.2.2.2.2.2.1.few.1;rw[HN.out] at this;exact this
  have hLpv:∀x∈L,QB nt labels.length x:=fun x hx=>by
   have:x.pr∈PV.map (·.pr):=by rw[← HLp.out.1];exact List.mem_map.2 ⟨x,hx,rfl⟩
   obtain⟨y,hy,e⟩:=List.mem_map.1 this;have hk:=HA.out.2.1 y hy;exact⟨e ▸ hk.g,e ▸ hk.few,e ▸ hk.one⟩
  have hLl:L.length≤8192:=by
   have:=congrArg List.length HLp.out.1;rw[List.length_map,List.length_map,HM.out.1] at this;have:=HA.out.2.2.2.2.2.2.1;rw[HM.out.1] at this;omega
  have hnod:=qX V8 K F7 p nt oc c3 pg oA A3 L labels (.slice mA nt mc) hd8.cp (.slice fA nt fc) noM m8 (fun k hk hK=>by have h1:=H8.out.2.2.1 k hk;have h2:=H7.out.1.klt k hK;omega) (fun x hx=>(hLpv x hx).g) (fun k r e=>by cases e) 0 n hn32 (Nat.zero_le _) (by omega);have H9:=aI6 hd8 m8 (tHn H8.out.2.2.2.1 b8) hLpv hLl (Nat.le_trans H8.out.2.2.2.2 b8.size);rw[Int.ofNat_zero] at hnod;clear hd8 m8 b8 hLpv hLl;go_wp2_with fail;refine hnod.mono ?_;clear hnod;rintro e V9 ⟨rfl,B9,⟨F9,m9,hu9,hF9⟩,hB9⟩;have hd9:DcI V9 K Fg FT p nt oc c3 pg oA A3 L labels (.slice mA nt mc) G noM:=H9.out.1.upd hu9 (fun k hk hf=>by
   have h1:=H8.out.2.2.1 k hf;have h2:=H7.out.1.klt k;have h3:=H7.out.1.gr.flt k;have h4:=H7.out.1.mt.lt k;rcases hk with hk|hk|hk
   ·have:=h2 hk;omega
   ·have:=h3 hk;omega
   ·have:=h4 hk;omega)
  have hF9':∀k,F9 k→V6.heap.size≤k:=fun k hk=>(hF9 k hk).elim (H8.out.2.2.1 k) (fun h=>by have:=H9.out.2.2.2.2.2;omega)
  have hK6:∀k,K k∨Fg k∨FT k→k<V6.heap.size:=fun k hk=>by
   rcases hk with hk|hk|hk
   ·exact H7.out.1.klt k hk
   ·exact H7.out.1.gr.flt k hk
   ·exact H7.out.1.mt.lt k hk
  have bw9:Below V1.heap.size V1 V9:=H9.out.2.2.1.trans (hu9.below (fun k _ hk=>by have h1:=H8.out.2.2.1 k hk;have h2:=H7.out.2.1.size;omega) H9.out.2.2.1.size);have q1:V9.cell? ⟨p,1,none⟩=some (.slice oA lL oc):=by rw[← HLp.out.2];exact hd9.cp.blk.cell 1
  have HI0:=hIz (show LbI V9 F9 (.slice fA nt fc) nt L labels G B9 0 V9 from⟨B9,⟨F9,m9,Upd.refl _ _,fun _ h=>.inl h⟩,LbB.start hB9.1⟩);have H10:=aI6 hd9 hF9' hK6 bw9 hB9 (Nat.le_trans H9.out.2.2.2.2.2 hu9.size);have hll:lL≤8192:=by rw[← HLp.out.2];exact H9.out.2.2.2.2.1
  clear hd9 hF9' hK6 bw9 hB9 m9 hu9 hF9;go_wp2;clear q1;go_loopw [57] (fun i wr=>∃q:Nat,q≤lL∧i=.int .i64 (q:Int)∧Hid (LbI V9 F9 (.slice fA nt fc) nt L labels G B9 q wr)) (fun i _=>lL-(intOf i).toNat)
  case atStart=>exact⟨0,Nat.zero_le _,rfl,HI0⟩
  case round =>
   obtain⟨q,hq,rfl,hi⟩:=hrel;clear HI0;obtain⟨B1',⟨F1,hm1,hu1,hF1⟩,hB1⟩:=hi.out;have hc1:DcI wr K Fg FT p nt oc c3 pg oA A3 L labels (.slice mA nt mc) G noM:=H10.out.1.upd hu1 (fun k hk hf=>by have h1:=H10.out.2.1 k hf;have h2:=H10.out.2.2.1 k hk;omega);by_cases hlt:q<lL
   ·have hltI:(q:Int)<(lL:Int):=by omega
    have hkw:IntKind.i64.wrap ((q:Int)+1)=(q:Int)+1:=IntWalk.i64_in _ (by omega);obtain⟨x,hx⟩:∃x,L[q]?=some x:=⟨_,gEz (by rw[HLp.out.2];exact hlt)⟩;have hxm:=mG hx;obtain⟨pb,po,rfl,c0,c1⟩:=hc1.cp.pv.1.pv hx;have hgx:=H9.out.2.2.2.1 x hxm;obtain⟨a,ha⟩:∃a:Nat,x.pr.head=(a:Int):=⟨x.pr.head.toNat,(Int.toNat_of_nonneg hgx.g.h0).symm⟩;have han:a<nt:=by have:=hgx.g.h1;omega
    have hta:x.pr.head.toNat=a:=by rw[ha];exact Int.toNat_natCast a
    rw[ha] at c0;have b1:Below wr.heap.size wr (wr.alloc (.cells #[.int .i64 (a:Int),.slice x.adr x.pr.body.length x.cap] 76)):=bR.alloc (Nat.le_refl _) _;have kb:=Blk.new wr 76 #[.int .i64 (a:Int),.slice x.adr x.pr.body.length x.cap];by_cases h2:x.pr.body.length=1
    ·obtain⟨s,hst⟩:∃s,x.pr.body=[s]:=by
      match hbody:x.pr.body,h2 with
      | [s],_=>exact⟨s,rfl⟩
     obtain⟨s0,s1⟩:=hgx.one s hst;have hrow:=hc1.cp.pv.2 x hxm;rw[hst] at hrow;obtain⟨la,li0⟩:=s;dsimp only at s0 s1
     obtain⟨li,rfl⟩:∃l':Nat,li0=(l':Int):=⟨li0.toNat,(Int.toNat_of_nonneg s0).symm⟩;obtain⟨lb,hlb⟩:∃y,labels[li]?=some y:=⟨_,gEz (by omega)⟩;obtain⟨lg,lo,rfl,cy⟩:=hc1.cp.lab.txt hlb;obtain⟨gb,gof,hadr,-⟩:=hrow 0 (.bool la) rfl;obtain⟨gb',gof',e,d1⟩:=hrow 1 (.int .i64 (li:Int)) rfl;rw[hadr] at e;injection e with e;injection e with e5 e6;subst e5;subst e6;rw[hadr,h2] at c1 b1 kb;obtain⟨xc,hxc⟩:∃xc,x.cap=xc:=⟨_,rfl⟩;rw[hxc] at c1 b1 kb;have hlI:(li:Int)<(l:Int):=by have:=HM.out.2;omega
     have bd:=b1.drew;have q3:(wr.alloc (.cells #[.int .i64 (a:Int),.slice (some ⟨gb,gof,none⟩) 1 xc] 76)).drew.cell? ⟨p,3,none⟩=some (.pointer (some ⟨pg,0,none⟩)):=(hc1.below bd).cp.blk.cell 3;have q2:(wr.alloc (.cells #[.int .i64 (a:Int),.slice (some ⟨gb,gof,none⟩) 1 xc] 76)).drew.cell? ⟨p,2,none⟩=some (.slice (some ⟨lg,lo,none⟩) l c3):=by have:=(hc1.below bd).cp.blk.cell 2;rw[HM.out.2] at this;exact this
     have z1:(wr.alloc (.cells #[.int .i64 (a:Int),.slice (some ⟨gb,gof,none⟩) 1 xc] 76)).drew.cell? ⟨wr.heap.size,1,none⟩=some (.slice (some ⟨gb,gof,none⟩) 1 xc):=kb.cell 1;have zc:(wr.alloc (.cells #[.int .i64 (a:Int),.slice (some ⟨gb,gof,none⟩) 1 xc] 76)).cell? ⟨wr.heap.size,1,none⟩=some (.slice (some ⟨gb,gof,none⟩) 1 xc):=kb.cell 1;have d1':=aT bd d1;have cy':=aT bd cy;have hmat:=pJ _ Fg pg G (hc1.below bd).gr H.out.2.2.2.2.2.1 lb 32 H.out.2.2.2.2.2.1.few.1 (by decide) (by decide);have HX:=aI9 (hm1.below bd) (hu1.trans (upF bd) (fun _ h=>h.elim)) hF1 hB1 hx hst hlb hta (kb.upd (Upd.refl (fun _=>False) _).drew id);clear hx hxm hgx ha hta b1 kb h2 hm1 hu1 hF1 hB1 hi hst hrow s0 s1 hlb cy hadr hc1 d1 bd hxc;go_upto_region 12 with (fail);generalize hz15:wr.heap.size=z15 at HX z1 zc ⊢;generalize wr.alloc (.cells #[.int .i64 (a:Int),.slice (some ⟨gb,gof,none⟩) 1 xc] 76)=V10 at HX q3 q2 z1 zc d1' cy' hmat ⊢;clear c0 c1 hz15 zc;refine aN (fun V:World=>V.cell? ⟨p,3,none⟩=some (.pointer (some ⟨pg,0,none⟩))∧V.cell? ⟨p,2,none⟩=some (.slice (some ⟨lg,lo,none⟩) l c3)∧V.cell? ⟨z15,1,none⟩=some (.slice (some ⟨gb,gof,none⟩) 1 xc)∧V.cell? ⟨gb,gof+1,none⟩=some (.int .i64 (li:Int))∧V.cell? ⟨lg,lo+li,none⟩=some (.string lb)) 21 [(0,true),(1,true),(2,true),(3,true),(4,true),(5,true),(6,true),(7,true),(8,true),(9,true),(10,true),(11,true),(12,true),(13,true),(14,true),(15,false),(16,true),(17,true),(18,true),(19,true),(20,true)] (by kernel_rfl) (by kernel_rfl) (fun _ _ d _ _ h=>by cases d <;> exact h) ⟨q3,q2,z1,d1',cy'⟩ ?_
     have SR:=hIz (show ∀V,Below V10.drew.heap.size V10.drew V→V.cell? ⟨p,3,none⟩=some (.pointer (some ⟨pg,0,none⟩))∧V.cell? ⟨p,2,none⟩=some (.slice (some ⟨lg,lo,none⟩) l c3)∧V.cell? ⟨z15,1,none⟩=some (.slice (some ⟨gb,gof,none⟩) 1 xc)∧V.cell? ⟨gb,gof+1,none⟩=some (.int .i64 (li:Int))∧V.cell? ⟨lg,lo+li,none⟩=some (.string lb) from fun V hb=>⟨aT hb q3,aT hb q2,aT hb z1,aT hb d1',aT hb cy'⟩);clear q3 q2 z1 d1' cy';generalize V10.drew=V11 at HX SR hmat ⊢
     iterate 15 refine aC rfl ?_
     refine aM rfl rfl (fun K hK=>?_);go_simp;refine hmat.mono ?_;clear hmat;rintro e V12 ⟨qm,bm,rfl,⟨Fm,hqm,hFm⟩,b12,hMt⟩;have HS:=SR.out V12 b12;have H12:=aI4 hqm hFm b12 hMt;clear hqm hFm b12 hMt;refine hK _ _ (fun _=>HS) ?_;clear hK K HS;(try simp only[Act.put,gA,gS,gZ,sA,sZ,sS])
     iterate 5 refine aC rfl ?_
     refine aG ?_;have m12:=HX.out.1.below H12.out.2.2.1;obtain⟨g9,c9,q9,Fq9,e,cg,hq9,hsub,hstep⟩:=m12.turn han;injection e with e _ e3;subst e;subst e3;have k12:=HX.out.2.2.2.2.2.2.2.2.upd (Upd.of_below H12.out.2.2.1 (fun _=>False)) id;have zz:V12.cell? ⟨z15,0,none⟩=some (.int .i64 (a:Int)):=k12.cell 0;have hanI:(a:Int)<(nt:Int):=by omega
     have hj:=jN V12 Fq9 Fm q9 qm 32 (B1' a) bm hq9 H12.out.1;have HS:=hIz hstep;clear m12 hq9 hsub hstep k12;go_wp2_with fail;refine hj.mono ?_;clear hj zz cg;rintro e V13 ⟨rfl,hto⟩;have FIN:=hIz (show LbI V9 F9 (.slice (some ⟨g9,0,none⟩) nt fc) nt L labels G B9 (q+1) V13 from
      ⟨_,pY.trans (HX.out.2.1.trans (Upd.of_below H12.out.2.2.1 (fun _=>False)) (fun _ h=>h.elim)) HX.out.2.2.1 (HS.out _ V13 hto),HX.out.2.2.2.1.step HX.out.2.2.2.2.1 HX.out.2.2.2.2.2.1 (by rw[Int.toNat_natCast];exact HX.out.2.2.2.2.2.2.1) HX.out.2.2.2.2.2.2.2.1 H12.out.1.wdO H12.out.2.2.2 H.out.2.2.2.2.2.1.few.1⟩)
     clear hto;go_wp2;go_roundw
     case rel=>exact⟨q+1,by omega,by go_num,FIN⟩
     case measure=>simp[intOf];omega
    ·have hc2:((x.pr.body.length:Int)==1)=false:=by simp;omega
     have FIN:=hIz (show LbI V9 F9 (.slice fA nt fc) nt L labels G B9 (q+1) (wr.alloc (.cells #[.int .i64 (a:Int),.slice x.adr x.pr.body.length x.cap] 76)) from
      ⟨B1',pY.trans hu1 hF1 ⟨F1,hm1.below b1,Upd.of_below b1 _,fun _ h=>.inl h⟩,hB1.skip hx h2⟩)
     have k0:(wr.alloc (.cells #[.int .i64 (a:Int),.slice x.adr x.pr.body.length x.cap] 76)).cell? ⟨wr.heap.size,1,none⟩=some (.slice x.adr x.pr.body.length x.cap):=kb.cell 1;clear hx hxm hgx ha han hta b1 kb h2 hm1 hu1 hF1 hB1 hi hc1;generalize x.pr.body.length=vl at *;go_wp2;go_roundw
     case rel=>exact⟨q+1,by omega,by go_num,FIN⟩
     case measure=>simp[intOf];omega
   ·obtain rfl:lL=q:=by omega
    have hqL:lL=L.length:=HLp.out.2.symm;have hB1':LbB L labels G B9 B1' L.length:=by rw[← hqL];exact hB1
    have hnB:NdB L 0 n noM B9 L.length 0:=H10.out.2.2.2.2.1;have z1:=H7.out.2.1.size;have z9:=H10.out.2.2.2.1.size;have hF1':∀k,F1 k→V6.heap.size≤k:=fun k hk=>(hF1 k hk).elim (H10.out.2.1 k) (fun h=>Nat.le_trans H10.out.2.2.2.2.2 h)
    have bwr:Below V1.heap.size V1 wr:=H10.out.2.2.2.1.trans (hu1.below (fun k _ hk=>by have h1:=H10.out.2.1 k hk;omega) z9);have bw0:Below w.heap.size w wr:=by
     have h1:=HA.out.2.2.1;rw[← HZ.out] at h1;exact tHn h1 bwr
    have zw1:w.heap.size≤V1.heap.size:=by have h1:=HA.out.2.2.1.size;exact h1
    have htw:=H.out.2.2.2.2.2.2.lt;have hgrow:=wC wr K FT F1 p nt oc c3 pg oA A3 L labels (.slice mA nt mc) (.slice fA nt fc) noM B1' (ElG G labels) n ⟨hc1.cp,hc1.mt,hm1,hc1.kt,fun k hk hf=>by have h1:=hF1' k hf;have h2:=H10.out.2.2.1 k (.inl hk);omega,fun k hk hf=>by have h1:=hF1' k hf;have h2:=H10.out.2.2.1 k (.inr (.inr hk));omega,fun x hx=>(H9.out.2.2.2.1 x hx).g,IC (fun x hx=>(H9.out.2.2.2.1 x hx).g) hnB hB1',fun k i j e=>by have h1:=e.lt;rw[HN.out] at h1;exact h1,hn32,
     H.out.2.2.2.2.2.2.upd (upF bw0) htw id,fun hf=>by have h1:=H7.out.2.2 _ (.inr (.inr hf));omega,fun hf=>by have h1:=hF1' _ hf;omega⟩ (by have:=HA.out.2.2.2.2.2.2.2.1;omega) (by have:=HA.out.2.2.2.2.2.2.2.2;omega) (by rw[← hqL];omega)
    have H13:=aI4 hc1 hF1' bw0 (Nat.le_trans zw1 bwr.size);have hz69:=H10.out.2.2.2.2.2;clear hc1 hm1 hu1 hF1 hB1 hi hB1' hnB hF1' bwr bw0 hqL;go_wp2_with fail;refine hgrow.mono ?_;clear hgrow;rintro e V14 ⟨v14,rfl,A14,c14,L14,T14,FT14,rfl,-,m14,hu14,hF14,-,-,-,hw14,hd14⟩;have FIN:=hIz (show MH w (nt:Int) PV labels G (.returned (.tuple #[.pointer (some ⟨p,0,none⟩),.int .i64 0])) V14 from by
     have hlow:∀k,K k∨Fg k∨FT k→w.heap.size≤k:=fun k hk=>Nat.le_trans zw1 (H7.out.2.2 k hk)
     have hR:∀k,K k∨Fg k→¬(FT k∨F1 k):=fun k hk hf=>by
      rcases hf with hf|hf
      ·exact hk.elim (fun hk=>H13.out.1.kt k hk hf) (fun hk=>H13.out.1.gt k hk hf)
      ·have h1:=H13.out.2.1 k hf;have h2:=H10.out.2.2.1 k (hk.elim .inl (fun h=>.inr (.inl h)));omega
     refine .inr ⟨HA.out.1,p,K,fun k=>Fg k∨FT14 k,T14,rfl,?_,fun k hk=>?_,H13.out.2.2.1.trans (hu14.below (fun k _ hk=>hk.elim (fun hk=>hlow k (.inr (.inr hk))) (fun hk=>by have:=H13.out.2.1 k hk;omega)) H13.out.2.2.1.size),?_⟩
     ·rw[Int.toNat_natCast];exact⟨Fg,FT14,oc,c3,pg,oA,A3,L,.slice mA nt mc,H13.out.1.facts m14 hu14 hR hF14,HLp.out.1,rfl⟩
     ·rcases hk with hk|hk|hk
      ·exact hlow k (.inl hk)
      ·exact hlow k (.inr (.inl hk))
      ·exact(hF14 k hk).elim (fun h=>hlow k (.inr (.inr h))) (fun h=>by have:=H13.out.2.2.2;omega)
     ·rw[Int.toNat_natCast];refine⟨H.out.2.2.2.2.2.1,fun p hp=>?_,fun p hp s hs=>?_,hw14,fun k hk i j=>?_,by have:=HA.out.2.2.2.2.2.2.2.1;omega,by have:=HA.out.2.2.2.2.2.2.2.2;omega,by rw[List.length_map];exact HA.out.2.2.2.2.2.2.1,HA.out.2.2.2.2.2.1⟩
      ·obtain⟨y,hy,rfl⟩:=List.mem_map.1 hp;exact(HA.out.2.1 y hy).g
      ·obtain⟨y,hy,rfl⟩:=List.mem_map.1 hp;exact(HA.out.2.1 y hy).one s hs
      ·rw[hd14 k hk i j,HLp.out.1,HN.out])
    clear m14 hu14 hF14 hw14 hd14;go_wp2;refine bodyPost_ret (v:=.tuple #[.pointer (some ⟨p,0,none⟩),.int .i64 0]) (by simp[results,Tryz.f7,go_sem]) rfl FIN.out
open Go.RowKit Go.Shelf
structure AwI(w W:World)(K V:Nat→Prop)(p:Nat)(G:Gr)(T:aY):Prop where
 d:DcV W K V p 3 cE [sAq,sB] G T
 ok:nS 3 cE [sAq,sB] G T
 lo:∀k,K k∨V k→w.heap.size≤k
 b:Below w.heap.size w W
 t:gG W
def AwQ(w W:World)(K V:Nat→Prop)(p:Nat)(T:aY)(r:Gr × Bool × Int)(e:Ending)(W':World):Prop:=∃A c L T' V',e=.returned (.tuple #[.slice A L.length c,.bool r.2.1,.int .i64 r.2.2])∧AwI w W' K V' p r.1 T'∧W'.ownsRow w.heap.size 25 3 (.slice A L.length c) L.length (bP L)∧Upd V W W'∧(∀k,V' k→V k∨W.heap.size≤k)∧(∀q,(Value.slice A L.length c).ownBlock=some q→¬V' q)∧fY 3 T T' L∧L.Pairwise ltF∧(r.2.1=false→L=[])
theorem zM{w W:World}{K V:Nat→Prop}{p:Nat}{G:Gr}{T:aY}(h:AwI w W K V p G T)(htab:1<w.heap.size)(x:Ed)(hx:nI x){r:Gr × Bool × Int}(hr:aL G x=r) :
  Calls Tryz.prog 10 #[.pointer (some ⟨p,0,none⟩),.string x.fr,.string x.lb,.string x.to] W (AwQ w W K V p T r):=by
 have hnt:¬V 1:=fun e=>by have:=h.lo _ (.inr e);omega
 refine(nD W K V p 3 cE [sAq,sB] G T h.d h.ok h.t hnt x hx).mono ?_;rintro e W' ⟨A,c,L,T',V',e1,e2,e3,e4,e5,e6,e7,e8,e9,e10⟩;rw[hr] at e1 e3 e4 e10;have hz:=h.b.size;refine⟨A,c,L,T',V',e1,⟨e3,e4,fun k hk=>?_,h.b.trans (e5.below (fun q _ hq=>h.lo q (.inr hq)) hz),h.t.upd e5 h.t.lt hnt⟩,bC e2 (fun q hq=>Nat.le_trans hz (e2.lt q hq).1),e5,e6,e7,e8,e9,e10⟩;rcases hk with hk|hk
 ·exact h.lo k (.inl hk)
 ·exact(e6 k hk).elim (fun h'=>h.lo k (.inr h')) (fun h'=>by omega)
theorem TE{T:aY}(h:nS 3 cE [sAq,sB] ⟨[],[]⟩ T):∀k,k<3→∀i j,aX (T k) i j=true→False:=fun k hk i j hb=>ME ((h.der k hk i j).1 hb)
theorem NS{T:aY}(h:nS 3 cE [sAq,sB] gr1 T):∀k,k<3→∀i j,aX (T k) i j=true↔(k:Int)=1∧i=0∧j=1:=fun k hk i j=>(h.der k hk i j).trans UQ
theorem NT{T:aY}(h:nS 3 cE [sAq,sB] gr2 T):∀k,k<3→∀i j,aX (T k) i j=true↔fB (k:Int) i j:=fun k hk i j=>(h.der k hk i j).trans UK
theorem BV(w:World)(hT:gG w):Calls Tryz.prog 13 #[] w (Sam w (.bool true)):=by
 have hk1:nI ed1:=by unfold nI dR;decide
 have hk2:nI ed2:=by unfold nI dR;decide
 have hk3:nI ed3:=by unfold nI dR;decide
 have htab:=hT.lt;have HT:=hIz hT;have hsm:=BR w;clear hT;go_enter Tryz.func13,Tryz.ntmps13;go_wp2_with fail;refine hsm.mono ?_;clear hsm;rintro e W1 ⟨gp,gc,PV,rfl,hPV,hPr,b1⟩;have b2:Below W1.heap.size W1 (W1.alloc (.cells #[.string sAq,.string sB] 9)):=bR.alloc (Nat.le_refl _) _;have hlr:bJ (W1.alloc (.cells #[.string sAq,.string sB] 9)) (some ⟨W1.heap.size,0,none⟩) (aE [sAq,sB]):=mS (Blk.new W1 9 #[.string sAq,.string sB]);have hlen4:PV.length=4:=by have:=congrArg List.length hPr;simpa[cE] using this
 have hnw:=NI (W1.alloc (.cells #[.string sAq,.string sB] 9));have H1:=aI5 (hPV.below b2) hlr hPr hlen4 (tHn b1 b2);clear hPV hlr hPr hlen4 b1 b2;unfold sAq sB at hnw;go_wp2_with fail;refine hnw.mono ?_;clear hnw;rintro e W3 ⟨pg,rfl,⟨F1,g1,n1⟩,b3⟩;have hT3:gG W3:=HT.out.upd (Upd.of_below (tHn H1.out.2.2.2.2 b3) (fun _=>False)) htab id;have hnew:=zL W3 3 (some ⟨gp,0,none⟩) gc PV (H1.out.1.below b3) (some ⟨W1.heap.size,0,none⟩) 2 [sAq,sB] (H1.out.2.1.below3 b3) F1 pg ⟨[],[]⟩ g1 GOk.new hT3;rw[H1.out.2.2.2.1] at hnew;have H3:=aI2 hT3 (tHn H1.out.2.2.2.2 b3);clear g1 n1 b3 hT3;have hnq:=hIz (show ∀e w',MH W3 3 PV [sAq,sB] ⟨[],[]⟩ e w'→∃p K V T,e=.returned (.tuple #[.pointer (some ⟨p,0,none⟩),.int .i64 0])∧AwI w w' K V p ⟨[],[]⟩ T from by
  rintro e w' (⟨h,-,-⟩|⟨-,p,K,V,T,he,h1,h2,h3,h4⟩)
  ·rw[UM H1.out.2.2.1] at h;cases h
  ·rw[H1.out.2.2.1] at h1 h4;have hz:=H3.out.2.size;exact⟨p,K,V,T,he,h1,h4,fun k hk=>by have:=h2 k hk;omega,H3.out.2.trans (h3.mono hz),H3.out.1.upd (upF h3) H3.out.1.lt id⟩)
 unfold sAq sB at hnew;simp only[List.length_cons,List.length_nil,Nat.reduceAdd] at hnew
 go_wp2_with fail;refine hnew.mono ?_;clear hnew;rintro e W4 hq;obtain⟨p,K,V0,T0,rfl,h4⟩:=hnq.out e W4 hq;have hc:=zM h4 htab ed1 hk1 UI;have H4:=hIz h4;clear hq hnq h4;unfold ed1 sX sAq sY at hc;dsimp only at hc
 go_wp2_with fail;refine hc.mono ?_;clear hc;rintro e W5 ⟨A1,c1,L1,T1,V1,rfl,h5,-,-,-,-,hg1,hs1,-⟩;have hL1:=TC hg1 hs1 (TE H4.out.ok) (NS h5.ok);subst hL1;dsimp only at h5 ⊢
 have hc:=zM h5 htab ed2 hk2 UJ;have H5:=hIz h5;clear hg1 hs1 h5;unfold ed2 sY sB sZq at hc;dsimp only at hc
 go_wp2_with fail;refine hc.mono ?_;clear hc;rintro e W6 ⟨A2,c2,L2,T2,V2,rfl,h6,own2,-,-,hn2,hg2,hs2,-⟩;have hL2:=TD hg2 hs2 (NS H5.out.ok) (NT h6.ok);subst hL2;dsimp only at h6 ⊢
 have hc:=zM h6 htab ed2 hk2 UR;have H6:=aI3 h6 own2 hn2;clear hg2 hs2 h6 own2 hn2;unfold ed2 sY sB sZq at hc;dsimp only at hc
 go_wp2_with fail;refine hc.mono ?_;clear hc;rintro e W7 ⟨A3,c3,L3,T3,V3,rfl,h7,-,hu7,hn7,-,-,-,hl3⟩;have hL3:=hl3 rfl;subst hL3;dsimp only at h7 ⊢
 have hc:=zM h7 htab ed3 hk3 UT;have H7:=aI3 h7 (aB H6.out.2.1 hu7 H6.out.2.2) (show ∀q,(Value.slice A2 [((0:Nat),(0:Nat),(2:Nat)),(2,1,2)].length c2).ownBlock=some q→¬V3 q from fun q hq hv=>(hn7 q hv).elim (H6.out.2.2 q hq) (fun h=>by have:=(H6.out.2.1.lt q hq).2;omega));clear hu7 hn7 hl3 h7;unfold ed3 sX sUA sY at hc;dsimp only at hc
 go_wp2_with fail;refine hc.mono ?_;clear hc;rintro e W8 ⟨A4,c4,L4,T4,V4,rfl,h8,-,hu8,-,-,-,-,hl4⟩;have hL4:=hl4 rfl;subst hL4;dsimp only at h8 ⊢
 have own8:=aB H7.out.2.1 hu8 H7.out.2.2;obtain⟨ga,gc2,e,-,-,-,-,-⟩:=aK own8 (by decide);injection e with e1 e2 e3;subst e1;obtain⟨q0,q1,q2⟩:=MC own8 (k:=0) rfl;have hlen:=zH W8 _ p 3 cE [sAq,sB] gr2 T4 h8.d.s (by decide) (by decide);rw[UL h8.ok.wd (NT h8.ok)] at hlen;have FIN:=hIz h8.b;clear hu8 hl4 h8 own8 H7 H6 H5 H4 e2 e3;dsimp only at q0 q1 q2
 simp only[List.length_cons,List.length_nil,Nat.reduceAdd,Nat.zero_mul,Nat.zero_add] at q0 q1 q2 ⊢
 go_wp2_with fail;refine hlen.mono ?_;clear hlen q0 q1 q2;rintro e W9 ⟨rfl,b9⟩;have FIN2:=hIz (tHn FIN.out b9);clear b9;go_wp2;go_ret;exact⟨rfl,FIN2.out⟩
theorem nW(B:aY):∀(n:Nat),(iJ B n).length=pZ B n:=by
 have h:∀n k,(tJ B k n).length=xN (fun j=>cY (bU (B (k+j)))) n:=by
  intro n;induction n with
  | zero=>intro k;rfl
  | succ n ih =>
   intro k;rw[tJ,List.length_append,List.length_map,sP,ih (k+1)];have hs:∀(f:Nat→Nat) (m:Nat),xN f (m+1)=f 0+xN (fun j=>f (j+1)) m:=by
    intro f m;induction m with
    | zero=>simp[xN]
    | succ m im =>
     rw[xN,im,xN];omega
   rw[hs];congr 1
   congr 1
   funext j
   rw[show k+1+j=k+(j+1) by omega]
 intro n;unfold iJ pZ;rw[h n 0];congr 1
 funext j
 rw[Nat.zero_add]
theorem rC{B:aY}:∀(n k:Nat),(tJ B k n).Nodup
 | 0,_=>List.nodup_nil
 | n+1,k=>by
  rw[tJ,List.nodup_append];refine⟨vW (uX _) (fun a _ b _ e=>by injection e),rC n (k+1),fun a ha b hb e=>?_⟩;subst e;obtain⟨y,-,rfl⟩:=List.mem_map.1 ha;have:=((tK B n (k+1) _).1 hb).1;dsimp only at this
  omega
theorem kI(B:aY)(n:Nat):(iJ B n).Nodup:=rC n 0
section
variable {nts:Nat} {P:List Pr} {labels:List Txt} {G G':Gr} {T T':aY}
theorem nS.lt(h:nS nts P labels G T){k i j:Nat}(hk:k<nts)(hb:aX (T k) i j=true):i<G.N.length∧j<G.N.length:=((h.der k hk i j).1 hb).lt (fun _ _ _ e=>e.lt)
theorem NU(h:nS nts P labels G T){x:Nat × Nat × Nat}:x∈iJ T nts↔x.1<nts∧aX (T x.1) x.2.1 x.2.2=true:=by
 obtain⟨k,i,j⟩:=x;rw[iK (fun k _=>(h.wd k).old)];exact⟨fun h=>⟨h.1,h.2.2.2⟩,fun e=>⟨e.1,cJ (h.wd _) e.2,fM (h.wd _) e.2,e.2⟩⟩
end
open Go.RowKit Go.Shelf
structure zN(nts:Nat)(T:aY)(L:List (Nat × Nat × Nat)):Prop where
 nd:L.Nodup
 mem:∀x,x∈L↔x.1<nts∧aX (T x.1) x.2.1 x.2.2=true
section
variable {nts:Nat} {P:List Pr} {labels:List Txt} {G G':Gr} {T T':aY} {L M:List (Nat × Nat × Nat)}
theorem zN.start(h:nS nts P labels G T):zN nts T (iJ T nts):=⟨kI T nts,fun _=>NU h⟩
theorem zN.more(h:zN nts T L)(hg:fY nts T T' M)(hs:∀k,k<nts→∀i j,aX (T k) i j=true→aX (T' k) i j=true):zN nts T' (L++M):=by
 refine⟨?_,fun x=>?_⟩
 ·rw[List.nodup_append];refine⟨h.nd,hg.nd,fun a ha b hb e=>?_⟩;subst e;have h1:=((h.mem a).1 ha).2;have h2:=((hg.mem a).1 hb).2.2;rw[h1] at h2;cases h2
 ·rw[List.mem_append,h.mem,hg.mem];constructor
  ·rintro (⟨h1,h2⟩|⟨h1,h2,-⟩)
   ·exact⟨h1,hs _ h1 _ _ h2⟩
   ·exact⟨h1,h2⟩
  ·rintro⟨h1,h2⟩;cases h3:aX (T x.1) x.2.1 x.2.2 with
   | true=>exact .inl ⟨h1,rfl⟩
   | false=>exact .inr ⟨h1,h2,rfl⟩
theorem zN.len(h:zN nts T L)(hk:nS nts P labels G T):L.length=pZ T nts:=by
 rw[← nW];exact zE h.nd (kI _ _) (fun x=>(h.mem x).trans (NU hk).symm)
theorem zN.few(h:zN nts T L)(hk:nS nts P labels G T):L.length≤nts*4096:=by
 rw[h.len hk,← nW];exact lY T nts 0 (fun j _ _=>(hk.wd j).old)
theorem nS.sub(h:nS nts P labels G T){x:Ed}(h':nS nts P labels (aL G x).1 T'):∀k,k<nts→∀i j,aX (T k) i j=true→aX (T' k) i j=true:=fun k hk i j hb=>by
 have hd:=(h.der k hk i j).1 hb;refine(h'.der k hk i j).2 ?_;rcases qZ G x with ⟨e,hr⟩|⟨hr,-⟩
 ·rw[hr];exact hd
 ·have ok':=h'.ok;rw[hr] at ok' ⊢;have hp:G.N <+: cK (cK G.N x.fr) x.to:=(nT _ _).trans (nT _ _);exact hd.mono (fun _ h=>h) (fun k i j e=>(NQ hp ok'.nd h.ok.ends).2 (.inl e)) hp.length_le
theorem ID{B:aY}(h:nS nts P labels G T)(hB:∀k,k<nts→∀i j,aX (B k) i j=true↔gX P (ElG G labels) G.N.length (k:Int) i j)(hw:∀k,WdO (B k)):pZ B nts=pZ T nts∧∀k,k<nts→∀i j,aX (T k) i j=true→aX (B k) i j=true:=by
 refine⟨?_,fun k hk i j hb=>(hB k hk i j).2 ((h.der k hk i j).1 hb)⟩;rw[← nW,← nW];refine zE (kI _ _) (kI _ _) (fun x=>?_);obtain⟨k,i,j⟩:=x;rw[iK (fun k _=>(hw k).old),iK (fun k _=>(h.wd k).old)];constructor
 ·rintro⟨h1,h2,h3,h4⟩;exact⟨h1,h2,h3,(h.der k h1 i j).2 ((hB k h1 i j).1 h4)⟩
 ·rintro⟨h1,h2,h3,h4⟩;exact⟨h1,h2,h3,(hB k h1 i j).2 ((h.der k h1 i j).1 h4)⟩
theorem zO{B:aY}(h:nS nts P labels G T)(hs:∀k,k<nts→∀i j,aX (T k) i j=true→aX (B k) i j=true){x:Nat × Nat × Nat}(h1:x.1<nts)(h2:aX (T x.1) x.2.1 x.2.2=true):qY G.N.length nts B (x.1:Int) (x.2.1:Int) (x.2.2:Int)=.tuple #[.bool true,.int .i64 0]:=by
 obtain⟨hi,hj⟩:=h.lt h1 h2;unfold qY;rw[if_pos (by omega),Int.toNat_natCast,Int.toNat_natCast,Int.toNat_natCast,hs _ h1 _ _ h2]
end
theorem MI(G:Gr)(x:Ed):((aL G x).2.2=0→x∈(aL G x).1.X)∧((aL G x).2.2≠0→(aL G x).2.1=false):=by
 have h:=nC G x;refine⟨h.2.2.1,fun hn=>?_⟩;cases hb:(aL G x).2.1 with
 | false=>rfl
 | true=>exact(hn (h.1 hb)).elim
theorem LsB.join{W:World}{base lb:Nat}{L:List (Nat × Nat × Nat)}{A:Option Addr}{n c:Nat}(h:LsB W base lb L (.slice A n c))(hn:L.length=n)(hB:base≤W.heap.size)(M:List (Nat × Nat × Nat))(m:Nat)(hM:M.length=m)(R:Option Addr)(d:Nat)(hr:bJ W R (bP M))(hl:(n+m)*24≤140737488355328) :
  ∃A' c' W1,(Builtin.append_ #[35,35] 35 #[.slice A n c,.slice R m d]).run Tryz.prog W=.ok (.slice A' (n+m) c') W1∧Blk W1 lb 35 #[.slice A n c]∧LsB (W1.setCell ⟨lb,0,none⟩ (.slice A' (n+m) c')) base lb (L++M) (.slice A' (n+m) c') ∧
   Upd (fun q=>q=lb∨(Value.slice A n c).ownBlock=some q) W (W1.setCell ⟨lb,0,none⟩ (.slice A' (n+m) c'))∧∀k,(Value.slice A' (n+m) c').ownBlock=some k→(Value.slice A n c).ownBlock=some k∨W.heap.size≤k:=by
 obtain⟨A',c',W1,happ,own',up,pl⟩:=cB W base 35 25 3 24 _ Tryz.underlying35 vV rfl (by decide) (by decide) A n c _ (by have:=h.own;rw[hn] at this;exact this) R m d (bP M) hr (by rw[pN,hM]) (fun u hu=>by
  obtain⟨y,-,hy⟩:=List.mem_flatMap.1 hu;exact NL y u hy) hl hB
 have kb:=h.b.upd up h.ne;have hne':(Value.slice A' (n+m) c').ownBlock≠some lb:=fun e=>(pl _ e).elim h.ne (fun h2=>by have:=h.b.lt;omega)
 have us:Upd (fun q=>q=lb) W1 (W1.setCell ⟨lb,0,none⟩ (.slice A' (n+m) c')):=(Upd.refl (fun q=>q=lb) W1).setCell (p:=⟨lb,0,none⟩) (.inl rfl) _;refine⟨A',c',W1,happ,kb,⟨kb.set 0 _,?_,hne'⟩,(up.mono (F':=fun q=>q=lb∨(Value.slice A n c).ownBlock=some q) (fun i _ h=>.inr h)).trans us (fun i h=>.inl (.inl h)),pl⟩;have h2:=aB own' us (fun k hk e=>hne' (by rw[hk,e]));rw[show bP (L++M)=bP L++bP M by simp[bP],List.length_append,hn,hM];exact h2
open Go.RowKit Go.Shelf
structure KpB(W1 W:World)(K V:Nat→Prop)(p tb nts:Nat)(P:List Pr)(labels:List Txt)(G:Gr)(T:aY)(L:List (Nat × Nat × Nat))(v:Value)(D:Nat):Prop where
 d:DcV W K V p nts P labels G T
 ok:nS nts P labels G T
 kv:∀k,K k∨V k→W1.heap.size≤k
 l:LsB W W1.heap.size tb L v
 lk:¬(K tb∨V tb)
 rk:∀q,v.ownBlock=some q→¬(K q∨V q)
 t0:W1.heap.size≤tb
 b:Below W1.heap.size W1 W
 D0:W1.heap.size≤D∧D<W.heap.size∧¬(K D∨V D)∧D≠tb∧v.ownBlock≠some D
 D1:W.heap[D]?=some (.deferred (some []))
section
variable {W1 W W':World} {K V:Nat→Prop} {p tb nts:Nat} {P:List Pr} {labels:List Txt} {G:Gr} {T:aY} {L:List (Nat × Nat × Nat)} {v:Value} {D:Nat}
theorem KpB.below(h:KpB W1 W K V p tb nts P labels G T L v D)(hb:Below W.heap.size W W'):KpB W1 W' K V p tb nts P labels G T L v D:=
 ⟨h.d.below hb,h.ok,h.kv,h.l.below hb,h.lk,h.rk,h.t0,tHn h.b hb,⟨h.D0.1,Nat.lt_of_lt_of_le h.D0.2.1 hb.size,h.D0.2.2⟩,((upF hb).block D h.D0.2.1 id).trans h.D1⟩
theorem KpB.add(h:KpB W1 W K V p tb nts P labels G T L v D){x:Ed}{e:Ending}(hq:CmQ W K V p nts P labels T (aL G x) e W') :
  ∃A c M T' V',e=.returned (.tuple #[.slice A M.length c,.bool (aL G x).2.1,.int .i64 (aL G x).2.2])∧KpB W1 W' K V' p tb nts P labels (aL G x).1 T' L v D∧bJ W' A (bP M)∧(∀b o s,A=some ⟨b,o,s⟩→v.ownBlock≠some b∧b≠tb)∧fY nts T T' M∧((aL G x).2.1=false→M=[])∧M.length≤nts*4096 ∧
   ∀k,k<nts→∀i j,aX (T k) i j=true→aX (T' k) i j=true:=by
 obtain⟨A,c,M,T',V',e1,own,hd,hok,hu,hV,hr,hg,-,hn⟩:=hq;have hz:=h.b.size;refine⟨A,c,M,T',V',e1,⟨hd,hok,fun k hk=>?_,h.l.upd hu (fun e=>h.lk (.inr e)) (fun q hq e=>h.rk q hq (.inr e)),fun hk=>?_,fun q hq hk=>?_,h.t0,h.b.trans (hu.below (fun q _ hq=>h.kv q (.inr hq)) hz),⟨h.D0.1,Nat.lt_of_lt_of_le h.D0.2.1 hu.size,fun hk=>?_,h.D0.2.2.2⟩,(hu.block D h.D0.2.1 (fun e=>h.D0.2.2.1 (.inr e))).trans h.D1⟩,bJ.of_own own,fun b o s e=>?_,hg,hn,hg.len hok.wd,h.ok.sub hok⟩
 ·rcases hk with hk|hk
  ·exact h.kv k (.inl hk)
  ·exact(hV k hk).elim (fun h'=>h.kv k (.inr h')) (fun h'=>by omega)
 ·rcases hk with hk|hk
  ·exact h.lk (.inl hk)
  ·exact(hV _ hk).elim (fun h'=>h.lk (.inr h')) (fun h'=>by have:=h.l.b.lt;omega)
 ·rcases hk with hk|hk
  ·exact h.rk q hq (.inl hk)
  ·exact(hV _ hk).elim (fun h'=>h.rk q hq (.inr h')) (fun h'=>by have:=(h.l.own.lt q hq).2;omega)
 ·rcases hk with hk|hk
  ·exact h.D0.2.2.1 (.inl hk)
  ·exact(hV _ hk).elim (fun h'=>h.D0.2.2.1 (.inr h')) (fun h'=>by have:=h.D0.2.1;omega)
 ·subst e;have h1:=(own.lt b rfl).1;exact⟨fun e=>by have:=(h.l.own.lt b e).2;omega,fun e=>by have:=h.l.b.lt;omega⟩
theorem KpB.join{A:Option Addr}{n c:Nat}(h:KpB W1 W K V p tb nts P labels G T L (.slice A n c) D)(hn:L.length=n){R:Option Addr}{m d:Nat}{M:List (Nat × Nat × Nat)}(hM:M.length=m)(hr:bJ W R (bP M))(hl:(n+m)*24≤140737488355328) :
  ∃A' c' W2,(Builtin.append_ #[35,35] 35 #[.slice A n c,.slice R m d]).run Tryz.prog W=.ok (.slice A' (n+m) c') W2∧Blk W2 tb 35 #[.slice A n c]∧KpB W1 (W2.setCell ⟨tb,0,none⟩ (.slice A' (n+m) c')) K V p tb nts P labels G T (L++M) (.slice A' (n+m) c') D:=by
 obtain⟨A',c',W2,happ,kb,hL,hu,pl⟩:=h.l.join hn h.b.size M m hM R d hr hl;have hz:=h.b.size;have hd:∀k,K k∨V k→¬(k=tb∨(Value.slice A n c).ownBlock=some k):=fun k hk e=>e.elim (fun e=>h.lk (e ▸ hk)) (fun e=>h.rk k e hk)
 refine⟨A',c',W2,happ,kb,⟨h.d.upd hu hd,h.ok,h.kv,hL,h.lk,fun q hq hk=>?_,h.t0,h.b.trans (hu.below (fun q _ hq=>hq.elim (fun e=>by have:=h.t0;omega) (fun e=>(h.l.own.lt q e).1)) hz),⟨h.D0.1,Nat.lt_of_lt_of_le h.D0.2.1 hu.size,h.D0.2.2.1,h.D0.2.2.2.1,fun e=>(pl D e).elim h.D0.2.2.2.2 (fun h'=>by have:=h.D0.2.1;omega)⟩,(hu.block D h.D0.2.1 (fun e=>e.elim h.D0.2.2.2.1 h.D0.2.2.2.2)).trans h.D1⟩⟩;rcases pl q hq with h1|h1
 ·exact h.rk q h1 hk
 ·have:=h.d.lt q hk;omega
end
theorem UU{N:List Txt}{E:List Ed}(h:eO N E=0):GOk ⟨N,E⟩:=by
 have hf:=nQ (kD h).1;exact⟨hf.1.nodup gH,hf.2.1.nodup qF,hf.2.2,(PN h (fun _=>Iff.rfl) (fun _=>Iff.rfl)).1⟩
def KtC(W4:World)(base tb:Nat){Q:Nat × Nat × Nat→Prop}(pre:List {x:Nat × Nat × Nat // Q x})(V:World):Prop:=(∃v,LsB V base tb (pre.map (·.1)) v)∧KpM tb (fun q=>q=tb) W4 V
theorem KtC.own{W4:World}{base tb:Nat}{Q:Nat × Nat × Nat→Prop}(hl:tb<W4.heap.size)(r:RgM tb W4):iT tb (fun q=>q=tb) W4.heap.size (KtC (Q:=Q) W4 base tb):=by
 rintro s X Y row ⟨⟨v,h⟩,hk⟩ hg hr;exact⟨⟨v,h.grown (F:=fun q=>q=tb) rfl hg (fun k hk=>(hr k hk).2)⟩,iD (β:=Unit) (Nat.le_refl _) hl r () X Y row hk hg hr⟩
theorem MJ{α:Type}(L:List α)(Q:α→Prop)(hQ:∀x∈L,Q x):(fW L Q hQ).map (·.1)=L:=by unfold fW;simp
open Go.RowKit Go.Shelf
def MK(nts m:Int):Bool:=(decide (40<nts)&&decide (nts≤512))||(decide (120<m)&&decide (m≤8192))
theorem IE(w:World)(nts:Int)(PA:Option Addr)(m pc:Nat):Calls Tryz.prog 15 #[.agg #[.int .i64 nts,.slice PA m pc]] w (Sam w (.bool (MK nts m))):=by
 have b1:Below w.heap.size w (w.alloc (.cells #[.int .i64 nts,.slice PA m pc] 32)):=bR.alloc (Nat.le_refl _) _;have k1:=Blk.new w 32 #[.int .i64 nts,.slice PA m pc];have q0:(w.alloc (.cells #[.int .i64 nts,.slice PA m pc] 32)).cell? ⟨w.heap.size,0,none⟩=some (.int .i64 nts):=k1.cell 0;have q1:(w.alloc (.cells #[.int .i64 nts,.slice PA m pc] 32)).cell? ⟨w.heap.size,1,none⟩=some (.slice PA m pc):=k1.cell 1;have H:=hIz b1;clear b1 k1;obtain⟨r,hr⟩:∃r,MK nts m=r:=⟨_,rfl⟩;rw[hr];unfold MK at hr;by_cases h1:40<nts
 ·by_cases h2:nts≤512
  ·simp only[h1,h2,decide_true,decide_false,Bool.and_true,Bool.and_false,Bool.true_and,Bool.false_and,Bool.or_true,Bool.or_false,Bool.true_or,Bool.false_or] at hr
   subst hr;go_enter Tryz.func15,Tryz.ntmps15;go_wp2;go_ret;exact⟨rfl,H.out⟩
  ·by_cases h3:(120:Int)<(m:Int)
   ·by_cases h4:(m:Int)≤8192
    ·simp only[h1,h2,h3,h4,decide_true,decide_false,Bool.and_true,Bool.and_false,Bool.true_and,Bool.false_and,Bool.or_true,Bool.or_false,Bool.true_or,Bool.false_or] at hr
     subst hr;go_enter Tryz.func15,Tryz.ntmps15;go_wp2;go_ret;exact⟨rfl,H.out⟩
    ·simp only[h1,h2,h3,h4,decide_true,decide_false,Bool.and_true,Bool.and_false,Bool.true_and,Bool.false_and,Bool.or_true,Bool.or_false,Bool.true_or,Bool.false_or] at hr
     subst hr;go_enter Tryz.func15,Tryz.ntmps15;go_wp2;go_ret;exact⟨rfl,H.out⟩
   ·simp only[h1,h2,h3,decide_true,decide_false,Bool.and_true,Bool.and_false,Bool.true_and,Bool.false_and,Bool.or_true,Bool.or_false,Bool.true_or,Bool.false_or] at hr
    subst hr;go_enter Tryz.func15,Tryz.ntmps15;go_wp2;go_ret;exact⟨rfl,H.out⟩
 ·by_cases h3:(120:Int)<(m:Int)
  ·by_cases h4:(m:Int)≤8192
   ·simp only[h1,h3,h4,decide_true,decide_false,Bool.and_true,Bool.and_false,Bool.true_and,Bool.false_and,Bool.or_true,Bool.or_false,Bool.true_or,Bool.false_or] at hr
    subst hr;go_enter Tryz.func15,Tryz.ntmps15;go_wp2;go_ret;exact⟨rfl,H.out⟩
   ·simp only[h1,h3,h4,decide_true,decide_false,Bool.and_true,Bool.and_false,Bool.true_and,Bool.false_and,Bool.or_true,Bool.or_false,Bool.true_or,Bool.false_or] at hr
    subst hr;go_enter Tryz.func15,Tryz.ntmps15;go_wp2;go_ret;exact⟨rfl,H.out⟩
  ·simp only[h1,h3,decide_true,decide_false,Bool.and_true,Bool.and_false,Bool.true_and,Bool.false_and,Bool.or_true,Bool.or_false,Bool.true_or,Bool.false_or] at hr
   subst hr;go_enter Tryz.func15,Tryz.ntmps15;go_wp2;go_ret;exact⟨rfl,H.out⟩
open Go.RowKit Go.Shelf
theorem ML(w:World)(F:Nat→Prop)(p nts:Nat)(P:List Pr)(labels:List Txt)(G:Gr)(T:aY)(h:DcS w F p nts P labels G T)(hn1:1≤nts)(hG:G.N.length≤32)(k i j:Int) :
  Calls Tryz.prog 25 #[.pointer (some ⟨p,0,none⟩),.agg #[.int .i64 k,.int .i64 i,.int .i64 j]] w (Sam w (qY G.N.length nts T k i j)):=by
 obtain⟨K,Fg,FT,pc,cl,pg,PA,LA,PV,mv,hd0,-,-⟩:=h;obtain⟨g,gc,-,-,rfl,-⟩:=hd0.mt.at_ (k:=0) (by omega);have b1:Below w.heap.size w (w.alloc (.cells #[.int .i64 k,.int .i64 i,.int .i64 j] 25)):=bR.alloc (Nat.le_refl _) _;have k1:=Blk.new w 25 #[.int .i64 k,.int .i64 i,.int .i64 j];have hi1:=hd0.below b1;have his:=pQ (w.alloc (.cells #[.int .i64 k,.int .i64 i,.int .i64 j] 25)) p pg (hi1.cp.blk.cell 3);have hlen:=vK (w.alloc (.cells #[.int .i64 k,.int .i64 i,.int .i64 j] 25)) Fg pg G hi1.gr;have q3:(w.alloc (.cells #[.int .i64 k,.int .i64 i,.int .i64 j] 25)).cell? ⟨p,3,none⟩=some (.pointer (some ⟨pg,0,none⟩)):=hi1.cp.blk.cell 3;obtain⟨n,hn⟩:∃n,G.N.length=n:=⟨_,rfl⟩;rw[hn] at hlen hG ⊢;have H0:=aI3 b1 hi1 k1;clear hd0 b1 hi1 k1 hn;go_enter Tryz.func25,Tryz.ntmps25;go_wp2_with fail;refine his.mono ?_;clear his;rintro e V ⟨rfl,hw⟩;subst V;go_wp2_with fail;refine hlen.mono ?_;clear hlen;rintro e W1 ⟨rfl,bl⟩;have H:=aI3 (tHn H0.out.1 bl) (H0.out.2.1.below bl) (H0.out.2.2.upd (upF bl) id);clear bl q3 H0;have f0:W1.cell? ⟨w.heap.size,0,none⟩=some (.int .i64 k):=H.out.2.2.cell 0;have f1:W1.cell? ⟨w.heap.size,1,none⟩=some (.int .i64 i):=H.out.2.2.cell 1;have f2:W1.cell? ⟨w.heap.size,2,none⟩=some (.int .i64 j):=H.out.2.2.cell 2;have q0:W1.cell? ⟨p,0,none⟩=some (.int .i64 (nts:Int)):=H.out.2.1.cp.blk.cell 0;have q1:W1.cell? ⟨p,4,none⟩=some (.slice (some ⟨g,0,none⟩) nts gc):=H.out.2.1.cp.blk.cell 4;go_upto_region 4 with (fail);have hbd:=hIz (show ∀n,Below W1.heap.size W1 (W1.drewN n) from fun n=>⟨rfl,rfl,rfl,Nat.le_refl _,fun _ _=>rfl⟩)
 generalize w.heap.size=z at f0 f1 f2 ⊢;by_cases h0:k<0
 ·have FIN:=hIz (show qY n nts T k i j=.tuple #[.bool false,.int .i64 4] from if_neg (by omega));go_quiet (fail)
  go_wp2;refine bodyPost_ret (v:=.tuple #[.bool false,.int .i64 4]) (by simp[results,Tryz.f25,go_sem]) rfl ⟨by rw[FIN.out],H.out.1.trans ((hbd.out _).mono H.out.1.size)⟩
 ·have _g0:=h0;by_cases h1:(nts:Int)≤k
  ·have FIN:=hIz (show qY n nts T k i j=.tuple #[.bool false,.int .i64 4] from if_neg (by omega));go_quiet (fail)
   go_wp2;refine bodyPost_ret (v:=.tuple #[.bool false,.int .i64 4]) (by simp[results,Tryz.f25,go_sem]) rfl ⟨by rw[FIN.out],H.out.1.trans ((hbd.out _).mono H.out.1.size)⟩
  ·have _g1:=h1;by_cases h2:i<0
   ·have FIN:=hIz (show qY n nts T k i j=.tuple #[.bool false,.int .i64 4] from if_neg (by omega));go_quiet (fail)
    go_wp2;refine bodyPost_ret (v:=.tuple #[.bool false,.int .i64 4]) (by simp[results,Tryz.f25,go_sem]) rfl ⟨by rw[FIN.out],H.out.1.trans ((hbd.out _).mono H.out.1.size)⟩
   ·have _g2:=h2;by_cases h3:(n:Int)≤i
    ·have FIN:=hIz (show qY n nts T k i j=.tuple #[.bool false,.int .i64 4] from if_neg (by omega));go_quiet (fail)
     go_wp2;refine bodyPost_ret (v:=.tuple #[.bool false,.int .i64 4]) (by simp[results,Tryz.f25,go_sem]) rfl ⟨by rw[FIN.out],H.out.1.trans ((hbd.out _).mono H.out.1.size)⟩
    ·have _g3:=h3;by_cases h4:j<0
     ·have FIN:=hIz (show qY n nts T k i j=.tuple #[.bool false,.int .i64 4] from if_neg (by omega));go_quiet (fail)
      go_wp2;refine bodyPost_ret (v:=.tuple #[.bool false,.int .i64 4]) (by simp[results,Tryz.f25,go_sem]) rfl ⟨by rw[FIN.out],H.out.1.trans ((hbd.out _).mono H.out.1.size)⟩
     ·have _g4:=h4;by_cases h5:(n:Int)≤j
      ·have FIN:=hIz (show qY n nts T k i j=.tuple #[.bool false,.int .i64 4] from if_neg (by omega));go_quiet (fail)
       go_wp2;refine bodyPost_ret (v:=.tuple #[.bool false,.int .i64 4]) (by simp[results,Tryz.f25,go_sem]) rfl ⟨by rw[FIN.out],H.out.1.trans ((hbd.out _).mono H.out.1.size)⟩
      ·have _g5:=h5;obtain⟨a,rfl⟩:∃a:Nat,k=(a:Int):=⟨k.toNat,by omega⟩;obtain⟨x,rfl⟩:∃x:Nat,i=(x:Int):=⟨i.toNat,by omega⟩;obtain⟨y,rfl⟩:∃y:Nat,j=(y:Int):=⟨j.toNat,by omega⟩;have FIN:=hIz (show qY n nts T (a:Int) (x:Int) (y:Int)=.tuple #[.bool (aX (T a) x y),.int .i64 0] from by
        unfold qY;rw[if_pos (by omega),Int.toNat_natCast,Int.toNat_natCast,Int.toNat_natCast])
       go_quiet (fail)
       have haN:a<nts:=by omega
       have haI:(a:Int)<(nts:Int):=by omega
       go_upto_region 6 with (fail);clear q0;have hb1:=hbd.out nq;obtain⟨g2,c2,qa,Fa,e,ca,-,hqa,-,-,-⟩:=(H.out.2.1.below hb1.drew).mt.at_ (k:=a) (by omega);injection e with e _ e3;injection e with e;injection e with e;subst e;have hS:(fun X:World=>X.cell? ⟨p,4,none⟩=some (.slice (some ⟨g,0,none⟩) nts gc)∧X.cell? ⟨z,0,none⟩=some (.int .i64 (a:Int))∧X.cell? ⟨z,1,none⟩=some (.int .i64 (x:Int))∧X.cell? ⟨z,2,none⟩=some (.int .i64 (y:Int))∧X.cell? ⟨g,a,none⟩=some (.pointer (some ⟨qa,0,none⟩))) (W1.drewN nq).drew:=⟨q1,f0,f1,f2,ca⟩;have HB2:=hIz hb1.drew;have HQA:=hIz hqa;clear hb1 f0 f1 f2 q1 ca hqa;refine bI (fun X:World=>X.cell? ⟨p,4,none⟩=some (.slice (some ⟨g,0,none⟩) nts gc)∧X.cell? ⟨z,0,none⟩=some (.int .i64 (a:Int))∧X.cell? ⟨z,1,none⟩=some (.int .i64 (x:Int))∧X.cell? ⟨z,2,none⟩=some (.int .i64 (y:Int))∧X.cell? ⟨g,a,none⟩=some (.pointer (some ⟨qa,0,none⟩))) (aO 12) (by kernel_rfl) ?_;generalize (W1.drewN nq).drew=W2 at HB2 HQA hS ⊢;intro hd;(refine aA 0 rfl hd hS ?_;clear hd;intro hd;(try simp only[Act.put,gA,gZ,sA,sZ,sS]))
       refine aA 1 rfl hd hS ?_;clear hd;intro hd;refine aA 2 rfl hd hS ?_;clear hd;intro hd;refine aA 3 rfl hd hS ?_;clear hd;intro hd;refine aA 4 rfl hd hS ?_;clear hd;intro hd;refine aA 5 rfl hd hS ?_;clear hd;intro hd;refine aA 6 rfl hd hS ?_;clear hd;intro hd;refine aA 7 rfl hd hS ?_;clear hd;intro hd;refine aA 8 rfl hd hS ?_;clear hd;intro hd;refine aA 9 rfl hd hS ?_;clear hd;intro hd;refine aA 10 rfl hd hS ?_;clear hd;intro hd;refine aA 11 rfl hd hS ?_;clear hd;intro hd;have hcon:Hid (Calls Tryz.prog 75 #[.pointer (some ⟨qa,0,none⟩),.int .i64 (x:Int),.int .i64 (y:Int)] W2 (Sam W2 (.tuple #[.bool (aX (T a) x y),.int .i64 0]))):=hIz (sC W2 Fa qa 32 (T a) HQA.out x y (by omega) (by omega) (by omega) (by omega));clear hS;refine aQ hd 12 ?_;clear hd;intro hd;refine aW (S:=(fun X:World=>X.cell? ⟨p,4,none⟩=some (.slice (some ⟨g,0,none⟩) nts gc)∧X.cell? ⟨z,0,none⟩=some (.int .i64 (a:Int))∧X.cell? ⟨z,1,none⟩=some (.int .i64 (x:Int))∧X.cell? ⟨z,2,none⟩=some (.int .i64 (y:Int))∧X.cell? ⟨g,a,none⟩=some (.pointer (some ⟨qa,0,none⟩)))) (late:=aO 12) rfl rfl (fun K hK=>?_);go_simp;refine hcon.out.mono ?_;clear hcon;rintro e W3 ⟨rfl,hb3⟩;have HB3:=hIz (H.out.1.trans ((tHn HB2.out hb3).mono H.out.1.size));clear hb3;refine hK _ _ (fun h _=>absurd h (by decide)) ?_;clear hK K;(try simp only[Act.put,gA,gS,gZ,sA,sZ,sS])
       (refine aR (i:=13) (v:=?_) rfl (by kernel_rfl) hd (fun _ _ d _ _ h=>by cases d <;> exact h) (by first | with_reducible rfl | kernel_rfl) ?_ ?_;rotate_left;(focus (intro wS;go_simp;(try with_reducible rfl);done));clear hd;intro hd;(try simp only[Act.put,gA,gS,gZ,sA,sZ,sS]))
       (refine aR (i:=14) (v:=?_) rfl (by kernel_rfl) hd (fun _ _ d _ _ h=>by cases d <;> exact h) (by first | with_reducible rfl | kernel_rfl) ?_ ?_;rotate_left;(focus (intro wS;go_simp;(try with_reducible rfl);done));clear hd;intro hd;(try simp only[Act.put,gA,gS,gZ,sA,sZ,sS]))
       (refine aR (i:=15) (v:=?_) rfl (by kernel_rfl) hd (fun _ _ d _ _ h=>by cases d <;> exact h) (by first | with_reducible rfl | kernel_rfl) ?_ ?_;rotate_left;(focus (intro wS;go_simp;(try with_reducible rfl);done));clear hd;intro hd;(try simp only[Act.put,gA,gS,gZ,sA,sZ,sS]))
       (refine aR (i:=16) (v:=?_) rfl (by kernel_rfl) hd (fun _ _ d _ _ h=>by cases d <;> exact h) (by first | with_reducible rfl | kernel_rfl) ?_ ?_;rotate_left;(focus (intro wS;go_simp;(try with_reducible rfl);done));clear hd;intro hd;(try simp only[Act.put,gA,gS,gZ,sA,sZ,sS]))
       refine cS (by kernel_rfl) ?_;go_wp2;refine bodyPost_ret (v:=.tuple #[.bool (aX (T a) x y),.int .i64 0]) (by simp[results,Tryz.f25,go_sem]) rfl ⟨by rw[FIN.out],HB3.out⟩
open Go.RowKit Go.Shelf
attribute [local go_sem] Oper.semAt_some
structure KpH(w:World)(nts:Int)(PA:Option Addr)(PV:List Pv)(LA:Option Addr)(labels:List Txt)(A:Option Addr)(c:Nat)(B:Option Addr)(d:Nat)(N:List Txt)(E:List Ed)(EA:Option Addr)(EL:List Ed):Prop where
 P:PvR w PA PV
 l:bJ w LA (aE labels)
 g:qI w A c B d N E
 e:bJ w EA (aU EL)
 ok:∀x∈EL,nI x
 t:gG w
theorem KpH.below{w w':World}{nts:Int}{PA LA A B EA:Option Addr}{c d:Nat}{PV:List Pv}{labels N:List Txt}{E EL:List Ed}(h:KpH w nts PA PV LA labels A c B d N E EA EL)(hb:Below w.heap.size w w'):KpH w' nts PA PV LA labels A c B d N E EA EL:=
 ⟨h.P.below hb,h.l.below3 hb,h.g.below hb,h.e.below3 hb,h.ok,h.t.upd (upF hb) h.t.lt id⟩
theorem MM(w:World)(nts:Int)(PA:Option Addr)(pc:Nat)(PV:List Pv)(LA:Option Addr)(cl:Nat)(labels:List Txt)(A:Option Addr)(c:Nat)(B:Option Addr)(d:Nat)(N:List Txt)(E:List Ed)(EA:Option Addr)(ec:Nat)(EL:List Ed)
  (h:KpH w nts PA PV LA labels A c B d N E EA EL) :
  Calls Tryz.prog 5 #[.agg #[.int .i64 nts,.slice PA PV.length pc],.slice LA labels.length cl,dS A N.length c B E.length d,.slice EA EL.length ec] w (Sam w (.bool true)):=by
 obtain⟨m,hm⟩:∃m,PV.length=m:=⟨_,rfl⟩;obtain⟨nl,hnl⟩:∃nl,labels.length=nl:=⟨_,rfl⟩;obtain⟨n,hn⟩:∃n,N.length=n:=⟨_,rfl⟩;obtain⟨ne,hne⟩:∃ne,E.length=ne:=⟨_,rfl⟩;obtain⟨q,hq⟩:∃q,EL.length=q:=⟨_,rfl⟩;have b1:Below w.heap.size w ((w.alloc (.cells #[.int .i64 nts,.slice PA m pc] 32)).alloc (.cells #[.slice A n c,.slice B ne d] 52)):=by(repeat (first | exact Below.refl _ _ | apply Below.drew | refine Below.alloc ?_ (by first | exact Nat.le_refl _ | (simp;done) | (simp;omega)) _ | refine Below.setCell ?_ (by first | exact Nat.le_refl _ | (simp;done) | (simp;omega)) _))
 have k1:Blk ((w.alloc (.cells #[.int .i64 nts,.slice PA m pc] 32)).alloc (.cells #[.slice A n c,.slice B ne d] 52)) w.heap.size 32 #[.int .i64 nts,.slice PA m pc]:=(Blk.new w _ _).alloc _;have k2:Blk ((w.alloc (.cells #[.int .i64 nts,.slice PA m pc] 32)).alloc (.cells #[.slice A n c,.slice B ne d] 52)) (w.heap.size+1) 52 #[.slice A n c,.slice B ne d]:=by
  have:=Blk.new (w.alloc (.cells #[.int .i64 nts,.slice PA m pc] 32)) 52 #[.slice A n c,.slice B ne d];rwa [World.size_alloc] at this
 have hof:=fun W (hG:qI W A c B d N E)=>PO W A c B d N E hG
 have hnw:=fun W (hh:KpH W nts PA PV LA labels A c B d N E EA EL) (Fg:Nat→Prop) (pg:Nat) (G:Gr) (hG:GrS W Fg pg G) (ok:GOk G)=>zL W nts PA pc PV hh.P LA cl labels hh.l Fg pg G hG ok hh.t
 have han:=fun W (hh:KpH W nts PA PV LA labels A c B d N E EA EL) (Fg:Nat→Prop) (pg:Nat) (G:Gr) (hG:GrS W Fg pg G) (ok:GOk G)=>zG W nts PA pc PV hh.P LA cl labels hh.l Fg pg G hG ok hh.t hh.t.lt
 unfold dS at hof ⊢;rw[hn,hne] at hof;rw[hm,hnl] at hnw han;rw[hm,hnl,hn,hne,hq];have HL:=aI5 hm hnl hn hne hq;have HF:=aI3 hof hnw han;have H0:=hIz h;clear hm hnl hn hne hq hof hnw han h;refine(callsIn_wide (n:=1)).1 ?_;refine callsIn_of_wp_marks Tryz.func5 rfl trivial ?_ rfl;simp only[Tryz.ntmps5,List.size_toArray,List.length_cons,List.length_nil,Nat.reduceAdd,Nat.reduceSub,Array.replicate_succ,Array.replicate_zero,List.push_toArray,List.append_toArray,List.nil_append,List.cons_append]
 refine wpIn_wide.2 ?_;go_upto_region 1 with (fail);obtain⟨z,hz⟩:∃z,w.heap.size=z:=⟨_,rfl⟩;generalize (w.alloc (.cells #[.int .i64 nts,.slice PA m pc] 32)).alloc (.cells #[.slice A n c,.slice B ne d] 52)=W0 at b1 k1 k2 ⊢;rw[hz] at k1 k2 ⊢;have C:=hIz (show ∀V,Below W0.heap.size W0 V→V.cell? ⟨z,0,none⟩=some (.int .i64 nts)∧V.cell? ⟨z,1,none⟩=some (.slice PA m pc)∧V.cell? ⟨z+1,0,none⟩=some (.slice A n c)∧V.cell? ⟨z+1,1,none⟩=some (.slice B ne d)∧KpH V nts PA PV LA labels A c B d N E EA EL∧Below w.heap.size w V from fun V hb=>by
  have j1:=k1.upd (upF hb) id;have j2:=k2.upd (upF hb) id;have hb2:=tHn b1 hb;exact⟨j1.cell 0,j1.cell 1,j2.cell 0,j2.cell 1,H0.out.below hb2,hb2⟩)
 clear b1 k1 k2 hz H0;obtain⟨c0,c1,c2,c3,hh,-⟩:=C.out W0 bR;have hcon:=HF.out.1 W0 hh.g;clear hh;go_wp2_with fail;refine hcon.mono ?_;clear hcon c0 c1 c2 c3;rintro e W1 hq1;-- awake, wherever
 have AW:=hIz (show ∀V,Below W0.heap.size W0 V→Calls Tryz.prog 13 #[] V (fun e w'=>e=.returned (.bool true)∧Below w.heap.size w w'∧Below V.heap.size V w') from fun V hb=>by
  obtain⟨-,-,-,-,hh,hbw⟩:=C.out V hb;refine(BV V hh.t).mono ?_;rintro e w' ⟨rfl,hb2⟩;exact⟨rfl,tHn hbw hb2,hb2⟩)
 rcases hq1 with ⟨hc,rfl,b1⟩|⟨hc,pg,rfl,⟨Fg,hg,hFg⟩,b1⟩
 ·-- no graph
  obtain⟨err,herr⟩:∃err,eO N E=err:=⟨_,rfl⟩;rw[herr] at hc ⊢;have e1:(err==0)=false:=by simpa using hc
  have e2:(err != 0)=true:=by simpa using hc
  have e3:(!(err==0))=true:=by rw[e1];rfl
  have haw:=AW.out W1 b1;clear hc herr b1;by_cases h20:(20:Int)<(q:Int)
  ·go_wp2_with fail;refine haw.mono ?_;clear haw;rintro e V ⟨rfl,hb,-⟩;have FIN:=hIz hb;clear hb;go_wp2;refine jQ (v:=.bool true) (by simp[results,Tryz.f5,go_sem]) rfl ⟨rfl,FIN.out⟩
  ·go_wp2_with fail;refine haw.mono ?_;clear haw;rintro e V ⟨rfl,hb,-⟩;have FIN:=hIz hb;clear hb;go_wp2;refine jQ (v:=.bool true) (by simp[results,Tryz.f5,go_sem]) rfl ⟨rfl,FIN.out⟩
 ·by_cases h20:(20:Int)<(q:Int)
  ·have haw:=AW.out W1 b1;clear hc hg hFg b1;go_wp2_with fail;refine haw.mono ?_;clear haw;rintro e V ⟨rfl,hb,-⟩;have FIN:=hIz hb;clear hb;go_wp2;refine jQ (v:=.bool true) (by simp[results,Tryz.f5,go_sem]) rfl ⟨rfl,FIN.out⟩
  ·obtain⟨c0,c1,-,-,-,-⟩:=C.out W1 b1;have hmy:=IE W1 nts PA m pc;have H1:=aI4 hc hg hFg b1;clear hc hg hFg b1;go_wp2_with fail;refine hmy.mono ?_;clear hmy c0 c1;rintro e W2 ⟨rfl,b2⟩;have bw2:=tHn H1.out.2.2.2 b2;cases hmb:MK nts m with
   | true =>
    have haw:=AW.out W2 bw2;clear b2 bw2 hmb;go_wp2_with fail;refine haw.mono ?_;clear haw;rintro e V ⟨rfl,hb,-⟩;have FIN:=hIz hb;clear hb;go_wp2;refine jQ (v:=.bool true) (by simp[results,Tryz.f5,go_sem]) rfl ⟨rfl,FIN.out⟩
   | false =>
    obtain⟨c0,c1,-,-,hh,-⟩:=C.out W2 bw2;have hokG:GOk ⟨N,E⟩:=UU H1.out.1;have hnew:=HF.out.2.1 W2 hh Fg pg ⟨N,E⟩ (H1.out.2.1.below b2) hokG;have H2:=aI3 hokG (H1.out.2.1.below b2) bw2;clear hh hokG b2 bw2 hmb;go_wp2_with fail;refine hnew.mono ?_;clear hnew c0 c1;rintro e W3 hq3;have b3:Below W2.heap.size W2 W3:=by
     rcases hq3 with ⟨-,-,h⟩|⟨-,_,_,_,_,-,-,-,h,-⟩
     ·exact h
     ·exact h
    have bw3:=tHn H2.out.2.2 b3;obtain⟨c0,c1,-,-,hh,-⟩:=C.out W3 bw3;have hanw:=HF.out.2.2 W3 hh Fg pg ⟨N,E⟩ (H2.out.2.1.below b3) H2.out.1;rcases hq3 with ⟨ha2,rfl,-⟩|⟨ha0,p,K,V,T,rfl,hd3,hlo3,-,hok3⟩
    ·have H3:=aI2 ha2 bw3;clear hh ha2 b3 bw3;go_wp2_with fail;refine hanw.mono ?_;clear hanw c0 c1;rintro e W4 (⟨-,rfl,b4⟩|⟨ha,-⟩)
     ·have haw:=AW.out W4 (tHn H3.out.2 b4);clear b4;go_wp2_with fail;refine haw.mono ?_;clear haw;rintro e V ⟨rfl,hb,-⟩;have FIN:=hIz hb;clear hb;go_wp2;refine jQ (v:=.bool true) (by simp[results,Tryz.f5,go_sem]) rfl ⟨rfl,FIN.out⟩
     ·rw[H3.out.1] at ha;cases ha
    ·have hcs:=mR nts PV labels;rw[ha0] at hcs;rcases hcs with hcs|⟨-,-,hn1,hn5,-,-,-⟩
     ·cases hcs
     obtain⟨t5,rfl⟩:∃t5:Nat,nts=(t5:Int):=⟨nts.toNat,by omega⟩;rw[Int.toNat_natCast] at hd3 hok3;have H3:=aI5 ha0 hd3 (fun k hk=>Nat.le_trans H2.out.2.2.size (hlo3 k hk)) hok3 bw3;clear hh ha0 hd3 hlo3 hok3 b3 bw3;go_wp2_with fail;refine hanw.mono ?_;clear hanw c0 c1;rintro e W4 (⟨ha,-,-⟩|⟨-,py,Fy,By,rfl,-,-,b4,-,-⟩)
     ·rw[H3.out.1] at ha;cases ha
     have hd4:=H3.out.2.1.below b4;have bw4:=tHn H3.out.2.2.2.2 b4;have k5:=Blk.new W4 35 #[.slice none 0 0];have b5:Below W4.heap.size W4 (W4.alloc (.cells #[.slice none 0 0] 35)):=bR.alloc (Nat.le_refl _) _;have hz5:(W4.alloc (.cells #[.slice none 0 0] 35)).heap.size=W4.heap.size+1:=by simp
     have bw5:=tHn bw4 b5;have hd5:=hd4.below b5;obtain⟨-,-,-,-,hh5,-⟩:=C.out _ bw5;have hfa:=BO _ _ p t5 (PV.map (·.pr)) labels ⟨N,E⟩ T hd5.s hh5.t (by omega) (by omega);have H5:=aI6 hd5 bw5 k5 hz5 bw4.size (fun k hk=>hd4.lt k hk);clear hd4 b4 bw4 k5 b5 hz5 bw5 hd5 hh5;go_upto_region 11 with (fail);generalize htb:W4.heap.size=tb at H5 ⊢;generalize W4.alloc (.cells #[.slice none 0 0] 35)=W5 at H5 hfa ⊢;clear htb;go_wp2_with fail;refine hfa.mono ?_;clear hfa;rintro e W6 ⟨g,fA,fc,hg6,rfl,kg,own6,hno6,b6⟩;have hEq:=pS W6.drew (.func 109) #[] #[.pointer (some ⟨g,0,none⟩)];have hEq2:=pS W6 (.func 109) #[] #[.pointer (some ⟨g,0,none⟩)];obtain⟨FL,hFL⟩:∃FL,iJ T t5=FL:=⟨_,rfl⟩;rw[hFL] at kg own6 hno6;have hwT:∀k,k<t5→Wd (bU (T k)):=fun k _=>(H3.out.2.2.2.1.wd k).old
     have hQ:∀x∈FL,x.1<512∧x.2.1<64∧x.2.2<64:=fun x hx=>by
      rw[← hFL] at hx;obtain⟨k,i,j⟩:=x;have:=(iK hwT).1 hx;exact⟨by omega,this.2.1,this.2.2.1⟩
     have hFl:FL.length≤512*4096:=by rw[← hFL];exact Nat.le_trans (lY T t5 0 (fun j _ hj=>hwT j (by omega))) (Nat.mul_le_mul_right _ (by omega))
     have hst:=wB W6 g fc W5.heap.size fA FL kg own6 (fun x=>x.1<512∧x.2.1<64∧x.2.2<64) hQ (by omega);have hz5:=H5.out.2.2.2.1;have hOw:∀q',(q'=g∨(Value.slice fA FL.length fc).ownBlock=some q')→q'<W6.heap.size∧q'≠tb:=fun q' ho=>by
      rcases ho with rfl|ho
      ·exact⟨kg.lt,by omega⟩
      ·have:=own6.lt q' ho;exact⟨this.2,by omega⟩
     have kl6:=H5.out.2.2.1.upd (upF b6) id;have l6:LsB W6 W0.heap.size tb [] (.slice none 0 0):=⟨kl6,World.ownsRow_nil _ _ _ _,by simp[Value.ownBlock]⟩;have hd6:=H5.out.1.below b6;have bw6:=tHn H5.out.2.1 b6;have htb6:tb<W6.heap.size:=kl6.lt;have HS:=aI7 hst hOw l6 hd6 bw6 hFL hFl;clear hst hOw l6 hd6 bw6 hwT hFl kg own6 hno6 b6 kl6 hg6 hz5 hFL;go_wp2;refine jJ (gf:=109) (cap:=#[.pointer (some ⟨g,0,none⟩)]) rfl (enters_of Tryz.func109 (by kernel_rfl) rfl) HS.out.1 bR (fun q hq=>(HS.out.2.1 q hq).1) (fun _=>rfl)
      tb (fun q=>q=tb) htb6 HS.out.2.2.1.rg (fun q e=>⟨by omega,fun ho=>(HS.out.2.1 q ho).2 e⟩) (HS.out.2.2.1.rowN (fun q hq ho=>by simp[Value.ownBlock] at hq))
      (KtC W6 W0.heap.size tb) (fun _ _ _=>False) (KtC.own htb6 HS.out.2.2.1.rg) (fun c s X Y row h _ _=>h) ⟨⟨_,HS.out.2.2.1⟩,KpM.refl _ _ _⟩
      (fun T y b=>(T.setIfInBounds 81 (.agg #[.int .i64 (y.1.1:Int),.int .i64 (y.1.2.1:Int),.int .i64 (y.1.2.2:Int)])).setIfInBounds 16 (.pointer (some ⟨b,0,none⟩)))
      (fun y b V=>(∃v,Blk V tb 35 #[v]∧v.ownBlock≠some b)∧Blk V b 25 #[.int .i64 (y.1.1:Int),.int .i64 (y.1.2.1:Int),.int .i64 (y.1.2.2:Int)]∧W6.heap.size≤b)
      ?hBx ?assign ?body ?done ?stop
     case hBx =>
      rintro x b st X Y row ⟨⟨v,h1,h2⟩,h3,h4⟩ hg hr;exact⟨⟨v,h1.keep hg hr,h2⟩,h3.keep hg hr,h4⟩
     case assign =>
      rintro l2 pre y V Kc hrV hsV ⟨⟨v,hi⟩,hkp⟩ hK;dsimp only [UF]
      have HI2:=aI2 hi hkp;clear hi hkp;gi_wp2
      have hi:=HI2.out.1;have hb9:Below V.heap.size V (V.alloc (.cells #[.int .i64 (y.1.1:Int),.int .i64 (y.1.2.1:Int),.int .i64 (y.1.2.2:Int)] 25)):=bR.alloc (Nat.le_refl _) _;have hk9:=KpM.of_below (lb:=tb) (F:=fun q=>q=tb) hb9 hi.b.lt;refine hK V.heap.size _ hk9 ⟨⟨v,hi.below hb9⟩,HI2.out.2.trans hk9⟩ ⟨⟨v,hi.b.alloc _,fun e=>?_⟩,Blk.new V _ _,hsV⟩;have:=(hi.own.lt _ e).2;omega
     case stop=>exact fun _ _ _ _ h=>h.elim
     case body =>
      rintro l2 pre ⟨⟨k,i,j⟩,hy⟩ b V hrV hsV ⟨⟨v,hi⟩,hkp⟩ ⟨⟨v',hb1,hb2⟩,hb3,hb4⟩ hlt2;obtain rfl:v=v':=(hi.is (hb1.cell 0)).symm;dsimp only at hb3
      have hbs:W0.heap.size≤V.heap.size:=Nat.le_trans HS.out.2.2.2.2.1.size hsV;obtain⟨v9,V1,happ,kb1,hL,hk9,-,-⟩:=hi.step (F:=fun q=>q=tb) hbs (k,i,j) (by have:=HS.out.2.2.2.2.2.2;rw[List.length_map];omega) rfl;obtain⟨A9,c9,hv9,-,-⟩:=aF hL.own;generalize (pre.map (·.1)++[(k,i,j)]).length=n9 at hv9;subst hv9;have c5:V.cell? ⟨tb,0,none⟩=some v:=hi.b.cell 0;have m0:V.cell? ⟨b,0,none⟩=some (.int .i64 (k:Int)):=hb3.cell 0;have m1:V.cell? ⟨b,1,none⟩=some (.int .i64 (i:Int)):=hb3.cell 1;have m2:V.cell? ⟨b,2,none⟩=some (.int .i64 (j:Int)):=hb3.cell 2;have g5:V1.cell? ⟨tb,0,none⟩=some v:=kb1.cell 0;have f5:=kb1.frozen 0;have hfin:KpM tb (fun q=>q=tb) V (V1.setCell ⟨tb,0,none⟩ (.slice A9 n9 c9))∧KtC W6 W0.heap.size tb (pre++[(⟨(k,i,j),hy⟩:{x:Nat × Nat × Nat // x.1<512∧x.2.1<64∧x.2.2<64})]) (V1.setCell ⟨tb,0,none⟩ (.slice A9 n9 c9)):=⟨hk9,⟨_,by rw[List.map_append];exact hL⟩,hkp.trans hk9⟩;have HFN:=hIz hfin;clear hfin hk9 hL kb1 hb1 hb2 hb3 hi hrV hkp hbs;simp only[sA,sZ,sS]
      gi_wp2_with (gi_at_builtin;refine eC rfl _ _ _ rfl rfl rfl happ ?_)
      exact HFN.out
     case done =>
      rintro ys V7 rfl ⟨⟨v7,hi⟩,hkp⟩ hrV pD hD;rw[MJ] at hi;have hrg:=HS.out.2.2.1.rg;have alw:∀q,RX tb (fun q=>q=tb) W6 q→q=tb:=fun q hq=>by
       rcases hq with e|⟨u,hu,ho⟩
       ·exact e
       ·obtain rfl:=HS.out.2.2.1.is hu;simp[Value.ownBlock] at ho
      have hu7:=(hkp hrg).1;have hKV:∀k,K k∨V k→k<tb:=fun k hk=>H5.out.2.2.2.2.2 k hk
      have hK7:KpB W0 V7 K V p tb t5 (PV.map (·.pr)) labels ⟨N,E⟩ T FL v7 W6.heap.size:=
       ⟨HS.out.2.2.2.1.upd hu7 (fun k hk ha=>by have:=hKV k hk;have:=alw k ha;omega),H3.out.2.2.2.1,fun k hk=>Nat.le_trans (by have:=H2.out.2.2.size;omega) (H3.out.2.2.1 k hk),hi,fun hk=>by have:=hKV tb hk;omega,fun q hq hk=>by
        have h1:=(hkp hrg).2 v7 q (hi.b.cell 0) hq;have h2:=hKV q hk;obtain⟨u,hu,ho⟩:=h1.2 (by omega);obtain rfl:=HS.out.2.2.1.is hu;simp[Value.ownBlock] at ho,H5.out.2.2.2.2.1,HS.out.2.2.2.2.1.trans (hu7.below (fun q _ ha=>by have:=alw q ha;have:=H5.out.2.2.2.2.1;omega) HS.out.2.2.2.2.1.size),
        ⟨HS.out.2.2.2.2.1.size,pD.1,fun hk=>by have:=hKV _ hk;omega,fun e=>pD.2 (.inl e),fun e=>pD.2 (.inr ⟨v7,hi.b.cell 0,e⟩)⟩,hD⟩
      have hTl:zN t5 T FL:=HS.out.2.2.2.2.2.1 ▸ zN.start H3.out.2.2.2.1
      have HK:=hIz (show ∃L v K V G T,KpB W0 V7 K V p tb t5 (PV.map (·.pr)) labels G T L v W6.heap.size∧zN t5 T L from⟨FL,v7,K,V,⟨N,E⟩,T,hK7,hTl⟩);clear hi hkp hrV pD hD hrg alw hu7 hKV hK7 hTl;go_upto_region 17 with (fail);have hq20:q≤20:=by omega
      go_wp2;go_loopw [17] (fun i wr=>∃k:Nat,k≤q∧i=.int .i64 (k:Int)∧Hid (∃L v K V G T,KpB W0 wr K V p tb t5 (PV.map (·.pr)) labels G T L v W6.heap.size∧zN t5 T L)) (fun i _=>q-(intOf i).toNat)
      case atStart=>exact⟨0,Nat.zero_le _,rfl,HK⟩
      case round =>
       obtain⟨k,hk,rfl,hi⟩:=hrel;clear HK;by_cases hlt:k<q
       ·have hltI:(k:Int)<(q:Int):=by omega
        have hkw:IntKind.i64.wrap ((k:Int)+1)=(k:Int)+1:=IntWalk.i64_in _ (by omega);obtain⟨L,v,K1,V1,G,T1,hB,hTl⟩:=hi.out;obtain⟨x,hx⟩:∃x,EL[k]?=some x:=⟨_,gEz (by rw[HL.out.2.2.2.2];exact hlt)⟩;have bd:Below wr.heap.size wr wr.drew:=bR.drew;have hBd:=hB.below bd;obtain⟨-,-,-,-,hh,-⟩:=C.out wr.drew hBd.b;obtain⟨eb,eo,rfl,x0,x1,x2⟩:=hh.e.ed hx;have hxk:=hh.ok x (mG hx);have hadd:=nD wr.drew K1 V1 p t5 (PV.map (·.pr)) labels G T1 hBd.d hBd.ok hh.t (fun e=>by
         have h1:=hBd.kv _ (.inr e);obtain⟨-,-,-,-,hh0,-⟩:=C.out W0 bR;have:=hh0.t.lt;omega) x hxk
        have HB:=aI4 hBd hTl hx hxk;clear hB hTl hBd hh hxk bd hi hx;go_upto_region 20 with (fail);refine eW ?_;refine aN (fun V:World=>V.cell? ⟨eb,eo+k*3,none⟩=some (.string x.fr)∧V.cell? ⟨eb,eo+k*3+1,none⟩=some (.string x.lb)∧V.cell? ⟨eb,eo+k*3+2,none⟩=some (.string x.to)) 24 [(0,true),(1,true),(2,true),(3,true),(4,true),(5,true),(6,true),(7,true),(8,true),(9,true),(10,true),(11,true),(12,true),(13,true),(14,true),(15,true),(16,false),(17,true),(18,true),(19,true),(20,true),(21,true),(22,true),(23,true)] (by kernel_rfl) (by kernel_rfl) (fun _ _ _ _ _ h=>h.elim) ⟨x0,x1,x2⟩ ?_;clear x0 x1 x2;generalize wr.drew=V0 at HB hadd ⊢
        iterate 16 refine aC rfl ?_
        refine aM rfl rfl (fun K hK=>?_);go_simp;refine hadd.mono ?_;clear hadd;rintro e V9 hq9;obtain⟨gAq,gc,M,T9,V2,rfl,hB9,hrow9,hne9,hG9,hn9,hM9,hs9⟩:=HB.out.1.add hq9;obtain⟨-,-,-,-,hh,-⟩:=C.out V9 hB9.b;obtain⟨eb',eo',e,x0,x1,x2⟩:=hh.e.ed HB.out.2.2.1;injection e with e;injection e with e1 e2;subst e1;subst e2;have hT9:=HB.out.2.1.more hG9 hs9;obtain⟨G9,hG9'⟩:∃G9,(aL G x).1=G9:=⟨_,rfl⟩;obtain⟨is,his⟩:∃is,(aL G x).2.1=is:=⟨_,rfl⟩;obtain⟨err,herr⟩:∃err,(aL G x).2.2=err:=⟨_,rfl⟩;have hsd:=MI G x;rw[hG9'] at hB9 hsd;rw[his] at hn9 hsd;rw[herr] at hsd;rw[his,herr];obtain⟨gm,hgm⟩:∃gm,M.length=gm:=⟨_,rfl⟩;have hgm0:is=false→gm=0:=fun h=>by rw[← hgm,hn9 h];rfl
        have H9:=aI7 hB9 hT9 hrow9 hne9 hsd.1 hM9 hgm;have HSD:=aI2 hsd.2 hgm0;rw[hgm];clear hq9 hB9 hT9 hrow9 hne9 hsd hG9 hn9 hM9 hs9 hh hgm hgm0 his herr hG9';refine hK _ _ (fun _=>⟨x0,x1,x2⟩) ?_;clear hK K x0 x1 x2;(try simp only[Act.put,gA,gS,gZ,sA,sZ,sS])
        iterate 7 refine aC rfl ?_
        refine aG ?_;dsimp only [fG]
        have HX0:=aI2 HB.out.2.2.1 HB.out.2.2.2;clear HB;-- is what came such as it must be?
        go_upto_region 21 with (fail);go_cut [131] from 113 to 202 (fun s131 wc=>s131=.bool false∧Hid (wc=V9))
        case first =>
         cases is with
         | true =>
          obtain rfl:err=0:=by
           by_cases he:err=0
           ·exact he
           ·have:=HSD.out.1 he;cases this
          clear HSD;go_wp2;go_meet
          case rel=>exact⟨rfl,hIz rfl⟩
         | false =>
          obtain rfl:=HSD.out.2 rfl;clear HSD;by_cases he:err=0
          ·subst he;go_wp2;go_meet
           case rel=>exact⟨rfl,hIz rfl⟩
          ·have f1:(err==0)=false:=by simpa using he
           have f2:(err != 0)=true:=by simpa using he
           have f3:(!(err==0))=true:=by rw[f1];rfl
           clear he;go_wp2;go_meet
           case rel=>exact⟨rfl,hIz rfl⟩
        case rest =>
        obtain⟨rfl,hwc⟩:=hcut;obtain rfl:=hwc.out;clear hwc HSD;obtain⟨ln,hln⟩:∃ln,L.length=ln:=⟨_,rfl⟩;have hB9:=H9.out.1;obtain⟨vA,vc,rfl,-,-⟩:=aF hB9.l.own;rw[hln] at hB9;have hfew:ln+gm≤512*4096:=by
         have h1:=H9.out.2.1.few H9.out.1.ok;rw[List.length_append,hln,H9.out.2.2.2.2.2.2] at h1;exact Nat.le_trans h1 (Nat.mul_le_mul_right _ (by omega))
        obtain⟨tA,tc,W2,happ,kb2,hB2⟩:=hB9.join (d:=gc) hln H9.out.2.2.2.2.2.2 H9.out.2.2.1 (by omega);obtain⟨l2,hl2⟩:∃l2,ln+gm=l2:=⟨_,rfl⟩;rw[hl2] at happ hB2 hfew;have c5:wc.cell? ⟨tb,0,none⟩=some (.slice vA ln vc):=hB9.l.b.cell 0;have g5:W2.cell? ⟨tb,0,none⟩=some (.slice vA ln vc):=kb2.cell 0;have f5:=kb2.frozen 0;have hgr:=BM _ _ p t5 (PV.map (·.pr)) labels G9 T9 hB2.d.s hB2.ok.ok;have hlL:(L++M).length=l2:=by rw[List.length_append,hln,H9.out.2.2.2.2.2.2,hl2]
        have H10:=aI5 hB2 H9.out.2.1 H9.out.2.2.2.2.1 hlL hfew;clear kb2 hB2 hln hl2 hfew hlL;go_upto_region 23 with (fail);go_upto_region 24 with (at_builtin;refine wpList_append_run rfl _ _ _ rfl rfl rfl happ ?_);generalize W2.setCell ⟨tb,0,none⟩ (.slice tA l2 tc)=W10 at H10 hgr ⊢;clear happ c5 g5 f5;go_wp2_with fail;refine hgr.mono ?_;clear hgr;rintro e W11 ⟨po,rfl,⟨Fo,hgo,hFo⟩,b11⟩;have hB11:=H10.out.1.below b11;obtain⟨c0,c1,-,-,hh,-⟩:=C.out W11 hB11.b;have han:=HF.out.2.2 W11 hh Fo po G9 hgo hB11.ok.ok;have H11:=aI2 hB11 hgo;clear hB11 hh b11 hgo hFo;go_wp2_with fail;refine han.mono ?_;clear han c0 c1;rintro e W12 (⟨ha,-,-⟩|⟨-,py2,Fy2,By2,rfl,hcy,-,b12,hder,hwy⟩)
        ·rw[H3.out.1] at ha;cases ha
        rw[Int.toNat_natCast] at hcy hder;have hB12:=H11.out.1.below b12;have hsame:=ID hB12.ok hder hwy;have hG32:=hB12.ok.ok.few.1;have bd:Below W12.heap.size W12 W12.drew:=bR.drew;have hB13:=hB12.below bd;have hly:=LY W12.drew Fy2 py2 _ _ t5 By2 (hcy.below bd) (by omega) (by omega) (by omega);have hlx:=fun V (hb:Below W12.drew.heap.size W12.drew V)=>zH V _ p t5 (PV.map (·.pr)) labels G9 T9 (hB13.below hb).d.s (by omega) (by omega)
        have hlen:=H10.out.2.1.len H10.out.1.ok;rw[H10.out.2.2.2.1] at hlen;rw[hsame.1,← hlen] at hly;rw[← hlen] at hlx;have C5:=hIz (show ∀V,Below W12.drew.heap.size W12.drew V→V.cell? ⟨tb,0,none⟩=some (.slice tA l2 tc) from fun V hb=>(hB13.below hb).l.b.cell 0);have H13:=aI5 hB13 ((H11.out.2.below b12).below bd) (hcy.below bd) hsame.2 hG32;have HX1:=hIz hlx;clear hB12 hsame bd hB13 hcy hder hwy b12 hlen hlx hG32;go_upto_region 26 with (fail);refine eW ?_;refine aN (fun V:World=>V.cell? ⟨tb,0,none⟩=some (.slice tA l2 tc)) 16 [(0,true),(1,true),(2,true),(3,true),(5,true),(4,false),(6,false),(7,true),(8,true),(9,true),(10,true),(12,true),(13,true),(11,false),(14,true),(15,true)] (by kernel_rfl) (by kernel_rfl) (fun _ _ _ _ _ h=>h.elim) (C5.out _ bR) ?_;generalize W12.drew=V12 at H13 HX1 C5 hly ⊢
        iterate 5 refine aC rfl ?_
        (refine nY rfl (by first | with_reducible rfl | kernel_rfl) (fun K hK=>?_);go_simp)
        refine hly.mono ?_;clear hly;rintro e W14 ⟨rfl,b14⟩;have B14:=hIz b14;clear b14;have hlx:=HX1.out W14 B14.out;refine hK _ _ (fun _=>C5.out W14 B14.out) ?_;clear hK K;(try simp only[Act.put,gA,gS,gZ,sA,sZ,sS])
        (refine nY rfl (by first | with_reducible rfl | kernel_rfl) (fun K hK=>?_);go_simp)
        refine hlx.mono ?_;clear hlx;rintro e W15 ⟨rfl,b15⟩;have B15:=hIz (tHn B14.out b15);clear b15;have hlx:=HX1.out W15 B15.out;refine hK _ _ (fun _=>C5.out W15 B15.out) ?_;clear hK K;(try simp only[Act.put,gA,gS,gZ,sA,sZ,sS])
        iterate 6 refine aC rfl ?_
        (refine nY rfl (by first | with_reducible rfl | kernel_rfl) (fun K hK=>?_);go_simp)
        refine hlx.mono ?_;clear hlx;rintro e W16 ⟨rfl,b16⟩;have B16:=hIz (tHn B15.out b16);clear b16;refine hK _ _ (fun _=>C5.out W16 B16.out) ?_;clear hK K;(try simp only[Act.put,gA,gS,gZ,sA,sZ,sS])
        iterate 2 refine aC rfl ?_
        refine aG ?_;dsimp only [fG]
        go_upto_region 28 with (fail);go_cut [181] from 160 to 202 (fun s181 wc2=>s181=.bool false∧∃Wz:World,Hid (Below W16.heap.size W16 Wz)∧Wz=wc2)
        case first =>
         have bd:Below W16.heap.size W16 W16.drew:=bR.drew;by_cases he:err=0
         ·have hxin:x∈G9.X:=H10.out.2.2.1 he;subst he;have hhas:=NH W16.drew Fo po G9 ((H13.out.2.1.below B16.out).below bd) H10.out.1.ok.ok x HX0.out.2.1 HX0.out.2.2.2;rw[decide_eq_true hxin] at hhas;have SR:=hIz (show ∀V,Below W16.drew.heap.size W16.drew V→V.cell? ⟨eb,eo+k*3,none⟩=some (.string x.fr)∧V.cell? ⟨eb,eo+k*3+1,none⟩=some (.string x.lb)∧V.cell? ⟨eb,eo+k*3+2,none⟩=some (.string x.to) from fun V hb=>by
           obtain⟨-,-,-,-,hh,-⟩:=C.out V (((H13.out.1.below B16.out).below bd).below hb).b;obtain⟨eb',eo',e,x0,x1,x2⟩:=hh.e.ed HX0.out.1;injection e with e;injection e with e1 e2;subst e1;subst e2;exact⟨x0,x1,x2⟩)
          have BD:=hIz bd;clear bd hxin;refine eW ?_;refine aN (fun V:World=>V.cell? ⟨eb,eo+k*3,none⟩=some (.string x.fr)∧V.cell? ⟨eb,eo+k*3+1,none⟩=some (.string x.lb)∧V.cell? ⟨eb,eo+k*3+2,none⟩=some (.string x.to)) 22 [(0,true),(1,true),(2,true),(3,true),(4,true),(5,true),(6,true),(7,true),(8,true),(9,true),(10,true),(11,true),(12,true),(13,true),(14,true),(15,true),(16,true),(17,true),(18,true),(19,false),(20,true),(21,true)] (by kernel_rfl) (by kernel_rfl) (fun _ _ _ _ _ h=>h.elim) (SR.out _ bR) ?_;generalize W16.drew=V16 at SR BD hhas ⊢
          iterate 19 refine aC rfl ?_
          (refine nY rfl (by first | with_reducible rfl | kernel_rfl) (fun K hK=>?_);go_simp)
          refine hhas.mono ?_;clear hhas;rintro e W17 ⟨rfl,b17⟩;have B17:=hIz b17;clear b17;refine hK _ _ (fun _=>SR.out W17 B17.out) ?_;clear hK K;(try simp only[Act.put,gA,gS,gZ,sA,sZ,sS])
          iterate 2 refine aC rfl ?_
          refine aG ?_;dsimp only [fG]
          go_wp2;go_meet
          case rel=>exact⟨rfl,_,hIz (tHn BD.out B17.out),rfl⟩
         ·have f1:(err==0)=false:=by simpa using he
          have BD:=hIz bd;clear bd he;refine eW ?_;refine aN (fun _:World=>True) 22 [(0,true),(1,true),(2,true),(3,true),(4,true),(5,true),(6,true),(7,true),(8,true),(9,true),(10,true),(11,true),(12,true),(13,true),(14,true),(15,true),(16,true),(17,true),(18,true),(19,false),(20,true),(21,true)] (by kernel_rfl) (by kernel_rfl) (fun _ _ _ _ _ h=>h.elim) trivial ?_;generalize W16.drew=V16 at BD ⊢
          iterate 3 refine aC rfl ?_
          iterate 16 (refine nG rfl (by kernel_rfl) ?_;(try simp only[Act.put,gA,gS,gZ,sA,sZ,sS]))
          (refine tW rfl (by kernel_rfl) (by first | assumption | trivial | exact UP.out _ H5.out) ?_;(try simp only[Act.put,gA,gS,gZ,sA,sZ,sS]))
          (refine nG rfl (by kernel_rfl) ?_;(try simp only[Act.put,gA,gS,gZ,sA,sZ,sS]))
          refine aC rfl ?_;refine aG ?_;dsimp only [fG]
          go_wp2;go_meet
          case rel=>exact⟨rfl,_,BD,rfl⟩
        case rest =>
        obtain⟨rfl,Wz,hwc2,hWc⟩:=hcut;subst hWc;have hB17:=(H13.out.1.below B16.out).below hwc2.out;have H17:=aI2 hB17 (hwc2.out);have BW:=hIz (tHn B16.out hwc2.out);clear hwc2 hB17 HX0 B14 B15 B16 C5 HX1;go_wp2;go_loopw [24] (fun i wr2=>∃j:Nat,j≤l2∧i=.int .i64 (j:Int)∧Hid (Below Wz.heap.size Wz wr2)) (fun i _=>l2-(intOf i).toNat)
        case atStart=>exact⟨0,Nat.zero_le _,rfl,hIz bR⟩
        case round =>
         obtain⟨j,hj,rfl,hb2⟩:=hrel;have hl2f:l2≤512*4096:=by
          have:=H10.out.2.1.few H10.out.1.ok;rw[H10.out.2.2.2.1] at this;exact Nat.le_trans this (Nat.mul_le_mul_right _ (by omega))
         have hBr:=H17.out.1.below hb2.out;have c5:wr.cell? ⟨tb,0,none⟩=some (.slice tA l2 tc):=hBr.l.b.cell 0;by_cases hjl:j<l2
         ·have hjI:(j:Int)<(l2:Int):=by omega
          have hjw:IntKind.i64.wrap ((j:Int)+1)=(j:Int)+1:=IntWalk.i64_in _ (by omega);obtain⟨y,hy⟩:∃y,(L++M)[j]?=some y:=⟨_,gEz (by rw[H10.out.2.2.2.1];exact hjl)⟩;have hown:=hBr.l.own;rw[H10.out.2.2.2.1] at hown;obtain⟨ta,tc',e,-,-,-,-,-⟩:=aK hown (by omega);injection e with e1 e2 e3;subst e1;obtain⟨m0,m1,m2⟩:=MC hown hy;obtain⟨hy1,hy2⟩:=(H10.out.2.1.mem y).1 (mG hy);have hha:=LX wr Fy2 py2 _ _ t5 By2 ((H13.out.2.2.1.below BW.out).below hb2.out) (by omega) (by omega) (by have:=H13.out.2.2.2.2;omega) (y.1:Int) (y.2.1:Int) (y.2.2:Int);rw[zO H10.out.1.ok H13.out.2.2.2.1 hy1 hy2] at hha;have HBB:=hIz hb2.out;clear hBr hy hown hy1 hy2 e2 e3 hb2;go_wp2_with fail;refine hha.mono ?_;clear hha m0 m1 m2 c5;rintro e W18 ⟨rfl,b18⟩;have B18:=hIz (tHn HBB.out b18);clear b18;go_wp2;go_roundw
          case rel=>exact⟨j+1,by omega,by go_num,B18⟩
          case measure=>simp[intOf];omega
         ·obtain rfl:l2=j:=by omega
          have FIN:=hIz (show ∃L v K V G T,KpB W0 wr K V p tb t5 (PV.map (·.pr)) labels G T L v W6.heap.size∧zN t5 T L from⟨_,_,_,_,_,_,hBr,H10.out.2.1⟩);clear hBr hb2;go_wp2;go_roundw
          case rel=>exact⟨k+1,by omega,by go_num,FIN⟩
          case measure=>simp[intOf];omega
       ·obtain rfl:q=k:=by omega
        obtain⟨L,v,K1,V1,G,T1,hB,hTl⟩:=hi.out;clear hi;obtain⟨ln,hln⟩:∃ln,L.length=ln:=⟨_,rfl⟩;have hlf:ln≤512*4096:=by
         have:=hTl.few hB.ok;rw[hln] at this;exact Nat.le_trans this (Nat.mul_le_mul_right _ (by omega))
        obtain⟨vA,vc,rfl,-,-⟩:=aF hB.l.own;rw[hln] at hB;have HQ:=aI3 hB hTl hln;have HB0:=hIz (show Below wr.heap.size wr wr from Below.refl _ _);clear hB hTl hln;obtain⟨Wq,hWq⟩:∃Wq,Wq=wr:=⟨_,rfl⟩;subst hWq;go_wp2;go_loopw [27] (fun i wr2=>∃j:Nat,j≤ln∧i=.int .i64 (j:Int)∧Hid (Below Wq.heap.size Wq wr2)) (fun i _=>ln-(intOf i).toNat)
        case atStart=>exact⟨0,Nat.zero_le _,rfl,HB0⟩
        case round =>
         obtain⟨j,hj,rfl,hb2⟩:=hrel;by_cases hjl:j<ln
         ·have hjI:(j:Int)<(ln:Int):=by omega
          have hjw:IntKind.i64.wrap ((j:Int)+1)=(j:Int)+1:=IntWalk.i64_in _ (by omega);obtain⟨y,hy⟩:∃y,L[j]?=some y:=⟨_,gEz (by rw[HQ.out.2.2];exact hjl)⟩;obtain⟨ta,tc',e,-,-,-,-,-⟩:=aK (HQ.out.1.l.own) (by rw[HQ.out.2.2];omega);rw[HQ.out.2.2] at e;injection e with e1 e2 e3;subst e1;have CL:=hIz (show ∀V,Below Wq.heap.size Wq V→V.cell? ⟨tb,0,none⟩=some (.slice (some ⟨ta,0,none⟩) ln vc)∧∀f u,L[f]?=some u→V.cell? ⟨ta,f*3,none⟩=some (.int .i64 (u.1:Int))∧V.cell? ⟨ta,f*3+1,none⟩=some (.int .i64 (u.2.1:Int))∧V.cell? ⟨ta,f*3+2,none⟩=some (.int .i64 (u.2.2:Int)) from fun V hb=>by
           have hv:=HQ.out.1.below hb;refine⟨hv.l.b.cell 0,fun f u hu=>?_⟩;have hown:=hv.l.own;rw[HQ.out.2.2] at hown;exact MC hown hu)
          have HY:=hIz hy;have HB2:=hIz hb2.out;obtain⟨c5,-⟩:=CL.out wr hb2.out;clear hy hb2 e2 e3;obtain⟨Wr,hWr⟩:∃Wr,Wr=wr:=⟨_,rfl⟩;subst hWr;go_wp2;clear c5;go_loopw [28] (fun i wr3=>∃f:Nat,f≤j∧i=.int .i64 (f:Int)∧Hid (Below Wq.heap.size Wq wr3)) (fun i _=>j-(intOf i).toNat)
          case atStart=>exact⟨0,Nat.zero_le _,rfl,HB2⟩
          case round =>
           obtain⟨f,hf,rfl,hb3⟩:=hrel;by_cases hfl:f<j
           ·have hfI:(f:Int)<(j:Int):=by omega
            have hfn:(f:Int)<(ln:Int):=by omega
            have hfw:IntKind.i64.wrap ((f:Int)+1)=(f:Int)+1:=IntWalk.i64_in _ (by omega);obtain⟨u,hu⟩:∃u,L[f]?=some u:=⟨_,gEz (by rw[HQ.out.2.2];omega)⟩;have bd:=hb3.out.trans ((Below.refl wr.heap.size wr).drew.mono hb3.out.size);obtain⟨c5,hall⟩:=CL.out wr.drew bd;obtain⟨a0,a1,a2⟩:=hall j y HY.out;obtain⟨f0,f1,f2⟩:=hall f u hu;have hEq:∀W,(binOp .eql 25 (.agg #[.int .i64 (y.1:Int),.int .i64 (y.2.1:Int),.int .i64 (y.2.2:Int)]) (.agg #[.int .i64 (u.1:Int),.int .i64 (u.2.1:Int),.int .i64 (u.2.2:Int)])).run Tryz.prog W=.ok (.bool false) W:=fun W=>by
             rw[MB];congr 2
             cases hb:((y.1:Int)==(u.1:Int)&&((y.2.1:Int)==(u.2.1:Int)&&(y.2.2:Int)==(u.2.2:Int))) with
             | false=>rfl
             | true =>
              simp only[Bool.and_eq_true,beq_iff_eq] at hb
              have e:y=u:=Prod.ext (by omega) (Prod.ext (by omega) (by omega));subst e;have h1:=gO.1 HY.out;have h2:=gO.1 hu;obtain⟨g1,g2⟩:=h1;obtain⟨g3,g4⟩:=h2;have:=(List.getElem_inj HQ.out.2.1.nd).1 (g2.trans g4.symm);omega
            have BD:=hIz bd;clear hall bd hu hb3;go_upto_region 42 with (fail);refine eW ?_;refine aN (fun V:World=>V.cell? ⟨tb,0,none⟩=some (.slice (some ⟨ta,0,none⟩) ln vc)∧V.cell? ⟨ta,j*3,none⟩=some (.int .i64 (y.1:Int))∧V.cell? ⟨ta,j*3+1,none⟩=some (.int .i64 (y.2.1:Int))∧V.cell? ⟨ta,j*3+2,none⟩=some (.int .i64 (y.2.2:Int))∧V.cell? ⟨ta,f*3,none⟩=some (.int .i64 (u.1:Int))∧V.cell? ⟨ta,f*3+1,none⟩=some (.int .i64 (u.2.1:Int))∧V.cell? ⟨ta,f*3+2,none⟩=some (.int .i64 (u.2.2:Int))) 9 [(0,true),(1,true),(2,true),(3,true),(4,true),(5,true),(6,true),(7,true),(8,true)] (by kernel_rfl) (by kernel_rfl) (fun _ _ _ _ _ h=>h.elim) ⟨c5,a0,a1,a2,f0,f1,f2⟩ ?_;clear c5 a0 a1 a2 f0 f1 f2;generalize wr.drew=V3 at BD ⊢
            iterate 9 refine aC rfl ?_
            refine aG ?_;dsimp only [fG]
            clear hEq;go_wp2;go_roundw
            case rel=>exact⟨f+1,by omega,by go_num,BD⟩
            case measure=>simp[intOf];omega
           ·obtain rfl:j=f:=by omega
            obtain⟨c5,hall⟩:=CL.out wr hb3.out;obtain⟨a0,a1,a2⟩:=hall j y HY.out;obtain⟨hy1,hy2⟩:=(HQ.out.2.1.mem y).1 (mG HY.out);have hv:=HQ.out.1.below hb3.out;have hha:=ML wr _ p t5 (PV.map (·.pr)) labels G T1 hv.d.s (by omega) hv.ok.ok.few.1 (y.1:Int) (y.2.1:Int) (y.2.2:Int);rw[zO hv.ok (fun _ _ _ _ h=>h) hy1 hy2] at hha;have BD:=hIz hb3.out;clear hall hv hy1 hy2 hb3;go_wp2_with fail;refine hha.mono ?_;clear hha c5 a0 a1 a2;rintro e W20 ⟨rfl,b20⟩;have B20:=hIz (tHn BD.out b20);clear b20;go_wp2;go_roundw
            case rel=>exact⟨j+1,by omega,by go_num,B20⟩
            case measure=>simp[intOf];omega
         ·obtain rfl:ln=j:=by omega
          have hv:=HQ.out.1.below hb2.out;have c5:wr.cell? ⟨tb,0,none⟩=some (.slice vA ln vc):=hv.l.b.cell 0;have haw:=AW.out wr hv.b;have HV:=hIz hv;clear hv hb2;go_wp2_with fail;refine haw.mono ?_;clear haw c5;rintro e W21 ⟨rfl,hbw,b21⟩;have hv21:=HV.out.below b21;obtain⟨c0,-,-,-,-,-⟩:=C.out W21 hv21.b;have HV21:=aI3 hv21 hbw c0;clear hv21 hbw b21 c0;go_wp2;have hzw:z<W0.heap.size:=by
           obtain⟨c0,-,-,-,-,-⟩:=C.out W0 bR;exact World.block_lt_of_cell? _ _ c0
          have hww:w.heap.size≤W0.heap.size:=by
           obtain⟨-,-,-,-,-,h⟩:=C.out W0 bR;exact h.size
          refine fO (lb:=z) (B:=W0.heap.size) (F:=fun _=>False) (fun w1=>Below w.heap.size w w1) ?_ hzw ?_ [W6.heap.size] W21 (by simp) (fun D hD'=>?_) (Nat.lt_of_lt_of_le hzw HV21.out.1.b.size) HV21.out.2.1
          ·rintro s X Y row h1 hgr hr;exact h1.grown hgr h1.size (fun r e=>by have:=(hr r e).1;omega)
          ·intro w1 h1;exact⟨.bool true,by simp[results,Tryz.f5,go_sem],rfl,h1⟩
          ·simp only[List.mem_singleton] at hD'
           subst hD';refine⟨HV21.out.1.D0.1,⟨HV21.out.1.D0.2.1,?_⟩,HV21.out.1.D1⟩;rintro (h1|⟨u,hu,ho⟩)
           ·exact h1
           ·rw[HV21.out.2.2] at hu;injection hu with hu;subst hu;cases ho
end Go.Proofs.YtnokckdkaifibaaGreatDoor
