/- delta: New; layer 23's laws: awake; DeltaOrder: plain law: facts by the names of their nodes; delta: Has. (Written by mkDlO.py.); DeltaOrder: named; layer 23's laws: many; DeltaOrder: its memory. -/
import Derived.Test.YtnokckdkaifibaaGreatDoorO16
import Derived.Test.YtnokckdkaifibaaGreatDoorO14
import Derived.Test.YtnokckdkaifibaaGreatDoorO15
import Derived.Test.YtnokckdkaifibaaGreatDoorO09
import Derived.Test.YtnokckdkaifibaaGreatDoorO13
set_option linter.unusedVariables false
set_option linter.unusedSimpArgs false
set_option maxHeartbeats 16000000
set_option maxRecDepth 100000
namespace Go.Proofs.YtnokckdkaifibaaGreatDoor
open Go.RowKit Go.Shelf
def MP(w:World)(nts:Int)(PV:List Pv)(labels:List Txt)(G:Gr)(e:Ending)(w':World):Prop:=
 (eV nts PV labels=2∧e=.returned (.tuple #[.pointer none,.int .i64 2])∧Below w.heap.size w w') ∨
 (eV nts PV labels=0∧∃p K V T,e=.returned (.tuple #[.pointer (some ⟨p,0,none⟩),.int .i64 0])∧DcV w' K V p nts.toNat (PV.map (·.pr)) labels G T∧(∀k,K k∨V k→w.heap.size≤k)∧Below w.heap.size w w'∧oB nts.toNat (PV.map (·.pr)) labels G T)
def LbB(PV:List Pv)(labels:List Txt)(G:Gr)(B B':aX)(q:Nat):Prop:=(∀k,WdO (B' k))∧∀k i j,aY (B' k) i j=true↔aY (B k) i j=true∨∃m x s,PV[m]?=some x∧m<q∧x.pr.body=[s]∧x.pr.head.toNat=k∧ElG G labels s.at_ i j
section
variable {PV:List Pv} {labels:List Txt} {G:Gr} {B B':aX} {q:Nat}
theorem LbB.start(h:∀k,WdO (B k)):LbB PV labels G B B 0:=⟨h,fun k i j=>by
 constructor
 ·exact .inl
 ·rintro (h|⟨m,x,s,_,h,_⟩)
  ·exact h
  ·omega⟩
theorem LbB.skip(h:LbB PV labels G B B' q){x:Pv}(hx:PV[q]?=some x)(hb:x.pr.body.length≠1):LbB PV labels G B B' (q+1):=⟨h.1,fun k i j=>by
 rw[h.2];constructor
 ·rintro (h1|⟨m,y,s,h3,h4,h5⟩)
  ·exact .inl h1
  ·exact .inr ⟨m,y,s,h3,by omega,h5⟩
 ·rintro (h1|⟨m,y,s,h3,h4,h5,h6⟩)
  ·exact .inl h1
  ·refine .inr ⟨m,y,s,h3,?_,h5,h6⟩;by_cases e:m=q
   ·subst e;rw[hx] at h3;obtain rfl:=Option.some.inj h3;exact(hb (by rw[h5];rfl)).elim
   ·omega⟩
theorem LbB.step(h:LbB PV labels G B B' q){x:Pv}(hx:PV[q]?=some x){s:Sy}(hb:x.pr.body=[s]){lb:Txt}(hl:labels[s.at_.toNat]?=some lb){a:Nat}(ha:x.pr.head.toNat=a){b:Option (List Nat)}(hw:WdO b)(hm:LY G lb b)(hN:G.N.length≤32):LbB PV labels G B (upM B' a (joinQ (B' a) b)) (q+1):=by
 have hbit:∀i j,aY b i j=true↔ElG G labels s.at_ i j:=fun i j=>by
  constructor
  ·intro hb2;obtain⟨y,hy,e⟩:=(hm i j (cM hw hb2) (fP hw hb2)).1 hb2;exact⟨lb,hl,y,hy,e⟩
  ·intro he;have hlt:=he.lt;obtain⟨lb',hl',y,hy,e⟩:=he;rw[hl] at hl';obtain rfl:=Option.some.inj hl';exact(hm i j (by omega) (by omega)).2 ⟨y,hy,e⟩
 refine⟨fun k=>?_,fun k i j=>?_⟩
 ·by_cases e:k=a
  ·subst e;rw[cP];exact(h.1 k).joinQ hw
  ·rw[dD B' _ e];exact h.1 k
 ·by_cases e:k=a
  ·subst e;rw[cP,(kQ.joinQ (h.1 k) hw).2,h.2,hbit];constructor
   ·rintro ((h1|⟨m,y,t,h3,h4,h5⟩)|h1)
    ·exact .inl h1
    ·exact .inr ⟨m,y,t,h3,by omega,h5⟩
    ·exact .inr ⟨q,x,s,hx,by omega,hb,ha,h1⟩
   ·rintro (h1|⟨m,y,t,h3,h4,h5,h6,h7⟩)
    ·exact .inl (.inl h1)
    ·by_cases e:m=q
     ·subst e;rw[hx] at h3;obtain rfl:=Option.some.inj h3;rw[hb] at h5;injection h5 with e5;subst e5;exact .inr h7
     ·exact .inl (.inr ⟨m,y,t,h3,by omega,h5,h6,h7⟩)
  ·rw[dD B' _ e,h.2];constructor
   ·rintro (h1|⟨m,y,t,h3,h4,h5⟩)
    ·exact .inl h1
    ·exact .inr ⟨m,y,t,h3,by omega,h5⟩
   ·rintro (h1|⟨m,y,t,h3,h4,h5,h6,h7⟩)
    ·exact .inl h1
    ·refine .inr ⟨m,y,t,h3,?_,h5,h6,h7⟩;by_cases e2:m=q
     ·subst e2;rw[hx] at h3;obtain rfl:=Option.some.inj h3;exact(e (h6.symm.trans ha)).elim
     ·omega
theorem IL{nts n:Nat}{B1 B2:aX}(hg:∀x∈PV,xS nts x.pr)(hn:NdB PV 0 n noM B1 PV.length 0)(hb:LbB PV labels G B1 B2 PV.length):DlI (PV.map (·.pr)) (ElG G labels) n nts noM B2:=by
 have hgP:∀p∈PV.map (·.pr),xS nts p:=fun p hp=>by
  obtain⟨x,hx,rfl⟩:=List.mem_map.1 hp;exact hg x hx
 refine DlI.start (El0:=fun _ _ _=>False) (n0:=0) hgP (fun k r e=>by cases e) hb.1 (fun k hk i j=>⟨fun h=>(by cases h),fun d=>?_⟩) (fun _ _ _ h=>h.elim) (Nat.zero_le _) (fun p hp hbd i _ h2=>?_) (fun p hp t hbd i j h1 _=>?_) (fun k hk i j hbt=>?_)
 ·have:∀a i j,gR (PV.map (·.pr)) (fun _ _ _=>False) 0 a i j→False:=fun a i j d=>by
   have:=d.lt (fun _ _ _ h=>h.elim);omega
  exact(this _ _ _ d).elim
 ·obtain⟨y,hy,rfl⟩:=List.mem_map.1 hp;obtain⟨m,hm⟩:=List.getElem?_of_mem hy;exact(hb.2 _ _ _).2 (.inl ((hn.2 _ _ _).2 (.inr ⟨rfl,Nat.zero_le _,m,y,hm,hbd,rfl,.inl ⟨(gO.1 hm).1,h2⟩⟩)))
 ·obtain⟨y,hy,rfl⟩:=List.mem_map.1 hp;obtain⟨m,hm⟩:=List.getElem?_of_mem hy;exact(hb.2 _ _ _).2 (.inr ⟨m,y,t,hm,(gO.1 hm).1,hbd,rfl,h1⟩)
 ·have hkey:∀y:Pv,y∈PV→y.pr.head.toNat=k→(⟨(k:Int),y.pr.body⟩:Pr)∈PV.map (·.pr):=fun y hy hh=>by
   have hpr:y.pr∈PV.map (·.pr):=List.mem_map.2 ⟨y,hy,rfl⟩;have h0:=(hg _ hy).h0;have e1:y.pr.head=(k:Int):=by omega
   rw[← e1];exact hpr
  rcases (hb.2 k i j).1 hbt with h1|⟨m,y,t,hm,-,hbd,hh,hl⟩
  ·rcases (hn.2 k i j).1 h1 with h1|⟨rfl,h1,m,y,hm,hbd,hh,h2⟩
   ·cases h1
   ·have hpr:=hkey y (mG hm) hh;have hlt:i<n:=h2.elim (fun h=>h.2) (fun h=>by omega);rw[hbd] at hpr;exact .eps hpr hlt
  ·have hpr:=hkey y (mG hm) hh;rw[hbd] at hpr;exact .one hpr hl
end
def LbI(w:World)(F:Nat→Prop)(vn:Value)(nts:Nat)(PV:List Pv)(labels:List Txt)(G:Gr)(B:aX)(q:Nat)(W:World):Prop:=∃B',qC w F vn 32 nts B' W∧LbB PV labels G B B' q
theorem DcI.made{V1 V2 V3 V4 V5 V6:World}{nts pc cl pg:Nat}{L:List Pv}{A LA:Option Addr}{labels:List Txt}{mv:Value}{Fg FT:Nat→Prop}{G:Gr}
  (hP:PvR V2 A L) (hA:∀b o s,A=some ⟨b,o,s⟩→V1.heap.size≤b∧b<V2.heap.size) (hv:∀v∈L,∀b o s,v.adr=some ⟨b,o,s⟩→V1.heap.size≤b∧b<V2.heap.size) (b2:Below V1.heap.size V1 V2)
  (hl:V3.ownsRow V2.heap.size 9 1 (.slice LA labels.length cl) labels.length (aG labels)) (b3:Below V2.heap.size V2 V3) (hg:GrS V4 Fg pg G) (hF:∀k,Fg k→V3.heap.size≤k) (b4:Below V3.heap.size V3 V4) (hm:MtS V5 FT mv 32 nts noM) (hFT:∀k,FT k→V4.heap.size≤k) (b5:Below V4.heap.size V4 V5)
  (hk:Blk V6 V5.heap.size 93 #[.int .i64 (nts:Int),.slice A L.length pc,.slice LA labels.length cl,.pointer (some ⟨pg,0,none⟩),mv]) (b6:Below V5.heap.size V5 V6) :
  DcI V6 (fun k=>(V1.heap.size≤k∧k<V3.heap.size)∨k=V5.heap.size) Fg FT V5.heap.size nts pc cl pg A LA L labels mv G noM:=by
 have z2:=b2.size;have z3:=b3.size;have z4:=b4.size;have z5:=b5.size;have b26:Below V2.heap.size V2 V6:=b3.trans ((b4.trans ((b5.trans (b6.mono z5)).mono z4)).mono z3);have b36:Below V3.heap.size V3 V6:=b4.trans ((b5.trans (b6.mono z5)).mono z4);have b46:Below V4.heap.size V4 V6:=b5.trans (b6.mono z5);have hTl:=hm.lt;have hGl:=hg.flt;have hkl:=hk.lt;refine⟨⟨hk,hP.below b26,(bO.of_own hl).below3 b36,.inr rfl,fun b o x e=>.inl ⟨(hA b o x e).1,by have:=(hA b o x e).2;omega⟩,fun v hv' b o x e=>.inl ⟨(hv v hv' b o x e).1,by have:=(hv v hv' b o x e).2;omega⟩,fun b o x e=>.inl (by
  subst e;have:=hl.lt b rfl;omega)⟩,hg.below b46,hm.below b6,fun k hk hf=>?_,fun k hk hf=>?_,fun k hf ht=>?_,fun k hk=>?_⟩
 ·have h1:=hF k hf;have h2:=hGl k hf;rcases hk with hk|hk
  ·omega
  ·omega
 ·have h1:=hFT k hf;have h2:=hTl k hf;rcases hk with hk|hk
  ·omega
  ·omega
 ·have h1:=hGl k hf;have h2:=hFT k ht;omega
 ·rcases hk with hk|hk
  ·omega
  ·omega
theorem zQ(w:World)(nts:Int)(PA:Option Addr)(pc:Nat)(PV:List Pv)(hP:PvR w PA PV)(LA:Option Addr)(cl:Nat)(labels:List Txt)(hlab:bO w LA (aG labels))
  (Fg0:Nat→Prop) (pg0:Nat) (G:Gr) (hG:GrS w Fg0 pg0 G) (ok:GOk G) (hT:gI w) :
  Calls Tryz.prog 7 #[.agg #[.int .i64 nts,.slice PA PV.length pc],.slice LA labels.length cl,.pointer (some ⟨pg0,0,none⟩)] w (MP w nts PV labels G):=by
 have b1:Below w.heap.size w (w.alloc (.cells #[.int .i64 nts,.slice PA PV.length pc] 32)):=bR.alloc (Nat.le_refl _) _;have k1:=Blk.new w 32 #[.int .i64 nts,.slice PA PV.length pc];have hT1:=hT.upd (upF b1) hT.lt id;have hnew:=MJ _ nts PA pc PV (hP.below b1) LA cl labels (hlab.below3 b1) Fg0 pg0 G (hG.below b1) ok hT1 hT1.lt;have H:=aI7 b1 k1 hP hlab hG ok hT;clear b1 k1 hT1 hP hlab hG ok hT;obtain⟨m,hm⟩:∃m,PV.length=m:=⟨_,rfl⟩;obtain⟨l,hl⟩:∃l,labels.length=l:=⟨_,rfl⟩;rw[hm] at H hnew ⊢;rw[hl] at hnew ⊢;have HM:=aI2 hm hl;clear hm hl;obtain⟨z,hz⟩:∃z,w.heap.size=z:=⟨_,rfl⟩;obtain⟨W0,hW0⟩:∃W0,w.alloc (.cells #[.int .i64 nts,.slice PA m pc] 32)=W0:=⟨_,rfl⟩;rw[hW0] at H hnew;rw[hz] at H;have HZ:=hIz hz;have q0:W0.cell? ⟨z,0,none⟩=some (.int .i64 nts):=H.out.2.1.cell 0;have q1:W0.cell? ⟨z,1,none⟩=some (.slice PA m pc):=H.out.2.1.cell 1;go_enter Tryz.func7,Tryz.ntmps7;go_upto_region 1 with (fail);(try rw[hW0])
 (try rw[hz])
 clear hW0 hz;go_wp2_with fail;refine hnew.mono ?_;clear hnew q0 q1;rintro e V1 (⟨h2,rfl,bq⟩|⟨h0,pz,Fz,Bz,rfl,-,-,bq,-,-⟩)
 ·have FIN:=hIz (show MP w nts PV labels G (.returned (.tuple #[.pointer none,.int .i64 2])) V1 from .inl ⟨h2,rfl,by have h1:=H.out.1;rw[← HZ.out] at h1;exact tHn h1 bq⟩);clear h2 bq;go_wp2;refine bodyPost_ret (v:=.tuple #[.pointer none,.int .i64 2]) (by simp[results,Tryz.f7,go_sem]) rfl FIN.out
 ·have hc:=mY nts PV labels;rw[h0] at hc;rcases hc with hc|⟨-,hl16,hn1,hn5,hp8,hup,hsh⟩
  ·cases hc
  obtain⟨nt,rfl⟩:∃nt:Nat,nts=(nt:Int):=⟨nts.toNat,by omega⟩;have hok:∀v∈PV,QD nt labels.length v:=fun v hv=>GP (hsh v hv)
  have h01:=H.out.1;have bw1:Below z w V1:=h01.trans (bq.mono (by have:=h01.size;have:=HZ.out;omega));have k1:=H.out.2.1.upd (upF bq) id;have C:=hIz (show ∀V,Below V1.heap.size V1 V→V.cell? ⟨z,0,none⟩=some (.int .i64 (nt:Int))∧V.cell? ⟨z,1,none⟩=some (.slice PA m pc) from fun V hb=>by
   have k2:=k1.upd (upF hb) id;exact⟨k2.cell 0,k2.cell 1⟩)
  have bd:Below V1.heap.size V1 V1.drew:=bR.drew;have hP1:=H.out.2.2.1.below (by rw[HZ.out];exact bw1.trans (bd.mono (by have:=bw1.size;have:=HZ.out;omega)));have hown:=QK V1.drew (nt:Int) PA pc PV hP1 (by omega) (fun v hv=>by have:=(hok v hv).few;omega);rw[HM.out.1] at hown;have hl1:bO V1 LA (aG labels):=H.out.2.2.2.1.below3 (by rw[HZ.out];exact bw1);have hg1:GrS V1 Fg0 pg0 G:=H.out.2.2.2.2.1.below (by rw[HZ.out];exact bw1);have HA:=aI9 h0 hok bw1 hl1 hg1 hl16 hp8 hn1 hn5;clear h0 hup hsh hok h01 bw1 k1 hP1 hl1 hg1 bq bd;have hS:=C.out V1.drew bR.drew;go_upto_region 4 with (fail);refine aN (fun V:World=>V.cell? ⟨z,0,none⟩=some (.int .i64 (nt:Int))∧V.cell? ⟨z,1,none⟩=some (.slice PA m pc)) 12 [(0,true),(2,true),(4,true),(6,true),(7,true),(1,false),(3,false),(5,false),(8,false),(9,true),(10,false),(11,true)] hS ?_;clear hS;have B1:=hIz (show Below V1.heap.size V1 V1.drew from bR.drew);have hsz1:V1.drew.heap.size=V1.heap.size:=rfl
  iterate 5 refine aD rfl ?_
  refine aK rfl rfl (fun K hK=>?_);go_simp;refine hown.mono ?_;clear hown;rintro e V2 ⟨L,oA,oc,rfl,hLp,hPv,hA,hLa,b2⟩;rw[hsz1] at hA hLa;have bw2:=B1.out.trans (b2.mono (Nat.le_of_eq hsz1.symm));have hcl:=eP V2 LA cl labels (HA.out.2.2.2.1.below3 bw2) (by have:=HA.out.2.2.2.2.2.1;omega);rw[HM.out.2] at hcl;obtain⟨lL,hlL⟩:∃l,L.length=l:=⟨_,rfl⟩;rw[hlL];have H2:=aI6 hLp hPv hA hLa bw2 hlL;have hS2:=C.out V2 bw2;clear hLp hPv hA hLa b2 bw2 hlL hsz1;refine hK _ _ (fun _=>hS2) ?_;clear hK K hS2;(try simp only[Act.put,gA,gS,gZ,sA,sZ,sS])
  refine aK rfl rfl (fun K hK=>?_);go_simp;refine hcl.mono ?_;clear hcl;rintro e V3 ⟨v3,rfl,own3,b3⟩;rw[HM.out.2] at own3;obtain⟨A3,c3,rfl,-,-⟩:=aH own3;have bw3:=tHn H2.out.2.2.2.2.1 b3;have hcp:=FW V3 Fg0 pg0 G (HA.out.2.2.2.2.1.below bw3) H.out.2.2.2.2.2.1;have H3:=aI3 own3 b3 bw3;have hS3:=C.out V3 bw3;clear own3 b3 bw3;refine hK _ _ (fun _=>hS3) ?_;clear hK K hS3;(try simp only[Act.put,gA,gS,gZ,sA,sZ,sS])
  refine aK rfl rfl (fun K hK=>?_);go_simp;refine hcp.mono ?_;clear hcp;rintro e V4 ⟨pg,rfl,⟨Fg,hgS,hgF⟩,b4⟩;have bw4:=tHn H3.out.2.2 b4;have hno:=mJ V4 nt (by have:=HA.out.2.2.2.2.2.2.2.2;omega);have H4:=aI4 hgS hgF b4 bw4;have hS4:=C.out V4 bw4;clear hgS hgF b4 bw4;refine hK _ _ (fun _=>hS4) ?_;clear hK K hS4;(try simp only[Act.put,gA,gS,gZ,sA,sZ,sS])
  refine aK rfl rfl (fun K hK=>?_);go_simp;refine hno.mono ?_;clear hno;rintro e V5 ⟨mv,FT,rfl,hmt,hFT,b5⟩;obtain⟨mA,mc,rfl⟩:=hmt.form;have bw5:=tHn H4.out.2.2.2 b5;have hS5:=C.out V5 bw5;have H5:=aI4 hmt hFT b5 bw5;clear hmt hFT b5 bw5;refine hK _ _ (fun _=>hS5) ?_;clear hK K hS5;(try simp only[Act.put,gA,gS,gZ,sA,sZ,sS])
  refine aD rfl ?_;refine aK rfl rfl (fun K hK=>?_);go_simp;have b6:Below V5.heap.size V5 (V5.alloc (.cells #[.int .i64 (nt:Int),.slice oA lL oc,.slice A3 l c3,.pointer (some ⟨pg,0,none⟩),.slice mA nt mc] 93)):=bR.alloc (Nat.le_refl _) _;have k6:=Blk.new V5 93 #[.int .i64 (nt:Int),.slice oA lL oc,.slice A3 l c3,.pointer (some ⟨pg,0,none⟩),.slice mA nt mc];have hd6:DcI (V5.alloc (.cells #[.int .i64 (nt:Int),.slice oA lL oc,.slice A3 l c3,.pointer (some ⟨pg,0,none⟩),.slice mA nt mc] 93)) (fun k=>(V1.heap.size≤k∧k<V3.heap.size)∨k=V5.heap.size) Fg FT V5.heap.size nt oc c3 pg oA A3 L labels (.slice mA nt mc) G noM:=
   DcI.made (V1:=V1) (V2:=V2) (V3:=V3) (V4:=V4) (V5:=V5) H2.out.2.1 H2.out.2.2.1 H2.out.2.2.2.1 H2.out.2.2.2.2.1 (by rw[HM.out.2];exact H3.out.1) H3.out.2.1 H4.out.1 H4.out.2.1 H4.out.2.2.1 H5.out.1 H5.out.2.1 H5.out.2.2.1 (by rw[HM.out.2,H2.out.2.2.2.2.2];exact k6) b6
  have bw6:=tHn H5.out.2.2.2 b6;have hS6:=C.out _ bw6;have hlo:∀k,(((V1.heap.size≤k∧k<V3.heap.size)∨k=V5.heap.size)∨Fg k∨FT k)→V1.heap.size≤k:=fun k hk=>by
   have z2:=H2.out.2.2.2.2.1.size;have z3:=H3.out.2.1.size;have z4:=H4.out.2.2.1.size;have z5:=H5.out.2.2.1.size;rcases hk with (hk|hk)|hk|hk
   ·exact hk.1
   ·omega
   ·have:=H4.out.2.1 k hk;omega
   ·have:=H5.out.2.1 k hk;omega
  have H6:=aI3 hd6 bw6 hlo;clear k6 b6 hd6 bw6 hlo;refine hK _ _ (fun _=>hS6) ?_;clear hK K hS6;(try simp only[Act.put,gA,gS,gZ,sA,sZ,sS])
  refine aD rfl ?_;refine aJ ?_;generalize hp:V5.heap.size=p at H6 ⊢;generalize V5.alloc (.cells #[.int .i64 (nt:Int),.slice oA lL oc,.slice A3 l c3,.pointer (some ⟨pg,0,none⟩),.slice mA nt mc] 93)=V6 at H6 ⊢;clear hp;obtain⟨K,hKK⟩:∃K,(fun k=>(V1.heap.size≤k∧k<V3.heap.size)∨k=p)=K:=⟨_,rfl⟩;have hlo:∀k,K k∨Fg k∨FT k→V1.heap.size≤k:=fun k hk=>H6.out.2.2 k (by rw[← hKK] at hk;exact hk)
  have hd6:=H6.out.1;rw[hKK] at hd6;have bw6:=H6.out.2.1;obtain⟨c0,c1⟩:=C.out V6 bw6;have hno:=mJ V6 nt (by have:=HA.out.2.2.2.2.2.2.2.2;omega);have H7:=aI3 hd6 bw6 hlo;have HLp:=aI2 H2.out.1 H2.out.2.2.2.2.2;clear hKK hlo hd6 bw6 H6 H5 H4 H3 H2 B1;-- what is fresh
  go_wp2_with fail;refine hno.mono ?_;clear hno c0 c1;rintro e V7 ⟨vn,F7,rfl,m7,hF7,b7⟩;obtain⟨fA,fc,rfl⟩:=m7.form;have hd7:=H7.out.1.below b7;have bw7:=tHn H7.out.2.1 b7;have hlen:=vO V7 Fg0 pg0 G (HA.out.2.2.2.2.1.below bw7);obtain⟨n,hn⟩:∃n,G.N.length=n:=⟨_,rfl⟩;rw[hn] at hlen;have HN:=hIz hn;have H8:=aI5 hd7 m7 hF7 bw7 b7.size;clear hd7 m7 hF7 bw7 b7 hn;go_wp2_with fail;refine hlen.mono ?_;clear hlen;rintro e V8 ⟨rfl,b8⟩;have hd8:=H8.out.1.below b8;have m8:=H8.out.2.1.below b8;have hn32:n≤32:=by have:=H.out.2.2.2.2.2.1.few.1;rw[HN.out] at this;exact this
  have hLpv:∀x∈L,QD nt labels.length x:=fun x hx=>by
   have:x.pr∈PV.map (·.pr):=by rw[← HLp.out.1];exact List.mem_map.2 ⟨x,hx,rfl⟩
   obtain⟨y,hy,e⟩:=List.mem_map.1 this;have hk:=HA.out.2.1 y hy;exact⟨e ▸ hk.g,e ▸ hk.few,e ▸ hk.one⟩
  have hLl:L.length≤8192:=by
   have:=congrArg List.length HLp.out.1;rw[List.length_map,List.length_map,HM.out.1] at this;have:=HA.out.2.2.2.2.2.2.1;rw[HM.out.1] at this;omega
  have hnod:=rE V8 K F7 p nt oc c3 pg oA A3 L labels (.slice mA nt mc) hd8.cp (.slice fA nt fc) noM m8 (fun k hk hK=>by have h1:=H8.out.2.2.1 k hk;have h2:=H7.out.1.klt k hK;omega) (fun x hx=>(hLpv x hx).g) (fun k r e=>by cases e) 0 n hn32 (Nat.zero_le _) (by omega);have H9:=aI6 hd8 m8 (tHn H8.out.2.2.2.1 b8) hLpv hLl (Nat.le_trans H8.out.2.2.2.2 b8.size);rw[Int.ofNat_zero] at hnod;clear hd8 m8 b8 hLpv hLl;go_wp2_with fail;refine hnod.mono ?_;clear hnod;rintro e V9 ⟨rfl,B9,⟨F9,m9,hu9,hF9⟩,hB9⟩;have hd9:DcI V9 K Fg FT p nt oc c3 pg oA A3 L labels (.slice mA nt mc) G noM:=H9.out.1.upd hu9 (fun k hk hf=>by
   have h1:=H8.out.2.2.1 k hf;have h2:=H7.out.1.klt k;have h3:=H7.out.1.gr.flt k;have h4:=H7.out.1.mt.lt k;rcases hk with hk|hk|hk
   ·have:=h2 hk;omega
   ·have:=h3 hk;omega
   ·have:=h4 hk;omega)
  have hF9':∀k,F9 k→V6.heap.size≤k:=fun k hk=>(hF9 k hk).elim (H8.out.2.2.1 k) (fun h=>by have:=H9.out.2.2.2.2.2;omega)
  have hK6:∀k,K k∨Fg k∨FT k→k<V6.heap.size:=fun k hk=>by
   rcases hk with hk|hk|hk
   ·exact H7.out.1.klt k hk
   ·exact H7.out.1.gr.flt k hk
   ·exact H7.out.1.mt.lt k hk
  have bw9:Below V1.heap.size V1 V9:=H9.out.2.2.1.trans (hu9.below (fun k _ hk=>by have h1:=H8.out.2.2.1 k hk;have h2:=H7.out.2.1.size;omega) H9.out.2.2.1.size);have q1:V9.cell? ⟨p,1,none⟩=some (.slice oA lL oc):=by rw[← HLp.out.2];exact hd9.cp.blk.cell 1
  have HI0:=hIz (show LbI V9 F9 (.slice fA nt fc) nt L labels G B9 0 V9 from⟨B9,⟨F9,m9,Upd.refl _ _,fun _ h=>.inl h⟩,LbB.start hB9.1⟩);have H10:=aI6 hd9 hF9' hK6 bw9 hB9 (Nat.le_trans H9.out.2.2.2.2.2 hu9.size);have hll:lL≤8192:=by rw[← HLp.out.2];exact H9.out.2.2.2.2.1
  clear hd9 hF9' hK6 bw9 hB9 m9 hu9 hF9;go_wp2;clear q1;go_loopw [57] (fun i wr=>∃q:Nat,q≤lL∧i=.int .i64 (q:Int)∧Hid (LbI V9 F9 (.slice fA nt fc) nt L labels G B9 q wr)) (fun i _=>lL-(intOf i).toNat)
  case atStart=>exact⟨0,Nat.zero_le _,rfl,HI0⟩
  case round =>
   obtain⟨q,hq,rfl,hi⟩:=hrel;clear HI0;obtain⟨B1',⟨F1,hm1,hu1,hF1⟩,hB1⟩:=hi.out;have hc1:DcI wr K Fg FT p nt oc c3 pg oA A3 L labels (.slice mA nt mc) G noM:=H10.out.1.upd hu1 (fun k hk hf=>by have h1:=H10.out.2.1 k hf;have h2:=H10.out.2.2.1 k hk;omega);by_cases hlt:q<lL
   ·have hltI:(q:Int)<(lL:Int):=by omega
    have hkw:IntKind.i64.wrap ((q:Int)+1)=(q:Int)+1:=IntWalk.i64_in _ (by omega);obtain⟨x,hx⟩:∃x,L[q]?=some x:=⟨_,gEz (by rw[HLp.out.2];exact hlt)⟩;have hxm:=mG hx;obtain⟨pb,po,rfl,c0,c1⟩:=hc1.cp.pv.1.pv hx;have hgx:=H9.out.2.2.2.1 x hxm;obtain⟨a,ha⟩:∃a:Nat,x.pr.head=(a:Int):=⟨x.pr.head.toNat,(Int.toNat_of_nonneg hgx.g.h0).symm⟩;have han:a<nt:=by have:=hgx.g.h1;omega
    have hta:x.pr.head.toNat=a:=by rw[ha];exact Int.toNat_natCast a
    rw[ha] at c0;have b1:Below wr.heap.size wr (wr.alloc (.cells #[.int .i64 (a:Int),.slice x.adr x.pr.body.length x.cap] 76)):=bR.alloc (Nat.le_refl _) _;have kb:=Blk.new wr 76 #[.int .i64 (a:Int),.slice x.adr x.pr.body.length x.cap];by_cases h2:x.pr.body.length=1
    ·obtain⟨s,hst⟩:∃s,x.pr.body=[s]:=by
      match hbody:x.pr.body,h2 with
      | [s],_=>exact⟨s,rfl⟩
     obtain⟨s0,s1⟩:=hgx.one s hst;have hrow:=hc1.cp.pv.2 x hxm;rw[hst] at hrow;obtain⟨la,li0⟩:=s;dsimp only at s0 s1
     obtain⟨li,rfl⟩:∃l':Nat,li0=(l':Int):=⟨li0.toNat,(Int.toNat_of_nonneg s0).symm⟩;obtain⟨lb,hlb⟩:∃y,labels[li]?=some y:=⟨_,gEz (by omega)⟩;obtain⟨lg,lo,rfl,cy⟩:=hc1.cp.lab.txt hlb;obtain⟨gb,gof,hadr,-⟩:=hrow 0 (.bool la) rfl;obtain⟨gb',gof',e,d1⟩:=hrow 1 (.int .i64 (li:Int)) rfl;rw[hadr] at e;injection e with e;injection e with e5 e6;subst e5;subst e6;rw[hadr,h2] at c1 b1 kb;obtain⟨xc,hxc⟩:∃xc,x.cap=xc:=⟨_,rfl⟩;rw[hxc] at c1 b1 kb;have hlI:(li:Int)<(l:Int):=by have:=HM.out.2;omega
     have bd:=b1.drew;have q3:(wr.alloc (.cells #[.int .i64 (a:Int),.slice (some ⟨gb,gof,none⟩) 1 xc] 76)).drew.cell? ⟨p,3,none⟩=some (.pointer (some ⟨pg,0,none⟩)):=(hc1.below bd).cp.blk.cell 3;have q2:(wr.alloc (.cells #[.int .i64 (a:Int),.slice (some ⟨gb,gof,none⟩) 1 xc] 76)).drew.cell? ⟨p,2,none⟩=some (.slice (some ⟨lg,lo,none⟩) l c3):=by have:=(hc1.below bd).cp.blk.cell 2;rw[HM.out.2] at this;exact this
     have z1:(wr.alloc (.cells #[.int .i64 (a:Int),.slice (some ⟨gb,gof,none⟩) 1 xc] 76)).drew.cell? ⟨wr.heap.size,1,none⟩=some (.slice (some ⟨gb,gof,none⟩) 1 xc):=kb.cell 1;have zc:(wr.alloc (.cells #[.int .i64 (a:Int),.slice (some ⟨gb,gof,none⟩) 1 xc] 76)).cell? ⟨wr.heap.size,1,none⟩=some (.slice (some ⟨gb,gof,none⟩) 1 xc):=kb.cell 1;have d1':=aS bd d1;have cy':=aS bd cy;have hmat:=pM _ Fg pg G (hc1.below bd).gr H.out.2.2.2.2.2.1 lb 32 H.out.2.2.2.2.2.1.few.1 (by decide) (by decide);have HX:=aI9 (hm1.below bd) (hu1.trans (upF bd) (fun _ h=>h.elim)) hF1 hB1 hx hst hlb hta (kb.upd (Upd.refl (fun _=>False) _).drew id);clear hx hxm hgx ha hta b1 kb h2 hm1 hu1 hF1 hB1 hi hst hrow s0 s1 hlb cy hadr hc1 d1 bd hxc;go_upto_region 12 with (fail);generalize hz15:wr.heap.size=z15 at HX z1 zc ⊢;generalize wr.alloc (.cells #[.int .i64 (a:Int),.slice (some ⟨gb,gof,none⟩) 1 xc] 76)=V10 at HX q3 q2 z1 zc d1' cy' hmat ⊢;clear c0 c1 hz15 zc;refine aP (fun V:World=>V.cell? ⟨p,3,none⟩=some (.pointer (some ⟨pg,0,none⟩))∧V.cell? ⟨p,2,none⟩=some (.slice (some ⟨lg,lo,none⟩) l c3)∧V.cell? ⟨z15,1,none⟩=some (.slice (some ⟨gb,gof,none⟩) 1 xc)∧V.cell? ⟨gb,gof+1,none⟩=some (.int .i64 (li:Int))∧V.cell? ⟨lg,lo+li,none⟩=some (.string lb)) 21 [(0,true),(1,true),(2,true),(3,true),(4,true),(5,true),(6,true),(7,true),(8,true),(9,true),(10,true),(11,true),(12,true),(13,true),(14,true),(15,false),(16,true),(17,true),(18,true),(19,true),(20,true)] (by kernel_rfl) (by kernel_rfl) (fun _ _ d _ _ h=>by cases d <;> exact h) ⟨q3,q2,z1,d1',cy'⟩ ?_
     have SR:=hIz (show ∀V,Below V10.drew.heap.size V10.drew V→V.cell? ⟨p,3,none⟩=some (.pointer (some ⟨pg,0,none⟩))∧V.cell? ⟨p,2,none⟩=some (.slice (some ⟨lg,lo,none⟩) l c3)∧V.cell? ⟨z15,1,none⟩=some (.slice (some ⟨gb,gof,none⟩) 1 xc)∧V.cell? ⟨gb,gof+1,none⟩=some (.int .i64 (li:Int))∧V.cell? ⟨lg,lo+li,none⟩=some (.string lb) from fun V hb=>⟨aS hb q3,aS hb q2,aS hb z1,aS hb d1',aS hb cy'⟩);clear q3 q2 z1 d1' cy';generalize V10.drew=V11 at HX SR hmat ⊢
     iterate 15 refine aD rfl ?_
     refine aK rfl rfl (fun K hK=>?_);go_simp;refine hmat.mono ?_;clear hmat;rintro e V12 ⟨qm,bm,rfl,⟨Fm,hqm,hFm⟩,b12,hMt⟩;have HS:=SR.out V12 b12;have H12:=aI4 hqm hFm b12 hMt;clear hqm hFm b12 hMt;refine hK _ _ (fun _=>HS) ?_;clear hK K HS;(try simp only[Act.put,gA,gS,gZ,sA,sZ,sS])
     iterate 5 refine aD rfl ?_
     refine aJ ?_;have m12:=HX.out.1.below H12.out.2.2.1;obtain⟨g9,c9,q9,Fq9,e,cg,hq9,hsub,hstep⟩:=m12.turn han;injection e with e _ e3;subst e;subst e3;have k12:=HX.out.2.2.2.2.2.2.2.2.upd (Upd.of_below H12.out.2.2.1 (fun _=>False)) id;have zz:V12.cell? ⟨z15,0,none⟩=some (.int .i64 (a:Int)):=k12.cell 0;have hanI:(a:Int)<(nt:Int):=by omega
     have hj:=jS V12 Fq9 Fm q9 qm 32 (B1' a) bm hq9 H12.out.1;have HS:=hIz hstep;clear m12 hq9 hsub hstep k12;go_wp2_with fail;refine hj.mono ?_;clear hj zz cg;rintro e V13 ⟨rfl,hto⟩;have FIN:=hIz (show LbI V9 F9 (.slice (some ⟨g9,0,none⟩) nt fc) nt L labels G B9 (q+1) V13 from
      ⟨_,qC.trans (HX.out.2.1.trans (Upd.of_below H12.out.2.2.1 (fun _=>False)) (fun _ h=>h.elim)) HX.out.2.2.1 (HS.out _ V13 hto),HX.out.2.2.2.1.step HX.out.2.2.2.2.1 HX.out.2.2.2.2.2.1 (by rw[Int.toNat_natCast];exact HX.out.2.2.2.2.2.2.1) HX.out.2.2.2.2.2.2.2.1 H12.out.1.wdO H12.out.2.2.2 H.out.2.2.2.2.2.1.few.1⟩)
     clear hto;go_wp2;go_roundw
     case rel=>exact⟨q+1,by omega,by go_num,FIN⟩
     case measure=>simp[intOf];omega
    ·have hc2:((x.pr.body.length:Int)==1)=false:=by simp;omega
     have FIN:=hIz (show LbI V9 F9 (.slice fA nt fc) nt L labels G B9 (q+1) (wr.alloc (.cells #[.int .i64 (a:Int),.slice x.adr x.pr.body.length x.cap] 76)) from
      ⟨B1',qC.trans hu1 hF1 ⟨F1,hm1.below b1,Upd.of_below b1 _,fun _ h=>.inl h⟩,hB1.skip hx h2⟩)
     have k0:(wr.alloc (.cells #[.int .i64 (a:Int),.slice x.adr x.pr.body.length x.cap] 76)).cell? ⟨wr.heap.size,1,none⟩=some (.slice x.adr x.pr.body.length x.cap):=kb.cell 1;clear hx hxm hgx ha han hta b1 kb h2 hm1 hu1 hF1 hB1 hi hc1;generalize x.pr.body.length=vl at *;go_wp2;go_roundw
     case rel=>exact⟨q+1,by omega,by go_num,FIN⟩
     case measure=>simp[intOf];omega
   ·obtain rfl:lL=q:=by omega
    have hqL:lL=L.length:=HLp.out.2.symm;have hB1':LbB L labels G B9 B1' L.length:=by rw[← hqL];exact hB1
    have hnB:NdB L 0 n noM B9 L.length 0:=H10.out.2.2.2.2.1;have z1:=H7.out.2.1.size;have z9:=H10.out.2.2.2.1.size;have hF1':∀k,F1 k→V6.heap.size≤k:=fun k hk=>(hF1 k hk).elim (H10.out.2.1 k) (fun h=>Nat.le_trans H10.out.2.2.2.2.2 h)
    have bwr:Below V1.heap.size V1 wr:=H10.out.2.2.2.1.trans (hu1.below (fun k _ hk=>by have h1:=H10.out.2.1 k hk;omega) z9);have bw0:Below w.heap.size w wr:=by
     have h1:=HA.out.2.2.1;rw[← HZ.out] at h1;exact tHn h1 bwr
    have zw1:w.heap.size≤V1.heap.size:=by have h1:=HA.out.2.2.1.size;exact h1
    have htw:=H.out.2.2.2.2.2.2.lt;have hgrow:=wD wr K FT F1 p nt oc c3 pg oA A3 L labels (.slice mA nt mc) (.slice fA nt fc) noM B1' (ElG G labels) n ⟨hc1.cp,hc1.mt,hm1,hc1.kt,fun k hk hf=>by have h1:=hF1' k hf;have h2:=H10.out.2.2.1 k (.inl hk);omega,fun k hk hf=>by have h1:=hF1' k hf;have h2:=H10.out.2.2.1 k (.inr (.inr hk));omega,fun x hx=>(H9.out.2.2.2.1 x hx).g,IL (fun x hx=>(H9.out.2.2.2.1 x hx).g) hnB hB1',fun k i j e=>by have h1:=e.lt;rw[HN.out] at h1;exact h1,hn32,
     H.out.2.2.2.2.2.2.upd (upF bw0) htw id,fun hf=>by have h1:=H7.out.2.2 _ (.inr (.inr hf));omega,fun hf=>by have h1:=hF1' _ hf;omega⟩ (by have:=HA.out.2.2.2.2.2.2.2.1;omega) (by have:=HA.out.2.2.2.2.2.2.2.2;omega) (by rw[← hqL];omega)
    have H13:=aI4 hc1 hF1' bw0 (Nat.le_trans zw1 bwr.size);have hz69:=H10.out.2.2.2.2.2;clear hc1 hm1 hu1 hF1 hB1 hi hB1' hnB hF1' bwr bw0 hqL;go_wp2_with fail;refine hgrow.mono ?_;clear hgrow;rintro e V14 ⟨v14,rfl,A14,c14,L14,T14,FT14,rfl,-,m14,hu14,hF14,-,-,-,hw14,hd14⟩;have FIN:=hIz (show MP w (nt:Int) PV labels G (.returned (.tuple #[.pointer (some ⟨p,0,none⟩),.int .i64 0])) V14 from by
     have hlow:∀k,K k∨Fg k∨FT k→w.heap.size≤k:=fun k hk=>Nat.le_trans zw1 (H7.out.2.2 k hk)
     have hR:∀k,K k∨Fg k→¬(FT k∨F1 k):=fun k hk hf=>by
      rcases hf with hf|hf
      ·exact hk.elim (fun hk=>H13.out.1.kt k hk hf) (fun hk=>H13.out.1.gt k hk hf)
      ·have h1:=H13.out.2.1 k hf;have h2:=H10.out.2.2.1 k (hk.elim .inl (fun h=>.inr (.inl h)));omega
     refine .inr ⟨HA.out.1,p,K,fun k=>Fg k∨FT14 k,T14,rfl,?_,fun k hk=>?_,H13.out.2.2.1.trans (hu14.below (fun k _ hk=>hk.elim (fun hk=>hlow k (.inr (.inr hk))) (fun hk=>by have:=H13.out.2.1 k hk;omega)) H13.out.2.2.1.size),?_⟩
     ·rw[Int.toNat_natCast];exact⟨Fg,FT14,oc,c3,pg,oA,A3,L,.slice mA nt mc,H13.out.1.facts m14 hu14 hR hF14,HLp.out.1,rfl⟩
     ·rcases hk with hk|hk|hk
      ·exact hlow k (.inl hk)
      ·exact hlow k (.inr (.inl hk))
      ·exact(hF14 k hk).elim (fun h=>hlow k (.inr (.inr h))) (fun h=>by have:=H13.out.2.2.2;omega)
     ·rw[Int.toNat_natCast];refine⟨H.out.2.2.2.2.2.1,fun p hp=>?_,fun p hp s hs=>?_,hw14,fun k hk i j=>?_,by have:=HA.out.2.2.2.2.2.2.2.1;omega,by have:=HA.out.2.2.2.2.2.2.2.2;omega,by rw[List.length_map];exact HA.out.2.2.2.2.2.2.1,HA.out.2.2.2.2.2.1⟩
      ·obtain⟨y,hy,rfl⟩:=List.mem_map.1 hp;exact(HA.out.2.1 y hy).g
      ·obtain⟨y,hy,rfl⟩:=List.mem_map.1 hp;exact(HA.out.2.1 y hy).one s hs
      ·rw[hd14 k hk i j,HLp.out.1,HN.out])
    clear m14 hu14 hF14 hw14 hd14;go_wp2;refine bodyPost_ret (v:=.tuple #[.pointer (some ⟨p,0,none⟩),.int .i64 0]) (by simp[results,Tryz.f7,go_sem]) rfl FIN.out
open Go.RowKit Go.Shelf
structure AwI(w W:World)(K V:Nat→Prop)(p:Nat)(G:Gr)(T:aX):Prop where
 d:DcV W K V p 3 cF [sAq,sB] G T
 ok:oB 3 cF [sAq,sB] G T
 lo:∀k,K k∨V k→w.heap.size≤k
 b:Below w.heap.size w W
 t:gI W
def AwQ(w W:World)(K V:Nat→Prop)(p:Nat)(T:aX)(r:Gr × Bool × Int)(e:Ending)(W':World):Prop:=∃A c L T' V',e=.returned (.tuple #[.slice A L.length c,.bool r.2.1,.int .i64 r.2.2])∧AwI w W' K V' p r.1 T'∧W'.ownsRow w.heap.size 25 3 (.slice A L.length c) L.length (cR L)∧Upd V W W'∧(∀k,V' k→V k∨W.heap.size≤k)∧(∀q,(Value.slice A L.length c).ownBlock=some q→¬V' q)∧iB 3 T T' L∧L.Pairwise ltF∧(r.2.1=false→L=[])
theorem zR{w W:World}{K V:Nat→Prop}{p:Nat}{G:Gr}{T:aX}(h:AwI w W K V p G T)(htab:1<w.heap.size)(x:Ed)(hx:oD x){r:Gr × Bool × Int}(hr:aM G x=r) :
  Calls Tryz.prog 10 #[.pointer (some ⟨p,0,none⟩),.string x.fr,.string x.lb,.string x.to] W (AwQ w W K V p T r):=by
 have hnt:¬V 1:=fun e=>by have:=h.lo _ (.inr e);omega
 refine(jU W K V p 3 cF [sAq,sB] G T h.d h.ok h.t hnt x hx).mono ?_;rintro e W' ⟨A,c,L,T',V',e1,e2,e3,e4,e5,e6,e7,e8,e9,e10⟩;rw[hr] at e1 e3 e4 e10;have hz:=h.b.size;refine⟨A,c,L,T',V',e1,⟨e3,e4,fun k hk=>?_,h.b.trans (e5.below (fun q _ hq=>h.lo q (.inr hq)) hz),h.t.upd e5 h.t.lt hnt⟩,bC e2 (fun q hq=>Nat.le_trans hz (e2.lt q hq).1),e5,e6,e7,e8,e9,e10⟩;rcases hk with hk|hk
 ·exact h.lo k (.inl hk)
 ·exact(e6 k hk).elim (fun h'=>h.lo k (.inr h')) (fun h'=>by omega)
theorem TI{T:aX}(h:oB 3 cF [sAq,sB] ⟨[],[]⟩ T):∀k,k<3→∀i j,aY (T k) i j=true→False:=fun k hk i j hb=>MN ((h.der k hk i j).1 hb)
theorem NV{T:aX}(h:oB 3 cF [sAq,sB] gr1 T):∀k,k<3→∀i j,aY (T k) i j=true↔(k:Int)=1∧i=0∧j=1:=fun k hk i j=>(h.der k hk i j).trans UX
theorem NW{T:aX}(h:oB 3 cF [sAq,sB] gr2 T):∀k,k<3→∀i j,aY (T k) i j=true↔fI (k:Int) i j:=fun k hk i j=>(h.der k hk i j).trans UR
theorem CB(w:World)(hT:gI w):Calls Tryz.prog 13 #[] w (Sam w (.bool true)):=by
 have hk1:oD ed1:=by unfold oD dA;decide
 have hk2:oD ed2:=by unfold oD dA;decide
 have hk3:oD ed3:=by unfold oD dA;decide
 have htab:=hT.lt;have HT:=hIz hT;have hsm:=BU w;clear hT;go_enter Tryz.func13,Tryz.ntmps13;go_wp2_with fail;refine hsm.mono ?_;clear hsm;rintro e W1 ⟨gp,gc,PV,rfl,hPV,hPr,b1⟩;have b2:Below W1.heap.size W1 (W1.alloc (.cells #[.string sAq,.string sB] 9)):=bR.alloc (Nat.le_refl _) _;have hlr:bO (W1.alloc (.cells #[.string sAq,.string sB] 9)) (some ⟨W1.heap.size,0,none⟩) (aG [sAq,sB]):=mZ (Blk.new W1 9 #[.string sAq,.string sB]);have hlen4:PV.length=4:=by have:=congrArg List.length hPr;simpa[cF] using this
 have hnw:=vJ (W1.alloc (.cells #[.string sAq,.string sB] 9));have H1:=aI5 (hPV.below b2) hlr hPr hlen4 (tHn b1 b2);clear hPV hlr hPr hlen4 b1 b2;unfold sAq sB at hnw;go_wp2_with fail;refine hnw.mono ?_;clear hnw;rintro e W3 ⟨pg,rfl,⟨F1,g1,n1⟩,b3⟩;have hT3:gI W3:=HT.out.upd (Upd.of_below (tHn H1.out.2.2.2.2 b3) (fun _=>False)) htab id;have hnew:=zQ W3 3 (some ⟨gp,0,none⟩) gc PV (H1.out.1.below b3) (some ⟨W1.heap.size,0,none⟩) 2 [sAq,sB] (H1.out.2.1.below3 b3) F1 pg ⟨[],[]⟩ g1 GOk.new hT3;rw[H1.out.2.2.2.1] at hnew;have H3:=aI2 hT3 (tHn H1.out.2.2.2.2 b3);clear g1 n1 b3 hT3;have hnq:=hIz (show ∀e w',MP W3 3 PV [sAq,sB] ⟨[],[]⟩ e w'→∃p K V T,e=.returned (.tuple #[.pointer (some ⟨p,0,none⟩),.int .i64 0])∧AwI w w' K V p ⟨[],[]⟩ T from by
  rintro e w' (⟨h,-,-⟩|⟨-,p,K,V,T,he,h1,h2,h3,h4⟩)
  ·rw[UU H1.out.2.2.1] at h;cases h
  ·rw[H1.out.2.2.1] at h1 h4;have hz:=H3.out.2.size;exact⟨p,K,V,T,he,h1,h4,fun k hk=>by have:=h2 k hk;omega,H3.out.2.trans (h3.mono hz),H3.out.1.upd (upF h3) H3.out.1.lt id⟩)
 unfold sAq sB at hnew;simp only[List.length_cons,List.length_nil,Nat.reduceAdd] at hnew
 go_wp2_with fail;refine hnew.mono ?_;clear hnew;rintro e W4 hq;obtain⟨p,K,V0,T0,rfl,h4⟩:=hnq.out e W4 hq;have hc:=zR h4 htab ed1 hk1 UO;have H4:=hIz h4;clear hq hnq h4;unfold ed1 sX sAq sY at hc;dsimp only at hc
 go_wp2_with fail;refine hc.mono ?_;clear hc;rintro e W5 ⟨A1,c1,L1,T1,V1,rfl,h5,-,-,-,-,hg1,hs1,-⟩;have hL1:=TF hg1 hs1 (TI H4.out.ok) (NV h5.ok);subst hL1;dsimp only at h5 ⊢
 have hc:=zR h5 htab ed2 hk2 UQ;have H5:=hIz h5;clear hg1 hs1 h5;unfold ed2 sY sB sZq at hc;dsimp only at hc
 go_wp2_with fail;refine hc.mono ?_;clear hc;rintro e W6 ⟨A2,c2,L2,T2,V2,rfl,h6,own2,-,-,hn2,hg2,hs2,-⟩;have hL2:=TG hg2 hs2 (NV H5.out.ok) (NW h6.ok);subst hL2;dsimp only at h6 ⊢
 have hc:=zR h6 htab ed2 hk2 UY;have H6:=aI3 h6 own2 hn2;clear hg2 hs2 h6 own2 hn2;unfold ed2 sY sB sZq at hc;dsimp only at hc
 go_wp2_with fail;refine hc.mono ?_;clear hc;rintro e W7 ⟨A3,c3,L3,T3,V3,rfl,h7,-,hu7,hn7,-,-,-,hl3⟩;have hL3:=hl3 rfl;subst hL3;dsimp only at h7 ⊢
 have hc:=zR h7 htab ed3 hk3 UZ;have H7:=aI3 h7 (aB H6.out.2.1 hu7 H6.out.2.2) (show ∀q,(Value.slice A2 [((0:Nat),(0:Nat),(2:Nat)),(2,1,2)].length c2).ownBlock=some q→¬V3 q from fun q hq hv=>(hn7 q hv).elim (H6.out.2.2 q hq) (fun h=>by have:=(H6.out.2.1.lt q hq).2;omega));clear hu7 hn7 hl3 h7;unfold ed3 sX sUA sY at hc;dsimp only at hc
 go_wp2_with fail;refine hc.mono ?_;clear hc;rintro e W8 ⟨A4,c4,L4,T4,V4,rfl,h8,-,hu8,-,-,-,-,hl4⟩;have hL4:=hl4 rfl;subst hL4;dsimp only at h8 ⊢
 have own8:=aB H7.out.2.1 hu8 H7.out.2.2;obtain⟨ga,gc2,e,-,-,-,-,-⟩:=aL own8 (by decide);injection e with e1 e2 e3;subst e1;obtain⟨q0,q1,q2⟩:=TC own8 (k:=0) rfl;have hlen:=tN W8 _ p 3 cF [sAq,sB] gr2 T4 h8.d.s (by decide) (by decide);rw[UT h8.ok.wd (NW h8.ok)] at hlen;have FIN:=hIz h8.b;clear hu8 hl4 h8 own8 H7 H6 H5 H4 e2 e3;dsimp only at q0 q1 q2
 simp only[List.length_cons,List.length_nil,Nat.reduceAdd,Nat.zero_mul,Nat.zero_add] at q0 q1 q2 ⊢
 go_wp2_with fail;refine hlen.mono ?_;clear hlen q0 q1 q2;rintro e W9 ⟨rfl,b9⟩;have FIN2:=hIz (tHn FIN.out b9);clear b9;go_wp2;go_ret;exact⟨rfl,FIN2.out⟩
theorem zS(B:aX):∀(n:Nat),(iE B n).length=zK B n:=by
 have h:∀n k,(tO B k n).length=xP (fun j=>dF (bX (B (k+j)))) n:=by
  intro n;induction n with
  | zero=>intro k;rfl
  | succ n ih =>
   intro k;rw[tO,List.length_append,List.length_map,sV,ih (k+1)];have hs:∀(f:Nat→Nat) (m:Nat),xP f (m+1)=f 0+xP (fun j=>f (j+1)) m:=by
    intro f m;induction m with
    | zero=>simp[xP]
    | succ m im =>
     rw[xP,im,xP];omega
   rw[hs];congr 1
   congr 1
   funext j
   rw[show k+1+j=k+(j+1) by omega]
 intro n;unfold iE zK;rw[h n 0];congr 1
 funext j
 rw[Nat.zero_add]
theorem rG{B:aX}:∀(n k:Nat),(tO B k n).Nodup
 | 0,_=>List.nodup_nil
 | n+1,k=>by
  rw[tO,List.nodup_append];refine⟨pR (uY _) (fun a _ b _ e=>by injection e),rG n (k+1),fun a ha b hb e=>?_⟩;subst e;obtain⟨y,-,rfl⟩:=List.mem_map.1 ha;have:=((tP B n (k+1) _).1 hb).1;dsimp only at this
  omega
theorem rH(B:aX)(n:Nat):(iE B n).Nodup:=rG n 0
def lB(G:Gr):Prop:=∀s∈G.N,∃y∈G.X,s=y.fr∨s=y.to
theorem zT{N:List Txt}{E L:List Ed}(hc:eJ N E=0)(hL:L.Nodup)(hm:∀x∈L,x∈E){G:Gr}{i:Nat}(hX:G.X=L.take i)(hN:lB G){x:Ed}(hx:L[i]?=some x) :
  aM G x=(⟨cI (cI G.N x.fr) x.to,G.X++[x]⟩,true,0)∧(aM G x).1.X=L.take (i+1)∧lB (aM G x).1:=by
 obtain⟨-,-,f3⟩:=mB (eY hc).1;have hxL:=mG hx;have hnx:x ∉ G.X:=by rw[hX];exact qY hL hx
 have hsub:∀y∈G.X,y∈E:=fun y hy=>hm y (List.mem_of_mem_take (by rw[hX] at hy;exact hy))
 have hofi:ofI G.N (G.X++[x])=0:=wV (N:=N) (E:=E) (fun s hs=>by
  obtain⟨y,hy,e⟩:=hN s hs;exact .inl (e.elim (fun e=>e ▸ (f3 y (hsub y hy)).1) (fun e=>e ▸ (f3 y (hsub y hy)).2))) (fun y hy=>by
   rcases List.mem_append.1 hy with hy|hy
   ·exact hsub y hy
   ·rw[List.mem_singleton] at hy;subst hy;exact hm _ hxL) (FR hc (fun _=>Iff.rfl) (fun _=>Iff.rfl)).1
 have hr:=kY hnx hofi;refine⟨hr,?_,?_⟩
 ·rw[hr];show G.X++[x]=_
  rw[hX,List.take_add_one,hx,Option.toList_some]
 ·rw[hr];intro s hs;have hs:s∈cI (cI G.N x.fr) x.to:=hs;simp only[dC] at hs
  rcases hs with (hs|rfl)|rfl
  ·obtain⟨y,hy,e⟩:=hN s hs;exact⟨y,List.mem_append.2 (.inl hy),e⟩
  ·exact⟨x,List.mem_append.2 (.inr (List.mem_singleton.2 rfl)),.inl rfl⟩
  ·exact⟨x,List.mem_append.2 (.inr (List.mem_singleton.2 rfl)),.inr rfl⟩
structure nB(G G':Gr):Prop where
 ok:GOk G
 ok':GOk G'
 x:∀y,y∈G.X↔y∈G'.X
 n:lB G
 n':lB G'
theorem nB.symm{G G':Gr}(h:nB G G'):nB G' G:=⟨h.ok',h.ok,fun y=>(h.x y).symm,h.n',h.n⟩
theorem nB.mem{G G':Gr}(h:nB G G'){s:Txt}(hs:s∈G.N):s∈G'.N:=by
 obtain⟨y,hy,e⟩:=h.n s hs;obtain⟨h1,h2⟩:=h.ok'.ends y ((h.x y).1 hy);rcases e with rfl|rfl
 ·exact h1
 ·exact h2
theorem nB.der{G G':Gr}(h:nB G G'){P:List Pr}{labels:List Txt}{a:Int}{i j:Nat}(d:gR P (ElG G labels) G.N.length a i j):∀{s t:Txt} {i' j':Nat},G.N[i]?=some s→G.N[j]?=some t→G'.N[i']?=some s→G'.N[j']?=some t→gR P (ElG G' labels) G'.N.length a i' j':=by
 induction d with
 | eps hp hi =>
  intro s t i' j' h1 h2 h3 h4;rw[h1] at h2;obtain rfl:=Option.some.inj h2;obtain rfl:=IJ h.ok'.nd h3 h4;exact .eps hp (gO.1 h3).1
 | one hp he =>
  intro s t i' j' h1 h2 h3 h4;obtain⟨lb,hl,y,hy,e1,e2,e3⟩:=he;rw[h1] at e2;rw[h2] at e3;obtain rfl:=Option.some.inj e2;obtain rfl:=Option.some.inj e3;exact .one hp ⟨lb,hl,y,(h.x y).1 hy,e1,h3,h4⟩
 | two hp d1 d2 i1 i2 =>
  intro s t i' j' h1 h2 h3 h4;have hk:=(d1.lt (fun _ _ _ e=>e.lt)).2;have hr:=gEz hk;obtain⟨k',hk'⟩:=List.getElem?_of_mem (h.mem (mG hr));exact .two hp (i1 h1 hr h3 hk') (i2 hr h2 hk' h4)
theorem MQ{N:List Txt}(hd:N.Nodup){s:Txt}(hs:s∈N):N[eL N s]?=some s:=by
 obtain⟨i,hi⟩:=List.getElem?_of_mem hs;rw[jD hd hi];exact hi
def pim(N N':List Txt)(i:Nat):Nat:=eL N' (N[i]?.getD ⟨#[]⟩)
def piF(N N':List Txt)(x:Nat × Nat × Nat):Nat × Nat × Nat:=(x.1,pim N N' x.2.1,pim N N' x.2.2)
theorem wE{G G':Gr}(h:nB G G'){i:Nat}{s:Txt}(hs:G.N[i]?=some s):G'.N[pim G.N G'.N i]?=some s:=by
 unfold pim;rw[hs];exact MQ h.ok'.nd (h.mem (mG hs))
section
variable {nts:Nat} {P:List Pr} {labels:List Txt} {G G':Gr} {T T':aX}
theorem oB.lt(h:oB nts P labels G T){k i j:Nat}(hk:k<nts)(hb:aY (T k) i j=true):i<G.N.length∧j<G.N.length:=((h.der k hk i j).1 hb).lt (fun _ _ _ e=>e.lt)
theorem oB.moved(h:oB nts P labels G T)(h':oB nts P labels G' T')(hs:nB G G'){k i j:Nat}(hk:k<nts)(hb:aY (T k) i j=true):aY (T' k) (pim G.N G'.N i) (pim G.N G'.N j)=true:=by
 obtain⟨hi,hj⟩:=h.lt hk hb;have e1:=gEz hi;have e2:=gEz hj;exact(h'.der k hk _ _).2 (hs.der ((h.der k hk i j).1 hb) e1 e2 (wE hs e1) (wE hs e2))
theorem kM(hs:nB G G'){i:Nat}(hi:i<G.N.length):pim G'.N G.N (pim G.N G'.N i)=i:=by
 have e1:=gEz hi;have e2:=wE hs e1;unfold pim at e2 ⊢;rw[e1] at e2 ⊢;rw[Option.getD_some] at e2 ⊢;rw[e2,Option.getD_some];exact jD hs.ok.nd e1
theorem pX(h:oB nts P labels G T){x:Nat × Nat × Nat}:x∈iE T nts↔x.1<nts∧aY (T x.1) x.2.1 x.2.2=true:=by
 obtain⟨k,i,j⟩:=x;rw[nY (fun k _=>(h.wd k).old)];exact⟨fun h=>⟨h.1,h.2.2.2⟩,fun e=>⟨e.1,cM (h.wd _) e.2,fP (h.wd _) e.2,e.2⟩⟩
theorem IM(h:oB nts P labels G T)(h':oB nts P labels G' T')(hs:nB G G'):zK T nts=zK T' nts:=by
 rw[← zS,← zS,show(iE T nts).length=((iE T nts).map (piF G.N G'.N)).length by rw[List.length_map]];refine MC (pR (rH _ _) (fun a ha b hb e=>?_)) (rH _ _) (fun x=>?_)
 ·obtain⟨a0,a1,a2⟩:=a;obtain⟨b0,b1,b2⟩:=b;obtain⟨ha0,hab⟩:=(pX h).1 ha;obtain⟨hb0,hbb⟩:=(pX h).1 hb;have la:=h.lt ha0 hab;have lb:=h.lt hb0 hbb;dsimp only at la lb
  unfold piF at e;injection e with e0 e;injection e with e1 e2;dsimp only at e0 e1 e2
  have q1:=kM hs la.1;have q2:=kM hs la.2;rw[e1,kM hs lb.1] at q1;rw[e2,kM hs lb.2] at q2;rw[e0,q1,q2]
 ·rw[List.mem_map];constructor
  ·rintro⟨y,hy,rfl⟩;obtain⟨h1,h2⟩:=(pX h).1 hy;exact(pX h').2 ⟨h1,h.moved h' hs h1 h2⟩
  ·intro hx;obtain⟨h1,h2⟩:=(pX h').1 hx;have hl:=h'.lt h1 h2;refine⟨piF G'.N G.N x,(pX h).2 ⟨h1,h'.moved h hs.symm h1 h2⟩,?_⟩;obtain⟨x0,x1,x2⟩:=x;unfold piF;dsimp only at hl ⊢
   rw[kM hs.symm hl.1,kM hs.symm hl.2]
end
open Go.RowKit Go.Shelf
theorem MR(w:World)(F:Nat→Prop)(p nts:Nat)(P:List Pr)(labels:List Txt)(G:Gr)(T:aX)(h:DcS w F p nts P labels G T)(hn1:1≤nts)(hG:G.N.length≤32)(k i j:Int) :
  Calls Tryz.prog 25 #[.pointer (some ⟨p,0,none⟩),.agg #[.int .i64 k,.int .i64 i,.int .i64 j]] w (Sam w (IF G.N.length nts T k i j)):=by
 obtain⟨K,Fg,FT,pc,cl,pg,PA,LA,PV,mv,hd0,-,-⟩:=h;obtain⟨g,gc,-,-,rfl,-⟩:=hd0.mt.at_ (k:=0) (by omega);have b1:Below w.heap.size w (w.alloc (.cells #[.int .i64 k,.int .i64 i,.int .i64 j] 25)):=bR.alloc (Nat.le_refl _) _;have k1:=Blk.new w 25 #[.int .i64 k,.int .i64 i,.int .i64 j];have hi1:=hd0.below b1;have his:=pU (w.alloc (.cells #[.int .i64 k,.int .i64 i,.int .i64 j] 25)) p pg (hi1.cp.blk.cell 3);have hlen:=vO (w.alloc (.cells #[.int .i64 k,.int .i64 i,.int .i64 j] 25)) Fg pg G hi1.gr;have q3:(w.alloc (.cells #[.int .i64 k,.int .i64 i,.int .i64 j] 25)).cell? ⟨p,3,none⟩=some (.pointer (some ⟨pg,0,none⟩)):=hi1.cp.blk.cell 3;obtain⟨n,hn⟩:∃n,G.N.length=n:=⟨_,rfl⟩;rw[hn] at hlen hG ⊢;have H0:=aI3 b1 hi1 k1;clear hd0 b1 hi1 k1 hn;go_enter Tryz.func25,Tryz.ntmps25;go_wp2_with fail;refine his.mono ?_;clear his;rintro e V ⟨rfl,hw⟩;subst V;go_wp2_with fail;refine hlen.mono ?_;clear hlen;rintro e W1 ⟨rfl,bl⟩;have H:=aI3 (tHn H0.out.1 bl) (H0.out.2.1.below bl) (H0.out.2.2.upd (upF bl) id);clear bl q3 H0;have f0:W1.cell? ⟨w.heap.size,0,none⟩=some (.int .i64 k):=H.out.2.2.cell 0;have f1:W1.cell? ⟨w.heap.size,1,none⟩=some (.int .i64 i):=H.out.2.2.cell 1;have f2:W1.cell? ⟨w.heap.size,2,none⟩=some (.int .i64 j):=H.out.2.2.cell 2;have q0:W1.cell? ⟨p,0,none⟩=some (.int .i64 (nts:Int)):=H.out.2.1.cp.blk.cell 0;have q1:W1.cell? ⟨p,4,none⟩=some (.slice (some ⟨g,0,none⟩) nts gc):=H.out.2.1.cp.blk.cell 4;go_upto_region 4 with (fail);have hbd:=hIz (show ∀n,Below W1.heap.size W1 (W1.drewN n) from fun n=>⟨rfl,rfl,rfl,Nat.le_refl _,fun _ _=>rfl⟩)
 generalize w.heap.size=z at f0 f1 f2 ⊢;by_cases h0:k<0
 ·have FIN:=hIz (show IF n nts T k i j=.tuple #[.bool false,.int .i64 4] from if_neg (by omega));go_quiet (fail)
  go_wp2;refine bodyPost_ret (v:=.tuple #[.bool false,.int .i64 4]) (by simp[results,Tryz.f25,go_sem]) rfl ⟨by rw[FIN.out],H.out.1.trans ((hbd.out _).mono H.out.1.size)⟩
 ·have _g0:=h0;by_cases h1:(nts:Int)≤k
  ·have FIN:=hIz (show IF n nts T k i j=.tuple #[.bool false,.int .i64 4] from if_neg (by omega));go_quiet (fail)
   go_wp2;refine bodyPost_ret (v:=.tuple #[.bool false,.int .i64 4]) (by simp[results,Tryz.f25,go_sem]) rfl ⟨by rw[FIN.out],H.out.1.trans ((hbd.out _).mono H.out.1.size)⟩
  ·have _g1:=h1;by_cases h2:i<0
   ·have FIN:=hIz (show IF n nts T k i j=.tuple #[.bool false,.int .i64 4] from if_neg (by omega));go_quiet (fail)
    go_wp2;refine bodyPost_ret (v:=.tuple #[.bool false,.int .i64 4]) (by simp[results,Tryz.f25,go_sem]) rfl ⟨by rw[FIN.out],H.out.1.trans ((hbd.out _).mono H.out.1.size)⟩
   ·have _g2:=h2;by_cases h3:(n:Int)≤i
    ·have FIN:=hIz (show IF n nts T k i j=.tuple #[.bool false,.int .i64 4] from if_neg (by omega));go_quiet (fail)
     go_wp2;refine bodyPost_ret (v:=.tuple #[.bool false,.int .i64 4]) (by simp[results,Tryz.f25,go_sem]) rfl ⟨by rw[FIN.out],H.out.1.trans ((hbd.out _).mono H.out.1.size)⟩
    ·have _g3:=h3;by_cases h4:j<0
     ·have FIN:=hIz (show IF n nts T k i j=.tuple #[.bool false,.int .i64 4] from if_neg (by omega));go_quiet (fail)
      go_wp2;refine bodyPost_ret (v:=.tuple #[.bool false,.int .i64 4]) (by simp[results,Tryz.f25,go_sem]) rfl ⟨by rw[FIN.out],H.out.1.trans ((hbd.out _).mono H.out.1.size)⟩
     ·have _g4:=h4;by_cases h5:(n:Int)≤j
      ·have FIN:=hIz (show IF n nts T k i j=.tuple #[.bool false,.int .i64 4] from if_neg (by omega));go_quiet (fail)
       go_wp2;refine bodyPost_ret (v:=.tuple #[.bool false,.int .i64 4]) (by simp[results,Tryz.f25,go_sem]) rfl ⟨by rw[FIN.out],H.out.1.trans ((hbd.out _).mono H.out.1.size)⟩
      ·have _g5:=h5;obtain⟨a,rfl⟩:∃a:Nat,k=(a:Int):=⟨k.toNat,by omega⟩;obtain⟨x,rfl⟩:∃x:Nat,i=(x:Int):=⟨i.toNat,by omega⟩;obtain⟨y,rfl⟩:∃y:Nat,j=(y:Int):=⟨j.toNat,by omega⟩;have FIN:=hIz (show IF n nts T (a:Int) (x:Int) (y:Int)=.tuple #[.bool (aY (T a) x y),.int .i64 0] from by
        unfold IF;rw[if_pos (by omega),Int.toNat_natCast,Int.toNat_natCast,Int.toNat_natCast])
       go_quiet (fail)
       have haN:a<nts:=by omega
       have haI:(a:Int)<(nts:Int):=by omega
       go_upto_region 6 with (fail);clear q0;have hb1:=hbd.out nq;obtain⟨g2,c2,qa,Fa,e,ca,-,hqa,-,-,-⟩:=(H.out.2.1.below hb1.drew).mt.at_ (k:=a) (by omega);injection e with e _ e3;injection e with e;injection e with e;subst e;have hS:(fun X:World=>X.cell? ⟨p,4,none⟩=some (.slice (some ⟨g,0,none⟩) nts gc)∧X.cell? ⟨z,0,none⟩=some (.int .i64 (a:Int))∧X.cell? ⟨z,1,none⟩=some (.int .i64 (x:Int))∧X.cell? ⟨z,2,none⟩=some (.int .i64 (y:Int))∧X.cell? ⟨g,a,none⟩=some (.pointer (some ⟨qa,0,none⟩))) (W1.drewN nq).drew:=⟨q1,f0,f1,f2,ca⟩;have HB2:=hIz hb1.drew;have HQA:=hIz hqa;clear hb1 f0 f1 f2 q1 ca hqa;refine bS (fun X:World=>X.cell? ⟨p,4,none⟩=some (.slice (some ⟨g,0,none⟩) nts gc)∧X.cell? ⟨z,0,none⟩=some (.int .i64 (a:Int))∧X.cell? ⟨z,1,none⟩=some (.int .i64 (x:Int))∧X.cell? ⟨z,2,none⟩=some (.int .i64 (y:Int))∧X.cell? ⟨g,a,none⟩=some (.pointer (some ⟨qa,0,none⟩))) (aO 12) (by kernel_rfl) ?_;generalize (W1.drewN nq).drew=W2 at HB2 HQA hS ⊢;intro hd;(refine aA 0 rfl hd hS ?_;clear hd;intro hd;(try simp only[Act.put,gA,gZ,sA,sZ,sS]))
       refine aA 1 rfl hd hS ?_;clear hd;intro hd;refine aA 2 rfl hd hS ?_;clear hd;intro hd;refine aA 3 rfl hd hS ?_;clear hd;intro hd;refine aA 4 rfl hd hS ?_;clear hd;intro hd;refine aA 5 rfl hd hS ?_;clear hd;intro hd;refine aA 6 rfl hd hS ?_;clear hd;intro hd;refine aA 7 rfl hd hS ?_;clear hd;intro hd;refine aA 8 rfl hd hS ?_;clear hd;intro hd;refine aA 9 rfl hd hS ?_;clear hd;intro hd;refine aA 10 rfl hd hS ?_;clear hd;intro hd;refine aA 11 rfl hd hS ?_;clear hd;intro hd;have hcon:Hid (Calls Tryz.prog 75 #[.pointer (some ⟨qa,0,none⟩),.int .i64 (x:Int),.int .i64 (y:Int)] W2 (Sam W2 (.tuple #[.bool (aY (T a) x y),.int .i64 0]))):=hIz (yN W2 Fa qa 32 (T a) HQA.out x y (by omega) (by omega) (by omega) (by omega));clear hS;refine aQ hd 12 ?_;clear hd;intro hd;refine aW (S:=(fun X:World=>X.cell? ⟨p,4,none⟩=some (.slice (some ⟨g,0,none⟩) nts gc)∧X.cell? ⟨z,0,none⟩=some (.int .i64 (a:Int))∧X.cell? ⟨z,1,none⟩=some (.int .i64 (x:Int))∧X.cell? ⟨z,2,none⟩=some (.int .i64 (y:Int))∧X.cell? ⟨g,a,none⟩=some (.pointer (some ⟨qa,0,none⟩)))) (late:=aO 12) rfl rfl (fun K hK=>?_);go_simp;refine hcon.out.mono ?_;clear hcon;rintro e W3 ⟨rfl,hb3⟩;have HB3:=hIz (H.out.1.trans ((tHn HB2.out hb3).mono H.out.1.size));clear hb3;refine hK _ _ (fun h _=>absurd h (by decide)) ?_;clear hK K;(try simp only[Act.put,gA,gS,gZ,sA,sZ,sS])
       (refine aU (i:=13) (v:=?_) rfl (by kernel_rfl) hd (fun _ _ d _ _ h=>by cases d <;> exact h) (by first | with_reducible rfl | kernel_rfl) ?_ ?_;rotate_left;(focus (intro wS;go_simp;(try with_reducible rfl);done));clear hd;intro hd;(try simp only[Act.put,gA,gS,gZ,sA,sZ,sS]))
       (refine aU (i:=14) (v:=?_) rfl (by kernel_rfl) hd (fun _ _ d _ _ h=>by cases d <;> exact h) (by first | with_reducible rfl | kernel_rfl) ?_ ?_;rotate_left;(focus (intro wS;go_simp;(try with_reducible rfl);done));clear hd;intro hd;(try simp only[Act.put,gA,gS,gZ,sA,sZ,sS]))
       (refine aU (i:=15) (v:=?_) rfl (by kernel_rfl) hd (fun _ _ d _ _ h=>by cases d <;> exact h) (by first | with_reducible rfl | kernel_rfl) ?_ ?_;rotate_left;(focus (intro wS;go_simp;(try with_reducible rfl);done));clear hd;intro hd;(try simp only[Act.put,gA,gS,gZ,sA,sZ,sS]))
       (refine aU (i:=16) (v:=?_) rfl (by kernel_rfl) hd (fun _ _ d _ _ h=>by cases d <;> exact h) (by first | with_reducible rfl | kernel_rfl) ?_ ?_;rotate_left;(focus (intro wS;go_simp;(try with_reducible rfl);done));clear hd;intro hd;(try simp only[Act.put,gA,gS,gZ,sA,sZ,sS]))
       refine dK (by kernel_rfl) ?_;go_wp2;refine bodyPost_ret (v:=.tuple #[.bool (aY (T a) x y),.int .i64 0]) (by simp[results,Tryz.f25,go_sem]) rfl ⟨by rw[FIN.out],HB3.out⟩
open Go.RowKit Go.Shelf
theorem IN{G:Gr}(ok:GOk G){x:Ed}(hx:x∈G.X):dA x.fr∧dA x.to:=by
 have hc:=qX ok.may;have hs:=kW.of (eY hc).2.1;have:=hs.e x (gK.2 hx);unfold dA;omega

theorem IP{G:Gr}(ok:GOk G)(h:lB G){s:Txt}(hs:s∈G.N):dA s:=by
 obtain⟨y,hy,e⟩:=h s hs;rcases e with rfl|rfl
 ·exact(IN ok hy).1
 ·exact(IN ok hy).2
theorem CC(w:World)(Fg Fh F:Nat→Prop)(pg ph p nts:Nat)(P:List Pr)(labels:List Txt)(G G':Gr)(T':aX)(hg:GrS w Fg pg G)(hh:GrS w Fh ph G')(hy:DcS w F p nts P labels G' T')(hs:nB G G')(h1:1≤nts)(k i j:Nat)(hk:k<nts)(hi:i<G.N.length)(hj:j<G.N.length)(hb:aY (T' k) (pim G.N G'.N i) (pim G.N G'.N j)=true) :
  Calls Tryz.prog 20 #[.agg #[.int .i64 (k:Int),.int .i64 (i:Int),.int .i64 (j:Int)],.pointer (some ⟨pg,0,none⟩),.pointer (some ⟨ph,0,none⟩),.pointer (some ⟨p,0,none⟩)] w (Sam w (.bool true)):=by
 obtain⟨s,hsi⟩:∃s,G.N[i]?=some s:=⟨_,gEz hi⟩;obtain⟨t,htj⟩:∃t,G.N[j]?=some t:=⟨_,gEz hj⟩;have hsi':=wE hs hsi;have htj':=wE hs htj;have hn1:=zP hs.ok'.nd hsi';have hn2:=zP hs.ok'.nd htj';have kS:=IP hs.ok hs.n (mG hsi);have kT:=IP hs.ok hs.n (mG htj);obtain⟨u,hu⟩:∃u,pim G.N G'.N i=u:=⟨_,rfl⟩;obtain⟨v,hv⟩:∃v,pim G.N G'.N j=v:=⟨_,rfl⟩;rw[hu] at hb hsi' hn1;rw[hv] at hb htj' hn2;have hul:=(gO.1 hsi').1;have hvl:=(gO.1 htj').1;have hG':=hs.ok'.few.1;have hV:IF G'.N.length nts T' (k:Int) (u:Int) (v:Int)=.tuple #[.bool true,.int .i64 0]:=by
  unfold IF;rw[if_pos (by omega),Int.toNat_natCast,Int.toNat_natCast,Int.toNat_natCast,hb]
 have b1:Below w.heap.size w (w.alloc (.cells #[.int .i64 (k:Int),.int .i64 (i:Int),.int .i64 (j:Int)] 25)):=bR.alloc (Nat.le_refl _) _;have k1:=Blk.new w 25 #[.int .i64 (k:Int),.int .i64 (i:Int),.int .i64 (j:Int)];have hno:=LJ _ Fg pg G (hg.below b1) hs.ok;obtain⟨n,hn⟩:∃n,G.N.length=n:=⟨_,rfl⟩;rw[hn] at hi hj;have hiI:(i:Int)<(n:Int):=by omega
 have hjI:(j:Int)<(n:Int):=by omega
 have hi0:¬(i:Int)<0:=by omega
 have hj0:¬(j:Int)<0:=by omega
 have hi1:¬(n:Int)≤(i:Int):=by omega
 have hj1:¬(n:Int)≤(j:Int):=by omega
 have hnd1:=fun W (b:Below w.heap.size w W)=>tG W Fh ph G' (hh.below b) hs.ok' s kS
 have hnd2:=fun W (b:Below w.heap.size w W)=>tG W Fh ph G' (hh.below b) hs.ok' t kT
 have hhas:=fun W (b:Below w.heap.size w W)=>MR W F p nts P labels G' T' (hy.below b) h1 hG' (k:Int) (u:Int) (v:Int)
 rw[hn1] at hnd1;rw[hn2] at hnd2;rw[hV] at hhas;have H:=aI8 b1 k1 hnd1 hnd2 hhas hsi htj hn;clear hsi htj hsi' htj' hn1 hn2 kS kT hu hv hb hul hvl hG' hV b1 k1 hnd1 hnd2 hhas hn hs hg hh hy hk;go_enter Tryz.func20,Tryz.ntmps20;go_upto_region 1 with (fail);generalize w.alloc (.cells #[.int .i64 (k:Int),.int .i64 (i:Int),.int .i64 (j:Int)] 25)=W0 at H hno ⊢;go_wp2_with fail;refine hno.mono ?_;clear hno;rintro e W1 ⟨vN,rfl,own1,b2⟩;obtain⟨A1,c1,rfl,-,-⟩:=aH own1;have k2:=H.out.2.1.upd (upF b2) id;have bw:=tHn H.out.1 b2;obtain⟨b,o,e,cs⟩:=(bO.of_own own1).txt H.out.2.2.2.2.2.1;obtain⟨b',o',e',ct⟩:=(bO.of_own own1).txt H.out.2.2.2.2.2.2.1;subst e;injection e' with e';injection e' with e1 e2;subst e1;subst e2;rw[H.out.2.2.2.2.2.2.2];have f0:W1.cell? ⟨w.heap.size,0,none⟩=some (.int .i64 (k:Int)):=k2.cell 0;have f1:W1.cell? ⟨w.heap.size,1,none⟩=some (.int .i64 (i:Int)):=k2.cell 1;have f2:W1.cell? ⟨w.heap.size,2,none⟩=some (.int .i64 (j:Int)):=k2.cell 2;have hd1:=H.out.2.2.1 W1 bw;have hd2:=H.out.2.2.2.1 W1 bw;have hh1:=H.out.2.2.2.2.1 W1 bw;have FIN:=hIz bw;clear own1 k2 bw b2 H;go_wp2_with fail;refine hd1.mono ?_;clear hd1;rintro e V ⟨rfl,hw⟩;subst V;go_wp2_with fail;refine hd2.mono ?_;clear hd2;rintro e V ⟨rfl,hw⟩;subst V;go_wp2_with fail;refine hh1.mono ?_;clear hh1 f0 f1 f2 cs ct;rintro e W2 ⟨rfl,b3⟩;have FIN2:=hIz (tHn FIN.out b3);clear b3;go_wp2;go_ret;exact⟨rfl,FIN2.out⟩
open Go.RowKit Go.Shelf
def MS(nts m:Int):Bool:=(decide (40<nts)&&decide (nts≤512))||(decide (120<m)&&decide (m≤8192))
theorem IQ(w:World)(nts:Int)(PA:Option Addr)(m pc:Nat):Calls Tryz.prog 15 #[.agg #[.int .i64 nts,.slice PA m pc]] w (Sam w (.bool (MS nts m))):=by
 have b1:Below w.heap.size w (w.alloc (.cells #[.int .i64 nts,.slice PA m pc] 32)):=bR.alloc (Nat.le_refl _) _;have k1:=Blk.new w 32 #[.int .i64 nts,.slice PA m pc];have q0:(w.alloc (.cells #[.int .i64 nts,.slice PA m pc] 32)).cell? ⟨w.heap.size,0,none⟩=some (.int .i64 nts):=k1.cell 0;have q1:(w.alloc (.cells #[.int .i64 nts,.slice PA m pc] 32)).cell? ⟨w.heap.size,1,none⟩=some (.slice PA m pc):=k1.cell 1;have H:=hIz b1;clear b1 k1;obtain⟨r,hr⟩:∃r,MS nts m=r:=⟨_,rfl⟩;rw[hr];unfold MS at hr;by_cases h1:40<nts
 ·by_cases h2:nts≤512
  ·simp only[h1,h2,decide_true,decide_false,Bool.and_true,Bool.and_false,Bool.true_and,Bool.false_and,Bool.or_true,Bool.or_false,Bool.true_or,Bool.false_or] at hr
   subst hr;go_enter Tryz.func15,Tryz.ntmps15;go_wp2;go_ret;exact⟨rfl,H.out⟩
  ·by_cases h3:(120:Int)<(m:Int)
   ·by_cases h4:(m:Int)≤8192
    ·simp only[h1,h2,h3,h4,decide_true,decide_false,Bool.and_true,Bool.and_false,Bool.true_and,Bool.false_and,Bool.or_true,Bool.or_false,Bool.true_or,Bool.false_or] at hr
     subst hr;go_enter Tryz.func15,Tryz.ntmps15;go_wp2;go_ret;exact⟨rfl,H.out⟩
    ·simp only[h1,h2,h3,h4,decide_true,decide_false,Bool.and_true,Bool.and_false,Bool.true_and,Bool.false_and,Bool.or_true,Bool.or_false,Bool.true_or,Bool.false_or] at hr
     subst hr;go_enter Tryz.func15,Tryz.ntmps15;go_wp2;go_ret;exact⟨rfl,H.out⟩
   ·simp only[h1,h2,h3,decide_true,decide_false,Bool.and_true,Bool.and_false,Bool.true_and,Bool.false_and,Bool.or_true,Bool.or_false,Bool.true_or,Bool.false_or] at hr
    subst hr;go_enter Tryz.func15,Tryz.ntmps15;go_wp2;go_ret;exact⟨rfl,H.out⟩
 ·by_cases h3:(120:Int)<(m:Int)
  ·by_cases h4:(m:Int)≤8192
   ·simp only[h1,h3,h4,decide_true,decide_false,Bool.and_true,Bool.and_false,Bool.true_and,Bool.false_and,Bool.or_true,Bool.or_false,Bool.true_or,Bool.false_or] at hr
    subst hr;go_enter Tryz.func15,Tryz.ntmps15;go_wp2;go_ret;exact⟨rfl,H.out⟩
   ·simp only[h1,h3,h4,decide_true,decide_false,Bool.and_true,Bool.and_false,Bool.true_and,Bool.false_and,Bool.or_true,Bool.or_false,Bool.true_or,Bool.false_or] at hr
    subst hr;go_enter Tryz.func15,Tryz.ntmps15;go_wp2;go_ret;exact⟨rfl,H.out⟩
  ·simp only[h1,h3,decide_true,decide_false,Bool.and_true,Bool.and_false,Bool.true_and,Bool.false_and,Bool.or_true,Bool.or_false,Bool.true_or,Bool.false_or] at hr
   subst hr;go_enter Tryz.func15,Tryz.ntmps15;go_wp2;go_ret;exact⟨rfl,H.out⟩
open Go.RowKit Go.Shelf
theorem VA{N:List Txt}{E:List Ed}(h:eJ N E=0):GOk ⟨N,E⟩:=by
 have hf:=mB (eY h).1;exact⟨hf.1.nodup gJ,hf.2.1.nodup qI,hf.2.2,(FR h (fun _=>Iff.rfl) (fun _=>Iff.rfl)).1⟩
theorem MT{α:Type}{E:List α}{k:Nat}(hk:k<E.length):E.reverse[k]?=E[E.length-1-k]?:=by
 rw[List.getElem?_reverse hk]
structure OrS(W0 W:World)(K V K' V':Nat→Prop)(p p' yb nts:Nat)(P:List Pr)(labels:List Txt)(G G':Gr)(T T':aX):Prop where
 d:DcV W K V p nts P labels G T
 ok:oB nts P labels G T
 d':DcV W K' V' p' nts P labels G' T'
 ok':oB nts P labels G' T'
 lo:∀k,(K k∨V k)∨K' k∨V' k→W0.heap.size≤k
 dis:∀k,K k∨V k→¬(K' k∨V' k)
 y:Blk W yb 26 #[.pointer (some ⟨p',0,none⟩)]
 ny:¬((K yb∨V yb)∨K' yb∨V' yb)
 b:Below W0.heap.size W0 W
section
variable {W0 W W':World} {K V K' V':Nat→Prop} {p p' yb nts:Nat} {P:List Pr} {labels:List Txt} {G G':Gr} {T T':aX}
theorem OrS.below(h:OrS W0 W K V K' V' p p' yb nts P labels G G' T T')(hb:Below W.heap.size W W'):OrS W0 W' K V K' V' p p' yb nts P labels G G' T T':=
 ⟨h.d.below hb,h.ok,h.d'.below hb,h.ok',h.lo,h.dis,h.y.upd (upF hb) id,h.ny,tHn h.b hb⟩
theorem OrS.fst(h:OrS W0 W K V K' V' p p' yb nts P labels G G' T T'){r:Gr × Bool × Int}{e:Ending}(hq:CmQ W K V p nts P labels T r e W') :
  ∃A c L T2 V2,e=.returned (.tuple #[.slice A L c,.bool r.2.1,.int .i64 r.2.2])∧OrS W0 W' K V2 K' V' p p' yb nts P labels r.1 G' T2 T':=by
 obtain⟨A,c,L,T2,V2,e1,-,hd,hok,hu,hV,-,-,-,-⟩:=hq;have hl:=h.d'.lt;have hy:=h.y.lt;have hz:=h.b.size;refine⟨A,c,L.length,T2,V2,e1,hd,hok,h.d'.upd hu (fun k hk hv=>h.dis k (.inr hv) hk),h.ok',fun k hk=>?_,fun k hk hk'=>?_,h.y.upd hu (fun hv=>h.ny (.inl (.inr hv))),fun hk=>?_,h.b.trans (hu.below (fun q _ hq=>h.lo q (.inl (.inr hq))) hz)⟩
 ·rcases hk with (hk|hk)|hk
  ·exact h.lo k (.inl (.inl hk))
  ·exact(hV k hk).elim (fun h'=>h.lo k (.inl (.inr h'))) (fun h'=>by omega)
  ·exact h.lo k (.inr hk)
 ·rcases hk with hk|hk
  ·exact h.dis k (.inl hk) hk'
  ·exact(hV k hk).elim (fun h'=>h.dis k (.inr h') hk') (fun h'=>by have:=hl k hk';omega)
 ·rcases hk with (hk|hk)|hk
  ·exact h.ny (.inl (.inl hk))
  ·exact(hV _ hk).elim (fun h'=>h.ny (.inl (.inr h'))) (fun h'=>by omega)
  ·exact h.ny (.inr hk)
theorem OrS.snd(h:OrS W0 W K V K' V' p p' yb nts P labels G G' T T'){r:Gr × Bool × Int}{e:Ending}(hq:CmQ W K' V' p' nts P labels T' r e W') :
  ∃A c L T2 V2,e=.returned (.tuple #[.slice A L c,.bool r.2.1,.int .i64 r.2.2])∧OrS W0 W' K V K' V2 p p' yb nts P labels G r.1 T T2:=by
 obtain⟨A,c,L,T2,V2,e1,-,hd,hok,hu,hV,-,-,-,-⟩:=hq;have hl:=h.d.lt;have hy:=h.y.lt;have hz:=h.b.size;refine⟨A,c,L.length,T2,V2,e1,h.d.upd hu (fun k hk hv=>h.dis k hk (.inr hv)),h.ok,hd,hok,fun k hk=>?_,fun k hk hk'=>?_,h.y.upd hu (fun hv=>h.ny (.inr (.inr hv))),fun hk=>?_,h.b.trans (hu.below (fun q _ hq=>h.lo q (.inr (.inr hq))) hz)⟩
 ·rcases hk with hk|hk|hk
  ·exact h.lo k (.inl hk)
  ·exact h.lo k (.inr (.inl hk))
  ·exact(hV k hk).elim (fun h'=>h.lo k (.inr (.inr h'))) (fun h'=>by omega)
 ·rcases hk' with hk' | hk'
  ·exact h.dis k hk (.inl hk')
  ·exact(hV k hk').elim (fun h'=>h.dis k hk (.inr h')) (fun h'=>by have:=hl k hk;omega)
 ·rcases hk with hk|hk|hk
  ·exact h.ny (.inl hk)
  ·exact h.ny (.inr (.inl hk))
  ·exact(hV _ hk).elim (fun h'=>h.ny (.inr (.inr h'))) (fun h'=>by omega)
end
structure OrG(E:List Ed)(i:Nat)(G G':Gr):Prop where
 x:G.X=E.take i
 n:lB G
 x':G'.X=E.reverse.take i
 n':lB G'
theorem OrG.same{E:List Ed}{G G':Gr}(h:OrG E E.length G G')(ok:GOk G)(ok':GOk G'):nB G G':=by
 refine⟨ok,ok',fun y=>?_,h.n,h.n'⟩;rw[h.x,h.x',List.take_length,show E.length=E.reverse.length by simp,List.take_length,List.mem_reverse]
end Go.Proofs.YtnokckdkaifibaaGreatDoor
