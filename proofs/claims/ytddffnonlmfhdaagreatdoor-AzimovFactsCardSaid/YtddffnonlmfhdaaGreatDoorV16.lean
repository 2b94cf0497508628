/- AzimovFacts: the document's facts: what is laid; AzimovFacts: the document's facts: the walk; AzimovFacts: the document's Check; a grammar of one's own. -/
import Derived.Test.YtddffnonlmfhdaaGreatDoorV15
set_option linter.unusedVariables false
set_option linter.unusedSimpArgs false
set_option maxHeartbeats 16000000
set_option maxRecDepth 100000
namespace Go.Proofs.YtddffnonlmfhdaaGreatDoor
open Go.RowKit Go.Shelf
def setC(T n hb:Nat)(A:Option Addr)(l c:Nat):Array Value:=#[.int .i64 (T:Int),.int .i64 (n:Int),.slice (some ⟨hb,0,none⟩) (T*n*n) (T*n*n),.slice A l c]
structure FaM(W:World)(F:Nat→Prop)(V:World)(base z hb T n:Nat)(L:List (Nat × Nat × Nat)):Prop where
 ex:∃A l c,Blk V z 76 (setC T n hb A l c)∧SeI V base hb T n A l c L∧(∀q,SeO hb A l c q→q≠z)∧∀q,(q=z∨SeO hb A l c q)→F q∨W.heap.size≤q
 up:Upd F W V
section
variable {W V V2:World} {F:Nat→Prop} {base z hb T n:Nat} {L:List (Nat × Nat × Nat)}
theorem FaM.below(h:FaM W F V base z hb T n L)(hb':Below V.heap.size V V2):FaM W F V2 base z hb T n L:=by
 obtain⟨A,l,c,h1,h2,h3,h4⟩:=h.ex;exact⟨⟨A,l,c,h1.upd (Upd.of_below hb' (fun _=>False)) id,h2.below hb',h3,h4⟩,h.up.trans (Upd.of_below hb' (fun _=>False)) (fun _ h=>h.elim)⟩
theorem FaM.move(h:FaM W F V base z hb T n L)(hb':Below V.heap.size V V2):∃F':Nat→Prop,FaM V2 F' V2 base z hb T n L∧(∀q,F' q→q<V.heap.size∧(F q∨W.heap.size≤q))∧(∀V3,Upd F' V2 V3→Upd F W V3)∧∀V3 L3,FaM V2 F' V3 base z hb T n L3→FaM W F V3 base z hb T n L3:=by
 obtain⟨A,l,c,h1,h2,h3,h4⟩:=h.ex;have hu:=(h.below hb').up;refine⟨fun q=>q=z∨SeO hb A l c q,⟨⟨A,l,c,h1.upd (Upd.of_below hb' (fun _=>False)) id,h2.below hb',h3,fun q hq=>.inl hq⟩,Upd.refl _ _⟩,fun q hq=>⟨hq.elim (fun e=>e ▸ h1.lt) (fun h=>(h2.ltb q h).2),h4 q hq⟩,fun V3 k=>hu.trans k h4,fun V3 L3 k=>?_⟩;obtain⟨A2,l2,c2,k1,k2,k3,k4⟩:=k.ex;refine⟨⟨A2,l2,c2,k1,k2,k3,fun q hq=>?_⟩,hu.trans k.up h4⟩;rcases k4 q hq with hq|hq
 ·exact h4 q hq
 ·exact .inr (Nat.le_trans hu.size hq)
end
theorem tY{W V W1:World}{F:Nat→Prop}{base z hb T n l c l' c':Nat}{A A':Option Addr}{L:List (Nat × Nat × Nat)}{x:Nat × Nat × Nat}(hup:Upd F W V)(hF:∀q,(q=z∨SeO hb A l c q)→F q∨W.heap.size≤q)(k:Blk V z 76 (setC T n hb A l c))(hne:∀q,SeO hb A l c q→q≠z)
  (se:SeI W1 base hb T n A' l' c' (yS L x)) (up:Upd (SeO hb A l c) V W1) (pl:∀q,(Value.slice A' l' c').ownBlock=some q→(Value.slice A l c).ownBlock=some q∨V.heap.size≤q) :
  Blk W1 z 76 (setC T n hb A l c)∧∀Vf,Upd (fun q=>q=z) W1 Vf→Blk Vf z 76 (setC T n hb A' l' c')→FaM W F Vf base z hb T n (yS L x):=by
 have hn2:∀q,SeO hb A' l' c' q→q≠z:=fun q hq=>by
  rcases hq with rfl|hq
  ·exact hne _ (.inl rfl)
  ·rcases pl q hq with h|h
   ·exact hne _ (.inr h)
   ·have:=k.lt;omega
 refine⟨k.upd up (fun h=>hne _ h rfl),fun Vf hu kf=>⟨⟨A',l',c',kf,se.upd hu hn2,hn2,fun q hq=>?_⟩,(hup.trans up (fun i hi=>hF i (.inr hi))).trans hu (fun i e=>hF i (.inl e))⟩⟩;rcases hq with rfl|rfl|hq
 ·exact hF _ (.inl rfl)
 ·exact hF _ (.inr (.inl rfl))
 ·rcases pl q hq with h|h
  ·exact hF _ (.inr (.inr h))
  ·exact .inr (Nat.le_trans hup.size h)
structure FaU(V:World)(z T:Nat)(PA:Option Addr)(m pc:Nat)(PV:List Pv)(LA:Option Addr)(labels:List Txt)(NA:Option Addr)(n nc:Nat)(EA:Option Addr)(me ec:Nat)(N:List Txt)(E:List Ed):Prop where
 k3:Blk V z 50 #[.int .i64 (T:Int),.slice PA m pc]
 k5:Blk V (z+1) 29 #[.bool true,.slice NA n nc,.slice EA me ec]
 pv:PvR V PA PV
 lab:aU V LA (aE labels)
 na:aU V NA (aE N)
 ea:aU V EA (aP E)
theorem FaU.below{V W:World}{z T:Nat}{PA:Option Addr}{m pc:Nat}{PV:List Pv}{LA:Option Addr}{labels:List Txt}{NA:Option Addr}{n nc:Nat}{EA:Option Addr}{me ec:Nat}{N:List Txt}{E:List Ed}(h:FaU V z T PA m pc PV LA labels NA n nc EA me ec N E)(hb:Below V.heap.size V W) :
  FaU W z T PA m pc PV LA labels NA n nc EA me ec N E:=by
 have hu:=Upd.of_below hb (fun _=>False);exact⟨h.k3.upd hu id,h.k5.upd hu id,h.pv.below hb,h.lab.below hb,h.na.below hb,h.ea.below hb⟩
theorem lZ{W V:World}(h:Upd (fun _=>False) W V):Below W.heap.size W V:=h.below (fun _ _ h=>h.elim) (Nat.le_refl _)
def XA(w:World)(T n:Nat)(Der:Nat × Nat × Nat→Prop)(e:Ending)(w':World):Prop:=
 ∃hb A l c L,e=.returned (kY T n hb A l c)∧SeI w' w.heap.size hb T n A l c L∧Below w.heap.size w w'∧(∀x,x∈L↔Der x)
theorem SeI.base{V:World}{base base' hb T n l c:Nat}{A:Option Addr}{L:List (Nat × Nat × Nat)}(h:SeI V base hb T n A l c L)(hb':base'≤base):SeI V base' hb T n A l c L:=
 ⟨h.has,aQ h.own (fun k hk=>Nat.le_trans hb' (h.own.lt k hk).1),h.len,h.ne,Nat.le_trans hb' h.h0⟩
open Go.RowKit Go.Shelf
theorem JN{N:List Txt}(hnd:N.Nodup){i j:Nat}{s:Txt}(h1:N[i]?=some s)(h2:N[j]?=some s):i=j:=by
 obtain⟨a,e1⟩:=gO.1 h1;obtain⟨b,e2⟩:=gO.1 h2;exact(List.getElem_inj hnd).1 (e1.trans e2.symm)
def DrA(PV:List Pv)(N:List Txt)(E:List Ed)(labels:List Txt)(n:Nat):Nat × Nat × Nat→Prop:=RY (PV.map (·.pr)) (ElG ⟨N,E⟩ labels) n
def BsA(PV:List Pv)(N:List Txt)(E:List Ed)(labels:List Txt)(n i:Nat)(x:Nat × Nat × Nat):Prop:=∃y∈PV.take i,JB (ElG ⟨N,E⟩ labels) n y.pr x
def TwA(PV:List Pv)(D:List (Nat × Nat × Nat))(x:Nat × Nat × Nat):Prop:=∃y∈PV,∃f∈D,∃g∈D,NT y.pr f g x
def TwB(PV:List Pv)(i:Nat)(D:List (Nat × Nat × Nat))(f x:Nat × Nat × Nat):Prop:=∃y∈PV.take i,∃g∈D,NT y.pr f g x∨NT y.pr g f x
def EdA(N:List Txt)(E:List Ed)(p:Pr)(labels:List Txt)(k:Nat)(x:Nat × Nat × Nat):Prop:=∃s,p.body=[s]∧x.1=p.head.toNat∧∃k',k'<k∧∃e,E[k']?=some e∧labels[s.at_.toNat]?=some e.lb∧N[x.2.1]?=some e.fr∧N[x.2.2]?=some e.to
def EpA(p:Pr)(u:Nat)(x:Nat × Nat × Nat):Prop:=p.body=[]∧x.2.1<u∧x.2.1=x.2.2∧x.1=p.head.toNat
theorem SH{PV:List Pv}{N:List Txt}{E:List Ed}{labels:List Txt}{n i:Nat}{y:Pv}(hy:PV[i]?=some y){x:Nat × Nat × Nat}(h:BsA PV N E labels n (i+1) x):BsA PV N E labels n i x∨JB (ElG ⟨N,E⟩ labels) n y.pr x:=by
 obtain⟨v,hv,hb⟩:=h;rw[List.take_add_one,hy,List.mem_append] at hv;rcases hv with hv|hv
 ·exact .inl ⟨v,hv,hb⟩
 ·obtain rfl:v=y:=by simpa using hv
  exact .inr hb
theorem JO{PV:List Pv}{i:Nat}{D:List (Nat × Nat × Nat)}{f x:Nat × Nat × Nat}{y:Pv}(hy:PV[i]?=some y)(h:TwB PV (i+1) D f x):TwB PV i D f x∨∃g∈D,NT y.pr f g x∨NT y.pr g f x:=by
 obtain⟨v,hv,hb⟩:=h;rw[List.take_add_one,hy,List.mem_append] at hv;rcases hv with hv|hv
 ·exact .inl ⟨v,hv,hb⟩
 ·obtain rfl:v=y:=by simpa using hv
  exact .inr hb
theorem SI{N:List Txt}{E:List Ed}{labels:List Txt}{n:Nat}{p:Pr}{x:Nat × Nat × Nat}(h:JB (ElG ⟨N,E⟩ labels) n p x):EpA p n x∨EdA N E p labels E.length x:=by
 rcases h with ⟨h1,h2,h3,h4⟩|⟨s,h1,⟨lb,e1,e,he,rfl,e3,e4⟩,h4⟩
 ·exact .inl ⟨h1,h2,h3,h4⟩
 ·obtain⟨k,hk⟩:=List.getElem?_of_mem he;exact .inr ⟨s,h1,h4,k,(gO.1 hk).1,e,hk,e1,e3,e4⟩
def W1A(p:Pr)(D:List (Nat × Nat × Nat))(f:Nat × Nat × Nat)(v:Nat)(x:Nat × Nat × Nat):Prop:=∃g∈D,g.2.2<v∧NT p f g x
def W2A(p:Pr)(D:List (Nat × Nat × Nat))(f:Nat × Nat × Nat)(v:Nat)(x:Nat × Nat × Nat):Prop:=∃g∈D,g.2.1<v∧NT p g f x
theorem VJ{PV:List Pv}{L:List (Nat × Nat × Nat)}{k m:Nat}{f x:Nat × Nat × Nat}(hm:PV.length=m)(hf:L[k]?=some f)(h:TwA PV (L.take (k+1)) x):TwA PV (L.take k) x∨TwB PV m (L.take (k+1)) f x:=by
 have e:L.take (k+1)=L.take k++[f]:=by rw[List.take_add_one,hf];rfl
 have em:PV.take m=PV:=by rw[← hm,List.take_length]
 obtain⟨y,hy,a,ha,b,hb,ht⟩:=h;have ha2:=ha;have hb2:=hb;rw[e,List.mem_append,List.mem_singleton] at ha2 hb2;rcases ha2 with ha2|rfl
 ·rcases hb2 with hb2|rfl
  ·exact .inl ⟨y,hy,a,ha2,b,hb2,ht⟩
  ·exact .inr ⟨y,by rw[em];exact hy,a,ha,.inr ht⟩
 ·exact .inr ⟨y,by rw[em];exact hy,b,hb,.inl ht⟩
theorem xB{W:World}{base hb T n l c:Nat}{A:Option Addr}{Der C:Nat × Nat × Nat→Prop}{L:List (Nat × Nat × Nat)}(hok:Okf Der C L)(se:SeI W base hb T n A l c L)(hD:∀x,Der x→x.1<T∧x.2.1<n∧x.2.2<n)(hT:T≤512)(hn:n≤64):l≤2097152:=by
 have h1:=hok.len hD;rw[se.len] at h1;have h2:T*n*n≤512*64*64:=Nat.mul_le_mul (Nat.mul_le_mul hT hn) hn;omega
theorem DF(w:World)(T:Nat)(PA:Option Addr)(pc:Nat)(PV:List Pv)(hP:PvR w PA PV)(LA:Option Addr)(cl:Nat)(labels:List Txt)(hlab:aU w LA (aE labels))(NA:Option Addr)(nc:Nat)(N:List Txt)(hN:aU w NA (aE N))(EA:Option Addr)(ec:Nat)(E:List Ed)(hE:aU w EA (aP E))
  (hT:T≤512) (hn:N.length≤64) (hnd:N.Nodup) (hends:∀e∈E,e.fr∈N∧e.to∈N) (hsh:∀v∈PV,aT v.pr (T:Int) labels.length=true) (hme:E.length≤140737488355328) (hm:PV.length≤8192) :
  Calls Tryz.prog 28 #[.agg #[.int .i64 (T:Int),.slice PA PV.length pc],.slice LA labels.length cl,.agg #[.bool true,.slice NA N.length nc,.slice EA E.length ec]] w (XA w T N.length (DrA PV N E labels N.length)):=by
 obtain⟨n,hnl⟩:∃n,N.length=n:=⟨_,rfl⟩;obtain⟨m,hml⟩:∃m,PV.length=m:=⟨_,rfl⟩;obtain⟨me,hel⟩:∃me,E.length=me:=⟨_,rfl⟩;obtain⟨ln,hll⟩:∃ln,labels.length=ln:=⟨_,rfl⟩;have hhead:∀v∈PV,∃h:Nat,v.pr.head=(h:Int)∧h<T:=fun v hv=>by
  have:=kJ (hsh v hv);exact⟨v.pr.head.toNat,by omega,by omega⟩
 have hEl:∀k i j,ElG ⟨N,E⟩ labels k i j→i<n∧j<n:=fun k i j h=>by
  have h2:=ElG.lt h;rw[← hnl];exact h2
 have hDer:∀x,DrA PV N E labels n x→x.1<T∧x.2.1<n∧x.2.2<n:=fun x d=>by
  have h1:=yQ hEl d;obtain⟨k,e,hk⟩:=wO (T:=T) (fun p hp=>by
   obtain⟨y,hy,rfl⟩:=List.mem_map.1 hp;exact kJ (hsh y hy)) d
  exact⟨by omega,h1⟩
 rw[hnl,hml,hel,hll];rw[hnl] at hn;rw[hml] at hm;rw[hel] at hme;have b0:Below w.heap.size w (((w.alloc (.cells #[.int .i64 (T:Int),.slice PA m pc] 50)).alloc (.cells #[.bool true,.slice NA n nc,.slice EA me ec] 29)).alloc (.cells #[.int .i64 0,.int .i64 0,.slice none 0 0,.slice none 0 0] 76)):=by(repeat (first | exact Below.refl _ _ | apply Below.drew | refine Below.alloc ?_ (by first | exact Nat.le_refl _ | (simp;done) | (simp;omega)) _ | refine Below.setCell ?_ (by first | exact Nat.le_refl _ | (simp;done) | (simp;omega)) _))
 have k3:=((Blk.new w 50 #[.int .i64 (T:Int),.slice PA m pc]).alloc (.cells #[.bool true,.slice NA n nc,.slice EA me ec] 29)).alloc (.cells #[.int .i64 0,.int .i64 0,.slice none 0 0,.slice none 0 0] 76);have k5:=(Blk.new (w.alloc (.cells #[.int .i64 (T:Int),.slice PA m pc] 50)) 29 #[.bool true,.slice NA n nc,.slice EA me ec]).alloc (.cells #[.int .i64 0,.int .i64 0,.slice none 0 0,.slice none 0 0] 76);have k6:=Blk.new ((w.alloc (.cells #[.int .i64 (T:Int),.slice PA m pc] 50)).alloc (.cells #[.bool true,.slice NA n nc,.slice EA me ec] 29)) 76 #[.int .i64 0,.int .i64 0,.slice none 0 0,.slice none 0 0];simp only[World.size_alloc] at k5 k6
 have HU:=hIz (show FaU _ w.heap.size T PA m pc PV LA labels NA n nc EA me ec N E from⟨k3,k5,hP.below b0,hlab.below b0,hN.below b0,hE.below b0⟩);have H:=aI2 b0 k6;have HM:=aI4 hnl hml hel hll;have HD:=aI6 hhead hEl hDer hsh hnd hends;clear b0 k3 k5 k6 hP hlab hN hE hnl hml hel hll hhead hEl hDer hsh hnd hends;go_enter Tryz.func28,Tryz.ntmps28;go_upto_region 1 with (fail);generalize ((w.alloc (.cells #[.int .i64 (T:Int),.slice PA m pc] 50)).alloc (.cells #[.bool true,.slice NA n nc,.slice EA me ec] 29)).alloc (.cells #[.int .i64 0,.int .i64 0,.slice none 0 0,.slice none 0 0] 76)=W0 at HU H ⊢;have hz0:w.heap.size+2<W0.heap.size:=H.out.2.lt;have q0:W0.cell? ⟨w.heap.size,0,none⟩=some (.int .i64 (T:Int)):=HU.out.k3.cell 0;have p1:W0.cell? ⟨w.heap.size+1,1,none⟩=some (.slice NA n nc):=HU.out.k5.cell 1;have hcon:=DB W0 T n hT hn;go_wp2_with fail;refine hcon.mono ?_;clear hcon q0 p1;rintro e W1 ⟨hb,rfl,se1,b1⟩;have HFM:=hIz (show FaM W0 (fun _=>False) (W1.alloc (.cells (setC T n hb none 0 0) 76)) W0.heap.size W1.heap.size hb T n [] from⟨⟨none,0,0,Blk.new _ _ _,se1.below (bR.alloc (Nat.le_refl _) _),fun q hq=>by have:=(se1.ltb q hq).2;omega,fun q hq=>.inr (hq.elim (fun e=>by rw[e];exact b1.size) (fun h=>(se1.ltb q h).1))⟩,(Upd.of_below b1 _).alloc _⟩);have hz1:W0.heap.size≤W1.heap.size:=b1.size;clear se1 b1;unfold kY;go_upto_region 3 with (fail);unfold setC at HFM;generalize W1.alloc (.cells #[.int .i64 (T:Int),.int .i64 (n:Int),.slice (some ⟨hb,0,none⟩) (T*n*n) (T*n*n),.slice none 0 0] 76)=W2 at HFM ⊢
 obtain⟨z,hz⟩:∃z,W1.heap.size=z:=⟨_,rfl⟩;rw[hz] at HFM hz1 ⊢;clear hz;have SZ:=hIz (show ∀V L,FaM W0 (fun _=>False) V W0.heap.size z hb T n L→Below W0.heap.size W0 V from fun V L h=>lZ h.up);go_wp2;go_loopw [9] (fun iv wr=>∃i:Nat,i≤m∧iv=.int .i64 (i:Int)∧Hid (∃L,FaM W0 (fun _=>False) wr W0.heap.size z hb T n L∧Okf (DrA PV N E labels n) (BsA PV N E labels n i) L)) (fun iv _=>m-(intOf iv).toNat)
 case atStart=>exact⟨0,Nat.zero_le _,rfl,hIz ⟨[],HFM.out,⟨fun x hx=>(by cases hx),List.nodup_nil,fun x hx=>(by obtain⟨y,hy,_⟩:=hx;cases hy)⟩⟩⟩
 case round =>
  obtain⟨i,hi,rfl,hr⟩:=hrel;obtain⟨L,hfm,hok⟩:=hr.out;have hU:=HU.out.below (SZ.out _ _ hfm);have q1:wr.cell? ⟨w.heap.size,1,none⟩=some (.slice PA m pc):=hU.k3.cell 1;by_cases him:i<m
  ·have hiI:(i:Int)<(m:Int):=by omega
   have hkw:IntKind.i64.wrap ((i:Int)+1)=(i:Int)+1:=IntWalk.i64_in _ (by omega);obtain⟨y,hy⟩:∃y,PV[i]?=some y:=⟨PV[i]'(by rw[HM.out.2.1];exact him),gEz _⟩;have hym:=mG hy;obtain⟨gb,gof,rfl,c0,c1⟩:=hU.pv.1.pv hy;obtain⟨h,hh,hhT⟩:=HD.out.1 y hym;obtain⟨bl,hbl⟩:∃bl,y.pr.body.length=bl:=⟨_,rfl⟩;rw[hh] at c0;rw[hbl] at c1;have b3:Below wr.heap.size wr (wr.alloc (.cells #[.int .i64 (h:Int),.slice y.adr bl y.cap] 71)):=bR.alloc (Nat.le_refl _) _;have k10:=Blk.new wr 71 #[.int .i64 (h:Int),.slice y.adr bl y.cap];obtain⟨F3,hfm3,hF3,hup3,hback3⟩:=hfm.move b3;have hz10F:¬F3 wr.heap.size:=fun hF=>by have:=(hF3 _ hF).1;omega
   have HY:=aI8 hy hym hh hbl k10 hz10F hup3 hback3;have HFM3:=aI2 hfm3 hok;clear hr hfm hok hU hy hym hh hbl b3 k10 hfm3 hF3 hz10F hup3 hback3;go_upto_region 7 with (fail);clear c0 c1 q1;generalize wr.alloc (.cells #[.int .i64 (h:Int),.slice y.adr bl y.cap] 71)=W3 at HY HFM3 ⊢;obtain⟨z10,hz10⟩:∃z10,wr.heap.size=z10:=⟨_,rfl⟩;rw[hz10] at HY ⊢;clear hz10;go_wp2;go_loopw [11] (fun uv wr=>∃u:Nat,u≤n∧uv=.int .i64 (u:Int)∧Hid (∃L,FaM W3 F3 wr W0.heap.size z hb T n L∧Okf (DrA PV N E labels n) (fun x=>BsA PV N E labels n i x∨EpA y.pr u x) L)) (fun uv _=>n-(intOf uv).toNat)
   case atStart=>exact⟨0,Nat.zero_le _,rfl,hIz ⟨L,HFM3.out.1,HFM3.out.2.mono (fun x hx=>hx.elim id (fun h=>by have:=h.2.1;omega))⟩⟩
   case round =>
    obtain⟨u,hu,rfl,hr⟩:=hrel;obtain⟨L2,hfm,hok⟩:=hr.out;have K10:=HY.out.2.2.2.2.1.upd hfm.up HY.out.2.2.2.2.2.1;have hs0:=(HY.out.2.2.2.2.2.2.1 _ hfm.up).size;have e0:wr.cell? ⟨z10,0,none⟩=some (.int .i64 (h:Int)):=K10.cell 0;have e1:wr.cell? ⟨z10,1,none⟩=some (.slice y.adr bl y.cap):=K10.cell 1;clear hr K10;by_cases hA:u<n∧bl=0
    ·obtain⟨hun,rfl⟩:=hA;have huI:(u:Int)<(n:Int):=by omega
     have hkw2:IntKind.i64.wrap ((u:Int)+1)=(u:Int)+1:=IntWalk.i64_in _ (by omega);have hder:DrA PV N E labels n (h,u,u):=BD (List.mem_map.2 ⟨y,HY.out.2.1,rfl⟩) (by rw[HY.out.2.2.1];omega) (.inl ⟨List.length_eq_zero_iff.1 HY.out.2.2.2.1,hun,rfl,by rw[HY.out.2.2.1];rfl⟩);obtain⟨A2,l2,c2,kz,se2,hne2,hF2⟩:=hfm.ex;have hl2:=xB hok se2 HD.out.2.2.1 hT hn;have d0:wr.cell? ⟨z,0,none⟩=some (.int .i64 (T:Int)):=kz.cell 0;have d1:wr.cell? ⟨z,1,none⟩=some (.int .i64 (n:Int)):=kz.cell 1;have d2:wr.cell? ⟨z,2,none⟩=some (.slice (some ⟨hb,0,none⟩) (T*n*n) (T*n*n)):=kz.cell 2;have d3:wr.cell? ⟨z,3,none⟩=some (.slice A2 l2 c2):=kz.cell 3;have hcon:=nT wr W0.heap.size hb T n l2 c2 A2 L2 se2 (hs0) hT hn (by omega) h u u hhT hun hun;unfold kY at hcon;have HX:=aI5 hfm.up hF2 kz hne2 (hok.put hder);clear hfm hok kz se2 hne2 hF2 hder;clear hs0;go_wp2_with fail;refine hcon.mono ?_;clear hcon d0 d1 d2 d3 e0 e1;rintro e W5 ⟨A5,l5,c5,rfl,se5,up5,pl5⟩;obtain⟨kz5,hfin⟩:=tY HX.out.1 HX.out.2.1 HX.out.2.2.1 HX.out.2.2.2.1 se5 up5 pl5;have d0:W5.cell? ⟨z,0,none⟩=some (.int .i64 (T:Int)):=kz5.cell 0;have d1:W5.cell? ⟨z,1,none⟩=some (.int .i64 (n:Int)):=kz5.cell 1;have d2:W5.cell? ⟨z,2,none⟩=some (.slice (some ⟨hb,0,none⟩) (T*n*n) (T*n*n)):=kz5.cell 2;have d3:W5.cell? ⟨z,3,none⟩=some (.slice A2 l2 c2):=kz5.cell 3;have g0:=kz5.frozen 0;have g1:=kz5.frozen 1;have g2:=kz5.frozen 2;have g3:=kz5.frozen 3;have HN:=aI3 kz5 hfin (up5.size);clear kz5 hfin se5 up5 pl5;unfold kY;go_wp2;clear d0 d1 d2 d3 g0 g1 g2 g3;go_roundw
     case rel =>
      refine⟨u+1,by omega,by go_num,hIz ⟨_,HN.out.2.1 _ ?_ ?_,HX.out.2.2.2.2.mono (fun x hx=>?_)⟩⟩
      ·exact iV _ _ _ _ _ _
      ·exact((((HN.out.1.set 0 _).set 1 _).set 2 _).set 3 _)
      ·rcases hx with hx|⟨h1,h2,h3,h4⟩
       ·exact .inl (.inl hx)
       ·rcases Nat.lt_succ_iff_lt_or_eq.1 h2 with h5|h5
        ·exact .inl (.inr ⟨h1,h5,h3,h4⟩)
        ·rw[HY.out.2.2.1] at h4;exact .inr (by obtain⟨a,b,c⟩:=x;dsimp only at h3 h4 h5;rw[← h3,h5,h4];rfl)
     case measure=>simp[intOf];omega
    ·have hok3:Okf (DrA PV N E labels n) (fun x=>BsA PV N E labels n i x∨EpA y.pr n x) L2:=hok.mono (fun x hx=>hx.elim .inl (fun h=>by
      have h0:bl=0:=by rw[← HY.out.2.2.2.1,h.1];rfl
      exact .inr ⟨h.1,by have:=h.2.1;omega,h.2.2⟩))
     have HOK:=aI2 hfm hok3;have hex:((u:Int)<(n:Int)∧((bl:Int)==0)=false)∨¬(u:Int)<(n:Int):=by
      by_cases hun:u<n
      ·exact .inl ⟨by omega,by rw[beq_eq_false_iff_ne];omega⟩
      ·exact .inr (by omega)
     clear hok3 hfm hok hs0 e0 hA;rcases hex with ⟨x1,x2⟩|x1
     all_goals
      go_wp2;clear e1;try clear x1
      try clear x2
      go_loopw [12] (fun kv wr=>∃k:Nat,k≤me∧kv=.int .i64 (k:Int)∧Hid (∃L,FaM W3 F3 wr W0.heap.size z hb T n L∧Okf (DrA PV N E labels n) (fun x=>(BsA PV N E labels n i x∨EpA y.pr n x)∨EdA N E y.pr labels k x) L)) (fun kv _=>me-(intOf kv).toNat)
      case atStart=>exact⟨0,Nat.zero_le _,rfl,hIz ⟨L2,HOK.out.1,HOK.out.2.mono (fun x hx=>hx.elim id (fun h=>by obtain⟨s,-,-,k',hk',-⟩:=h;omega))⟩⟩
      case round =>
       obtain⟨k,hk,rfl,hr⟩:=hrel;obtain⟨L2,hfm,hok⟩:=hr.out;have K10:=HY.out.2.2.2.2.1.upd hfm.up HY.out.2.2.2.2.2.1;have hbw0:=lZ (HY.out.2.2.2.2.2.2.1 _ hfm.up);have hU:=HU.out.below hbw0;have e1:wr.cell? ⟨z10,1,none⟩=some (.slice y.adr bl y.cap):=K10.cell 1;have p2:wr.cell? ⟨w.heap.size+1,2,none⟩=some (.slice EA me ec):=hU.k5.cell 2;clear hr;by_cases hA:k<me∧bl=1
       ·obtain⟨hkm,rfl⟩:=hA;have hkI:(k:Int)<(me:Int):=by omega
        have hkw3:IntKind.i64.wrap ((k:Int)+1)=(k:Int)+1:=IntWalk.i64_in _ (by omega);obtain⟨s,hs,hs0,hs1⟩:∃s,y.pr.body=[s]∧0≤s.at_∧s.at_<(labels.length:Int):=by
         rcases pR (HD.out.2.2.2.1 y HY.out.2.1) with h1|⟨s,h1,h2,h3⟩|⟨s,t,h1⟩
         ·have:=HY.out.2.2.2.1;rw[h1] at this;cases this
         ·exact⟨s,h1,h2,h3⟩
         ·have:=HY.out.2.2.2.1;rw[h1] at this;cases this
        obtain⟨sn,hsn⟩:∃sn:Nat,s.at_=(sn:Int):=⟨s.at_.toNat,by omega⟩;have hsl:sn<ln:=by rw[← HM.out.2.2.2];omega
        have hslI:(sn:Int)<(ln:Int):=by omega
        have hsy:y.pr.body[0]?=some s:=by rw[hs];rfl
        obtain⟨⟨s0,s1,s2⟩,hx⟩:∃x,E[k]?=some x:=⟨E[k]'(by rw[HM.out.2.2.1];exact hkm),gEz _⟩;obtain⟨lb,hlb⟩:∃lb,labels[sn]?=some lb:=⟨labels[sn]'(by rw[HM.out.2.2.2];exact hsl),gEz _⟩;obtain⟨eb,eo,hEA,x0,x1,x2⟩:=hU.ea.ed hx;obtain⟨lbb,lo,hLA,l0⟩:=hU.lab.txt hlb;obtain⟨sb,so,hadr,-,sy1⟩:=(hU.pv.2 y HY.out.2.1).sym hsy;rw[hadr] at e1;rw[hEA] at p2;rw[hsn] at sy1;have sy1:wr.cell? ⟨sb,so+1,none⟩=some (.int .i64 (sn:Int)):=by simpa using sy1
        dsimp only at x0 x1 x2
        have b4:Below wr.heap.size wr (wr.alloc (.cells #[.string s0,.string s1,.string s2] 32)):=bR.alloc (Nat.le_refl _) _;have k13:=Blk.new wr 32 #[.string s0,.string s1,.string s2];have hS:(fun V=>V.cell? ⟨wr.heap.size,1,none⟩=some (.string s1)∧V.cell? ⟨z10,1,none⟩=some (.slice (some ⟨sb,so,none⟩) 1 y.cap)∧V.cell? ⟨sb,so+1,none⟩=some (.int .i64 (sn:Int))∧V.cell? ⟨lbb,lo+sn,none⟩=some (.string lb)) (wr.alloc (.cells #[.string s0,.string s1,.string s2] 32)):=⟨k13.cell 1,bQ b4 e1,bQ b4 sy1,bQ b4 l0⟩;have k5x:=(hU.below b4).k5;rw[hEA] at k5x;have HV:=aI7 (hfm.below b4) (K10.upd (upF b4) id) k13 k5x (hU.below b4).na hok (tHn hbw0 b4);have HX0:=aI5 hs hsn hx hlb hEA;obtain⟨A2,l2,c2,kz,se2,hne2,hF2⟩:=hfm.ex;have hl2:=xB hok se2 HD.out.2.2.1 hT hn;have HS:=aI5 (kz.upd (upF b4) id) (se2.below b4) hne2 hF2 (fun q hq=>se2.ltb q hq);clear hfm K10 hbw0 hU k13 b4 hok hs hs0 hs1 hsn hsl hsy hx hlb hadr k5x kz se2 hne2 hF2;subst hLA;go_upto_region 15 with (fail);clear x0 x1 x2 l0 e1 p2 sy1;obtain⟨z13,hz13⟩:∃z13,wr.heap.size=z13:=⟨_,rfl⟩;generalize hV4:wr.alloc (.cells #[.string s0,.string s1,.string s2] 32)=V4 at HV hS HS ⊢;have hz4:V4.heap.size=z13+1:=by rw[← hV4,← hz13];simp
        rw[hz13] at HV hS HS ⊢;clear hV4 hz13;have hS:(fun V=>V.cell? ⟨z13,1,none⟩=some (.string s1)∧V.cell? ⟨z10,1,none⟩=some (.slice (some ⟨sb,so,none⟩) 1 y.cap)∧V.cell? ⟨sb,so+1,none⟩=some (.int .i64 (sn:Int))∧V.cell? ⟨lbb,lo+sn,none⟩=some (.string lb)) V4.drew:=hS;by_cases hle:s1=lb
        ·have he:(ByteArray.toList s1==ByteArray.toList lb)=true:=by rw[txt_beq];exact decide_eq_true hle
         have HLE:=hIz hle;clear hle;refine aF (fun V=>V.cell? ⟨z13,1,none⟩=some (.string s1)∧V.cell? ⟨z10,1,none⟩=some (.slice (some ⟨sb,so,none⟩) 1 y.cap)∧V.cell? ⟨sb,so+1,none⟩=some (.int .i64 (sn:Int))∧V.cell? ⟨lbb,lo+sn,none⟩=some (.string lb)) 11 [(0,true),(1,true),(2,true),(3,true),(4,true),(5,true),(6,true),(7,true),(8,true),(9,true),(10,true)] hS ?_;clear hS
         iterate 11 refine aC rfl ?_
         refine aG ?_;go_upto_region 16 with (fail);obtain⟨i0,hi0⟩:=List.getElem?_of_mem (HD.out.2.2.2.2.2 _ (mG HX0.out.2.2.1)).1;obtain⟨j0,hj0⟩:=List.getElem?_of_mem (HD.out.2.2.2.2.2 _ (mG HX0.out.2.2.1)).2;dsimp only at hi0 hj0
         have hi0n:i0<n:=by have:=(gO.1 hi0).1;rw[HM.out.1] at this;exact this
         have hj0n:j0<n:=by have:=(gO.1 hj0).1;rw[HM.out.1] at this;exact this
         have hder:DrA PV N E labels n (h,i0,j0):=BD (List.mem_map.2 ⟨y,HY.out.2.1,rfl⟩) (by rw[HY.out.2.2.1];omega) (.inr ⟨s,HX0.out.1,⟨lb,by rw[HX0.out.2.1];exact HX0.out.2.2.2.1,⟨s0,s1,s2⟩,mG HX0.out.2.2.1,HLE.out,hi0,hj0⟩,by rw[HY.out.2.2.1];rfl⟩);have SR:=hIz (show ∀V,Blk V z 76 (setC T n hb A2 l2 c2)→Blk V z10 71 #[.int .i64 (h:Int),.slice y.adr 1 y.cap]→Blk V (w.heap.size+1) 29 #[.bool true,.slice NA n nc,.slice (some ⟨eb,eo,none⟩) me ec]→Blk V z13 32 #[.string s0,.string s1,.string s2]→(fun V=>V.cell? ⟨z,0,none⟩=some (.int .i64 (T:Int))∧V.cell? ⟨z,1,none⟩=some (.int .i64 (n:Int))∧V.cell? ⟨z,2,none⟩=some (.slice (some ⟨hb,0,none⟩) (T*n*n) (T*n*n))∧V.cell? ⟨z,3,none⟩=some (.slice A2 l2 c2)∧V.cell? ⟨z10,0,none⟩=some (.int .i64 (h:Int))∧V.cell? ⟨w.heap.size+1,0,none⟩=some (.bool true)∧V.cell? ⟨w.heap.size+1,1,none⟩=some (.slice NA n nc)∧V.cell? ⟨w.heap.size+1,2,none⟩=some (.slice (some ⟨eb,eo,none⟩) me ec)∧V.cell? ⟨z13,0,none⟩=some (.string s0)∧V.cell? ⟨z13,2,none⟩=some (.string s2)) V from fun V k1 k2 k3 k4=>⟨k1.cell 0,k1.cell 1,k1.cell 2,k1.cell 3,k2.cell 0,k3.cell 0,k3.cell 1,k3.cell 2,k4.cell 0,k4.cell 2⟩);have NUM:=hIz (show ∀(q:Txt) (x:Nat) (k:Int),N[x]?=some q→VX N q k→k=(x:Int) from fun q x k hx hk=>by
          rcases hk with ⟨i,rfl,h1,-⟩|⟨-,h1⟩
          ·rw[JN HD.out.2.2.2.2.1 h1 hx]
          ·exact absurd (mG hx) h1)
         have HB5:=hIz (show Below V4.heap.size V4 V4.drew.drew from bR.drew.drew);have hS:(fun V=>V.cell? ⟨z,0,none⟩=some (.int .i64 (T:Int))∧V.cell? ⟨z,1,none⟩=some (.int .i64 (n:Int))∧V.cell? ⟨z,2,none⟩=some (.slice (some ⟨hb,0,none⟩) (T*n*n) (T*n*n))∧V.cell? ⟨z,3,none⟩=some (.slice A2 l2 c2)∧V.cell? ⟨z10,0,none⟩=some (.int .i64 (h:Int))∧V.cell? ⟨w.heap.size+1,0,none⟩=some (.bool true)∧V.cell? ⟨w.heap.size+1,1,none⟩=some (.slice NA n nc)∧V.cell? ⟨w.heap.size+1,2,none⟩=some (.slice (some ⟨eb,eo,none⟩) me ec)∧V.cell? ⟨z13,0,none⟩=some (.string s0)∧V.cell? ⟨z13,2,none⟩=some (.string s2)) V4.drew.drew:=SR.out _ HS.out.1 HV.out.2.1 HV.out.2.2.2.1 HV.out.2.2.1;have hcon:=pW V4.drew.drew true NA nc N (HV.out.2.2.2.2.1.below HB5.out) (by rw[HM.out.1];omega) (.slice (some ⟨eb,eo,none⟩) me ec) s0;rw[HM.out.1] at hcon;have HI:=aI3 hi0 hj0 hder;clear hi0 hj0 hder;refine aF (fun V=>V.cell? ⟨z,0,none⟩=some (.int .i64 (T:Int))∧V.cell? ⟨z,1,none⟩=some (.int .i64 (n:Int))∧V.cell? ⟨z,2,none⟩=some (.slice (some ⟨hb,0,none⟩) (T*n*n) (T*n*n))∧V.cell? ⟨z,3,none⟩=some (.slice A2 l2 c2)∧V.cell? ⟨z10,0,none⟩=some (.int .i64 (h:Int))∧V.cell? ⟨w.heap.size+1,0,none⟩=some (.bool true)∧V.cell? ⟨w.heap.size+1,1,none⟩=some (.slice NA n nc)∧V.cell? ⟨w.heap.size+1,2,none⟩=some (.slice (some ⟨eb,eo,none⟩) me ec)∧V.cell? ⟨z13,0,none⟩=some (.string s0)∧V.cell? ⟨z13,2,none⟩=some (.string s2)) 13 [(0,true),(1,true),(2,true),(3,true),(4,true),(5,true),(7,true),(8,true),(9,true),(6,false),(10,false),(11,true),(12,false),(13,false)] hS ?_
         clear hS;generalize V4.drew.drew=V5 at HB5 hcon ⊢
         iterate 9 refine aC rfl ?_
         refine aN rfl rfl (fun K hK=>?_);go_simp;refine hcon.mono ?_;clear hcon;rintro e W6 ⟨k1,rfl,hk1,b6⟩;obtain rfl:=NUM.out _ _ _ HI.out.1 hk1;clear hk1;have HB6:=hIz (tHn HB5.out b6);have hu6:=Upd.of_below HB6.out (fun _=>False);have hS:=SR.out W6 (HS.out.1.upd hu6 id) (HV.out.2.1.upd hu6 id) (HV.out.2.2.2.1.upd hu6 id) (HV.out.2.2.1.upd hu6 id);have hcon:=pW W6 true NA nc N (HV.out.2.2.2.2.1.below HB6.out) (by rw[HM.out.1];omega) (.slice (some ⟨eb,eo,none⟩) me ec) s2;rw[HM.out.1] at hcon;clear b6 hu6;refine hK _ _ (fun _=>hS) ?_;clear hK K hS;(try simp only[Act.put,gA,gS,gZ,sA,sZ,sS])
         refine aN rfl rfl (fun K hK=>?_);go_simp;refine hcon.mono ?_;clear hcon;rintro e W7 ⟨k1,rfl,hk1,b7⟩;obtain rfl:=NUM.out _ _ _ HI.out.2.1 hk1;clear hk1;have HB7:=hIz (tHn HB6.out b7);have hu7:=Upd.of_below HB7.out (fun _=>False);have K7:=aI4 (HS.out.1.upd hu7 id) (HV.out.2.1.upd hu7 id) (HV.out.2.2.2.1.upd hu7 id) (HV.out.2.2.1.upd hu7 id);have hS:=SR.out W7 K7.out.1 K7.out.2.1 K7.out.2.2.1 K7.out.2.2.2;have hcon:=nT W7 W0.heap.size hb T n l2 c2 A2 L2 (HS.out.2.1.below HB7.out) (Nat.le_trans HV.out.2.2.2.2.2.2.size HB7.out.size) hT hn (by omega) h i0 j0 hhT hi0n hj0n;unfold kY at hcon;clear b7 hu7;refine hK _ _ (fun _=>hS) ?_;clear hK K hS;(try simp only[Act.put,gA,gS,gZ,sA,sZ,sS])
         refine aC rfl ?_;refine aN rfl rfl (fun K hK=>?_);go_simp;refine hcon.mono ?_;clear hcon;rintro e W5 ⟨A5,l5,c5,rfl,se5,up5,pl5⟩;obtain⟨kz5,hfin⟩:=tY (W:=W3) (F:=F3) ((HV.out.1.below HB7.out).up) HS.out.2.2.2.1 K7.out.1 HS.out.2.2.1 se5 up5 pl5;have hq10:¬SeO hb A2 l2 c2 z10:=fun hq=>(HS.out.2.2.2.1 z10 (.inr hq)).elim HY.out.2.2.2.2.2.1 (fun h=>by have:=HY.out.2.2.2.2.1.lt;omega)
         have hqw:¬SeO hb A2 l2 c2 (w.heap.size+1):=fun hq=>by have:=(HS.out.2.2.2.2 _ hq).1;omega
         have hq13:¬SeO hb A2 l2 c2 z13:=fun hq=>by have:=(HS.out.2.2.2.2 _ hq).2;omega
         have hS:=SR.out W5 kz5 (K7.out.2.1.upd up5 hq10) (K7.out.2.2.1.upd up5 hqw) (K7.out.2.2.2.upd up5 hq13);have d0:W5.cell? ⟨z,0,none⟩=some (.int .i64 (T:Int)):=kz5.cell 0;have d1:W5.cell? ⟨z,1,none⟩=some (.int .i64 (n:Int)):=kz5.cell 1;have d2:W5.cell? ⟨z,2,none⟩=some (.slice (some ⟨hb,0,none⟩) (T*n*n) (T*n*n)):=kz5.cell 2;have d3:W5.cell? ⟨z,3,none⟩=some (.slice A2 l2 c2):=kz5.cell 3;have g0:=kz5.frozen 0;have g1:=kz5.frozen 1;have g2:=kz5.frozen 2;have g3:=kz5.frozen 3;have HN:=aI3 kz5 hfin (HV.out.2.2.2.2.2.1.put HI.out.2.2);clear kz5 hfin se5 up5 pl5 hq10 hqw hq13;refine hK _ _ (fun _=>hS) ?_;clear hK K hS;unfold kY;(try simp only[Act.put,gA,gS,gZ,sA,sZ,sS])
         refine aN rfl rfl (fun K hK=>?_);go_simp;refine hK _ _ (fun h=>absurd rfl h) ?_;clear hK K;(try simp only[Act.put,gA,gS,gZ,sA,sZ,sS])
         refine aG ?_;clear d0 d1 d2 d3 g0 g1 g2 g3;go_wp2;go_roundw
         case rel =>
          refine⟨k+1,by omega,by go_num,hIz ⟨_,HN.out.2.1 _ ?_ ?_,HN.out.2.2.mono (fun x hx=>?_)⟩⟩
          ·exact iV _ _ _ _ _ _
          ·exact((((HN.out.1.set 0 _).set 1 _).set 2 _).set 3 _)
          ·rcases hx with hx|⟨s',h1,h2,k',h3,e,h4,h5,h6,h7⟩
           ·exact .inl (.inl hx)
           ·rcases Nat.lt_succ_iff_lt_or_eq.1 h3 with h8|rfl
            ·exact .inl (.inr ⟨s',h1,h2,k',h8,e,h4,h5,h6,h7⟩)
            ·refine .inr ?_;rw[HX0.out.2.2.1] at h4;obtain rfl:=Option.some.inj h4;obtain⟨a,b,c⟩:=x;dsimp only at h2 h6 h7
             rw[JN HD.out.2.2.2.2.1 h6 HI.out.1,JN HD.out.2.2.2.2.1 h7 HI.out.2.1,h2,HY.out.2.2.1];rfl
         case measure=>simp[intOf];omega
        ·have he:(ByteArray.toList s1==ByteArray.toList lb)=false:=by rw[txt_beq];exact decide_eq_false hle
         have HN:=hIz (show Okf (DrA PV N E labels n) (fun x=>(BsA PV N E labels n i x∨EpA y.pr n x)∨EdA N E y.pr labels (k+1) x) L2 from HV.out.2.2.2.2.2.1.mono (fun x hx=>hx.elim .inl (fun h=>by
          obtain⟨s',h1,h2,k',h3,e,h4,h5,h6⟩:=h;rcases Nat.lt_succ_iff_lt_or_eq.1 h3 with h7|rfl
          ·exact .inr ⟨s',h1,h2,k',h7,e,h4,h5,h6⟩
          ·exfalso
           rw[HX0.out.1] at h1;injection h1 with h1 _;subst h1;rw[HX0.out.2.2.1] at h4;obtain rfl:=Option.some.inj h4;rw[HX0.out.2.1,Int.toNat_natCast,HX0.out.2.2.2.1] at h5;exact hle (Option.some.inj h5).symm)))
         clear hle;refine aF (fun V=>V.cell? ⟨z13,1,none⟩=some (.string s1)∧V.cell? ⟨z10,1,none⟩=some (.slice (some ⟨sb,so,none⟩) 1 y.cap)∧V.cell? ⟨sb,so+1,none⟩=some (.int .i64 (sn:Int))∧V.cell? ⟨lbb,lo+sn,none⟩=some (.string lb)) 11 [(0,true),(1,true),(2,true),(3,true),(4,true),(5,true),(6,true),(7,true),(8,true),(9,true),(10,true)] hS ?_;clear hS
         iterate 11 refine aC rfl ?_
         refine aG ?_;go_wp2;go_roundw
         case rel=>exact⟨k+1,by omega,by go_num,hIz ⟨L2,HV.out.1.below bR.drew,HN.out⟩⟩
         case measure=>simp[intOf];omega
       ·have HN:=hIz (show FaM W0 (fun _=>False) wr W0.heap.size z hb T n L2∧Okf (DrA PV N E labels n) (BsA PV N E labels n (i+1)) L2 from⟨HY.out.2.2.2.2.2.2.2 _ _ hfm,hok.mono (fun x hx=>by
         rcases SH HY.out.1 hx with hx|hx
         ·exact .inl (.inl hx)
         ·rcases SI hx with hx|hx
          ·exact .inl (.inr hx)
          ·refine .inr ?_;rw[HM.out.2.2.1] at hx;obtain⟨s,h1,h2⟩:=hx;have h3:bl=1:=by rw[← HY.out.2.2.2.1,h1];rfl
           have h4:k=me:=by omega
           rw[h4];exact⟨s,h1,h2⟩)⟩)
        have hex:((k:Int)<(me:Int)∧((bl:Int)==1)=false)∨¬(k:Int)<(me:Int):=by
         by_cases hun:k<me
         ·exact .inl ⟨by omega,by rw[beq_eq_false_iff_ne];omega⟩
         ·exact .inr (by omega)
        clear hfm hok hA hU hbw0 K10;rcases hex with ⟨x1,x2⟩|x1
        all_goals
         go_wp2;clear e1 p2;go_roundw
         case rel=>exact⟨i+1,by omega,by go_num,hIz ⟨L2,HN.out⟩⟩
         case measure=>simp[intOf];omega
  ·obtain rfl:m=i:=by omega
   have hiI:¬(m:Int)<(m:Int):=by omega
   have HP1:=aI2 hfm hok;clear hr hU hfm hok;go_wp2;clear q1;go_loopw [14] (fun av wr=>∃k:Nat,av=.int .i64 (k:Int)∧Hid (∃L,k≤L.length∧FaM W0 (fun _=>False) wr W0.heap.size z hb T n L∧Okf (DrA PV N E labels n) (fun x=>BsA PV N E labels n m x∨TwA PV (L.take k) x) L)) (fun av _=>T*n*n-(intOf av).toNat)
   case atStart=>exact⟨0,rfl,hIz ⟨L,Nat.zero_le _,HP1.out.1,HP1.out.2.mono (fun x hx=>hx.elim id (fun h=>by obtain⟨y,-,f,hf,-⟩:=h;simp at hf))⟩⟩
   case round =>
    obtain⟨k,rfl,hr⟩:=hrel;obtain⟨L,hkL,hfm,hok⟩:=hr.out;obtain⟨A2,l2,c2,kz,se2,hne2,hF2⟩:=hfm.ex;have hl2:=xB hok se2 HD.out.2.2.1 hT hn;have hlt:=hok.len HD.out.2.2.1;have hll:=se2.len;rw[hll] at hkL hlt;have d3:wr.cell? ⟨z,3,none⟩=some (.slice A2 l2 c2):=kz.cell 3;by_cases hkl:k<l2
    ·have hkI:(k:Int)<(l2:Int):=by omega
     have hkw6:IntKind.i64.wrap ((k:Int)+1)=(k:Int)+1:=IntWalk.i64_in _ (by omega);obtain⟨⟨f0,f1,f2⟩,hf⟩:∃f,L[k]?=some f:=⟨L[k]'(by rw[hll];exact hkl),gEz _⟩;obtain⟨fb,fo,rfl,x0,x1,x2⟩:=(aU.of_own se2.own).fact hf;dsimp only at x0 x1 x2
     have b3:Below wr.heap.size wr (wr.alloc (.cells #[.int .i64 (f0:Int),.int .i64 (f1:Int),.int .i64 (f2:Int)] 52)):=bR.alloc (Nat.le_refl _) _;have k15:=Blk.new wr 52 #[.int .i64 (f0:Int),.int .i64 (f1:Int),.int .i64 (f2:Int)];obtain⟨F4,hfm4,hF4,hup4,hback4⟩:=hfm.move b3;have hfd:=hok.snd _ (mG hf);have hz15F:¬F4 wr.heap.size:=fun hF=>by have:=(hF4 _ hF).1;omega
     have HF:=aI7 hf (HD.out.2.2.1 _ hfd) hfd k15 hz15F hup4 hback4;have HO:=aI3 hfm4 hok hll;clear hr hfm hok kz se2 hne2 hF2 hf b3 k15 hfm4 hF4 hup4 hback4 hfd hz15F hll;go_upto_region 21 with (fail);clear x0 x1 x2 d3;generalize wr.alloc (.cells #[.int .i64 (f0:Int),.int .i64 (f1:Int),.int .i64 (f2:Int)] 52)=W4 at HF HO ⊢;obtain⟨z15,hz15⟩:∃z15,wr.heap.size=z15:=⟨_,rfl⟩;rw[hz15] at HF ⊢;clear hz15;go_wp2;go_loopw [16] (fun iv wr=>∃i:Nat,i≤m∧iv=.int .i64 (i:Int)∧Hid (∃L2,L.take (k+1) <+: L2∧FaM W4 F4 wr W0.heap.size z hb T n L2∧Okf (DrA PV N E labels n) (fun x=>(BsA PV N E labels n m x∨TwA PV (L.take k) x)∨TwB PV i (L.take (k+1)) (f0,f1,f2) x) L2)) (fun iv _=>m-(intOf iv).toNat)
     case atStart=>exact⟨0,Nat.zero_le _,rfl,hIz ⟨L,List.take_prefix _ _,HO.out.1,HO.out.2.1.mono (fun x hx=>hx.elim id (fun h=>by obtain⟨y,hy,-⟩:=h;cases hy))⟩⟩
     case round =>
      obtain⟨i,hi,rfl,hr⟩:=hrel;obtain⟨L2,hpre,hfm,hok⟩:=hr.out;have hU:=HU.out.below (lZ (HF.out.2.2.2.2.2.1 _ hfm.up));have q1:wr.cell? ⟨w.heap.size,1,none⟩=some (.slice PA m pc):=hU.k3.cell 1;by_cases him:i<m
      ·have hiI:(i:Int)<(m:Int):=by omega
       have hkw:IntKind.i64.wrap ((i:Int)+1)=(i:Int)+1:=IntWalk.i64_in _ (by omega);obtain⟨y,hy⟩:∃y,PV[i]?=some y:=⟨PV[i]'(by rw[HM.out.2.1];exact him),gEz _⟩;have hym:=mG hy;obtain⟨gb,gof,hPA,c0,c1⟩:=hU.pv.1.pv hy;rw[hPA] at q1;obtain⟨h,hh,hhT⟩:=HD.out.1 y hym;obtain⟨bl,hbl⟩:∃bl,y.pr.body.length=bl:=⟨_,rfl⟩;rw[hh] at c0;rw[hbl] at c1;have b5:Below wr.heap.size wr (wr.alloc (.cells #[.int .i64 (h:Int),.slice y.adr bl y.cap] 71)):=bR.alloc (Nat.le_refl _) _;have k17:=Blk.new wr 71 #[.int .i64 (h:Int),.slice y.adr bl y.cap];obtain⟨F6,hfm6,hF6,hup6,hback6⟩:=hfm.move b5;have hz17F:¬F6 wr.heap.size:=fun hF=>by have:=(hF6 _ hF).1;omega
       have hz15F:¬F6 z15:=fun hF=>(hF6 _ hF).2.elim HF.out.2.2.2.2.1 (fun h=>by have:=HF.out.2.2.2.1.lt;omega)
       have HY:=aI8 hy hym hh hbl k17 hz17F hup6 hback6;have HF6:=aI2 ((HF.out.2.2.2.1.upd hfm.up HF.out.2.2.2.2.1).upd (upF b5) id) hz15F;have HU6:=hIz (show ∀V,Upd F6 _ V→Below W0.heap.size W0 V from fun V hu=>lZ (HF.out.2.2.2.2.2.1 _ (hup6 _ hu)));have HO6:=aI3 hpre hfm6 hok;have e1:(wr.alloc (.cells #[.int .i64 (h:Int),.slice y.adr bl y.cap] 71)).cell? ⟨wr.heap.size,1,none⟩=some (.slice y.adr bl y.cap):=k17.cell 1;clear hr hpre hfm hok hU hy hym hh hbl b5 k17 hfm6 hF6 hup6 hback6 hz17F hz15F;subst hPA;go_upto_region 25 with (fail);clear c0 c1 q1;generalize wr.alloc (.cells #[.int .i64 (h:Int),.slice y.adr bl y.cap] 71)=W6 at HY HF6 HU6 HO6 e1 ⊢;obtain⟨z17,hz17⟩:∃z17,wr.heap.size=z17:=⟨_,rfl⟩;rw[hz17] at HY e1 ⊢;clear hz17;by_cases hb2:bl<2
       ·have hb2I:(bl:Int)<2:=by omega
        have HN:=hIz (show FaM W4 F4 W6 W0.heap.size z hb T n L2∧Okf (DrA PV N E labels n) (fun x=>(BsA PV N E labels n m x∨TwA PV (L.take k) x)∨TwB PV (i+1) (L.take (k+1)) (f0,f1,f2) x) L2 from⟨HY.out.2.2.2.2.2.2.2 _ _ HO6.out.2.1,HO6.out.2.2.mono (fun x hx=>hx.elim .inl (fun h=>by
         rcases JO HY.out.1 h with h|⟨g,-,h⟩
         ·exact .inr h
         ·exfalso
          rcases h with ⟨s,t,h1,-⟩|⟨s,t,h1,-⟩
          ·have:=HY.out.2.2.2.1;rw[h1] at this;simp at this;omega
          ·have:=HY.out.2.2.2.1;rw[h1] at this;simp at this;omega))⟩)
        go_wp2;clear e1;go_roundw
        case rel=>exact⟨i+1,by omega,by go_num,hIz ⟨L2,HO6.out.1,HN.out⟩⟩
        case measure=>simp[intOf];omega
       ·have hb2I:¬(bl:Int)<2:=by omega
        obtain⟨s,t,hst⟩:∃s t,y.pr.body=[s,t]:=by
         rcases pR (HD.out.2.2.2.1 y HY.out.2.1) with h1|⟨s,h1,-⟩|h1
         ·have:=HY.out.2.2.2.1;rw[h1] at this;simp at this;omega
         ·have:=HY.out.2.2.2.1;rw[h1] at this;simp at this;omega
         ·exact h1
        have hbl2:bl=2:=by rw[← HY.out.2.2.2.1,hst];rfl
        subst hbl2;obtain⟨⟨hs0,hs1⟩,ht0,ht1⟩:(0≤s.at_∧s.at_<(T:Int))∧0≤t.at_∧t.at_<(T:Int):=by
         have h1:=HD.out.2.2.2.1 y HY.out.2.1;unfold aT at h1;rw[hst] at h1;simp only[Bool.and_eq_true,dQ,decide_eq_true_eq] at h1
         exact⟨h1.2.1.2,h1.2.2.2⟩
        obtain⟨sn,hsn⟩:∃sn:Nat,s.at_=(sn:Int):=⟨s.at_.toNat,by omega⟩;obtain⟨tn,htn⟩:∃tn:Nat,t.at_=(tn:Int):=⟨t.at_.toNat,by omega⟩;have hsT:sn<T:=by omega
        have htT:tn<T:=by omega
        have hsy0:y.pr.body[0]?=some s:=by rw[hst];rfl
        have hsy1:y.pr.body[1]?=some t:=by rw[hst];rfl
        obtain⟨sb,so,hadr,-,-⟩:=(HU.out.pv.2 y HY.out.2.1).sym hsy0;have SYM:=hIz (show ∀V,Below W0.heap.size W0 V→V.cell? ⟨sb,so+1,none⟩=some (.int .i64 (sn:Int))∧V.cell? ⟨sb,so+3,none⟩=some (.int .i64 (tn:Int)) from fun V hbw=>by
         have hU:=HU.out.below hbw;obtain⟨b1,o1,e,-,c1⟩:=(hU.pv.2 y HY.out.2.1).sym hsy0;rw[hadr] at e;injection e with e;injection e with e1 e2;subst e1;subst e2;obtain⟨b1,o1,e,-,c2⟩:=(hU.pv.2 y HY.out.2.1).sym hsy1;rw[hadr] at e;injection e with e;injection e with e1 e2;subst e1;subst e2;rw[hsn] at c1;rw[htn] at c2;exact⟨by simpa using c1,by simpa[Nat.add_assoc] using c2⟩)
        have HS:=aI4 hst hsn htn hadr;have hn0:0<n:=by have:=HF.out.2.1.2.1;omega
        clear hst hsn htn hs0 hs1 ht0 ht1 hsy0 hsy1;rw[hadr] at HY e1;clear hadr;go_wp2;clear e1;go_loopw [18] (fun vv wr=>∃v:Nat,v≤n∧vv=.int .i64 (v:Int)∧Hid (∃L2,L.take (k+1) <+: L2∧FaM W6 F6 wr W0.heap.size z hb T n L2∧Okf (DrA PV N E labels n) (fun x=>((BsA PV N E labels n m x∨TwA PV (L.take k) x)∨TwB PV i (L.take (k+1)) (f0,f1,f2) x)∨W1A y.pr (L.take (k+1)) (f0,f1,f2) v x) L2)) (fun vv _=>n-(intOf vv).toNat)
        case atStart=>exact⟨0,Nat.zero_le _,rfl,hIz ⟨_,HO6.out.1,HO6.out.2.1,HO6.out.2.2.mono (fun x hx=>hx.elim id (fun h=>by obtain⟨g,-,hg,-⟩:=h;omega))⟩⟩
        case round =>
         obtain⟨v,hv,rfl,hr⟩:=hrel;obtain⟨L2,hpre,hfm,hok⟩:=hr.out;have hb0:=HU6.out _ hfm.up;have hsz:=hb0.size;have K17:=HY.out.2.2.2.2.1.upd hfm.up HY.out.2.2.2.2.2.1;have K15:=HF6.out.1.upd hfm.up HF6.out.2;have hsb:=SYM.out _ hb0;have HK:=aI3 K17 K15 hb0;have hS:(fun V=>V.cell? ⟨z17,1,none⟩=some (.slice (some ⟨sb,so,none⟩) 2 y.cap)∧V.cell? ⟨sb,so+1,none⟩=some (.int .i64 (sn:Int))∧V.cell? ⟨z15,0,none⟩=some (.int .i64 (f0:Int))) wr.drew:=⟨K17.cell 1,hsb.1,K15.cell 0⟩;clear hr hb0;by_cases hA:v<n∧sn=f0
         ·obtain⟨hvn,hee⟩:=hA;have hvI:(v:Int)<(n:Int):=by omega
          have he:((sn:Int)==(f0:Int))=true:=by rw[beq_iff_eq,hee]
          have hkw5:IntKind.i64.wrap ((v:Int)+1)=(v:Int)+1:=IntWalk.i64_in _ (by omega);obtain⟨A2,l2,c2,kz,se2,hne2,hF2⟩:=hfm.ex;have hl2:=xB hok se2 HD.out.2.2.1 hT hn;have hS2:(fun V=>V.cell? ⟨z,0,none⟩=some (.int .i64 (T:Int))∧V.cell? ⟨z,1,none⟩=some (.int .i64 (n:Int))∧V.cell? ⟨z,2,none⟩=some (.slice (some ⟨hb,0,none⟩) (T*n*n) (T*n*n))∧V.cell? ⟨z,3,none⟩=some (.slice A2 l2 c2)∧V.cell? ⟨z17,1,none⟩=some (.slice (some ⟨sb,so,none⟩) 2 y.cap)∧V.cell? ⟨sb,so+3,none⟩=some (.int .i64 (tn:Int))∧V.cell? ⟨z15,2,none⟩=some (.int .i64 (f2:Int))) wr.drew.drew:=⟨kz.cell 0,kz.cell 1,kz.cell 2,kz.cell 3,K17.cell 1,hsb.2,K15.cell 2⟩;have hcon:=lY wr.drew.drew W0.heap.size hb T n l2 c2 A2 L2 (se2.below bR.drew.drew) hT hn tn f2 v htT HF.out.2.1.2.2 hvn;unfold kY at hcon;have HV:=aI7 hpre hfm hok kz se2 hne2 hF2;clear K17 K15 hsb hpre hfm hok kz se2 hne2 hF2;go_upto_region 27 with (fail);refine aF (fun V=>V.cell? ⟨z17,1,none⟩=some (.slice (some ⟨sb,so,none⟩) 2 y.cap)∧V.cell? ⟨sb,so+1,none⟩=some (.int .i64 (sn:Int))∧V.cell? ⟨z15,0,none⟩=some (.int .i64 (f0:Int))) 13 [(0,true),(1,true),(2,true),(3,true),(4,true),(5,true),(6,true),(7,true),(8,true),(9,true),(10,true),(11,true),(12,true)] hS ?_;clear hS
          iterate 13 refine aC rfl ?_
          refine aG ?_;go_upto_region 29 with (fail);refine aW (fun V=>V.cell? ⟨z,0,none⟩=some (.int .i64 (T:Int))∧V.cell? ⟨z,1,none⟩=some (.int .i64 (n:Int))∧V.cell? ⟨z,2,none⟩=some (.slice (some ⟨hb,0,none⟩) (T*n*n) (T*n*n))∧V.cell? ⟨z,3,none⟩=some (.slice A2 l2 c2)∧V.cell? ⟨z17,1,none⟩=some (.slice (some ⟨sb,so,none⟩) 2 y.cap)∧V.cell? ⟨sb,so+3,none⟩=some (.int .i64 (tn:Int))∧V.cell? ⟨z15,2,none⟩=some (.int .i64 (f2:Int))) 10 [(0,true),(1,true),(2,true),(3,true),(4,true),(5,true),(6,true),(7,true),(8,true),(9,true),(10,false)] (by kernel_rfl) (by kernel_rfl) (fun _ _ d _ _ h=>by cases d <;> exact h) hS2 ?_;clear hS2
          iterate 10 refine aC rfl ?_
          refine aN rfl rfl (fun K hK=>?_);go_simp;refine hcon.mono ?_;clear hcon;rintro e W8 ⟨he8,b8⟩;have b8:Below wr.heap.size wr W8:=(bR.drew.drew).trans b8;by_cases hx:(tn,f2,v)∈L2
          ·have he8:e=.returned (.bool true):=by rw[he8,decide_eq_true hx]
           subst he8;refine hK _ _ (fun h=>absurd rfl h) ?_;clear hK K;(try simp only[Act.put,gA,gS,gZ,sA,sZ,sS])
           refine aG ?_;have hu8:=Upd.of_below b8 (fun _=>False);have hok:=HV.out.2.2.1;have hder:DrA PV N E labels n (h,f1,v):=JC (List.mem_map.2 ⟨y,HY.out.2.1,rfl⟩) (by rw[HY.out.2.2.1];omega) (HF.out.2.2.1) (hok.snd _ hx)  (⟨s,t,HS.out.1,by rw[HS.out.2.1,hee],HS.out.2.2.1,rfl,by rw[HY.out.2.2.1];rfl⟩);have hfm:=HV.out.2.1.below b8;have K17:=HK.out.1.upd hu8 id;have K15:=HK.out.2.1.upd hu8 id;have kz:=HV.out.2.2.2.1.upd hu8 id;have se2:=HV.out.2.2.2.2.1.below b8;have hne2:=HV.out.2.2.2.2.2.1;have hF2:=HV.out.2.2.2.2.2.2;have d0:W8.cell? ⟨z,0,none⟩=some (.int .i64 (T:Int)):=kz.cell 0;have d1:W8.cell? ⟨z,1,none⟩=some (.int .i64 (n:Int)):=kz.cell 1;have d2:W8.cell? ⟨z,2,none⟩=some (.slice (some ⟨hb,0,none⟩) (T*n*n) (T*n*n)):=kz.cell 2;have d3:W8.cell? ⟨z,3,none⟩=some (.slice A2 l2 c2):=kz.cell 3;have p0:W8.cell? ⟨z17,0,none⟩=some (.int .i64 (h:Int)):=K17.cell 0;have p1:W8.cell? ⟨z15,1,none⟩=some (.int .i64 (f1:Int)):=K15.cell 1;have hcon:=nT W8 W0.heap.size hb T n l2 c2 A2 L2 se2 (Nat.le_trans hsz b8.size) hT hn (by omega) h f1 v hhT HF.out.2.1.2.1 hvn;unfold kY at hcon;have HX:=aI6 hfm.up hF2 kz hne2 (hok.put hder) (HV.out.1.trans (BB L2 (h,f1,v)));clear hok hder hfm K17 K15 kz se2 hne2 hF2 hu8 b8 hx;go_wp2_with fail;refine hcon.mono ?_;clear hcon d0 d1 d2 d3 p0 p1;rintro e W5 ⟨A5,l5,c5,rfl,se5,up5,pl5⟩;obtain⟨kz5,hfin⟩:=tY HX.out.1 HX.out.2.1 HX.out.2.2.1 HX.out.2.2.2.1 se5 up5 pl5;have d0:W5.cell? ⟨z,0,none⟩=some (.int .i64 (T:Int)):=kz5.cell 0;have d1:W5.cell? ⟨z,1,none⟩=some (.int .i64 (n:Int)):=kz5.cell 1
           have d2:W5.cell? ⟨z,2,none⟩=some (.slice (some ⟨hb,0,none⟩) (T*n*n) (T*n*n)):=kz5.cell 2;have d3:W5.cell? ⟨z,3,none⟩=some (.slice A2 l2 c2):=kz5.cell 3;have g0:=kz5.frozen 0;have g1:=kz5.frozen 1;have g2:=kz5.frozen 2;have g3:=kz5.frozen 3;have HN:=aI3 kz5 hfin (up5.size);clear kz5 hfin se5 up5 pl5;unfold kY;go_wp2;clear d0 d1 d2 d3 g0 g1 g2 g3;go_roundw
           case rel =>
            refine⟨v+1,by omega,by go_num,hIz ⟨_,HX.out.2.2.2.2.2,HN.out.2.1 _ ?_ ?_,HX.out.2.2.2.2.1.mono (fun x hx=>?_)⟩⟩
            ·exact iV _ _ _ _ _ _
            ·exact((((HN.out.1.set 0 _).set 1 _).set 2 _).set 3 _)
            ·rcases hx with hx|hx
             ·exact .inl (.inl hx)
             ·obtain⟨g,hg,hgv,s',t',h1,h2,h3,h4,h5⟩:=hx;rcases Nat.lt_succ_iff_lt_or_eq.1 hgv with h6|h6
              ·exact .inl (.inr ⟨g,hg,h6,s',t',h1,h2,h3,h4,h5⟩)
              ·rw[HS.out.1] at h1;injection h1 with h1 h7;injection h7 with h7 _;subst h1;subst h7;obtain⟨g0,g1,g2⟩:=g;dsimp only at h2 h3 h4 h5 h6
               have h8:g0=tn:=by have:=HS.out.2.2.1;omega
               subst h6;subst h8;subst h4;exact .inr (by rw[h5,HY.out.2.2.1];rfl)
           case measure=>simp[intOf];omega
          ·have he8:e=.returned (.bool false):=by rw[he8,decide_eq_false hx]
           subst he8;refine hK _ _ (fun h=>absurd rfl h) ?_;clear hK K;(try simp only[Act.put,gA,gS,gZ,sA,sZ,sS])
           refine aG ?_;have HX:=aI2 (HV.out.2.1.below b8) hx;clear hx b8;go_wp2;go_roundw
           case rel =>
            refine⟨v+1,by omega,by go_num,hIz ⟨L2,HV.out.1,HX.out.1,HV.out.2.2.1.mono (fun x hx=>?_)⟩⟩;rcases hx with hx|hx
            ·exact .inl hx
            ·obtain⟨g,hg,hgv,s',t',h1,h2,h3,h4,h5⟩:=hx;rcases Nat.lt_succ_iff_lt_or_eq.1 hgv with h6|h6
             ·exact .inr ⟨g,hg,h6,s',t',h1,h2,h3,h4,h5⟩
             ·rw[HS.out.1] at h1;injection h1 with h1 h7;injection h7 with h7 _;subst h1;subst h7;obtain⟨g0,g1,g2⟩:=g;dsimp only at h2 h3 h4 h5 h6
              have h8:g0=tn:=by have:=HS.out.2.2.1;omega
              subst h6;subst h8;subst h4;exact absurd (HV.out.1.subset hg) HX.out.2
           case measure=>simp[intOf];omega
         ·have hok3:Okf (DrA PV N E labels n) (fun x=>((BsA PV N E labels n m x∨TwA PV (L.take k) x)∨TwB PV i (L.take (k+1)) (f0,f1,f2) x)∨W1A y.pr (L.take (k+1)) (f0,f1,f2) n x) L2:=hok.mono (fun x hx=>hx.elim .inl (fun h=>by
           obtain⟨g,h1,h2,s',t',h3,h4,h5,h6⟩:=h;refine .inr ⟨g,h1,?_,s',t',h3,h4,h5,h6⟩;rw[HS.out.1] at h3;injection h3 with h3 h7;injection h7 with h7 _;subst h3;subst h7;have h8:=HS.out.2.1;have h9:=HS.out.2.2.1;have h10:sn=f0:=by dsimp only at h4;omega
           have:¬v<n:=fun h=>hA ⟨h,h10⟩
           omega))
          have HE1:=aI3 hpre (hfm.below bR.drew) hok3;have hex:((v:Int)<(n:Int)∧((sn:Int)==(f0:Int))=false)∨¬(v:Int)<(n:Int):=by
           by_cases hun:v<n
           ·exact .inl ⟨by omega,by rw[beq_eq_false_iff_ne];exact fun h=>hA ⟨hun,by omega⟩⟩
           ·exact .inr (by omega)
          clear hok3 hpre hfm hok hA hsb K17 K15;rcases hex with ⟨x1,x2⟩|x1
          all_goals
           go_upto_region 27 with (fail);refine aF (fun V=>V.cell? ⟨z17,1,none⟩=some (.slice (some ⟨sb,so,none⟩) 2 y.cap)∧V.cell? ⟨sb,so+1,none⟩=some (.int .i64 (sn:Int))∧V.cell? ⟨z15,0,none⟩=some (.int .i64 (f0:Int))) 13 [(0,true),(1,true),(2,true),(3,true),(4,true),(5,true),(6,true),(7,true),(8,true),(9,true),(10,true),(11,true),(12,true)] hS ?_;clear hS
           first
            | (have:=x2;clear this;(iterate 13 refine aC rfl ?_))
            | ((iterate 4 refine aC rfl ?_);(iterate 8 (refine eD rfl (by kernel_rfl) ?_;(try simp only[Act.put,gA,gS,gZ,sA,sZ,sS])));refine aC rfl ?_)
           refine aG ?_;go_wp2;clear x1;try clear x2
           go_loopw [19] (fun vv wr=>∃v:Nat,v≤n∧vv=.int .i64 (v:Int)∧Hid (∃L2,L.take (k+1) <+: L2∧FaM W6 F6 wr W0.heap.size z hb T n L2∧Okf (DrA PV N E labels n) (fun x=>(((BsA PV N E labels n m x∨TwA PV (L.take k) x)∨TwB PV i (L.take (k+1)) (f0,f1,f2) x)∨W1A y.pr (L.take (k+1)) (f0,f1,f2) n x)∨W2A y.pr (L.take (k+1)) (f0,f1,f2) v x) L2)) (fun vv _=>n-(intOf vv).toNat)
           case atStart=>exact⟨0,Nat.zero_le _,rfl,hIz ⟨_,HE1.out.1,HE1.out.2.1,HE1.out.2.2.mono (fun x hx=>hx.elim id (fun h=>by obtain⟨g,-,hg,-⟩:=h;omega))⟩⟩
           case round =>
            obtain⟨v,hv,rfl,hr⟩:=hrel;obtain⟨L2,hpre,hfm,hok⟩:=hr.out;have hb0:=HU6.out _ hfm.up;have hsz:=hb0.size;have K17:=HY.out.2.2.2.2.1.upd hfm.up HY.out.2.2.2.2.2.1;have K15:=HF6.out.1.upd hfm.up HF6.out.2;have hsb:=SYM.out _ hb0;have HK:=aI3 K17 K15 hb0;have hS:(fun V=>V.cell? ⟨z17,1,none⟩=some (.slice (some ⟨sb,so,none⟩) 2 y.cap)∧V.cell? ⟨sb,so+3,none⟩=some (.int .i64 (tn:Int))∧V.cell? ⟨z15,0,none⟩=some (.int .i64 (f0:Int))) wr.drew:=⟨K17.cell 1,hsb.2,K15.cell 0⟩;clear hr hb0;by_cases hA:v<n∧tn=f0
            ·obtain⟨hvn,hee⟩:=hA;have hvI:(v:Int)<(n:Int):=by omega
             have he:((tn:Int)==(f0:Int))=true:=by rw[beq_iff_eq,hee]
             have hkw5:IntKind.i64.wrap ((v:Int)+1)=(v:Int)+1:=IntWalk.i64_in _ (by omega);obtain⟨A2,l2,c2,kz,se2,hne2,hF2⟩:=hfm.ex;have hl2:=xB hok se2 HD.out.2.2.1 hT hn;have hS2:(fun V=>V.cell? ⟨z,0,none⟩=some (.int .i64 (T:Int))∧V.cell? ⟨z,1,none⟩=some (.int .i64 (n:Int))∧V.cell? ⟨z,2,none⟩=some (.slice (some ⟨hb,0,none⟩) (T*n*n) (T*n*n))∧V.cell? ⟨z,3,none⟩=some (.slice A2 l2 c2)∧V.cell? ⟨z17,1,none⟩=some (.slice (some ⟨sb,so,none⟩) 2 y.cap)∧V.cell? ⟨sb,so+1,none⟩=some (.int .i64 (sn:Int))∧V.cell? ⟨z15,1,none⟩=some (.int .i64 (f1:Int))) wr.drew.drew:=⟨kz.cell 0,kz.cell 1,kz.cell 2,kz.cell 3,K17.cell 1,hsb.1,K15.cell 1⟩;have hcon:=lY wr.drew.drew W0.heap.size hb T n l2 c2 A2 L2 (se2.below bR.drew.drew) hT hn sn v f1 hsT hvn HF.out.2.1.2.1;unfold kY at hcon;have HV:=aI7 hpre hfm hok kz se2 hne2 hF2;clear K17 K15 hsb hpre hfm hok kz se2 hne2 hF2;go_upto_region 32 with (fail);refine aF (fun V=>V.cell? ⟨z17,1,none⟩=some (.slice (some ⟨sb,so,none⟩) 2 y.cap)∧V.cell? ⟨sb,so+3,none⟩=some (.int .i64 (tn:Int))∧V.cell? ⟨z15,0,none⟩=some (.int .i64 (f0:Int))) 13 [(0,true),(1,true),(2,true),(3,true),(4,true),(5,true),(6,true),(7,true),(8,true),(9,true),(10,true),(11,true),(12,true)] hS ?_;clear hS
             iterate 13 refine aC rfl ?_
             refine aG ?_;go_upto_region 34 with (fail);refine aW (fun V=>V.cell? ⟨z,0,none⟩=some (.int .i64 (T:Int))∧V.cell? ⟨z,1,none⟩=some (.int .i64 (n:Int))∧V.cell? ⟨z,2,none⟩=some (.slice (some ⟨hb,0,none⟩) (T*n*n) (T*n*n))∧V.cell? ⟨z,3,none⟩=some (.slice A2 l2 c2)∧V.cell? ⟨z17,1,none⟩=some (.slice (some ⟨sb,so,none⟩) 2 y.cap)∧V.cell? ⟨sb,so+1,none⟩=some (.int .i64 (sn:Int))∧V.cell? ⟨z15,1,none⟩=some (.int .i64 (f1:Int))) 10 [(0,true),(1,true),(2,true),(3,true),(4,true),(5,true),(6,true),(7,true),(8,true),(9,true),(10,false)] (by kernel_rfl) (by kernel_rfl) (fun _ _ d _ _ h=>by cases d <;> exact h) hS2 ?_;clear hS2
             iterate 10 refine aC rfl ?_
             refine aN rfl rfl (fun K hK=>?_);go_simp;refine hcon.mono ?_;clear hcon;rintro e W8 ⟨he8,b8⟩;have b8:Below wr.heap.size wr W8:=(bR.drew.drew).trans b8;by_cases hx:(sn,v,f1)∈L2
             ·have he8:e=.returned (.bool true):=by rw[he8,decide_eq_true hx]
              subst he8;refine hK _ _ (fun h=>absurd rfl h) ?_;clear hK K;(try simp only[Act.put,gA,gS,gZ,sA,sZ,sS])
              refine aG ?_;have hu8:=Upd.of_below b8 (fun _=>False);have hok:=HV.out.2.2.1;have hder:DrA PV N E labels n (h,v,f2):=JC (List.mem_map.2 ⟨y,HY.out.2.1,rfl⟩) (by rw[HY.out.2.2.1];omega) (hok.snd _ hx) (HF.out.2.2.1)  (⟨s,t,HS.out.1,HS.out.2.1,by rw[HS.out.2.2.1,hee],rfl,by rw[HY.out.2.2.1];rfl⟩);have hfm:=HV.out.2.1.below b8;have K17:=HK.out.1.upd hu8 id;have K15:=HK.out.2.1.upd hu8 id;have kz:=HV.out.2.2.2.1.upd hu8 id;have se2:=HV.out.2.2.2.2.1.below b8;have hne2:=HV.out.2.2.2.2.2.1;have hF2:=HV.out.2.2.2.2.2.2;have d0:W8.cell? ⟨z,0,none⟩=some (.int .i64 (T:Int)):=kz.cell 0;have d1:W8.cell? ⟨z,1,none⟩=some (.int .i64 (n:Int)):=kz.cell 1;have d2:W8.cell? ⟨z,2,none⟩=some (.slice (some ⟨hb,0,none⟩) (T*n*n) (T*n*n)):=kz.cell 2;have d3:W8.cell? ⟨z,3,none⟩=some (.slice A2 l2 c2):=kz.cell 3;have p0:W8.cell? ⟨z17,0,none⟩=some (.int .i64 (h:Int)):=K17.cell 0;have p1:W8.cell? ⟨z15,2,none⟩=some (.int .i64 (f2:Int)):=K15.cell 2;have hcon:=nT W8 W0.heap.size hb T n l2 c2 A2 L2 se2 (Nat.le_trans hsz b8.size) hT hn (by omega) h v f2 hhT hvn HF.out.2.1.2.2;unfold kY at hcon;have HX:=aI6 hfm.up hF2 kz hne2 (hok.put hder) (HV.out.1.trans (BB L2 (h,v,f2)));clear hok hder hfm K17 K15 kz se2 hne2 hF2 hu8 b8 hx;go_wp2_with fail;refine hcon.mono ?_;clear hcon d0 d1 d2 d3 p0 p1;rintro e W5 ⟨A5,l5,c5,rfl,se5,up5,pl5⟩;obtain⟨kz5,hfin⟩:=tY HX.out.1 HX.out.2.1 HX.out.2.2.1 HX.out.2.2.2.1 se5 up5 pl5;have d0:W5.cell? ⟨z,0,none⟩=some (.int .i64 (T:Int)):=kz5.cell 0;have d1:W5.cell? ⟨z,1,none⟩=some (.int .i64 (n:Int)):=kz5.cell 1
              have d2:W5.cell? ⟨z,2,none⟩=some (.slice (some ⟨hb,0,none⟩) (T*n*n) (T*n*n)):=kz5.cell 2;have d3:W5.cell? ⟨z,3,none⟩=some (.slice A2 l2 c2):=kz5.cell 3;have g0:=kz5.frozen 0;have g1:=kz5.frozen 1;have g2:=kz5.frozen 2;have g3:=kz5.frozen 3;have HN:=aI3 kz5 hfin (up5.size);clear kz5 hfin se5 up5 pl5;unfold kY;go_wp2;clear d0 d1 d2 d3 g0 g1 g2 g3;go_roundw
              case rel =>
               refine⟨v+1,by omega,by go_num,hIz ⟨_,HX.out.2.2.2.2.2,HN.out.2.1 _ ?_ ?_,HX.out.2.2.2.2.1.mono (fun x hx=>?_)⟩⟩
               ·exact iV _ _ _ _ _ _
               ·exact((((HN.out.1.set 0 _).set 1 _).set 2 _).set 3 _)
               ·rcases hx with hx|hx
                ·exact .inl (.inl hx)
                ·obtain⟨g,hg,hgv,s',t',h1,h2,h3,h4,h5⟩:=hx;rcases Nat.lt_succ_iff_lt_or_eq.1 hgv with h6|h6
                 ·exact .inl (.inr ⟨g,hg,h6,s',t',h1,h2,h3,h4,h5⟩)
                 ·rw[HS.out.1] at h1;injection h1 with h1 h7;injection h7 with h7 _;subst h1;subst h7;obtain⟨g0,g1,g2⟩:=g;dsimp only at h2 h3 h4 h5 h6
                  have h8:g0=sn:=by have:=HS.out.2.1;omega
                  subst h6;subst h8;subst h4;exact .inr (by rw[h5,HY.out.2.2.1];rfl)
              case measure=>simp[intOf];omega
             ·have he8:e=.returned (.bool false):=by rw[he8,decide_eq_false hx]
              subst he8;refine hK _ _ (fun h=>absurd rfl h) ?_;clear hK K;(try simp only[Act.put,gA,gS,gZ,sA,sZ,sS])
              refine aG ?_;have HX:=aI2 (HV.out.2.1.below b8) hx;clear hx b8;go_wp2;go_roundw
              case rel =>
               refine⟨v+1,by omega,by go_num,hIz ⟨L2,HV.out.1,HX.out.1,HV.out.2.2.1.mono (fun x hx=>?_)⟩⟩;rcases hx with hx|hx
               ·exact .inl hx
               ·obtain⟨g,hg,hgv,s',t',h1,h2,h3,h4,h5⟩:=hx;rcases Nat.lt_succ_iff_lt_or_eq.1 hgv with h6|h6
                ·exact .inr ⟨g,hg,h6,s',t',h1,h2,h3,h4,h5⟩
                ·rw[HS.out.1] at h1;injection h1 with h1 h7;injection h7 with h7 _;subst h1;subst h7;obtain⟨g0,g1,g2⟩:=g;dsimp only at h2 h3 h4 h5 h6
                 have h8:g0=sn:=by have:=HS.out.2.1;omega
                 subst h6;subst h8;subst h4;exact absurd (HV.out.1.subset hg) HX.out.2
              case measure=>simp[intOf];omega
            ·have hok3:Okf (DrA PV N E labels n) (fun x=>(((BsA PV N E labels n m x∨TwA PV (L.take k) x)∨TwB PV i (L.take (k+1)) (f0,f1,f2) x)∨W1A y.pr (L.take (k+1)) (f0,f1,f2) n x)∨W2A y.pr (L.take (k+1)) (f0,f1,f2) n x) L2:=hok.mono (fun x hx=>hx.elim .inl (fun h=>by
              obtain⟨g,h1,h2,s',t',h3,h4,h5,h6⟩:=h;refine .inr ⟨g,h1,?_,s',t',h3,h4,h5,h6⟩;rw[HS.out.1] at h3;injection h3 with h3 h7;injection h7 with h7 _;subst h3;subst h7;have h8:=HS.out.2.1;have h9:=HS.out.2.2.1;have h10:tn=f0:=by dsimp only at h5;omega
              have:¬v<n:=fun h=>hA ⟨h,h10⟩
              omega))
             have HE3:=aI3 hpre (hfm.below bR.drew) hok3;have hex:((v:Int)<(n:Int)∧((tn:Int)==(f0:Int))=false)∨¬(v:Int)<(n:Int):=by
              by_cases hun:v<n
              ·exact .inl ⟨by omega,by rw[beq_eq_false_iff_ne];exact fun h=>hA ⟨hun,by omega⟩⟩
              ·exact .inr (by omega)
             clear hok3 hpre hfm hok hA hsb K17 K15;rcases hex with ⟨x1,x2⟩|x1
             all_goals
              go_upto_region 32 with (fail);refine aF (fun V=>V.cell? ⟨z17,1,none⟩=some (.slice (some ⟨sb,so,none⟩) 2 y.cap)∧V.cell? ⟨sb,so+3,none⟩=some (.int .i64 (tn:Int))∧V.cell? ⟨z15,0,none⟩=some (.int .i64 (f0:Int))) 13 [(0,true),(1,true),(2,true),(3,true),(4,true),(5,true),(6,true),(7,true),(8,true),(9,true),(10,true),(11,true),(12,true)] hS ?_;clear hS
              first
               | (have:=x2;clear this;(iterate 13 refine aC rfl ?_))
               | ((iterate 4 refine aC rfl ?_);(iterate 8 (refine eD rfl (by kernel_rfl) ?_;(try simp only[Act.put,gA,gS,gZ,sA,sZ,sS])));refine aC rfl ?_)
              refine aG ?_;go_wp2;clear x1;try clear x2
              have HN:=hIz (show FaM W4 F4 wr.drew W0.heap.size z hb T n L2∧Okf (DrA PV N E labels n) (fun x=>(BsA PV N E labels n m x∨TwA PV (L.take k) x)∨TwB PV (i+1) (L.take (k+1)) (f0,f1,f2) x) L2 from⟨HY.out.2.2.2.2.2.2.2 _ _ HE3.out.2.1,HE3.out.2.2.mono (fun x hx=>by
               rcases hx with hx|hx
               ·exact .inl (.inl (.inl hx))
               ·rcases JO HY.out.1 hx with hx|⟨g,hg,hx⟩
                ·exact .inl (.inl (.inr hx))
                ·have hgd:=HD.out.2.2.1 _ (HO.out.2.1.snd g (List.take_subset _ _ hg));rcases hx with hx|hx
                 ·exact .inl (.inr ⟨g,hg,hgd.2.2,hx⟩)
                 ·exact .inr ⟨g,hg,hgd.2.1,hx⟩)⟩)
              go_roundw
              case rel=>exact⟨i+1,by omega,by go_num,hIz ⟨L2,HE3.out.1,HN.out⟩⟩
              case measure=>simp[intOf];omega
      ·obtain rfl:m=i:=by omega
       have hiI:¬(m:Int)<(m:Int):=by omega
       have HN:=hIz (show k+1≤L2.length∧FaM W0 (fun _=>False) wr W0.heap.size z hb T n L2∧Okf (DrA PV N E labels n) (fun x=>BsA PV N E labels n m x∨TwA PV (L2.take (k+1)) x) L2 from by
        have h1:(L.take (k+1)).length=k+1:=by rw[List.length_take,HO.out.2.2];omega
        have h2:L2.take (k+1)=L.take (k+1):=by
         have h3:=List.prefix_iff_eq_take.1 hpre;rw[h1] at h3;exact h3.symm
        refine⟨by have:=hpre.length_le;omega,HF.out.2.2.2.2.2.2 _ _ hfm,hok.mono (fun x hx=>?_)⟩;rcases hx with hx|hx
        ·exact .inl (.inl hx)
        ·rw[h2] at hx;rcases VJ HM.out.2.1 HF.out.1 hx with hx|hx
         ·exact .inl (.inr hx)
         ·exact .inr hx)
       clear hr hpre hfm hok hU;go_wp2;clear q1;go_roundw
       case rel=>exact⟨k+1,by go_num,hIz ⟨L2,HN.out⟩⟩
       case measure=>simp[intOf];omega
    ·obtain rfl:k=l2:=by omega
     have hkI:¬(k:Int)<(k:Int):=by omega
     have d0:wr.cell? ⟨z,0,none⟩=some (.int .i64 (T:Int)):=kz.cell 0;have d1:wr.cell? ⟨z,1,none⟩=some (.int .i64 (n:Int)):=kz.cell 1;have d2:wr.cell? ⟨z,2,none⟩=some (.slice (some ⟨hb,0,none⟩) (T*n*n) (T*n*n)):=kz.cell 2;have hbw:=SZ.out _ _ hfm;have K6:=H.out.2.upd (upF hbw) id;have s0:wr.cell? ⟨w.heap.size+2,0,none⟩=some (.int .i64 0):=K6.cell 0;have s1:wr.cell? ⟨w.heap.size+2,1,none⟩=some (.int .i64 0):=K6.cell 1;have s2:wr.cell? ⟨w.heap.size+2,2,none⟩=some (.slice none 0 0):=K6.cell 2;have s3:wr.cell? ⟨w.heap.size+2,3,none⟩=some (.slice none 0 0):=K6.cell 3;have g0:=K6.frozen 0;have g1:=K6.frozen 1;have g2:=K6.frozen 2;have g3:=K6.frozen 3;have FIN:=hIz (show ∀V,Upd (fun q=>q=w.heap.size+2) wr V→XA w T n (DrA PV N E labels n) (.returned (.agg #[.int .i64 (T:Int),.int .i64 (n:Int),.slice (some ⟨hb,0,none⟩) (T*n*n) (T*n*n),.slice A2 k c2])) V from fun V hu=>by
      refine⟨hb,A2,k,c2,L,rfl,(se2.upd hu (fun q hq e=>by have:=(se2.ltb q hq).1;omega)).base H.out.1.size,(tHn H.out.1 hbw).trans (hu.below (fun q _ e=>by omega) (by have:=hbw.size;have:=H.out.1.size;omega)),fun x=>⟨fun hx=>hok.snd x hx,fun hx=>?_⟩⟩;have etk:L.take k=L:=by rw[← hll,List.take_length]
      have em:PV.take m=PV:=by rw[← HM.out.2.1,List.take_length]
      refine RZ (fun p hp=>?_) (fun p hp x hb=>?_) (fun p hp f hf g hg x ht=>?_) hx
      ·obtain⟨y,hy,rfl⟩:=List.mem_map.1 hp;exact(kJ (HD.out.2.2.2.1 y hy)).1
      ·obtain⟨y,hy,rfl⟩:=List.mem_map.1 hp;exact hok.has x (.inl ⟨y,by rw[em];exact hy,hb⟩)
      ·obtain⟨y,hy,rfl⟩:=List.mem_map.1 hp;exact hok.has x (.inr ⟨y,hy,f,by rw[etk];exact hf,g,by rw[etk];exact hg,ht⟩))
     have KF:=tV K6 (.int .i64 (T:Int)) (.int .i64 (n:Int)) (.slice (some ⟨hb,0,none⟩) (T*n*n) (T*n*n)) (.slice A2 k c2);have FIN:=hIz (FIN.out _ (iV wr (w.heap.size+2) (.int .i64 (T:Int)) (.int .i64 (n:Int)) (.slice (some ⟨hb,0,none⟩) (T*n*n) (T*n*n)) (.slice A2 k c2)));have y0:=KF.cell 0;have y1:=KF.cell 1;have y2:=KF.cell 2;have y3:=KF.cell 3;simp only[List.getElem?_toArray,List.getElem?_cons_succ,List.getElem?_cons_zero] at y0 y1 y2 y3
     clear hr hfm hok kz se2 hne2 hF2 hbw K6 KF;go_wp2;generalize ((((wr.setCell ⟨w.heap.size+2,0,none⟩ (.int .i64 (T:Int))).setCell ⟨w.heap.size+2,1,none⟩ (.int .i64 (n:Int))).setCell ⟨w.heap.size+2,2,none⟩ (.slice (some ⟨hb,0,none⟩) (T*n*n) (T*n*n))).setCell ⟨w.heap.size+2,3,none⟩ (.slice A2 k c2))=WF at FIN y0 y1 y2 y3 ⊢;refine bodyPost_ret (v:=.agg #[.int .i64 (T:Int),.int .i64 (n:Int),.slice (some ⟨hb,0,none⟩) (T*n*n) (T*n*n),.slice A2 k c2]) (by simp[results,Tryz.f28,go_sem,y0,y1,y2,y3]) rfl FIN.out
open Go.RowKit Go.Shelf
theorem DG(w:World)(nts:Int)(PA:Option Addr)(pc:Nat)(PV:List Pv)(hP:PvR w PA PV)(LA:Option Addr)(cl:Nat)(labels:List Txt)(hlab:aU w LA (aE labels)) :
  Calls Tryz.prog 25 #[.agg #[.int .i64 nts,.slice PA PV.length pc],.slice LA labels.length cl] w (Sam w (.int .i64 (cO nts PV labels))):=by
 obtain⟨m,hm⟩:∃m,PV.length=m:=⟨_,rfl⟩;obtain⟨l,hl⟩:∃l,labels.length=l:=⟨_,rfl⟩;have b1:Below w.heap.size w (w.alloc (.cells #[.int .i64 nts,.slice PA m pc] 50)):=bR.alloc (Nat.le_refl _) _;have k1:=Blk.new w 50 #[.int .i64 nts,.slice PA m pc];have q0:(w.alloc (.cells #[.int .i64 nts,.slice PA m pc] 50)).cell? ⟨w.heap.size,0,none⟩=some (.int .i64 nts):=k1.cell 0;have q1:(w.alloc (.cells #[.int .i64 nts,.slice PA m pc] 50)).cell? ⟨w.heap.size,1,none⟩=some (.slice PA m pc):=k1.cell 1;have hv:cO nts PV labels=if 16<l∨nts<1∨512<nts∨8192<m then 2 else if upB ltT labels=true∧∀v∈PV,aT v.pr nts l=true then 0 else 2:=by
  unfold cO;rw[hm,hl]
 rw[hm,hl];have HM:=aI2 hm hl;have H:=aI4 b1 k1 hP hlab;have HV:=hIz hv;clear b1 k1 hP hlab hm hl hv;by_cases h1:16<l
 ·have FIN:=hIz (show cO nts PV labels=2 from by rw[HV.out,if_pos (.inl h1)]);have h1I:(16:Int)<(l:Int):=by omega
  go_enter Tryz.func25,Tryz.ntmps25;go_wp2;go_ret;exact⟨by rw[FIN.out];rfl,H.out.1⟩
 ·have h1I:¬(16:Int)<(l:Int):=by omega
  by_cases h2:nts<1
  ·have FIN:=hIz (show cO nts PV labels=2 from by rw[HV.out,if_pos (.inr (.inl h2))]);go_enter Tryz.func25,Tryz.ntmps25;go_wp2;go_ret;exact⟨by rw[FIN.out];rfl,H.out.1⟩
  ·by_cases h3:512<nts
   ·have FIN:=hIz (show cO nts PV labels=2 from by rw[HV.out,if_pos (.inr (.inr (.inl h3)))]);go_enter Tryz.func25,Tryz.ntmps25;go_wp2;go_ret;exact⟨by rw[FIN.out];rfl,H.out.1⟩
   ·by_cases h4:8192<m
    ·have FIN:=hIz (show cO nts PV labels=2 from by rw[HV.out,if_pos (.inr (.inr (.inr h4)))]);have h4I:(8192:Int)<(m:Int):=by omega
     go_enter Tryz.func25,Tryz.ntmps25;go_wp2;go_ret;exact⟨by rw[FIN.out];rfl,H.out.1⟩
    ·have h4I:¬(8192:Int)<(m:Int):=by omega
     have HV2:=hIz (show cO nts PV labels=if upB ltT labels=true∧∀v∈PV,aT v.pr nts l=true then 0 else 2 from by rw[HV.out,if_neg (by omega)]);clear HV;go_enter Tryz.func25,Tryz.ntmps25;go_wp2;generalize w.alloc (.cells #[.int .i64 nts,.slice PA m pc] 50)=W1 at H q0 q1 ⊢;clear q0 q1;go_loopw [5] (fun i wr=>∃k:Nat,(k≤l∧i=.int .i64 ((k:Int)+1))∧Hid (Below W1.heap.size W1 wr)∧Hid (∀j,j<k→∀a b,labels[j]?=some a→labels[j+1]?=some b→ltT a b=true)) (fun i _=>l+1-(intOf i).toNat)
     case atStart=>exact⟨0,⟨Nat.zero_le _,rfl⟩,hIz bR,hIz (fun j hj=>by omega)⟩
     case round =>
      obtain⟨k,⟨hk,rfl⟩,hb,hall⟩:=hrel;by_cases hlt:k+1<l
      ·have hkw:IntKind.i64.wrap (k:Int)=(k:Int):=IntWalk.i64_in _ (by omega);have hkw1:IntKind.i64.wrap ((k:Int)+1-1)=(k:Int):=by rw[IntWalk.i64_in _ (by omega)];omega
       have hkw2:IntKind.i64.wrap ((k:Int)+1+1)=(k:Int)+1+1:=IntWalk.i64_in _ (by omega);have hltI:(k:Int)+1<(l:Int):=by omega
       have hltI2:(k:Int)<(l:Int):=by omega
       have ht:((k:Int)+1).toNat=k+1:=by omega
       have hn0:(0:Int)≤(k:Int)+1:=by omega
       have h0:=(H.out.2.2.2.below3 H.out.1).below3 (hb.out);obtain⟨x,hx⟩:∃x,labels[k]?=some x:=⟨_,gEz (by rw[HM.out.2];omega)⟩;obtain⟨y,hy⟩:∃y,labels[k+1]?=some y:=⟨_,gEz (by rw[HM.out.2];omega)⟩;obtain⟨ab,ao,rfl,x0⟩:=h0.txt hx;obtain⟨_,_,e1,y0⟩:=h0.txt hy;injection e1 with e1;injection e1 with e1 e2;subst e1;subst e2;have HXY:=aI2 hx hy;clear h0 hx hy;have hS:(fun w':World=>w'.cell? ⟨ab,ao+k,none⟩=some (.string x)∧w'.cell? ⟨ab,ao+(k+1),none⟩=some (.string y)) wr.drew:=⟨x0,y0⟩;cases hl:ltT x y with
       | true =>
        have hl2:Op.bytesLess (ByteArray.toList x) (ByteArray.toList y)=true:=hl;have HLT:=hIz hl;clear hl;go_upto_region 6 with (fail);refine aF (fun w'=>w'.cell? ⟨ab,ao+k,none⟩=some (.string x)∧w'.cell? ⟨ab,ao+(k+1),none⟩=some (.string y)) 10 [(0,true),(1,true),(2,true),(3,true),(4,true),(5,true),(6,true),(7,true),(8,true),(9,true)] hS ?_;clear hS
        iterate 10 refine aC rfl ?_
        refine aG ?_;go_wp2;go_roundw
        case rel=>exact⟨k+1,⟨by omega,by go_num⟩,hIz hb.out.drew,hIz (fun j hj a b ha hb=>by
         rcases Nat.lt_succ_iff_lt_or_eq.1 hj with h|rfl
         ·exact hall.out j h a b ha hb
         ·rw[HXY.out.1] at ha;rw[HXY.out.2] at hb;injection ha with ha;injection hb with hb;subst ha;subst hb;exact HLT.out)⟩
        case measure=>simp[intOf];omega
       | false =>
        have hl2:Op.bytesLess (ByteArray.toList x) (ByteArray.toList y)=false:=hl;have FIN:=hIz (show cO nts PV labels=2 from by
         rw[HV2.out,if_neg];intro h;rw[jX HXY.out.1 HXY.out.2 hl] at h;cases h.1)
        clear hl;go_upto_region 6 with (fail);refine aF (fun w'=>w'.cell? ⟨ab,ao+k,none⟩=some (.string x)∧w'.cell? ⟨ab,ao+(k+1),none⟩=some (.string y)) 10 [(0,true),(1,true),(2,true),(3,true),(4,true),(5,true),(6,true),(7,true),(8,true),(9,true)] hS ?_;clear hS
        iterate 10 refine aC rfl ?_
        refine aG ?_;go_wp2;go_ret;exact⟨by rw[FIN.out];rfl,tHn H.out.1 hb.out.drew⟩
      ·have hgeI:¬(k:Int)+1<(l:Int):=by omega
       have HUP:=hIz (show upB ltT labels=true from(jI labels).2 (fun i a b ha hb'=>by
        have:=(gO.1 hb').1;have:=HM.out.2;exact hall.out i (by omega) a b ha hb'))
       have k2:=H.out.2.1.upd (upF hb.out) id;have q0:wr.cell? ⟨w.heap.size,0,none⟩=some (.int .i64 nts):=k2.cell 0;have q1:wr.cell? ⟨w.heap.size,1,none⟩=some (.slice PA m pc):=k2.cell 1;have HB0:=hIz hb.out;clear k2 hall hb;go_wp2;generalize wr=W2 at HB0 q0 q1 ⊢;clear q1;go_loopw [6] (fun i wz=>∃t:Nat,t≤m∧i=.int .i64 (t:Int)∧Hid (Below W2.heap.size W2 wz)∧Hid (∀j,j<t→∀v,PV[j]?=some v→aT v.pr nts l=true)) (fun i _=>m-(intOf i).toNat)
       case atStart=>exact⟨0,Nat.zero_le _,rfl,hIz bR,hIz (fun j hj=>by omega)⟩
       case round =>
        obtain⟨t,ht,rfl,hb,hall⟩:=hrel;have bw:=H.out.1.trans ((tHn HB0.out hb.out).mono H.out.1.size);clear q0;have q1:wr.cell? ⟨w.heap.size,1,none⟩=some (.slice PA m pc):=(H.out.2.1.upd (Upd.of_below (tHn HB0.out hb.out) (fun _=>False)) id).cell 1;by_cases hlt2:t<m
        ·have htI:(t:Int)<(m:Int):=by omega
         obtain⟨v,hv⟩:∃v,PV[t]?=some v:=⟨_,gEz (by rw[HM.out.1];omega)⟩;have hp:=H.out.2.2.1.below bw;obtain⟨pb,po,rfl,c0,c1⟩:=hp.1.pv hv;have hrow:=hp.2 v (mG hv);have q0:wr.cell? ⟨w.heap.size,0,none⟩=some (.int .i64 nts):=(H.out.2.1.upd (Upd.of_below (tHn HB0.out hb.out) (fun _=>False)) id).cell 0;obtain⟨vl,hvl⟩:∃vl,v.pr.body.length=vl:=⟨_,rfl⟩;have SR:=hIz (show ∀V,Below W2.heap.size W2 V→(fun V:World=>V.cell? ⟨w.heap.size,0,none⟩=some (.int .i64 nts)∧V.cell? ⟨w.heap.size,1,none⟩=some (.slice (some ⟨pb,po,none⟩) m pc)∧V.cell? ⟨pb,po+t*2,none⟩=some (.int .i64 v.pr.head)∧V.cell? ⟨pb,po+t*2+1,none⟩=some (.slice v.adr vl v.cap)) V from fun V hbv=>by
          have k3:=H.out.2.1.upd (Upd.of_below (tHn HB0.out hbv) (fun _=>False)) id;obtain⟨b1,o1,e,d0,d1⟩:=(H.out.2.2.1.below (H.out.1.trans ((tHn HB0.out hbv).mono H.out.1.size))).1.pv hv;injection e with e;injection e with e1 e2;subst e1;subst e2;rw[hvl] at d1;exact⟨k3.cell 0,k3.cell 1,d0,d1⟩)
         rw[hvl] at c1;have hB0:=hIz (show Below W2.heap.size W2 wr.drew from hb.out.drew);have hS:=SR.out _ hB0.out;have hcon:=DC wr.drew v.pr v.adr v.cap (hrow.below3 bR.drew) nts (l:Int);rw[hvl] at hcon;have HX:=aI3 hv hvl bw;clear hv hp hrow hvl bw q0;go_upto_region 11 with (fail);refine aF (fun V:World=>V.cell? ⟨w.heap.size,0,none⟩=some (.int .i64 nts)∧V.cell? ⟨w.heap.size,1,none⟩=some (.slice (some ⟨pb,po,none⟩) m pc)∧V.cell? ⟨pb,po+t*2,none⟩=some (.int .i64 v.pr.head)∧V.cell? ⟨pb,po+t*2+1,none⟩=some (.slice v.adr vl v.cap)) 11 [(0,true),(1,true),(2,true),(3,true),(4,true),(5,true),(6,true),(7,true),(8,true),(9,false),(10,true)] hS ?_;clear hS
         iterate 9 refine aC rfl ?_
         refine aN rfl rfl (fun K hK=>?_);go_simp;refine hcon.mono ?_;clear hcon c0 c1;rintro e V2 ⟨he,b2⟩;have HB5:=hIz (tHn hB0.out b2);have hS:=SR.out _ HB5.out;have HZ:=hIz (H.out.1.trans ((tHn HB0.out HB5.out).mono H.out.1.size));cases hsh:aT v.pr nts (l:Int)
         ·rw[hsh] at he;subst he;have FIN:=hIz (show cO nts PV labels=2 from by
           rw[HV2.out,if_neg];intro h;rw[h.2 v (mG HX.out.1)] at hsh;cases hsh)
          clear b2 hsh;refine hK _ _ (fun _=>hS) ?_;clear hK K hS SR;(try simp only[Act.put,gA,gS,gZ,sA,sZ,sS])
          refine aC rfl ?_;refine aG ?_;go_wp2;go_ret;exact⟨by rw[FIN.out];rfl,HZ.out⟩
         ·rw[hsh] at he;subst he;have FIN:=aI2 HB5.out hsh;clear b2 hsh;refine hK _ _ (fun _=>hS) ?_;clear hK K hS SR;(try simp only[Act.put,gA,gS,gZ,sA,sZ,sS])
          refine aC rfl ?_;refine aG ?_;go_wp2;go_roundw
          case rel=>exact⟨t+1,by omega,by go_num,hIz FIN.out.1,hIz (fun j hj v' hv'=>by
           rcases Nat.lt_succ_iff_lt_or_eq.1 hj with h|rfl
           ·exact hall.out j h v' hv'
           ·rw[HX.out.1] at hv';obtain rfl:=Option.some.inj hv';exact FIN.out.2)⟩
          case measure=>simp[intOf];omega
        ·have FIN:=hIz (show cO nts PV labels=0 from by
          exact(HV2.out).trans (if_pos ⟨HUP.out,fun v hv=>by
             obtain⟨j,hj⟩:=List.getElem?_of_mem hv;have:=(gO.1 hj).1;have:=HM.out.1;exact hall.out j (by omega) v hj⟩))
         have HBW:=hIz bw;clear bw hall hb;go_wp2;go_ret;exact⟨by rw[FIN.out];rfl,HBW.out⟩
def SY(PV:List Pv):List Pv:=PV.map (fun v=>⟨v.pr.mirror,v.adr,v.cap⟩)
theorem SJ(PV:List Pv)(t:Nat):(((SY PV).take t).map (·.pr)).map Pr.mirror=(PV.take t).map (·.pr):=by
 unfold SY;rw[← List.map_take,List.map_map,List.map_map];refine List.map_congr_left (fun v _=>?_);obtain⟨⟨hd,b⟩,a,c⟩:=v;simp[Pr.mirror]
theorem SK{PV:List Pv}{t:Nat}{y:Pv}(h:PV[t]?=some y):(SY PV)[t]?=some ⟨y.pr.mirror,y.adr,y.cap⟩:=by
 unfold SY;rw[List.getElem?_map,h];rfl
def BI(w:World)(nts:Int)(PV:List Pv)(e:Ending)(w':World):Prop:=
 ∃A c L,e=.returned (.agg #[.int .i64 nts,.slice A PV.length c])∧w'.ownsRow w.heap.size 71 2 (.slice A PV.length c) PV.length (cI L)∧L.map (·.pr)=PV.map (·.pr)∧(∀v∈L,aU w' v.adr (cS v.pr.body)∧∀b o s,v.adr=some ⟨b,o,s⟩→(Value.slice A PV.length c).ownBlock≠some b)∧Below w.heap.size w w'
theorem OA{W:World}{z:Nat}{t:TypeId}{p q:Value}(k:Blk W z t #[p,q])(a b:Value):Blk ((W.setCell ⟨z,0,none⟩ a).setCell ⟨z,1,none⟩ b) z t #[a,b]:=(k.set 0 a).set 1 b
theorem OB(W:World)(z:Nat)(a b:Value):Upd (fun q=>q=z) W ((W.setCell ⟨z,0,none⟩ a).setCell ⟨z,1,none⟩ b):=
 ((Upd.refl (fun q=>q=z) W).setCell (p:=⟨z,0,none⟩) (.inl rfl) a).setCell (p:=⟨z,1,none⟩) (.inl rfl) b
theorem zD{B:Nat}{w W:World}{p:Addr}{u:Value}(h:Below B w (W.setCell p u))(hp:B≤p.block):Below B w W:=
 ⟨h.os,h.tape,h.output,by have:=h.size;simpa[World.setCell] using this,fun k hk=>(Below.heap_setCell W p u k (by omega)).symm.trans (h.block k hk)⟩
theorem JP(w:World)(nts:Int)(PA:Option Addr)(pc:Nat)(PV:List Pv)(hP:PvR w PA PV)(hfit:∀v∈PV,v.pr.body.length*16≤140737488355328)(hpl:PV.length*32≤140737488355328) :
  Calls Tryz.prog 24 #[.agg #[.int .i64 nts,.slice PA PV.length pc]] w (BI w nts PV):=by
 obtain⟨m,hm⟩:∃m,PV.length=m:=⟨_,rfl⟩;rw[hm] at hpl ⊢;have b0:Below w.heap.size w ((w.alloc (.cells #[.int .i64 nts,.slice PA m pc] 50)).alloc (.cells #[.int .i64 0,.slice none 0 0] 50)):=by(repeat (first | exact Below.refl _ _ | apply Below.drew | refine Below.alloc ?_ (by first | exact Nat.le_refl _ | (simp;done) | (simp;omega)) _ | refine Below.setCell ?_ (by first | exact Nat.le_refl _ | (simp;done) | (simp;omega)) _))
 have k1:=(Blk.new w 50 #[.int .i64 nts,.slice PA m pc]).alloc (.cells #[.int .i64 0,.slice none 0 0] 50);have k2:=Blk.new (w.alloc (.cells #[.int .i64 nts,.slice PA m pc] 50)) 50 #[.int .i64 0,.slice none 0 0];simp only[World.size_alloc] at k2
 have H:=aI6 b0 k1 k2 (hP.below b0) hm hfit;clear b0 k1 k2 hP hm hfit;go_enter Tryz.func24,Tryz.ntmps24;go_upto_region 1 with (fail);generalize (w.alloc (.cells #[.int .i64 nts,.slice PA m pc] 50)).alloc (.cells #[.int .i64 0,.slice none 0 0] 50)=W0 at H ⊢;have q0:W0.cell? ⟨w.heap.size,0,none⟩=some (.int .i64 nts):=H.out.2.1.cell 0;have o0:OrM W0 (W0.alloc (.cells #[.int .i64 nts,.slice none 0 0] 50)) nts (SY PV) [] 0 none 0:=⟨⟨Blk.new _ _ _,World.ownsRow_nil _ _ _ _,by simp[Value.ownBlock],rfl,Nat.le_refl _⟩,rfl,fun v hv=>(by cases hv),bR.alloc (Nat.le_refl _) _⟩;have HO:=hIz o0;have hsz:=H.out.2.2.1.lt;clear o0;go_upto_region 2 with (fail);clear q0;generalize W0.alloc (.cells #[.int .i64 nts,.slice none 0 0] 50)=W1 at HO ⊢;go_wp2;go_loopw [4] (fun iv wr=>∃(t:Nat) (A:Option Addr) (c:Nat) (L:List Pv),t≤m∧iv=.int .i64 (t:Int)∧Hid (OrM W0 wr nts (SY PV) L t A c)∧Hid (∀v∈L,∀b o s,v.adr=some ⟨b,o,s⟩→W0.heap.size≤b)) (fun iv _=>m-(intOf iv).toNat)
 case atStart=>exact⟨0,none,0,[],Nat.zero_le _,rfl,HO,hIz (fun v hv=>by cases hv)⟩
 case round =>
  obtain⟨t,A,c,L,ht,rfl,ho,had⟩:=hrel;have k1:=H.out.2.1.upd (Upd.of_below ho.out.bl (fun _=>False)) id;have q1:wr.cell? ⟨w.heap.size,1,none⟩=some (.slice PA m pc):=k1.cell 1;by_cases htm:t<m
  ·have htI:(t:Int)<(m:Int):=by omega
   have hkw:IntKind.i64.wrap ((t:Int)+1)=(t:Int)+1:=IntWalk.i64_in _ (by omega);obtain⟨y,hy⟩:∃y,PV[t]?=some y:=⟨PV[t]'(by rw[H.out.2.2.2.2.1];exact htm),gEz _⟩;have hym:=mG hy;have hpv:=H.out.2.2.2.1.below ho.out.bl;obtain⟨gb,gof,rfl,c0,c1⟩:=hpv.1.pv hy;obtain⟨bl,hbl⟩:∃bl,y.pr.body.length=bl:=⟨_,rfl⟩;have hfb:=H.out.2.2.2.2.2 y hym;rw[hbl] at c1 hfb;have SR:=hIz (show ∀V,Below W0.heap.size W0 V→Blk V W0.heap.size 50 #[.int .i64 nts,.slice A t c]→(fun V:World=>V.cell? ⟨W0.heap.size,1,none⟩=some (.slice A t c)∧V.cell? ⟨w.heap.size,1,none⟩=some (.slice (some ⟨gb,gof,none⟩) m pc)∧V.cell? ⟨gb,gof+t*2,none⟩=some (.int .i64 y.pr.head)∧V.cell? ⟨gb,gof+t*2+1,none⟩=some (.slice y.adr bl y.cap)) V from fun V hb hk=>by
    have k1:=H.out.2.1.upd (upF hb) id;obtain⟨b1,o1,e,d0,d1⟩:=(H.out.2.2.2.1.below hb).1.pv hy;injection e with e;injection e with e1 e2;subst e1;subst e2;rw[hbl] at d1;exact⟨hk.cell 1,k1.cell 1,d0,d1⟩)
   have hB0:Below wr.heap.size wr wr.drew:=bR.drew;have hS:=SR.out wr.drew (tHn ho.out.bl hB0) ho.out.o.b;have hBz:Below wr.heap.size wr (wr.drew.alloc (.cells #[] 96)):=hB0.alloc hB0.size _;have oz:(wr.drew.alloc (.cells #[] 96)).ownsRow wr.heap.size 96 2 (.slice (some ⟨wr.heap.size,0,none⟩) 0 0) 0 []:=gP wr.drew _ 2;have hS1:=SR.out (wr.drew.alloc (.cells #[] 96)) (tHn ho.out.bl hBz) (ho.out.below hBz).o.b;have hrb:aU (wr.drew.alloc (.cells #[] 96)) y.adr (cS y.pr.body):=((H.out.2.2.2.1.below (tHn ho.out.bl hBz)).2 y hym);obtain⟨A8,c8,V2,happ8,own8,up8,-⟩:=aY (wr.drew.alloc (.cells #[] 96)) wr.heap.size 69 96 2 16 _ Tryz.underlying69 NQ rfl (by decide) (by decide) (some ⟨wr.heap.size,0,none⟩) 0 0 [] oz y.adr bl y.cap (cS y.pr.body) hrb (by rw[yP,hbl]) (VF y.pr.body) (by omega) hBz.size;rw[Nat.zero_add] at happ8 own8;rw[List.nil_append] at own8;have hB2:Below wr.heap.size wr V2:=hBz.trans (up8.below (fun q _ hq=>(oz.lt q hq).1) hBz.size);have ho2:=ho.out.below hB2;have hS2:=SR.out V2 ho2.bl ho2.o.b;have b3:Below V2.heap.size V2 (V2.alloc (.cells #[.int .i64 y.pr.head,.slice A8 bl c8] 71)):=bR.alloc (Nat.le_refl _) _;have ho3:=ho2.below b3;have hS3:=SR.out (V2.alloc (.cells #[.int .i64 y.pr.head,.slice A8 bl c8] 71)) ho3.bl ho3.o.b;have hrow:aU (V2.alloc (.cells #[.int .i64 y.pr.head,.slice A8 bl c8] 71)) (some ⟨V2.heap.size,0,none⟩) (cI [(⟨y.pr,A8,c8⟩:Pv)]):=by
    show aU _ _ [.int .i64 y.pr.head,.slice A8 y.pr.body.length c8]
    rw[hbl];exact gD (Blk.new V2 71 #[.int .i64 y.pr.head,.slice A8 bl c8])
   have hown8:∀b o s,A8=some ⟨b,o,s⟩→wr.heap.size≤b∧b<V2.heap.size:=fun b o s e=>own8.lt b (by rw[e];rfl)
   have hmm:Pr.mirror y.pr.mirror=y.pr:=by
    obtain⟨⟨hd,b⟩,a,c⟩:=y;simp[Pr.mirror]
   obtain⟨A9,c9,W9,happ,kb9,o9⟩:=ho3.push (SK hy) (⟨y.pr,A8,c8⟩:Pv) hmm.symm (fun b o s e=>by
     have h1:=hown8 b o s e;have h2:=ho.out.o.b.lt;refine⟨by omega,fun ho'=>?_⟩;have:=(ho.out.o.own.lt b ho').2;omega) (aU.of_own (aA own8 (upF b3) (fun _ _=>id))) (fun b o s e=>by have:=hown8 b o s e;have:=b3.size;omega) _ 1 hrow (by omega)
   have hS4:=SR.out W9 (zD o9.bl (Nat.le_refl _)) kb9;have f9:=kb9.frozen 1;have HO9:=hIz o9;have HA9:=hIz (show ∀v∈L++[(⟨y.pr,A8,c8⟩:Pv)],∀b o s,v.adr=some ⟨b,o,s⟩→W0.heap.size≤b from fun v hv b o s e=>by
    rcases List.mem_append.1 hv with hv|hv
    ·exact had.out v hv b o s e
    ·rw[List.mem_singleton] at hv;subst hv;have:=hown8 b o s e;have:=ho.out.bl.size;omega)
   clear hB0 hBz oz hrb own8 up8 hB2 ho2 b3 ho3 hrow hown8 hmm o9 hpv hy hym hbl hfb kb9 ho k1;go_upto_region 5 with (fail);refine aF (fun V:World=>V.cell? ⟨W0.heap.size,1,none⟩=some (.slice A t c)∧V.cell? ⟨w.heap.size,1,none⟩=some (.slice (some ⟨gb,gof,none⟩) m pc)∧V.cell? ⟨gb,gof+t*2,none⟩=some (.int .i64 y.pr.head)∧V.cell? ⟨gb,gof+t*2+1,none⟩=some (.slice y.adr bl y.cap)) 20 [(0,true),(1,true),(2,true),(3,true),(4,true),(5,true),(6,true),(7,true),(9,true),(10,true),(11,true),(12,true),(13,true),(14,true),(8,false),(15,false),(16,true),(17,false),(18,false),(19,true),(20,false)] hS ?_;clear hS SR
   iterate 14 refine aC rfl ?_
   refine aN rfl rfl (fun K hK=>?_);go_simp;refine hK _ _ (fun _=>hS1) ?_;clear hK K hS1;(try simp only[Act.put,gA,gS,gZ,sA,sZ,sS])
   refine aN rfl rfl (fun K hK=>?_);refine bX _ _ _ rfl rfl rfl happ8 ?_;refine hK _ _ (fun _=>hS2) ?_;clear hK K happ8 hS2;(try simp only[Act.put,gA,gS,gZ,sA,sZ,sS])
   refine aC rfl ?_;refine aN rfl rfl (fun K hK=>?_);go_simp;refine hK _ _ (fun _=>hS3) ?_;clear hK K hS3;(try simp only[Act.put,gA,gS,gZ,sA,sZ,sS])
   refine aN rfl rfl (fun K hK=>?_);refine bX _ _ _ rfl rfl rfl happ ?_;refine hK _ _ (fun _=>hS4) ?_;obtain⟨qW,-,-,-⟩:=hS4;clear hK K happ;(try simp only[Act.put,gA,gS,gZ,sA,sZ,sS])
   refine aC rfl ?_;refine aN rfl rfl (fun K hK=>?_);go_simp;refine hK _ _ (fun h=>absurd rfl h) ?_;clear hK K;(try simp only[Act.put,gA,gS,gZ,sA,sZ,sS])
   refine aG ?_;clear qW f9 c0 c1 q1;go_wp2;go_roundw
   case rel=>exact⟨t+1,A9,c9,_,by omega,by go_num,HO9,HA9⟩
   case measure=>simp[intOf];omega
  ·obtain rfl:m=t:=by omega
   have htI:¬(m:Int)<(m:Int):=by omega
   have e0:wr.cell? ⟨W0.heap.size,0,none⟩=some (.int .i64 nts):=ho.out.o.b.cell 0;have e1:wr.cell? ⟨W0.heap.size,1,none⟩=some (.slice A m c):=ho.out.o.b.cell 1;have k2:=H.out.2.2.1.upd (Upd.of_below ho.out.bl (fun _=>False)) id;have s0:wr.cell? ⟨w.heap.size+1,0,none⟩=some (.int .i64 0):=k2.cell 0;have s1:wr.cell? ⟨w.heap.size+1,1,none⟩=some (.slice none 0 0):=k2.cell 1;have g0:=k2.frozen 0;have g1:=k2.frozen 1;have KF:=OA k2 (.int .i64 nts) (.slice A m c);have UF:=OB wr (w.heap.size+1) (.int .i64 nts) (.slice A m c);have y0:=KF.cell 0;have y1:=KF.cell 1;simp only[List.getElem?_toArray,List.getElem?_cons_succ,List.getElem?_cons_zero] at y0 y1
   have FIN:=hIz (show BI w nts PV (.returned (.agg #[.int .i64 nts,.slice A m c])) (((wr.setCell ⟨w.heap.size+1,0,none⟩ (.int .i64 nts)).setCell ⟨w.heap.size+1,1,none⟩ (.slice A m c))) from by
    unfold BI;rw[H.out.2.2.2.2.1];have hz:=H.out.1.size;refine⟨A,c,L,rfl,?_,?_,fun v hv=>⟨(ho.out.bd v hv).1.upd UF (fun b o s e h=>?_),fun b o s e=>((ho.out.bd v hv).2 b o s e).2.2⟩,(H.out.1.trans (ho.out.bl.mono hz)).trans (UF.below (fun q _ e=>by omega) (by have:=ho.out.bl.size;omega))⟩
    ·exact aQ (aA ho.out.o.own UF (fun k hk e=>by have:=(ho.out.o.own.lt k hk).1;omega)) (fun k hk=>by have:=(ho.out.o.own.lt k hk).1;omega)
    ·rw[ho.out.pr,SJ,← H.out.2.2.2.2.1,List.take_length]
    ·have:=had.out v hv b o s e;omega)
   clear KF UF k2 ho k1;go_wp2;generalize ((wr.setCell ⟨w.heap.size+1,0,none⟩ (.int .i64 nts)).setCell ⟨w.heap.size+1,1,none⟩ (.slice A m c))=WF at FIN y0 y1 ⊢;refine bodyPost_ret (v:=.agg #[.int .i64 nts,.slice A m c]) (by simp[results,Tryz.f24,go_sem,y0,y1]) rfl FIN.out
end Go.Proofs.YtddffnonlmfhdaaGreatDoor
