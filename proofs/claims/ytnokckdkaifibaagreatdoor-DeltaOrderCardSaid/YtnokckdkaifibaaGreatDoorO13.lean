/- azimov: fill; azimov: Check; azimov: there; a closure that takes a matrix more; Facts in memory; delta: slices.Values of facts; Facts of no closure; Matrices of bits: what one holds and another one does not (Less). (Written by mkDlC.py.); Matrices of bits: what one matrix holds and another one does not (made, Less); How many edges a graph has, counted by their ends and by their labels (plain); delta: a closure that is kept up: what a round of grow leaves (plain). -/
import Derived.Deep.LoopGhost
import Derived.Laws.OwnMore
import Derived.Test.YtnokckdkaifibaaGreatDoorO12
import Derived.Test.YtnokckdkaifibaaGreatDoorO08
import Derived.Test.YtnokckdkaifibaaGreatDoorO10
import Derived.Test.YtnokckdkaifibaaGreatDoorO06
import Derived.Test.YtnokckdkaifibaaGreatDoorO11
set_option linter.unusedVariables false
set_option linter.unusedSimpArgs false
set_option maxHeartbeats 16000000
set_option maxRecDepth 100000
namespace Go.Proofs.YtnokckdkaifibaaGreatDoor
open Go.RowKit Go.Shelf
theorem QF(nts:Nat):madeCells (Value.bool false).cells (((nts:Int)).toNat*1)=(mkC nts []).toArray:=by
 apply Array.toList_inj.1
 rw[Int.toNat_natCast,Nat.mul_one,show(Value.bool false).cells=#[Value.bool false] from rfl,toList_madeCells_one];apply List.ext_getElem?
 intro i;by_cases h:i<nts
 ·simp[mkC,h]
 ·simp[mkC,h]
theorem QG(nts:Nat):madeCells (Value.slice none 0 0).cells (((nts:Int)).toNat*1)=(uvC (fun _=>.slice none 0 0) nts).toArray:=by
 apply Array.toList_inj.1
 rw[Int.toNat_natCast,Nat.mul_one,show(Value.slice none 0 0).cells=#[Value.slice none 0 0] from rfl,toList_madeCells_one];apply List.ext_getElem?
 intro i;by_cases h:i<nts
 ·simp[uvC,h]
 ·simp[uvC,h]
theorem SM(k:Int)(T:TypeId)(w:World):(Instr.typeAssert (.iface 3 (.int .i64 k)) T 3 false).run Tryz.prog w=.ok (.int .i64 k) w:=by kernel_rfl
theorem BJ:(Tryz.prog.info? 4).map (fun i=>(i.zero,i.size,i.bytes))=some (some (.bool false),1,1):=by kernel_rfl
theorem BL:(Tryz.prog.info? 30).map (fun i=>(i.zero,i.size,i.bytes))=some (some (.slice none 0 0),1,24):=by kernel_rfl
theorem MA(w:World)(nts:Nat)(h:nts≤512):(Instr.makeSlice 43 (.int .i64 (nts:Int)) (.int .i64 (nts:Int))).run Tryz.prog w=.ok (.slice (some ⟨w.heap.size,0,none⟩) nts nts) (w.alloc (.cells (mkC nts []).toArray 4)):=by
 obtain⟨i0,hi0,hz0,hz1,hz2⟩:=info_parts BJ;have hr:=run_make (P:=Tryz.prog) w 43 4 i0 _ Tryz.underlying43 hi0 hz0 .i64 .i64 (nts:Int) (nts:Int) (by omega) (Int.le_refl _) (by rw[hz2];omega) (by omega);rw[hz1,QF,Int.toNat_natCast] at hr;exact hr
theorem QH(w:World)(nts:Nat)(h:nts≤512):(Instr.makeSlice 192 (.int .i64 (nts:Int)) (.int .i64 (nts:Int))).run Tryz.prog w=.ok (.slice (some ⟨w.heap.size,0,none⟩) nts nts) (w.alloc (.cells (uvC (fun _=>.slice none 0 0) nts).toArray 30)):=by
 obtain⟨i0,hi0,hz0,hz1,hz2⟩:=info_parts BL;have hr:=run_make (P:=Tryz.prog) w 192 30 i0 _ Tryz.underlying192 hi0 hz0 .i64 .i64 (nts:Int) (nts:Int) (by omega) (Int.le_refl _) (by rw[hz2];omega) (by omega);rw[hz1,QG,Int.toNat_natCast] at hr;exact hr
def TS(w:World)(nts:Nat)(cs:Array Value):World:=
 (((w.alloc (.cells cs 32)).alloc (.cells (mkC nts []).toArray 4)).alloc (.cells #[.slice none 0 0,.slice (some ⟨w.heap.size+1,0,none⟩) nts nts] 191)).alloc (.cells (uvC (fun _=>.slice none 0 0) nts).toArray 30)
theorem GQ{w:World}{F:Nat→Prop}{p n nts:Nat}{B:aX}(cs:Array Value)(h:ClS w F p n n nts B):kL w (TS w nts cs) F p n nts (w.heap.size+2) (w.heap.size+1) (w.heap.size+3) NoX B [] (fun _=>[]):=by
 unfold TS;have e1:(w.alloc (.cells cs 32)).heap.size=w.heap.size+1:=by simp
 have e2:((w.alloc (.cells cs 32)).alloc (.cells (mkC nts []).toArray 4)).heap.size=w.heap.size+2:=by simp
 have e3:(((w.alloc (.cells cs 32)).alloc (.cells (mkC nts []).toArray 4)).alloc (.cells #[.slice none 0 0,.slice (some ⟨w.heap.size+1,0,none⟩) nts nts] 191)).heap.size=w.heap.size+3:=by simp
 have km:=((Blk.new (w.alloc (.cells cs 32)) 4 (mkC nts []).toArray).alloc (.cells #[.slice none 0 0,.slice (some ⟨w.heap.size+1,0,none⟩) nts nts] 191)).alloc (.cells (uvC (fun _=>.slice none 0 0) nts).toArray 30);have kp:=(Blk.new ((w.alloc (.cells cs 32)).alloc (.cells (mkC nts []).toArray 4)) 191 #[.slice none 0 0,.slice (some ⟨w.heap.size+1,0,none⟩) nts nts]).alloc (.cells (uvC (fun _=>.slice none 0 0) nts).toArray 30);have ku:=Blk.new (((w.alloc (.cells cs 32)).alloc (.cells (mkC nts []).toArray 4)).alloc (.cells #[.slice none 0 0,.slice (some ⟨w.heap.size+1,0,none⟩) nts nts] 191)) 30 (uvC (fun _=>.slice none 0 0) nts).toArray;rw[e1] at km;rw[e2] at kp;rw[e3] at ku;have hb:Below w.heap.size w ((((w.alloc (.cells cs 32)).alloc (.cells (mkC nts []).toArray 4)).alloc (.cells #[.slice none 0 0,.slice (some ⟨w.heap.size+1,0,none⟩) nts nts] 191)).alloc (.cells (uvC (fun _=>.slice none 0 0) nts).toArray 30)):=by(repeat (first | exact Below.refl _ _ | apply Below.drew | refine Below.alloc ?_ (by first | exact Nat.le_refl _ | (simp;done) | (simp;omega)) _ | refine Below.setCell ?_ (by first | exact Nat.le_refl _ | (simp;done) | (simp;omega)) _))
 have e4:((((w.alloc (.cells cs 32)).alloc (.cells (mkC nts []).toArray 4)).alloc (.cells #[.slice none 0 0,.slice (some ⟨w.heap.size+1,0,none⟩) nts nts] 191)).alloc (.cells (uvC (fun _=>.slice none 0 0) nts).toArray 30)).heap.size=w.heap.size+4:=by simp
 generalize (((w.alloc (.cells cs 32)).alloc (.cells (mkC nts []).toArray 4)).alloc (.cells #[.slice none 0 0,.slice (some ⟨w.heap.size+1,0,none⟩) nts nts] 191)).alloc (.cells (uvC (fun _=>.slice none 0 0) nts).toArray 30)=V at km kp ku hb e4 ⊢;have no:∀k,(Value.slice none 0 0).ownBlock=some k→False:=fun k e=>by simp[Value.ownBlock] at e
 have hF:=h.lt;refine⟨F,.slice none 0 0,fun q=>if q=w.heap.size+3 then some none else none,fun _=>.slice none 0 0,h.below hb,⟨⟨kp,World.ownsRow_nil _ _ _ _⟩,km,fun k e=>(no k e).elim,fun k e=>(no k e).elim,by omega,fun x hx=>(by cases hx),List.nodup_nil⟩,⟨ku,fun k _=>World.ownsRow_nil _ _ _ _,if_pos rfl,fun k _ q e=>(no q e).elim,fun q hq=>?_⟩,(Upd.of_below hb F),fun k hk=>.inl hk,fun k hk=>?_,fun k hk=>?_,fun k hk e=>?_,fun k hk=>?_,fun k hk=>?_,?_,?_,?_,?_⟩
 ·by_cases e:q=w.heap.size+3
  ·omega
  ·rw[if_neg e] at hq;exact absurd rfl hq
 ·rcases hk with e|e|e
  ·omega
  ·omega
  ·exact(no k e).elim
 ·by_cases e:k=w.heap.size+3
  ·omega
  ·rw[if_neg e] at hk;exact absurd rfl hk
 ·have:=hF k hk;rcases e with e|e|e
  ·omega
  ·omega
  ·exact(no k e).elim
 ·have:=hF k hk;exact if_neg (by omega)
 ·rcases hk with e|e|e
  ·exact if_neg (by omega)
  ·exact if_neg (by omega)
  ·exact(no k e).elim
 all_goals exact fun k hk=>hk.elim
theorem kL.base{W0 w V:World}{F X:Nat→Prop}{p n nts pw pm u:Nat}{B:aX}{L:List Int}{Q:Nat→List Pv}(h:kL w V F p n nts pw pm u X B L Q)(hb:Below W0.heap.size W0 w)(hF:∀k,F k→W0.heap.size≤k):Below W0.heap.size W0 V:=by
 obtain⟨FC,lv,U,uv,h⟩:=h;exact hb.trans (h.up.below (fun i _ hi=>hF i hi) hb.size)
structure UI(W0:World)(PA:Option Addr)(PV:List Pv)(LA:Option Addr)(labels:List Txt)(Fg:Nat→Prop)(pg:Nat)(G:Gr)(n nts:Nat):Prop where
 pv:PvR W0 PA PV
 lab:bO W0 LA (aG labels)
 gr:GrS W0 Fg pg G
 ok:GOk G
 hn:G.N.length=n
 n1:1≤n
 tab:gI W0
 htab:1<W0.heap.size
 sh:∀v∈PV,QD nts labels.length v
 nts1:1≤nts
 nts5:nts≤512
 few:PV.length≤8192
def SN(w:World)(F:Nat→Prop)(p n nts:Nat)(PV:List Pv)(labels:List Txt)(G:Gr)(w':World):Prop:=
 ∃B:aX,(∀k,k<nts→∀i j,aY (B k) i j=true↔gR (PV.map (·.pr)) (ElG G labels) n (k:Int) i j)∧(∀k,WdO (B k))∧wH w F p n n nts B w'
def QI(w:World)(F:Nat→Prop)(p n nts pw pm u:Nat)(PV:List Pv)(El:Int→Nat→Nat→Prop)(t:Nat)(V:World):Prop:=
 ∃B L,kL w V F p n nts pw pm u NoX B L (iA PV t)∧Lp1 PV El n nts t B L
theorem MB(W0 w:World)(hb0:Below W0.heap.size W0 w)(F:Nat→Prop)(hF:∀k,F k→W0.heap.size≤k)(p n nts:Nat)(h:ClS w F p n n nts (fun _=>none))(PA:Option Addr)(pc:Nat)(PV:List Pv)(LA:Option Addr)(cl:Nat)(labels:List Txt)
  (Fg:Nat→Prop) (pg:Nat) (G:Gr) (hin:UI W0 PA PV LA labels Fg pg G n nts) :
  Calls Tryz.prog 70 #[.pointer (some ⟨p,0,none⟩),.agg #[.int .i64 (nts:Int),.slice PA PV.length pc],.slice LA labels.length cl,.pointer (some ⟨pg,0,none⟩)] w (fun e w'=>e=.returned (.tuple #[])∧SN w F p n nts PV labels G w'):=by
 have hFM:kL w (TS w nts #[.int .i64 (nts:Int),.slice PA PV.length pc]) F p n nts (w.heap.size+1+1) (w.heap.size+1) (w.heap.size+1+1+1) NoX (fun _=>none) [] (fun _=>[]):=GQ #[.int .i64 (nts:Int),.slice PA PV.length pc] h;have k0:=Blk.new w 32 #[.int .i64 (nts:Int),.slice PA PV.length pc];have q0:(w.alloc (.cells #[.int .i64 (nts:Int),.slice PA PV.length pc] 32)).cell? ⟨w.heap.size,0,none⟩=some (.int .i64 (nts:Int)):=k0.cell 0;have hm1:=MA (w.alloc (.cells #[.int .i64 (nts:Int),.slice PA PV.length pc] 32)) nts hin.nts5;have k2:=(k0.alloc (.cells (mkC nts []).toArray 4)).alloc (.cells #[.slice none 0 0,.slice (some ⟨w.heap.size+1,0,none⟩) nts nts] 191);have k3:=k2.alloc (.cells (uvC (fun _=>.slice none 0 0) nts).toArray 30);have q02:=k2.cell 0;have q03:=k3.cell 1;simp only[List.getElem?_toArray,List.getElem?_cons_zero,List.getElem?_cons_succ] at q02 q03
 have hm2:=QH (((w.alloc (.cells #[.int .i64 (nts:Int),.slice PA PV.length pc] 32)).alloc (.cells (mkC nts []).toArray 4)).alloc (.cells #[.slice none 0 0,.slice (some ⟨w.heap.size+1,0,none⟩) nts nts] 191)) nts hin.nts5;have q5:=hin.nts5;have q8:=hin.few;have q1:=hin.nts1;have HI:=aI3 hin hb0 hF;obtain⟨m,hm⟩:∃m,PV.length=m:=⟨_,rfl⟩;rw[hm] at hFM q0 hm1 q8 hm2 q02 q03 ⊢;have HF:=hIz hFM;have HM:=hIz hm;clear hFM h hin hb0 hF k0 k2 k3 hm;unfold TS at HF;have q1n:1≤n:=HI.out.1.n1;have HN64:=hIz (show n≤64 from by have:=HI.out.1.ok.few;have:=HI.out.1.hn;omega);have HEL:=hIz (show ∀k i j,ElG G labels k i j→i<n∧j<n from fun k i j h=>by have:=h.lt;rwa [HI.out.1.hn] at this);go_enter Tryz.func70,Tryz.ntmps70;go_upto_region 3 with (fail);clear hm1 hm2 q0 q02;generalize (((w.alloc (.cells #[.int .i64 (nts:Int),.slice PA m pc] 32)).alloc (.cells (mkC nts []).toArray 4)).alloc (.cells #[.slice none 0 0,.slice (some ⟨w.heap.size+1,0,none⟩) nts nts] 191)).alloc (.cells (uvC (fun _=>.slice none 0 0) nts).toArray 30)=W4 at HF q03 ⊢;generalize w.heap.size+1+1+1=u at HF ⊢;generalize w.heap.size+1+1=pw at HF ⊢;generalize w.heap.size+1=pm at HF ⊢;generalize w.heap.size=z at q03 ⊢;go_wp2;clear q03;go_loopw [27] (fun i wr=>∃t:Nat,t≤m∧i=.int .i64 (t:Int)∧Hid (QI w F p n nts pw pm u PV (ElG G labels) t wr)) (fun i _=>m-(intOf i).toNat)
 case atStart=>exact⟨0,Nat.zero_le _,rfl,hIz ⟨_,_,by rw[GO];exact HF.out,Lp1.begin PV _ n nts⟩⟩
 case round =>
  obtain⟨t,ht,rfl,hq⟩:=hrel;clear HF;by_cases hlt:t<m
  ·clear ht;-- ROUND1
   have hltI:(t:Int)<(m:Int):=by omega
   obtain⟨B,L,hM,hL1⟩:=hq.out;have hB:=hM.base HI.out.2.1 HI.out.2.2;obtain⟨v,hv⟩:∃v,PV[t]?=some v:=⟨_,gEz (by rw[HM.out];exact hlt)⟩;have hvm:=mG hv;have hok:=HI.out.1.sh v hvm;obtain⟨pb,po,rfl,c0,c1⟩:=(HI.out.1.pv.1.below3 hB).pv hv;have hrow:=(HI.out.1.pv.2 v hvm).below3 hB;obtain⟨⟨hd,bd⟩,bA,bc⟩:=v;dsimp only at c0 c1 hrow
   obtain⟨a,rfl⟩:∃a:Nat,hd=(a:Int):=⟨hd.toNat,by have:=hok.g.h0;dsimp only at this;omega⟩;have ha:a<nts:=by have:=hok.g.h1;dsimp only at this;omega
   have haI:(a:Int)<(nts:Int):=by omega
   rcases bd with _|⟨s,_|⟨r,_|⟨y,bd⟩⟩⟩
   ·have c1:wr.cell? ⟨pb,po+t*2+1,none⟩=some (.slice bA 0 bc):=c1;have kb:=Blk.new wr 76 #[.int .i64 (a:Int),.slice bA 0 bc];have b1:Below wr.heap.size wr (wr.alloc (.cells #[.int .i64 (a:Int),.slice bA 0 bc] 76)):=bR.alloc (Nat.le_refl _) _;obtain⟨FC,hcl,hturn⟩:=(hM.box (.cells #[.int .i64 (a:Int),.slice bA 0 bc] 76)).turn;have hcon:=BG (wr.alloc (.cells #[.int .i64 (a:Int),.slice bA 0 bc] 76)) FC p n nts B hcl a bA bc ha q1n HN64.out (ElG G labels) (.slice LA labels.length cl) (.pointer (some ⟨pg,0,none⟩));have e0:(wr.alloc (.cells #[.int .i64 (a:Int),.slice bA 0 bc] 76)).cell? ⟨wr.heap.size,0,none⟩=some (.int .i64 (a:Int)):=kb.cell 0;have e1:(wr.alloc (.cells #[.int .i64 (a:Int),.slice bA 0 bc] 76)).cell? ⟨wr.heap.size,1,none⟩=some (.slice bA 0 bc):=kb.cell 1;have HT:=aI6 hturn e0 e1 hL1 hv hq.out;clear hM hL1 hv hvm hok hrow kb b1 hcl hturn hB hq;go_wp2_with fail;refine hcon.mono ?_;clear hcon e0 e1 c0 c1;rintro e V2 ⟨mm,hg,he,hto⟩;obtain⟨hM2,-,hX2⟩:=HT.out.1 _ V2 hto;have c20:V2.cell? ⟨wr.heap.size,0,none⟩=some (.int .i64 (a:Int)):=(hX2 _ 0 rfl).trans HT.out.2.1;have c21:V2.cell? ⟨wr.heap.size,1,none⟩=some (.slice bA 0 bc):=(hX2 _ 1 rfl).trans HT.out.2.2.1;have HG:=hIz hg;cases hmo:dR (B ((a:Int)).toNat) mm
    ·rw[show(⟨(a:Int),[]⟩:Pr).head=(a:Int) from rfl,hmo] at he;subst he;have FIN:=hIz (show QI w F p n nts pw pm u PV (ElG G labels) (t+1) V2 from by
      have hl:=HT.out.2.2.2.1.one HT.out.2.2.2.2.1 HI.out.1.sh HN64.out HEL.out HG.out (L':=L) (by
       rw[if_neg (by rw[show(⟨⟨(a:Int),[]⟩,bA,bc⟩:Pv).pr.head=(a:Int) from rfl,hmo];exact nofun)])
      exact⟨_,L,by rw[hl.2];exact hM2.bare,hl.1⟩)
     clear hM2 hX2 hto hg hmo;go_wp2;go_roundw
     case rel=>exact⟨t+1,by omega,by go_num,FIN⟩
     case measure=>simp[intOf];omega
    ·rw[show(⟨(a:Int),[]⟩:Pr).head=(a:Int) from rfl,hmo] at he;subst he;obtain⟨lv,hwk,hwork⟩:=hM2.work;have hput:=tL V2 pw pm nts lv L hwk q5 a ha;have HW:=aI3 hwork hmo c21;clear hM2 hX2 hto hg hmo hwk hwork c21;go_wp2_with fail;refine hput.mono ?_;clear hput;rintro e V3 ⟨rfl,hwt⟩;obtain⟨⟨L',hPu,hM3⟩,-,hX3⟩:=HW.out.1 _ _ hwt;have c31:V3.cell? ⟨wr.heap.size,1,none⟩=some (.slice bA 0 bc):=(hX3 _ 1 rfl).trans HW.out.2.2;have FIN:=hIz (show QI w F p n nts pw pm u PV (ElG G labels) (t+1) V3 from by
      have hl:=HT.out.2.2.2.1.one HT.out.2.2.2.2.1 HI.out.1.sh HN64.out HEL.out HG.out (L':=L') (by
       rw[if_pos (by rw[show(⟨⟨(a:Int),[]⟩,bA,bc⟩:Pv).pr.head=(a:Int) from rfl];exact HW.out.2.1)];exact hPu)
      exact⟨_,L',by rw[hl.2];exact hM3.bare,hl.1⟩)
     clear hPu hM3 hX3 hwt;go_wp2;go_roundw
     case rel=>exact⟨t+1,by omega,by go_num,FIN⟩
     case measure=>simp[intOf];omega
   ·have c1:wr.cell? ⟨pb,po+t*2+1,none⟩=some (.slice bA 1 bc):=c1;have kb:=Blk.new wr 76 #[.int .i64 (a:Int),.slice bA 1 bc];have b1:Below wr.heap.size wr (wr.alloc (.cells #[.int .i64 (a:Int),.slice bA 1 bc] 76)):=bR.alloc (Nat.le_refl _) _;obtain⟨FC,hcl,hturn⟩:=(hM.box (.cells #[.int .i64 (a:Int),.slice bA 1 bc] 76)).turn;have hs:=hok.one s rfl;obtain⟨slab,sat⟩:=s;dsimp only at hs
    obtain⟨sk,rfl⟩:∃sk:Nat,sat=(sk:Int):=⟨sat.toNat,by omega⟩;obtain⟨lb,hlb⟩:∃lb,labels[sk]?=some lb:=⟨_,gEz (by omega)⟩;have hB1:=tHn hB b1;have hcon:=BI (wr.alloc (.cells #[.int .i64 (a:Int),.slice bA 1 bc] 76)) FC p n nts B hcl a sk slab bA bc (hrow.below3 b1) ha q1n HN64.out LA cl labels (HI.out.1.lab.below3 hB1) lb hlb Fg pg G (HI.out.1.gr.below hB1) HI.out.1.ok HI.out.1.hn;clear hs hB1 hlb;have e0:(wr.alloc (.cells #[.int .i64 (a:Int),.slice bA 1 bc] 76)).cell? ⟨wr.heap.size,0,none⟩=some (.int .i64 (a:Int)):=kb.cell 0;have e1:(wr.alloc (.cells #[.int .i64 (a:Int),.slice bA 1 bc] 76)).cell? ⟨wr.heap.size,1,none⟩=some (.slice bA 1 bc):=kb.cell 1;have HT:=aI6 hturn e0 e1 hL1 hv hq.out;clear hM hL1 hv hvm hok hrow kb b1 hcl hturn hB hq;go_wp2_with fail;refine hcon.mono ?_;clear hcon e0 e1 c0 c1;rintro e V2 ⟨mm,hg,he,hto⟩;obtain⟨hM2,-,hX2⟩:=HT.out.1 _ V2 hto;have c20:V2.cell? ⟨wr.heap.size,0,none⟩=some (.int .i64 (a:Int)):=(hX2 _ 0 rfl).trans HT.out.2.1;have c21:V2.cell? ⟨wr.heap.size,1,none⟩=some (.slice bA 1 bc):=(hX2 _ 1 rfl).trans HT.out.2.2.1;have HG:=hIz hg;cases hmo:dR (B ((a:Int)).toNat) mm
    ·rw[show(⟨(a:Int),[⟨slab,(sk:Int)⟩]⟩:Pr).head=(a:Int) from rfl,hmo] at he;subst he;have FIN:=hIz (show QI w F p n nts pw pm u PV (ElG G labels) (t+1) V2 from by
      have hl:=HT.out.2.2.2.1.one HT.out.2.2.2.2.1 HI.out.1.sh HN64.out HEL.out HG.out (L':=L) (by
       rw[if_neg (by rw[show(⟨⟨(a:Int),[⟨slab,(sk:Int)⟩]⟩,bA,bc⟩:Pv).pr.head=(a:Int) from rfl,hmo];exact nofun)])
      exact⟨_,L,by rw[hl.2];exact hM2.bare,hl.1⟩)
     clear hM2 hX2 hto hg hmo;go_wp2;go_roundw
     case rel=>exact⟨t+1,by omega,by go_num,FIN⟩
     case measure=>simp[intOf];omega
    ·rw[show(⟨(a:Int),[⟨slab,(sk:Int)⟩]⟩:Pr).head=(a:Int) from rfl,hmo] at he;subst he;obtain⟨lv,hwk,hwork⟩:=hM2.work;have hput:=tL V2 pw pm nts lv L hwk q5 a ha;have HW:=aI3 hwork hmo c21;clear hM2 hX2 hto hg hmo hwk hwork c21;go_wp2_with fail;refine hput.mono ?_;clear hput;rintro e V3 ⟨rfl,hwt⟩;obtain⟨⟨L',hPu,hM3⟩,-,hX3⟩:=HW.out.1 _ _ hwt;have c31:V3.cell? ⟨wr.heap.size,1,none⟩=some (.slice bA 1 bc):=(hX3 _ 1 rfl).trans HW.out.2.2;have FIN:=hIz (show QI w F p n nts pw pm u PV (ElG G labels) (t+1) V3 from by
      have hl:=HT.out.2.2.2.1.one HT.out.2.2.2.2.1 HI.out.1.sh HN64.out HEL.out HG.out (L':=L') (by
       rw[if_pos (by rw[show(⟨⟨(a:Int),[⟨slab,(sk:Int)⟩]⟩,bA,bc⟩:Pv).pr.head=(a:Int) from rfl];exact HW.out.2.1)];exact hPu)
      exact⟨_,L',by rw[hl.2];exact hM3.bare,hl.1⟩)
     clear hPu hM3 hX3 hwt;go_wp2;go_roundw
     case rel=>exact⟨t+1,by omega,by go_num,FIN⟩
     case measure=>simp[intOf];omega
   ·have c1:wr.cell? ⟨pb,po+t*2+1,none⟩=some (.slice bA 2 bc):=c1;have hg2:=hok.g.two s r rfl;obtain⟨la,sb⟩:=s;obtain⟨lb,sc⟩:=r;dsimp only at hg2
    obtain⟨b,rfl⟩:∃b:Nat,sb=(b:Int):=⟨sb.toNat,by omega⟩;obtain⟨c,rfl⟩:∃c:Nat,sc=(c:Int):=⟨sc.toNat,by omega⟩;have hqb:b<nts:=by omega
    have hqc:c<nts:=by omega
    have hbI:(b:Int)<(nts:Int):=by omega
    have hcI:(c:Int)<(nts:Int):=by omega
    obtain⟨gb,go,rfl,-⟩:=hrow 0 (.bool la) rfl;have kb:=Blk.new wr 76 #[.int .i64 (a:Int),.slice (some ⟨gb,go,none⟩) 2 bc];have hcon:=BH (wr.alloc (.cells #[.int .i64 (a:Int),.slice (some ⟨gb,go,none⟩) 2 bc] 76)) p (a:Int) (some ⟨gb,go,none⟩) 2 bc (Nat.le_refl _) (.slice LA labels.length cl) (.pointer (some ⟨pg,0,none⟩));have e0:(wr.alloc (.cells #[.int .i64 (a:Int),.slice (some ⟨gb,go,none⟩) 2 bc] 76)).cell? ⟨wr.heap.size,0,none⟩=some (.int .i64 (a:Int)):=kb.cell 0;have e1:(wr.alloc (.cells #[.int .i64 (a:Int),.slice (some ⟨gb,go,none⟩) 2 bc] 76)).cell? ⟨wr.heap.size,1,none⟩=some (.slice (some ⟨gb,go,none⟩) 2 bc):=kb.cell 1;have HT:=aI4 (hM.box (.cells #[.int .i64 (a:Int),.slice (some ⟨gb,go,none⟩) 2 bc] 76)) kb hL1 hv;have HQ:=hIz (show ∀W,Below W0.heap.size W0 W→W.cell? ⟨gb,go+1,none⟩=some (.int .i64 (b:Int))∧W.cell? ⟨gb,go+3,none⟩=some (.int .i64 (c:Int)) from fun W hW=>by
     have hr2:=(HI.out.1.pv.2 _ hvm).below3 hW;obtain⟨b',o',e,d1⟩:=hr2 1 (.int .i64 (b:Int)) rfl;injection e with e;injection e with e1 e2;subst e1;subst e2;obtain⟨b',o',e,d3⟩:=hr2 3 (.int .i64 (c:Int)) rfl;injection e with e;injection e with e1 e2;subst e1;subst e2;exact⟨d1,d3⟩)
    have hlen9:∀k,(iA PV t k).length≤8192:=fun k=>by have:=zF PV t k;have:=HM.out;omega
    have HLEN:=hIz hlen9;clear hM hL1 hv hvm hok hrow kb hB hq hg2 hlen9;go_wp2_with fail;refine hcon.mono ?_;clear hcon e0 e1 c0 c1;rintro e V2 ⟨rfl,hb2⟩;have k2:=HT.out.2.1.upd (upF hb2) id;have hM2:=HT.out.1.below hb2;have H2:=hIz (show kL w V2 F p n nts pw pm u (fun k=>k=wr.heap.size) B L (iA PV t)∧V2.cell? ⟨wr.heap.size,0,none⟩=some (.int .i64 (a:Int))∧V2.cell? ⟨wr.heap.size,1,none⟩=some (.slice (some ⟨gb,go,none⟩) 2 bc)∧V2.cell? ⟨gb,go+1,none⟩=some (.int .i64 (b:Int))∧V2.cell? ⟨gb,go+3,none⟩=some (.int .i64 (c:Int)) from⟨hM2,k2.cell 0,k2.cell 1,HQ.out V2 (hM2.base HI.out.2.1 HI.out.2.2)⟩);clear hM2;have c21:V2.cell? ⟨wr.heap.size,1,none⟩=some (.slice (some ⟨gb,go,none⟩) 2 bc):=k2.cell 1;clear k2 hb2;generalize wr.heap.size=z1 at H2 c21 ⊢;have hMd:=H2.out.1.below (V':=V2.drew) (bR.drew);obtain⟨A1,c1,A2,c2,W2,qu,happ,qu2,fu2,hu2,hX2,hMn,hXn⟩:=hMd.push (k:=b) hqb ⟨⟨(a:Int),[⟨la,(b:Int)⟩,⟨lb,(c:Int)⟩]⟩,some ⟨gb,go,none⟩,bc⟩ (by have:=HLEN.out b;omega);have HNEW:=aI3 hMn ((hXn z1 0 rfl).trans H2.out.2.1) ((hXn z1 1 rfl).trans H2.out.2.2.1);obtain⟨n1,hn1⟩:∃n1,(iA PV t b).length=n1:=⟨_,rfl⟩;rw[hn1] at qu happ qu2 HNEW;have hS:(fun X:World=>X.cell? ⟨z1,0,none⟩=some (.int .i64 (a:Int))∧X.cell? ⟨z1,1,none⟩=some (.slice (some ⟨gb,go,none⟩) 2 bc)∧X.cell? ⟨gb,go+1,none⟩=some (.int .i64 (b:Int))∧X.cell? ⟨u,b,none⟩=some (.slice A1 n1 c1)) V2.drew:=⟨H2.out.2.1,H2.out.2.2.1,H2.out.2.2.2.1,qu⟩;replace happ:(Builtin.append_ #[30,30] 30 #[.slice A1 n1 c1,.slice (some ⟨V2.drew.heap.size,0,none⟩) 1 1]).run Tryz.prog (V2.drew.alloc (.cells #[.int .i64 (a:Int),.slice (some ⟨gb,go,none⟩) 2 bc] 76))=.ok (.slice A2 (n1+1) c2) W2:=happ
    have hSW:(fun X:World=>X.cell? ⟨z1,0,none⟩=some (.int .i64 (a:Int))∧X.cell? ⟨z1,1,none⟩=some (.slice (some ⟨gb,go,none⟩) 2 bc)∧X.cell? ⟨gb,go+1,none⟩=some (.int .i64 (b:Int))∧X.cell? ⟨u,b,none⟩=some (.slice A1 n1 c1)) W2:=by
     have hb9:=((H2.out.1.base HI.out.2.1 HI.out.2.2).drew).trans (hu2.below (fun i _ hi=>Nat.le_trans HI.out.2.1.size hi) ((H2.out.1.base HI.out.2.1 HI.out.2.2).drew).size);exact⟨(hX2 z1 0 rfl).trans H2.out.2.1,(hX2 z1 1 rfl).trans H2.out.2.2.1,(HQ.out W2 hb9).1,qu2⟩
    have hSA:(fun X:World=>X.cell? ⟨z1,0,none⟩=some (.int .i64 (a:Int))∧X.cell? ⟨z1,1,none⟩=some (.slice (some ⟨gb,go,none⟩) 2 bc)∧X.cell? ⟨gb,go+1,none⟩=some (.int .i64 (b:Int))∧X.cell? ⟨u,b,none⟩=some (.slice A1 n1 c1)) (V2.drew.alloc (.cells #[.int .i64 (a:Int),.slice (some ⟨gb,go,none⟩) 2 bc] 76)):=by
     have hb9:Below V2.drew.heap.size V2.drew (V2.drew.alloc (.cells #[.int .i64 (a:Int),.slice (some ⟨gb,go,none⟩) 2 bc] 76)):=bR.alloc (Nat.le_refl _) _;exact⟨aS hb9 hS.1,aS hb9 hS.2.1,aS hb9 hS.2.2.1,aS hb9 hS.2.2.2⟩
    clear hMd hMn hXn qu hn1 hu2 hX2;obtain⟨n2,hn2⟩:∃n2,n1+1=n2:=⟨_,rfl⟩;rw[hn2] at happ HNEW;clear hn2;go_upto_region 9 with (fail);refine bS (fun X:World=>X.cell? ⟨z1,0,none⟩=some (.int .i64 (a:Int))∧X.cell? ⟨z1,1,none⟩=some (.slice (some ⟨gb,go,none⟩) 2 bc)∧X.cell? ⟨gb,go+1,none⟩=some (.int .i64 (b:Int))∧X.cell? ⟨u,b,none⟩=some (.slice A1 n1 c1)) (aO 18) (by kernel_rfl) ?_;generalize V2.drew=VD at happ hS hSA ⊢;intro hd;(refine aA 0 rfl hd hS ?_;clear hd;intro hd;(try simp only[Act.put,gA,gZ,sA,sZ,sS]))
    refine aA 1 rfl hd hS ?_;clear hd;intro hd;refine aA 2 rfl hd hS ?_;clear hd;intro hd;refine aA 3 rfl hd hS ?_;clear hd;intro hd;refine aA 4 rfl hd hS ?_;clear hd;intro hd;refine aA 5 rfl hd hS ?_;clear hd;intro hd;refine aA 6 rfl hd hS ?_;clear hd;intro hd;refine aA 7 rfl hd hS ?_;clear hd;intro hd;refine aA 8 rfl hd hS ?_;clear hd;intro hd;refine aA 9 rfl hd hS ?_;clear hd;intro hd;refine aA 10 rfl hd hS ?_;clear hd;intro hd;refine aA 11 rfl hd hS ?_;clear hd;intro hd;refine aA 12 rfl hd hS ?_;clear hd;intro hd;refine aA 13 rfl hd hS ?_;clear hd;intro hd;refine aA 14 rfl hd hS ?_;clear hd;intro hd;clear hS;refine aQ hd 15 ?_;clear hd;intro hd;refine aW (S:=(fun X:World=>X.cell? ⟨z1,0,none⟩=some (.int .i64 (a:Int))∧X.cell? ⟨z1,1,none⟩=some (.slice (some ⟨gb,go,none⟩) 2 bc)∧X.cell? ⟨gb,go+1,none⟩=some (.int .i64 (b:Int))∧X.cell? ⟨u,b,none⟩=some (.slice A1 n1 c1))) (late:=aO 18) rfl rfl (fun K hK=>?_);go_simp;refine hK _ _ (fun _ _=>hSA) ?_;clear hK K;(try simp only[Act.put,gA,gS,gZ,sA,sZ,sS])
    refine aQ hd 16 ?_;clear hd;intro hd;refine aW (S:=(fun X:World=>X.cell? ⟨z1,0,none⟩=some (.int .i64 (a:Int))∧X.cell? ⟨z1,1,none⟩=some (.slice (some ⟨gb,go,none⟩) 2 bc)∧X.cell? ⟨gb,go+1,none⟩=some (.int .i64 (b:Int))∧X.cell? ⟨u,b,none⟩=some (.slice A1 n1 c1))) (late:=aO 18) rfl rfl (fun K hK=>?_);refine jJ _ _ _ rfl rfl rfl happ ?_;refine hK _ _ (fun _ _=>hSW) ?_;clear hK K happ;(try simp only[Act.put,gA,gS,gZ,sA,sZ,sS])
    have hS:=hSW;refine aA 17 rfl hd hS ?_;clear hd;intro hd;clear hS;refine aQ hd 18 ?_;clear hd;intro hd;refine aW (S:=(fun X:World=>X.cell? ⟨z1,0,none⟩=some (.int .i64 (a:Int))∧X.cell? ⟨z1,1,none⟩=some (.slice (some ⟨gb,go,none⟩) 2 bc)∧X.cell? ⟨gb,go+1,none⟩=some (.int .i64 (b:Int))∧X.cell? ⟨u,b,none⟩=some (.slice A1 n1 c1))) (late:=aO 18) rfl rfl (fun K hK=>?_);go_simp;refine hK _ _ (fun h _=>absurd h (by decide)) ?_;clear hK K;(try simp only[Act.put,gA,gS,gZ,sA,sZ,sS])
    refine dK (by kernel_rfl) ?_;clear qu2 fu2 hSA hSW;generalize W2.setCell ⟨u,b,none⟩ (.slice A2 n2 c2)=W3 at HNEW ⊢;clear c21;have H3:=aI4 HNEW.out.1 HNEW.out.2.1 HNEW.out.2.2 (HQ.out W3 (HNEW.out.1.base HI.out.2.1 HI.out.2.2));clear HNEW;go_upto_region 10 with (fail);have d1:=H3.out.2.2.1;have d2:=H3.out.2.2.2.1;have d3:=H3.out.2.2.2.2;have hbd:=hIz (show ∀n,Below W3.heap.size W3 (W3.drewN n) from fun n=>⟨rfl,rfl,rfl,Nat.le_refl _,fun _ _=>rfl⟩);by_cases hbc:b=c
    ·subst hbc;go_quiet (fail)
     clear d1 d2 d3;have FIN:=hIz (show QI w F p n nts pw pm u PV (ElG G labels) (t+1) (W3.drewN nq) from by
      have hM3:=H3.out.1.below (hbd.out nq);rw[LZ HT.out.2.2.2 rfl] at hM3;exact⟨B,L,hM3.bare,HT.out.2.2.1.two HT.out.2.2.2 rfl⟩)
     clear H3;go_wp2;go_roundw
     case rel=>exact⟨t+1,by omega,by go_num,FIN⟩
     case measure=>simp[intOf];omega
    ·have hbn:((c:Int) != (b:Int))=true:=by simp;omega
     go_quiet (fail)
     clear d1 d2 d3 hbn;obtain⟨Q1,hQ1⟩:∃Q1,(fun q=>if q=b then iA PV t b++[⟨⟨(a:Int),[⟨la,(b:Int)⟩,⟨lb,(c:Int)⟩]⟩,some ⟨gb,go,none⟩,bc⟩] else iA PV t q)=Q1:=⟨_,rfl⟩;have hQc:(Q1 c).length≤1000000:=by
      rw[← hQ1];dsimp only
      rw[if_neg (fun e=>hbc e.symm)];have:=HLEN.out c;omega
     have H4:=hIz (show kL w (W3.drewN nq) F p n nts pw pm u (fun k=>k=z1) B L Q1∧(W3.drewN nq).cell? ⟨z1,0,none⟩=some (.int .i64 (a:Int))∧(W3.drewN nq).cell? ⟨z1,1,none⟩=some (.slice (some ⟨gb,go,none⟩) 2 bc)∧(W3.drewN nq).cell? ⟨gb,go+1,none⟩=some (.int .i64 (b:Int))∧(W3.drewN nq).cell? ⟨gb,go+3,none⟩=some (.int .i64 (c:Int)) from⟨by rw[← hQ1];exact H3.out.1.below (hbd.out nq),H3.out.2⟩);have HQ1:=hIz hQ1;clear H3 hQ1 hbd;generalize W3.drewN nq=W4 at H4 ⊢;have hMd:=H4.out.1.below (V':=W4.drew) (bR.drew);obtain⟨A1,c1,A2,c2,W2,qu,happ,qu2,fu2,hu2,hX2,hMn,hXn⟩:=hMd.push (k:=c) hqc ⟨⟨(a:Int),[⟨la,(b:Int)⟩,⟨lb,(c:Int)⟩]⟩,some ⟨gb,go,none⟩,bc⟩ (hQc);have HNEW:=aI3 hMn ((hXn z1 0 rfl).trans H4.out.2.1) ((hXn z1 1 rfl).trans H4.out.2.2.1);obtain⟨n1,hn1⟩:∃n1,(Q1 c).length=n1:=⟨_,rfl⟩;rw[hn1] at qu happ qu2 HNEW;have hS:(fun X:World=>X.cell? ⟨z1,0,none⟩=some (.int .i64 (a:Int))∧X.cell? ⟨z1,1,none⟩=some (.slice (some ⟨gb,go,none⟩) 2 bc)∧X.cell? ⟨gb,go+3,none⟩=some (.int .i64 (c:Int))∧X.cell? ⟨u,c,none⟩=some (.slice A1 n1 c1)) W4.drew:=⟨H4.out.2.1,H4.out.2.2.1,H4.out.2.2.2.2,qu⟩;replace happ:(Builtin.append_ #[30,30] 30 #[.slice A1 n1 c1,.slice (some ⟨W4.drew.heap.size,0,none⟩) 1 1]).run Tryz.prog (W4.drew.alloc (.cells #[.int .i64 (a:Int),.slice (some ⟨gb,go,none⟩) 2 bc] 76))=.ok (.slice A2 (n1+1) c2) W2:=happ
     have hSW:(fun X:World=>X.cell? ⟨z1,0,none⟩=some (.int .i64 (a:Int))∧X.cell? ⟨z1,1,none⟩=some (.slice (some ⟨gb,go,none⟩) 2 bc)∧X.cell? ⟨gb,go+3,none⟩=some (.int .i64 (c:Int))∧X.cell? ⟨u,c,none⟩=some (.slice A1 n1 c1)) W2:=by
      have hb9:=((H4.out.1.base HI.out.2.1 HI.out.2.2).drew).trans (hu2.below (fun i _ hi=>Nat.le_trans HI.out.2.1.size hi) ((H4.out.1.base HI.out.2.1 HI.out.2.2).drew).size);exact⟨(hX2 z1 0 rfl).trans H4.out.2.1,(hX2 z1 1 rfl).trans H4.out.2.2.1,(HQ.out W2 hb9).2,qu2⟩
     have hSA:(fun X:World=>X.cell? ⟨z1,0,none⟩=some (.int .i64 (a:Int))∧X.cell? ⟨z1,1,none⟩=some (.slice (some ⟨gb,go,none⟩) 2 bc)∧X.cell? ⟨gb,go+3,none⟩=some (.int .i64 (c:Int))∧X.cell? ⟨u,c,none⟩=some (.slice A1 n1 c1)) (W4.drew.alloc (.cells #[.int .i64 (a:Int),.slice (some ⟨gb,go,none⟩) 2 bc] 76)):=by
      have hb9:Below W4.drew.heap.size W4.drew (W4.drew.alloc (.cells #[.int .i64 (a:Int),.slice (some ⟨gb,go,none⟩) 2 bc] 76)):=bR.alloc (Nat.le_refl _) _;exact⟨aS hb9 hS.1,aS hb9 hS.2.1,aS hb9 hS.2.2.1,aS hb9 hS.2.2.2⟩
     clear hMd hMn hXn qu hn1 hu2 hX2;obtain⟨n2,hn2⟩:∃n2,n1+1=n2:=⟨_,rfl⟩;rw[hn2] at happ HNEW;clear hn2;go_upto_region 11 with (fail);refine bS (fun X:World=>X.cell? ⟨z1,0,none⟩=some (.int .i64 (a:Int))∧X.cell? ⟨z1,1,none⟩=some (.slice (some ⟨gb,go,none⟩) 2 bc)∧X.cell? ⟨gb,go+3,none⟩=some (.int .i64 (c:Int))∧X.cell? ⟨u,c,none⟩=some (.slice A1 n1 c1)) (aO 18) (by kernel_rfl) ?_;generalize W4.drew=VD at happ hS hSA ⊢;intro hd;(refine aA 0 rfl hd hS ?_;clear hd;intro hd;(try simp only[Act.put,gA,gZ,sA,sZ,sS]))
     refine aA 1 rfl hd hS ?_;clear hd;intro hd;refine aA 2 rfl hd hS ?_;clear hd;intro hd;refine aA 3 rfl hd hS ?_;clear hd;intro hd;refine aA 4 rfl hd hS ?_;clear hd;intro hd;refine aA 5 rfl hd hS ?_;clear hd;intro hd;refine aA 6 rfl hd hS ?_;clear hd;intro hd;refine aA 7 rfl hd hS ?_;clear hd;intro hd;refine aA 8 rfl hd hS ?_;clear hd;intro hd;refine aA 9 rfl hd hS ?_;clear hd;intro hd;refine aA 10 rfl hd hS ?_;clear hd;intro hd;refine aA 11 rfl hd hS ?_;clear hd;intro hd;refine aA 12 rfl hd hS ?_;clear hd;intro hd;refine aA 13 rfl hd hS ?_;clear hd;intro hd;refine aA 14 rfl hd hS ?_;clear hd;intro hd;clear hS;refine aQ hd 15 ?_;clear hd;intro hd;refine aW (S:=(fun X:World=>X.cell? ⟨z1,0,none⟩=some (.int .i64 (a:Int))∧X.cell? ⟨z1,1,none⟩=some (.slice (some ⟨gb,go,none⟩) 2 bc)∧X.cell? ⟨gb,go+3,none⟩=some (.int .i64 (c:Int))∧X.cell? ⟨u,c,none⟩=some (.slice A1 n1 c1))) (late:=aO 18) rfl rfl (fun K hK=>?_);go_simp;refine hK _ _ (fun _ _=>hSA) ?_;clear hK K;(try simp only[Act.put,gA,gS,gZ,sA,sZ,sS])
     refine aQ hd 16 ?_;clear hd;intro hd;refine aW (S:=(fun X:World=>X.cell? ⟨z1,0,none⟩=some (.int .i64 (a:Int))∧X.cell? ⟨z1,1,none⟩=some (.slice (some ⟨gb,go,none⟩) 2 bc)∧X.cell? ⟨gb,go+3,none⟩=some (.int .i64 (c:Int))∧X.cell? ⟨u,c,none⟩=some (.slice A1 n1 c1))) (late:=aO 18) rfl rfl (fun K hK=>?_);refine jJ _ _ _ rfl rfl rfl happ ?_;refine hK _ _ (fun _ _=>hSW) ?_;clear hK K happ;(try simp only[Act.put,gA,gS,gZ,sA,sZ,sS])
     have hS:=hSW;refine aA 17 rfl hd hS ?_;clear hd;intro hd;clear hS;refine aQ hd 18 ?_;clear hd;intro hd;refine aW (S:=(fun X:World=>X.cell? ⟨z1,0,none⟩=some (.int .i64 (a:Int))∧X.cell? ⟨z1,1,none⟩=some (.slice (some ⟨gb,go,none⟩) 2 bc)∧X.cell? ⟨gb,go+3,none⟩=some (.int .i64 (c:Int))∧X.cell? ⟨u,c,none⟩=some (.slice A1 n1 c1))) (late:=aO 18) rfl rfl (fun K hK=>?_);go_simp;refine hK _ _ (fun h _=>absurd h (by decide)) ?_;clear hK K;(try simp only[Act.put,gA,gS,gZ,sA,sZ,sS])
     refine dK (by kernel_rfl) ?_;clear qu2 fu2 hSA hSW;generalize W2.setCell ⟨u,c,none⟩ (.slice A2 n2 c2)=W5 at HNEW ⊢;have FIN:=hIz (show QI w F p n nts pw pm u PV (ElG G labels) (t+1) W5 from by
      have hM5:=HNEW.out.1;rw[← HQ1.out,QE HT.out.2.2.2 rfl hbc] at hM5;exact⟨B,L,hM5.bare,HT.out.2.2.1.two HT.out.2.2.2 rfl⟩)
     clear HNEW;go_wp2;go_roundw
     case rel=>exact⟨t+1,by omega,by go_num,FIN⟩
     case measure=>simp[intOf];omega
   ·exfalso
    have:=hok.few;simp at this
   -- REST
  ·obtain rfl:t=m:=by omega
   obtain⟨B0,L0,hM0,hL10⟩:=hq.out;have hE0:FiI (PV.map (·.pr)) (ElG G labels) n nts B0 L0 (fun _=>True):=(show Lp1 PV (ElG G labels) n nts PV.length B0 L0 from by rw[HM.out];exact hL10).end_ HI.out.1.sh;have hM0:kL w wr F p n nts pw pm u NoX B0 L0 (iA PV PV.length):=by rw[HM.out];exact hM0
   have H0:=hIz (show ∃B L,kL w wr F p n nts pw pm u NoX B L (iA PV PV.length)∧FiI (PV.map (·.pr)) (ElG G labels) n nts B L (fun _=>True)∧2*qB B nts+L.length≤2*qB B0 nts+L0.length from⟨B0,L0,hM0,hE0,Nat.le_refl _⟩);generalize 2*qB B0 nts+L0.length=N0 at H0;clear hq hM0 hL10 hE0;go_wp2;go_loopg [] N0 (fun k wr=>Hid (∃B L,kL w wr F p n nts pw pm u NoX B L (iA PV PV.length)∧FiI (PV.map (·.pr)) (ElG G labels) n nts B L (fun _=>True)∧2*qB B nts+L.length≤k))
   case atStart=>exact H0
   case round =>
    clear H0;obtain⟨B,L,hM,hFi,hle⟩:=hrel.out;obtain⟨lv,hwk,hwork⟩:=hM.work;have hlen:=pK wr pw lv _ L hwk.ch;have hL5:=hwk.len;by_cases hL0:0<L.length
    ·have hpop:=LW wr pw lv _ L hwk.ch hwk.np (by omega) hL0;obtain⟨nl,hnl⟩:∃nl,L.length=nl:=⟨_,rfl⟩;rw[hnl] at hlen;have hlI:(0:Int)<(nl:Int):=by omega
     have HW:=aI4 hwork hwk hFi hle;clear hM hwork hwk hFi hle hrel hL5 hL0 hnl;go_wp2_with fail;refine hlen.mono ?_;clear hlen;rintro e VL ⟨rfl,hw⟩;subst VL;unfold chV at hpop;go_wp2_with fail;refine hpop.mono ?_;clear hpop;rintro e V1 ⟨x,rfl,htt⟩;obtain⟨k,rfl,hk,q1,⟨bb,qm⟩,fm,hwt⟩:=HW.out.2.1.pop htt;obtain⟨⟨L',hPm,hM2⟩,-,-⟩:=HW.out.1 _ _ hwt;have hkI:(k:Int)<(nts:Int):=by omega
     have h3:=Lp3.begin HW.out.2.2.1 HW.out.2.2.2 hPm;obtain⟨A,c,qu,-,-⟩:=hM2.use hk;have H3:=aI3 hM2 h3 qu;clear hM2 h3 htt hwt hPm HW;have hta:=fun T=>SM (k:Int) T V1
     go_upto_region 17 with (fail);clear q1 qm fm hta;generalize V1.setCell ⟨pm,k,none⟩ (.bool false)=V2 at H3 qu ⊢;obtain⟨ml,hml⟩:∃ml,(iA PV PV.length k).length=ml:=⟨_,rfl⟩;rw[hml] at qu;have HML:=hIz hml;have hm8:ml≤8192:=by have:=zF PV PV.length k;have:=HM.out;omega
     clear hml;go_wp2;clear qu;go_loopw [112] (fun i wz=>∃t:Nat,t≤ml∧i=.int .i64 (t:Int)∧Hid (∃B L,kL w wz F p n nts pw pm u NoX B L (iA PV PV.length)∧Lp3 PV (ElG G labels) n nts k t B L gk∧wz.cell? ⟨u,k,none⟩=some (.slice A (iA PV PV.length k).length c))) (fun i _=>ml-(intOf i).toNat)
     case atStart=>exact⟨0,Nat.zero_le _,rfl,hIz ⟨B,L',H3.out⟩⟩
     case round =>
      obtain⟨t,ht,rfl,hq⟩:=hrel;clear H3;by_cases hlt:t<ml
      ·have htI:(t:Int)<(ml:Int):=by omega
       obtain⟨B,L,hM,h3,hu⟩:=hq.out;obtain⟨v,hv⟩:∃v,(iA PV PV.length k)[t]?=some v:=⟨_,gEz (by rw[HML.out];exact hlt)⟩;obtain⟨hvm,hnm⟩:=zG (mG hv);obtain⟨⟨la,sb⟩,⟨lb,sc⟩,hbd,-⟩:=vY hnm;have hok:=HI.out.1.sh v hvm;have hB:=hM.base HI.out.2.1 HI.out.2.2;obtain⟨A',c',hu',-,hrw⟩:=hM.use hk;rw[hu] at hu';injection hu' with hu';injection hu' with hA' _ hc';subst hA';subst hc';obtain⟨pb,po,rfl,c0,c1⟩:=hrw.pv hv;have hg2:=hok.g.two _ _ hbd;have hg0:=hok.g.h0;have hg1:=hok.g.h1;have hrow:=(HI.out.1.pv.2 _ hvm).below3 hB;obtain⟨⟨hd,bd⟩,bA,bc⟩:=v;dsimp only at hbd hg0 hg1 hg2 hrow c0 c1
       subst hbd;obtain⟨qa,rfl⟩:∃b:Nat,hd=(b:Int):=⟨hd.toNat,by omega⟩;obtain⟨qb,rfl⟩:∃b:Nat,sb=(b:Int):=⟨sb.toNat,by omega⟩;obtain⟨qc,rfl⟩:∃c:Nat,sc=(c:Int):=⟨sc.toNat,by omega⟩;have ha:qa<nts:=by omega
       have hb:qb<nts:=by omega
       have hc:qc<nts:=by omega
       have c1:wr.cell? ⟨pb,po+t*2+1,none⟩=some (.slice bA 2 bc):=c1;have kb:=Blk.new wr 76 #[.int .i64 (qa:Int),.slice bA 2 bc];have b1:Below wr.heap.size wr (wr.alloc (.cells #[.int .i64 (qa:Int),.slice bA 2 bc] 76)):=bR.alloc (Nat.le_refl _) _;have hB1:=tHn hB b1;obtain⟨FC,hcl,hturn⟩:=(hM.box (.cells #[.int .i64 (qa:Int),.slice bA 2 bc] 76)).turn;have hcon:=LX (wr.alloc (.cells #[.int .i64 (qa:Int),.slice bA 2 bc] 76)) FC p n n nts B hcl qa qb qc la lb bA bc (hrow.below3 b1) ha hb hc q5 HN64.out (HI.out.1.tab.upd (upF hB1) HI.out.1.htab id) (Nat.lt_of_lt_of_le HI.out.1.htab hB1.size) (h3.1.fit HEL.out hb hc);have e0:(wr.alloc (.cells #[.int .i64 (qa:Int),.slice bA 2 bc] 76)).cell? ⟨wr.heap.size,0,none⟩=some (.int .i64 (qa:Int)):=kb.cell 0;have e1:(wr.alloc (.cells #[.int .i64 (qa:Int),.slice bA 2 bc] 76)).cell? ⟨wr.heap.size,1,none⟩=some (.slice bA 2 bc):=kb.cell 1;have HT:=aI5 hturn e0 (aS b1 hu) h3 hv;clear hM h3 hu hv hvm hnm hok hB hrw hg2 hg0 hg1 hrow kb b1 hB1 hcl hturn hq;go_wp2_with fail;refine hcon.mono ?_;clear hcon e0 e1 c0 c1;rintro e V3 ⟨he,hto⟩;obtain⟨hM3,hu3,hX3⟩:=HT.out.1 _ V3 hto;have c30:V3.cell? ⟨wr.heap.size,0,none⟩=some (.int .i64 (qa:Int)):=(hX3 _ 0 rfl).trans HT.out.2.1;cases hmo:dR (B qa) (mulO (B qb) (B qc))
       ·rw[hmo] at he;subst he;have FIN:=hIz (show ∃B L,kL w V3 F p n nts pw pm u NoX B L (iA PV PV.length)∧Lp3 PV (ElG G labels) n nts k (t+1) B L gk∧V3.cell? ⟨u,k,none⟩=some (.slice (some ⟨pb,po,none⟩) (iA PV PV.length k).length c) from by
         have hs:=HT.out.2.2.2.1.step HI.out.1.sh HT.out.2.2.2.2 rfl (L':=L) (by
          dsimp only
          rw[Int.toNat_natCast,Int.toNat_natCast,Int.toNat_natCast,if_neg (by rw[hmo];exact nofun)])
         dsimp only at hs
         rw[Int.toNat_natCast,Int.toNat_natCast,Int.toNat_natCast] at hs;exact⟨_,L,hM3.bare,hs,(hu3 k).trans HT.out.2.2.1⟩)
        clear hM3 hu3 hX3 hto hmo c30;go_wp2;go_roundw
        case rel=>exact⟨t+1,by omega,by go_num,FIN⟩
        case measure=>simp[intOf];omega
       ·rw[hmo] at he;subst he;obtain⟨lv,hwk,hwork⟩:=hM3.work;have hput:=tL V3 pw pm nts lv L hwk q5 qa ha;have HW:=aI3 hwork hmo (fun o=>(hu3 o));clear hM3 hu3 hX3 hto hmo hwk hwork;go_wp2_with fail;refine hput.mono ?_;clear hput c30;rintro e V4 ⟨rfl,hwt⟩;obtain⟨⟨L',hPu,hM4⟩,hu4,-⟩:=HW.out.1 _ _ hwt;have FIN:=hIz (show ∃B L,kL w V4 F p n nts pw pm u NoX B L (iA PV PV.length)∧Lp3 PV (ElG G labels) n nts k (t+1) B L gk∧V4.cell? ⟨u,k,none⟩=some (.slice (some ⟨pb,po,none⟩) (iA PV PV.length k).length c) from by
         have hs:=HT.out.2.2.2.1.step HI.out.1.sh HT.out.2.2.2.2 rfl (L':=L') (by
          dsimp only
          rw[Int.toNat_natCast,Int.toNat_natCast,Int.toNat_natCast,if_pos HW.out.2.1];exact hPu)
         dsimp only at hs
         rw[Int.toNat_natCast,Int.toNat_natCast,Int.toNat_natCast] at hs;exact⟨_,L',hM4.bare,hs,(hu4 k).trans ((HW.out.2.2 k).trans HT.out.2.2.1)⟩)
        clear hM4 hu4 hPu hwt;go_wp2;go_roundw
        case rel=>exact⟨t+1,by omega,by go_num,FIN⟩
        case measure=>simp[intOf];omega
      ·obtain rfl:t=ml:=by omega
       obtain⟨B3,L3,hM3,hl3,-⟩:=hq.out;have H4:=hIz (show ∃B L,kL w wr F p n nts pw pm u NoX B L (iA PV PV.length)∧FiI (PV.map (·.pr)) (ElG G labels) n nts B L (fun _=>True)∧2*qB B nts+L.length≤2*qB B3 nts+L3.length from⟨B3,L3,hM3,(show Lp3 PV (ElG G labels) n nts k (iA PV PV.length k).length B3 L3 gk from by rw[HML.out];exact hl3).end_,Nat.le_refl _⟩);have hlt3:=hl3.2;generalize 2*qB B3 nts+L3.length=g3 at H4 hlt3;clear hM3 hl3 hq;go_wp2;go_roundg g3
       case rel=>exact H4
       case measure=>omega
    ·have hnil:L=[]:=List.eq_nil_of_length_eq_zero (by omega);subst hnil;have FIN:=hIz (show SN w F p n nts PV labels G wr from by
      obtain⟨FC,lv,U,uv,hs⟩:=hM;exact⟨B,fun k hk i j=>hFi.done hk,hFi.wd,FC,hs.cl,hs.up,hs.c1⟩)
     clear hM hwork hwk hFi hle hrel hL5 hL0;have hlen:Calls Tryz.prog 115 #[.pointer (some ⟨pw,0,none⟩)] wr (nE wr (.int .i64 0)):=hlen;go_wp2_with fail;refine hlen.mono ?_;clear hlen;rintro e VL ⟨rfl,hw⟩;subst VL;go_wp2;exact bodyPost_end (results_none rfl _ _ _) rfl ⟨rfl,FIN.out⟩
open Go.RowKit Go.Shelf
def eV(nts:Int)(PV:List Pv)(labels:List Txt):Int:=
 if 16<labels.length∨nts<1∨512<nts∨8192<PV.length then 2 else if upB ltT labels=true∧∀v∈PV,cC v.pr nts labels.length=true then 0 else 2
theorem BM(w:World)(nts:Int)(PA:Option Addr)(pc:Nat)(PV:List Pv)(hP:PvR w PA PV)(LA:Option Addr)(cl:Nat)(labels:List Txt)(hlab:bO w LA (aG labels)) :
  Calls Tryz.prog 68 #[.agg #[.int .i64 nts,.slice PA PV.length pc],.slice LA labels.length cl] w (Sam w (.int .i64 (eV nts PV labels))):=by
 obtain⟨m,hm⟩:∃m,PV.length=m:=⟨_,rfl⟩;obtain⟨l,hl⟩:∃l,labels.length=l:=⟨_,rfl⟩;have b1:Below w.heap.size w (w.alloc (.cells #[.int .i64 nts,.slice PA m pc] 32)):=bR.alloc (Nat.le_refl _) _;have k1:=Blk.new w 32 #[.int .i64 nts,.slice PA m pc];have q0:(w.alloc (.cells #[.int .i64 nts,.slice PA m pc] 32)).cell? ⟨w.heap.size,0,none⟩=some (.int .i64 nts):=k1.cell 0;have q1:(w.alloc (.cells #[.int .i64 nts,.slice PA m pc] 32)).cell? ⟨w.heap.size,1,none⟩=some (.slice PA m pc):=k1.cell 1;have hv:eV nts PV labels=if 16<l∨nts<1∨512<nts∨8192<m then 2 else if upB ltT labels=true∧∀v∈PV,cC v.pr nts l=true then 0 else 2:=by
  unfold eV;rw[hm,hl]
 rw[hm,hl];have HM:=aI2 hm hl;have H:=aI4 b1 k1 hP hlab;have HV:=hIz hv;clear b1 k1 hP hlab hm hl hv;by_cases h1:16<l
 ·have FIN:=hIz (show eV nts PV labels=2 from by rw[HV.out,if_pos (.inl h1)]);have h1I:(16:Int)<(l:Int):=by omega
  go_enter Tryz.func68,Tryz.ntmps68;go_wp2;go_ret;exact⟨by rw[FIN.out];rfl,H.out.1⟩
 ·have h1I:¬(16:Int)<(l:Int):=by omega
  by_cases h2:nts<1
  ·have FIN:=hIz (show eV nts PV labels=2 from by rw[HV.out,if_pos (.inr (.inl h2))]);go_enter Tryz.func68,Tryz.ntmps68;go_wp2;go_ret;exact⟨by rw[FIN.out];rfl,H.out.1⟩
  ·by_cases h3:512<nts
   ·have FIN:=hIz (show eV nts PV labels=2 from by rw[HV.out,if_pos (.inr (.inr (.inl h3)))]);go_enter Tryz.func68,Tryz.ntmps68;go_wp2;go_ret;exact⟨by rw[FIN.out];rfl,H.out.1⟩
   ·by_cases h4:8192<m
    ·have FIN:=hIz (show eV nts PV labels=2 from by rw[HV.out,if_pos (.inr (.inr (.inr h4)))]);have h4I:(8192:Int)<(m:Int):=by omega
     go_enter Tryz.func68,Tryz.ntmps68;go_wp2;go_ret;exact⟨by rw[FIN.out];rfl,H.out.1⟩
    ·have h4I:¬(8192:Int)<(m:Int):=by omega
     have HV2:=hIz (show eV nts PV labels=if upB ltT labels=true∧∀v∈PV,cC v.pr nts l=true then 0 else 2 from by rw[HV.out,if_neg (by omega)]);clear HV;go_enter Tryz.func68,Tryz.ntmps68;go_wp2;generalize w.alloc (.cells #[.int .i64 nts,.slice PA m pc] 32)=W1 at H q0 q1 ⊢;clear q0 q1;go_loopw [5] (fun i wr=>∃k:Nat,(k≤l∧i=.int .i64 ((k:Int)+1))∧Hid (Below W1.heap.size W1 wr)∧Hid (∀j,j<k→∀a b,labels[j]?=some a→labels[j+1]?=some b→ltT a b=true)) (fun i _=>l+1-(intOf i).toNat)
     case atStart=>exact⟨0,⟨Nat.zero_le _,rfl⟩,hIz bR,hIz (fun j hj=>by omega)⟩
     case round =>
      obtain⟨k,⟨hk,rfl⟩,hb,hall⟩:=hrel;by_cases hlt:k+1<l
      ·have hkw:IntKind.i64.wrap (k:Int)=(k:Int):=IntWalk.i64_in _ (by omega);have hkw1:IntKind.i64.wrap ((k:Int)+1-1)=(k:Int):=by rw[IntWalk.i64_in _ (by omega)];omega
       have hkw2:IntKind.i64.wrap ((k:Int)+1+1)=(k:Int)+1+1:=IntWalk.i64_in _ (by omega);have hltI:(k:Int)+1<(l:Int):=by omega
       have hltI2:(k:Int)<(l:Int):=by omega
       have ht:((k:Int)+1).toNat=k+1:=by omega
       have hn0:(0:Int)≤(k:Int)+1:=by omega
       have h0:=(H.out.2.2.2.below3 H.out.1).below3 (hb.out);obtain⟨x,hx⟩:∃x,labels[k]?=some x:=⟨_,gEz (by rw[HM.out.2];omega)⟩;obtain⟨y,hy⟩:∃y,labels[k+1]?=some y:=⟨_,gEz (by rw[HM.out.2];omega)⟩;obtain⟨ab,ao,rfl,x0⟩:=h0.txt hx;obtain⟨_,_,e1,y0⟩:=h0.txt hy;injection e1 with e1;injection e1 with e1 e2;subst e1;subst e2;have HXY:=aI2 hx hy;clear h0 hx hy;go_upto_region 6 with (fail);refine aP (fun w'=>w'.cell? ⟨ab,ao+k,none⟩=some (.string x)∧w'.cell? ⟨ab,ao+(k+1),none⟩=some (.string y)) 11 [(0,true),(1,true),(2,true),(3,true),(4,true),(5,true),(6,true),(7,true),(8,true),(9,false),(10,true)] (by kernel_rfl) (by kernel_rfl) (fun _ _ d _ _ h=>by cases d <;> exact h) ⟨x0,y0⟩ ?_
       iterate 9 refine aD rfl ?_
       refine aK rfl rfl (fun K hK=>?_);go_simp;refine(eD x y _).mono ?_;rintro e w2 ⟨rfl,rfl⟩;have b2:Below wr.heap.size wr wr.drew:=bR.drew;have hcmp:=iZ x y;obtain⟨v,hv⟩:∃v,lC x y=v:=⟨_,rfl⟩;rw[hv] at hcmp ⊢;clear hv;refine hK _ _ (fun _=>⟨x0,y0⟩) ?_;clear hK K;(try simp only[Act.put,gA,gS,gZ,sA,sZ,sS])
       have HB:=hIz (tHn hb.out b2);have HC:=hIz hcmp;clear hcmp b2;by_cases hv:v<0
       ·have hv1:decide (0≤v)=false:=by simpa using hv
        have hlt2:ltT x y=true:=by rw[← HC.out];simpa using hv
        have HL:=hIz hlt2;clear hlt2;refine aD rfl ?_;refine aJ ?_;go_wp2;go_roundw
        case rel=>exact⟨k+1,⟨by omega,by go_num⟩,HB,hIz (fun j hj a b ha hb=>by
         rcases Nat.lt_succ_iff_lt_or_eq.1 hj with h|rfl
         ·exact hall.out j h a b ha hb
         ·rw[HXY.out.1] at ha;rw[HXY.out.2] at hb;injection ha with ha;injection hb with hb;subst ha;subst hb;exact HL.out)⟩
        case measure=>simp[intOf];omega
       ·have hv1:decide (0≤v)=true:=by simpa using hv
        have hlt2:ltT x y=false:=by rw[← HC.out];simpa using hv
        have FIN:=hIz (show eV nts PV labels=2 from by
         rw[HV2.out,if_neg];intro h;rw[rM HXY.out.1 HXY.out.2 hlt2] at h;cases h.1)
        clear hlt2;refine aD rfl ?_;refine aJ ?_;go_wp2;go_ret;exact⟨by rw[FIN.out];rfl,tHn H.out.1 HB.out⟩
      ·have hgeI:(l:Int)≤(k:Int)+1:=by omega
       have HUP:=hIz (show upB ltT labels=true from(oG labels).2 (fun i a b ha hb'=>by
        have:=(gO.1 hb').1;have:=HM.out.2;exact hall.out i (by omega) a b ha hb'))
       have k2:=H.out.2.1.upd (upF hb.out) id;have q0:wr.cell? ⟨w.heap.size,0,none⟩=some (.int .i64 nts):=k2.cell 0;have q1:wr.cell? ⟨w.heap.size,1,none⟩=some (.slice PA m pc):=k2.cell 1;have HB0:=hIz hb.out;clear k2 hall hb;go_wp2;generalize wr=W2 at HB0 q0 q1 ⊢;clear q1;go_loopw [47] (fun i wz=>∃t:Nat,t≤m∧i=.int .i64 (t:Int)∧Hid (Below W2.heap.size W2 wz)∧Hid (∀j,j<t→∀v,PV[j]?=some v→cC v.pr nts l=true)) (fun i _=>m-(intOf i).toNat)
       case atStart=>exact⟨0,Nat.zero_le _,rfl,hIz bR,hIz (fun j hj=>by omega)⟩
       case round =>
        obtain⟨t,ht,rfl,hb,hall⟩:=hrel;have bw:=H.out.1.trans ((tHn HB0.out hb.out).mono H.out.1.size);clear q0;by_cases hlt2:t<m
        ·have htI:(t:Int)<(m:Int):=by omega
         obtain⟨v,hv⟩:∃v,PV[t]?=some v:=⟨_,gEz (by rw[HM.out.1];omega)⟩;have hp:=H.out.2.2.1.below bw;obtain⟨pb,po,rfl,c0,c1⟩:=hp.1.pv hv;have hrow:=hp.2 v (mG hv);have q0:wr.cell? ⟨w.heap.size,0,none⟩=some (.int .i64 nts):=(H.out.2.1.upd (Upd.of_below (tHn HB0.out hb.out) (fun _=>False)) id).cell 0;have b1:Below wr.heap.size wr (wr.alloc (.cells #[.int .i64 v.pr.head,.slice v.adr v.pr.body.length v.cap] 76)):=bR.alloc (Nat.le_refl _) _;have kb:=Blk.new wr 76 #[.int .i64 v.pr.head,.slice v.adr v.pr.body.length v.cap];have e0:(wr.alloc (.cells #[.int .i64 v.pr.head,.slice v.adr v.pr.body.length v.cap] 76)).cell? ⟨wr.heap.size,0,none⟩=some (.int .i64 v.pr.head):=kb.cell 0;have e1:(wr.alloc (.cells #[.int .i64 v.pr.head,.slice v.adr v.pr.body.length v.cap] 76)).cell? ⟨wr.heap.size,1,none⟩=some (.slice v.adr v.pr.body.length v.cap):=kb.cell 1;have q01:=aS b1 q0;have hcon:=GD (wr.alloc (.cells #[.int .i64 v.pr.head,.slice v.adr v.pr.body.length v.cap] 76)) v.pr v.adr v.cap (hrow.below3 b1) nts (l:Int);have HX:=aI3 hv b1 bw;clear hv hp hrow b1 kb bw q0;generalize v.pr.body.length=vl at *;go_wp2_with fail;refine hcon.mono ?_;clear hcon c0 c1 e0 e1 q01;rintro e V2 ⟨he,b2⟩;have HB5:=hIz (tHn HX.out.2.1 b2);cases hsh:cC v.pr nts (l:Int)
         ·rw[hsh] at he;subst he;have FIN:=hIz (show eV nts PV labels=2 from by
           rw[HV2.out,if_neg];intro h;rw[h.2 v (mG HX.out.1)] at hsh;cases hsh)
          clear b2 hsh;go_wp2;go_ret;exact⟨by rw[FIN.out];rfl,tHn HX.out.2.2 HB5.out⟩
         ·rw[hsh] at he;subst he;have FIN:=aI2 (tHn hb.out HB5.out) hsh;clear b2 hsh;go_wp2;go_roundw
          case rel=>exact⟨t+1,by omega,by go_num,hIz FIN.out.1,hIz (fun j hj v' hv'=>by
           rcases Nat.lt_succ_iff_lt_or_eq.1 hj with h|rfl
           ·exact hall.out j h v' hv'
           ·rw[HX.out.1] at hv';obtain rfl:=Option.some.inj hv';exact FIN.out.2)⟩
          case measure=>simp[intOf];omega
        ·have FIN:=hIz (show eV nts PV labels=0 from by
          exact(HV2.out).trans (if_pos ⟨HUP.out,fun v hv=>by
             obtain⟨j,hj⟩:=List.getElem?_of_mem hv;have:=(gO.1 hj).1;have:=HM.out.1;exact hall.out j (by omega) v hj⟩))
         have HBW:=hIz bw;clear bw hall hb;go_wp2;go_ret;exact⟨by rw[FIN.out];rfl,HBW.out⟩
open Go.RowKit Go.Shelf
theorem GR(w:World)(Fg:Nat→Prop)(pg:Nat)(G:Gr)(h:GrS w Fg pg G)(ok:GOk G)(h1:G.N.length≤1):Calls Tryz.prog 67 #[.pointer (some ⟨pg,0,none⟩)] w (Sam w (.bool true)):=by
 have hcon:=pM w Fg pg G h ok ByteArray.empty 1 h1 (Nat.le_refl _) (by omega);clear h ok h1;go_enter Tryz.func67,Tryz.ntmps67;go_wp2_with fail;refine hcon.mono ?_;clear hcon;rintro e W1 ⟨q,b,rfl,-,hb,-⟩;have HB:=hIz hb;clear hb;go_wp2;go_ret;exact⟨rfl,HB.out⟩
theorem zH:(Tryz.prog.info? 97).map (fun i=>(i.zero,i.size,i.bytes))=some (some (.pointer none),1,8):=by kernel_rfl
def upA(ad:Nat→Nat)(t q:Nat):Nat→Nat:=fun k=>if k=t then q else ad k
theorem zI(ad:Nat→Nat)(t q:Nat):ptC ad t++[.pointer (some ⟨q,0,none⟩)]=ptC (upA ad t q) (t+1):=by
 unfold ptC;rw[List.range_succ,List.map_append];congr 1
 ·refine List.map_congr_left (fun k hk=>?_);have:=List.mem_range.1 hk;simp only[upA]
  rw[if_neg (by omega)]
 ·simp[upA]
open Classical in
set_option maxRecDepth 20000 in
theorem ClS.grow{w:World}{F Fq:Nat→Prop}{p side nodes t q:Nat}(h:ClS w F p side nodes t (fun _=>none))(hq:QuS w Fq q side none)(hd:∀k,Fq k→¬F k)(ht:t≤512) :
  ∃A c A' c' W2,w.cell? ⟨p,1,none⟩=some (.slice A t c)∧(Builtin.append_ #[90,90] 90 #[.slice A t c,.slice (some ⟨w.heap.size,0,none⟩) 1 1]).run Tryz.prog (w.alloc (.cells #[.pointer (some ⟨q,0,none⟩)] 97))=.ok (.slice A' (t+1) c') W2 ∧
   W2.cell? ⟨p,1,none⟩=some (.slice A t c)∧W2.frozen? ⟨p,1,none⟩=false∧(∃F',ClS (W2.setCell ⟨p,1,none⟩ (.slice A' (t+1) c')) F' p side nodes (t+1) (fun _=>none)∧∀k,F' k→F k∨Fq k∨w.heap.size≤k)∧Upd F w (W2.setCell ⟨p,1,none⟩ (.slice A' (t+1) c')):=by
 obtain⟨O,pv,ad,hi,rfl⟩:=h;obtain⟨A,c,rfl,-,-⟩:=aH hi.rows;obtain⟨v2,W2,happ,own2,u2,p2⟩:=dB w 0 90 97 1 8 _ Tryz.underlying90 zH rfl (by decide) (.slice A t c) t (ptC ad t) hi.rows [.pointer (some ⟨q,0,none⟩)] 1 rfl (fun x hx=>by rw[List.mem_singleton.1 hx];rfl) (by omega) (by unfold maxLen;omega) (Nat.zero_le _);obtain⟨A',c',rfl,-,-⟩:=aH own2;have hrow:∀k,(Value.slice A t c).ownBlock=some k→O k=some .row:=hi.orow;have hb2:=hi.blk.upd u2 (fun e=>by have:=hrow _ e;rw[hi.op] at this;cases this);have u3:Upd (fun k=>(Value.slice A t c).ownBlock=some k∨k=p) w (W2.setCell ⟨p,1,none⟩ (.slice A' (t+1) c')):=(u2.mono (fun _ _ e=>.inl e)).setCell (p:=⟨p,1,none⟩) (.inl (.inr rfl)) _;have hUF:∀k,((Value.slice A t c).ownBlock=some k∨k=p)→O k≠none:=fun k hk=>hk.elim (fun e=>by rw[hrow k e];exact nofun) (fun e=>by rw[e,hi.op];exact nofun)
 have hnp:∀k,(Value.slice A' (t+1) c').ownBlock=some k→¬k=p:=fun k hk e=>by
  subst e;rcases p2 k hk with h1|h1
  ·have:=hrow k h1;rw[hi.op] at this;cases this
  ·have:=hi.blk.lt;omega
 have hlt2:=own2.lt;have hqlt:=hq.lt;refine⟨A,c,A',c',W2,hi.blk.cell 1,happ,hb2.cell 1,hb2.frozen 1,⟨_,⟨fun k=>if k<w.heap.size then (if O k≠none then O k else if Fq k then some (.mat t) else none) else if (Value.slice A' (t+1) c').ownBlock=some k then some .row else none,.slice A' (t+1) c',upA ad t q,⟨hb2.set 1 _,?_,?_,?_,?_,?_⟩,rfl⟩,?_⟩,u3.mono (fun k _ hk=>hUF k hk)⟩
 ·rw[← zI];exact aB own2 ((Upd.refl (fun k=>k=p) W2).setCell (p:=⟨p,1,none⟩) (.inl rfl) (.slice A' (t+1) c')) hnp
 ·show(if p<w.heap.size then (if O p≠none then O p else _) else _)=_
  rw[if_pos hi.blk.lt,if_pos (by rw[hi.op];exact nofun)];exact hi.op
 ·intro k hk;show(if k<w.heap.size then (if O k≠none then O k else _) else _)=_
  rcases p2 k hk with h1|h1
  ·rw[if_pos (hi.lt k (by rw[hrow k h1];exact nofun)),if_pos (by rw[hrow k h1];exact nofun)];exact hrow k h1
  ·rw[if_neg (by omega),if_pos hk]
 ·intro k hk;by_cases e:k=t
  ·subst e;refine⟨Fq,?_,fun x hx=>?_⟩
   ·show QuS _ Fq (if k=k then q else ad k) side none
    rw[if_pos rfl];exact hq.upd u3 (fun x hx e=>hd x hx (hUF x e))
   ·show(if x<w.heap.size then (if O x≠none then O x else if Fq x then some (CRo.mat k) else none) else _)=_
    have hox:O x=none:=Classical.byContradiction (fun e=>hd x hx e);rw[if_pos (hqlt x hx),if_neg (fun e=>e hox),if_pos hx]
  ·obtain⟨Fk,h1,h2⟩:=hi.mats k (by omega);refine⟨Fk,?_,fun x hx=>?_⟩
   ·show QuS _ Fk (if k=t then q else ad k) side none
    rw[if_neg e];exact h1.upd u3 (fun x hx e'=>by
     have e3:=h2 x hx;rcases e' with e' | e'
     ·rw[hrow x e'] at e3;cases e3
     ·rw[e',hi.op] at e3;cases e3)
   ·show(if x<w.heap.size then (if O x≠none then O x else _) else _)=_
    rw[if_pos (h1.lt x hx),if_pos (by rw[h2 x hx];exact nofun)];exact h2 x hx
 ·intro k hk;have hz:=u3.size;by_cases hl:k<w.heap.size
  ·omega
  ·have hk:(if k<w.heap.size then _ else if (Value.slice A' (t+1) c').ownBlock=some k then some CRo.row else none)≠none:=hk;rw[if_neg hl] at hk;by_cases e:(Value.slice A' (t+1) c').ownBlock=some k
   ·have:=(hlt2 k e).2;simpa[World.setCell] using this
   ·rw[if_neg e] at hk;exact absurd rfl hk
 ·intro k hk;by_cases hl:k<w.heap.size
  ·have hk:(if k<w.heap.size then (if O k≠none then O k else if Fq k then some (CRo.mat t) else none) else _)≠none:=hk;rw[if_pos hl] at hk;by_cases e:O k≠none
   ·exact .inl e
   ·rw[if_neg e] at hk;by_cases e2:Fq k
    ·exact .inr (.inl e2)
    ·rw[if_neg e2] at hk;exact absurd rfl hk
  ·exact .inr (.inr (by omega))
open Go.RowKit Go.Shelf
attribute [local go_sem] Oper.semAt_some
theorem fY{F:Fence}{nF:Nat}{P:Program}{ops:Array Oper}{rest:List Oper}{o:Oper}{a:Act}{Q:Exit→Act→World→Prop}{w w':World}{v v2 v':Value}(hgd:o.guard=none)(s x:Operand)(t:TypeId)
  (ho:o.op=.call { callee:=.builtin .append,args:=#[s,x],argTypes:=#[t,t] }) (hs:a.eval s=v) (hx:a.eval x=v2)
  (hrun:(Builtin.append_ #[t,t] o.type #[v,v2]).run P w=.ok v' w') (h:wpListIn F nF P ops Q rest (a.put o.dst v') w'):wpListIn F nF P ops Q (o::rest) a w:=by
 refine wpListIn_plain hgd fun K hK=>?_
 unfold Oper.wpIn;refine⟨by simp[Oper.about,ho,resolve,Target.leads,Sem.run_pure],?_⟩;rw[Oper.semAt_plain F _ _ (by rw[ho];intro c hc';cases hc')];simp[execOp,ho,resolve,invoke,builtin,hs,hx,hrun,Result.andThen]
 exact hK _ _ h
theorem GS:(Tryz.prog.info? 25).map (fun i=>(i.zero,i.size,i.bytes))=some (some (.agg #[.int .i64 0,.int .i64 0,.int .i64 0]),3,24):=by kernel_rfl
def faC(x:Nat × Nat × Nat):List Value:=[.int .i64 (x.1:Int),.int .i64 (x.2.1:Int),.int .i64 (x.2.2:Int)]
def cR(L:List (Nat × Nat × Nat)):List Value:=L.flatMap faC
theorem xU(L:List (Nat × Nat × Nat)):(cR L).length=L.length*3:=eC faC 3 (fun _=>rfl) L
theorem SO(x:Nat × Nat × Nat):∀u∈faC x,u.oneCell'=true:=by
 intro u hf;simp[faC] at hf
 rcases hf with rfl|rfl|rfl <;> rfl
theorem GT(W:World)(B0 lb:Nat)(v:Value)(L:List (Nat × Nat × Nat))(m:Nat × Nat × Nat)(hb:Blk W lb 35 #[v])(own:W.ownsRow B0 25 3 v L.length (cR L))(hne:v.ownBlock≠some lb)(hl:(L.length+1)*24≤140737488355328)(hB:B0≤W.heap.size) :
  ∃v' W1,(Builtin.append_ #[35,35] 35 #[v,.slice (some ⟨W.heap.size,0,none⟩) 1 1]).run Tryz.prog (W.alloc (.cells (faC m).toArray 25))=.ok v' W1 ∧
   Blk W1 lb 35 #[v]∧Blk (W1.setCell ⟨lb,0,none⟩ v') lb 35 #[v']∧(W1.setCell ⟨lb,0,none⟩ v').ownsRow B0 25 3 v' (L++[m]).length (cR (L++[m]))∧v'.ownBlock≠some lb ∧
   Upd (fun q=>q=lb∨v.ownBlock=some q) W (W1.setCell ⟨lb,0,none⟩ v')∧∀k,v'.ownBlock=some k→v.ownBlock=some k∨W.heap.size≤k:=by
 obtain⟨v',w',happ,own',up,pl⟩:=dB W B0 35 25 3 24 _ Tryz.underlying35 GS rfl (by decide) v L.length _ own (faC m) 1 rfl (SO m) hl (by unfold maxLen;omega) hB;have hne':v'.ownBlock≠some lb:=by
  intro e;rcases pl lb e with h|h
  ·exact hne h
  ·have:=hb.lt;omega
 have kb:=hb.upd up (fun e=>hne e);have us:Upd (fun q=>q=lb) w' (w'.setCell ⟨lb,0,none⟩ v'):=(Upd.refl (fun q=>q=lb) w').setCell (p:=⟨lb,0,none⟩) (.inl rfl) _;refine⟨v',w',happ,kb,kb.set 0 v',?_,hne',(up.mono (fun i _ h=>.inr h)).trans us (fun i h=>.inl (.inl h)),pl⟩;have h1:=aB own' us (fun k hk e=>hne' (by rw[hk,e]));rw[List.length_append,cR,List.flatMap_append];simpa[cR] using h1
open Go.RowKit Go.Shelf
theorem mH{F:Fence}{n:Nat}{P:Program}{fn:Func}{R:Ending→World→Prop}{a:Act}{w:World}{v:Value}(hr:(results fn a.tmps).run P w=.ok v w)(hd:a.defers=[])(hR:R (.returned v) w):bodyPostM F n P fn R .ret a w:=by
 show LeavesInM F n P fn a.tmps R a.defers .returning w
 rw[hd];exact⟨v,hr,hR⟩
abbrev TT (g:Nat):Value:=.func (.func 109) #[] #[.pointer (some ⟨g,0,none⟩)]
def VJ(w:World)(v:Value)(e:Ending)(w':World):Prop:=∃g,w.heap.size≤g∧e=.returned (TT g)∧Blk w' g 35 #[v]∧Below w.heap.size w w'
theorem BN(w:World)(A:Option Addr)(n c:Nat):Calls Tryz.prog 66 #[.slice A n c] w (VJ w (.slice A n c)):=by
 have k1:=Blk.new w 35 #[.slice A n c];have b1:Below w.heap.size w (w.alloc (.cells #[.slice A n c] 35)):=bR.alloc (Nat.le_refl _) _;have FIN:=hIz (show VJ w (.slice A n c) (.returned (TT w.heap.size)) (w.alloc (.cells #[.slice A n c] 35)) from⟨_,Nat.le_refl _,rfl,k1,b1⟩);clear k1 b1;go_enter Tryz.func66,Tryz.ntmps66;go_wp2;go_ret;exact FIN.out
open Go.RowKit
theorem GU{w:World}{g:Nat}{t:TypeId}{r:List Nat}(h:Blk w g t (plC r).toArray):w.rangeAt g 0 [.int .i64 0,.int .i64 0]:=fun j v hv=>by
 rw[h.cell (0+j),Nat.zero_add];match j,hv with
 | 0,hv=>simpa[plC] using hv
 | 1,hv=>simpa[plC] using hv
 | j+2,hv=>simp at hv
theorem QuS.old{w:World}{F:Nat→Prop}{p side:Nat}{b:Option (List Nat)}(h:QuS w F p side b):Wd (bX b):=by
 obtain⟨O,dep,cnt,m,last,L,pv,lv,hq,ok,-⟩:=h;exact jH ok
theorem BO(w:World)(F:Nat→Prop)(q side gx:Nat)(b:Option (List Nat))(r:List Nat)(h:QuS w F q side b)(hs2:side≤1024)(hr:Wd r)(kx:w.cell? ⟨gx,0,none⟩=some (.pointer (some ⟨q,0,none⟩)))(hgx:gx<w.heap.size) :
  Calls Tryz.prog 140 #[.agg (plC r).toArray,.pointer (some ⟨gx,0,none⟩)] w (Sam w (.agg (plC (List.zipWith aZ r (bX b))).toArray)):=by
 have k2:=Blk.new w 170 (plC r).toArray;have b2:Below w.heap.size w (w.alloc (.cells (plC r).toArray 170)):=bR.alloc (Nat.le_refl _) _;have z2:(w.alloc (.cells (plC r).toArray 170)).heap.size=w.heap.size+1:=by simp
 have k3:=Blk.new (w.alloc (.cells (plC r).toArray 170)) 170 Tryz.zeroCells170;have b3:Below w.heap.size w ((w.alloc (.cells (plC r).toArray 170)).alloc (.cells Tryz.zeroCells170 170)):=b2.alloc b2.size _;have u3:Upd (fun _=>False) (w.alloc (.cells (plC r).toArray 170)) ((w.alloc (.cells (plC r).toArray 170)).alloc (.cells Tryz.zeroCells170 170)):=(Upd.refl _ _).alloc _;have k2':=k2.upd u3 id;rw[z2] at k3;have hw:=h.old;have kx2:=b3.cell (p:=⟨gx,0,none⟩) hgx;rw[kx] at kx2;have H:=aI6 k2' k3 b3 (h.below b3) hr hw;clear k2 b2 k2' k3 b3 u3 h kx hr hw z2;go_enter Tryz.func140,Tryz.ntmps140;go_upto_region 1 with (fail);obtain⟨g,hg⟩:∃g,w.heap.size=g:=⟨_,rfl⟩;generalize (w.alloc (.cells (plC r).toArray 170)).alloc (.cells Tryz.zeroCells170 170)=W0 at H kx2 ⊢;rw[hg] at H;have q0:W0.cell? ⟨g,0,none⟩=some (.int .i64 0):=by rw[H.out.1.cell 0];simp[plC]
 have q1:W0.cell? ⟨g,1,none⟩=some (.int .i64 0):=by rw[H.out.1.cell 1];simp[plC]
 have hcon:=AV W0 F q side b H.out.2.2.2.1 hs2;go_wp2_with fail;refine hcon.mono ?_;clear hcon;rintro e W1 ⟨rfl,b1⟩;have hsz:=bH H.out.2.2.2.2.2;have h1c:=fK (bX b);unfold wdV;clear kx2 q0 q1;have k4:=Blk.new W1 168 (wdC (bX b)).toArray;have b4:Below W0.heap.size W0 (W1.alloc (.cells (wdC (bX b)).toArray 168)):=b1.alloc b1.size _;have u4:=Upd.of_below b4 (fun _=>False);have hb4:Below g w (W1.alloc (.cells (wdC (bX b)).toArray 168)):=H.out.2.2.1.trans (b4.mono (by have:=H.out.2.2.1.size;omega));have z4:(W1.alloc (.cells (wdC (bX b)).toArray 168)).heap.size=W1.heap.size+1:=by simp
 have hgl:=H.out.2.1.lt;have hlg4:=b1.size;have H4:=aI4 (H.out.1.upd u4 id) (H.out.2.1.upd u4 id) hb4 k4;clear k4 b4 u4 hb4 b1;go_upto_region 2 with (first | (refine bE rfl rfl 168 _ _ rfl rfl (wdC (bX b)) ⟨_,by rw[bJ,H.out.2.2.2.2.2.len];exact eK.choose_spec.1,eK.choose_spec.2⟩ rfl rfl hsz h1c ?_) | fail);generalize hg4:W1.heap.size=g4 at H4 hlg4 ⊢;generalize W1.alloc (.cells (wdC (bX b)).toArray 168)=W4 at H4 z4 ⊢;have SR:=hIz (show ∀W,Below W4.heap.size W4 W→W.rangeAt g 0 [.int .i64 0,.int .i64 0]∧W.rangeAt g 2 (wdC r)∧W.rangeAt g4 0 (wdC (bX b)) from fun W hb=>by
  have hu:=Upd.of_below hb (fun _=>False);have q2:=H4.out.1.upd hu id;have q4:=H4.out.2.2.2.upd hu id;exact⟨GU q2,lZ q2,bP q4⟩)
 have hB0:=hIz (show Below W4.heap.size W4 W4.drew from bR.drew);have hS:=SR.out _ hB0.out;have hszr:(Tryz.prog.info? 168).map (·.size)=some (wdC r).length:=bH H.out.2.2.2.2.1;have hszc:(Tryz.prog.info? 124).map (·.size)=some [Value.int .i64 0,.int .i64 0].length:=by kernel_rfl
 have hwl:=mQ H.out.2.2.2.2.1 H.out.2.2.2.2.2;refine aN (fun W=>W.rangeAt g 0 [.int .i64 0,.int .i64 0]∧W.rangeAt g 2 (wdC r)∧W.rangeAt g4 0 (wdC (bX b))) 7 [(0,true),(1,true),(2,true),(3,true),(4,true),(5,false),(6,true),(7,false)] hS ?_;generalize W4.drew=V0 at hB0 hS ⊢;have hbl:=uN V0 r (bX b) H.out.2.2.2.2.1 H.out.2.2.2.2.2;unfold wdV at hbl;refine aD rfl ?_;(refine eS rfl (by first | with_reducible rfl | kernel_rfl) 124 _ rfl g 0 rfl [.int .i64 0,.int .i64 0] (.struct _) (fun _ h=>h.1) Tryz.underlying124 rfl hszc ?_;(try simp only[Act.put,gA,gS,gZ,sA,sZ,sS]))
 refine aD rfl ?_;(refine eS rfl (by first | with_reducible rfl | kernel_rfl) 168 _ rfl g 2 rfl (wdC r) (.array 64 166) (fun _ h=>h.2.1) Tryz.underlying168 rfl hszr ?_;(try simp only[Act.put,gA,gS,gZ,sA,sZ,sS]))
 (refine eS rfl (by first | with_reducible rfl | kernel_rfl) 168 _ rfl g4 0 rfl (wdC (bX b)) (.array 64 166) (fun _ h=>h.2.2) Tryz.underlying168 rfl hsz ?_;(try simp only[Act.put,gA,gS,gZ,sA,sZ,sS]))
 refine aK rfl rfl (fun K hK=>?_);go_simp;refine hbl.mono ?_;clear hbl;rintro e V1 ⟨rfl,b5⟩;have hB1:=hIz (tHn hB0.out b5);refine hK _ _ (fun _=>SR.out _ hB1.out) ?_;clear hK K b5 hS;(try simp only[Act.put,gA,gS,gZ,sA,sZ,sS])
 have hbp:∀W,(Instr.build 170 #[(0,.agg #[.int .i64 0,.int .i64 0]),(1,.agg (wdC (List.zipWith aZ r (bX b))).toArray)]).run Tryz.prog W=.ok (.agg (plC (List.zipWith aZ r (bX b))).toArray) W:=fun W=>nH hwl W
 (refine oY rfl (by first | with_reducible rfl | kernel_rfl) 170 _ rfl #[(0,.agg #[.int .i64 0,.int .i64 0]),(1,.agg (wdC (List.zipWith aZ r (bX b))).toArray)] (by first | with_reducible rfl | kernel_rfl) hbp ?_;(try simp only[Act.put,gA,gS,gZ,sA,sZ,sS]))
 clear hbp;have u1:=Upd.of_below hB1.out (fun _=>False);have k3:=H4.out.2.1.upd u1 id;have hb1:Below g w V1:=H4.out.2.2.1.trans (hB1.out.mono (by have:=H4.out.2.2.1.size;omega));have hth:V1.there (g+1) 0 (plC (List.zipWith aZ r (bX b))).toArray.size:=by have:=bU k3;simpa[fX hwl] using this
 have hsz2:(Tryz.prog.info? 170).map (·.size)=some (plC (List.zipWith aZ r (bX b))).toArray.size:=by simpa using jP hwl
 have h1c2:(plC (List.zipWith aZ r (bX b))).toArray.all (·.oneCell')=true:=all_oneCell_toArray (jI _);have FIN:=hIz (show Below g w (V1.setCells (g+1) 0 (plC (List.zipWith aZ r (bX b))))∧(V1.setCells (g+1) 0 (plC (List.zipWith aZ r (bX b)))).rangeAt (g+1) 0 (plC (List.zipWith aZ r (bX b))) from
  ⟨hb1.trans ((Upd.setCells (F:=fun q=>q=g+1) (.inl rfl) (plC (List.zipWith aZ r (bX b))) 0 (Upd.refl _ V1)).below (fun q _ e=>by omega) (by have:=hb1.size;omega)),World.rangeAt_setCells_same _ _ _ _ (by simpa using hth)⟩)
 clear u1 k3 hb1;refine aK rfl rfl (fun K hK=>?_);refine wp_store_mid 170 _ _ rfl (g+1) 0 (plC (List.zipWith aZ r (bX b))).toArray rfl rfl hth hsz2 h1c2 ?_;refine hK _ _ (fun h=>absurd rfl h) ?_;clear hK K;(try simp only[Act.put,gA,gS,gZ,sA,sZ,sS])
 refine aJ ?_;have hsz3:=jP hwl;have hlv:=run_loadVar_mid (P:=Tryz.prog) _ (g+1) 0 170 (plC (List.zipWith aZ r (bX b))) (.struct _) FIN.out.2 Tryz.underlying170 rfl hsz3;go_wp2;refine bodyPost_ret (v:=.agg (plC (List.zipWith aZ r (bX b))).toArray) (by simp[results,Tryz.f140,Act.put,asAddr,hlv,Result.andThen,Sem.run_bind]) rfl ⟨rfl,by rw[hg];exact FIN.out.1⟩
open Go.RowKit
def lessQ(b c:Option (List Nat)):Option (List Nat):=match b with
 | none=>none
 | some r=>joinO none (List.zipWith aZ r (bX c))
def SP(w:World)(side:Nat)(b:Option (List Nat))(f:Value→Value)(e:Ending)(w':World):Prop:=∃pm,e=.returned (f (.pointer (some ⟨pm,0,none⟩)))∧fL w.heap.size pm side b w'∧Below w.heap.size w w'
abbrev UJ (gx:Nat):Value:=.func (.func 140) #[] #[.pointer (some ⟨gx,0,none⟩)]
theorem QuS.words{w:World}{F:Nat→Prop}{p side:Nat}{b:Option (List Nat)}(h:QuS w F p side b):∀r,b=some r→Wd r:=by
 obtain⟨O,dep,cnt,m,last,L,pv,lv,hq,ok,-⟩:=h;exact fun r e=>(ok.is r e).2.2.2.2
theorem QuS.sides{w:World}{F:Nat→Prop}{p side:Nat}{b:Option (List Nat)}(h:QuS w F p side b):1≤side∧side≤1024∧w.cell? ⟨p,0,none⟩=some (.int .i64 (side:Int)):=by
 obtain⟨O,dep,cnt,m,last,L,pv,lv,hq,ok,-⟩:=h;exact⟨ok.s1,ok.s2,hq.blk.cell 0⟩
theorem GV(w:World)(F F':Nat→Prop)(p q side gx:Nat)(b c:Option (List Nat))(h:QuS w F p side b)(h':QuS w F' q side c)(kx:w.cell? ⟨gx,0,none⟩=some (.pointer (some ⟨q,0,none⟩)))(hgx:gx<w.heap.size) :
  Calls Tryz.prog 139 #[.pointer (some ⟨p,0,none⟩),UJ gx] w (SP w side (lessQ b c) id):=by
 obtain⟨hs1,hs2,q0⟩:=h.sides;have hw':=hIz h.words;have hnew:=kG w side hs1 hs2;have H:=aI3 h h' kx;clear h h' kx;go_enter Tryz.func139,Tryz.ntmps139;go_wp2_with fail;refine hnew.mono ?_;clear hnew;rintro e W1 ⟨pm,rfl,⟨Fm,hq,hF⟩,b1⟩;have H1:=aI3 hq hF b1;have hall:=nS W1 F p side b (H.out.1.below b1);clear hq hF b1 q0;go_wp2_with fail;refine hall.mono ?_;clear hall;rintro e V1 ⟨hb1,hm⟩;have hu1:=hIz hb1;clear hb1;cases b with
 | none =>
  obtain rfl:=hm;have FIN:=hIz (show SP w side (lessQ none c) id (.returned (.pointer (some ⟨pm,0,none⟩))) V1 from⟨pm,rfl,⟨Fm,H1.out.1.below hu1.out,H1.out.2.1⟩,tHn H1.out.2.2 hu1.out⟩);go_wp2_with fail;refine wp_loop_rounds 1 ?_;rw[rounds_succ];go_wp2_with fail;go_ret;exact FIN.out
 | some r =>
  obtain⟨A,cc,rfl,hm⟩:=hm;have hr:=hw'.out r rfl;obtain⟨ga,cc,e,hob,-,-,-,hcell⟩:=aL hm.1 (by decide);injection e with e1 e2 e3;subst e1;subst e3;have rA:V1.rangeAt ga 0 (plC r):=fun j v hv=>by rw[Nat.zero_add];exact(hcell j v hv).1
  have hsz:=jP hr;have h1c:=jI r;have bw1:=tHn H1.out.2.2 hu1.out;have k2:=Blk.new V1 170 (plC r).toArray;have b2:Below V1.heap.size V1 (V1.alloc (.cells (plC r).toArray 170)):=bR.alloc (Nat.le_refl _) _;have HX:=aI3 k2 (H1.out.1.below (tHn hu1.out b2)) (tHn bw1 b2);clear k2 b2 bw1 hcell hm e2 hob;go_upto_region 3 with (fail);refine wp_loop_rounds 2 ?_;rw[rounds_succ];go_upto_region 5 with (first | (refine wpList_load_mid rfl 170 _ rfl ga 0 rfl (plC r) (.struct _) rA Tryz.underlying170 rfl hsz ?_) | (refine bE rfl rfl 170 _ _ rfl rfl (plC r) ⟨_,by rw[fX hr];exact bW.choose_spec.1,bW.choose_spec.2⟩ rfl rfl hsz h1c ?_) | fail);clear rA;generalize hg2:V1.heap.size=g2 at HX ⊢;generalize V1.alloc (.cells (plC r).toArray 170)=V2 at HX ⊢;clear hg2;have r2:V2.rangeAt g2 0 (plC r):=bP HX.out.1;have hc2:=H.out.2.1.below HX.out.2.2;have hcon:=BO V2 F' q side gx c r hc2 hs2 hr ((HX.out.2.2.cell (p:=⟨gx,0,none⟩) hgx).trans H.out.2.2) (Nat.lt_of_lt_of_le hgx HX.out.2.2.size);have hwl:=mQ hr H.out.2.1.old;go_wp2_with (first | (refine wpList_load_mid rfl 170 _ rfl g2 0 rfl (plC r) (.struct _) r2 Tryz.underlying170 rfl hsz ?_) | fail);refine hcon.mono ?_;clear hcon r2 hc2;rintro e V3 ⟨rfl,b3⟩;obtain⟨x,hx⟩:∃x,List.zipWith aZ r (bX c)=x:=⟨_,rfl⟩;rw[hx] at hwl;rw[hx];have hsz4:=jP hwl;have h1c4:=jI x;have k4:=Blk.new V3 170 (plC x).toArray;have b4:Below V2.heap.size V2 (V3.alloc (.cells (plC x).toArray 170)):=b3.alloc b3.size _;have H4:=aI3 k4 (HX.out.2.1.below b4) (tHn HX.out.2.2 b4);clear b3 b4 k4
  go_upto_region 6 with (first | (refine bE rfl rfl 170 _ _ rfl rfl (plC x) ⟨_,by rw[fX hwl];exact bW.choose_spec.1,bW.choose_spec.2⟩ rfl rfl hsz4 h1c4 ?_) | fail);generalize hg4:V3.heap.size=g4 at H4 ⊢;generalize V3.alloc (.cells (plC x).toArray 170)=V4 at H4 ⊢;clear hg4;have r4:=lZ H4.out.1;have q0:V4.cell? ⟨g4,0,none⟩=some (.int .i64 0):=by rw[H4.out.1.cell 0];simp[plC]
  have q1:V4.cell? ⟨g4,1,none⟩=some (.int .i64 0):=by rw[H4.out.1.cell 1];simp[plC]
  have hszw:=bH hwl;have hcon:=xM V4 Fm pm side none H4.out.2.1 x hwl;unfold wdV at hcon;go_wp2_with (first | (refine wpList_load_mid rfl 168 _ rfl g4 2 rfl (wdC x) (.array 64 166) r4 Tryz.underlying168 rfl hszw ?_) | fail);refine hcon.mono ?_;clear hcon;rintro e V5 ⟨rfl,F5,hq5,hu5,hF5⟩;have FIN:=hIz (show SP w side (lessQ (some r) c) id (.returned (.pointer (some ⟨pm,0,none⟩))) V5 from
   ⟨pm,rfl,⟨F5,by unfold lessQ;dsimp only;rw[hx];exact hq5,fun k hk=>(hF5 k hk).elim (H1.out.2.1 k) (fun hk=>Nat.le_trans H4.out.2.2.size hk)⟩,H4.out.2.2.trans (hu5.below (fun k _ hk=>H1.out.2.1 k hk) H4.out.2.2.size)⟩)
  clear hq5 hu5 hF5;go_wp2;rw[rounds_succ];go_wp2;go_ret;exact FIN.out
theorem GW(w:World)(F F':Nat→Prop)(p q side:Nat)(b c:Option (List Nat))(h:QuS w F p side b)(h':QuS w F' q side c) :
  Calls Tryz.prog 93 #[.pointer (some ⟨p,0,none⟩),.pointer (some ⟨q,0,none⟩)] w (SP w side (lessQ b c) (fun v=>.tuple #[v,.int .i64 0])):=by
 have k0:=Blk.new w 97 #[.pointer (some ⟨q,0,none⟩)];have u0:Below w.heap.size w (w.alloc (.cells #[.pointer (some ⟨q,0,none⟩)] 97)):=bR.alloc (Nat.le_refl _) _;have H:=aI3 (h.below u0) (h'.below u0) u0;have qx:=k0.cell 0;have hgx:w.heap.size<(w.alloc (.cells #[.pointer (some ⟨q,0,none⟩)] 97)).heap.size:=by simp
 clear k0 u0 h h';go_enter Tryz.func93,Tryz.ntmps93;go_upto_region 1 with (fail);obtain⟨g,hg⟩:∃g,w.heap.size=g:=⟨_,rfl⟩;generalize w.alloc (.cells #[.pointer (some ⟨q,0,none⟩)] 97)=W0 at H qx hgx ⊢;rw[hg] at qx hgx;obtain⟨hs1,-,q0⟩:=H.out.1.sides;obtain⟨-,-,q1⟩:=H.out.2.1.sides;have qx:W0.cell? ⟨g,0,none⟩=some (.pointer (some ⟨q,0,none⟩)):=qx;have his:=eX W0 p side hs1 q0;have his2:=eX W0 q side hs1 q1;have hcon:=fun n=>GV (W0.drewN n) F F' p q side g b c (H.out.1.below ⟨rfl,rfl,rfl,Nat.le_refl _,fun _ _=>rfl⟩) (H.out.2.1.below ⟨rfl,rfl,rfl,Nat.le_refl _,fun _ _=>rfl⟩) qx hgx
 go_wp2_with fail;refine his.mono ?_;clear his;rintro e V1 ⟨rfl,hw1⟩;subst V1;go_wp2_with fail;refine his2.mono ?_;clear his2;rintro e V1 ⟨rfl,hw1⟩;subst V1;go_upto_region 3 with (fail);go_quiet (fail)
 go_wp2_with fail;refine(hcon _).mono ?_;clear hcon;rintro e V1 ⟨pm,rfl,⟨Fm,hq,hF⟩,b1⟩;have FIN:=hIz (show SP w side (lessQ b c) (fun v=>.tuple #[v,.int .i64 0]) (.returned (.tuple #[.pointer (some ⟨pm,0,none⟩),.int .i64 0])) V1 from
  ⟨pm,rfl,⟨Fm,hq,fun k hk=>Nat.le_trans H.out.2.2.size (hF k hk)⟩,H.out.2.2.trans (Below.mono (Below.trans (show Below W0.heap.size W0 (W0.drewN _) from⟨rfl,rfl,rfl,Nat.le_refl _,fun _ _=>rfl⟩) b1) H.out.2.2.size)⟩)
 clear hq hF b1;go_wp2;refine bodyPost_ret (v:=.tuple #[.pointer (some ⟨pm,0,none⟩),.int .i64 0]) (by simp[results,Tryz.f93,go_sem]) rfl FIN.out
theorem MC{α:Type}[DecidableEq α]{L M:List α}(hl:L.Nodup)(hm:M.Nodup)(h:∀x,x∈L↔x∈M):L.length=M.length:=
 Nat.le_antisymm (fH hl (fun x hx=>(h x).1 hx)) (fH hm (fun x hx=>(h x).2 hx))
theorem pR{α β:Type}{f:α→β}{l:List α}(h:l.Nodup)(hf:∀a∈l,∀b∈l,f a=f b→a=b):(l.map f).Nodup:=by
 unfold List.Nodup;rw[List.pairwise_map];exact List.Pairwise.imp_of_mem (fun {a b} ha hb hn e=>hn (hf a ha b hb e)) h
structure DlI(P:List Pr)(El:Int→Nat→Nat→Prop)(n nts:Nat)(T f:aX):Prop where
 wdT:∀k,WdO (T k)
 wdF:∀k,WdO (f k)
 sT:∀k,k<nts→∀i j,aY (T k) i j=true→gR P El n (k:Int) i j
 sF:∀k,k<nts→∀i j,aY (f k) i j=true→gR P El n (k:Int) i j
 eps:∀p∈P,p.body=[]→∀i,i<n→aY (T p.head.toNat) i i=true∨aY (f p.head.toNat) i i=true
 one:∀p∈P,∀s,p.body=[s]→∀i j,El s.at_ i j→aY (T p.head.toNat) i j=true∨aY (f p.head.toNat) i j=true
 two:∀p∈P,∀s t,p.body=[s,t]→∀i k j,aY (T s.at_.toNat) i k=true→aY (T t.at_.toNat) k j=true→aY (T p.head.toNat) i j=true∨aY (f p.head.toNat) i j=true
def zJ(f c m:Option (List Nat)):Prop:=WdO m∧∀i j,aY m i j=true↔aY f i j=true∧aY c i j=false
def kQ(c f m:Option (List Nat)):Prop:=WdO m∧∀i j,aY m i j=true↔aY c i j=true∨aY f i j=true
theorem kQ.joinQ{c m:Option (List Nat)}(hc:WdO c)(hm:WdO m):kQ c m (joinQ c m):=by
 refine⟨hc.joinQ hm,fun i j=>?_⟩;constructor
 ·intro h;rw[eB hc hm (cM (hc.joinQ hm) h),Bool.or_eq_true] at h;exact h
 ·intro h;have hi:i<64:=h.elim (cM hc) (cM hm);rw[eB hc hm hi,Bool.or_eq_true];exact h
structure SQ(P:List Pr)(N T f':aX):Prop where
 wd:∀k,WdO (f' k)
 mem:∀k i j,aY (f' k) i j=true↔∃p∈P,∃s t,p.body=[s,t]∧p.head.toNat=k∧∃u,(aY (N s.at_.toNat) i u=true∧aY (T t.at_.toNat) u j=true)∨(aY (T s.at_.toNat) i u=true∧aY (N t.at_.toNat) u j=true)
section
variable {P:List Pr} {El:Int→Nat→Nat→Prop} {n nts:Nat} {T T' f f' N:aX}
theorem DlI.round(h:DlI P El n nts T f)(hs:∀q∈P,xS nts q)(hN:∀k,k<nts→zJ (f k) (T k) (N k))(hT:∀k,k<nts→kQ (T k) (f k) (T' k))(hT0:∀k,WdO (T' k))(hf:SQ P N T' f'):DlI P El n nts T' f':=by
 have ea:∀q∈P,((q.head.toNat:Nat):Int)=q.head∧q.head.toNat<nts:=fun q hq=>by
  have h0:=(hs q hq).h0;have h1:=(hs q hq).h1;exact⟨Int.toNat_of_nonneg h0,by omega⟩
 have sT':∀k,k<nts→∀i j,aY (T' k) i j=true→gR P El n (k:Int) i j:=fun k hk i j hb=>by
  rcases ((hT k hk).2 i j).1 hb with h1|h1
  ·exact h.sT k hk i j h1
  ·exact h.sF k hk i j h1
 have sN:∀k,k<nts→∀i j,aY (N k) i j=true→gR P El n (k:Int) i j:=fun k hk i j hb=>h.sF k hk i j (((hN k hk).2 i j).1 hb).1
 refine⟨hT0,hf.wd,sT',fun k hk i j hb=>?_,fun p hp hb i hi=>?_,fun p hp s hb i j he=>?_,fun p hp s t hb i k j h1 h2=>?_⟩
 ·obtain⟨p,hp,s,t,hbd,rfl,u,hu⟩:=(hf.mem k i j).1 hb;obtain⟨⟨s0,s1⟩,t0,t1⟩:=(hs p hp).two s t hbd;rw[(ea p hp).1];have es:((s.at_.toNat:Nat):Int)=s.at_:=Int.toNat_of_nonneg s0;have et:((t.at_.toNat:Nat):Int)=t.at_:=Int.toNat_of_nonneg t0;have key:gR P El n s.at_ i u∧gR P El n t.at_ u j:=by
   rcases hu with ⟨a,b⟩|⟨a,b⟩
   ·have a:=sN _ (by omega) _ _ a;have b:=sT' _ (by omega) _ _ b;rw[es] at a;rw[et] at b;exact⟨a,b⟩
   ·have a:=sT' _ (by omega) _ _ a;have b:=sN _ (by omega) _ _ b;rw[es] at a;rw[et] at b;exact⟨a,b⟩
  obtain⟨hd,bd⟩:=p;subst hbd;exact .two hp key.1 key.2
 ·exact .inl (((hT _ (ea p hp).2).2 i i).2 (h.eps p hp hb i hi))
 ·exact .inl (((hT _ (ea p hp).2).2 i j).2 (h.one p hp s hb i j he))
 ·obtain⟨⟨s0,s1⟩,t0,t1⟩:=(hs p hp).two s t hb;have q1:aY (T s.at_.toNat) i k=true∨aY (N s.at_.toNat) i k=true:=by
   rcases ((hT _ (by omega:s.at_.toNat<nts)).2 i k).1 h1 with h|h3
   ·exact .inl h
   ·cases e:aY (T s.at_.toNat) i k with
    | true=>exact .inl rfl
    | false=>exact .inr (((hN _ (by omega)).2 i k).2 ⟨h3,e⟩)
  have q2:aY (T t.at_.toNat) k j=true∨aY (N t.at_.toNat) k j=true:=by
   rcases ((hT _ (by omega:t.at_.toNat<nts)).2 k j).1 h2 with h|h3
   ·exact .inl h
   ·cases e:aY (T t.at_.toNat) k j with
    | true=>exact .inl rfl
    | false=>exact .inr (((hN _ (by omega)).2 k j).2 ⟨h3,e⟩)
  rcases q1 with q1|q1
  ·rcases q2 with q2|q2
   ·exact .inl (((hT _ (ea p hp).2).2 i j).2 (h.two p hp s t hb i k j q1 q2))
   ·exact .inr ((hf.mem _ i j).2 ⟨p,hp,s,t,hb,rfl,k,.inr ⟨h1,q2⟩⟩)
  ·exact .inr ((hf.mem _ i j).2 ⟨p,hp,s,t,hb,rfl,k,.inl ⟨q1,h2⟩⟩)
theorem DlI.done(h:DlI P El n nts T f)(hs:∀q∈P,xS nts q)(hN:∀k,k<nts→∀i j,aY (f k) i j=true→aY (T k) i j=true){k:Nat}(hk:k<nts){i j:Nat}:aY (T k) i j=true↔gR P El n (k:Int) i j:=by
 refine⟨h.sT k hk i j,fun d=>?_⟩;have ea:∀a l,(⟨a,l⟩:Pr)∈P→a.toNat<nts:=fun a l hq=>by
  have h0:=(hs _ hq).h0;have h1:=(hs _ hq).h1;dsimp only at h0 h1
  omega
 have hc:qZ P El n (fun a i j=>aY (T a.toNat) i j=true):=
  ⟨fun a i hp hi=>(h.eps _ hp rfl i hi).elim id (hN _ (ea a _ hp) i i),fun a s i j hp he=>(h.one _ hp s rfl i j he).elim id (hN _ (ea a _ hp) i j),fun a s t i k j hp h1 h2=>(h.two _ hp s t rfl i k j h1 h2).elim id (hN _ (ea a _ hp) i j)⟩
 have:=hc.least d;rwa [Int.toNat_natCast] at this
theorem DlI.start{El0:Int→Nat→Nat→Prop}{n0:Nat}(hs:∀q∈P,xS nts q)(hT:∀k,WdO (T k))(hf:∀k,WdO (f k))(hd:∀k,k<nts→∀i j,aY (T k) i j=true↔gR P El0 n0 (k:Int) i j)(hE:∀k i j,El0 k i j→El k i j)(hn:n0≤n)
  (he:∀p∈P,p.body=[]→∀i,n0≤i→i<n→aY (f p.head.toNat) i i=true) (ho:∀p∈P,∀s,p.body=[s]→∀i j,El s.at_ i j→¬El0 s.at_ i j→aY (f p.head.toNat) i j=true)
  (hF:∀k,k<nts→∀i j,aY (f k) i j=true→gR P El n (k:Int) i j):DlI P El n nts T f:=by
 have ea:∀q∈P,((q.head.toNat:Nat):Int)=q.head∧q.head.toNat<nts:=fun q hq=>by
  have h0:=(hs q hq).h0;have h1:=(hs q hq).h1;exact⟨Int.toNat_of_nonneg h0,by omega⟩
 refine⟨hT,hf,fun k hk i j hb=>((hd k hk i j).1 hb).mono (fun _ h=>h) hE hn,hF,fun p hp hb i hi=>?_,fun p hp s hb i j he'=>?_,fun p hp s t hb i k j h1 h2=>?_⟩
 ·rcases Nat.lt_or_ge i n0 with h|h
  ·refine .inl ((hd _ (ea p hp).2 i i).2 ?_);rw[(ea p hp).1];obtain⟨hd',bd⟩:=p;subst hb;exact .eps hp h
  ·exact .inr (he p hp hb i h hi)
 ·by_cases h:El0 s.at_ i j
  ·refine .inl ((hd _ (ea p hp).2 i j).2 ?_);rw[(ea p hp).1];obtain⟨hd',bd⟩:=p;subst hb;exact .one hp h
  ·exact .inr (ho p hp s hb i j he' h)
 ·obtain⟨⟨s0,s1⟩,t0,t1⟩:=(hs p hp).two s t hb;refine .inl ((hd _ (ea p hp).2 i j).2 ?_);have d1:=(hd _ (by omega:s.at_.toNat<nts) _ _).1 h1;have d2:=(hd _ (by omega:t.at_.toNat<nts) _ _).1 h2;rw[Int.toNat_of_nonneg s0] at d1;rw[Int.toNat_of_nonneg t0] at d2;rw[(ea p hp).1];obtain⟨hd',bd⟩:=p;subst hb;exact .two hp d1 d2
end
def ltF(a b:Nat × Nat × Nat):Prop:=a.1<b.1∨a.1=b.1∧ltC a.2 b.2
structure iB(nts:Nat)(T0 T:aX)(G:List (Nat × Nat × Nat)):Prop where
 nd:G.Nodup
 mem:∀x,x∈G↔x.1<nts∧aY (T x.1) x.2.1 x.2.2=true∧aY (T0 x.1) x.2.1 x.2.2=false
theorem iB.start(nts:Nat)(T:aX):iB nts T T []:=⟨List.nodup_nil,fun x=>by
 constructor
 ·intro h;cases h
 ·rintro⟨-,h1,h2⟩;rw[h1] at h2;cases h2⟩
theorem iB.step{nts:Nat}{T0 T:aX}{G:List (Nat × Nat × Nat)}{k:Nat}{f N:Option (List Nat)}(h:iB nts T0 T G)(hsub:∀a i j,aY (T0 a) i j=true→aY (T a) i j=true)(hk:k<nts)(hT:WdO (T k))(hN:zJ f (T k) N) :
  iB nts T0 (upM T k (joinQ (T k) N)) (G++(qcL N).map (fun y=>(k,y)))∧∀a i j,aY (T0 a) i j=true→aY (upM T k (joinQ (T k) N) a) i j=true:=by
 have hw:Wd (bX N):=hN.1.old;have hj:=(kQ.joinQ hT hN.1).2;have hmem:∀y:Nat × Nat,y∈qcL N↔aY N y.1 y.2=true:=fun y=>by
  obtain⟨i,j⟩:=y;rw[sU hw];exact⟨fun h=>h.2.2,fun h=>⟨cM hN.1 h,fP hN.1 h,h⟩⟩
 have hold:∀i j,aY N i j=true→aY (T k) i j=false:=fun i j hb=>((hN.2 i j).1 hb).2
 refine⟨⟨?_,fun x=>?_⟩,fun a i j hb=>?_⟩
 ·rw[List.nodup_append];refine⟨h.nd,pR (uY N) (fun a _ b _ e=>by injection e),fun a ha b hb e=>?_⟩;subst e;obtain⟨y,hy,rfl⟩:=List.mem_map.1 hb;have h1:=((h.mem _).1 ha).2.1;have h2:=hold _ _ ((hmem y).1 hy);dsimp only at h1
  rw[h1] at h2;cases h2
 ·obtain⟨a,i,j⟩:=x;rw[List.mem_append,h.mem,List.mem_map];dsimp only
  by_cases e:a=k
  ·subst e;rw[cP,hj];constructor
   ·rintro (⟨h1,h2,h3⟩|⟨y,hy,e⟩)
    ·exact⟨h1,.inl h2,h3⟩
    ·injection e with _ e;subst e;have hy':=(hmem (i,j)).1 hy;refine⟨hk,.inr hy',?_⟩;cases h0:aY (T0 a) i j with
     | false=>rfl
     | true =>
      have:=hold _ _ hy';rw[hsub _ _ _ h0] at this;cases this
   ·rintro⟨h1,h2|h2,h3⟩
    ·exact .inl ⟨h1,h2,h3⟩
    ·exact .inr ⟨(i,j),(hmem (i,j)).2 h2,rfl⟩
  ·rw[dD T _ e];constructor
   ·rintro (h1|⟨y,_,e2⟩)
    ·exact h1
    ·injection e2 with e2 _;exact(e e2.symm).elim
   ·exact .inl
 ·by_cases e:a=k
  ·subst e;rw[cP,hj];exact .inl (hsub _ _ _ hb)
  ·rw[dD T _ e];exact hsub _ _ _ hb
instance (a b:Nat × Nat × Nat):Decidable (ltF a b):=by unfold ltF ltC;exact inferInstance
def GY(a b:Nat × Nat × Nat):Bool:=decide (ltF a b)
theorem nX{a b:Nat × Nat × Nat}:GY a b=true↔ltF a b:=by unfold GY;exact decide_eq_true_iff
theorem SS:Sto GY where
 irr:=fun a=>by
  refine decide_eq_false ?_;unfold ltF ltC;omega
 tr:=fun a b c h k=>by
  rw[nX] at h k ⊢;unfold ltF ltC at h k ⊢;omega
 tri:=fun a b h k=>by
  have h':¬ltF a b:=fun e=>by rw[nX.2 e] at h;cases h
  have k':¬ltF b a:=fun e=>by rw[nX.2 e] at k;cases k
  unfold ltF ltC at h' k';obtain⟨a1,a2,a3⟩:=a;obtain⟨b1,b2,b3⟩:=b;dsimp only at h' k'
  have e1:a1=b1:=by omega
  have e2:a2=b2:=by omega
  have e3:a3=b3:=by omega
  rw[e1,e2,e3]
end Go.Proofs.YtnokckdkaifibaaGreatDoor
