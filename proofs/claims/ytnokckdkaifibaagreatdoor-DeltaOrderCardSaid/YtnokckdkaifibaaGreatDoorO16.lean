/- delta: grow. (Written by mkDlT.py.); delta: what a new edge brings (AddEdge's second function); delta: what comes to a kept closure (plain law; its parts in memory); delta: a node comes (come, AddNode). (Written by mkDlW.py.); delta: an edge comes (come, AddEdge). (Written by mkDlW.py.). -/
import Derived.Deep.LoopGhost
import Derived.Test.YtnokckdkaifibaaGreatDoorO15
import Derived.Test.YtnokckdkaifibaaGreatDoorO14
set_option linter.unusedVariables false
set_option linter.unusedSimpArgs false
set_option maxHeartbeats 16000000
set_option maxRecDepth 100000
namespace Go.Proofs.YtnokckdkaifibaaGreatDoor
open Go.RowKit Go.Shelf
attribute [local go_sem] Oper.semAt_some
theorem iB.perm{nts:Nat}{T0 T:aX}{G G':List (Nat × Nat × Nat)}(h:iB nts T0 T G)(hp:G'.Perm G):iB nts T0 T G':=⟨hp.nodup_iff.2 h.nd,fun x=>(hp.mem_iff).trans (h.mem x)⟩
structure GrH(w:World)(K FT FN:Nat→Prop)(p nts pc cl pg:Nat)(PA LA:Option Addr)(PV:List Pv)(labels:List Txt)(mv vn:Value)(T f:aX)(El:Int→Nat→Nat→Prop)(n:Nat):Prop where
 hP:DcP w K p nts PA pc PV LA cl labels pg mv
 hT:MtS w FT mv 32 nts T
 hN:MtS w FN vn 32 nts f
 kt:∀k,K k→¬FT k
 kn:∀k,K k→¬FN k
 tn:∀k,FT k→¬FN k
 g:∀x∈PV,xS nts x.pr
 d:DlI (PV.map (·.pr)) El n nts T f
 el:∀k i j,El k i j→i<n∧j<n
 n32:n≤32
 tab:gI w
 nt:¬FT 1
 nn:¬FN 1
def GrQ(w:World)(FT FN:Nat→Prop)(nts:Nat)(mv:Value)(P:List Pr)(El:Int→Nat→Nat→Prop)(n:Nat)(T:aX)(v:Value)(w':World):Prop:=∃A c G T' FT',v=.slice A G.length c∧w'.ownsRow w.heap.size 25 3 (.slice A G.length c) G.length (cR G)∧MtS w' FT' mv 32 nts T'∧Upd (fun k=>FT k∨FN k) w w'∧(∀k,FT' k→FT k∨w.heap.size≤k) ∧
 (∀q,(Value.slice A G.length c).ownBlock=some q→¬FT' q)∧iB nts T T' G∧G.Pairwise ltF∧(∀k,WdO (T' k))∧(∀k,k<nts→∀i j,aY (T' k) i j=true↔gR P El n (k:Int) i j)
def GrO(w wr:World)(FT0 FN0:Nat→Prop)(nts gb:Nat)(mv vn:Value)(P:List Pr)(El:Int→Nat→Nat→Prop)(n:Nat)(T0:aX)(Ds:List Nat)(g:Nat):Prop:=∃T f L v FT FN,GwS w wr FT0 FN0 nts gb mv vn T f L v Ds FT FN∧DlI P El n nts T f∧iB nts T0 T L∧(∀a i j,aY (T0 a) i j=true→aY (T a) i j=true)∧qB T nts<g
def GrR(w wr:World)(FT0 FN0:Nat→Prop)(nts gb sb:Nat)(mv vn:Value)(T0 T f:aX)(L:List (Nat × Nat × Nat))(Ds:List Nat)(k:Nat):Prop:=∃v b FT FN,GwS w wr FT0 FN0 nts gb mv vn (stT T f k) (stN T f k) (L++iE (lsM T f) k) v Ds FT FN∧SbI w wr sb gb b v FT FN∧GwP nts T0 T f L k b
def GwC(W4:World)(base gb sb k:Nat)(L:List (Nat × Nat × Nat))(b:Bool)(pre:List {x:Nat × Nat // x.1<64∧x.2<64})(V:World):Prop:=(∃v,GnI V base gb sb (L++(pre.map (·.1)).map (fun y=>(k,y))) v (b||!pre.isEmpty))∧KpM gb (fun q=>q=gb∨q=sb) W4 V
theorem GwC.own{W4:World}{base gb sb k:Nat}{L:List (Nat × Nat × Nat)}{b:Bool}(hl:gb<W4.heap.size)(r:RgM gb W4):jN gb (fun q=>q=gb∨q=sb) W4.heap.size (GwC W4 base gb sb k L b):=by
 rintro s X Y row ⟨⟨v,h⟩,hk⟩ hg hr;exact⟨⟨v,h.grown (F:=fun q=>q=gb∨q=sb) (.inl rfl) (.inr rfl) hg (fun k hk=>(hr k hk).2)⟩,kI (β:=Unit) (Nat.le_refl _) hl r () X Y row hk hg hr⟩
theorem RgM.ls{W:World}{base lb:Nat}{L:List (Nat × Nat × Nat)}{v:Value}(h:LsB W base lb L v){Own:Nat→Prop}(ho:∀q,v.ownBlock=some q→¬Own q):∀u q,W.cell? ⟨lb,0,none⟩=some u→u.ownBlock=some q→¬Own q:=fun u q hu hq=>by
 obtain rfl:=h.is hu;exact ho q hq
theorem MO{gq:Nat}{b:Option (List Nat)}{A4:Option Addr}{n4 c4 z:Nat}{W:World}(hch:vG W z A4 n4 c4 b)(hg:z≤gq){q:Nat}(ho:FF gq b (.slice A4 n4 c4) q):q=1∨z≤q:=by
 rcases ho with rfl|rfl|⟨hs,hq⟩
 ·exact .inl rfl
 ·exact .inr hg
 ·exact .inr (hch.own hs hq).1
theorem GwS.tab{w W:World}{FT0 FN0 FT FN:Nat→Prop}{nts gb:Nat}{mv vn:Value}{T N:aX}{L:List (Nat × Nat × Nat)}{v:Value}{Ds:List Nat}(h:GwS w W FT0 FN0 nts gb mv vn T N L v Ds FT FN)(ht:gI w)(nt:¬FT0 1)(nn:¬FN0 1):gI W:=ht.upd h.u ht.lt (fun e=>e.elim nt nn)
def GrE(w w1:World)(FT0 FN0 FT:Nat→Prop)(nts gb:Nat)(mv:Value)(T:aX)(A9:Option Addr)(c9:Nat)(M:List (Nat × Nat × Nat)):Prop:=Blk w1 gb 35 #[.slice A9 M.length c9]∧w1.ownsRow w.heap.size 25 3 (.slice A9 M.length c9) M.length (cR M)∧MtS w1 FT mv 32 nts T∧Upd (fun k=>FT0 k∨FN0 k) w w1
theorem GrE.own{w:World}{FT0 FN0 FT:Nat→Prop}{nts gb:Nat}{mv:Value}{T:aX}{A9:Option Addr}{c9:Nat}{M:List (Nat × Nat × Nat)}(hg:gb=w.heap.size):jN gb FT (w.heap.size+1) (fun (_:Unit) w1=>GrE w w1 FT0 FN0 FT nts gb mv T A9 c9 M):=by
 rintro s X Y row ⟨h1,h2,h3,h4⟩ hgr hr;have hu:=Upd.of_grown hgr;have n1:∀r,row=some r→r≠gb∧(Value.slice A9 M.length c9).ownBlock≠some r∧¬FT r:=fun r e=>by
  obtain⟨a,b⟩:=hr r e;exact⟨by omega,fun ho=>b.2 (.inr ⟨_,h1.cell 0,ho⟩),fun hf=>b.2 (.inl hf)⟩
 exact⟨h1.grown hgr (fun e=>(n1 gb e.symm).1 rfl),iO h2 hgr (fun q hq e=>(n1 q e).2.1 hq),h3.upd hu (fun q hq e=>(n1 q e).2.2 hq),h4.grown hgr (fun r e=>.inr (by have:=(hr r e).1;omega))⟩
theorem wD(w:World)(K FT0 FN0:Nat→Prop)(p nts pc cl pg:Nat)(PA LA:Option Addr)(PV:List Pv)(labels:List Txt)(mv vn0:Value)(T0 f0:aX)(El:Int→Nat→Nat→Prop)(n:Nat)(h:GrH w K FT0 FN0 p nts pc cl pg PA LA PV labels mv vn0 T0 f0 El n)(h1:1≤nts)(h5:nts≤512)(hm:PV.length≤140737488355328) :
  Calls Tryz.prog 40 #[.pointer (some ⟨p,0,none⟩),vn0] w (fun e w'=>∃v,e=.returned v∧GrQ w FT0 FN0 nts mv (PV.map (·.pr)) El n T0 v w'):=by
 have kg:=Blk.new w 35 #[.slice none 0 0];have b1:Below w.heap.size w (w.alloc (.cells #[.slice none 0 0] 35)):=bR.alloc (Nat.le_refl _) _;have hz1:(w.alloc (.cells #[.slice none 0 0] 35)).heap.size=w.heap.size+1:=by simp
 have hTl:=h.hT.lt;have hNl:=h.hN.lt;have i0:GwS w (w.alloc (.cells #[.slice none 0 0] 35)) FT0 FN0 nts w.heap.size mv vn0 T0 f0 [] (.slice none 0 0) [] FT0 FN0:=
  ⟨h.hT.below b1,h.hN.below b1,Upd.of_below b1 _,fun _ h=>.inl h,fun _ h=>.inl h,h.tn,fun e=>Nat.lt_irrefl _ (hTl _ e),fun e=>Nat.lt_irrefl _ (hNl _ e),⟨kg,World.ownsRow_nil _ _ _ _,by simp[Value.ownBlock]⟩,fun q hq=>by simp[Value.ownBlock] at hq,Nat.le_refl _,List.nodup_nil,fun D hD=>by cases hD⟩
 have HI0:=hIz (show GrO w (w.alloc (.cells #[.slice none 0 0] 35)) FT0 FN0 nts w.heap.size mv vn0 (PV.map (·.pr)) El n T0 [] (qB T0 nts+1) from⟨T0,f0,[],_,FT0,FN0,i0,h.d,iB.start nts T0,fun _ _ _ h=>h,Nat.lt_succ_self _⟩);have H:=hIz h;obtain⟨m,hmm⟩:∃m,PV.length=m:=⟨_,rfl⟩;obtain⟨P,hPP⟩:∃P,PV.map (·.pr)=P:=⟨_,rfl⟩;rw[hPP] at HI0 ⊢;have HP:=hIz hPP;clear kg b1 hTl hNl i0 h hPP;refine(callsIn_wide (n:=1)).1 ?_;refine callsIn_of_wp_marks Tryz.func40 rfl trivial ?_ rfl;simp only[Tryz.ntmps40,List.size_toArray,List.length_cons,List.length_nil,Nat.reduceAdd,Nat.reduceSub,Array.replicate_succ,Array.replicate_zero,List.push_toArray,List.append_toArray,List.nil_append,List.cons_append]
 refine wpIn_wide.2 ?_;go_wp2;obtain⟨gb,hgb⟩:∃gb,w.heap.size=gb:=⟨_,rfl⟩;have HG:=aI2 hgb (hgb ▸ hz1);generalize w.alloc (.cells #[.slice none 0 0] 35)=W1 at HI0 HG ⊢;rw[hgb] at HI0 ⊢;clear hgb hz1;refine wp_loop_ghost_k (fun g a wr=>∃(vn:Value) (Ds:List Nat) (u2 u3 u6 u7 u8 u9 u10 u11 u12 u13 u14 u15 u16 u17 u18 u19 u20 u21 u22 u23 u24 u25 u26 u27 u28 u29 u30 u31 u32 u33 u34 u35 u36 u37 u38 u39 u40 u41 u42 u43 u44 u45 u46 u47 u48 u49 u50 u51 u52 u53 u54 u55 u56 u57 u58 u59 u60 u61 u62 u63 u64 u65 u66 u67:Value),a=⟨#[.pointer (some ⟨p,0,none⟩),vn,u2,u3,.slice none 0 0,.pointer (some ⟨gb,0,none⟩),u6,u7,u8,u9,u10,u11,u12,u13,u14,u15,u16,u17,u18,u19,u20,u21,u22,u23,u24,u25,u26,u27,u28,u29,u30,u31,u32,u33,u34,u35,u36,u37,u38,u39,u40,u41,u42,u43,u44,u45,u46,u47,u48,u49,u50,u51,u52,u53,u54,u55,u56,u57,u58,u59,u60,u61,u62,u63,u64,u65,u66,u67],Ds.map (fun D=>{ target:=.collected D,args:=#[] })⟩∧Hid (GrO w wr FT0 FN0 nts gb mv vn P El n T0 Ds g)) (qB T0 nts+1) ⟨vn0,[],_,_,_,_,_,_,_,_,_,_,_,_,_,_,_,_,_,_,_,_,_,_,_,_,_,_,_,_,_,_,_,_,_,_,_,_,_,_,_,_,_,_,_,_,_,_,_,_,_,_,_,_,_,_,_,_,_,_,_,_,_,_,_,_,rfl,HI0⟩ ?_;clear HI0;rintro g a wr ⟨vn,Ds,u2,u3,u6,u7,u8,u9,u10,u11,u12,u13,u14,u15,u16,u17,u18,u19,u20,u21,u22,u23,u24,u25,u26,u27,u28,u29,u30,u31,u32,u33,u34,u35,u36,u37,u38,u39,u40,u41,u42,u43,u44,u45,u46,u47,u48,u49,u50,u51,u52,u53,u54,u55,u56,u57,u58,u59,u60,u61,u62,u63,u64,u65,u66,u67,rfl,hO⟩ J KK hJ hKK;obtain⟨T,f,L,v,FT,FN,hS,hD,hGn,hsub,hms⟩:=hO.out;obtain⟨A,c,rfl⟩:=hS.mn.form;have ks:=Blk.new wr 4 #[.bool false]
 have bs:Below wr.heap.size wr (wr.alloc (.cells #[.bool false] 4)):=bR.alloc (Nat.le_refl _) _;have hTl:=hS.mt.lt;have hNl:=hS.mn.lt;have hgl:=hS.l.b.lt;have hwl:=hS.u.size;have hRR:GrR w (wr.alloc (.cells #[.bool false] 4)) FT0 FN0 nts gb wr.heap.size mv (.slice A nts c) T0 T f L Ds 0:=by
  refine⟨v,false,FT,FN,?_,⟨ks,fun e=>Nat.lt_irrefl _ (hTl _ e),fun e=>Nat.lt_irrefl _ (hNl _ e),fun e=>Nat.lt_irrefl _ (hS.l.own.lt _ e).2,by omega,hwl⟩,GwP.start hGn hsub⟩;rw[tQ,MK,show L++iE (lsM T f) 0=L from List.append_nil L];exact hS.below bs
 have HR:=hIz hRR;have HX:=aI2 hD hms;clear ks bs hTl hNl hgl hwl hRR hD hms hO hS hGn hsub;go_wp2;generalize hsb:wr.heap.size=sb at HR ⊢;generalize wr.alloc (.cells #[.bool false] 4)=W2 at HR ⊢;clear hsb;refine wp_loop_ghost_k (fun g2 a W=>∃(k:Nat) (Ds:List Nat) (u2 u3 u7 u8 u9 u10 u14 u15 u16 u17 u18 u19 u20 u21 u22 u23 u24 u25 u26 u27 u28 u29 u30 u31 u32 u33 u34 u35 u36 u37 u38 u39 u40 u41 u42 u43 u44 u45 u46 u47 u48 u49 u50 u51 u52 u53 u54 u55 u56 u57 u58 u59 u60 u61 u62 u63 u64 u65 u66 u67:Value),a=⟨#[.pointer (some ⟨p,0,none⟩),.slice A nts c,u2,u3,.slice none 0 0,.pointer (some ⟨gb,0,none⟩),.pointer (some ⟨sb,0,none⟩),u7,u8,u9,u10,.slice A nts c,.int .i64 (nts:Int),.int .i64 (k:Int),u14,u15,u16,u17,u18,u19,u20,u21,u22,u23,u24,u25,u26,u27,u28,u29,u30,u31,u32,u33,u34,u35,u36,u37,u38,u39,u40,u41,u42,u43,u44,u45,u46,u47,u48,u49,u50,u51,u52,u53,u54,u55,u56,u57,u58,u59,u60,u61,u62,u63,u64,u65,u66,u67],Ds.map (fun D=>{ target:=.collected D,args:=#[] })⟩∧k+g2=nts∧Hid (GrR w W FT0 FN0 nts gb sb mv (.slice A nts c) T0 T f L Ds k)) nts ⟨0,Ds,_,_,_,_,_,_,_,_,_,_,_,_,_,_,_,_,_,_,_,_,_,_,_,_,_,_,_,_,_,_,_,_,_,_,_,_,_,_,_,_,_,_,_,_,_,_,_,_,_,_,_,_,_,_,_,_,_,_,_,_,rfl,Nat.zero_add _,HR⟩ ?_;clear HR;clear u2 u3 u6 u7 u8 u9 u10 u11 u12 u13 u14 u15 u16 u17 u18 u19 u20 u21 u22 u23 u24 u25 u26 u27 u28 u29 u30 u31 u32 u33 u34 u35 u36 u37 u38 u39 u40 u41 u42 u43 u44 u45 u46 u47 u48 u49 u50 u51 u52 u53 u54 u55 u56 u57 u58 u59 u60 u61 u62 u63 u64 u65 u66 u67;rintro g2 a Wr ⟨k,Ds,u2,u3,u7,u8,u9,u10,u14,u15,u16,u17,u18,u19,u20,u21,u22,u23,u24,u25,u26,u27,u28,u29,u30,u31,u32,u33,u34,u35,u36,u37,u38,u39,u40,u41,u42,u43,u44,u45,u46,u47,u48,u49,u50,u51,u52,u53,u54,u55,u56,u57,u58,u59,u60,u61,u62,u63,u64,u65,u66,u67,rfl,hkg,hR⟩ J2 K2 hJ2 hK2
 obtain⟨v,b,FT,FN,hS,hB,hP⟩:=hR.out;clear hR;by_cases hlt:k<nts
 ·have hltI:(k:Int)<(nts:Int):=by omega
  have hkw:IntKind.i64.wrap ((k:Int)+1)=(k:Int)+1:=IntWalk.i64_in _ (by omega);obtain⟨gN,cN,qN,FqN,e,cN0,-,-,-,-,-⟩:=hS.mn.at_ hlt;injection e with e1 e2 e3;subst e1;subst e3;have k7:=Blk.new Wr 3 #[.int .i64 (k:Int)];have b7:Below Wr.heap.size Wr (Wr.alloc (.cells #[.int .i64 (k:Int)] 3)):=bR.alloc (Nat.le_refl _) _;have bd:Below Wr.heap.size Wr (Wr.alloc (.cells #[.int .i64 (k:Int)] 3)).drew:=b7.drew;have hz7:Wr.heap.size<(Wr.alloc (.cells #[.int .i64 (k:Int)] 3)).drew.heap.size:=by simp
  have HA:=aI6 (hS.below bd) (show SbI w (Wr.alloc (.cells #[.int .i64 (k:Int)] 3)).drew sb gb b v FT FN from⟨hB.k.upd (upF bd) id,hB.t,hB.n,hB.r,hB.d,hB.w0⟩) (k7.upd (Upd.refl (fun _=>False) _).drew id) (show ¬FT Wr.heap.size∧¬FN Wr.heap.size∧v.ownBlock≠some Wr.heap.size∧Wr.heap.size≠gb∧Wr.heap.size≠sb∧w.heap.size≤Wr.heap.size from
   ⟨fun e=>Nat.lt_irrefl _ (hS.mt.lt _ e),fun e=>Nat.lt_irrefl _ (hS.mn.lt _ e),fun e=>Nat.lt_irrefl _ (hS.l.own.lt _ e).2,by have:=hS.l.b.lt;omega,by have:=hB.k.lt;omega,hS.u.size⟩) hz7 hP
  have HQ:=hIz (aS bd cN0);clear k7 b7 bd hz7 hP hS hB;go_upto_region 6 with (fail);clear cN0;generalize hkb:Wr.heap.size=kb at HA HQ ⊢;generalize (Wr.alloc (.cells #[.int .i64 (k:Int)] 3))=W7 at HA HQ ⊢;clear hkb;-- Less
  obtain⟨hS,hB,h7,hn7,hl7,hP⟩:=HA.out;obtain⟨gN',cN',qN',FqN,e,cN1,-,hqN,-,-,-⟩:=hS.mn.at_ hlt;injection e with e1 e2 e3;injection e1 with e1;injection e1 with e1;subst e1;subst e3;obtain rfl:qN=qN':=by
   have e:=HQ.out.symm.trans cN1;simpa using e
  clear HQ;obtain⟨gT,cT,qT,FqT,hmv,cT1,-,hqT,-,-,hgT⟩:=hS.mt.at_ hlt;have HgT:=hIz hgT;clear hgT;rw[TB] at hqN;rw[wB] at hqT;have c4:W7.drew.cell? ⟨p,4,none⟩=some mv:=(H.out.hP.upd hS.u (fun k hk e=>e.elim (H.out.kt k hk) (H.out.kn k hk))).blk.cell 4;have c7:W7.drew.cell? ⟨kb,0,none⟩=some (.int .i64 (k:Int)):=h7.cell 0;have hless:=GW W7.drew FqN FqT qN qT 32 (f k) (T k) hqN hqT;have HC:=hIz (show ∀V,Upd (fun q=>FT q∨FN q) W7.drew V→V.cell? ⟨kb,0,none⟩=some (.int .i64 (k:Int))∧V.cell? ⟨p,4,none⟩=some mv from fun V hu=>⟨(h7.upd hu (fun e=>e.elim hn7.1 hn7.2.1)).cell 0,(hu.cell (p:=⟨p,4,none⟩) (World.block_lt_of_cell? _ _ c4) (fun e=>by
   have hp:=H.out.hP.kp;have hlp:=H.out.hP.blk.lt;have e:FT p∨FN p:=e;rcases e with e|e
   ·exact(hS.ft p e).elim (H.out.kt _ hp) (fun h=>by omega)
   ·exact(hS.fn p e).elim (H.out.kn _ hp) (fun h=>by omega))).trans c4⟩)
  clear hS hB h7 hn7 hl7 hP hqN hqT cN1;rw[hmv] at c4;refine fD ?_;refine aP (fun V:World=>V.cell? ⟨kb,0,none⟩=some (.int .i64 (k:Int))∧V.cell? ⟨p,4,none⟩=some (.slice (some ⟨gT,0,none⟩) nts cT)∧V.cell? ⟨gT,k,none⟩=some (.pointer (some ⟨qT,0,none⟩))) 16 [(0,true),(1,true),(2,true),(3,true),(4,true),(5,true),(6,true),(7,true),(8,true),(9,true),(10,false),(11,true),(12,true),(13,true),(14,true),(15,false)] (by kernel_rfl) (by kernel_rfl) (fun _ _ _ _ _ h=>h.elim) ⟨c7,c4,cT1⟩ ?_;have C1:=hIz cT1;clear c7 c4 cT1;generalize W7.drew=V1 at HA HC hless C1 ⊢
  iterate 10 refine aD rfl ?_
  refine aK rfl rfl (fun K hK=>?_);go_simp;refine hless.mono ?_;clear hless;rintro e V2 ⟨pm,rfl,hfr,bb⟩;obtain⟨g',c',v0,FN',e,c0,fz,hgN,hS3,hF3⟩:=HA.out.1.put bb hfr hlt;injection e with e1 e2 e3;injection e1 with e1;injection e1 with e1;subst e1;subst e3;have hu2:=Upd.of_below bb (fun q=>FT q∨FN q);have hS2:V2.cell? ⟨kb,0,none⟩=some (.int .i64 (k:Int))∧V2.cell? ⟨p,4,none⟩=some (.slice (some ⟨gT,0,none⟩) nts cT)∧V2.cell? ⟨gT,k,none⟩=some (.pointer (some ⟨qT,0,none⟩)):=⟨(HC.out V2 hu2).1,by rw[(HC.out V2 hu2).2,hmv],aS bb C1.out⟩;have hu3:Upd (fun q=>FT q∨FN q) V1 (V2.setCell ⟨gN,k,none⟩ (.pointer (some ⟨pm,0,none⟩))):=hu2.trans ((Upd.refl (fun x=>x=gN) V2).setCell (p:=⟨gN,k,none⟩) (.inl rfl) _) (fun i e=>.inl (.inr (e ▸ hgN)));have hS3c:(V2.setCell ⟨gN,k,none⟩ (.pointer (some ⟨pm,0,none⟩))).cell? ⟨kb,0,none⟩=some (.int .i64 (k:Int))∧(V2.setCell ⟨gN,k,none⟩ (.pointer (some ⟨pm,0,none⟩))).cell? ⟨p,4,none⟩=some (.slice (some ⟨gT,0,none⟩) nts cT)∧(V2.setCell ⟨gN,k,none⟩ (.pointer (some ⟨pm,0,none⟩))).cell? ⟨gT,k,none⟩=some (.pointer (some ⟨qT,0,none⟩)):=
   ⟨(HC.out _ hu3).1,by rw[(HC.out _ hu3).2,hmv],(((Upd.refl (fun x=>x=gN) V2).setCell (p:=⟨gN,k,none⟩) (.inl rfl) (.pointer (some ⟨pm,0,none⟩))).cell (p:=⟨gT,k,none⟩) (World.block_lt_of_cell? _ _ hS2.2.2) (fun e=>HA.out.1.tn gT HgT.out (by rw[show gT=gN from e];exact hgN))).trans hS2.2.2⟩
  have HS3C:=hIz hS3c;rw[ML] at hS3;have H3:=aI3 hS3 hF3 hu3;clear hS3 hF3 hu3 hu2 bb hfr hgN hS3c;refine hK _ _ (fun _=>hS2) ?_;clear hK K C1;(try simp only[Act.put,gA,gS,gZ,sA,sZ,sS])
  iterate 4 refine aD rfl ?_
  refine aK rfl rfl (fun K hK=>?_);obtain⟨r0,r1,r2⟩:=hS2;go_simp;refine hK _ _ (fun _=>HS3C.out) ?_;clear hK K r0 r1 r2 c0 fz HS3C;(try simp only[Act.put,gA,gS,gZ,sA,sZ,sS])
  refine aJ ?_;dsimp only [cE]
  generalize V2.setCell ⟨gN,k,none⟩ (.pointer (some ⟨pm,0,none⟩))=V3 at H3 ⊢;-- Cells
  obtain⟨hS3,hF3,hu3⟩:=H3.out;obtain⟨-,hB,h7,hn7,hl7,hP⟩:=HA.out;have hn7':¬FN' kb:=fun e=>(hF3 kb e).elim hn7.2.1 (fun h=>by omega)
  have hsb':¬FN' sb:=fun e=>(hF3 sb e).elim hB.n (fun h=>by have:=hB.k.lt;omega)
  have h73:=h7.upd hu3 (fun e=>e.elim hn7.1 hn7.2.1);have hB3:=hB.k.upd hu3 (fun e=>e.elim hB.t hB.n);obtain⟨g',c',q3,Fq3,e,c3,-,hq3,-,-,-⟩:=hS3.mn.at_ hlt;injection e with e1 e2 e3;injection e1 with e1;injection e1 with e1;subst e1;subst e3;have c7:V3.cell? ⟨kb,0,none⟩=some (.int .i64 (k:Int)):=h73.cell 0;rw[show stN T f (k+1) k=lsM T f k from if_pos (Nat.lt_succ_self k)] at hq3;have hwq:=hq3.wd;have hcon:=pB V3 Fq3 q3 32 (lsM T f k) hq3;have HD:=aI5 hn7' hsb' h73 hB3 hwq;clear hS3 hF3 hu3 hB h7 hn7 hl7 hP hn7' hsb' h73 hB3 hwq hq3;go_wp2_with fail;refine hcon.mono ?_;clear hcon c3 c7;rintro e V4 ⟨gq,A4,n4,c4,hgq,rfl,kq,b4,hch⟩;obtain⟨hn7',hsb',h73,hB3,hwq⟩:=HD.out;have hS4:=H3.out.1.below b4;obtain⟨-,hB,-,hn7,hl7,hP⟩:=HA.out;have u4:=Upd.of_below b4 (fun _=>False);have h74:=h73.upd u4 id;have hB4:=hB3.upd u4 id;have hT4:=hS4.tab H.out.tab H.out.nt H.out.nn;have hQ:∀x∈qcL (lsM T f k),x.1<64∧x.2<64:=fun x hx=>pV hwq hx
  have hst:=nL V4 (lsM T f k) hwq hT4 gq c4 n4 A4 (fun x=>x.1<64∧x.2<64) (fun _ h=>h) hQ kq V3.heap.size hch;have hwt:=H.out.tab.lt;have hgV:gb<V3.heap.size:=H3.out.1.l.b.lt;have hsV:sb<V3.heap.size:=hB3.lt;have hw0:=hS4.g0;have hOw:∀q',FF gq (lsM T f k) (.slice A4 n4 c4) q'→q'<V4.heap.size∧q'≠gb∧q'≠sb∧v.ownBlock≠some q':=fun q' ho=>by
   have hlt':q'<V4.heap.size:=by
    rcases ho with rfl|rfl|⟨hs,hq⟩
    ·exact hT4.lt
    ·exact kq.lt
    ·exact(hch.own hs hq).2
   have hw0s:=hB.w0;rcases MO hch hgq ho with rfl|hge
   ·exact⟨hlt',by omega,by omega,fun e=>by have:=(hS4.l.own.lt _ e).1;omega⟩
   ·exact⟨hlt',by omega,by omega,fun e=>by have:=(H3.out.1.l.own.lt _ e).2;omega⟩
  have i0:GwC V4 w.heap.size gb sb k (L++iE (lsM T f) k) b [] V4:=⟨⟨v,by simpa using (show GnI V4 w.heap.size gb sb (L++iE (lsM T f) k) v b from⟨hS4.l,hB4,hB.r,hB.d⟩)⟩,KpM.refl _ _ _⟩;have hbd:(L++iE (lsM T f) k).length≤nts*4096:=hP.g.len (zM HX.out.1.wdT HX.out.1.wdF k);have hql:(qcL (lsM T f k)).length≤4096:=by rw[sV];exact gW hwq
  have HS:=aI8 hst hOw i0 hS4 h74 hB4 hbd hql;have hgV4:gb<V4.heap.size:=hS4.l.b.lt;have hKB:=hIz (show kb<V4.heap.size∧¬FN' kb∧¬FN' sb from⟨h74.lt,hn7',hsb'⟩);clear hn7' hsb' h73 hB3 hwq hS4 hB hn7 hl7 hP u4 h74 hB4 hT4 hst hwt hgV hsV hw0 hOw i0 kq b4 hch hgq hbd hql;go_wp2;refine jO (gf:=107) (cap:=#[.pointer (some ⟨gq,0,none⟩)]) rfl (enters_of Tryz.func107 (by kernel_rfl) rfl) HS.out.1 bR (fun q hq=>(HS.out.2.1 q hq).1) (fun _=>rfl)
   gb (fun q=>q=gb∨q=sb) hgV4 HS.out.2.2.2.1.l.rg (fun q e=>⟨e.elim (fun e=>by omega) (fun e=>by have:=HS.out.2.2.2.2.2.1.lt;omega),fun ho=>e.elim (HS.out.2.1 q ho).2.1 (HS.out.2.1 q ho).2.2.1⟩) (RgM.ls HS.out.2.2.2.1.l (fun q hq ho=>(HS.out.2.1 q ho).2.2.2 hq))
   (GwC V4 w.heap.size gb sb k (L++iE (lsM T f) k) b) (fun _ _ _=>False) (GwC.own hgV4 HS.out.2.2.2.1.l.rg) (fun c s X Y row h _ _=>h) HS.out.2.2.1
   (fun T y _=>(((T.setIfInBounds 38 (.int .i64 (y.1.1:Int))).setIfInBounds 39 (.int .i64 (y.1.2:Int))).setIfInBounds 9 (.int .i64 (y.1.1:Int))).setIfInBounds 10 (.int .i64 (y.1.2:Int)))
   (fun _ _ _=>True) ?hBx ?assign ?body ?done ?stop
  case hBx=>exact fun y b' s X Y row h hg hr=>trivial
  case assign =>
   rintro l2 pre y V Kc hrV hsV hi hK;dsimp only [QW]
   have HI2:=hIz hi;clear hi;gi_wp2
   exact hK 0 _ (KpM.refl _ _ _) HI2.out trivial
  case stop=>exact fun _ _ _ _ h=>h.elim
  case body =>
   rintro l2 pre ⟨⟨i,j⟩,hy⟩ b9 V hrV hsV ⟨⟨v5,hi⟩,hkp⟩-hlt2;have hbs:w.heap.size≤V.heap.size:=Nat.le_trans HS.out.2.2.2.1.u.size hsV;obtain⟨v9,Y1,happ,kb1,ks1,hL,hk9⟩:=hi.step hbs (k,i,j) (by
    have h1:=HS.out.2.2.2.2.2.2.1;have h2:=HS.out.2.2.2.2.2.2.2;rw[List.length_append,List.length_map,List.length_map];omega)
   obtain⟨A9,c9,hv9,-,-⟩:=aH hL.l.own;generalize (L++iE (lsM T f) k++(pre.map (·.1)).map (fun y=>(k,y))++[(k,i,j)]).length=n9 at hv9;subst hv9;have c5:V.cell? ⟨gb,0,none⟩=some v5:=hi.l.b.cell 0;have c7:V.cell? ⟨kb,0,none⟩=some (.int .i64 (k:Int)):=by
    have hpk:Prv gb (fun q=>q=gb∨q=sb) V4 kb:=⟨hKB.out.1,by
     obtain⟨-,hB,-,hn7,-,-⟩:=HA.out;rintro ((e|e)|⟨u,hu,ho⟩)
     ·exact hn7.2.2.2.1 e
     ·exact hn7.2.2.2.2.1 e
     ·obtain rfl:=HS.out.2.2.2.1.l.is hu;exact hn7.2.2.1 ho⟩
    exact(hkp.blk HS.out.2.2.2.1.l.rg hpk HS.out.2.2.2.2.1).cell 0
   have g5:Y1.cell? ⟨gb,0,none⟩=some v5:=kb1.cell 0;have f5:=kb1.frozen 0;have g6:(Y1.setCell ⟨gb,0,none⟩ (.slice A9 n9 c9)).cell? ⟨sb,0,none⟩=some (.bool (b||!pre.isEmpty)):=ks1.cell 0;have f6:=ks1.frozen 0;have hfin:KpM gb (fun q=>q=gb∨q=sb) V ((Y1.setCell ⟨gb,0,none⟩ (.slice A9 n9 c9)).setCell ⟨sb,0,none⟩ (.bool true))∧GwC V4 w.heap.size gb sb k (L++iE (lsM T f) k) b (pre++[(⟨(i,j),hy⟩:{x:Nat × Nat // x.1<64∧x.2<64})]) ((Y1.setCell ⟨gb,0,none⟩ (.slice A9 n9 c9)).setCell ⟨sb,0,none⟩ (.bool true)):=
    ⟨hk9,⟨_,by
     rw[List.map_append,List.map_append,← List.append_assoc,show(b||!(pre++[(⟨(i,j),hy⟩:{x:Nat × Nat // x.1<64∧x.2<64})]).isEmpty)=true by simp];exact hL⟩,hkp.trans hk9⟩
   have HF:=hIz hfin;clear hfin hk9 hL kb1 ks1 hi hrV hkp hbs;generalize (b||!pre.isEmpty)=b8 at g6;simp only[sA,sZ,sS]
   gi_wp2_with (gi_at_builtin;refine fY rfl _ _ _ rfl rfl rfl happ ?_)
   exact HF.out
  case done =>
   rintro ys V5 rfl ⟨⟨v5,hi⟩,hkp⟩ hrV pD hD;rw[nW] at hi;obtain⟨-,hB,-,hn7,-,hP⟩:=HA.out;have hS5:=HS.out.2.2.2.1.range HS.out.2.2.2.2.2.1 hB.w0 hB.t hKB.out.2.2 hkp hi.l pD hD;have hpk:Prv gb (fun q=>q=gb∨q=sb) V4 kb:=⟨hKB.out.1,by
    rintro ((e|e)|⟨u,hu,ho⟩)
    ·exact hn7.2.2.2.1 e
    ·exact hn7.2.2.2.2.1 e
    ·obtain rfl:=HS.out.2.2.2.1.l.is hu;exact hn7.2.2.1 ho⟩
   have h75:=hkp.blk HS.out.2.2.2.1.l.rg hpk HS.out.2.2.2.2.1;rw[List.append_assoc,← mK] at hS5;have hP2:=hP.step hlt HX.out.1.wdT HX.out.1.wdF;have hbb:(b||!(fZ (qcL (lsM T f k)) (fun x=>x.1<64∧x.2<64) (fun x hx=>pV HD.out.2.2.2.2 hx)).isEmpty)=(b||!(qcL (lsM T f k)).isEmpty):=by
    congr 2
    rw[Bool.eq_iff_iff,List.isEmpty_iff,List.isEmpty_iff,← List.length_eq_zero_iff,← List.length_eq_zero_iff,iJ]
   have bd:Below V5.heap.size V5 V5.drew:=bR.drew;have HE:=aI6 (hS5.below bd) ((hi.below bd).s) (h75.upd (upF bd) id) hP2 hbb hi.ns;clear hS5 hi hB hn7 hP hpk h75 hP2 hbb bd hkp hrV pD hD;go_upto_region 12 with (fail);obtain⟨hS6,hs6,h76,-,-,-⟩:=HE.out;obtain⟨gT',cT',qT',FqT',e,cT1,hqT,ht6⟩:=hS6.turn hlt;obtain⟨gN',cN',qN6,FqN6,e',cN1,-,hqN,-,-,-⟩:=hS6.mn.at_ hlt;rw[hmv] at e;injection e with e1 e2 e3;injection e1 with e1;injection e1 with e1;subst e1;subst e3;injection e' with e1 e2 e3;injection e1 with e1;injection e1 with e1;subst e1;subst e3;rw[wB] at hqT;rw[show stN T f (k+1) k=lsM T f k from if_pos (Nat.lt_succ_self k)] at hqN;have c4:V5.drew.cell? ⟨p,4,none⟩=some (.slice (some ⟨gT,0,none⟩) nts cT):=by
    rw[← hmv];exact(H.out.hP.upd hS6.u (fun k hk e=>e.elim (H.out.kt k hk) (H.out.kn k hk))).blk.cell 4
   have c7:V5.drew.cell? ⟨kb,0,none⟩=some (.int .i64 (k:Int)):=h76.cell 0;have hjoin:=jS V5.drew FqT' FqN6 qT' qN6 32 (T k) (lsM T f k) hqT hqN;have HT:=hIz (fun W' hto=>ht6 (joinQ (T k) (lsM T f k)) W' hto);clear hS6 hs6 h76 ht6 hqT hqN;refine fD ?_;refine aP (fun V:World=>V.cell? ⟨kb,0,none⟩=some (.int .i64 (k:Int))∧V.cell? ⟨p,4,none⟩=some (.slice (some ⟨gT,0,none⟩) nts cT)∧V.cell? ⟨gT,k,none⟩=some (.pointer (some ⟨qT',0,none⟩))∧V.cell? ⟨gN,k,none⟩=some (.pointer (some ⟨qN6,0,none⟩))) 11 [(0,true),(1,true),(2,true),(3,true),(4,true),(5,true),(6,true),(7,true),(8,true),(9,true),(10,true),(11,false)] (by kernel_rfl) (by kernel_rfl) (fun _ _ _ _ _ h=>h.elim) ⟨c7,c4,cT1,cN1⟩ ?_;clear c7 c4 cT1 cN1;generalize V5.drew=V6 at HE HT hjoin ⊢
   iterate 11 refine aD rfl ?_
   refine aK rfl rfl (fun K hK=>?_);go_simp;refine hjoin.mono ?_;clear hjoin;rintro e V7 ⟨rfl,hto⟩;have FIN:=hIz (show GrR w V7 FT0 FN0 nts gb sb mv (.slice (some ⟨gN,0,none⟩) nts c) T0 T f L (V4.heap.size::Ds) (k+1) from by
    obtain⟨⟨FT7,hS7,hF7⟩,hu7⟩:=HT.out V7 hto;obtain⟨hS6,hs6,h76,hP2,hbb,hns⟩:=HE.out;obtain⟨-,hB,-,-,-,-⟩:=HA.out;rw[show upM (stT T f k) k (joinQ (T k) (lsM T f k))=stT T f (k+1) from zL T f k] at hS7;rw[hbb] at hs6;exact⟨_,_,_,_,hS7,⟨hs6.upd hu7 hB.t,fun e=>(hF7 sb e).elim hB.t (fun h=>by have:=hs6.lt;omega),hKB.out.2.2,hns,hB.d,hB.w0⟩,hP2⟩)
   clear hto;refine hK _ _ (fun h=>absurd rfl h) ?_;clear hK K;(try simp only[Act.put,gA,gS,gZ,sA,sZ,sS])
   refine aJ ?_;dsimp only [cE]
   go_wp2;refine Handed.intro (g2-1) (by omega) (hJ2 _ _ _ ⟨k+1,V4.heap.size::Ds,_,_,_,_,_,_,_,_,_,_,_,_,_,_,_,_,_,_,_,_,_,_,_,_,_,_,_,_,_,_,_,_,_,_,_,_,_,_,_,_,_,_,_,_,_,_,_,_,_,_,_,_,_,_,_,_,_,_,_,_,rfl,by omega,FIN⟩)
 ·obtain rfl:k=nts:=by omega
  have c6:Wr.cell? ⟨sb,0,none⟩=some (.bool b):=hB.k.cell 0;cases b with
  | true =>
   have hne:=hP.b.1 rfl;have hT':∀j,WdO (stT T f k j):=zM HX.out.1.wdT HX.out.1.wdF k;have hN':∀j,WdO (stN T f k j):=fun j=>by
    unfold stN;split
    ·exact(HX.out.1.wdF j).lessQ (HX.out.1.wdT j)
    ·exact HX.out.1.wdF j
   have hrange:∀j,j<k→zJ (f j) (T j) (stN T f k j)∧kQ (T j) (f j) (stT T f k j):=fun j hj=>by
    refine⟨?_,IG HX.out.1.wdT HX.out.1.wdF hj⟩;unfold stN;rw[if_pos hj];exact mI (HX.out.1.wdF j) (HX.out.1.wdT j)
   have hTc:∀j,j<k→InC (stT T f k j) 32:=fun j hj i1 j1 hb=>by
    have hd:gR P El n (j:Int) i1 j1:=(((hrange j hj).2.2 i1 j1).1 hb).elim (HX.out.1.sT j hj i1 j1) (HX.out.1.sF j hj i1 j1);have:=hd.lt H.out.el;have:=H.out.n32;omega
   have hNc:∀j,j<k→InC (stN T f k j) 32:=fun j hj i1 j1 hb=>by
    have hd:gR P El n (j:Int) i1 j1:=HX.out.1.sF j hj i1 j1 ((((hrange j hj).1.2 i1 j1).1 hb).1);have:=hd.lt H.out.el;have:=H.out.n32;omega
   have htb:=hS.tab H.out.tab H.out.nt H.out.nn;have hnx:=IE Wr K FT FN p k pc cl pg PA LA PV labels mv (.slice A k c) (stT T f k) (stN T f k) ⟨H.out.hP.upd hS.u (fun k hk e=>e.elim (H.out.kt k hk) (H.out.kn k hk)),hS.mt,hS.mn,H.out.g,hT',hN',hTc,hNc,htb,htb.lt⟩ h5 hm;have HZ:=aI4 hS hP hne hrange;clear hne hT' hN' hrange hTc hNc htb hS hP hB;go_wp2_with fail;refine hnx.mono ?_;clear hnx c6;rintro e V8 ⟨v8,rfl,B8,F8,hm8,hF8,hb8,hN8⟩;obtain⟨A8,c8,rfl⟩:=hm8.form;have FIN:=hIz (show GrO w V8 FT0 FN0 k gb mv (.slice A8 k c8) P El n T0 Ds (qB T k) from by
    obtain⟨hS,hP,hne,hrange⟩:=HZ.out;refine⟨stT T f k,B8,_,_,_,_,hS.next hb8 hm8 hF8,HX.out.1.round ?_ (fun j hj=>(hrange j hj).1) (fun j hj=>(hrange j hj).2) (zM HX.out.1.wdT HX.out.1.wdF k) ⟨hN8.1,fun a i j=>?_⟩,hP.g,hP.sub,BR HX.out.1.wdT HX.out.1.wdF hne⟩
    ·intro q hq;rw[← HP.out] at hq;obtain⟨x,hx,rfl⟩:=List.mem_map.1 hq;exact H.out.g x hx
    ·rw[hN8.2,← HP.out];constructor
     ·rintro⟨m',x,s,t,h1,-,h3,h4,h5⟩;exact⟨x.pr,List.mem_map.2 ⟨x,mG h1,rfl⟩,s,t,h3,h4,h5⟩
     ·rintro⟨q,hq,s,t,h3,h4,h5⟩;obtain⟨x,hx,rfl⟩:=List.mem_map.1 hq;obtain⟨m',hm'⟩:=List.getElem?_of_mem hx;exact⟨m',x,s,t,hm',(gO.1 hm').1,h3,h4,h5⟩)
   clear hm8 hF8 hb8 hN8;go_wp2;exact Handed.intro (qB T k) HX.out.2 (hJ _ _ _ ⟨_,Ds,_,_,_,_,_,_,_,_,_,_,_,_,_,_,_,_,_,_,_,_,_,_,_,_,_,_,_,_,_,_,_,_,_,_,_,_,_,_,_,_,_,_,_,_,_,_,_,_,_,_,_,_,_,_,_,_,_,_,_,_,_,_,_,_,rfl,FIN⟩)
  | false =>
   have hnil:iE (lsM T f) k=[]:=by
    cases hq:iE (lsM T f) k with
    | nil=>rfl
    | cons y l=>have:=hP.b.2 (by rw[hq];exact nofun);cases this
   have hle:=QL HX.out.1.wdT HX.out.1.wdF hnil;have hfin:∀j,j<k→∀i1 j1,aY (stT T f k j) i1 j1=true↔gR P El n (j:Int) i1 j1:=fun j hj i1 j1=>by
    have h1:=HX.out.1.done (fun q hq=>by
     rw[← HP.out] at hq;obtain⟨x,hx,rfl⟩:=List.mem_map.1 hq;exact H.out.g x hx) hle hj (i:=i1) (j:=j1)
    rw[← h1,(IG HX.out.1.wdT HX.out.1.wdF hj).2];exact⟨fun h=>h.elim id (hle j hj i1 j1),.inl⟩
   have hwT:=zM HX.out.1.wdT HX.out.1.wdF k;have hlb:=hS.l;obtain⟨M,hM⟩:∃M,L++iE (lsM T f) k=M:=⟨_,rfl⟩;have hG:=hP.g;rw[hM] at hS hG hlb;have hMl:=hG.len hwT;obtain⟨A9,c9,rfl,-,-⟩:=aH hlb.own;have HZ:=aI4 hS hG hwT hfin;obtain⟨l9,hl9⟩:∃l9,M.length=l9:=⟨_,rfl⟩;have c5:Wr.cell? ⟨gb,0,none⟩=some (.slice A9 l9 c9):=by rw[← hl9];exact hlb.b.cell 0
   have hsort:Calls Tryz.prog 95 #[.slice A9 l9 c9,.func (.func 96) #[] #[]] Wr (fun e w'=>e=.returned (.tuple #[])∧∃M',M'.Perm M∧M'.Pairwise ltF∧w'.ownsRow w.heap.size 25 3 (.slice A9 M.length c9) M.length (cR M')∧Upd (fun q=>(Value.slice A9 M.length c9).ownBlock=some q) Wr w'):=by
    rw[← hl9];exact BT Wr w.heap.size A9 c9 M hlb.own hG.nd (by have:k*4096≤512*4096:=Nat.mul_le_mul_right _ h5;omega)
   have HL:=hIz hl9;clear hnil hle hfin hwT hlb hG hMl hS hP hB hl9;go_wp2_with fail;refine hsort.mono ?_;clear hsort c5;rintro e V9 ⟨rfl,M',hpm,hpw,own9,hu9⟩;have c59:V9.cell? ⟨gb,0,none⟩=some (.slice A9 l9 c9):=by
    rw[← HL.out];exact(HZ.out.1.l.b.upd hu9 HZ.out.1.l.ne).cell 0
   have HV:=aI4 hpm hpw own9 hu9;clear hpm hpw own9 hu9 c6;go_wp2;obtain⟨hpm,hpw,own9,hu9⟩:=HV.out;obtain⟨hS,hG,hwT,hfin⟩:=HZ.out;have hlen:=hpm.length_eq;have hgb:=HG.out.1;refine gP (lb:=gb) (B:=w.heap.size+1) (F:=FT) (fun w1=>GrE w w1 FT0 FN0 FT k gb mv (stT T f k) A9 c9 M') (GrE.own hgb.symm) (by omega) ?_ Ds V9 hS.nd (fun D hD=>?_) ?_ ?_
   ·rintro w1 ⟨-,e2,e3,e4⟩;refine⟨.slice A9 l9 c9,by simp[results,Tryz.f40,go_sem],.slice A9 l9 c9,rfl,A9,c9,M',stT T f k,FT,by rw[hlen,HL.out],e2,e3,e4,hS.ft,fun q hq=>(hS.rt q (by rw[hlen] at hq;exact hq)).1,hG.perm hpm,hpw,hwT,hfin⟩
   ·obtain⟨h1,h2,h3,h4,h5,h6,h7⟩:=hS.ds D hD;refine⟨h1,⟨Nat.lt_of_lt_of_le h2 hu9.size,?_⟩,(hu9.block D h2 h6).trans h7⟩;rintro (hf|⟨u,hu,ho⟩)
    ·exact h3 hf
    ·rw[c59] at hu;injection hu with hu;subst hu;rw[← HL.out] at ho;exact h6 ho
   ·exact(World.block_lt_of_cell? _ _ c59)
   ·refine⟨by rw[hlen];exact hS.l.b.upd hu9 hS.l.ne,by rw[hlen];exact own9,hS.mt.upd hu9 (fun q hq ho=>(hS.rt q ho).1 hq),hS.u.trans hu9 (fun q hq=>.inr (hS.l.own.lt q hq).1)⟩
open Go.RowKit Go.Shelf
def BrB(PV:List Pv)(labels:List Txt)(lb:Txt)(u v:Nat)(B B':aX)(q:Nat):Prop:=(∀k,WdO (B' k))∧∀k i j,aY (B' k) i j=true↔aY (B k) i j=true∨(i=u∧j=v∧∃m x s,PV[m]?=some x∧m<q∧x.pr.body=[s]∧labels[s.at_.toNat]?=some lb∧x.pr.head.toNat=k)
section
variable {PV:List Pv} {labels:List Txt} {lb:Txt} {u v:Nat} {B B':aX} {q:Nat}
theorem BrB.start(h:∀k,WdO (B k)):BrB PV labels lb u v B B 0:=⟨h,fun k i j=>by
 constructor
 ·exact .inl
 ·rintro (h|⟨_,_,m,x,s,_,h,_⟩)
  ·exact h
  ·omega⟩
theorem BrB.skip(h:BrB PV labels lb u v B B' q){x:Pv}(hx:PV[q]?=some x)(hb:∀s,x.pr.body=[s]→labels[s.at_.toNat]?≠some lb):BrB PV labels lb u v B B' (q+1):=⟨h.1,fun k i j=>by
 rw[h.2];constructor
 ·rintro (h1|⟨h1,h2,m,y,s,h3,h4,h5⟩)
  ·exact .inl h1
  ·exact .inr ⟨h1,h2,m,y,s,h3,by omega,h5⟩
 ·rintro (h1|⟨h1,h2,m,y,s,h3,h4,h5,h6,h7⟩)
  ·exact .inl h1
  ·refine .inr ⟨h1,h2,m,y,s,h3,?_,h5,h6,h7⟩;by_cases e:m=q
   ·subst e;rw[hx] at h3;obtain rfl:=Option.some.inj h3;exact(hb s h5 h6).elim
   ·omega⟩
theorem BrB.step(h:BrB PV labels lb u v B B' q){x:Pv}(hx:PV[q]?=some x){s:Sy}(hb:x.pr.body=[s])(hl:labels[s.at_.toNat]?=some lb){a:Nat}(ha:x.pr.head.toNat=a)(hu:u<64)(hv:v<64):BrB PV labels lb u v B (upM B' a (setO (B' a) u v)) (q+1):=by
 refine⟨fun k=>?_,fun k i j=>?_⟩
 ·by_cases e:k=a
  ·subst e;rw[cP];exact IB (h.1 _) u v hv
  ·rw[dD B' _ e];exact h.1 k
 ·by_cases e:k=a
  ·subst e;rw[cP,IC (h.1 _) hu hv,h.2];constructor
   ·rintro ((h1|⟨h1,h2,m,y,t,h3,h4,h5⟩)|⟨rfl,rfl⟩)
    ·exact .inl h1
    ·exact .inr ⟨h1,h2,m,y,t,h3,by omega,h5⟩
    ·exact .inr ⟨rfl,rfl,q,x,s,hx,by omega,hb,hl,ha⟩
   ·rintro (h1|⟨h1,h2,_⟩)
    ·exact .inl (.inl h1)
    ·exact .inr ⟨h1,h2⟩
  ·rw[dD B' _ e,h.2];constructor
   ·rintro (h1|⟨h1,h2,m,y,t,h3,h4,h5⟩)
    ·exact .inl h1
    ·exact .inr ⟨h1,h2,m,y,t,h3,by omega,h5⟩
   ·rintro (h1|⟨h1,h2,m,y,t,h3,h4,h5,h6,h7⟩)
    ·exact .inl h1
    ·refine .inr ⟨h1,h2,m,y,t,h3,?_,h5,h6,h7⟩;by_cases e2:m=q
     ·subst e2;rw[hx] at h3;obtain rfl:=Option.some.inj h3;exact(e (h7.symm.trans ha)).elim
     ·omega
end
def BrI(w:World)(F:Nat→Prop)(vn:Value)(nts:Nat)(PV:List Pv)(labels:List Txt)(lb:Txt)(u v:Nat)(B:aX)(q:Nat)(W:World):Prop:=∃B',qC w F vn 32 nts B' W∧BrB PV labels lb u v B B' q
theorem BV(w:World)(K Fg FT F:Nat→Prop)(p nts pc cl pg:Nat)(PA LA:Option Addr)(PV:List Pv)(labels:List Txt)(mv:Value)(G:Gr)(T:aX)(h:DcI w K Fg FT p nts pc cl pg PA LA PV labels mv G T)(ok:GOk G)(vn:Value)(B:aX)(hF:MtS w F vn 32 nts B)(hd:∀k,F k→¬K k)
  (hg:∀x∈PV,xS nts x.pr) (h1:∀x∈PV,∀s,x.pr.body=[s]→0≤s.at_∧s.at_<(labels.length:Int)) (hw:∀k,WdO (B k)) (hm:PV.length≤140737488355328) (hl:labels.length≤140737488355328)
  (g1 g2 g3 g4:Nat) (fr lb tn:Txt) (hfr:dA fr) (hto:dA tn) (c1:w.cell? ⟨g1,0,none⟩=some (.pointer (some ⟨p,0,none⟩))) (c2:w.cell? ⟨g2,0,none⟩=some (.string fr)) (c3:w.cell? ⟨g3,0,none⟩=some (.string tn)) (c4:w.cell? ⟨g4,0,none⟩=some (.string lb)) (n1:¬F g1) (n4:¬F g4)
  (u v:Nat) (hu:QX G.N fr=.tuple #[.int .i64 (u:Int),.int .i64 0]) (hv:QX G.N tn=.tuple #[.int .i64 (v:Int),.int .i64 0]) (hu32:u<32) (hv32:v<32) :
  Calls Tryz.prog 47 #[vn,.pointer (some ⟨g1,0,none⟩),.pointer (some ⟨g2,0,none⟩),.pointer (some ⟨g3,0,none⟩),.pointer (some ⟨g4,0,none⟩)] w (fun e w'=>e=.returned (.tuple #[])∧BrI w F vn nts PV labels lb u v B PV.length w'):=by
 obtain⟨A,c,rfl⟩:=hF.form;have q3:w.cell? ⟨p,3,none⟩=some (.pointer (some ⟨pg,0,none⟩)):=h.cp.blk.cell 3;have q1:w.cell? ⟨p,1,none⟩=some (.slice PA PV.length pc):=h.cp.blk.cell 1;obtain⟨m,hmm⟩:∃m,PV.length=m:=⟨_,rfl⟩;rw[hmm] at q1 hm ⊢;have HM:=hIz hmm;clear hmm;have bd:Below w.heap.size w w.drew:=bR.drew;have hno1:=tG w.drew Fg pg G (h.gr.below bd) ok fr hfr;have bd2:Below w.heap.size w w.drew.drew:=bd.drew;have hno2:=tG w.drew.drew Fg pg G (h.gr.below bd2) ok tn hto;rw[hu] at hno1;rw[hv] at hno2;have H:=aI8 h hF hd hg h1 hw n1 n4;have BD:=hIz bd2;clear h hF hd hg h1 hw n1 n4 hu hv bd bd2;go_enter Tryz.func47,Tryz.ntmps47;go_upto_region 0 with (fail);refine aP (fun W:World=>W.cell? ⟨g1,0,none⟩=some (.pointer (some ⟨p,0,none⟩))∧W.cell? ⟨p,3,none⟩=some (.pointer (some ⟨pg,0,none⟩))∧W.cell? ⟨g2,0,none⟩=some (.string fr)) 11 [(0,true),(1,true),(2,true),(3,true),(4,true),(5,false),(6,true),(7,true),(8,true),(9,true),(10,true)] (by kernel_rfl) (by kernel_rfl) (fun _ _ d _ _ h=>by cases d <;> exact h) ⟨c1,q3,c2⟩ ?_
 iterate 5 refine aD rfl ?_
 refine aK rfl rfl (fun K hK=>?_);go_simp;refine hno1.mono ?_;rintro e V ⟨rfl,hV⟩;subst V;refine hK _ _ (fun _=>⟨c1,q3,c2⟩) ?_;clear hK K;(try simp only[Act.put,gA,gS,gZ,sA,sZ,sS])
 iterate 5 refine aD rfl ?_
 refine aJ ?_;go_upto_region 1 with (fail);refine aP (fun W:World=>W.cell? ⟨g1,0,none⟩=some (.pointer (some ⟨p,0,none⟩))∧W.cell? ⟨p,3,none⟩=some (.pointer (some ⟨pg,0,none⟩))∧W.cell? ⟨g3,0,none⟩=some (.string tn)) 11 [(0,true),(1,true),(2,true),(3,true),(4,true),(5,false),(6,true),(7,true),(8,true),(9,true),(10,true)] (by kernel_rfl) (by kernel_rfl) (fun _ _ d _ _ h=>by cases d <;> exact h) ⟨c1,q3,c3⟩ ?_
 iterate 5 refine aD rfl ?_
 refine aK rfl rfl (fun K hK=>?_);go_simp;refine hno2.mono ?_;rintro e V ⟨rfl,hV⟩;subst V;refine hK _ _ (fun _=>⟨c1,q3,c3⟩) ?_;clear hK K;(try simp only[Act.put,gA,gS,gZ,sA,sZ,sS])
 iterate 5 refine aD rfl ?_
 refine aJ ?_;clear hno1 hno2;have C:=aI2 c1 c4;have d1:=aS BD.out c1;have dq:=aS BD.out q1;generalize w.drew.drew=V2 at BD d1 dq ⊢;clear c1 c2 c3 c4 q3 q1;go_upto_region 2 with (fail);go_wp2;clear d1 dq;go_loopw [36] (fun i wr=>∃q:Nat,q≤m∧i=.int .i64 (q:Int)∧Hid (BrI w F (.slice A nts c) nts PV labels lb u v B q wr)) (fun i _=>m-(intOf i).toNat)
 case atStart=>exact⟨0,Nat.zero_le _,rfl,hIz ⟨B,qC.after BD.out ⟨F,H.out.2.1.below BD.out,Upd.refl _ _,fun _ h=>.inl h⟩,BrB.start H.out.2.2.2.2.2.1⟩⟩
 case round =>
  obtain⟨q,hq,rfl,hi⟩:=hrel;by_cases hlt:q<m
  ·have hltI:(q:Int)<(m:Int):=by omega
   obtain⟨B1,⟨F1,hm1,hu1,hF1⟩,hB1⟩:=hi.out;obtain⟨x,hx⟩:∃x,PV[q]?=some x:=⟨_,gEz (by rw[HM.out];omega)⟩;have hxm:=mG hx;have hc1:=H.out.1.cp.upd hu1 (fun k hk hf=>H.out.2.2.1 k hf hk);have e1:=(hu1.cell (p:=⟨g1,0,none⟩) (World.block_lt_of_cell? w _ C.out.1) H.out.2.2.2.2.2.2.1).trans C.out.1;have e4:=(hu1.cell (p:=⟨g4,0,none⟩) (World.block_lt_of_cell? w _ C.out.2) H.out.2.2.2.2.2.2.2).trans C.out.2;obtain⟨pb,po,rfl,c0,c1⟩:=hc1.pv.1.pv hx;have hgx:=H.out.2.2.2.1 x hxm;obtain⟨a,ha⟩:∃a:Nat,x.pr.head=(a:Int):=⟨x.pr.head.toNat,(Int.toNat_of_nonneg hgx.h0).symm⟩;have han:a<nts:=by have:=hgx.h1;omega
   have hta:x.pr.head.toNat=a:=by rw[ha];exact Int.toNat_natCast a
   rw[ha] at c0;have b1:Below wr.heap.size wr (wr.alloc (.cells #[.int .i64 (a:Int),.slice x.adr x.pr.body.length x.cap] 76)):=bR.alloc (Nat.le_refl _) _;have kb:=Blk.new wr 76 #[.int .i64 (a:Int),.slice x.adr x.pr.body.length x.cap];by_cases h2:x.pr.body.length=1
   ·obtain⟨s,hst⟩:∃s,x.pr.body=[s]:=by
     match hbody:x.pr.body,h2 with
     | [s],_=>exact⟨s,rfl⟩
    obtain⟨s0,s1⟩:=H.out.2.2.2.2.1 x hxm s hst;have hrow:=hc1.pv.2 x hxm;rw[hst] at hrow;obtain⟨la,l⟩:=s;dsimp only at s0 s1
    obtain⟨l,rfl⟩:∃l':Nat,l=(l':Int):=⟨l.toNat,(Int.toNat_of_nonneg s0).symm⟩;obtain⟨y,hy⟩:∃y,labels[l]?=some y:=⟨_,gEz (by omega)⟩;obtain⟨nl,hnl⟩:∃nl,labels.length=nl:=⟨_,rfl⟩;have q2:wr.cell? ⟨p,2,none⟩=some (.slice LA nl cl):=by rw[← hnl];exact hc1.blk.cell 2
    obtain⟨lg,lo,rfl,cy⟩:=hc1.lab.txt hy;obtain⟨gb,gof,hadr,-⟩:=hrow 0 (.bool la) rfl;obtain⟨gb',gof',e,d1⟩:=hrow 1 (.int .i64 (l:Int)) rfl;rw[hadr] at e;injection e with e;injection e with e5 e6;subst e5;subst e6;rw[hadr,h2] at c1 b1 kb;have hlI:(l:Int)<(nl:Int):=by omega
    have b2:=fun n=>b1.trans (Below.mono (show Below _ _ ((wr.alloc (.cells #[.int .i64 (a:Int),.slice (some ⟨gb,gof,none⟩) 1 x.cap] 76)).drewN n) from⟨rfl,rfl,rfl,Nat.le_refl _,fun _ _=>rfl⟩) b1.size)
    have z0:(wr.alloc (.cells #[.int .i64 (a:Int),.slice (some ⟨gb,gof,none⟩) 1 x.cap] 76)).cell? ⟨wr.heap.size,0,none⟩=some (.int .i64 (a:Int)):=kb.cell 0;have z1:(wr.alloc (.cells #[.int .i64 (a:Int),.slice (some ⟨gb,gof,none⟩) 1 x.cap] 76)).cell? ⟨wr.heap.size,1,none⟩=some (.slice (some ⟨gb,gof,none⟩) 1 x.cap):=kb.cell 1;have d1:=aS b1 d1;have v1:=aS b1 e1;have v4:=aS b1 e4;have v2:=aS b1 q2;have vy:=aS b1 cy;have hkw:IntKind.i64.wrap ((q:Int)+1)=(q:Int)+1:=IntWalk.i64_in _ (by omega);by_cases hyl:y=lb
    ·subst hyl;have hst2:=hB1.step hx hst (by rw[Int.toNat_natCast];exact hy) hta (u:=u) (v:=v) (by omega) (by omega);have HX:=aI4 (fun n=>hm1.below (b2 n)) (fun n=>hu1.trans (Upd.of_below (b2 n) (fun _=>False)) (fun _ h=>h.elim)) hF1 hst2;have hanI:(a:Int)<(nts:Int):=by omega
     clear hx hxm hc1 e1 e4 hgx ha hta b1 b2 kb h2 hm1 hu1 hF1 hB1 hi hst hrow s0 s1 hy hnl q2 cy hadr hst2;go_upto_region 5 with (fail);generalize wr.alloc (.cells #[.int .i64 (a:Int),.slice (some ⟨gb,gof,none⟩) 1 x.cap] 76)=V at HX z0 z1 d1 v1 v4 v2 vy ⊢;clear c0 c1;go_quiet (fail)
     obtain⟨g,c',q',Fq,e,cg,hqs,-,hstep⟩:=(HX.out.1 nq).turn han;injection e with e _ e3;subst e;subst e3;have hset:=sO (V.drewN nq) Fq q' 32 (B1 a) hqs u v (by omega) (by omega) (by omega) (by omega);have HS:=hIz hstep;clear hstep hqs d1 v1 v4 v2 vy z1;go_wp2_with fail;refine hset.mono ?_;clear hset;rintro e W3 ⟨rfl,hto⟩;have FIN:=hIz (show BrI w F (.slice (some ⟨g,0,none⟩) nts c) nts PV labels y u v B (q+1) W3 from⟨_,qC.trans (HX.out.2.1 nq) HX.out.2.2.1 (HS.out _ W3 hto),HX.out.2.2.2⟩);clear hto;go_wp2;go_roundw
     case rel=>exact⟨q+1,by omega,by go_num,FIN⟩
     case measure=>simp[intOf];omega
    ·have FIN:=hIz (show ∀n,BrI w F (.slice A nts c) nts PV labels lb u v B (q+1) ((wr.alloc (.cells #[.int .i64 (a:Int),.slice (some ⟨gb,gof,none⟩) 1 x.cap] 76)).drewN n) from fun n =>
      ⟨B1,qC.trans hu1 hF1 ⟨F1,hm1.below (b2 n),Upd.of_below (b2 n) _,fun _ h=>.inl h⟩,hB1.skip hx (fun s e h=>by
       rw[hst] at e;injection e with e;subst e;rw[Int.toNat_natCast,hy] at h;exact hyl (Option.some.inj h))⟩)
     have hyb:(ByteArray.toList y==ByteArray.toList lb)=false:=by rw[txt_beq];exact decide_eq_false hyl
     clear hx hxm hc1 e1 e4 hgx ha han hta b1 b2 kb h2 hm1 hu1 hF1 hB1 hi hst hrow s0 s1 hy hnl q2 cy hadr;go_upto_region 5 with (fail);generalize wr.alloc (.cells #[.int .i64 (a:Int),.slice (some ⟨gb,gof,none⟩) 1 x.cap] 76)=V at FIN z0 z1 d1 v1 v4 v2 vy ⊢;clear c0 c1;go_quiet (fail)
     go_wp2;go_roundw
     case rel=>exact⟨q+1,by omega,by go_num,hIz (FIN.out _)⟩
     case measure=>simp[intOf];omega
   ·have hc2:((x.pr.body.length:Int)==1)=false:=by simp;omega
    have FIN:=hIz (show ∀n,BrI w F (.slice A nts c) nts PV labels lb u v B (q+1) ((wr.alloc (.cells #[.int .i64 (a:Int),.slice x.adr x.pr.body.length x.cap] 76)).drewN n) from fun n =>
     have bn:=b1.trans (Below.mono (show Below _ _ ((wr.alloc (.cells #[.int .i64 (a:Int),.slice x.adr x.pr.body.length x.cap] 76)).drewN n) from⟨rfl,rfl,rfl,Nat.le_refl _,fun _ _=>rfl⟩) b1.size);⟨B1,qC.trans hu1 hF1 ⟨F1,hm1.below bn,Upd.of_below bn _,fun _ h=>.inl h⟩,hB1.skip hx (fun s e=>(h2 (by rw[e];rfl)).elim)⟩)
    have k0:(wr.alloc (.cells #[.int .i64 (a:Int),.slice x.adr x.pr.body.length x.cap] 76)).cell? ⟨wr.heap.size,1,none⟩=some (.slice x.adr x.pr.body.length x.cap):=kb.cell 1;have hkw:IntKind.i64.wrap ((q:Int)+1)=(q:Int)+1:=IntWalk.i64_in _ (by omega);clear hx hxm hc1 e1 e4 hgx ha han hta b1 kb h2 hm1 hu1 hF1 hB1 hi;generalize x.pr.body.length=vl at *;go_upto_region 5 with (fail);generalize wr.alloc (.cells #[.int .i64 (a:Int),.slice x.adr vl x.cap] 76)=V at FIN k0 ⊢;clear c0 c1;go_quiet (fail)
    go_wp2;go_roundw
    case rel=>exact⟨q+1,by omega,by go_num,hIz (FIN.out _)⟩
    case measure=>simp[intOf];omega
  ·obtain rfl:q=m:=by omega
   have FIN:=hIz hi.out;clear hi;go_wp2;(try simp only[Exit.inBlock,Exit.then])
   exact bodyPost_end (results_none rfl _ _ _) rfl ⟨rfl,FIN.out⟩
open Go.RowKit Go.Shelf
structure oB(nts:Nat)(P:List Pr)(labels:List Txt)(G:Gr)(T:aX):Prop where
 ok:GOk G
 g:∀p∈P,xS nts p
 l1:∀p∈P,∀s,p.body=[s]→0≤s.at_∧s.at_<(labels.length:Int)
 wd:∀k,WdO (T k)
 der:∀k,k<nts→∀i j,aY (T k) i j=true↔gR P (ElG G labels) G.N.length (k:Int) i j
 n1:1≤nts
 n5:nts≤512
 pl:P.length≤8192
 ll:labels.length≤16
theorem zO(N:List Txt)(s:Txt):N <+: cI N s:=by
 unfold cI;split
 ·exact List.prefix_refl N
 ·exact List.prefix_append N [s]
theorem tS{N N':List Txt}(h:N <+: N'){i:Nat}{s:Txt}(hs:N[i]?=some s):N'[i]?=some s:=by
 obtain⟨t,rfl⟩:=h;rw[List.getElem?_append_left (gO.1 hs).1];exact hs
theorem IJ{N:List Txt}(h:N.Nodup){i j:Nat}{s:Txt}(hi:N[i]?=some s)(hj:N[j]?=some s):i=j:=by
 rw[← jD h hi,← jD h hj]
theorem BX(G:Gr)(x:Ed):(∃e,aM G x=(G,false,e))∨(aM G x=(⟨cI (cI G.N x.fr) x.to,G.X++[x]⟩,true,0)∧x ∉ G.X):=by
 unfold aM;split
 ·exact .inl ⟨_,rfl⟩
 ·rename_i h1
  split
  ·exact .inr ⟨rfl,h1⟩
  ·exact .inl ⟨_,rfl⟩
theorem IK{G:Gr}{N':List Txt}(hp:G.N <+: N')(hn:N'.Nodup)(he:∀x∈G.X,x.fr∈G.N∧x.to∈G.N){labels:List Txt}{k:Int}{i j:Nat}:ElG ⟨N',G.X⟩ labels k i j↔ElG G labels k i j:=by
 constructor
 ·rintro⟨lb,h1,x,hx,h2,h3,h4⟩;obtain⟨m1,m2⟩:=he x hx;obtain⟨a,ha⟩:=List.getElem?_of_mem m1;obtain⟨b,hb⟩:=List.getElem?_of_mem m2;obtain rfl:=IJ hn h3 (tS hp ha);obtain rfl:=IJ hn h4 (tS hp hb);exact⟨lb,h1,x,hx,h2,ha,hb⟩
 ·rintro⟨lb,h1,x,hx,h2,h3,h4⟩;exact⟨lb,h1,x,hx,h2,tS hp h3,tS hp h4⟩
theorem TH{G:Gr}{N':List Txt}{x:Ed}(hp:G.N <+: N')(hn:N'.Nodup)(he:∀x∈G.X,x.fr∈G.N∧x.to∈G.N){labels:List Txt}{k:Int}{i j:Nat}:ElG ⟨N',G.X++[x]⟩ labels k i j↔ElG G labels k i j∨(labels[k.toNat]?=some x.lb∧N'[i]?=some x.fr∧N'[j]?=some x.to):=by
 constructor
 ·rintro⟨lb,h1,y,hy,h2,h3,h4⟩;rcases List.mem_append.1 hy with hy|hy
  ·exact .inl ((IK hp hn he).1 ⟨lb,h1,y,hy,h2,h3,h4⟩)
  ·rw[List.mem_singleton] at hy;subst hy;subst h2;exact .inr ⟨h1,h3,h4⟩
 ·rintro (h|⟨h1,h2,h3⟩)
  ·obtain⟨lb,h1,y,hy,h2,h3,h4⟩:=(IK hp hn he).2 h;exact⟨lb,h1,y,List.mem_append.2 (.inl hy),h2,h3,h4⟩
  ·exact⟨x.lb,h1,x,List.mem_append.2 (.inr (List.mem_singleton.2 rfl)),rfl,h2,h3⟩
section
variable {nts:Nat} {labels:List Txt} {G:Gr} {T B1 B2:aX} {PV:List Pv}
theorem oB.node(h:oB nts (PV.map (·.pr)) labels G T){s:Txt}(hs:s ∉ G.N)(ok':GOk ⟨G.N++[s],G.X⟩)(hn:NdB PV G.N.length (G.N.length+1) noM B1 PV.length G.N.length):DlI (PV.map (·.pr)) (ElG ⟨G.N++[s],G.X⟩ labels) (G.N.length+1) nts T B1:=by
 have hel:∀k i j,ElG ⟨G.N++[s],G.X⟩ labels k i j↔ElG G labels k i j:=fun k i j=>IK (List.prefix_append _ _) ok'.nd h.ok.ends
 refine DlI.start h.g h.wd hn.1 h.der (fun k i j e=>(hel k i j).2 e) (Nat.le_succ _) (fun p hp hb i h1 h2=>?_) (fun p hp t hb i j h1 h2=>absurd ((hel _ _ _).1 h1) h2) (fun k hk i j hb=>?_)
 ·obtain⟨x,hx,rfl⟩:=List.mem_map.1 hp;obtain⟨m,hm⟩:=List.getElem?_of_mem hx;exact(hn.2 _ _ _).2 (.inr ⟨rfl,h1,m,x,hm,hb,rfl,.inl ⟨(gO.1 hm).1,h2⟩⟩)
 ·rcases (hn.2 k i j).1 hb with h1|⟨rfl,h1,m,x,hm,hbd,hh,h2⟩
  ·cases h1
  ·have hx:=mG hm;have hpr:x.pr∈PV.map (·.pr):=List.mem_map.2 ⟨x,hx,rfl⟩;have h0:=(h.g _ hpr).h0;have hlt:i<G.N.length+1:=h2.elim (fun h=>h.2) (fun h=>by omega);have e:x.pr=⟨(k:Int),[]⟩:=by
    have e1:x.pr.head=(k:Int):=by omega
    rw[← e1,← hbd]
   rw[e] at hpr;exact .eps hpr hlt
theorem oB.edge(h:oB nts (PV.map (·.pr)) labels G T){x:Ed}{N':List Txt}{u v:Nat}(hp:G.N <+: N')(ok':GOk ⟨N',G.X++[x]⟩)(hu:N'[u]?=some x.fr)(hv:N'[v]?=some x.to)
  (hn:NdB PV G.N.length N'.length noM B1 PV.length G.N.length) (hb:BrB PV labels x.lb u v B1 B2 PV.length):DlI (PV.map (·.pr)) (ElG ⟨N',G.X++[x]⟩ labels) N'.length nts T B2:=by
 have hel:∀k i j,ElG ⟨N',G.X++[x]⟩ labels k i j↔ElG G labels k i j∨(labels[k.toNat]?=some x.lb∧N'[i]?=some x.fr∧N'[j]?=some x.to):=fun k i j=>TH hp ok'.nd h.ok.ends
 refine DlI.start h.g h.wd hb.1 h.der (fun k i j e=>(hel k i j).2 (.inl e)) hp.length_le (fun p hp hbd i h1 h2=>?_) (fun p hp t hbd i j h1 h2=>?_) (fun k hk i j hbt=>?_)
 ·obtain⟨y,hy,rfl⟩:=List.mem_map.1 hp;obtain⟨m,hm⟩:=List.getElem?_of_mem hy;exact(hb.2 _ _ _).2 (.inl ((hn.2 _ _ _).2 (.inr ⟨rfl,h1,m,y,hm,hbd,rfl,.inl ⟨(gO.1 hm).1,h2⟩⟩)))
 ·rcases (hel _ _ _).1 h1 with h1|⟨h1,h3,h4⟩
  ·exact absurd h1 h2
  ·obtain⟨y,hy,rfl⟩:=List.mem_map.1 hp;obtain⟨m,hm⟩:=List.getElem?_of_mem hy;exact(hb.2 _ _ _).2 (.inr ⟨IJ ok'.nd h3 hu,IJ ok'.nd h4 hv,m,y,t,hm,(gO.1 hm).1,hbd,h1,rfl⟩)
 ·have hkey:∀y:Pv,y∈PV→y.pr.head.toNat=k→(⟨(k:Int),y.pr.body⟩:Pr)∈PV.map (·.pr):=fun y hy hh=>by
   have hpr:y.pr∈PV.map (·.pr):=List.mem_map.2 ⟨y,hy,rfl⟩;have h0:=(h.g _ hpr).h0;have e1:y.pr.head=(k:Int):=by omega
   rw[← e1];exact hpr
  rcases (hb.2 k i j).1 hbt with h1|⟨rfl,rfl,m,y,t,hm,-,hbd,hl,hh⟩
  ·rcases (hn.2 k i j).1 h1 with h1|⟨rfl,h1,m,y,hm,hbd,hh,h2⟩
   ·cases h1
   ·have hpr:=hkey y (mG hm) hh;have hlt:i<N'.length:=h2.elim (fun h=>h.2) (fun h=>by omega);rw[hbd] at hpr;exact .eps hpr hlt
  ·have hpr:=hkey y (mG hm) hh;rw[hbd] at hpr;exact .one hpr ((hel _ _ _).2 (.inr ⟨hl,hu,hv⟩))
end
section
variable {w w':World} {K Fg FT:Nat→Prop} {p nts pc cl pg:Nat} {PA LA:Option Addr} {PV:List Pv} {labels:List Txt} {mv:Value} {G G':Gr} {T T':aX}
theorem DcI.graph(h:DcI w K Fg FT p nts pc cl pg PA LA PV labels mv G T)(ht:CR w Fg pg G' w'):∃Fg',DcI w' K Fg' FT p nts pc cl pg PA LA PV labels mv G' T∧(∀k,Fg' k→Fg k∨w.heap.size≤k)∧Upd Fg w w':=by
 obtain⟨Fg',h1,h2,h3⟩:=ht;exact⟨Fg',⟨h.cp.upd h2 h.kg,h1,h.mt.upd h2 (fun k hk hg=>h.gt k hg hk),fun k hk hg=>(h3 k hg).elim (h.kg k hk) (fun e=>by have:=h.klt k hk;omega),h.kt,fun k hg hk=>(h3 k hg).elim (fun e=>h.gt k e hk) (fun e=>by have:=h.mt.lt k hk;omega),fun k hk=>Nat.lt_of_lt_of_le (h.klt k hk) h2.size⟩,h3,h2⟩
theorem DcI.facts(h:DcI w K Fg FT p nts pc cl pg PA LA PV labels mv G T){R FT':Nat→Prop}(hm:MtS w' FT' mv 32 nts T')(hu:Upd R w w')(hR:∀k,K k∨Fg k→¬R k)(hF:∀k,FT' k→FT k∨w.heap.size≤k):DcI w' K Fg FT' p nts pc cl pg PA LA PV labels mv G T':=
 ⟨h.cp.upd hu (fun k hk=>hR k (.inl hk)),h.gr.upd hu (fun k hk=>hR k (.inr hk)),hm,h.kg,fun k hk ht=>(hF k ht).elim (h.kt k hk) (fun e=>by have:=h.klt k hk;omega),fun k hk ht=>(hF k ht).elim (h.gt k hk) (fun e=>by have:=h.gr.flt k hk;omega),fun k hk=>Nat.lt_of_lt_of_le (h.klt k hk) hu.size⟩
end
def DcV(w:World)(K V:Nat→Prop)(p nts:Nat)(P:List Pr)(labels:List Txt)(G:Gr)(T:aX):Prop:=∃Fg FT pc cl pg PA LA PV mv,DcI w K Fg FT p nts pc cl pg PA LA PV labels mv G T∧PV.map (·.pr)=P∧V=fun k=>Fg k∨FT k
section
variable {w w':World} {K V R:Nat→Prop} {p nts:Nat} {P:List Pr} {labels:List Txt} {G:Gr} {T:aX}
theorem DcV.s(h:DcV w K V p nts P labels G T):DcS w (fun k=>K k∨V k) p nts P labels G T:=by
 obtain⟨Fg,FT,pc,cl,pg,PA,LA,PV,mv,hi,hp,rfl⟩:=h;exact⟨K,Fg,FT,pc,cl,pg,PA,LA,PV,mv,hi,hp,rfl⟩
theorem DcV.upd(h:DcV w K V p nts P labels G T)(hu:Upd R w w')(hd:∀k,K k∨V k→¬R k):DcV w' K V p nts P labels G T:=by
 obtain⟨Fg,FT,pc,cl,pg,PA,LA,PV,mv,hi,hp,rfl⟩:=h;exact⟨Fg,FT,pc,cl,pg,PA,LA,PV,mv,hi.upd hu hd,hp,rfl⟩
theorem DcV.below(h:DcV w K V p nts P labels G T)(hb:Below w.heap.size w w'):DcV w' K V p nts P labels G T:=h.upd (upF hb) (fun _ _=>id)
theorem DcV.lt(h:DcV w K V p nts P labels G T):∀k,K k∨V k→k<w.heap.size:=by
 obtain⟨Fg,FT,pc,cl,pg,PA,LA,PV,mv,hi,hp,rfl⟩:=h;intro k hk;rcases hk with hk|hk|hk
 ·exact hi.klt k hk
 ·exact hi.gr.flt k hk
 ·exact hi.mt.lt k hk
end
def CmQ(w:World)(K V:Nat→Prop)(p nts:Nat)(P:List Pr)(labels:List Txt)(T:aX)(r:Gr × Bool × Int)(e:Ending)(w':World):Prop:=∃A c L T' V',e=.returned (.tuple #[.slice A L.length c,.bool r.2.1,.int .i64 r.2.2])∧w'.ownsRow w.heap.size 25 3 (.slice A L.length c) L.length (cR L)∧DcV w' K V' p nts P labels r.1 T'∧oB nts P labels r.1 T'∧Upd V w w'∧(∀k,V' k→V k∨w.heap.size≤k) ∧
 (∀q,(Value.slice A L.length c).ownBlock=some q→¬V' q)∧iB nts T T' L∧L.Pairwise ltF∧(r.2.1=false→L=[])
open Go.RowKit Go.Shelf
theorem CmQ.after{w w1 w':World}{K F:Nat→Prop}{p nts:Nat}{P:List Pr}{labels:List Txt}{T:aX}{r:Gr × Bool × Int}{e:Ending}(hb:Below w.heap.size w w1)(h:CmQ w1 K F p nts P labels T r e w'):CmQ w K F p nts P labels T r e w':=by
 obtain⟨A,c,L,T',F',h1,h2,h3,h4,h5,h6,h7,h8,h9,h10⟩:=h;have hz:=hb.size;exact⟨A,c,L,T',F',h1,bC h2 (fun k hk=>Nat.le_trans hz (h2.lt k hk).1),h3,h4,(Upd.of_below hb F).trans h5 (fun i hi=>.inl hi),fun k hk=>(h6 k hk).imp id (fun h=>Nat.le_trans hz h),h7,h8,h9,h10⟩

open Go.RowKit Go.Shelf
theorem zP{N:List Txt}(hd:N.Nodup){i:Nat}{s:Txt}(h:N[i]?=some s):QX N s=.tuple #[.int .i64 (i:Int),.int .i64 0]:=by
 unfold QX;rw[if_pos (bK.2 (mG h)),jD hd h]

theorem BY(w:World)(Fg:Nat→Prop)(p pg g1 g2 g3 g4:Nat)(G:Gr)(hg:GrS w Fg pg G)(ok:GOk G)(x:Ed)(hx:oD x)(c1:w.cell? ⟨g1,0,none⟩=some (.pointer (some ⟨p,0,none⟩)))(c2:w.cell? ⟨g2,0,none⟩=some (.string x.fr))(c3:w.cell? ⟨g3,0,none⟩=some (.string x.lb))(c4:w.cell? ⟨g4,0,none⟩=some (.string x.to))(q3:w.cell? ⟨p,3,none⟩=some (.pointer (some ⟨pg,0,none⟩)))
  (n1:¬Fg g1) (n2:¬Fg g2) (n3:¬Fg g3) (n4:¬Fg g4) (np:¬Fg p):Calls Tryz.prog 46 #[.pointer (some ⟨g1,0,none⟩),.pointer (some ⟨g2,0,none⟩),.pointer (some ⟨g3,0,none⟩),.pointer (some ⟨g4,0,none⟩)] w (SI w Fg pg (aM G x)):=by
 have hcon:=BC w.drew Fg pg G (hg.below bR.drew) ok x hx;obtain⟨r,hr⟩:∃r,aM G x=r:=⟨_,rfl⟩;rw[hr] at hcon ⊢;have HS:=hIz (show ∀V,Upd Fg w V→V.cell? ⟨g1,0,none⟩=some (.pointer (some ⟨p,0,none⟩))∧V.cell? ⟨p,3,none⟩=some (.pointer (some ⟨pg,0,none⟩))∧V.cell? ⟨g2,0,none⟩=some (.string x.fr)∧V.cell? ⟨g3,0,none⟩=some (.string x.lb)∧V.cell? ⟨g4,0,none⟩=some (.string x.to) from fun V hu=>by
  have key:∀g o v,w.cell? ⟨g,o,none⟩=some v→¬Fg g→V.cell? ⟨g,o,none⟩=some v:=fun g o v h n=>(hu.cell (p:=⟨g,o,none⟩) (World.block_lt_of_cell? _ _ h) n).trans h
  exact⟨key _ _ _ c1 n1,key _ _ _ q3 np,key _ _ _ c2 n2,key _ _ _ c3 n3,key _ _ _ c4 n4⟩)
 clear hr hg n1 np n2 n3 n4;have h0:=HS.out w.drew (Upd.refl _ _).drew;clear c1 q3 c2 c3 c4;go_enter Tryz.func46,Tryz.ntmps46;go_upto_region 1 with (fail);refine aP (fun V:World=>V.cell? ⟨g1,0,none⟩=some (.pointer (some ⟨p,0,none⟩))∧V.cell? ⟨p,3,none⟩=some (.pointer (some ⟨pg,0,none⟩))∧V.cell? ⟨g2,0,none⟩=some (.string x.fr)∧V.cell? ⟨g3,0,none⟩=some (.string x.lb)∧V.cell? ⟨g4,0,none⟩=some (.string x.to)) 12 [(0,true),(1,true),(2,true),(3,true),(4,true),(5,true),(6,true),(7,false),(8,true),(9,true),(10,true),(11,true)] (by kernel_rfl) (by kernel_rfl) (fun _ _ d _ _ h=>by cases d <;> exact h) h0 ?_
 iterate 7 refine aD rfl ?_
 refine aK rfl rfl (fun K hK=>?_);go_simp;refine hcon.mono ?_;clear hcon h0;rintro e V ⟨rfl,ht⟩;have FIN:=hIz (CR.after (Below.refl _ w).drew ht);have hS:=HS.out V FIN.out.choose_spec.2.1;clear ht;refine hK _ _ (fun _=>hS) ?_;clear hK K hS;(try simp only[Act.put,gA,gS,gZ,sA,sZ,sS])
 iterate 4 refine aD rfl ?_
 refine aJ ?_;go_wp2;refine bodyPost_ret (v:=.tuple #[.bool r.2.1,.int .i64 r.2.2]) (by simp[results,Tryz.f46,go_sem]) rfl ⟨rfl,FIN.out⟩

theorem CA(w:World)(K Fg FT:Nat→Prop)(p nts pc cl pg:Nat)(PA LA:Option Addr)(PV:List Pv)(labels:List Txt)(mv:Value)(G:Gr)(T:aX)(h:DcI w K Fg FT p nts pc cl pg PA LA PV labels mv G T)(hok:oB nts (PV.map (·.pr)) labels G T)(hT:gI w)(hng:¬Fg 1)(hnt:¬FT 1)
  (x:Ed) (hx:oD x) (g1 g2 g3 g4:Nat) (c1:w.cell? ⟨g1,0,none⟩=some (.pointer (some ⟨p,0,none⟩))) (c2:w.cell? ⟨g2,0,none⟩=some (.string x.fr)) (c3:w.cell? ⟨g3,0,none⟩=some (.string x.lb)) (c4:w.cell? ⟨g4,0,none⟩=some (.string x.to)) (n1:¬Fg g1) (n2:¬Fg g2) (n3:¬Fg g3) (n4:¬Fg g4) :
  Calls Tryz.prog 42 #[.pointer (some ⟨p,0,none⟩),.func (.func 46) #[] #[.pointer (some ⟨g1,0,none⟩),.pointer (some ⟨g2,0,none⟩),.pointer (some ⟨g3,0,none⟩),.pointer (some ⟨g4,0,none⟩)],.func (.func 47) #[] #[.pointer (some ⟨g1,0,none⟩),.pointer (some ⟨g2,0,none⟩),.pointer (some ⟨g4,0,none⟩),.pointer (some ⟨g3,0,none⟩)]] w (CmQ w K (fun k=>Fg k∨FT k) p nts (PV.map (·.pr)) labels T (aM G x)):=by
 have hlen:=vO w Fg pg G h.gr;have q3:w.cell? ⟨p,3,none⟩=some (.pointer (some ⟨pg,0,none⟩)):=h.cp.blk.cell 3;have hnp:¬Fg p:=h.kg p h.cp.kp;have e1:∀args w,(callFunc 46 args).run Tryz.prog w=.ok (.enter 46 args) w:=enters_of Tryz.func46 (by kernel_rfl) rfl;have e2:∀args w,(callFunc 47 args).run Tryz.prog w=.ok (.enter 47 args) w:=enters_of Tryz.func47 (by kernel_rfl) rfl;obtain⟨n0,hn0⟩:∃n,G.N.length=n:=⟨_,rfl⟩;rw[hn0] at hlen;have HN:=hIz hn0;obtain⟨P,hPP⟩:∃P,PV.map (·.pr)=P:=⟨_,rfl⟩;have HP:=hIz hPP;rw[hPP];have H:=aI15 h hok hT hng hnt hx c1 n1 hnp c2 n2 c3 n3 c4 n4;clear h hok hT hng hnt hx c1 n1 hnp hn0 hPP c2 c3 c4 n2 n3 n4;go_enter Tryz.func42,Tryz.ntmps42;go_wp2_with fail;refine hlen.mono ?_;clear hlen q3;rintro e V1 ⟨rfl,b1⟩;have h1:=H.out.1.below b1;have hadd:=BY V1 Fg p pg g1 g2 g3 g4 G h1.gr H.out.2.1.ok x H.out.2.2.2.2.2.1 (aS b1 H.out.2.2.2.2.2.2.1) (aS b1 H.out.2.2.2.2.2.2.2.2.2.1) (aS b1 H.out.2.2.2.2.2.2.2.2.2.2.2.1) (aS b1 H.out.2.2.2.2.2.2.2.2.2.2.2.2.2.1) (h1.cp.blk.cell 3) H.out.2.2.2.2.2.2.2.1 H.out.2.2.2.2.2.2.2.2.2.2.1 H.out.2.2.2.2.2.2.2.2.2.2.2.2.1 H.out.2.2.2.2.2.2.2.2.2.2.2.2.2.2 H.out.2.2.2.2.2.2.2.2.1;have H1:=aI2 h1 b1;clear h1 b1;rcases BX G x with ⟨err,hr⟩|⟨hr,hnew⟩
 ·rw[hr] at hadd;have HR:=hIz hr;clear hr;go_wp2_with fail;refine hadd.mono ?_;clear hadd;rintro e V2 ⟨rfl,ht⟩;obtain⟨Fg',hd2,hF2,hu2⟩:=H1.out.1.graph ht;have FIN:=hIz (show CmQ w K (fun k=>Fg k∨FT k) p nts P labels T (aM G x) (.returned (.tuple #[.slice none 0 0,.bool false,.int .i64 err])) V2 from by
   rw[HR.out];exact⟨none,0,[],T,fun k=>Fg' k∨FT k,rfl,World.ownsRow_nil _ _ _ _,⟨Fg',FT,pc,cl,pg,PA,LA,PV,mv,hd2,HP.out,rfl⟩,by rw[← HP.out];exact H.out.2.1,((Upd.of_below H1.out.2 (fun k=>Fg k∨FT k)).trans hu2 (fun i hi=>.inl (.inl hi))),fun k hk=>by
    have:=H1.out.2.size;rcases hk with hk|hk
    ·exact(hF2 k hk).elim (fun h=>.inl (.inl h)) (fun h=>.inr (by omega))
    ·exact .inl (.inr hk),fun q hq=>by simp[Value.ownBlock] at hq,iB.start nts T,List.Pairwise.nil,fun _=>rfl⟩)
  clear ht hd2 hF2 hu2;dsimp only
  by_cases he:err=0
  ·subst he;go_wp2;refine bodyPost_ret (v:=.tuple #[.slice none 0 0,.bool false,.int .i64 0]) (by simp[results,Tryz.f42,go_sem]) rfl FIN.out
  ·have f1:(err==0)=false:=by simp;omega
   have f2:(err != 0)=true:=by simp;omega
   have f3:(!(err==0))=true:=by rw[f1];rfl
   clear he;go_wp2;refine bodyPost_ret (v:=.tuple #[.slice none 0 0,.bool false,.int .i64 err]) (by simp[results,Tryz.f42,go_sem]) rfl FIN.out
 ·have hok':GOk (⟨cI (cI G.N x.fr) x.to,G.X++[x]⟩:Gr):=by
   have:=H.out.2.1.ok.edge x;rwa [hr] at this
  rw[hr] at hadd;have HR:=hIz hr;obtain⟨Y,hY⟩:∃Y,(⟨cI (cI G.N x.fr) x.to,G.X++[x]⟩:Gr)=Y:=⟨_,rfl⟩;have hpre:G.N <+: Y.N:=by rw[← hY];exact(zO _ _).trans (zO _ _)
  have hYok:GOk Y:=hY ▸ hok'
  have h32:Y.N.length≤32:=hYok.few.1;rw[hY] at hadd;have HY:=aI5 hY hnew hpre hYok h32;clear hr hok' hnew hY hpre hYok h32;go_wp2_with fail;refine hadd.mono ?_;clear hadd;rintro e V2 ⟨rfl,ht⟩;dsimp only at ht ⊢
  obtain⟨Fg',hd2,hF2,hu2⟩:=H1.out.1.graph ht;have hlen:=vO V2 Fg' pg Y hd2.gr;have q3:V2.cell? ⟨p,3,none⟩=some (.pointer (some ⟨pg,0,none⟩)):=hd2.cp.blk.cell 3;obtain⟨n1,hn1⟩:∃n,Y.N.length=n:=⟨_,rfl⟩;rw[hn1] at hlen;have HN1:=hIz hn1;have H2:=aI3 hd2 hF2 hu2;clear ht hd2 hF2 hu2 hn1;go_wp2_with fail;refine hlen.mono ?_;clear hlen q3;rintro e V3 ⟨rfl,b3⟩;have hd3:=H2.out.1.below b3;have q0:V3.cell? ⟨p,0,none⟩=some (.int .i64 (nts:Int)):=hd3.cp.blk.cell 0;have hno:=mJ V3 nts H.out.2.1.n5;have H3:=aI2 hd3 b3;clear hd3 b3;go_wp2_with fail;refine hno.mono ?_;clear hno q0;rintro e V4 ⟨vn,F4,rfl,m4,hF4,b4⟩;have hd4:=H3.out.1.below b4;have hnk4:∀k,F4 k→¬K k:=fun k hk hk2=>by have:=hF4 k hk;have:=H3.out.1.klt k hk2;omega
  have hgP:∀x∈PV,xS nts x.pr:=fun x hx=>H.out.2.1.g _ (List.mem_map.2 ⟨x,hx,rfl⟩)
  have hmP:PV.length≤140737488355328:=by have:=H.out.2.1.pl;rw[List.length_map] at this;omega
  have hle01:n0≤n1:=by have:=HY.out.2.2.1.length_le;rw[HN.out,HN1.out] at this;exact this
  have hle32:n1≤32:=by have:=HY.out.2.2.2.2;rw[HN1.out] at this;exact this
  have hnod:=rE V4 K F4 p nts pc cl pg PA LA PV labels mv hd4.cp vn noM m4 hnk4 hgP (fun k r e=>by cases e) n0 n1 hle32 hle01 hmP;have H4:=aI3 hd4 hF4 b4;obtain⟨A4,c4,rfl⟩:=m4.form;clear hd4 hnk4 m4 hF4 b4 hgP hmP hle01;go_wp2_with fail;refine hnod.mono ?_;clear hnod;rintro e V5 ⟨rfl,B5,⟨F5,m5,hu5,hF5⟩,hB5⟩;have hz3:=H2.out.2.2.size;have hd5:DcI V5 K Fg' FT p nts pc cl pg PA LA PV labels mv Y T:=H4.out.1.upd hu5 (fun k hk hf=>by
   have h1:=H4.out.2.1 k hf;have h2:=H3.out.1.klt k;have h3:=H3.out.1.gr.flt k;have h4:=H3.out.1.mt.lt k;rcases hk with hk|hk|hk
   ·have:=h2 hk;omega
   ·have:=h3 hk;omega
   ·have:=h4 hk;omega)
  have hF5':∀k,F5 k→V3.heap.size≤k:=fun k hk=>(hF5 k hk).elim (H4.out.2.1 k) (fun h=>Nat.le_trans H4.out.2.2.size h)
  have bw5:Below V3.heap.size V3 V5:=H4.out.2.2.trans (hu5.below (fun k _ hk=>H4.out.2.1 k hk) H4.out.2.2.size);have H5:=aI5 hd5 m5 hF5' bw5 hB5;clear hd5 m5 hF5' bw5 hB5 hu5 hF5;have hY1:=HY.out.1;have hYo:=HY.out.2.2.2.1;obtain⟨u,hu⟩:∃u,Y.N[u]?=some x.fr:=List.getElem?_of_mem (by rw[← hY1];exact dC.2 (.inl (dC.2 (.inr rfl))));obtain⟨v,hv⟩:∃v,Y.N[v]?=some x.to:=List.getElem?_of_mem (by rw[← hY1];exact dC.2 (.inr rfl));have hul:=(gO.1 hu).1;have hvl:=(gO.1 hv).1;have h32:=HY.out.2.2.2.2;have hd5:=H5.out.1;have hu25:Upd (fun _=>False) V2 V5:=Upd.of_below (tHn H3.out.2 H5.out.2.2.2.1) _;have ck:∀g v,V1.cell? ⟨g,0,none⟩=some v→¬Fg g→V5.cell? ⟨g,0,none⟩=some v:=fun g v hc hn=>by
   have h1:=(H2.out.2.2.cell (p:=⟨g,0,none⟩) (World.block_lt_of_cell? _ _ hc) hn).trans hc;exact(hu25.cell (p:=⟨g,0,none⟩) (World.block_lt_of_cell? _ _ h1) id).trans h1
  have hF5n:∀g v,w.cell? ⟨g,0,none⟩=some v→¬F5 g:=fun g v hc hf=>by
   have h1:=H5.out.2.2.1 g hf;have h2:=World.block_lt_of_cell? _ _ hc;have h3:=H1.out.2.size;have h4:=H2.out.2.2.size;have h5:=H3.out.2.size;dsimp only at h2
   omega
  have hbr:=BV V5 K Fg' FT F5 p nts pc cl pg PA LA PV labels mv Y T hd5 hYo (.slice A4 nts c4) B5 H5.out.2.1 (fun k hf hk=>by have:=H5.out.2.2.1 k hf;have:=H3.out.1.klt k hk;omega) (fun x hx=>H.out.2.1.g _ (List.mem_map.2 ⟨x,hx,rfl⟩)) (fun y hy s hs=>H.out.2.1.l1 _ (List.mem_map.2 ⟨y,hy,rfl⟩) s hs) H5.out.2.2.2.2.1 (by have:=H.out.2.1.pl;rw[List.length_map] at this;omega) (by have:=H.out.2.1.ll;omega)
   g1 g2 g4 g3 x.fr x.lb x.to H.out.2.2.2.2.2.1.1 H.out.2.2.2.2.2.1.2.2 (ck g1 _ (aS H1.out.2 H.out.2.2.2.2.2.2.1) H.out.2.2.2.2.2.2.2.1) (ck g2 _ (aS H1.out.2 H.out.2.2.2.2.2.2.2.2.2.1) H.out.2.2.2.2.2.2.2.2.2.2.1) (ck g4 _ (aS H1.out.2 H.out.2.2.2.2.2.2.2.2.2.2.2.2.2.1) H.out.2.2.2.2.2.2.2.2.2.2.2.2.2.2) (ck g3 _ (aS H1.out.2 H.out.2.2.2.2.2.2.2.2.2.2.2.1) H.out.2.2.2.2.2.2.2.2.2.2.2.2.1) (hF5n g1 _ H.out.2.2.2.2.2.2.1) (hF5n g3 _ H.out.2.2.2.2.2.2.2.2.2.2.2.1) u v (zP hYo.nd hu) (zP hYo.nd hv) (by omega) (by omega)
  clear hu25 ck hF5n hd5;go_wp2_with fail;refine hbr.mono ?_;clear hbr;rintro e V6 ⟨rfl,B6,⟨F6,m6,hu6,hF6⟩,hB6⟩;have H6:=hIz (show DcI V6 K Fg' FT p nts pc cl pg PA LA PV labels mv Y T∧MtS V6 F6 (.slice A4 nts c4) 32 nts B6∧(∀k,F6 k→V3.heap.size≤k)∧Below V3.heap.size V3 V6∧DlI (PV.map (·.pr)) (ElG Y labels) n1 nts T B6 from by
   have z5:=H5.out.2.2.2.1.size;refine⟨H5.out.1.upd hu6 (fun k hk hf=>?_),m6,fun k hk=>(hF6 k hk).elim (H5.out.2.2.1 k) (fun h=>Nat.le_trans z5 h),H5.out.2.2.2.1.trans (hu6.below (fun k _ hk=>H5.out.2.2.1 k hk) z5),?_⟩
   ·have h1:=H5.out.2.2.1 k hf;have h2:=H3.out.1.klt k;have h3:=H3.out.1.gr.flt k;have h4:=H3.out.1.mt.lt k;rcases hk with hk|hk|hk
    ·have:=h2 hk;omega
    ·have:=h3 hk;omega
    ·have:=h4 hk;omega
   ·have hB:=H5.out.2.2.2.2;have hp:=HY.out.2.2.1;rw[← HN1.out];rw[← HN.out,← HN1.out] at hB;obtain⟨YN,YX⟩:=Y;have e2:YX=G.X++[x]:=by injection hY1 with _ e2;exact e2.symm
    subst e2;exact H.out.2.1.edge hp hYo hu hv hB hB6)
  clear m6 hu6 hF6 hB6 hY1 hYo hu hv hul hvl h32;obtain⟨hd6,m6,hF6,bw6,hI6⟩:=H6.out;have hlt3:∀k,K k∨Fg' k∨FT k→k<V3.heap.size:=fun k hk=>by
   have h2:=H3.out.1.klt k;have h3:=H3.out.1.gr.flt k;have h4:=H3.out.1.mt.lt k;rcases hk with hk|hk|hk
   ·exact h2 hk
   ·exact h3 hk
   ·exact h4 hk
  have hTw:gI V6:=(((H.out.2.2.1.upd (Upd.of_below H1.out.2 (fun _=>False)) H.out.2.2.1.lt id).upd H2.out.2.2 (Nat.lt_of_lt_of_le H.out.2.2.1.lt H1.out.2.size) H.out.2.2.2.1).upd (Upd.of_below (tHn H3.out.2 bw6) (fun _=>False)) (by have:=H.out.2.2.1.lt;have:=H1.out.2.size;have:=H2.out.2.2.size;omega) id);have hgrow:=wD V6 K FT F6 p nts pc cl pg PA LA PV labels mv (.slice A4 nts c4) T B6 (ElG Y labels) n1 ⟨hd6.cp,hd6.mt,m6,hd6.kt,fun k hk hf=>by have:=hF6 k hf;have:=hlt3 k (.inl hk);omega,fun k hk hf=>by have:=hF6 k hf;have:=hlt3 k (.inr (.inr hk));omega,fun x hx=>H.out.2.1.g _ (List.mem_map.2 ⟨x,hx,rfl⟩),hI6,fun k i j e=>by have:=e.lt;rw[HN1.out] at this;exact this,hle32,hTw,H.out.2.2.2.2.1,fun hf=>by have:=hF6 _ hf;have:=H.out.2.2.1.lt;have:=H1.out.2.size;have:=H2.out.2.2.size;have:=H3.out.2.size;omega⟩ H.out.2.1.n1 H.out.2.1.n5 (by have:=H.out.2.1.pl;rw[List.length_map] at this;omega);have HL3:=hIz hlt3;clear hd6 m6 hF6 bw6 hI6 hlt3 hTw;go_wp2_with fail;refine hgrow.mono ?_;clear hgrow;rintro e V7 ⟨v7,rfl,A7,c7,L7,T7,FT7,rfl,own7,m7,hu7,hF7,hr7,hg7,hs7,hw7,hd7⟩;have FIN:=hIz (show CmQ w K (fun k=>Fg k∨FT k) p nts P labels T (aM G x) (.returned (.tuple #[.slice A7 L7.length c7,.bool true,.int .i64 0])) V7 from by
   rw[HR.out,HY.out.1];obtain⟨hd6,m6,hF6,bw6,hI6⟩:=H6.out;have z1:=H1.out.2.size;have z2:=H2.out.2.2.size;have z3:=H3.out.2.size;have z6:=bw6.size;have z7:=hu7.size;have hR:∀k,K k∨Fg' k→¬(FT k∨F6 k):=fun k hk hf=>by
    rcases hf with hf|hf
    ·exact hk.elim (fun hk=>hd6.kt k hk hf) (fun hk=>hd6.gt k hk hf)
    ·have h1:=hF6 k hf;have h2:=HL3.out k (hk.elim .inl (fun h=>.inr (.inl h)));omega
   have hd8:=hd6.facts m7 hu7 hR hF7;refine⟨A7,c7,L7,T7,fun k=>Fg' k∨FT7 k,rfl,bC own7 (fun k hk=>by have:=(own7.lt k hk).1;omega),⟨Fg',FT7,pc,cl,pg,PA,LA,PV,mv,hd8,HP.out,rfl⟩,⟨HY.out.2.2.2.1,by rw[← HP.out];exact H.out.2.1.g,by rw[← HP.out];exact H.out.2.1.l1,hw7,?_,H.out.2.1.n1,H.out.2.1.n5,by rw[← HP.out];exact H.out.2.1.pl,H.out.2.1.ll⟩,?_,fun k hk=>?_,fun q hq hk=>?_,hg7,hs7,fun h=>by cases h⟩
   ·intro k hk i j;rw[hd7 k hk i j,← HP.out];show _↔gR _ (ElG Y labels) Y.N.length _ _ _
    rw[HN1.out]
   ·exact((((Upd.of_below H1.out.2 (fun k=>Fg k∨FT k)).trans H2.out.2.2 (fun i hi=>.inl (.inl hi))).trans (Upd.of_below (H3.out.2.trans (bw6.mono z3)) (fun _=>False)) (fun i hi=>hi.elim)).trans hu7 (fun i hi=>by
     rcases hi with hi|hi
     ·exact .inl (.inr hi)
     ·exact .inr (by have:=hF6 i hi;omega)))
   ·rcases hk with hk|hk
    ·exact(H2.out.2.1 k hk).elim (fun h=>.inl (.inl h)) (fun h=>.inr (by omega))
    ·exact(hF7 k hk).elim (fun h=>.inl (.inr h)) (fun h=>.inr (by omega))
   ·have h1:=(own7.lt q hq).1;rcases hk with hk|hk
    ·have:=HL3.out q (.inr (.inl hk));omega
    ·exact hr7 q hq hk)
  obtain⟨l7,hl7⟩:∃l,L7.length=l:=⟨_,rfl⟩;rw[hl7] at FIN ⊢;clear own7 m7 hu7 hF7 hr7 hg7 hs7 hw7 hd7 hl7;go_wp2;refine bodyPost_ret (v:=.tuple #[.slice A7 l7 c7,.bool true,.int .i64 0]) (by simp[results,Tryz.f42,go_sem]) rfl FIN.out
theorem jU(w:World)(K V0:Nat→Prop)(p nts:Nat)(P:List Pr)(labels:List Txt)(G:Gr)(T:aX)(h:DcV w K V0 p nts P labels G T)(hok:oB nts P labels G T)(hT:gI w)(hnt:¬V0 1)(x:Ed)(hx:oD x) :
  Calls Tryz.prog 10 #[.pointer (some ⟨p,0,none⟩),.string x.fr,.string x.lb,.string x.to] w (CmQ w K V0 p nts P labels T (aM G x)):=by
 obtain⟨Fg,FT,pc,cl,pg,PA,LA,PV,mv,hi,rfl,rfl⟩:=h;have b1:Below w.heap.size w ((((w.alloc (.cells #[.pointer (some ⟨p,0,none⟩)] 26)).alloc (.cells #[.string x.fr] 9)).alloc (.cells #[.string x.lb] 9)).alloc (.cells #[.string x.to] 9)):=by(repeat (first | exact Below.refl _ _ | apply Below.drew | refine Below.alloc ?_ (by first | exact Nat.le_refl _ | (simp;done) | (simp;omega)) _ | refine Below.setCell ?_ (by first | exact Nat.le_refl _ | (simp;done) | (simp;omega)) _))
 have k1:Blk ((((w.alloc (.cells #[.pointer (some ⟨p,0,none⟩)] 26)).alloc (.cells #[.string x.fr] 9)).alloc (.cells #[.string x.lb] 9)).alloc (.cells #[.string x.to] 9)) w.heap.size 26 #[.pointer (some ⟨p,0,none⟩)]:=(((Blk.new w 26 #[.pointer (some ⟨p,0,none⟩)]).alloc _).alloc _).alloc _;have k2:Blk ((((w.alloc (.cells #[.pointer (some ⟨p,0,none⟩)] 26)).alloc (.cells #[.string x.fr] 9)).alloc (.cells #[.string x.lb] 9)).alloc (.cells #[.string x.to] 9)) (w.heap.size+1) 9 #[.string x.fr]:=by
  have:=(Blk.new (w.alloc (.cells #[.pointer (some ⟨p,0,none⟩)] 26)) 9 #[.string x.fr]).alloc (.cells #[.string x.lb] 9) |>.alloc (.cells #[.string x.to] 9);simpa only [World.size_alloc] using this
 have k3:Blk ((((w.alloc (.cells #[.pointer (some ⟨p,0,none⟩)] 26)).alloc (.cells #[.string x.fr] 9)).alloc (.cells #[.string x.lb] 9)).alloc (.cells #[.string x.to] 9)) (w.heap.size+2) 9 #[.string x.lb]:=by
  have:=(Blk.new ((w.alloc (.cells #[.pointer (some ⟨p,0,none⟩)] 26)).alloc (.cells #[.string x.fr] 9)) 9 #[.string x.lb]).alloc (.cells #[.string x.to] 9);simpa only [World.size_alloc] using this
 have k4:Blk ((((w.alloc (.cells #[.pointer (some ⟨p,0,none⟩)] 26)).alloc (.cells #[.string x.fr] 9)).alloc (.cells #[.string x.lb] 9)).alloc (.cells #[.string x.to] 9)) (w.heap.size+3) 9 #[.string x.to]:=by
  have:=(Blk.new (((w.alloc (.cells #[.pointer (some ⟨p,0,none⟩)] 26)).alloc (.cells #[.string x.fr] 9)).alloc (.cells #[.string x.lb] 9)) 9 #[.string x.to]);simpa only [World.size_alloc] using this
 obtain⟨W,hW⟩:∃W,(((w.alloc (.cells #[.pointer (some ⟨p,0,none⟩)] 26)).alloc (.cells #[.string x.fr] 9)).alloc (.cells #[.string x.lb] 9)).alloc (.cells #[.string x.to] 9)=W:=⟨_,rfl⟩;rw[hW] at b1 k1 k2 k3 k4;have hi1:=hi.below b1;have his:=pU W p pg (hi1.cp.blk.cell 3);have hlt:∀k,Fg k→k<w.heap.size:=hi.gr.flt;have hcome:=CA W K Fg FT p nts pc cl pg PA LA PV labels mv G T hi1 hok (hT.upd (upF b1) hT.lt id) (fun e=>hnt (.inl e)) (fun e=>hnt (.inr e)) x hx w.heap.size (w.heap.size+1) (w.heap.size+2) (w.heap.size+3) (k1.cell 0) (k2.cell 0) (k3.cell 0) (k4.cell 0) (fun e=>by have:=hlt _ e;omega) (fun e=>by have:=hlt _ e;omega) (fun e=>by have:=hlt _ e;omega) (fun e=>by have:=hlt _ e;omega);have q0:W.cell? ⟨w.heap.size,0,none⟩=some (.pointer (some ⟨p,0,none⟩)):=k1.cell 0;have H:=hIz b1;clear b1 hi hi1 hlt hok hT hnt hx k1 k2 k3 k4;go_enter Tryz.func10,Tryz.ntmps10;go_upto_region 1 with (fail);(try rw[hW])
 clear hW;go_wp2_with fail;refine his.mono ?_;clear his;rintro e V ⟨rfl,hw⟩;subst V;go_wp2_with fail;refine hcome.mono ?_;clear hcome q0;rintro e V hq;obtain⟨A,c,L,T',F',rfl,h2⟩:=hq;obtain⟨l,hl⟩:∃l,L.length=l:=⟨_,rfl⟩;have FIN:=hIz (show CmQ w K (fun k=>Fg k∨FT k) p nts (PV.map (·.pr)) labels T (aM G x) (.returned (.tuple #[.slice A l c,.bool (aM G x).2.1,.int .i64 (aM G x).2.2])) V from CmQ.after H.out ⟨A,c,L,T',F',by rw[hl],h2⟩);rw[hl];clear h2 hl;obtain⟨r,hr⟩:∃r,aM G x=r:=⟨_,rfl⟩;rw[hr] at FIN ⊢;have HR:=hIz hr;clear hr;go_wp2;refine bodyPost_ret (v:=.tuple #[.slice A l c,.bool r.2.1,.int .i64 r.2.2]) (by simp[results,Tryz.f10,go_sem]) rfl (by rw[HR.out];exact FIN.out)
end Go.Proofs.YtnokckdkaifibaaGreatDoor
