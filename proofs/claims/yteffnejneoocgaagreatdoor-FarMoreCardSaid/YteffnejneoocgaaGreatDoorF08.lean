/- Graphs: an edge that comes (the walk); Edges: cut to what this seat wants; Edges: cut to what this seat wants; Edges: cut to what this seat wants; Graphs: Data; Graphs: what stands in a graph's rows; Graphs: Has; Graphs: New, Of, Nodes, Node; clones; Edges: cut to what this seat wants; Edges: cut to what this seat wants; Graphs that grow: what comes edge by edge; what is refused or comes again (the plain law); Graphs: Of; Graphs: Out; Graphs: In, Len, Labels. -/
import Derived.Test.YteffnejneoocgaaGreatDoorF07
import Derived.Test.YteffnejneoocgaaGreatDoorF04
import Derived.Laws.Cover3
import Derived.Shelf.SlMaps.Clone
set_option linter.unusedVariables false
set_option linter.unusedSimpArgs false
set_option maxHeartbeats 16000000
set_option maxRecDepth 100000
namespace Go.Proofs.YteffnejneoocgaaGreatDoor
open Go.RowKit
theorem jK{w:World}{n:Nat}{v:Value}{f:Nat→Value}{t:TypeId}(h:w.ownsRow 0 t 1 v n (pL f n)){k:Nat}(hk:k<n) :
  ∃g c,v=.slice (some ⟨g,0,none⟩) n c∧v.ownBlock=some g∧w.cell? ⟨g,k,none⟩=some (f k)∧w.frozen? ⟨g,k,none⟩=false:=by
 obtain⟨g,c,e,e2,-,-,-,hc⟩:=aN h (Nat.lt_of_le_of_lt (Nat.zero_le _) hk);exact⟨g,c,e,e2,hc k _ (NZ hk)⟩
def EB(N:List Txt)(U:Nat→List Hp)(x:Ed):Nat→List Hp:=iU U (eE N x.fr) (tS (U (eE N x.fr)) ⟨x.lb,eE N x.to⟩)
def EC(N:List Txt)(V:Nat→List Hp)(x:Ed):Nat→List Hp:=iU V (eE N x.to) (tS (V (eE N x.to)) ⟨x.lb,eE N x.fr⟩)
def RP(w:World)(F:Nat→Prop)(p:Nat)(N:List Txt)(U V:Nat→List Hp)(cnt:Int)(x:Ed)(e:Ending)(w':World):Prop:=
 e=.returned (.tuple #[])∧jE w F p (dN (dN N x.fr) x.to) (EB (dN (dN N x.fr) x.to) U x) (EC (dN (dN N x.fr) x.to) V x) (cnt+1) w'
theorem rX(N:List Txt)(s:Txt):(dN N s).length≤N.length+1:=by
 unfold dN;split
 ·omega
 ·simp
theorem yJ(w:World)(F:Nat→Prop)(p:Nat)(N:List Txt)(U V:Nat→List Hp)(cnt:Int)(x:Ed)(h:sU w F p N U V cnt)(hx:BS x)(hl:N.length≤900000)(hU:∀k,cT ltH (U k)∧(U k).length≤1000000)(hV:∀k,cT ltH (V k)∧(V k).length≤1000000)(hc:0≤cnt∧cnt≤1000000) :
  Calls Tryz.prog 38 #[.pointer (some ⟨p,0,none⟩),x.agg] w (RP w F p N U V cnt x):=by
 obtain⟨s0,s1,s2⟩:=x;have k0:=Blk.new w 88 #[.string s0,.string s1,.string s2];have u0:Below w.heap.size w (w.alloc (.cells #[.string s0,.string s1,.string s2] 88)):=bR.alloc (Nat.le_refl _) _;have HG:=aI6 (h.below u0) k0 u0 hU hV h.lt;clear h k0 u0 hU hV;unfold Ed.agg;dsimp only
 go_enter Tryz.func38,Tryz.ntmps38;go_upto_region 1 with (fail);generalize w.alloc (.cells #[.string s0,.string s1,.string s2] 88)=W0 at HG ⊢;have SR:=hIz (show ∀W,Upd F W0 W→W.cell? ⟨w.heap.size,0,none⟩=some (.string s0)∧W.cell? ⟨w.heap.size,2,none⟩=some (.string s2) from fun W hu=>by
  have kb:=HG.out.2.1.upd hu (fun e=>by have:=HG.out.2.2.2.2.2 _ e;omega);exact⟨kb.cell 0,kb.cell 2⟩)
 have hS:=SR.out W0.drew (Upd.refl _ _).drew;have HD:=hIz (HG.out.1.below (w':=W0.drew) bR.drew);have HU0:=hIz (show Upd F W0 W0.drew from(Upd.refl _ _).drew);refine aF (fun W=>W.cell? ⟨w.heap.size,0,none⟩=some (.string s0)∧W.cell? ⟨w.heap.size,2,none⟩=some (.string s2)) 10 [(0,true),(1,true),(2,true),(4,true),(5,true),(6,true),(3,false),(7,false),(8,true),(9,true)] hS ?_;generalize W0.drew=W1 at HD HU0 hS ⊢
 iterate 6 refine aC rfl ?_
 refine aM rfl rfl (fun K hK=>?_);go_simp;refine(rN W1 F p N U V cnt s0 HD.out hx.1 (by omega)).mono ?_;rintro e W2 ⟨rfl,F2,g2,u2,n2⟩;have H2:=aI3 g2 (HU0.out.trans u2 (fun _ h=>.inl h)) (show ∀k,F2 k→F k∨W0.heap.size≤k from fun k hk=>(n2 k hk).imp id fun h=>Nat.le_trans HU0.out.size h);clear g2 u2 n2;refine hK _ _ (fun _=>SR.out _ H2.out.2.1) ?_;clear hK K hS HD HU0;(try simp only[Act.put,gA,gS,gZ,sA,sZ,sS])
 refine aM rfl rfl (fun K hK=>?_);go_simp;refine(rN W2 F2 p (dN N s0) U V cnt s2 H2.out.1 hx.2.2 (by have:=rX N s0;omega)).mono ?_;rintro e W3 ⟨rfl,F3,g3,u3,n3⟩;have H3:=aI3 g3 (H2.out.2.1.trans u3 H2.out.2.2) (show ∀k,F3 k→F k∨W0.heap.size≤k from fun k hk=>by
  rcases n3 k hk with h|h
  ·exact H2.out.2.2 k h
  ·exact .inr (Nat.le_trans H2.out.2.1.size h))
 clear g3 u3 n3;refine hK _ _ (fun _=>SR.out _ H3.out.2.1) ?_;clear hK K H2;(try simp only[Act.put,gA,gS,gZ,sA,sZ,sS])
 have hS:=SR.out _ H3.out.2.1;refine aC rfl ?_;refine aC rfl ?_;refine aG ?_;clear hS;have GX:=hIz (show ∀W,Upd F W0 W→W.cell? ⟨w.heap.size,1,none⟩=some (.string s1) from fun W hu=>by
  have kb:=HG.out.2.1.upd hu (fun e=>by have:=HG.out.2.2.2.2.2 _ e;omega);exact kb.cell 1)
 have hgx:=HG.out.2.1.lt;have hi0:eE (dN (dN N s0) s2) s0=eE N s0:=by rw[gP (eY.2 (.inr rfl)),yA]
 have hi2:eE (dN (dN N s0) s2) s2=eE (dN N s0) s2:=yA _ _;have hm0:eE N s0<(dN (dN N s0) s2).length:=by rw[← hi0];exact fY (eY.2 (.inl (eY.2 (.inr rfl))))
 have hm2:eE (dN N s0) s2<(dN (dN N s0) s2).length:=by rw[← hi2];exact fY (eY.2 (.inr rfl))
 obtain⟨i,hi⟩:∃u,eE N s0=u:=⟨_,rfl⟩;obtain⟨j,hj⟩:∃u,eE (dN N s0) s2=u:=⟨_,rfl⟩;have hNl:(dN (dN N s0) s2).length≤1000000:=by have:=rX N s0;have:=rX (dN N s0) s2;omega
 unfold RP;dsimp only
 obtain⟨M,hM⟩:∃u,dN (dN N s0) s2=u:=⟨_,rfl⟩;rw[hM] at hNl hi0 hi2 hm0 hm2 H3 ⊢;rw[hi] at hi0 hm0 ⊢;rw[hj] at hi2 hm2 ⊢;have HI:=aI3 hM hi0 hi2;clear hi hj hM hi0 hi2;-- out
 have H5:Hid (sU W3 F3 p M U V cnt∧Upd F W0 W3∧∀k,F3 k→F k∨W0.heap.size≤k):=H3;obtain⟨O,⟨r,nv,ov,iv,fo,fi⟩,hg,hFO⟩:=H5.out.1;obtain⟨g,c,e,eo,cu,fu⟩:=jK hg.ro hm0;dsimp only at e
 subst e;obtain⟨A,cA,eA,-,-⟩:=aK (hg.fo i);dsimp only at eA cu
 rw[eA] at cu;have own0:=hg.fo i;dsimp only at own0
 rw[eA] at own0;have hup:=HG.out.2.2.2.1 i;obtain⟨L,hL⟩:∃L,U i=L:=⟨_,rfl⟩;obtain⟨l,hl0⟩:∃l,L.length=l:=⟨_,rfl⟩;rw[hL] at hup own0 eA cu;have hcon:=CT W3.drew 0 A cA L ⟨s1,(j:Int)⟩ own0 hup.1 (Nat.zero_le _) (by omega);rw[hl0] at hcon eA cu;unfold Hp.agg at hcon;dsimp only at hcon
 have q2:W3.cell? ⟨p,2,none⟩=some (.slice (some ⟨g,0,none⟩) M.length c):=hg.blk.cell 2;have og:O g=some .o:=hg.oo g rfl;have npg:p≠g:=fun e=>by rw[← e,hg.op] at og;cases og
 have hgx5:∀k,O k≠none→¬k=w.heap.size:=fun k hk e=>by
  have h1:=H5.out.2.2 k (by rw[hFO];exact hk);rcases h1 with h1|h1
  ·have:=HG.out.2.2.2.2.2 _ h1;omega
  ·omega
 have STAY:=hIz (show ∀W,Upd (fun k=>(fo i).ownBlock=some k) W3 W→W.cell? ⟨p,2,none⟩=some (.slice (some ⟨g,0,none⟩) M.length c)∧W.cell? ⟨g,i,none⟩=some (.slice A l cA)∧W.cell? ⟨w.heap.size,1,none⟩=some (.string s1) from fun W hu=>by
  have no:∀k,(fo i).ownBlock=some k→O k=some (.oo i):=fun k hk=>hg.oU i k hk
  refine⟨(hg.blk.upd hu (fun e=>by have:=no p e;rw[hg.op] at this;cases this)).cell 2,?_,?_⟩
  ·rw[← cu];exact hu.cell (p:=⟨g,i,none⟩) (hg.lt g (by rw[og];nofun)) (fun e=>by have:=no g e;rw[og] at this;cases this)
  ·rw[← GX.out _ H5.out.2.1];exact hu.cell (p:=⟨w.heap.size,1,none⟩) (Nat.lt_of_lt_of_le hgx H5.out.2.1.size) (fun e=>hgx5 _ (by rw[no _ e];nofun) rfl))
 have FRO:=hIz (show ∀W,Upd (fun k=>(fo i).ownBlock=some k) W3 W→W.frozen? ⟨g,i,none⟩=false from fun W hu=>by
  have no:∀k,(fo i).ownBlock=some k→O k=some (.oo i):=fun k hk=>hg.oU i k hk
  exact(jK (aB hg.ro hu (fun k hk e=>by
   have h1:=no k e;rw[hg.oo k hk] at h1;cases h1)) hm0).elim fun g' h=>by
    obtain⟨c',e1,-,-,h4⟩:=h;injection e1 with e1;injection e1 with e1;injection e1 with e1;rw[e1];exact h4)
 have HGG:=aI5 hg hFO eA hL hl0;have hS:=STAY.out W3.drew (Upd.refl _ _).drew;clear hg hFO eA hL own0 hup og npg hgx5 q2 cu fu eo;have hml:(i:Int)<(M.length:Int):=by omega
 go_upto_region 2 with (fail);refine aF (fun W=>W.cell? ⟨p,2,none⟩=some (.slice (some ⟨g,0,none⟩) M.length c)∧W.cell? ⟨g,i,none⟩=some (.slice A l cA)∧W.cell? ⟨w.heap.size,1,none⟩=some (.string s1)) 18 [(0,true),(1,true),(2,true),(3,true),(4,true),(5,true),(6,true),(7,true),(8,true),(9,true),(10,true),(11,true),(12,true),(13,true),(14,true),(15,true),(16,false),(17,true),(18,false)] hS ?_;have HU5:=hIz (show Upd (fun _=>False) W3 W3.drew from(Upd.refl _ _).drew);generalize W3.drew=W4 at HU5 hS hcon ⊢
 iterate 16 refine aC rfl ?_
 refine aM rfl rfl (fun K hK=>?_);go_simp;refine hcon.mono ?_;clear hcon hS;rintro e W6 ⟨A6,c6,rfl,o6,u6,p6⟩;have u7:Upd (fun k=>(fo i).ownBlock=some k) W3 W6:=(HU5.out.mono (fun _ _ h=>h.elim)).trans u6 (fun k hk=>.inl (by rw[HGG.out.2.2.1];exact hk));have NX:=hIz (HGG.out.1.setO hm0 o6 u7 (fun k hk=>(p6 k hk).imp (fun h=>by show(fo i).ownBlock=some k;rw[HGG.out.2.2.1];exact h) (fun h=>Nat.le_trans HU5.out.size h)));have hS:=STAY.out _ u7;have r6:=hS.2.1;have f6:=FRO.out _ u7;clear u6 u7 o6 p6;refine hK _ _ (fun _=>hS) ?_;clear hK K;(try simp only[Act.put,gA,gS,gZ,sA,sZ,sS])
 refine aC rfl ?_;refine aM rfl rfl (fun K hK=>?_);go_simp;refine hK _ _ (fun h=>absurd rfl h) ?_;clear hK K hS r6 f6;(try simp only[Act.put,gA,gS,gZ,sA,sZ,sS])
 refine aG ?_;generalize W6.setCell ⟨g,i,none⟩ _=W7 at NX ⊢;have H7:Hid (∃F9,sU W7 F9 p M (iU U i (tS (U i) ⟨s1,(j:Int)⟩)) V cnt∧Upd F W0 W7∧∀k,F9 k→F k∨W0.heap.size≤k):=by
  obtain⟨F9,g9,u9,n9⟩:=NX.out;refine hIz ⟨F9,by rw[HGG.out.2.2.2.1];exact g9,H5.out.2.1.trans u9 (fun k hk=>H5.out.2.2 k (by rw[HGG.out.2.1];exact hk)),fun k hk=>?_⟩;rcases n9 k hk with h|h
  ·exact H5.out.2.2 k (by rw[HGG.out.2.1];exact h)
  ·exact .inr (Nat.le_trans H5.out.2.1.size h)
 clear NX HGG STAY FRO HU5 H5 hml;clear H3;obtain⟨F7,hF7⟩:=H7.out;have H7b:=hIz hF7;clear hF7 H7;-- in
 have H5:Hid (sU W7 F7 p M (iU U i (tS (U i) ⟨s1,(j:Int)⟩)) V cnt∧Upd F W0 W7∧∀k,F7 k→F k∨W0.heap.size≤k):=H7b;obtain⟨O,⟨r,nv,ov,iv,fo,fi⟩,hg,hFO⟩:=H5.out.1;obtain⟨g,c,e,eo,cu,fu⟩:=jK hg.ri hm2;dsimp only at e
 subst e;obtain⟨A,cA,eA,-,-⟩:=aK (hg.fi j);dsimp only at eA cu
 rw[eA] at cu;have own0:=hg.fi j;dsimp only at own0
 rw[eA] at own0;have hup:=HG.out.2.2.2.2.1 j;obtain⟨L,hL⟩:∃L,V j=L:=⟨_,rfl⟩;obtain⟨l,hl0⟩:∃l,L.length=l:=⟨_,rfl⟩;rw[hL] at hup own0 eA cu;have hcon:=CT W7.drew 0 A cA L ⟨s1,(i:Int)⟩ own0 hup.1 (Nat.zero_le _) (by omega);rw[hl0] at hcon eA cu;unfold Hp.agg at hcon;dsimp only at hcon
 have q2:W7.cell? ⟨p,3,none⟩=some (.slice (some ⟨g,0,none⟩) M.length c):=hg.blk.cell 3;have og:O g=some .i:=hg.oi g rfl;have npg:p≠g:=fun e=>by rw[← e,hg.op] at og;cases og
 have hgx5:∀k,O k≠none→¬k=w.heap.size:=fun k hk e=>by
  have h1:=H5.out.2.2 k (by rw[hFO];exact hk);rcases h1 with h1|h1
  ·have:=HG.out.2.2.2.2.2 _ h1;omega
  ·omega
 have STAY:=hIz (show ∀W,Upd (fun k=>(fi j).ownBlock=some k) W7 W→W.cell? ⟨p,3,none⟩=some (.slice (some ⟨g,0,none⟩) M.length c)∧W.cell? ⟨g,j,none⟩=some (.slice A l cA)∧W.cell? ⟨w.heap.size,1,none⟩=some (.string s1) from fun W hu=>by
  have no:∀k,(fi j).ownBlock=some k→O k=some (.ii j):=fun k hk=>hg.oV j k hk
  refine⟨(hg.blk.upd hu (fun e=>by have:=no p e;rw[hg.op] at this;cases this)).cell 3,?_,?_⟩
  ·rw[← cu];exact hu.cell (p:=⟨g,j,none⟩) (hg.lt g (by rw[og];nofun)) (fun e=>by have:=no g e;rw[og] at this;cases this)
  ·rw[← GX.out _ H5.out.2.1];exact hu.cell (p:=⟨w.heap.size,1,none⟩) (Nat.lt_of_lt_of_le hgx H5.out.2.1.size) (fun e=>hgx5 _ (by rw[no _ e];nofun) rfl))
 have FRO:=hIz (show ∀W,Upd (fun k=>(fi j).ownBlock=some k) W7 W→W.frozen? ⟨g,j,none⟩=false from fun W hu=>by
  have no:∀k,(fi j).ownBlock=some k→O k=some (.ii j):=fun k hk=>hg.oV j k hk
  exact(jK (aB hg.ri hu (fun k hk e=>by
   have h1:=no k e;rw[hg.oi k hk] at h1;cases h1)) hm2).elim fun g' h=>by
    obtain⟨c',e1,-,-,h4⟩:=h;injection e1 with e1;injection e1 with e1;injection e1 with e1;rw[e1];exact h4)
 have HGG:=aI5 hg hFO eA hL hl0;have hS:=STAY.out W7.drew (Upd.refl _ _).drew;clear hg hFO eA hL own0 hup og npg hgx5 q2 cu fu eo;have hml:(j:Int)<(M.length:Int):=by omega
 go_upto_region 3 with (fail);refine aF (fun W=>W.cell? ⟨p,3,none⟩=some (.slice (some ⟨g,0,none⟩) M.length c)∧W.cell? ⟨g,j,none⟩=some (.slice A l cA)∧W.cell? ⟨w.heap.size,1,none⟩=some (.string s1)) 18 [(0,true),(1,true),(2,true),(3,true),(4,true),(5,true),(6,true),(7,true),(8,true),(9,true),(10,true),(11,true),(12,true),(13,true),(14,true),(15,true),(16,false),(17,true),(18,false)] hS ?_;have HU5:=hIz (show Upd (fun _=>False) W7 W7.drew from(Upd.refl _ _).drew);generalize W7.drew=W4 at HU5 hS hcon ⊢
 iterate 16 refine aC rfl ?_
 refine aM rfl rfl (fun K hK=>?_);go_simp;refine hcon.mono ?_;clear hcon hS;rintro e W6 ⟨A6,c6,rfl,o6,u6,p6⟩;have u7:Upd (fun k=>(fi j).ownBlock=some k) W7 W6:=(HU5.out.mono (fun _ _ h=>h.elim)).trans u6 (fun k hk=>.inl (by rw[HGG.out.2.2.1];exact hk));have NX:=hIz (HGG.out.1.setI hm2 o6 u7 (fun k hk=>(p6 k hk).imp (fun h=>by show(fi j).ownBlock=some k;rw[HGG.out.2.2.1];exact h) (fun h=>Nat.le_trans HU5.out.size h)));have hS:=STAY.out _ u7;have r6:=hS.2.1;have f6:=FRO.out _ u7;clear u6 u7 o6 p6;refine hK _ _ (fun _=>hS) ?_;clear hK K;(try simp only[Act.put,gA,gS,gZ,sA,sZ,sS])
 refine aC rfl ?_;refine aM rfl rfl (fun K hK=>?_);go_simp;refine hK _ _ (fun h=>absurd rfl h) ?_;clear hK K hS r6 f6;(try simp only[Act.put,gA,gS,gZ,sA,sZ,sS])
 refine aG ?_;generalize W6.setCell ⟨g,j,none⟩ _=W9 at NX ⊢;have H9:Hid (∃F9,sU W9 F9 p M (iU U i (tS (U i) ⟨s1,(j:Int)⟩)) (iU V j (tS (V j) ⟨s1,(i:Int)⟩)) cnt∧Upd F W0 W9∧∀k,F9 k→F k∨W0.heap.size≤k):=by
  obtain⟨F9,g9,u9,n9⟩:=NX.out;refine hIz ⟨F9,by rw[HGG.out.2.2.2.1];exact g9,H5.out.2.1.trans u9 (fun k hk=>H5.out.2.2 k (by rw[HGG.out.2.1];exact hk)),fun k hk=>?_⟩;rcases n9 k hk with h|h
  ·exact H5.out.2.2 k (by rw[HGG.out.2.1];exact h)
  ·exact .inr (Nat.le_trans H5.out.2.1.size h)
 clear NX HGG STAY FRO HU5 H5 hml;clear H7b;obtain⟨F9,hF9⟩:=H9.out;obtain⟨O,D,hg,hFO⟩:=hF9.1;have q4:W9.cell? ⟨p,4,none⟩=some (.int .i64 cnt):=hg.blk.cell 4;have f4:W9.frozen? ⟨p,4,none⟩=false:=hg.blk.frozen 4;have hw:IntKind.i64.wrap (cnt+1)=cnt+1:=by rw[IntKind.wrap_i64];omega
 have NX:=hIz (hg.setC (cnt+1));have HF:=aI2 hF9 hFO;clear hF9 hFO hg H9;go_wp2;generalize W9.setCell ⟨p,4,none⟩ (.int .i64 (cnt+1))=WZ at NX ⊢;go_end0
 refine⟨rfl,?_⟩;unfold EB EC;dsimp only
 rw[HI.out.1,HI.out.2.1,HI.out.2.2];obtain⟨FZ,gz,uz,nz⟩:=NX.out;refine⟨FZ,gz,?_,?_⟩
 ·exact((Upd.of_below HG.out.2.2.1 F).trans HF.out.1.2.1 (fun k h=>.inl h)).trans uz (fun k hk=>(HF.out.1.2.2 k (by rw[HF.out.2];exact hk)).imp id fun h=>Nat.le_trans HG.out.2.2.1.size h)
 ·intro k hk;have hw0:=HG.out.2.2.1.size;rcases nz k hk with h|h
  ·exact(HF.out.1.2.2 k (by rw[HF.out.2];exact h)).imp id fun h=>Nat.le_trans hw0 h
  ·exact .inr (Nat.le_trans hw0 (Nat.le_trans HF.out.1.2.1.size h))
open Go.RowKit
def ofN(N:List Txt)(E:List Ed):List Txt:=if ofI N E=0 then gN N E else []
def ofE(N:List Txt)(E:List Ed):List Ed:=if ofI N E=0 then gE E else []
def OfQ(w:World)(N:List Txt)(E:List Ed)(e:Ending)(w':World):Prop:=
 ∃A c B d,e=.returned (.tuple #[cP A (ofN N E).length c B (ofE N E).length d,.int .i64 (ofI N E)])∧w'.ownsRow w.heap.size 9 1 (.slice A (ofN N E).length c) (ofN N E).length (aE (ofN N E))∧w'.ownsRow w.heap.size 88 3 (.slice B (ofE N E).length d) (ofE N E).length (aR (ofE N E))∧Below w.heap.size w w'
theorem OfQ.nil{w w':World}{N:List Txt}{E:List Ed}{z:Int}(h:ofI N E=z)(hz:z≠0)(hb:Below w.heap.size w w'):OfQ w N E (.returned (.tuple #[cP none 0 0 none 0 0,.int .i64 z])) w':=by
 subst h;unfold OfQ ofN ofE;rw[if_neg hz,if_neg hz];exact⟨none,0,none,0,rfl,World.ownsRow_nil _ _ _ _,World.ownsRow_nil _ _ _ _,hb⟩
theorem OfP.q{w w':World}{N:List Txt}{E:List Ed}{e:Ending}(h:OfP w N E e w'):OfQ w N E e w':=by
 rcases h with ⟨hn,rfl,hb⟩|⟨hn,⟨hc,A,c,B,d,rfl,o1,o2,hb⟩|⟨hc,rfl,hb⟩⟩
 ·exact OfQ.nil (by rw[ofI,if_pos hn]) (by decide) hb
 ·have h0:ofI N E=0:=by rw[ofI,if_neg (by rw[hn];simp),hc]
  unfold OfQ ofN ofE;rw[if_pos h0,if_pos h0,h0];exact⟨A,c,B,d,rfl,o1,o2,hb⟩
 ·exact OfQ.nil (by rw[ofI,if_neg (by rw[hn];simp)]) hc hb
theorem eL(w:World)(A:Option Addr)(c:Nat)(B:Option Addr)(d:Nat)(N:List Txt)(E:List Ed)(h:lN w A c B d N E)(hb:(N.length+E.length*2)*16≤140737488355328) :
  Calls Tryz.prog 84 #[.slice A N.length c,.slice B E.length d] w (OfQ w N E):=(NW w A c B d N E h hb).mono fun _ _ h=>h.q
open Go.RowKit
theorem jX{N:List Txt}{E:List Ed}(h:cK N E=0):fV N E=true∧bT N E=true∧cG N E=0:=by
 unfold cK at h;split at h
 ·cases h
 split at h
 ·cases h
 ·rename_i h1 h2
  exact⟨by simpa using h1,by simpa using h2,h⟩
theorem OJ{N:List Txt}{E:List Ed}(h:cG N E=0):N.length≤32∧(eD ltT (lbs E)).length≤16∧E.length≤256∧(mQ N E).length≤2048:=by
 unfold cG at h;split at h
 ·cases h
 split at h
 ·cases h
 split at h
 ·cases h
 split at h
 ·cases h
 ·omega
theorem yK{α:Type}[DecidableEq α]{lt:α→α→Bool}(hs:Sto lt){L M:List α}(hu:upB lt M=true)(hm:∀x,x∈M↔x∈L):eD lt L=M:=
 (gG.is hs ⟨eR hs hu,hm⟩).symm
open Go.RowKit
theorem bK{w:World}{base e size n:Nat}{v:Value}{xs:List Value}(h:w.ownsRow base e size v n xs):∃A c,v=.slice A n c∧n≤c∧aX w A xs:=by
 obtain⟨A,c,rfl,hc,-⟩:=aK h;exact⟨A,c,rfl,hc,aX.of_own h⟩
open Go.RowKit
def ED(N:List Txt)(k:Nat)(h:Hp):Ed:=⟨(N[k]?).getD ByteArray.empty,h.lb,(N[h.nd.toNat]?).getD ByteArray.empty⟩
def dS(N:List Txt)(U:Nat→List Hp)(k:Nat):List Ed:=(List.range k).flatMap fun i=>(U i).map (ED N i)
theorem jY(N:List Txt)(U:Nat→List Hp)(k:Nat):dS N U (k+1)=dS N U k++(U k).map (ED N k):=by simp[dS,List.range_succ]
theorem lG(w:World)(p r:Nat)(q1:w.cell? ⟨p,1,none⟩=some (.map (some r))):Calls Tryz.prog 50 #[.pointer (some ⟨p,0,none⟩)] w (gB w (.bool true)):=by
 have hq:∀W,(binOp .neq 136 (.map (some r)) (.map none)).run Tryz.prog W=.ok (.bool true) W:=fun W=>by
  have:=run_neq_map_nil (P:=Tryz.prog) W 136 9 3 (some r) Tryz.underlying136;simpa using this
 go_enter Tryz.func50,Tryz.ntmps50;go_wp2;go_ret;exact⟨rfl,rfl⟩
def RQ(w:World)(N:List Txt)(E:List Ed)(e:Ending)(w':World):Prop:=
 ∃A c B d,e=.returned (cP A (ofN N E).length c B (ofE N E).length d)∧w'.ownsRow w.heap.size 9 1 (.slice A (ofN N E).length c) (ofN N E).length (aE (ofN N E))∧w'.ownsRow w.heap.size 88 3 (.slice B (ofE N E).length d) (ofE N E).length (aR (ofE N E))∧Below w.heap.size w w'
theorem JY(w:World)(F:Nat→Prop)(p:Nat)(N:List Txt)(U V:Nat→List Hp)(cnt:Int)(h:sU w F p N U V cnt)(hl:N.length≤1000000)(hb:∀k,(dS N U k).length≤1000000)(hn:∀k x,x∈U k→0≤x.nd∧x.nd.toNat<N.length)(hf:QQ N (dS N U N.length)) :
  Calls Tryz.prog 83 #[.pointer (some ⟨p,0,none⟩)] w (RQ w N (dS N U N.length)):=by
 have k0:=Blk.new w 28 #[.slice none 0 0,.slice none 0 0];have u0:Below w.heap.size w (w.alloc (.cells #[.slice none 0 0,.slice none 0 0] 28)):=bR.alloc (Nat.le_refl _) _;obtain⟨O,⟨r,nv,ov,iv,fo,fi⟩,hg,hFO⟩:=h.below u0;obtain⟨nA,nc,e1,hnc,-⟩:=aK hg.rn;obtain⟨oA,oc,e2,-,-⟩:=aK hg.ro;dsimp only at e1 e2
 subst e1;subst e2;obtain⟨n,hN⟩:∃n,N.length=n:=⟨_,rfl⟩;have H:=aI7 hg k0 u0 hb hn hf hN;have q0:(w.alloc (.cells #[.slice none 0 0,.slice none 0 0] 28)).cell? ⟨p,0,none⟩=some (.slice nA n nc):=by rw[← hN];exact hg.blk.cell 0
 have q1:(w.alloc (.cells #[.slice none 0 0,.slice none 0 0] 28)).cell? ⟨p,1,none⟩=some (.map (some r)):=hg.blk.cell 1;have q2:(w.alloc (.cells #[.slice none 0 0,.slice none 0 0] 28)).cell? ⟨p,2,none⟩=some (.slice oA n oc):=by rw[← hN];exact hg.blk.cell 2
 rw[hN] at hl hnc;clear h k0 u0 hg hFO hb hn hf hN;go_enter Tryz.func83,Tryz.ntmps83;go_upto_region 1 with (fail);generalize w.alloc (.cells #[.slice none 0 0,.slice none 0 0] 28)=W0 at H q0 q1 q2 ⊢;go_wp2_with fail;refine(lG W0 p r q1).mono ?_;rintro e w' ⟨rfl,hw⟩;subst w';go_wp2_with fail;clear q1 q2;go_loopw [3,19] (fun l i wr=>∃k:Nat,k≤n∧i=.int .i64 k∧Hid (Below W0.heap.size W0 wr)∧Hid (wr.ownsRow W0.heap.size 88 3 l (dS N U k).length (aR (dS N U k)))) (fun _ i _=>n-(intOf i).toNat)
 case atStart=>exact⟨0,Nat.zero_le _,rfl,hIz bR,hIz (World.ownsRow_nil _ _ _ _)⟩
 case round =>
  obtain⟨k,hk,rfl,hbw,ho⟩:=hrel;by_cases hlt:k<n
  ·have hltI:(k:Int)<(n:Int):=by omega
   have hkw:IntKind.i64.wrap ((k:Int)+1)=(k:Int)+1:=IntWalk.i64_in _ (by omega);have hltN:k<N.length:=by rw[H.out.2.2.2.2.2.2];exact hlt
   obtain⟨s0,hs0⟩:∃s,N[k]?=some s:=⟨N[k],gEz hltN⟩;have hg:=H.out.1.upd (upF hbw.out) (fun _ _=>id);obtain⟨og,oc',e,-,co,-⟩:=jK hg.ro hltN;dsimp only at e co
   injection e with e e1 e2;subst e;clear e1 e2;obtain⟨A,cA,eA,-,-⟩:=aK (hg.fo k);dsimp only at eA
   have hrow:=H.out.1.fo k;dsimp only at hrow
   rw[eA] at co hrow;obtain⟨m,hm⟩:∃m,(U k).length=m:=⟨_,rfl⟩;have hm1:(dS N U (k+1)).length≤1000000:=H.out.2.2.2.1 (k+1);rw[jY,List.length_append,List.length_map,hm] at hm1;rw[hm] at co;have HM:=aI3 hm (aX.of_own hrow) hs0;clear hg eA hrow hm hs0;go_wp2_with fail;clear co;obtain⟨W5,hW5⟩:∃W,W=wr:=⟨_,rfl⟩;subst hW5;go_loopw [3,26] (fun l i wz=>∃j:Nat,j≤m∧i=.int .i64 j∧Hid (Below W0.heap.size W0 wz)∧Hid (wz.ownsRow W0.heap.size 88 3 l (dS N U k++((U k).take j).map (ED N k)).length (aR (dS N U k++((U k).take j).map (ED N k))))) (fun _ i _=>m-(intOf i).toNat)
   case atStart=>exact⟨0,Nat.zero_le _,rfl,hbw,hIz (by simpa using ho.out)⟩
   case round =>
    obtain⟨j,hj,rfl,hb0,hown⟩:=hrel;by_cases hjm:j<m
    ·have hjmI:(j:Int)<(m:Int):=by omega
     have hjw:IntKind.i64.wrap ((j:Int)+1)=(j:Int)+1:=IntWalk.i64_in _ (by omega);obtain⟨⟨lb,nd⟩,hx⟩:∃x,(U k)[j]?=some x:=⟨(U k)[j]'(by rw[HM.out.1];exact hjm),gEz _⟩;have hnd:=H.out.2.2.2.2.1 k _ (mG hx);dsimp only at hnd
     obtain⟨q,rfl⟩:=Int.eq_ofNat_of_zero_le hnd.1;have hqN:q<N.length:=by have:=hnd.2;omega
     have hqn:q<n:=by have:=H.out.2.2.2.2.2.2;omega
     obtain⟨s1,hs1⟩:∃s,N[q]?=some s:=⟨N[q],gEz hqN⟩;obtain⟨ab,ao,rfl,y0,y1⟩:=(HM.out.2.1.below hb0.out).hp hx;dsimp only at y0 y1
     have hg:=H.out.1.upd (upF hb0.out) (fun _ _=>id);obtain⟨ng,nc',eN,-,-,-,-,cN⟩:=aN hg.rn (by omega);dsimp only at eN
     injection eN with eN e1 e2;subst eN;clear e1 e2;have z0:wr.cell? ⟨p,0,none⟩=some (.slice (some ⟨ng,0,none⟩) n nc):=by rw[← H.out.2.2.2.2.2.2];exact hg.blk.cell 0
     have z1:wr.cell? ⟨ng,k,none⟩=some (.string s0):=(cN k (.string s0) (by simp[aE,HM.out.2.2])).1;have z2:wr.cell? ⟨ng,q,none⟩=some (.string s1):=(cN q (.string s1) (by simp[aE,hs1])).1;have kx:=Blk.new wr 143 #[.string lb,.int .i64 (q:Int)];have ux:Below wr.heap.size wr (wr.alloc (.cells #[.string lb,.int .i64 (q:Int)] 143)):=bR.alloc (Nat.le_refl _) _;have lp:=World.block_lt_of_cell? wr _ z0;have ln:=World.block_lt_of_cell? wr _ z1;have hgp:∀b,W0.heap.size≤b→ng≠b:=fun b hb e=>by
      have:=H.out.1.rn.lt ng rfl;omega
     have hpp:∀b,W0.heap.size≤b→p≠b:=fun b hb e=>by
      have:=H.out.1.blk.lt;omega
     have hl5:((dS N U k++((U k).take j).map (ED N k)).length+1)*48≤140737488355328:=by
      rw[List.length_append,List.length_map,List.length_take,HM.out.1];have:=Nat.min_le_left j m;omega
     have hed:ED N k ⟨lb,(q:Int)⟩=⟨s0,lb,s1⟩:=by
      unfold ED;simp[HM.out.2.2,hs1]
     have htk:dS N U k++((U k).take (j+1)).map (ED N k)=(dS N U k++((U k).take j).map (ED N k))++[⟨s0,lb,s1⟩]:=by
      rw[List.take_add_one,hx,← hed];simp
     have own5:=(hown.out.alloc (.cells #[.string lb,.int .i64 (q:Int)] 143));have HX:=aI6 kx ux own5 hl5 htk hown.out.lt;have SR:=hIz (show ∀W,Upd (fun b=>W0.heap.size≤b∧b<wr.heap.size) (wr.alloc (.cells #[.string lb,.int .i64 (q:Int)] 143)) W→W.cell? ⟨p,0,none⟩=some (.slice (some ⟨ng,0,none⟩) n nc)∧W.cell? ⟨ng,k,none⟩=some (.string s0)∧W.cell? ⟨ng,q,none⟩=some (.string s1)∧W.cell? ⟨wr.heap.size,0,none⟩=some (.string lb)∧W.cell? ⟨wr.heap.size,1,none⟩=some (.int .i64 (q:Int)) from fun W hu=>by
      have hz:(wr.alloc (.cells #[.string lb,.int .i64 (q:Int)] 143)).heap.size=wr.heap.size+1:=by simp
      have kk:=kx.upd hu (fun e=>by have:=e.2;omega);refine⟨?_,?_,?_,kk.cell 0,kk.cell 1⟩
      ·rw[hu.cell (p:=⟨p,0,none⟩) (by rw[hz];exact Nat.lt_succ_of_lt lp) (fun e=>hpp _ e.1 rfl),World.cell?_alloc_past _ p 0 lp];exact z0
      ·rw[hu.cell (p:=⟨ng,k,none⟩) (by rw[hz];exact Nat.lt_succ_of_lt ln) (fun e=>hgp _ e.1 rfl),World.cell?_alloc_past _ ng k ln];exact z1
      ·rw[hu.cell (p:=⟨ng,q,none⟩) (by rw[hz];exact Nat.lt_succ_of_lt ln) (fun e=>hgp _ e.1 rfl),World.cell?_alloc_past _ ng q ln];exact z2)
     have hS:=SR.out (wr.alloc (.cells #[.string lb,.int .i64 (q:Int)] 143)).drew (Upd.refl _ _).drew;clear kx ux own5 hl5 htk hed hg cN z0 z1 z2 hx hs1 lp ln hgp hpp hnd hown;go_upto_region 10 with (fail);generalize wr.alloc (.cells #[.string lb,.int .i64 (q:Int)] 143)=W6 at HX SR hS ⊢;clear y0 y1;refine aF (fun W=>W.cell? ⟨p,0,none⟩=some (.slice (some ⟨ng,0,none⟩) n nc)∧W.cell? ⟨ng,k,none⟩=some (.string s0)∧W.cell? ⟨ng,q,none⟩=some (.string s1)∧W.cell? ⟨wr.heap.size,0,none⟩=some (.string lb)∧W.cell? ⟨wr.heap.size,1,none⟩=some (.int .i64 (q:Int))) 22 [(0,true),(1,true),(2,true),(3,true),(4,true),(5,true),(6,true),(7,true),(8,true),(9,true),(10,true),(11,true),(12,true),(13,true),(14,true),(15,true),(16,true),(17,true),(18,true),(19,false),(20,false),(21,true)] hS ?_
     iterate 19 refine aC rfl ?_
     refine aM rfl rfl (fun K hK=>?_);go_simp;refine hK _ _ (fun _=>SR.out _ ((Upd.refl _ W6).drew.alloc (.cells #[.string s0,.string lb,.string s1] 88))) ?_;clear hK K hS;(try simp only[Act.put,gA,gS,gZ,sA,sZ,sS])
     obtain⟨v7,W7,happ,own7,up7,pl7⟩:=NP W6.drew W0.heap.size _ _ (aB HX.out.2.2.1 (Upd.refl (fun _=>False) W6).drew (fun _ _ h=>h)) ⟨s0,lb,s1⟩ HX.out.2.2.2.1 (by have:=HX.out.2.1.size;have:=hb0.out.size;exact Nat.le_trans hb0.out.size HX.out.2.1.size);dsimp only at happ
     have u67:Upd (fun b=>W0.heap.size≤b∧b<wr.heap.size) W6 W7:=((Upd.refl (fun _=>False) W6).drew.mono (fun _ _ h=>h.elim)).trans up7 (fun b hb=>.inl (HX.out.2.2.2.2.2 b hb));have b07:Below W0.heap.size W0 W7:=hb0.out.trans ((HX.out.2.1.mono hb0.out.size).trans (u67.below (fun b _ hb=>hb.1) (Nat.le_trans hb0.out.size HX.out.2.1.size)));have hS:=SR.out _ u67;have HF:=aI2 b07 own7;clear own7 up7 pl7 u67 b07;refine aM rfl rfl (fun K hK=>?_);refine bX _ _ _ rfl rfl rfl happ ?_;refine hK _ _ (fun _=>hS) ?_;clear hK K happ;(try simp only[Act.put,gA,gS,gZ,sA,sZ,sS])
     refine aC rfl ?_;refine aG ?_;clear hS;go_wp2;go_roundw
     case rel=>exact⟨j+1,by omega,by go_num,hIz HF.out.1,hIz (by rw[HX.out.2.2.2.2.1];exact HF.out.2)⟩
     case measure=>simp[intOf];omega
    ·obtain rfl:j=m:=by omega
     go_wp2;go_roundw
     case rel=>exact⟨k+1,by omega,by go_num,hb0,hIz (by
      have:=hown.out;rw[← HM.out.1,List.take_length] at this;rw[jY];exact this)⟩
     case measure=>simp[intOf];omega
  ·obtain rfl:k=n:=by omega
   obtain⟨lA,lc,rfl,hlc,-⟩:=aK ho.out;have hg:=H.out.1.upd (upF hbw.out) (fun _ _=>id);have z0:wr.cell? ⟨p,0,none⟩=some (.slice nA k nc):=by rw[← H.out.2.2.2.2.2.2];exact hg.blk.cell 0
   have hl0:(dS N U k).length≤1000000:=H.out.2.2.2.1 k;have hfor:lN wr nA nc lA lc N (dS N U k):=⟨aX.of_own hg.rn,aX.of_own ho.out,by rw[H.out.2.2.2.2.2.2];exact hnc,hlc,by have:=H.out.2.2.2.2.2.1;rw[H.out.2.2.2.2.2.2] at this;exact this⟩;have hcon:=eL wr nA nc lA lc N (dS N U k) hfor (by rw[H.out.2.2.2.2.2.2];omega);rw[H.out.2.2.2.2.2.2] at hcon;clear hg hfor ho;go_wp2_with fail;refine hcon.mono ?_;clear hcon z0;rintro e W5 ⟨A5,c5,B5,d5,rfl,o1,o2,b5⟩;unfold cP;obtain⟨x1,hx1⟩:∃m,(ofN N (dS N U k)).length=m:=⟨_,rfl⟩;obtain⟨x2,hx2⟩:∃m,(ofE N (dS N U k)).length=m:=⟨_,rfl⟩;rw[hx1] at o1 ⊢;rw[hx2] at o2 ⊢;have b05:=tHn hbw.out b5;have k5:=(H.out.2.1.upd (upF b05) id).alloc (.cells #[.slice A5 x1 c5,.slice B5 x2 d5] 28);have k6:=Blk.new W5 28 #[.slice A5 x1 c5,.slice B5 x2 d5];have h0:w.heap.size<W5.heap.size:=by have:=H.out.2.1.lt;have:=b05.size;omega
   have r0:(W5.alloc (.cells #[.slice A5 x1 c5,.slice B5 x2 d5] 28)).cell? ⟨w.heap.size,0,none⟩=some (.slice none 0 0):=k5.cell 0;have r1:(W5.alloc (.cells #[.slice A5 x1 c5,.slice B5 x2 d5] 28)).cell? ⟨w.heap.size,1,none⟩=some (.slice none 0 0):=k5.cell 1;have f0:=k5.frozen 0;have f1:=k5.frozen 1;have x0:(W5.alloc (.cells #[.slice A5 x1 c5,.slice B5 x2 d5] 28)).cell? ⟨W5.heap.size,0,none⟩=some (.slice A5 x1 c5):=k6.cell 0;have x1':(W5.alloc (.cells #[.slice A5 x1 c5,.slice B5 x2 d5] 28)).cell? ⟨W5.heap.size,1,none⟩=some (.slice B5 x2 d5):=k6.cell 1;have kF:=(k5.set 0 (.slice A5 x1 c5)).set 1 (.slice B5 x2 d5);have uF:=((Upd.refl (fun q=>q=w.heap.size) (W5.alloc (.cells #[.slice A5 x1 c5,.slice B5 x2 d5] 28))).setCell (p:=⟨w.heap.size,0,none⟩) (.inl rfl) (.slice A5 x1 c5)).setCell (p:=⟨w.heap.size,1,none⟩) (.inl rfl) (.slice B5 x2 d5);have e0:=kF.cell 0;have e1:=kF.cell 1;simp only[List.setIfInBounds_toArray,List.set_cons_zero,List.set_cons_succ,List.getElem?_toArray,List.getElem?_cons_succ,List.getElem?_cons_zero] at e0 e1
   have bF:=(b5.alloc b5.size (.cells #[.slice A5 x1 c5,.slice B5 x2 d5] 28));have HO:=aI2 o1 o2;have FIN:=hIz (show RQ w N (dS N U k) (.returned (.agg #[.slice A5 x1 c5,.slice B5 x2 d5])) (((W5.alloc (.cells #[.slice A5 x1 c5,.slice B5 x2 d5] 28)).setCell ⟨w.heap.size,0,none⟩ (.slice A5 x1 c5)).setCell ⟨w.heap.size,1,none⟩ (.slice B5 x2 d5)) from by
    have hw:w.heap.size≤wr.heap.size:=Nat.le_trans H.out.2.2.1.size hbw.out.size;have no:∀{v:Value} {e size m:Nat} {xs:List Value},W5.ownsRow wr.heap.size e size v m xs→(((W5.alloc (.cells #[.slice A5 x1 c5,.slice B5 x2 d5] 28)).setCell ⟨w.heap.size,0,none⟩ (.slice A5 x1 c5)).setCell ⟨w.heap.size,1,none⟩ (.slice B5 x2 d5)).ownsRow w.heap.size e size v m xs:=fun h=>by
     refine bQ (aB (h.alloc _) uF (fun q hq e=>?_)) (fun q hq=>Nat.le_trans hw (h.lt q hq).1);have:=(h.lt q hq).1;have:=H.out.2.1.lt;have:=hbw.out.size;omega
    exact⟨A5,c5,B5,d5,by rw[hx1,hx2];rfl,by rw[hx1];exact no o1,by rw[hx2];exact no o2,H.out.2.2.1.trans ((hbw.out.mono H.out.2.2.1.size).trans ((bF.mono hw).trans (uF.below (fun q _ e=>Nat.le_of_eq e.symm) (Nat.le_trans hw bF.size))))⟩)
   clear k5 k6 kF uF bF o1 o2 hx1 hx2 b5 b05;go_upto_region 14 with (fail);generalize W5.alloc (.cells #[.slice A5 x1 c5,.slice B5 x2 d5] 28)=W6 at r0 r1 f0 f1 x0 x1' e0 e1 FIN ⊢;go_wp2;refine bodyPost_ret (v:=.agg #[.slice A5 x1 c5,.slice B5 x2 d5]) (by simp[results,Tryz.f83,go_sem,e0,e1]) rfl ?_;have hNk:=H.out.2.2.2.2.2.2;rw[hNk];exact FIN.out
open Go.RowKit
structure dH(N:List Txt)(X:List Ed)(U V:Nat→List Hp):Prop where
 up:∀k,cT ltH (U k)
 vp:∀k,cT ltH (V k)
 um:∀k h,h∈U k↔∃x∈X,N[k]?=some x.fr∧h=⟨x.lb,(eE N x.to:Int)⟩
 vm:∀k h,h∈V k↔∃x∈X,N[k]?=some x.to∧h=⟨x.lb,(eE N x.fr:Int)⟩
def GrS(w:World)(F:Nat→Prop)(p:Nat)(G:Gr):Prop:=∃U V,sU w F p G.N U V G.X.length∧dH G.N G.X U V
theorem GrS.upd{w w':World}{F Q:Nat→Prop}{p:Nat}{G:Gr}(h:GrS w F p G)(hu:Upd Q w w')(hd:∀k,F k→¬Q k):GrS w' F p G:=by
 obtain⟨U,V,h1,h2⟩:=h;exact⟨U,V,h1.upd hu hd,h2⟩
theorem GrS.below{w w':World}{F:Nat→Prop}{p:Nat}{G:Gr}(h:GrS w F p G)(hb:Below w.heap.size w w'):GrS w' F p G:=h.upd (upF hb) (fun _ _=>id)
def GY(w:World)(F:Nat→Prop)(p:Nat)(G:Gr)(w':World):Prop:=∃F',GrS w' F' p G∧Upd F w w'∧∀k,F' k→F k∨w.heap.size≤k
theorem GY.refl{w w':World}{F:Nat→Prop}{p:Nat}{G:Gr}(h:GrS w F p G)(hb:Below w.heap.size w w'):GY w F p G w':=⟨F,h.below hb,Upd.of_below hb F,fun _ hk=>.inl hk⟩

theorem dH.new:dH [] [] (fun _=>[]) (fun _=>[]):=⟨fun _=>List.Pairwise.nil,fun _=>List.Pairwise.nil,fun k h=>by simp,fun k h=>by simp⟩
theorem rY{N:List Txt}{s t:Txt}(h:t∈N)(k:Nat):(dN N s)[k]?=some t↔N[k]?=some t:=by
 unfold dN;split
 ·rfl
 ·rename_i hs
  constructor
  ·intro e;rw[List.getElem?_append] at e;split at e
   ·exact e
   ·rw[List.getElem?_singleton] at e;split at e
    ·injection e with e;exact(hs (bC.2 (by rw[e];exact h))).elim
    ·cases e
  ·intro e;rw[List.getElem?_append_left (gO.1 e).1];exact e
theorem dH.node{N:List Txt}{X:List Ed}{U V:Nat→List Hp}(h:dH N X U V)(he:∀x∈X,x.fr∈N∧x.to∈N)(s:Txt):dH (dN N s) X U V:=by
 refine⟨h.up,h.vp,fun k y=>?_,fun k y=>?_⟩
 ·rw[h.um];constructor
  ·rintro⟨x,hx,h1,h2⟩;exact⟨x,hx,(rY (he x hx).1 k).2 h1,by rw[gP (he x hx).2];exact h2⟩
  ·rintro⟨x,hx,h1,h2⟩;exact⟨x,hx,(rY (he x hx).1 k).1 h1,by rw[gP (he x hx).2] at h2;exact h2⟩
 ·rw[h.vm];constructor
  ·rintro⟨x,hx,h1,h2⟩;exact⟨x,hx,(rY (he x hx).2 k).2 h1,by rw[gP (he x hx).1];exact h2⟩
  ·rintro⟨x,hx,h1,h2⟩;exact⟨x,hx,(rY (he x hx).2 k).1 h1,by rw[gP (he x hx).1] at h2;exact h2⟩
theorem rZ{N:List Txt}{s t:Txt}(hs:s∈N)(ht:t∈N)(e:(eE N s:Int)=eE N t):s=t:=by
 have e:eE N s=eE N t:=by omega
 have h1:=cW hs;rw[e,cW ht] at h1;injection h1 with h1;exact h1.symm
theorem dH.edge{N:List Txt}{X:List Ed}{U V:Nat→List Hp}(h:dH N X U V)(hN:N.Nodup)(he:∀x∈X,x.fr∈N∧x.to∈N){x:Ed}(hf:x.fr∈N)(ht:x.to∈N)(hx:x ∉ X):dH N (X++[x]) (EB N U x) (EC N V x):=by
 have nU:(⟨x.lb,(eE N x.to:Int)⟩:Hp) ∉ U (eE N x.fr):=fun hm=>by
  obtain⟨y,hy,h1,h2⟩:=(h.um _ _).1 hm;rw[cW hf] at h1;injection h1 with h1;injection h2 with h2 h3;have:=rZ ht (he y hy).2 h3;obtain⟨a,b,c⟩:=x;obtain⟨a',b',c'⟩:=y;dsimp only at h1 h2 this
  subst h1;subst h2;subst this;exact hx hy
 have nV:(⟨x.lb,(eE N x.fr:Int)⟩:Hp) ∉ V (eE N x.to):=fun hm=>by
  obtain⟨y,hy,h1,h2⟩:=(h.vm _ _).1 hm;rw[cW ht] at h1;injection h1 with h1;injection h2 with h2 h3;have:=rZ hf (he y hy).1 h3;obtain⟨a,b,c⟩:=x;obtain⟨a',b',c'⟩:=y;dsimp only at h1 h2 this
  subst h1;subst h2;subst this;exact hx hy
 refine⟨fun k=>?_,fun k=>?_,fun k y=>?_,fun k y=>?_⟩
 ·unfold EB iU;split
  ·exact lT (h.up _) nU
  ·exact h.up k
 ·unfold EC iU;split
  ·exact lT (h.vp _) nV
  ·exact h.vp k
 ·unfold EB iU;split
  ·rename_i hk
   subst hk;rw[rE,h.um];constructor
   ·rintro (⟨z,hz,h1,h2⟩|rfl)
    ·exact⟨z,List.mem_append.2 (.inl hz),h1,h2⟩
    ·exact⟨x,by simp,cW hf,rfl⟩
   ·rintro⟨z,hz,h1,h2⟩;rcases List.mem_append.1 hz with hz|hz
    ·exact .inl ⟨z,hz,h1,h2⟩
    ·rw[List.mem_singleton] at hz;subst hz;exact .inr h2
  ·rename_i hk
   rw[h.um];constructor
   ·rintro⟨z,hz,h1,h2⟩;exact⟨z,List.mem_append.2 (.inl hz),h1,h2⟩
   ·rintro⟨z,hz,h1,h2⟩;rcases List.mem_append.1 hz with hz|hz
    ·exact⟨z,hz,h1,h2⟩
    ·rw[List.mem_singleton] at hz;subst hz;exact(hk (rL hN h1).symm).elim
 ·unfold EC iU;split
  ·rename_i hk
   subst hk;rw[rE,h.vm];constructor
   ·rintro (⟨z,hz,h1,h2⟩|rfl)
    ·exact⟨z,List.mem_append.2 (.inl hz),h1,h2⟩
    ·exact⟨x,by simp,cW ht,rfl⟩
   ·rintro⟨z,hz,h1,h2⟩;rcases List.mem_append.1 hz with hz|hz
    ·exact .inl ⟨z,hz,h1,h2⟩
    ·rw[List.mem_singleton] at hz;subst hz;exact .inr h2
  ·rename_i hk
   rw[h.vm];constructor
   ·rintro⟨z,hz,h1,h2⟩;exact⟨z,List.mem_append.2 (.inl hz),h1,h2⟩
   ·rintro⟨z,hz,h1,h2⟩;rcases List.mem_append.1 hz with hz|hz
    ·exact⟨z,hz,h1,h2⟩
    ·rw[List.mem_singleton] at hz;subst hz;exact(hk (rL hN h1).symm).elim
theorem dH.len{N:List Txt}{X:List Ed}{U V:Nat→List Hp}(h:dH N X U V)(k:Nat):(U k).length≤X.length∧(V k).length≤X.length:=by
 constructor
 ·have:=fX (L:=U k) (M:=X.map fun x=>(⟨x.lb,(eE N x.to:Int)⟩:Hp)) ((h.up k).nodup GV) (fun y hy=>by
   obtain⟨x,hx,-,e⟩:=(h.um k y).1 hy;exact List.mem_map.2 ⟨x,hx,e.symm⟩)
  simpa using this
 ·have:=fX (L:=V k) (M:=X.map fun x=>(⟨x.lb,(eE N x.fr:Int)⟩:Hp)) ((h.vp k).nodup GV) (fun y hy=>by
   obtain⟨x,hx,-,e⟩:=(h.vm k y).1 hy;exact List.mem_map.2 ⟨x,hx,e.symm⟩)
  simpa using this
theorem dH.out{N:List Txt}{X:List Ed}{U V:Nat→List Hp}(h:dH N X U V){k:Nat}(hk:N.length≤k):U k=[]∧V k=[]:=by
 constructor
 ·refine List.eq_nil_iff_forall_not_mem.2 fun y hy=>?_
  obtain⟨x,-,e,-⟩:=(h.um k y).1 hy;rw[List.getElem?_eq_none hk] at e;cases e
 ·refine List.eq_nil_iff_forall_not_mem.2 fun y hy=>?_
  obtain⟨x,-,e,-⟩:=(h.vm k y).1 hy;rw[List.getElem?_eq_none hk] at e;cases e
theorem oI{N:List Txt}{X:List Ed}{U V:Nat→List Hp}(h:dH N X U V):∀k,(dS N U k).length≤N.length*X.length
 | 0=>by simp[dS]
 | k+1=>by
  have key:∀j,j≤N.length→(dS N U j).length≤j*X.length:=fun j=>by
   induction j with
   | zero=>intro _;simp[dS]
   | succ j ih =>
    intro hj;have h1:=ih (by omega);have h2:=(h.len j).1;rw[jY,List.length_append,List.length_map,Nat.add_mul];omega
  by_cases hk:k+1≤N.length
  ·exact Nat.le_trans (key _ hk) (Nat.mul_le_mul_right _ hk)
  ·have h1:=oI h k;rw[jY,(h.out (by omega)).1];simpa using h1
theorem uL{N:List Txt}{X:List Ed}{U V:Nat→List Hp}(h:dH N X U V)(he:∀x∈X,x.fr∈N∧x.to∈N)(y:Ed):y∈dS N U N.length↔y∈X:=by
 unfold dS;simp only[List.mem_flatMap,List.mem_range,List.mem_map]
 constructor
 ·rintro⟨k,hk,z,hz,rfl⟩;obtain⟨x,hx,h1,rfl⟩:=(h.um k z).1 hz;unfold ED;dsimp only
  rw[h1,Int.toNat_natCast,cW (he x hx).2];exact hx
 ·intro hy;refine⟨eE N y.fr,fY (he y hy).1,⟨y.lb,(eE N y.to:Int)⟩,(h.um _ _).2 ⟨y,hy,cW (he y hy).1,rfl⟩,?_⟩;unfold ED;dsimp only
  rw[cW (he y hy).1,Int.toNat_natCast,cW (he y hy).2];rfl
theorem GOk.few{G:Gr}(h:GOk G):G.N.length≤32∧G.X.length≤256:=by
 have hc:=rG h.may;have h1:=fX h.nd (M:=gN G.N G.X) (fun s hs=>mJ.2 (.inl hs));have h2:=fX h.xd (M:=gE G.X) (fun s hs=>jD.2 hs);unfold cG at hc;split at hc
 ·cases hc
 split at hc
 ·cases hc
 split at hc
 ·cases hc
 omega
theorem JZ{G:Gr}(h:GOk G){U V:Nat→List Hp}(ho:dH G.N G.X U V):ofI G.N (dS G.N U G.N.length)=0∧ofN G.N (dS G.N U G.N.length)=eT G∧ofE G.N (dS G.N U G.N.length)=eI G:=by
 have hm:=uL ho h.ends;have h1:ofI G.N (dS G.N U G.N.length)=ofI G.N G.X:=rH (fun s=>by simp only[hm]) hm (fun s hs=>.inl hs) (fun s hs=>.inl hs);have h0:=h1.trans h.may;refine⟨h0,?_,?_⟩
 ·unfold ofN;rw[if_pos h0];exact wA (fun s=>by simp only[hm])
 ·unfold ofE;rw[if_pos h0];exact wB hm
theorem OK{G:Gr}(h:GOk G){U V:Nat→List Hp}(ho:dH G.N G.X U V):QQ G.N (dS G.N U G.N.length):=by
 have hf:=h.few;have hs:=kE.of (kZ h.may);have hl:=oI ho G.N.length;have h8:G.N.length*G.X.length≤32*256:=Nat.mul_le_mul hf.1 hf.2;refine⟨by omega,by omega,fun t ht=>by have:=hs.n t ht;unfold fH;omega,fun x hx=>?_⟩;have:=hs.e x ((uL ho h.ends x).1 hx);unfold BS fH;omega
def UA(w:World)(G:Gr)(e:Ending)(w':World):Prop:=
 ∃A c B d,e=.returned (cP A (eT G).length c B (eI G).length d)∧w'.ownsRow w.heap.size 9 1 (.slice A (eT G).length c) (eT G).length (aE (eT G))∧w'.ownsRow w.heap.size 88 3 (.slice B (eI G).length d) (eI G).length (aR (eI G))∧Below w.heap.size w w'
theorem OL(w:World)(F:Nat→Prop)(p:Nat)(G:Gr)(h:GrS w F p G)(ok:GOk G):Calls Tryz.prog 83 #[.pointer (some ⟨p,0,none⟩)] w (UA w G):=by
 obtain⟨U,V,hg,ho⟩:=h;have hf:=ok.few;have hd:=JZ ok ho;have h8:G.N.length*G.X.length≤32*256:=Nat.mul_le_mul hf.1 hf.2;refine(JY w F p G.N U V _ hg (by omega) (fun k=>by have:=oI ho k;omega) (fun k x hx=>?_) (OK ok ho)).mono ?_
 ·obtain⟨y,hy,-,rfl⟩:=(ho.um k x).1 hx;exact⟨Int.natCast_nonneg _,by simpa using fY (ok.ends y hy).2⟩
 ·rintro e w' ⟨A,c,B,d,rfl,o1,o2,b⟩;rw[hd.2.1] at o1 ⊢;rw[hd.2.2] at o2 ⊢;exact⟨A,c,B,d,rfl,o1,o2,b⟩
open Go.RowKit
theorem dH.has{N:List Txt}{X:List Ed}{U V:Nat→List Hp}(h:dH N X U V)(he:∀x∈X,x.fr∈N∧x.to∈N){x:Ed}(hf:x.fr∈N)(ht:x.to∈N):(⟨x.lb,(eE N x.to:Int)⟩:Hp)∈U (eE N x.fr)↔x∈X:=by
 rw[h.um];constructor
 ·rintro⟨y,hy,h1,h2⟩;rw[cW hf] at h1;injection h1 with h1;injection h2 with h2 h3;have:=rZ ht (he y hy).2 h3;obtain⟨a,b,c⟩:=x;obtain⟨a',b',c'⟩:=y;dsimp only at h1 h2 this
  subst h1;subst h2;subst this;exact hy
 ·intro hx;exact⟨x,hx,cW hf,rfl⟩
theorem sB{N:List Txt}{s:Txt}(h:s∈N):GW N s=(eE N s:Int)+1:=by unfold GW;rw[if_pos (bC.2 h)]
theorem yL{N:List Txt}{s:Txt}(h:s ∉ N):GW N s=0:=by unfold GW;rw[if_neg (fun e=>h (bC.1 e))]
theorem RR(w:World)(F:Nat→Prop)(p:Nat)(G:Gr)(h:GrS w F p G)(ok:GOk G)(x:Ed)(k0:fH x.fr)(k2:fH x.to) :
  Calls Tryz.prog 51 #[.pointer (some ⟨p,0,none⟩),.string x.fr,.string x.lb,.string x.to] w (Sam w (.bool (decide (x∈G.X)))):=by
 obtain⟨U,V,⟨O,⟨r,nv,ov,iv,fo,fi⟩,hg,-⟩,ho⟩:=h;have q1:w.cell? ⟨p,1,none⟩=some (.map (some r)):=hg.blk.cell 1;have l0:=jW hg.map x.fr k0;have l1:=jW hg.map x.to k2;by_cases hf:x.fr∈G.N
 ·rw[sB hf] at l0;have hlf:=fY hf;have hN:=ok.few.1;obtain⟨i,hi⟩:∃i,eE G.N x.fr=i:=⟨_,rfl⟩;rw[hi] at l0 hlf;have z0:((i:Int)+1==0)=false:=by simp;omega
  by_cases ht:x.to∈G.N
  ·rw[sB ht] at l1;have hlt:=fY ht;obtain⟨j,hj⟩:∃j,eE G.N x.to=j:=⟨_,rfl⟩;rw[hj] at l1 hlt;have z1:((j:Int)+1==0)=false:=by simp;omega
   have w0:IntKind.i64.wrap (i:Int)=(i:Int):=IntWalk.i64_in _ (by omega);have w1:IntKind.i64.wrap (j:Int)=(j:Int):=IntWalk.i64_in _ (by omega);have hdec:decide ((⟨x.lb,(j:Int)⟩:Hp)∈U i)=decide (x∈G.X):=by rw[← hi,← hj];exact decide_eq_decide.2 (ho.has ok.ends hf ht)
   obtain⟨og,oc,eo,-,co,-⟩:=jK hg.ro hlf;dsimp only at eo co
   subst eo;obtain⟨A,cA,eA,-,-⟩:=aK (hg.fo i);dsimp only at eA
   have hrow:=hg.fo i;dsimp only at hrow
   rw[eA] at co hrow;have hUl:=(ho.len i).1;have hX:=ok.few.2;have hcon:=fun W (hb:Below w.heap.size w W)=>CA W A cA (U i) ⟨x.lb,(j:Int)⟩ ((aX.of_own hrow).below hb) (ho.up i) (by omega)
   rw[hdec] at hcon;obtain⟨m,hm⟩:∃m,(U i).length=m:=⟨_,rfl⟩;rw[hm] at hcon co;obtain⟨n,hn⟩:∃n,G.N.length=n:=⟨_,rfl⟩;have q2:w.cell? ⟨p,2,none⟩=some (.slice (some ⟨og,0,none⟩) n oc):=by rw[← hn];exact hg.blk.cell 2
   rw[hn] at hlf hlt hN;have SR:=hIz (show ∀W,Below w.heap.size w W→W.cell? ⟨p,1,none⟩=some (.map (some r))∧W.cell? ⟨p,2,none⟩=some (.slice (some ⟨og,0,none⟩) n oc)∧W.cell? ⟨og,i,none⟩=some (.slice A m cA)∧(Instr.lookup 136 (.map (some r)) (.string x.fr) false).run Tryz.prog W=.ok (.int .i64 ((i:Int)+1)) W∧(Instr.lookup 136 (.map (some r)) (.string x.to) false).run Tryz.prog W=.ok (.int .i64 ((j:Int)+1)) W from fun W hb=>by
    have hu:=Upd.of_below hb (fun _=>False);have hm':=hg.map.upd hu id;have hblk:=hg.blk.upd hu id;have lo:=World.block_lt_of_cell? w _ co;refine⟨hblk.cell 1,by rw[← hn];exact hblk.cell 2,by rw[hu.cell (p:=⟨og,i,none⟩) lo id];exact co,?_,?_⟩
    ·have:=jW hm' x.fr k0;rwa [sB hf,hi] at this
    ·have:=jW hm' x.to k2;rwa [sB ht,hj] at this)
   have hS:=SR.out w.drew (Below.refl _ w).drew;clear hg ho hrow hUl hX eA hi hj hm hn hdec ok;have hlfI:(i:Int)<(n:Int):=by omega
   go_enter Tryz.func51,Tryz.ntmps51;go_wp2_with fail;refine(lG w p r q1).mono ?_;rintro e w' ⟨rfl,hw⟩;subst w';go_upto_region 3 with (fail);clear q1 q2 co l0 l1;have HB:=hIz (show Below w.heap.size w w.drew from(Below.refl _ w).drew);refine aF (fun W=>W.cell? ⟨p,1,none⟩=some (.map (some r))∧W.cell? ⟨p,2,none⟩=some (.slice (some ⟨og,0,none⟩) n oc)∧W.cell? ⟨og,i,none⟩=some (.slice A m cA)∧(Instr.lookup 136 (.map (some r)) (.string x.fr) false).run Tryz.prog W=.ok (.int .i64 ((i:Int)+1)) W∧(Instr.lookup 136 (.map (some r)) (.string x.to) false).run Tryz.prog W=.ok (.int .i64 ((j:Int)+1)) W) 28 [(0,true),(1,true),(2,true),(3,true),(4,true),(5,true),(6,true),(7,true),(8,true),(9,true),(10,true),(11,true),(12,true),(13,true),(14,true),(15,true),(16,true),(17,true),(18,true),(19,true),(20,true),(21,true),(22,false),(23,true),(24,true),(25,true),(26,true),(27,true)] hS ?_;generalize w.drew=W1 at HB hS ⊢
   iterate 22 refine aC rfl ?_
   refine aM rfl rfl (fun K hK=>?_);have hc:=hcon W1 HB.out;unfold Hp.agg at hc;dsimp only at hc
   go_simp;refine hc.mono ?_;rintro e W2 ⟨rfl,b2⟩;have HB2:=hIz (tHn HB.out b2);refine hK _ _ (fun _=>SR.out _ HB2.out) ?_;clear hK K hS hc hcon b2;(try simp only[Act.put,gA,gS,gZ,sA,sZ,sS])
   iterate 5 refine aC rfl ?_
   refine aG ?_;go_wp2;go_ret;exact⟨rfl,HB2.out⟩
  ·rw[yL ht] at l1;have hx:decide (x∈G.X)=false:=decide_eq_false fun hx=>ht (ok.ends x hx).2
   rw[hx];clear hg ho hi ok;go_enter Tryz.func51,Tryz.ntmps51;go_wp2_with fail;refine(lG w p r q1).mono ?_;rintro e w' ⟨rfl,hw⟩;subst w';go_wp2;go_ret;exact⟨rfl,Below.refl _ _⟩
 ·rw[yL hf] at l0;have hx:decide (x∈G.X)=false:=decide_eq_false fun hx=>hf (ok.ends x hx).1
  rw[hx];clear hg ho ok l1;go_enter Tryz.func51,Tryz.ntmps51;go_wp2_with fail;refine(lG w p r q1).mono ?_;rintro e w' ⟨rfl,hw⟩;subst w';go_wp2;go_ret;exact⟨rfl,Below.refl _ _⟩
open Go.RowKit
def UB(w:World)(L:List Hp)(e:Ending)(w':World):Prop:=∃v,e=.returned v∧w'.ownsRow w.heap.size 143 2 v L.length (aQ L)∧Below w.heap.size w w'
theorem KA(w:World)(A:Option Addr)(c:Nat)(L:List Hp)(h:aX w A (aQ L))(hl:L.length*24≤140737488355328) :
  Calls Tryz.prog 157 #[.slice A L.length c] w (UB w L):=by
 have heq:=fun (A:Option Addr) (n c n' c':Nat) (w:World)=>Lib.run_eql_slice_nil (P:=Tryz.prog) w 140 143 A n c n' c' Tryz.underlying140
 rcases A with _|⟨gb,go,sp⟩
 ·have hL:L=[]:=by
   cases L with
   | nil=>rfl
   | cons s L=>obtain⟨b,o,e,-⟩:=h 0 (.string s.lb) rfl;cases e
  subst hL;clear h hl;go_enter Tryz.func157,Tryz.ntmps157;go_wp2;go_ret;exact⟨_,rfl,World.ownsRow_nil _ _ _ _,Below.refl _ _⟩
 ·obtain⟨i0,hi0,hz0,hz1,hz2⟩:=info_parts kU;have b1:Below w.heap.size w (w.alloc (.cells #[] 143)):=bR.alloc (Nat.le_refl _) _;have hr:=(h.below b1).reads (cV L) (by decide);have own:(w.alloc (.cells #[] 143)).ownsRow w.heap.size 143 2 (.slice (some ⟨w.heap.size,0,none⟩) 0 0) 0 []:=⟨rfl,.inr ⟨w.heap.size,0,#[],rfl,Nat.le_refl _,heap_alloc_new w _,Nat.le_refl _,by decide,rfl,rfl⟩⟩;obtain⟨v',w',happ,own',gr,-,-⟩:=run_append_own_at (P:=Tryz.prog) (w.alloc (.cells #[] 143)) w.heap.size 140 140 143 i0 _ 2 24 Tryz.underlying140 hi0 hz0 hz1 hz2 rfl (by decide) (.slice (some ⟨w.heap.size,0,none⟩) 0 0) 0 [] own ⟨gb,go,sp⟩ L.length c (aQ L) (cV L) (hr.2.2 _ rfl) (BY L) (by unfold maxLen;omega) (by omega) (by simp);have fin:UB w L (.returned v') w':=⟨v',rfl,by simpa using own',b1.grown gr (by simp) (fun k hk=>by simp[Value.ownBlock] at hk;omega)⟩;have FIN:=hIz fin;clear fin own own' gr hr b1 hi0 hz0 hz1 hz2 h;go_enter Tryz.func157,Tryz.ntmps157;go_wp2_with (at_builtin;refine wpList_append_run rfl _ _ _ rfl rfl rfl happ ?_);go_ret;exact FIN.out

def iN(B:Nat)(p:Nat)(G:Gr)(w':World):Prop:=∃F,GrS w' F p G∧(∀k,F k→B≤k)
theorem iN.step{B p:Nat}{G':Gr}{w w':World}{F:Nat→Prop}(hF:∀k,F k→B≤k)(hB:B≤w.heap.size)(h:GY w F p G' w'):iN B p G' w'∧Below B w w':=by
 obtain⟨F',g,u,n⟩:=h;refine⟨⟨F',g,fun k hk=>?_⟩,u.below (fun i _ hi=>hF i hi) hB⟩;rcases n k hk with h|h
 ·exact hF k h
 ·omega
theorem iN.below{B p:Nat}{G:Gr}{w w':World}(h:iN B p G w)(hb:Below w.heap.size w w'):iN B p G w':=by
 obtain⟨F,g,n⟩:=h;exact⟨F,g.below hb,n⟩
def RS(w:World)(G:Gr)(f:Value→Value)(e:Ending)(w':World):Prop:=∃p,e=.returned (f (.pointer (some ⟨p,0,none⟩)))∧iN w.heap.size p G w'∧Below w.heap.size w w'
theorem OM(w:World):iN w.heap.size (w.heap.size+1) ⟨[],[]⟩ ((w.alloc (.map #[] 0)).alloc (.cells #[.slice none 0 0,.map (some w.heap.size),.slice none 0 0,.slice none 0 0,.int .i64 0] 139)):=by
 have k1:=Blk.new (w.alloc (.map #[] 0)) 139 #[.slice none 0 0,.map (some w.heap.size),.slice none 0 0,.slice none 0 0,.int .i64 0];have hz:(w.alloc (.map #[] 0)).heap.size=w.heap.size+1:=by simp
 rw[hz] at k1;refine⟨fun k=>(if k=w.heap.size+1 then some Ro.p else if k=w.heap.size then some Ro.m else none)≠none,⟨fun _=>[],fun _=>[],⟨fun k=>if k=w.heap.size+1 then some Ro.p else if k=w.heap.size then some Ro.m else none,⟨w.heap.size,.slice none 0 0,.slice none 0 0,.slice none 0 0,fun _=>.slice none 0 0,fun _=>.slice none 0 0⟩,⟨k1,(bW.made w _ _).alloc _,World.ownsRow_nil _ _ _ _,World.ownsRow_nil _ _ _ _,World.ownsRow_nil _ _ _ _,fun _=>World.ownsRow_nil _ _ _ _,fun _=>World.ownsRow_nil _ _ _ _,if_pos rfl,?_,?_,?_,?_,?_,?_,?_,fun _ _=>⟨rfl,rfl⟩⟩,rfl⟩,dH.new⟩,?_⟩
 ·show(if w.heap.size=w.heap.size+1 then some Ro.p else if w.heap.size=w.heap.size then some Ro.m else none)=some Ro.m
  rw[if_neg (by omega),if_pos rfl]
 ·intro k hk;simp[Value.ownBlock] at hk
 ·intro k hk;simp[Value.ownBlock] at hk
 ·intro k hk;simp[Value.ownBlock] at hk
 ·intro j k hk;simp[Value.ownBlock] at hk
 ·intro j k hk;simp[Value.ownBlock] at hk
 ·intro k hk;simp only[World.size_alloc] at *
  split at hk
  ·omega
  split at hk
  ·omega
  ·exact absurd rfl hk
 ·intro k hk;split at hk
  ·omega
  split at hk
  ·omega
  ·exact absurd rfl hk
theorem RT(w:World):Calls Tryz.prog 36 #[] w (RS w ⟨[],[]⟩ id):=by
 have FIN:=hIz (OM w);have HB:=hIz (show Below w.heap.size w ((w.alloc (.map #[] 0)).alloc (.cells #[.slice none 0 0,.map (some w.heap.size),.slice none 0 0,.slice none 0 0,.int .i64 0] 139)) from(bR.alloc (Nat.le_refl _) _).alloc (by simp) _);have hmm:=@run_makeMap Tryz.prog;go_enter Tryz.func36,Tryz.ntmps36;go_wp2;go_ret;exact⟨_,rfl,FIN.out,HB.out⟩
open Go.RowKit
theorem nB{N:List Txt}{E:List Ed}(h:fV N E=true):cT ltT N∧cT ltE E∧∀x∈E,x.fr∈N∧x.to∈N:=by
 unfold fV at h;rw[Bool.and_eq_true,Bool.and_eq_true,List.all_eq_true] at h;refine⟨eR fJ h.1,eR sR h.2.1,fun x hx=>?_⟩;have:=h.2.2 x hx;unfold fK at this;rw[Bool.and_eq_true,bC,bC] at this;exact this
theorem ON{N M:List Txt}{E:List Ed}(h:cT ltT N)(_he:∀x∈E,x.fr∈N∧x.to∈N)(hm:∀s,s∈N↔s∈M∨∃x∈E,s=x.fr∨s=x.to):gN M E=N:=
 yK fJ (fT h) (fun s=>(hm s).trans nS.symm)
theorem OO{E:List Ed}(h:cT ltE E):gE E=E:=yK sR (fT h) (fun _=>Iff.rfl)
theorem KB{N M:List Txt}{E:List Ed}(h:cK N E=0)(hM:∀s,s∈N↔s∈M∨∃x∈E,s=x.fr∨s=x.to):ofI M E=0∧gN M E=N∧gE E=E:=by
 obtain⟨h1,h2,h3⟩:=jX h;obtain⟨f1,f2,f3⟩:=nB h1;have e1:=ON f1 f3 hM;have e2:=OO f2;refine⟨?_,e1,e2⟩;have hn:=fD.1 h2;have hn':bT M E=true:=fD.2 ⟨fun s hs=>hn.1 s ((hM s).2 (.inl hs)),hn.2⟩;rw[ofI,if_neg (by rw[hn'];simp),e1,e2,h3]
theorem zY{N:List Txt}{E:List Ed}(h:ofI N E=0):cK (gN N E) (gE E)=0:=by
 have hn:=fD.1 (kZ h);have u1:=(bM fJ (tO N E)).up;have u2:=(bM sR E).up;have hf:fV (gN N E) (gE E)=true:=by
  unfold fV;rw[Bool.and_eq_true,Bool.and_eq_true,List.all_eq_true];refine⟨fT u1,fT u2,fun x hx=>?_⟩;unfold fK;rw[Bool.and_eq_true,bC,bC];have:=jD.1 hx;exact⟨mJ.2 (.inr ⟨x,this,.inl rfl⟩),mJ.2 (.inr ⟨x,this,.inr rfl⟩)⟩
 have hm:bT (gN N E) (gE E)=true:=by
  refine fD.2 ⟨fun s hs=>?_,fun x hx=>hn.2 x (jD.1 hx)⟩;rcases mJ.1 hs with h1|⟨x,hx,rfl|rfl⟩
  ·exact hn.1 s h1
  ·exact(hn.2 x hx).1
  ·exact(hn.2 x hx).2.2
 rw[cK,if_neg (by rw[hf];simp),if_neg (by rw[hm];simp),rG h]
open Go.RowKit
theorem OP{N M:List Txt}{E F:List Ed}(h:cK N E=0)(hN:∀s,s∈M↔s∈N)(hE:∀x,x∈F↔x∈E):ofI M F=0∧gN M F=N∧gE F=E:=by
 obtain⟨f1,f2,f3⟩:=nB (jX h).1;obtain⟨a,b,c⟩:=KB h (M:=N) (fun s=>⟨.inl,fun hs=>by
  rcases hs with hs|⟨x,hx,rfl|rfl⟩
  ·exact hs
  ·exact(f3 x hx).1
  ·exact(f3 x hx).2⟩)
 have hends:∀s,(s∈M∨∃x∈F,s=x.fr∨s=x.to)↔(s∈N∨∃x∈E,s=x.fr∨s=x.to):=fun s=>by
  constructor
  ·rintro (hs|⟨x,hx,hs⟩)
   ·exact .inl ((hN s).1 hs)
   ·exact .inr ⟨x,(hE x).1 hx,hs⟩
  ·rintro (hs|⟨x,hx,hs⟩)
   ·exact .inl ((hN s).2 hs)
   ·exact .inr ⟨x,(hE x).2 hx,hs⟩
 refine⟨?_,by rw[wA hends,b],by rw[wB hE,c]⟩;rw[rH hends hE (fun s hs=>.inl ((hN s).1 hs)) (fun s hs=>.inl ((hN s).2 hs)),a]
open Go.RowKit
theorem zZ{G:Gr}{s:Txt}(h:s∈G.N):cD G s=(G,false,0):=by
 unfold cD;rw[if_pos (bC.2 h)]
theorem uM(G:Gr)(x:Ed):((aU G x).2.1=true→(aU G x).2.2=0)∧((aU G x).2.1=false→(aU G x).1=G)∧((aU G x).2.2=0→x∈(aU G x).1.X)∧(∃M,(aU G x).1.N=G.N++M)∧(∀y∈G.X,y∈(aU G x).1.X)∧((aU G x).2.2≠0→ofI G.N (G.X++[x])≠0)∧((aU G x).2.1=true→x ∉ G.X):=by
 unfold aU;split
 ·rename_i h
  exact⟨fun e=>(by cases e),fun _=>rfl,fun _=>h,⟨[],by simp⟩,fun _ h=>h,fun e=>absurd rfl e,fun e=>by cases e⟩
 split
 ·rename_i h h2
  refine⟨fun _=>rfl,fun e=>(by cases e),fun _=>by simp,?_,fun y hy=>List.mem_append.2 (.inl hy),fun e=>absurd rfl e,fun _=>h⟩;have key:∀(N:List Txt) s,∃M,dN N s=N++M:=fun N s=>by
   unfold dN;split
   ·exact⟨[],by simp⟩
   ·exact⟨[s],rfl⟩
  obtain⟨M,e1⟩:=key G.N x.fr;obtain⟨M',e2⟩:=key (dN G.N x.fr) x.to;exact⟨M++M',by dsimp only;rw[e2,e1,List.append_assoc]⟩
 ·rename_i h h2
  exact⟨fun e=>(by cases e),fun _=>rfl,fun e=>absurd e h2,⟨[],by simp⟩,fun _ h=>h,fun e=>e,fun e=>by cases e⟩
theorem uN(G:Gr)(s:Txt):((cD G s).2.1=true→(cD G s).2.2=0)∧((cD G s).2.1=false→(cD G s).1=G)∧((cD G s).2.2=0→s∈(cD G s).1.N)∧(∃M,(cD G s).1.N=G.N++M)∧(cD G s).1.X=G.X∧((cD G s).2.1=true→s ∉ G.N):=by
 unfold cD;split
 ·rename_i h
  exact⟨fun e=>(by cases e),fun _=>rfl,fun _=>bC.1 h,⟨[],by simp⟩,rfl,fun e=>by cases e⟩
 split
 ·rename_i h h2
  exact⟨fun _=>rfl,fun e=>(by cases e),fun _=>by simp,⟨[s],rfl⟩,rfl,fun _ hs=>h (bC.2 hs)⟩
 ·rename_i h h2
  exact⟨fun e=>(by cases e),fun _=>rfl,fun e=>absurd e h2,⟨[],by simp⟩,rfl,fun e=>by cases e⟩
structure TM(G G1 G2:Gr)(m1 m2:Bool)(e1 e2:Int)(x:Ed)(s:Txt):Prop where
 same:JB (eT G2) (eI G2) (eT G) (eI G)=!(m1||m2)
 fair:(m1=true→e1=0)∧(m2=true→e2=0)
 has:e1=0→x∈G2.X
 again:∃e,aU G2 x=(G2,false,e)∧(e1=0→e=0)
 twice:∃e,cD G2 s=(G2,false,e)∧(e2=0→e=0)
 more:∃M,G2.N=G.N++M
 may:cK (eT G2) (eI G2)=0
theorem stays{G:Gr}(ok:GOk G)(x:Ed)(s:Txt):TM G (aU G x).1 (cD (aU G x).1 s).1 (aU G x).2.1 (cD (aU G x).1 s).2.1 (aU G x).2.2 (cD (aU G x).1 s).2.2 x s:=by
 obtain⟨a1,a2,a3,⟨M1,a4⟩,a5,a6,a7⟩:=uM G x;have ok1:=ok.edge x;obtain⟨b1,b2,b3,⟨M2,b4⟩,b5,b6⟩:=uN (aU G x).1 s;have ok2:=ok1.node s;generalize hG1:(aU G x).1=G1 at *;generalize hm1:(aU G x).2.1=m1 at *;generalize he1:(aU G x).2.2=e1 at *;generalize hG2:(cD G1 s).1=G2 at *;generalize hm2:(cD G1 s).2.1=m2 at *;generalize he2:(cD G1 s).2.2=e2 at *;have hin:m1=false→m2=false→G2=G:=fun h1 h2=>(b2 h2).trans (a2 h1)
 refine⟨?_,⟨a1,b1⟩,fun h=>by rw[b5];exact a3 h,?_,?_,⟨M1++M2,by rw[b4,a4,List.append_assoc]⟩,zY ok2.may⟩
 ·cases h1:m1 with
  | true =>
   have hx:=a7 h1;have hx2:x∈G2.X:=by rw[b5];exact a3 (a1 h1)
   have:eI G2≠eI G:=fun e=>hx (jD.1 (by show x∈eI G;rw[← e];exact jD.2 hx2))
   simp[JB,this]
  | false =>
   cases h2:m2 with
   | true =>
    have hs:=b6 h2;rw[a2 h1] at hs;have:eT G2≠eT G:=fun e=>hs ((mY ok).1 (by rw[← e];exact(mY ok2).2 (b3 (b1 h2))))
    simp[JB,this]
   | false =>
    rw[hin h1 h2];simp[JB]
 ·by_cases h:e1=0
  ·exact⟨0,by unfold aU;rw[if_pos (by rw[b5];exact a3 h)],fun _=>rfl⟩
  ·have h1:m1=false:=by
    cases h1:m1 with
    | true=>exact absurd (a1 h1) h
    | false=>rfl
   have hx:x ∉ G2.X:=by
    rw[b5,a2 h1];intro hx;apply h
    rw[← he1];unfold aU;rw[if_pos hx]
   have ho:ofI G2.N (G2.X++[x])≠0:=fun e=>a6 h (CX (fun t ht=>.inl (by rw[b4,a4];simp[ht])) (fun y hy=>by rw[b5,a2 h1];exact hy) e)
   exact⟨_,by unfold aU;rw[if_neg hx,if_neg ho],fun e=>absurd e h⟩
 ·by_cases h:e2=0
  ·exact⟨0,zZ (b3 h),fun _=>rfl⟩
  ·have h2:m2=false:=by
    cases h2:m2 with
    | true=>exact absurd (b1 h2) h
    | false=>rfl
   have:=b2 h2;rw[this];refine⟨e2,?_,fun e=>absurd e h⟩;rw[← hm2,← he2] at *;exact Prod.ext (by rw[hG2];exact this) (Prod.ext h2 rfl)
open Go.RowKit
theorem iN.mono{B B' p:Nat}{G:Gr}{w:World}(h:iN B p G w)(hb:B'≤B):iN B' p G w:=by
 obtain⟨F,g,n⟩:=h;exact⟨F,g,fun k hk=>Nat.le_trans hb (n k hk)⟩
theorem uO{N:List Txt}(hd:N.Nodup){k:Nat}{s:Txt}(h:N[k]?=some s):dN (N.take k) s=N.take (k+1):=by
 have hs:s ∉ N.take k:=fun hm=>by
  have e:=List.take_append_drop k N;obtain⟨hk,hk2⟩:=gO.1 h;have hmem:s∈N.drop k:=by
   rw[List.drop_eq_getElem_cons hk,hk2];simp
  rw[← e,List.nodup_append] at hd;exact hd.2.2 s hm s hmem rfl
 unfold dN;rw[if_neg (fun e=>hs (bC.1 e)),List.take_add_one,h];rfl
theorem sC{N:List Txt}{s:Txt}(h:s∈N):dN N s=N:=by unfold dN;rw[if_pos (bC.2 h)]
theorem AA{α:Type}{N:List α}(hd:N.Nodup){k:Nat}{s:α}(h:N[k]?=some s):s ∉ N.take k:=fun hm=>by
 have e:=List.take_append_drop k N;obtain⟨hk,hk2⟩:=gO.1 h;have hmem:s∈N.drop k:=by
  rw[List.drop_eq_getElem_cons hk,hk2];simp
 rw[← e,List.nodup_append] at hd;exact hd.2.2 s hm s hmem rfl
def EE(w:World)(N:List Txt)(E:List Ed)(e:Ending)(w':World):Prop:=
 (cK N E≠0∧e=.returned (.tuple #[.pointer none,.int .i64 (cK N E)])∧Below w.heap.size w w')∨(cK N E=0∧RS w ⟨N,E⟩ (fun v=>.tuple #[v,.int .i64 0]) e w')
theorem AB{B p k:Nat}{N:List Txt}{w:World}(hd:N.Nodup)(h:iN B p ⟨N.take k,[]⟩ w)(hB:B≤w.heap.size){s:Txt}(hs:N[k]?=some s)(hk:fH s)(hl:N.length≤32) :
  Calls Tryz.prog 37 #[.pointer (some ⟨p,0,none⟩),.string s] w (fun e w'=>(∃v,e=.returned v)∧iN B p ⟨N.take (k+1),[]⟩ w'∧Below B w w'):=by
 obtain⟨F,⟨U,V,g,ho⟩,n⟩:=h;refine(rN w F p (N.take k) U V _ s g hk (by rw[List.length_take];omega)).mono ?_;rintro e w' ⟨rfl,F',g',u',n'⟩;have:=iN.step (G':=⟨N.take (k+1),[]⟩) n hB ⟨F',⟨U,V,by rw[uO hd hs] at g';exact g',by have:=ho.node (fun x hx=>by cases hx) s;rw[uO hd hs] at this;exact this⟩,u',n'⟩;exact⟨⟨_,rfl⟩,this⟩
theorem AC{B p k:Nat}{N:List Txt}{E:List Ed}{w:World}(hN:N.Nodup)(hd:E.Nodup)(hends:∀x∈E,x.fr∈N∧x.to∈N)(h:iN B p ⟨N,E.take k⟩ w)(hB:B≤w.heap.size){x:Ed}(hx:E[k]?=some x)(hk:BS x)(hl:N.length≤32)(he:E.length≤256) :
  Calls Tryz.prog 38 #[.pointer (some ⟨p,0,none⟩),x.agg] w (fun e w'=>(∃v,e=.returned v)∧iN B p ⟨N,E.take (k+1)⟩ w'∧Below B w w'):=by
 obtain⟨F,⟨U,V,g,ho⟩,n⟩:=h;have hlt:(E.take k).length≤256:=by rw[List.length_take];omega
 have hUV:=fun k=>ho.len k
 dsimp only at ho hUV
 have hm:=hends x (mG hx);have hts:∀y∈E.take k,y.fr∈N∧y.to∈N:=fun y hy=>hends y (List.mem_of_mem_take hy)
 refine(yJ w F p N U V _ x g hk (by omega) (fun k=>⟨ho.up k,by have:=(hUV k).1;omega⟩) (fun k=>⟨ho.vp k,by have:=(hUV k).2;omega⟩) ⟨by omega,by dsimp only;omega⟩).mono ?_;rintro e w' ⟨rfl,F',g',u',n'⟩;have e1:dN (dN N x.fr) x.to=N:=by rw[sC hm.1,sC hm.2]
 rw[e1] at g';have e2:E.take k++[x]=E.take (k+1):=by rw[List.take_add_one,hx];rfl
 have hops:=ho.edge hN hts hm.1 hm.2 (AA hd hx);rw[e2] at hops;have e3:(((E.take (k+1)).length:Nat):Int)=((E.take k).length:Int)+1:=by rw[← e2];simp
 have:=iN.step (G':=⟨N,E.take (k+1)⟩) n hB ⟨F',⟨_,_,by dsimp only;rw[e3];exact g',hops⟩,u',n'⟩;exact⟨⟨_,rfl⟩,this⟩
theorem EF(w:World)(A:Option Addr)(c:Nat)(B:Option Addr)(d:Nat)(N:List Txt)(E:List Ed)(h:lN w A c B d N E) :
  Calls Tryz.prog 17 #[cP A N.length c B E.length d] w (EE w N E):=by
 have k0:=Blk.new w 28 #[.slice A N.length c,.slice B E.length d];have u0:Below w.heap.size w (w.alloc (.cells #[.slice A N.length c,.slice B E.length d] 28)):=bR.alloc (Nat.le_refl _) _;have H:=aI3 (h.below u0) k0 u0;clear h k0 u0;obtain⟨z,hz⟩:∃z,cK N E=z:=⟨_,rfl⟩;have HZ:=hIz hz;clear hz;unfold cP;obtain⟨n,hn⟩:∃n,N.length=n:=⟨_,rfl⟩;obtain⟨m,hm⟩:∃m,E.length=m:=⟨_,rfl⟩;have hche:=fun W hG=>zL W A c B d N E hG
 unfold cP at hche;rw[hn,hm] at H hche ⊢;have HL:=aI2 hn hm;clear hn hm;go_enter Tryz.func17,Tryz.ntmps17;go_upto_region 1 with (fail);generalize w.alloc (.cells #[.slice A n c,.slice B m d] 28)=W0 at H ⊢;have q0:W0.cell? ⟨w.heap.size,0,none⟩=some (.slice A n c):=H.out.2.1.cell 0;have q1:W0.cell? ⟨w.heap.size,1,none⟩=some (.slice B m d):=H.out.2.1.cell 1;have hcon:=hche W0 H.out.1;rw[HZ.out] at hcon;go_wp2_with fail;refine hcon.mono ?_;clear hcon hche q0 q1;rintro e W1 ⟨rfl,b1⟩;have H1:=aI3 (H.out.1.below b1) (H.out.2.1.upd (upF b1) id) (tHn H.out.2.2 b1);clear b1;by_cases h0:z=0
 ·subst h0;have hc:=jX HZ.out;have hform:=nB hc.1;have hcap:=OJ hc.2.2;have hn32:n≤32:=by rw[← HL.out.1];exact hcap.1
  have hm256:m≤256:=by rw[← HL.out.2];exact hcap.2.2.1
  have HF:=aI4 (hform.1.nodup fJ) (hform.2.1.nodup sR) hform.2.2 H.out.1.fit;clear hc hform hcap;go_wp2_with fail;refine(RT W1).mono ?_;rintro e W2 ⟨p,rfl,fr2,b2⟩;have H2:=aI2 fr2 b2;have q0:W2.cell? ⟨w.heap.size,0,none⟩=some (.slice A n c):=(H1.out.2.1.upd (upF b2) id).cell 0;clear b2 fr2;go_wp2_with fail;clear q0;go_loopw [19] (fun i wr=>∃k:Nat,k≤n∧i=.int .i64 k∧Hid (iN W1.heap.size p ⟨N.take k,[]⟩ wr)∧Hid (Below W1.heap.size W1 wr)) (fun i _=>n-(intOf i).toNat)
  case atStart=>exact⟨0,Nat.zero_le _,rfl,hIz H2.out.1,hIz H2.out.2⟩
  case round =>
   obtain⟨k,hk,rfl,hfr,hbw⟩:=hrel;by_cases hlt:k<n
   ·have hltI:(k:Int)<(n:Int):=by omega
    have hkw:IntKind.i64.wrap ((k:Int)+1)=(k:Int)+1:=IntWalk.i64_in _ (by omega);obtain⟨s,hs⟩:∃s,N[k]?=some s:=⟨N[k]'(by rw[HL.out.1];exact hlt),gEz _⟩;obtain⟨ab,ao,rfl,y0⟩:=((H1.out.1.rn.below hbw.out).txt hs);have hcon:=AB HF.out.1 hfr.out hbw.out.size hs (HF.out.2.2.2.tn s (mG hs)) (by rw[HL.out.1];exact hn32);clear hs;go_wp2_with fail;refine hcon.mono ?_;clear hcon y0;rintro e W3 ⟨⟨v,rfl⟩,f3,b3⟩;have HB3:=aI2 f3 (hbw.out.trans b3);clear f3 b3;go_wp2;go_roundw
    case rel=>exact⟨k+1,by omega,by go_num,hIz HB3.out.1,hIz HB3.out.2⟩
    case measure=>simp[intOf];omega
   ·obtain rfl:k=n:=by omega
    have q1:wr.cell? ⟨w.heap.size,1,none⟩=some (.slice B m d):=(H1.out.2.1.upd (upF hbw.out) id).cell 1;have HW:=hIz (show iN W1.heap.size p ⟨N,E.take 0⟩ wr from by
     have:=hfr.out;rw[← HL.out.1,List.take_length] at this;exact this)
    clear hfr;go_wp2_with fail;clear q1;generalize wr=W4 at HW hbw ⊢;go_loopw [30] (fun i wr=>∃k:Nat,k≤m∧i=.int .i64 k∧Hid (iN W1.heap.size p ⟨N,E.take k⟩ wr)∧Hid (Below W1.heap.size W1 wr)) (fun i _=>m-(intOf i).toNat)
    case atStart=>exact⟨0,Nat.zero_le _,rfl,HW,hbw⟩
    case round =>
     obtain⟨j,hj,rfl,hfr,hbz⟩:=hrel;by_cases hjt:j<m
     ·have hjtI:(j:Int)<(m:Int):=by omega
      have hjw:IntKind.i64.wrap ((j:Int)+1)=(j:Int)+1:=IntWalk.i64_in _ (by omega);obtain⟨x,hx⟩:∃x,E[j]?=some x:=⟨E[j]'(by rw[HL.out.2];exact hjt),gEz _⟩;have hxk:=HF.out.2.2.2.te x (mG hx);obtain⟨s0,s1,s2⟩:=x;obtain⟨ab,ao,rfl,y0,y1,y2⟩:=((H1.out.1.re.below hbz.out).ed hx);dsimp only at y0 y1 y2
      have k5:=Blk.new wr 88 #[.string s0,.string s1,.string s2];have u5:Below wr.heap.size wr (wr.alloc (.cells #[.string s0,.string s1,.string s2] 88)):=bR.alloc (Nat.le_refl _) _;have hcon:=AC (w:=wr.alloc (.cells #[.string s0,.string s1,.string s2] 88)) HF.out.1 HF.out.2.1 HF.out.2.2.1 (hfr.out.below u5) (by have:=hbz.out.size;have:=u5.size;omega) hx hxk (by rw[HL.out.1];exact hn32) (by rw[HL.out.2];exact hm256);have HU:=aI2 k5 (tHn hbz.out u5);clear k5 u5 hx;unfold Ed.agg at hcon;dsimp only at hcon
      go_upto_region 13 with (fail);generalize wr.alloc (.cells #[.string s0,.string s1,.string s2] 88)=W6 at HU hcon ⊢;clear y0 y1 y2;have y0:W6.cell? ⟨wr.heap.size,0,none⟩=some (.string s0):=HU.out.1.cell 0;have y1:W6.cell? ⟨wr.heap.size,1,none⟩=some (.string s1):=HU.out.1.cell 1;have y2:W6.cell? ⟨wr.heap.size,2,none⟩=some (.string s2):=HU.out.1.cell 2;go_wp2_with fail;refine hcon.mono ?_;clear hcon y0 y1 y2;rintro e W7 ⟨⟨v,rfl⟩,f7,b7⟩;have HB7:=aI2 f7 (HU.out.2.trans b7);clear f7 b7;go_wp2;go_roundw
      case rel=>exact⟨j+1,by omega,by go_num,hIz HB7.out.1,hIz HB7.out.2⟩
      case measure=>simp[intOf];omega
     ·obtain rfl:j=m:=by omega
      have FIN:=hIz (show EE w N E (.returned (.tuple #[.pointer (some ⟨p,0,none⟩),.int .i64 0])) wr from by
       refine .inr ⟨HZ.out,p,rfl,?_,tHn H1.out.2.2 hbz.out⟩;have:=hfr.out;rw[← HL.out.2,List.take_length] at this;exact this.mono H1.out.2.2.size)
      clear hfr hbz;go_wp2;refine bodyPost_ret (v:=.tuple #[.pointer (some ⟨p,0,none⟩),.int .i64 0]) (by simp[results,Tryz.f17,go_sem]) rfl FIN.out
 ·have h0I:(z==0)=false:=by simpa using h0
  have FIN:=hIz (show EE w N E (.returned (.tuple #[.pointer none,.int .i64 z])) W1 from .inl ⟨by rw[HZ.out];exact h0,by rw[HZ.out],H1.out.2.2⟩);go_wp2;refine bodyPost_ret (v:=.tuple #[.pointer none,.int .i64 z]) (by simp[results,Tryz.f17,go_sem]) rfl FIN.out
open Go.RowKit
structure EG(G:Gr)(k:Nat)(L:List Hp):Prop where
 up:cT ltH L
 mem:∀h,h∈L↔∃x∈G.X,G.N[k]?=some x.fr∧h=⟨x.lb,(eE G.N x.to:Int)⟩
def SZ(w:World)(G:Gr)(k:Nat)(e:Ending)(w':World):Prop:=∃v L,EG G k L∧e=.returned (.tuple #[v,.int .i64 0])∧w'.ownsRow w.heap.size 143 2 v L.length (aQ L)∧Below w.heap.size w w'
theorem KC(w:World)(p:Nat)(v:Value)(q2:w.cell? ⟨p,2,none⟩=some v):Calls Tryz.prog 121 #[.pointer (some ⟨p,0,none⟩)] w (gB w v):=by
 go_enter Tryz.func121,Tryz.ntmps121;go_wp2;go_ret;exact⟨rfl,rfl⟩
theorem RU(w:World)(F:Nat→Prop)(p:Nat)(G:Gr)(h:GrS w F p G)(ok:GOk G)(k:Nat)(hk:k<G.N.length):Calls Tryz.prog 88 #[.pointer (some ⟨p,0,none⟩),.int .i64 k] w (SZ w G k):=by
 obtain⟨U,V,⟨O,⟨r,nv,ov,iv,fo,fi⟩,hg,-⟩,ho⟩:=h;have hf:=ok.few;have q1:w.cell? ⟨p,1,none⟩=some (.map (some r)):=hg.blk.cell 1;obtain⟨nA,nc,e1,-,-⟩:=aK hg.rn;dsimp only at e1
 subst e1;obtain⟨og,oc,eo,-,co,-⟩:=jK hg.ro hk;dsimp only at eo co
 subst eo;obtain⟨Av,cA,eA,-,-⟩:=aK (hg.fo k);dsimp only at eA
 have hrow:=hg.fo k;dsimp only at hrow
 rw[eA] at co hrow;have hcl:=KA w Av cA (U k) (aX.of_own hrow) (by have:=(ho.len k).1;omega);have HO:=hIz (show EG G k (U k) from⟨ho.up k,ho.um k⟩);obtain⟨mm,hmm⟩:∃m,(U k).length=m:=⟨_,rfl⟩;rw[hmm] at hcl co;obtain⟨n,hn⟩:∃n,G.N.length=n:=⟨_,rfl⟩;have hn32:n≤32:=by omega
 rw[hn] at hk;have q0:w.cell? ⟨p,0,none⟩=some (.slice nA n nc):=by rw[← hn];exact hg.blk.cell 0
 have q2:w.cell? ⟨p,2,none⟩=some (.slice (some ⟨og,0,none⟩) n oc):=by rw[← hn];exact hg.blk.cell 2
 have HM:=hIz hmm;clear hg ho hrow eA hmm hn ok hf;have hkI:(k:Int)<(n:Int):=by omega
 have eg:∀args w,(callFunc 121 args).run Tryz.prog w=.ok (.enter 121 args) w:=Go.Proofs.enters_of Tryz.func121 (by kernel_rfl) rfl;have hops:Calls Tryz.prog 120 #[.pointer (some ⟨p,0,none⟩),.int .i64 k,.func (.func 121) #[.pointer (some ⟨p,0,none⟩)] #[]] w (SZ w G k):=by
  go_enter Tryz.func120,Tryz.ntmps120;go_wp2_with fail;refine(lG w p r q1).mono ?_;rintro e w' ⟨rfl,hw⟩;subst w';go_wp2_with fail;refine(KC w p _ q2).mono ?_;rintro e w' ⟨rfl,hw⟩;subst w';go_wp2_with fail;refine hcl.mono ?_;rintro e w' ⟨v,rfl,o,b⟩;have FIN:=hIz (show SZ w G k (.returned (.tuple #[v,.int .i64 0])) w' from⟨v,U k,HO.out,rfl,o,b⟩);clear o b hcl;go_wp2;refine bodyPost_ret (v:=.tuple #[v,.int .i64 0]) (by simp[results,Tryz.f120,go_sem]) rfl FIN.out
 clear eg q0 q1 q2 co hcl;go_enter Tryz.func88,Tryz.ntmps88;go_wp2_with fail;refine hops.mono ?_;rintro e w' ⟨v,L,hL,rfl,o,b⟩;have FIN:=hIz (show SZ w G k (.returned (.tuple #[v,.int .i64 0])) w' from⟨v,L,hL,rfl,o,b⟩);clear o b hL hops;go_wp2;refine bodyPost_ret (v:=.tuple #[v,.int .i64 0]) (by simp[results,Tryz.f88,go_sem]) rfl FIN.out
open Go.RowKit
theorem MT(w:World)(F:Nat→Prop)(p:Nat)(G:Gr)(h:GrS w F p G):Calls Tryz.prog 39 #[.pointer (some ⟨p,0,none⟩)] w (Sam w (.tuple #[.int .i64 (G.N.length:Nat),.int .i64 (G.X.length:Nat)])):=by
 obtain⟨U,V,⟨O,⟨r,nv,ov,iv,fo,fi⟩,hg,-⟩,-⟩:=h;have q1:w.cell? ⟨p,1,none⟩=some (.map (some r)):=hg.blk.cell 1;obtain⟨nA,nc,e1,-,-⟩:=aK hg.rn;dsimp only at e1
 subst e1;have q0:w.cell? ⟨p,0,none⟩=some (.slice nA G.N.length nc):=hg.blk.cell 0;have q4:w.cell? ⟨p,4,none⟩=some (.int .i64 (G.X.length:Int)):=hg.blk.cell 4;clear hg;generalize G.N.length=a at q0 ⊢;generalize ((G.X.length:Nat):Int)=b at q4 ⊢;go_enter Tryz.func39,Tryz.ntmps39;go_wp2_with fail;refine(lG w p r q1).mono ?_;rintro e w' ⟨rfl,hw⟩;subst w';go_upto_region 3 with (fail);go_quiet (fail)
 go_wp2;refine bodyPost_ret (v:=.tuple #[.int .i64 (a:Int),.int .i64 b]) (by simp[results,Tryz.f39,go_sem]) rfl ⟨rfl,((Upd.refl (fun _=>False) w).drewN _).below (fun _ _ h=>h.elim) (Nat.le_refl _)⟩
end Go.Proofs.YteffnejneoocgaaGreatDoor
