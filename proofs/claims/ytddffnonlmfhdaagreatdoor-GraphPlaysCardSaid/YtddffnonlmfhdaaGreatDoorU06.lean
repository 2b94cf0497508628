/- Graphs: a node that comes; Graphs: an edge that comes; Graphs: an edge that comes (the walk); Edges: cut to what this seat wants; Edges: cut to what this seat wants; Edges: cut to what this seat wants; Edges: cut to what this seat wants; Graphs: Data; Graphs: what stands in a graph's rows; Graphs: Has. -/
import Derived.Test.YtddffnonlmfhdaaGreatDoorU05
import Derived.Test.YtddffnonlmfhdaaGreatDoorU03
import Derived.Laws.Cover3
set_option linter.unusedVariables false
set_option linter.unusedSimpArgs false
set_option maxHeartbeats 16000000
set_option maxRecDepth 100000
namespace Go.Proofs.YtddffnonlmfhdaaGreatDoor
open Go.RowKit
def PG(w:World)(F:Nat→Prop)(p:Nat)(N:List Txt)(U V:Nat→List Hp)(cnt:Int)(s:Txt)(e:Ending)(w':World):Prop:=e=.returned (.int .i64 (cS N s))∧iK w F p (bG N s) U V cnt w'
theorem eZ:(Tryz.prog.info? 99).map (fun i=>(i.zero,i.size,i.bytes))=some (some (.slice none 0 0),1,24):=by kernel_rfl
theorem gX{w:World}{g:Nat}{t:TypeId}{v:Value}(h:Blk w g t #[v]):aV w (some ⟨g,0,none⟩) [v]:=fun j u hj=>⟨g,0,rfl,by rw[Nat.zero_add,h.cell j];simpa using hj⟩
theorem rK{w w3 V V':World}{O:Nat→Option Ro}{p r n b w2s:Nat}{N:List Txt}{U Vv:Nat→List Hp}{s:Txt}{cnt:Int}{A0 A1 A2 A3 B2 B3:Option Addr}{c0 c1 c2 c3 d2 d3:Nat}{fo fi:Nat→Value}
  (hg:GrI w O p N U Vv cnt ⟨r,.slice A0 N.length c0,.slice A2 N.length c2,.slice A3 N.length c3,fo,fi⟩) (hn:N.length=n)
  (k3:Blk w3 p 108 #[Value.slice A1 (n+1) c1,.map (some r),Value.slice A2 n c2,Value.slice A3 n c3,.int .i64 cnt]) (m3:cX w3 Tryz.prog 9 r (kvN N n++[(.string s,.int .i64 ((n:Int)+1))])) (n3:w3.ownsRow 0 9 1 (.slice A1 (n+1) c1) (n+1) (aC N++[.string s]))
  (ut3:Upd (fun k=>k=p∨k=r∨(Value.slice A0 n c0).ownBlock=some k∨(Value.slice A2 n c2).ownBlock=some k∨(Value.slice A3 n c3).ownBlock=some k) w w3)
  (pn:∀k,(Value.slice A1 (n+1) c1).ownBlock=some k→(Value.slice A0 n c0).ownBlock=some k∨w.heap.size≤k∧k<w2s) (hw2:w2s≤w3.heap.size)
  (h1:(Value.slice A1 (n+1) c1).ownBlock≠some r) (h2:(Value.slice A1 (n+1) c1).ownBlock≠some p) (h3:r≠p) (h4:∀k,(Value.slice A2 n c2).ownBlock=some k→k≠p∧k≠r∧k<w.heap.size) (h5:∀k,(Value.slice A3 n c3).ownBlock=some k→k≠p∧k≠r∧k<w.heap.size) (h6:∀k,(Value.slice A2 n c2).ownBlock=some k→(Value.slice A3 n c3).ownBlock=some k→False)
  (hj:Upd (fun k=>(Value.slice A2 n c2).ownBlock=some k) w3 V) (o2:V.ownsRow 0 99 1 (.slice B2 (n+1) d2) (n+1) (jK fo n++[.slice none 0 0])) (p2:∀k,(Value.slice B2 (n+1) d2).ownBlock=some k→(Value.slice A2 n c2).ownBlock=some k∨b≤k) (hb:w3.heap.size≤b)
  (o6:V'.ownsRow 0 99 1 (.slice B3 (n+1) d3) (n+1) (jK fi n++[.slice none 0 0])) (u6:Upd (fun k=>(Value.slice A3 n c3).ownBlock=some k) V V') (p6:∀k,(Value.slice B3 (n+1) d3).ownBlock=some k→(Value.slice A3 n c3).ownBlock=some k∨V.heap.size≤k) :
  Hid (Blk V' p 108 #[Value.slice A1 (n+1) c1,.map (some r),Value.slice A2 n c2,Value.slice A3 n c3,.int .i64 cnt]∧iK w (fun k=>O k≠none) p (N++[s]) U Vv cnt ((V'.setCell ⟨p,2,none⟩ (.slice B2 (n+1) d2)).setCell ⟨p,3,none⟩ (.slice B3 (n+1) d3)) ∧
   (Instr.lookup 105 (.map (some r)) (.string s) false).run Tryz.prog ((V'.setCell ⟨p,2,none⟩ (.slice B2 (n+1) d2)).setCell ⟨p,3,none⟩ (.slice B3 (n+1) d3))=.ok (.int .i64 ((n:Int)+1)) ((V'.setCell ⟨p,2,none⟩ (.slice B2 (n+1) d2)).setCell ⟨p,3,none⟩ (.slice B3 (n+1) d3)) ∧
   ((V'.setCell ⟨p,2,none⟩ (.slice B2 (n+1) d2)).setCell ⟨p,3,none⟩ (.slice B3 (n+1) d3)).cell? ⟨p,1,none⟩=some (.map (some r))):=by
 subst hn;have hs3:=ut3.size;have hsV:=hj.size;have hp:=hg.lt p (by rw[hg.op];nofun);have nB2:∀k,(Value.slice B2 (N.length+1) d2).ownBlock=some k→k≠p∧k<V.heap.size∧¬(Value.slice A3 N.length c3).ownBlock=some k:=fun k hk=>by
  refine⟨?_,(o2.lt k hk).2,?_⟩
  ·rintro rfl;rcases p2 _ hk with h|h
   ·exact(h4 _ h).1 rfl
   ·omega
  ·intro h;rcases p2 _ hk with h' | h'
   ·exact h6 _ h' h
   ·have:=(h5 _ h).2.2;omega
 have kV':=(k3.upd hj (fun e=>(h4 _ e).1 rfl)).upd u6 (fun e=>(h5 _ e).1 rfl);have mV':=(m3.upd hj (fun e=>(h4 _ e).2.1 rfl)).upd u6 (fun e=>(h5 _ e).2.1 rfl);have nA1:∀k,(Value.slice A1 (N.length+1) c1).ownBlock=some k→¬(Value.slice A2 N.length c2).ownBlock=some k∧¬(Value.slice A3 N.length c3).ownBlock=some k:=fun k hk=>by
  rcases pn k hk with h|h
  ·have hr:=hg.on k h;exact⟨fun e=>(by rw[hg.oo k e] at hr;cases hr),fun e=>(by rw[hg.oi k e] at hr;cases hr)⟩
  ·exact⟨fun e=>(by have:=(h4 k e).2.2;omega),fun e=>(by have:=(h5 k e).2.2;omega)⟩
 have nV':=aA (aA n3 hj (fun k hk=>(nA1 k hk).1)) u6 (fun k hk=>(nA1 k hk).2);have oV':=aA o2 u6 (fun k hk=>(nB2 k hk).2.2);have nB3:∀k,(Value.slice B3 (N.length+1) d3).ownBlock=some k→k≠p:=fun k hk=>by
  rintro rfl;rcases p6 _ hk with h|h
  ·exact(h5 _ h).1 rfl
  ·omega
 have us:=((Upd.refl (fun k=>k=p) V').setCell (p:=⟨p,2,none⟩) (.inl rfl) (.slice B2 (N.length+1) d2)).setCell (p:=⟨p,3,none⟩) (.inl rfl) (.slice B3 (N.length+1) d3);have kz:=(kV'.set 2 (.slice B2 (N.length+1) d2)).set 3 (.slice B3 (N.length+1) d3);have mz:=mV'.upd us h3;have utz:=((ut3.trans hj (fun k h=>.inl (.inr (.inr (.inr (.inl h)))))).trans u6 (fun k h=>.inl (.inr (.inr (.inr (.inr h)))))).trans us (fun k h=>.inl (.inl h));refine hIz ⟨kV',?_,?_,kz.cell 1⟩
 ·exact hg.grow s _ _ _ w3.heap.size V.heap.size hs3 hsV utz kz mz (aA nV' us (fun k hk e=>h2 (by rw[hk,e]))) (aA oV' us (fun k hk=>(nB2 k hk).1)) (aA o6 us nB3)
   (fun k hk=>(pn k hk).imp id fun h=>⟨h.1,by omega⟩) (fun k hk=>(p2 k hk).imp id fun h=>⟨by omega,(nB2 k hk).2.1⟩) p6
 ·exact mz.look_hit fK Tryz.underlying105 (List.mem_append.2 (.inr (List.mem_singleton.2 rfl))) false
theorem nC(w:World)(F:Nat→Prop)(p:Nat)(N:List Txt)(U V:Nat→List Hp)(cnt:Int)(s:Txt)(h:sF w F p N U V cnt)(hk:cT s)(hl:N.length≤1000000) :
  Calls Tryz.prog 45 #[.pointer (some ⟨p,0,none⟩),.string s] w (PG w F p N U V cnt s):=by
 by_cases hs:s∈N
 ·have hadd:bG N s=N:=by unfold bG;rw[if_pos (aQ.2 hs)]
  have FIN:=hIz (show iK w F p (bG N s) U V cnt w from by rw[hadd];exact iK.refl h bR);obtain⟨O,D,hg,rfl⟩:=h;have l0:=fX hg.map s hk;have q1:w.cell? ⟨p,1,none⟩=some (.map (some D.r)):=hg.blk.cell 1;obtain⟨k,hk2⟩:∃k,cS N s=k:=⟨_,rfl⟩;have hkl:k≤1000000:=by have:=eT hs;omega
  have hnum:FB N s=(k:Int)+1:=by unfold FB;rw[if_pos (aQ.2 hs),hk2]
  rw[hnum] at l0;have hz:((k:Int)+1==0)=false:=by simp;omega
  have hw:IntKind.i64.wrap (((k:Int)+1)-1)=(k:Int):=by rw[IntKind.wrap_i64];omega
  have HK:=hIz hk2;clear hg hnum hadd hs;go_enter Tryz.func45,Tryz.ntmps45;go_wp2;go_ret;exact⟨by rw[HK.out];rfl,FIN.out⟩
 ·have hadd:bG N s=N++[s]:=by unfold bG;rw[if_neg (fun e=>hs (aQ.1 e))]
  have hidx:=rJ hs;have hnum:FB N s=0:=by unfold FB;rw[if_neg (fun e=>hs (aQ.1 e))]
  obtain⟨O,⟨r,v0,v2,v3,fo,fi⟩,hg,rfl⟩:=h;obtain⟨A0,c0,e0,-,-⟩:=aG hg.rn;dsimp only at e0
  subst e0;obtain⟨A2,c2,e0,-,-⟩:=aG hg.ro;dsimp only at e0
  subst e0;obtain⟨A3,c3,e0,-,-⟩:=aG hg.ri;dsimp only at e0
  subst e0;have l0:=fX hg.map s hk;rw[hnum] at l0;have hlt:=hg.lt;have lt:∀k t,O k=some t→k<w.heap.size:=fun k t e=>hlt k (by simp[e])
  have hom:O r=some .m:=hg.om;-- the names
  obtain⟨nv,w1,happ1,own1,up1,pl1⟩:=eV w 0 26 9 1 16 _ Tryz.underlying26 bJ rfl (by decide) (Value.slice A0 N.length c0) N.length _ hg.rn [.string s] 1 rfl (by simp;rfl) (by omega) (by unfold maxLen;omega) (Nat.zero_le _);obtain⟨A1,c1,rfl,-,-⟩:=aG own1;have kb1:=hg.blk.upd up1 (fun e=>by have:=hg.on _ e;rw[hg.op] at this;cases this);have km1:=hg.map.upd up1 (fun e=>by have:=hg.on _ e;rw[hom] at this;cases this);have ko1:=aA hg.ro up1 (fun k e f=>by have:=hg.on _ f;rw[hg.oo k e] at this;cases this);have ki1:=aA hg.ri up1 (fun k e f=>by have:=hg.on _ f;rw[hg.oi k e] at this;cases this);have np1:(Value.slice A1 (N.length+1) c1).ownBlock≠some p:=fun e=>by
   rcases pl1 p e with h|h
   ·have:=hg.on _ h;rw[hg.op] at this;cases this
   ·have:=lt _ _ hg.op;omega
  have nr1:(Value.slice A1 (N.length+1) c1).ownBlock≠some r:=fun e=>by
   rcases pl1 _ e with h|h
   ·have:=hg.on _ h;rw[hom] at this;cases this
   ·have:=lt _ _ hom;omega
  have rp:r≠p:=fun e=>by have:=hom;rw[e,hg.op] at this;cases this
  have no:∀k,(Value.slice A2 N.length c2).ownBlock=some k→k≠p∧k≠r∧k<w.heap.size:=fun k hk=>⟨fun e=>(by have:=hg.oo k hk;rw[e,hg.op] at this;cases this),fun e=>(by have:=hg.oo k hk;rw[e,hom] at this;cases this),lt _ _ (hg.oo k hk)⟩
  have ni:∀k,(Value.slice A3 N.length c3).ownBlock=some k→k≠p∧k≠r∧k<w.heap.size:=fun k hk=>⟨fun e=>(by have:=hg.oi k hk;rw[e,hg.op] at this;cases this),fun e=>(by have:=hg.oi k hk;rw[e,hom] at this;cases this),lt _ _ (hg.oi k hk)⟩
  have noi:∀k,(Value.slice A2 N.length c2).ownBlock=some k→(Value.slice A3 N.length c3).ownBlock=some k→False:=fun k h1 h2=>by have:=hg.oo k h1;rw[hg.oi k h2] at this;cases this
  have kb2:=kb1.set 0 (Value.slice A1 (N.length+1) c1);have us:=(Upd.refl (fun k=>k=p) w1).setCell (p:=⟨p,0,none⟩) (.inl rfl) (Value.slice A1 (N.length+1) c1);have km2:=km1.upd us rp;have ko2:=aA ko1 us (fun k hk=>(no k hk).1);have ki2:=aA ki1 us (fun k hk=>(ni k hk).1);have kn2:=aA own1 us (fun k hk e=>np1 (by rw[hk,e]));have up2:Upd (fun k=>k=p∨k=r∨(Value.slice A0 N.length c0).ownBlock=some k∨(Value.slice A2 N.length c2).ownBlock=some k∨(Value.slice A3 N.length c3).ownBlock=some k) w (w1.setCell ⟨p,0,none⟩ (Value.slice A1 (N.length+1) c1)):=(up1.mono (fun k _ h=>.inr (.inr (.inl h)))).trans us (fun k h=>.inl (.inl h));have bn:∀k,(Value.slice A1 (N.length+1) c1).ownBlock=some k→(Value.slice A0 N.length c0).ownBlock=some k∨w.heap.size≤k∧k<(w1.setCell ⟨p,0,none⟩ (Value.slice A1 (N.length+1) c1)).heap.size:=fun k hk=>by
   rcases pl1 k hk with h|h
   ·exact .inl h
   ·exact .inr ⟨h,(kn2.lt k hk).2⟩
  have q0:w.cell? ⟨p,0,none⟩=some (Value.slice A0 N.length c0):=hg.blk.cell 0;have q1:w.cell? ⟨p,1,none⟩=some (.map (some r)):=hg.blk.cell 1;have r0:w1.cell? ⟨p,0,none⟩=some (Value.slice A0 N.length c0):=kb1.cell 0;have f0:w1.frozen? ⟨p,0,none⟩=false:=kb1.frozen 0;have HG:=aI3 hg hadd hidx;clear hom;have HX:=aI7 (show Blk (w1.setCell ⟨p,0,none⟩ (Value.slice A1 (N.length+1) c1)) p 108 #[Value.slice A1 (N.length+1) c1,.map (some r),Value.slice A2 N.length c2,Value.slice A3 N.length c3,.int .i64 cnt] from kb2) km2 kn2 ko2 ki2 up2 bn;have HN:=aI6 nr1 np1 rp no ni noi;clear hg hadd hidx kb2 km2 kn2 ko2 ki2 up2 bn nr1 np1 rp no ni noi kb1 km1 ko1 ki1 us own1 up1 pl1 hnum hlt lt;obtain⟨n,hn⟩:∃n,N.length=n:=⟨_,rfl⟩;rw[hn] at hl happ1 HX HN q0 r0;have HL:=hIz hn;clear hn;go_enter Tryz.func45,Tryz.ntmps45;go_upto_region 3 with (at_builtin;refine wpList_append_run rfl _ _ _ rfl rfl rfl happ1 ?_);generalize w1.setCell ⟨p,0,none⟩ (Value.slice A1 (n+1) c1)=W2 at HX ⊢;clear q0 q1 r0 f0 l0 happ1;obtain⟨w3,hrun,hm3,hg3,hz3⟩:=(cX.drew HX.out.2.1).put_miss fK Tryz.underlying105 (.int .i64 ((n:Int)+1)) (lO hk) (fun q hq e=>by
   obtain⟨i,t,hi,ht,rfl⟩:=lN N _ q hq;simp only[Value.string.injEq] at e
   subst e;exact hs (mG ht))
  have u3:Upd (fun k=>k=r) W2 w3:=(Upd.refl (fun k=>k=r) W2).drew.grown hg3 (fun k e=>.inl (by injection e with e;exact e.symm));have kb3:=HX.out.1.upd u3 (fun e=>HN.out.2.2.1 e.symm);have kn3:=aA HX.out.2.2.1 u3 (fun k hk e=>HN.out.1 (by rw[hk,e]));have ko3:=aA HX.out.2.2.2.1 u3 (fun k hk=>(HN.out.2.2.2.1 k hk).2.1);have ki3:=aA HX.out.2.2.2.2.1 u3 (fun k hk=>(HN.out.2.2.2.2.1 k hk).2.1);have ut3:=HX.out.2.2.2.2.2.1.trans u3 (fun k h=>.inl (.inr (.inl h)));have H3:=aI7 kb3 hm3 kn3 ko3 ki3 ut3 u3.size;have hS:W2.drew.cell? ⟨p,0,none⟩=some (.slice A1 (n+1) c1)∧W2.drew.cell? ⟨p,1,none⟩=some (.map (some r)):=⟨HX.out.1.cell 0,HX.out.1.cell 1⟩;clear hg3 hz3 u3 kb3 hm3 kn3 ko3 ki3 ut3;refine aE (fun W=>W.cell? ⟨p,0,none⟩=some (.slice A1 (n+1) c1)∧W.cell? ⟨p,1,none⟩=some (.map (some r))) 10 [(0,true),(1,true),(2,true),(3,true),(4,true),(5,true),(6,true),(7,true),(8,true),(9,true),(10,false)] hS ?_;generalize W2.drew=V2 at hrun hS ⊢
  iterate 10 refine aB rfl ?_
  refine aN rfl rfl (fun K hK=>?_);go_simp;refine hK _ _ (fun h=>absurd rfl h) ?_;clear hK K hS hrun V2;(try simp only[Act.put,gA,gS,gZ,sA,sZ,sS])
  refine aF ?_;go_upto_region 4 with (fail);have KS:=hIz (show ∀V,Upd (fun k=>(Value.slice A2 n c2).ownBlock=some k) w3 V→V.cell? ⟨p,2,none⟩=some (.slice A2 n c2)∧V.cell? ⟨p,3,none⟩=some (.slice A3 n c3) from fun V hv=>by
   have kb:=H3.out.1.upd hv (fun e=>(HN.out.2.2.2.1 _ e).1 rfl);exact⟨kb.cell 2,kb.cell 3⟩)
  have hS:w3.drew.cell? ⟨p,2,none⟩=some (.slice A2 n c2)∧w3.drew.cell? ⟨p,3,none⟩=some (.slice A3 n c3):=KS.out _ (Upd.refl _ _).drew;refine jA (fun W=>W.cell? ⟨p,2,none⟩=some (.slice A2 n c2)∧W.cell? ⟨p,3,none⟩=some (.slice A3 n c3)) (aT 16) (by kernel_rfl) ?_;have HJ0:=hIz (show Upd (fun _=>False) w3 w3.drew from(Upd.refl _ w3).drew);generalize w3.drew=V0 at HJ0 hS ⊢;intro hd;(refine cW 0 rfl hd hS ?_;clear hd;intro hd;(try simp only[Act.put,gA,gZ,sA,sZ,sS]))
  (refine dJ (i:=1) (v:=?_) rfl (by kernel_rfl) hd (fun _ _ d _ _ h=>by cases d <;> exact h) (by first | with_reducible rfl | kernel_rfl) ?_ ?_;rotate_left;(focus (intro wS;go_simp;(try with_reducible rfl);done));clear hd;intro hd;(try simp only[Act.put,gA,gS,gZ,sA,sZ,sS]))
  refine cW 2 rfl hd hS ?_;clear hd;intro hd;refine cW 3 rfl hd hS ?_;clear hd;intro hd;refine cW 4 rfl hd hS ?_;clear hd;intro hd;refine cW 5 rfl hd hS ?_;clear hd;intro hd;refine cW 8 rfl hd hS ?_;clear hd;intro hd;refine cW 9 rfl hd hS ?_;clear hd;intro hd;refine cW 10 rfl hd hS ?_;clear hd;intro hd;refine cW 11 rfl hd hS ?_;clear hd;intro hd;clear hS;refine tH hd 6 12 ?_ ?_<;>(clear hd;intro hd)
  ·skip
   have koV1:=Blk.new V0 99 #[.slice none 0 0];have HJ1:=hIz ((HJ0.out).alloc (.cells #[.slice none 0 0] 99));have HBo1:=hIz koV1;clear koV1;refine bD (S:=fun W=>W.cell? ⟨p,2,none⟩=some (.slice A2 n c2)∧W.cell? ⟨p,3,none⟩=some (.slice A3 n c3)) (late:=aT 16) rfl rfl (fun K hK=>?_);go_simp;refine hK _ _ (fun _ _=>KS.out _ (HJ1.out.mono (fun _ _ h=>by first | exact h.elim | exact h))) ?_;clear hK K;(try simp only[Act.put,gA,gS,gZ,sA,sZ,sS])
   have hS:(V0.alloc (.cells #[.slice none 0 0] 99)).cell? ⟨p,2,none⟩=some (.slice A2 n c2)∧(V0.alloc (.cells #[.slice none 0 0] 99)).cell? ⟨p,3,none⟩=some (.slice A3 n c3):=KS.out _ (HJ1.out.mono (fun _ _ h=>by first | exact h.elim | exact h));generalize V0.alloc (.cells #[.slice none 0 0] 99)=V1 at HJ1 HBo1 hS ⊢;clear hS;refine tH hd 7 12 ?_ ?_<;>(clear hd;intro hd)
   ·skip
    obtain⟨B2,d2,V2,happ,o6,u6,p6⟩:=bB V1 0 106 99 1 24 _ Tryz.underlying106 eZ rfl (by decide) (by decide) A2 n c2 (jK fo n) (aA H3.out.2.2.2.1 HJ1.out (fun _ _ h=>h)) (some ⟨V0.heap.size,0,none⟩) 1 1 [.slice none 0 0] (gX HBo1.out) rfl (by simp;rfl) (by omega) (Nat.zero_le _);have HJ2:=hIz (show Upd (fun k=>(Value.slice A2 n c2).ownBlock=some k) w3 V2 from(HJ1.out.mono (fun _ _ h=>h.elim)).trans u6 (fun k h=>.inl h));have HO:=aI3 o6 p6 (show w3.heap.size≤V1.heap.size from HJ1.out.size);clear o6 u6 p6;refine bD (S:=fun W=>W.cell? ⟨p,2,none⟩=some (.slice A2 n c2)∧W.cell? ⟨p,3,none⟩=some (.slice A3 n c3)) (late:=aT 16) rfl rfl (fun K hK=>?_);refine bI _ _ _ rfl rfl rfl happ ?_;refine hK _ _ (fun _ _=>KS.out _ HJ2.out) ?_;clear hK K happ;(try simp only[Act.put,gA,gS,gZ,sA,sZ,sS])
    refine aU hd 12 ?_;clear hd;intro hd;have kiV3:=Blk.new V2 99 #[.slice none 0 0];have HJ3:=hIz ((HJ2.out).alloc (.cells #[.slice none 0 0] 99));have HO:=aI2 (HO.out.1.alloc (.cells #[.slice none 0 0] 99)) HO.out.2;have HBi3:=hIz kiV3;clear kiV3;refine bD (S:=fun W=>W.cell? ⟨p,2,none⟩=some (.slice A2 n c2)∧W.cell? ⟨p,3,none⟩=some (.slice A3 n c3)) (late:=aT 16) rfl rfl (fun K hK=>?_);go_simp;refine hK _ _ (fun _ _=>KS.out _ (HJ3.out.mono (fun _ _ h=>by first | exact h.elim | exact h))) ?_;clear hK K;(try simp only[Act.put,gA,gS,gZ,sA,sZ,sS])
    have hS:(V2.alloc (.cells #[.slice none 0 0] 99)).cell? ⟨p,2,none⟩=some (.slice A2 n c2)∧(V2.alloc (.cells #[.slice none 0 0] 99)).cell? ⟨p,3,none⟩=some (.slice A3 n c3):=KS.out _ (HJ3.out.mono (fun _ _ h=>by first | exact h.elim | exact h));generalize V2.alloc (.cells #[.slice none 0 0] 99)=V3 at HJ3 HBi3 HO hS ⊢;clear hS;refine aU hd 13 ?_;clear hd;intro hd;obtain⟨B3,d3,V4,happ,o6,u6,p6⟩:=bB V3 0 106 99 1 24 _ Tryz.underlying106 eZ rfl (by decide) (by decide) A3 n c3 (jK fi n) (aA H3.out.2.2.2.2.1 HJ3.out (fun k h1 h2=>HN.out.2.2.2.2.2 k h2 h1)) (some ⟨V2.heap.size,0,none⟩) 1 1 [.slice none 0 0] (gX HBi3.out) rfl (by simp;rfl) (by omega) (Nat.zero_le _);have HF:=rK HG.out.1 HL.out H3.out.1 H3.out.2.1 H3.out.2.2.1 H3.out.2.2.2.2.2.1 HX.out.2.2.2.2.2.2 H3.out.2.2.2.2.2.2 HN.out.1 HN.out.2.1 HN.out.2.2.1 HN.out.2.2.2.1 HN.out.2.2.2.2.1 HN.out.2.2.2.2.2 HJ3.out HO.out.1 HO.out.2.1 HO.out.2.2 o6 u6 p6;clear o6 u6 p6;refine bD (S:=fun W=>W.cell? ⟨p,2,none⟩=some (.slice A2 n c2)∧W.cell? ⟨p,3,none⟩=some (.slice A3 n c3)) (late:=aT 16) rfl rfl (fun K hK=>?_);refine bI _ _ _ rfl rfl rfl happ ?_;refine hK _ _ (fun _ _=>⟨HF.out.1.cell 2,HF.out.1.cell 3⟩) ?_;clear hK K happ;(try simp only[Act.put,gA,gS,gZ,sA,sZ,sS])
    have r2:V4.cell? ⟨p,2,none⟩=some (.slice A2 n c2):=HF.out.1.cell 2;have f2:V4.frozen? ⟨p,2,none⟩=false:=HF.out.1.frozen 2;have kz:=HF.out.1.set 2 (.slice B2 (n+1) d2);have r3:(V4.setCell ⟨p,2,none⟩ (.slice B2 (n+1) d2)).cell? ⟨p,3,none⟩=some (.slice A3 n c3):=kz.cell 3;have f3:(V4.setCell ⟨p,2,none⟩ (.slice B2 (n+1) d2)).frozen? ⟨p,3,none⟩=false:=kz.frozen 3;have FIN:=hIz HF.out.2;clear kz;refine aU hd 14 ?_;clear hd;intro hd;refine bD (S:=fun W=>W.cell? ⟨p,2,none⟩=some (.slice A2 n c2)∧W.cell? ⟨p,3,none⟩=some (.slice A3 n c3)) (late:=aT 16) rfl rfl (fun K hK=>?_);go_simp;refine hK _ _ (fun h _=>⟨HF.out.1.cell 2,HF.out.1.cell 3⟩) ?_;clear hK K;(try simp only[Act.put,gA,gS,gZ,sA,sZ,sS])
    refine aU hd 15 ?_;clear hd;intro hd;refine bD (S:=fun W=>W.cell? ⟨p,2,none⟩=some (.slice A2 n c2)∧W.cell? ⟨p,3,none⟩=some (.slice A3 n c3)) (late:=aT 16) rfl rfl (fun K hK=>?_);go_simp;refine hK _ _ (fun h _=>⟨HF.out.1.cell 2,HF.out.1.cell 3⟩) ?_;clear hK K;(try simp only[Act.put,gA,gS,gZ,sA,sZ,sS])
    refine aU hd 16 ?_;clear hd;intro hd;refine bD (S:=fun W=>W.cell? ⟨p,2,none⟩=some (.slice A2 n c2)∧W.cell? ⟨p,3,none⟩=some (.slice A3 n c3)) (late:=aT 16) rfl rfl (fun K hK=>?_);go_simp;refine hK _ _ (fun h _=>absurd h (by decide)) ?_;clear hK K;(try simp only[Act.put,gA,gS,gZ,sA,sZ,sS])
    refine aU hd 17 ?_;clear hd;intro hd;refine bD (S:=fun W=>W.cell? ⟨p,2,none⟩=some (.slice A2 n c2)∧W.cell? ⟨p,3,none⟩=some (.slice A3 n c3)) (late:=aT 16) rfl rfl (fun K hK=>?_);go_simp;refine hK _ _ (fun h _=>absurd h (by decide)) ?_;clear hK K;(try simp only[Act.put,gA,gS,gZ,sA,sZ,sS])
    refine aU hd 18 ?_;clear hd;intro hd;refine bD (S:=fun W=>W.cell? ⟨p,2,none⟩=some (.slice A2 n c2)∧W.cell? ⟨p,3,none⟩=some (.slice A3 n c3)) (late:=aT 16) rfl rfl (fun K hK=>?_);go_simp;refine hK _ _ (fun h _=>absurd h (by decide)) ?_;clear hK K;(try simp only[Act.put,gA,gS,gZ,sA,sZ,sS])
    refine aU hd 19 ?_;clear hd;intro hd;refine bD (S:=fun W=>W.cell? ⟨p,2,none⟩=some (.slice A2 n c2)∧W.cell? ⟨p,3,none⟩=some (.slice A3 n c3)) (late:=aT 16) rfl rfl (fun K hK=>?_);go_simp;refine hK _ _ (fun h _=>absurd h (by decide)) ?_;clear hK K;(try simp only[Act.put,gA,gS,gZ,sA,sZ,sS])
    refine kI (by kernel_rfl) ?_;generalize (V4.setCell ⟨p,2,none⟩ (.slice B2 (n+1) d2)).setCell ⟨p,3,none⟩ (.slice B3 (n+1) d3)=WF at FIN ⊢;have l0:=FIN.out.2.1;have q1:WF.cell? ⟨p,1,none⟩=some (.map (some r)):=FIN.out.2.2;have hw:IntKind.i64.wrap (((n:Int)+1)-1)=(n:Int):=by rw[IntKind.wrap_i64];omega
    clear r2 f2 r3 f3;go_wp2;go_ret;exact⟨by rw[HG.out.2.2,HL.out];rfl,by rw[HG.out.2.1];exact FIN.out.1⟩
   ·skip
    have kiV2:=Blk.new V1 99 #[.slice none 0 0];have koV2:=HBo1.out.alloc (.cells #[.slice none 0 0] 99);have HJ2:=hIz ((HJ1.out).alloc (.cells #[.slice none 0 0] 99));have HBo2:=hIz koV2;have HBi2:=hIz kiV2;clear koV2 kiV2;refine bD (S:=fun W=>W.cell? ⟨p,2,none⟩=some (.slice A2 n c2)∧W.cell? ⟨p,3,none⟩=some (.slice A3 n c3)) (late:=aT 16) rfl rfl (fun K hK=>?_);go_simp;refine hK _ _ (fun _ _=>KS.out _ (HJ2.out.mono (fun _ _ h=>by first | exact h.elim | exact h))) ?_;clear hK K;(try simp only[Act.put,gA,gS,gZ,sA,sZ,sS])
    have hS:(V1.alloc (.cells #[.slice none 0 0] 99)).cell? ⟨p,2,none⟩=some (.slice A2 n c2)∧(V1.alloc (.cells #[.slice none 0 0] 99)).cell? ⟨p,3,none⟩=some (.slice A3 n c3):=KS.out _ (HJ2.out.mono (fun _ _ h=>by first | exact h.elim | exact h));generalize V1.alloc (.cells #[.slice none 0 0] 99)=V2 at HJ2 HBo2 HBi2 hS ⊢;clear hS;refine aU hd 7 ?_;clear hd;intro hd;obtain⟨B2,d2,V3,happ,o6,u6,p6⟩:=bB V2 0 106 99 1 24 _ Tryz.underlying106 eZ rfl (by decide) (by decide) A2 n c2 (jK fo n) (aA H3.out.2.2.2.1 HJ2.out (fun _ _ h=>h)) (some ⟨V0.heap.size,0,none⟩) 1 1 [.slice none 0 0] (gX HBo2.out) rfl (by simp;rfl) (by omega) (Nat.zero_le _);have HJ3:=hIz (show Upd (fun k=>(Value.slice A2 n c2).ownBlock=some k) w3 V3 from(HJ2.out.mono (fun _ _ h=>h.elim)).trans u6 (fun k h=>.inl h));have HBi3:=hIz (HBi2.out.upd u6 (fun e=>by have:=(HN.out.2.2.2.1 _ e).2.2;have:=H3.out.2.2.2.2.2.2;have:=H3.out.2.2.2.2.2.1.size;have:=HJ1.out.size;omega));have HO:=aI3 o6 p6 (show w3.heap.size≤V2.heap.size from HJ2.out.size);clear o6 u6 p6;refine bD (S:=fun W=>W.cell? ⟨p,2,none⟩=some (.slice A2 n c2)∧W.cell? ⟨p,3,none⟩=some (.slice A3 n c3)) (late:=aT 16) rfl rfl (fun K hK=>?_);refine bI _ _ _ rfl rfl rfl happ ?_;refine hK _ _ (fun _ _=>KS.out _ HJ3.out) ?_;clear hK K happ;(try simp only[Act.put,gA,gS,gZ,sA,sZ,sS])
    refine aU hd 13 ?_;clear hd;intro hd;obtain⟨B3,d3,V4,happ,o6,u6,p6⟩:=bB V3 0 106 99 1 24 _ Tryz.underlying106 eZ rfl (by decide) (by decide) A3 n c3 (jK fi n) (aA H3.out.2.2.2.2.1 HJ3.out (fun k h1 h2=>HN.out.2.2.2.2.2 k h2 h1)) (some ⟨V1.heap.size,0,none⟩) 1 1 [.slice none 0 0] (gX HBi3.out) rfl (by simp;rfl) (by omega) (Nat.zero_le _);have HF:=rK HG.out.1 HL.out H3.out.1 H3.out.2.1 H3.out.2.2.1 H3.out.2.2.2.2.2.1 HX.out.2.2.2.2.2.2 H3.out.2.2.2.2.2.2 HN.out.1 HN.out.2.1 HN.out.2.2.1 HN.out.2.2.2.1 HN.out.2.2.2.2.1 HN.out.2.2.2.2.2 HJ3.out HO.out.1 HO.out.2.1 HO.out.2.2 o6 u6 p6;clear o6 u6 p6;refine bD (S:=fun W=>W.cell? ⟨p,2,none⟩=some (.slice A2 n c2)∧W.cell? ⟨p,3,none⟩=some (.slice A3 n c3)) (late:=aT 16) rfl rfl (fun K hK=>?_);refine bI _ _ _ rfl rfl rfl happ ?_;refine hK _ _ (fun _ _=>⟨HF.out.1.cell 2,HF.out.1.cell 3⟩) ?_;clear hK K happ;(try simp only[Act.put,gA,gS,gZ,sA,sZ,sS])
    have r2:V4.cell? ⟨p,2,none⟩=some (.slice A2 n c2):=HF.out.1.cell 2;have f2:V4.frozen? ⟨p,2,none⟩=false:=HF.out.1.frozen 2;have kz:=HF.out.1.set 2 (.slice B2 (n+1) d2);have r3:(V4.setCell ⟨p,2,none⟩ (.slice B2 (n+1) d2)).cell? ⟨p,3,none⟩=some (.slice A3 n c3):=kz.cell 3;have f3:(V4.setCell ⟨p,2,none⟩ (.slice B2 (n+1) d2)).frozen? ⟨p,3,none⟩=false:=kz.frozen 3;have FIN:=hIz HF.out.2;clear kz;refine aU hd 14 ?_;clear hd;intro hd;refine bD (S:=fun W=>W.cell? ⟨p,2,none⟩=some (.slice A2 n c2)∧W.cell? ⟨p,3,none⟩=some (.slice A3 n c3)) (late:=aT 16) rfl rfl (fun K hK=>?_);go_simp;refine hK _ _ (fun h _=>⟨HF.out.1.cell 2,HF.out.1.cell 3⟩) ?_;clear hK K;(try simp only[Act.put,gA,gS,gZ,sA,sZ,sS])
    refine aU hd 15 ?_;clear hd;intro hd;refine bD (S:=fun W=>W.cell? ⟨p,2,none⟩=some (.slice A2 n c2)∧W.cell? ⟨p,3,none⟩=some (.slice A3 n c3)) (late:=aT 16) rfl rfl (fun K hK=>?_);go_simp;refine hK _ _ (fun h _=>⟨HF.out.1.cell 2,HF.out.1.cell 3⟩) ?_;clear hK K;(try simp only[Act.put,gA,gS,gZ,sA,sZ,sS])
    refine aU hd 16 ?_;clear hd;intro hd;refine bD (S:=fun W=>W.cell? ⟨p,2,none⟩=some (.slice A2 n c2)∧W.cell? ⟨p,3,none⟩=some (.slice A3 n c3)) (late:=aT 16) rfl rfl (fun K hK=>?_);go_simp;refine hK _ _ (fun h _=>absurd h (by decide)) ?_;clear hK K;(try simp only[Act.put,gA,gS,gZ,sA,sZ,sS])
    refine aU hd 17 ?_;clear hd;intro hd;refine bD (S:=fun W=>W.cell? ⟨p,2,none⟩=some (.slice A2 n c2)∧W.cell? ⟨p,3,none⟩=some (.slice A3 n c3)) (late:=aT 16) rfl rfl (fun K hK=>?_);go_simp;refine hK _ _ (fun h _=>absurd h (by decide)) ?_;clear hK K;(try simp only[Act.put,gA,gS,gZ,sA,sZ,sS])
    refine aU hd 18 ?_;clear hd;intro hd;refine bD (S:=fun W=>W.cell? ⟨p,2,none⟩=some (.slice A2 n c2)∧W.cell? ⟨p,3,none⟩=some (.slice A3 n c3)) (late:=aT 16) rfl rfl (fun K hK=>?_);go_simp;refine hK _ _ (fun h _=>absurd h (by decide)) ?_;clear hK K;(try simp only[Act.put,gA,gS,gZ,sA,sZ,sS])
    refine aU hd 19 ?_;clear hd;intro hd;refine bD (S:=fun W=>W.cell? ⟨p,2,none⟩=some (.slice A2 n c2)∧W.cell? ⟨p,3,none⟩=some (.slice A3 n c3)) (late:=aT 16) rfl rfl (fun K hK=>?_);go_simp;refine hK _ _ (fun h _=>absurd h (by decide)) ?_;clear hK K;(try simp only[Act.put,gA,gS,gZ,sA,sZ,sS])
    refine kI (by kernel_rfl) ?_;generalize (V4.setCell ⟨p,2,none⟩ (.slice B2 (n+1) d2)).setCell ⟨p,3,none⟩ (.slice B3 (n+1) d3)=WF at FIN ⊢;have l0:=FIN.out.2.1;have q1:WF.cell? ⟨p,1,none⟩=some (.map (some r)):=FIN.out.2.2;have hw:IntKind.i64.wrap (((n:Int)+1)-1)=(n:Int):=by rw[IntKind.wrap_i64];omega
    clear r2 f2 r3 f3;go_wp2;go_ret;exact⟨by rw[HG.out.2.2,HL.out];rfl,by rw[HG.out.2.1];exact FIN.out.1⟩
  ·skip
   have kiV1:=Blk.new V0 99 #[.slice none 0 0];have HJ1:=hIz ((HJ0.out).alloc (.cells #[.slice none 0 0] 99));have HBi1:=hIz kiV1;clear kiV1;refine bD (S:=fun W=>W.cell? ⟨p,2,none⟩=some (.slice A2 n c2)∧W.cell? ⟨p,3,none⟩=some (.slice A3 n c3)) (late:=aT 16) rfl rfl (fun K hK=>?_);go_simp;refine hK _ _ (fun _ _=>KS.out _ (HJ1.out.mono (fun _ _ h=>by first | exact h.elim | exact h))) ?_;clear hK K;(try simp only[Act.put,gA,gS,gZ,sA,sZ,sS])
   have hS:(V0.alloc (.cells #[.slice none 0 0] 99)).cell? ⟨p,2,none⟩=some (.slice A2 n c2)∧(V0.alloc (.cells #[.slice none 0 0] 99)).cell? ⟨p,3,none⟩=some (.slice A3 n c3):=KS.out _ (HJ1.out.mono (fun _ _ h=>by first | exact h.elim | exact h));generalize V0.alloc (.cells #[.slice none 0 0] 99)=V1 at HJ1 HBi1 hS ⊢;clear hS;refine aU hd 6 ?_;clear hd;intro hd;have koV2:=Blk.new V1 99 #[.slice none 0 0];have kiV2:=HBi1.out.alloc (.cells #[.slice none 0 0] 99);have HJ2:=hIz ((HJ1.out).alloc (.cells #[.slice none 0 0] 99));have HBi2:=hIz kiV2;have HBo2:=hIz koV2;clear kiV2 koV2;refine bD (S:=fun W=>W.cell? ⟨p,2,none⟩=some (.slice A2 n c2)∧W.cell? ⟨p,3,none⟩=some (.slice A3 n c3)) (late:=aT 16) rfl rfl (fun K hK=>?_);go_simp;refine hK _ _ (fun _ _=>KS.out _ (HJ2.out.mono (fun _ _ h=>by first | exact h.elim | exact h))) ?_;clear hK K;(try simp only[Act.put,gA,gS,gZ,sA,sZ,sS])
   have hS:(V1.alloc (.cells #[.slice none 0 0] 99)).cell? ⟨p,2,none⟩=some (.slice A2 n c2)∧(V1.alloc (.cells #[.slice none 0 0] 99)).cell? ⟨p,3,none⟩=some (.slice A3 n c3):=KS.out _ (HJ2.out.mono (fun _ _ h=>by first | exact h.elim | exact h));generalize V1.alloc (.cells #[.slice none 0 0] 99)=V2 at HJ2 HBi2 HBo2 hS ⊢;clear hS;refine aU hd 7 ?_;clear hd;intro hd;obtain⟨B2,d2,V3,happ,o6,u6,p6⟩:=bB V2 0 106 99 1 24 _ Tryz.underlying106 eZ rfl (by decide) (by decide) A2 n c2 (jK fo n) (aA H3.out.2.2.2.1 HJ2.out (fun _ _ h=>h)) (some ⟨V1.heap.size,0,none⟩) 1 1 [.slice none 0 0] (gX HBo2.out) rfl (by simp;rfl) (by omega) (Nat.zero_le _);have HJ3:=hIz (show Upd (fun k=>(Value.slice A2 n c2).ownBlock=some k) w3 V3 from(HJ2.out.mono (fun _ _ h=>h.elim)).trans u6 (fun k h=>.inl h));have HBi3:=hIz (HBi2.out.upd u6 (fun e=>by have:=(HN.out.2.2.2.1 _ e).2.2;have:=H3.out.2.2.2.2.2.2;have:=H3.out.2.2.2.2.2.1.size;have:=HJ0.out.size;omega));have HO:=aI3 o6 p6 (show w3.heap.size≤V2.heap.size from HJ2.out.size);clear o6 u6 p6;refine bD (S:=fun W=>W.cell? ⟨p,2,none⟩=some (.slice A2 n c2)∧W.cell? ⟨p,3,none⟩=some (.slice A3 n c3)) (late:=aT 16) rfl rfl (fun K hK=>?_);refine bI _ _ _ rfl rfl rfl happ ?_;refine hK _ _ (fun _ _=>KS.out _ HJ3.out) ?_;clear hK K happ;(try simp only[Act.put,gA,gS,gZ,sA,sZ,sS])
   refine aU hd 13 ?_;clear hd;intro hd;obtain⟨B3,d3,V4,happ,o6,u6,p6⟩:=bB V3 0 106 99 1 24 _ Tryz.underlying106 eZ rfl (by decide) (by decide) A3 n c3 (jK fi n) (aA H3.out.2.2.2.2.1 HJ3.out (fun k h1 h2=>HN.out.2.2.2.2.2 k h2 h1)) (some ⟨V0.heap.size,0,none⟩) 1 1 [.slice none 0 0] (gX HBi3.out) rfl (by simp;rfl) (by omega) (Nat.zero_le _);have HF:=rK HG.out.1 HL.out H3.out.1 H3.out.2.1 H3.out.2.2.1 H3.out.2.2.2.2.2.1 HX.out.2.2.2.2.2.2 H3.out.2.2.2.2.2.2 HN.out.1 HN.out.2.1 HN.out.2.2.1 HN.out.2.2.2.1 HN.out.2.2.2.2.1 HN.out.2.2.2.2.2 HJ3.out HO.out.1 HO.out.2.1 HO.out.2.2 o6 u6 p6;clear o6 u6 p6;refine bD (S:=fun W=>W.cell? ⟨p,2,none⟩=some (.slice A2 n c2)∧W.cell? ⟨p,3,none⟩=some (.slice A3 n c3)) (late:=aT 16) rfl rfl (fun K hK=>?_);refine bI _ _ _ rfl rfl rfl happ ?_;refine hK _ _ (fun _ _=>⟨HF.out.1.cell 2,HF.out.1.cell 3⟩) ?_;clear hK K happ;(try simp only[Act.put,gA,gS,gZ,sA,sZ,sS])
   have r2:V4.cell? ⟨p,2,none⟩=some (.slice A2 n c2):=HF.out.1.cell 2;have f2:V4.frozen? ⟨p,2,none⟩=false:=HF.out.1.frozen 2;have kz:=HF.out.1.set 2 (.slice B2 (n+1) d2);have r3:(V4.setCell ⟨p,2,none⟩ (.slice B2 (n+1) d2)).cell? ⟨p,3,none⟩=some (.slice A3 n c3):=kz.cell 3;have f3:(V4.setCell ⟨p,2,none⟩ (.slice B2 (n+1) d2)).frozen? ⟨p,3,none⟩=false:=kz.frozen 3;have FIN:=hIz HF.out.2;clear kz;refine aU hd 14 ?_;clear hd;intro hd;refine bD (S:=fun W=>W.cell? ⟨p,2,none⟩=some (.slice A2 n c2)∧W.cell? ⟨p,3,none⟩=some (.slice A3 n c3)) (late:=aT 16) rfl rfl (fun K hK=>?_);go_simp;refine hK _ _ (fun h _=>⟨HF.out.1.cell 2,HF.out.1.cell 3⟩) ?_;clear hK K;(try simp only[Act.put,gA,gS,gZ,sA,sZ,sS])
   refine aU hd 15 ?_;clear hd;intro hd;refine bD (S:=fun W=>W.cell? ⟨p,2,none⟩=some (.slice A2 n c2)∧W.cell? ⟨p,3,none⟩=some (.slice A3 n c3)) (late:=aT 16) rfl rfl (fun K hK=>?_);go_simp;refine hK _ _ (fun h _=>⟨HF.out.1.cell 2,HF.out.1.cell 3⟩) ?_;clear hK K;(try simp only[Act.put,gA,gS,gZ,sA,sZ,sS])
   refine aU hd 16 ?_;clear hd;intro hd;refine bD (S:=fun W=>W.cell? ⟨p,2,none⟩=some (.slice A2 n c2)∧W.cell? ⟨p,3,none⟩=some (.slice A3 n c3)) (late:=aT 16) rfl rfl (fun K hK=>?_);go_simp;refine hK _ _ (fun h _=>absurd h (by decide)) ?_;clear hK K;(try simp only[Act.put,gA,gS,gZ,sA,sZ,sS])
   refine aU hd 17 ?_;clear hd;intro hd;refine bD (S:=fun W=>W.cell? ⟨p,2,none⟩=some (.slice A2 n c2)∧W.cell? ⟨p,3,none⟩=some (.slice A3 n c3)) (late:=aT 16) rfl rfl (fun K hK=>?_);go_simp;refine hK _ _ (fun h _=>absurd h (by decide)) ?_;clear hK K;(try simp only[Act.put,gA,gS,gZ,sA,sZ,sS])
   refine aU hd 18 ?_;clear hd;intro hd;refine bD (S:=fun W=>W.cell? ⟨p,2,none⟩=some (.slice A2 n c2)∧W.cell? ⟨p,3,none⟩=some (.slice A3 n c3)) (late:=aT 16) rfl rfl (fun K hK=>?_);go_simp;refine hK _ _ (fun h _=>absurd h (by decide)) ?_;clear hK K;(try simp only[Act.put,gA,gS,gZ,sA,sZ,sS])
   refine aU hd 19 ?_;clear hd;intro hd;refine bD (S:=fun W=>W.cell? ⟨p,2,none⟩=some (.slice A2 n c2)∧W.cell? ⟨p,3,none⟩=some (.slice A3 n c3)) (late:=aT 16) rfl rfl (fun K hK=>?_);go_simp;refine hK _ _ (fun h _=>absurd h (by decide)) ?_;clear hK K;(try simp only[Act.put,gA,gS,gZ,sA,sZ,sS])
   refine kI (by kernel_rfl) ?_;generalize (V4.setCell ⟨p,2,none⟩ (.slice B2 (n+1) d2)).setCell ⟨p,3,none⟩ (.slice B3 (n+1) d3)=WF at FIN ⊢;have l0:=FIN.out.2.1;have q1:WF.cell? ⟨p,1,none⟩=some (.map (some r)):=FIN.out.2.2;have hw:IntKind.i64.wrap (((n:Int)+1)-1)=(n:Int):=by rw[IntKind.wrap_i64];omega
   clear r2 f2 r3 f3;go_wp2;go_ret;exact⟨by rw[HG.out.2.2,HL.out];rfl,by rw[HG.out.2.1];exact FIN.out.1⟩
open Go.RowKit
def gQ{α:Type}(f:Nat→α)(j:Nat)(x:α):Nat→α:=fun k=>if k=j then x else f k
theorem cV{α:Type}(f:Nat→α)(j:Nat)(x:α):gQ f j x j=x:=if_pos rfl
theorem bM{α:Type}(f:Nat→α){j k:Nat}(x:α)(h:k≠j):gQ f j x k=f k:=if_neg h
theorem xA(f:Nat→Value)(n j:Nat)(x:Value):(jK f n).set j x=jK (gQ f j x) n:=by
 apply List.ext_getElem?
 intro i;rw[List.getElem?_set];unfold jK gQ;simp only[List.length_map,List.length_range,List.getElem?_map]
 by_cases hij:j=i
 ·subst hij;by_cases hj:j<n
  ·simp[hj]
  ·simp[hj]
 ·rw[if_neg hij];by_cases hi:i<n
  ·simp[hi,Ne.symm hij]
  ·simp[hi]
section
variable {w w':World} {O:Nat→Option Ro} {p r g j c:Nat} {N:List Txt} {U V:Nat→List Hp} {cnt:Int} {nv iv ov:Value} {fo fi:Nat→Value}
theorem GrI.setO(h:GrI w O p N U V cnt ⟨r,nv,.slice (some ⟨g,0,none⟩) N.length c,iv,fo,fi⟩)(hj:j<N.length){v:Value}{L:List Hp}(o:w'.ownsRow 0 103 2 v L.length (aK L))(u:Upd (fun k=>(fo j).ownBlock=some k) w w')
  (pl:∀k,v.ownBlock=some k→(fo j).ownBlock=some k∨w.heap.size≤k):iK w (fun k=>O k≠none) p N (gQ U j L) V cnt (w'.setCell ⟨g,j,none⟩ v):=by
 have us:=(Upd.refl (fun k=>k=g) w').setCell (p:=⟨g,j,none⟩) (.inl rfl) v;have hg:O g=some .o:=h.oo g rfl;have fresh:∀k,w.heap.size≤k→O k=none:=fun k hk=>by
  cases e:O k with
  | none=>rfl
  | some t=>have:=h.lt k (by simp[e]);omega
 have hv:∀k,v.ownBlock=some k→O k=some (.oo j)∨O k=none∧w.heap.size≤k:=fun k hk=>by
  rcases pl k hk with h1|h1
  ·exact .inl (h.oU j k h1)
  ·exact .inr ⟨fresh k h1,h1⟩
 have keep:∀k t,O k=some t→(t=Ro.oo j→False)→(if v.ownBlock=some k then some (Ro.oo j) else O k)=some t:=fun k t e ht=>by
  rw[if_neg,e];intro hk;rcases hv k hk with h1|h1
  ·rw[h1] at e;injection e with e;exact ht e.symm
  ·rw[h1.1] at e;cases e
 have no:∀k t,O k=some t→(t=Ro.oo j→False)→(t=Ro.o→False)→¬(fo j).ownBlock=some k∧¬k=g:=fun k t e h1 h2 =>
  ⟨fun hk=>(by have:=h.oU j k hk;rw[e] at this;injection this with this;exact h1 this),fun hk=>(by rw[hk,hg] at e;injection e with e;exact h2 e.symm)⟩
 have no1:∀k t,O k=some t→(t=Ro.oo j→False)→¬(fo j).ownBlock=some k:=fun k t e h1 hk=>by
  have:=h.oU j k hk;rw[e] at this;injection this with this;exact h1 this
 have nvg:∀k,v.ownBlock=some k→¬k=g:=fun k hk e=>by
  subst e;rcases hv k hk with h1|h1
  ·rw[hg] at h1;cases h1
  ·rw[hg] at h1;cases h1.1
 have k2:=fun {x:Value} {base e size n:Nat} {xs:List Value} (hx:w.ownsRow base e size x n xs) (hr:∀k,x.ownBlock=some k→¬(fo j).ownBlock=some k∧¬k=g)=>aA (aA hx u fun k hk=>(hr k hk).1) us fun k hk=>(hr k hk).2
 have b:=no _ _ h.op nofun nofun;have bm:=no _ _ h.om nofun nofun;refine⟨_,⟨fun k=>if v.ownBlock=some k then some (Ro.oo j) else O k,⟨r,nv,.slice (some ⟨g,0,none⟩) N.length c,iv,gQ fo j v,fi⟩,⟨(h.blk.upd u b.1).upd us b.2,(h.map.upd u bm.1).upd us bm.2,k2 h.rn fun k hk=>no _ _ (h.on k hk) nofun nofun,?_,k2 h.ri fun k hk=>no _ _ (h.oi k hk) nofun nofun,?_,fun i=>k2 (h.fi i) fun k hk=>no _ _ (h.oV i k hk) nofun nofun,
  keep _ _ h.op nofun,keep _ _ h.om nofun,fun k hk=>keep _ _ (h.on k hk) nofun,fun k hk=>keep _ _ (h.oo k hk) nofun,fun k hk=>keep _ _ (h.oi k hk) nofun,?_,fun i k hk=>keep _ _ (h.oV i k hk) nofun,?_,?_⟩,rfl⟩,?_,?_⟩
 ·have h1:=bL (aA h.ro u fun k hk=>no1 _ _ (h.oo k hk) nofun) (i:=j) (by omega) v;rw[xA] at h1;exact h1
 ·intro i;by_cases e:i=j
  ·subst e;show World.ownsRow _ _ _ _ (gQ fo i v i) (gQ U i L i).length (aK (gQ U i L i))
   rw[cV,cV];exact aA o us nvg
  ·show World.ownsRow _ _ _ _ (gQ fo j v i) (gQ U j L i).length (aK (gQ U j L i))
   rw[bM _ _ e,bM _ _ e];exact k2 (h.fo i) fun k hk=>no _ _ (h.oU i k hk) (fun h=>by injection h with h;exact e h) nofun
 ·intro i k hk;by_cases e:i=j
  ·subst e;have hk:(gQ fo i v i).ownBlock=some k:=hk;rw[cV] at hk;exact if_pos hk
  ·have hk:(gQ fo j v i).ownBlock=some k:=hk;rw[bM _ _ e] at hk;exact keep _ _ (h.oU i k hk) (fun h=>by injection h with h;exact e h)
 ·intro k hk;(try dsimp only at hk)
  by_cases h1:v.ownBlock=some k
  ·exact Nat.lt_of_lt_of_le (o.lt k h1).2 us.size
  ·rw[if_neg h1] at hk;exact Nat.lt_of_lt_of_le (h.lt k hk) (Nat.le_trans u.size us.size)
 ·intro k hk;refine⟨?_,(h.out k hk).2⟩;show gQ fo j v k=_
  rw[bM _ _ (by omega)];exact(h.out k hk).1
 ·exact(u.mono (fun k _ hk=>by rw[h.oU j k hk];nofun)).trans us (fun k hk=>.inl (by rw[hk,hg];nofun))
 ·intro k hk;(try dsimp only at hk ⊢)
  by_cases h1:v.ownBlock=some k
  ·rcases hv k h1 with h2|h2
   ·rw[h2];exact .inl nofun
   ·exact .inr h2.2
  ·rw[if_neg h1] at hk;exact .inl hk
theorem GrI.setI(h:GrI w O p N U V cnt ⟨r,nv,ov,.slice (some ⟨g,0,none⟩) N.length c,fo,fi⟩)(hj:j<N.length){v:Value}{L:List Hp}(o:w'.ownsRow 0 103 2 v L.length (aK L))(u:Upd (fun k=>(fi j).ownBlock=some k) w w')
  (pl:∀k,v.ownBlock=some k→(fi j).ownBlock=some k∨w.heap.size≤k):iK w (fun k=>O k≠none) p N U (gQ V j L) cnt (w'.setCell ⟨g,j,none⟩ v):=by
 have us:=(Upd.refl (fun k=>k=g) w').setCell (p:=⟨g,j,none⟩) (.inl rfl) v;have hg:O g=some .i:=h.oi g rfl;have fresh:∀k,w.heap.size≤k→O k=none:=fun k hk=>by
  cases e:O k with
  | none=>rfl
  | some t=>have:=h.lt k (by simp[e]);omega
 have hv:∀k,v.ownBlock=some k→O k=some (.ii j)∨O k=none∧w.heap.size≤k:=fun k hk=>by
  rcases pl k hk with h1|h1
  ·exact .inl (h.oV j k h1)
  ·exact .inr ⟨fresh k h1,h1⟩
 have keep:∀k t,O k=some t→(t=Ro.ii j→False)→(if v.ownBlock=some k then some (Ro.ii j) else O k)=some t:=fun k t e ht=>by
  rw[if_neg,e];intro hk;rcases hv k hk with h1|h1
  ·rw[h1] at e;injection e with e;exact ht e.symm
  ·rw[h1.1] at e;cases e
 have no:∀k t,O k=some t→(t=Ro.ii j→False)→(t=Ro.i→False)→¬(fi j).ownBlock=some k∧¬k=g:=fun k t e h1 h2 =>
  ⟨fun hk=>(by have:=h.oV j k hk;rw[e] at this;injection this with this;exact h1 this),fun hk=>(by rw[hk,hg] at e;injection e with e;exact h2 e.symm)⟩
 have no1:∀k t,O k=some t→(t=Ro.ii j→False)→¬(fi j).ownBlock=some k:=fun k t e h1 hk=>by
  have:=h.oV j k hk;rw[e] at this;injection this with this;exact h1 this
 have nvg:∀k,v.ownBlock=some k→¬k=g:=fun k hk e=>by
  subst e;rcases hv k hk with h1|h1
  ·rw[hg] at h1;cases h1
  ·rw[hg] at h1;cases h1.1
 have k2:=fun {x:Value} {base e size n:Nat} {xs:List Value} (hx:w.ownsRow base e size x n xs) (hr:∀k,x.ownBlock=some k→¬(fi j).ownBlock=some k∧¬k=g)=>aA (aA hx u fun k hk=>(hr k hk).1) us fun k hk=>(hr k hk).2
 have b:=no _ _ h.op nofun nofun;have bm:=no _ _ h.om nofun nofun;refine⟨_,⟨fun k=>if v.ownBlock=some k then some (Ro.ii j) else O k,⟨r,nv,ov,.slice (some ⟨g,0,none⟩) N.length c,fo,gQ fi j v⟩,⟨(h.blk.upd u b.1).upd us b.2,(h.map.upd u bm.1).upd us bm.2,k2 h.rn fun k hk=>no _ _ (h.on k hk) nofun nofun,k2 h.ro fun k hk=>no _ _ (h.oo k hk) nofun nofun,?_,fun i=>k2 (h.fo i) fun k hk=>no _ _ (h.oU i k hk) nofun nofun,?_,
  keep _ _ h.op nofun,keep _ _ h.om nofun,fun k hk=>keep _ _ (h.on k hk) nofun,fun k hk=>keep _ _ (h.oo k hk) nofun,fun k hk=>keep _ _ (h.oi k hk) nofun,fun i k hk=>keep _ _ (h.oU i k hk) nofun,?_,?_,?_⟩,rfl⟩,?_,?_⟩
 ·have h1:=bL (aA h.ri u fun k hk=>no1 _ _ (h.oi k hk) nofun) (i:=j) (by omega) v;rw[xA] at h1;exact h1
 ·intro i;by_cases e:i=j
  ·subst e;show World.ownsRow _ _ _ _ (gQ fi i v i) (gQ V i L i).length (aK (gQ V i L i))
   rw[cV,cV];exact aA o us nvg
  ·show World.ownsRow _ _ _ _ (gQ fi j v i) (gQ V j L i).length (aK (gQ V j L i))
   rw[bM _ _ e,bM _ _ e];exact k2 (h.fi i) fun k hk=>no _ _ (h.oV i k hk) (fun h=>by injection h with h;exact e h) nofun
 ·intro i k hk;by_cases e:i=j
  ·subst e;have hk:(gQ fi i v i).ownBlock=some k:=hk;rw[cV] at hk;exact if_pos hk
  ·have hk:(gQ fi j v i).ownBlock=some k:=hk;rw[bM _ _ e] at hk;exact keep _ _ (h.oV i k hk) (fun h=>by injection h with h;exact e h)
 ·intro k hk;(try dsimp only at hk)
  by_cases h1:v.ownBlock=some k
  ·exact Nat.lt_of_lt_of_le (o.lt k h1).2 us.size
  ·rw[if_neg h1] at hk;exact Nat.lt_of_lt_of_le (h.lt k hk) (Nat.le_trans u.size us.size)
 ·intro k hk;refine⟨(h.out k hk).1,?_⟩;show gQ fi j v k=_
  rw[bM _ _ (by omega)];exact(h.out k hk).2
 ·exact(u.mono (fun k _ hk=>by rw[h.oV j k hk];nofun)).trans us (fun k hk=>.inl (by rw[hk,hg];nofun))
 ·intro k hk;(try dsimp only at hk ⊢)
  by_cases h1:v.ownBlock=some k
  ·rcases hv k h1 with h2|h2
   ·rw[h2];exact .inl nofun
   ·exact .inr h2.2
  ·rw[if_neg h1] at hk;exact .inl hk
theorem GrI.setC{D:GrD}(h:GrI w O p N U V cnt D)(x:Int):iK w (fun k=>O k≠none) p N U V x (w.setCell ⟨p,4,none⟩ (.int .i64 x)):=by
 have us:=(Upd.refl (fun k=>k=p) w).setCell (p:=⟨p,4,none⟩) (.inl rfl) (.int .i64 x);have no:∀k t,O k=some t→(t=Ro.p→False)→¬k=p:=fun k t e ht hk=>by
  rw[hk,h.op] at e;injection e with e;exact ht e.symm
 exact⟨_,⟨O,D,⟨h.blk.set 4 _,h.map.upd us (no _ _ h.om nofun),aA h.rn us fun k hk=>no _ _ (h.on k hk) nofun,aA h.ro us fun k hk=>no _ _ (h.oo k hk) nofun,aA h.ri us fun k hk=>no _ _ (h.oi k hk) nofun,
  fun j=>aA (h.fo j) us fun k hk=>no _ _ (h.oU j k hk) nofun,fun j=>aA (h.fi j) us fun k hk=>no _ _ (h.oV j k hk) nofun,h.op,h.om,h.on,h.oo,h.oi,h.oU,h.oV,fun k hk=>Nat.lt_of_lt_of_le (h.lt k hk) us.size,h.out⟩,rfl⟩,
  us.mono (fun k _ hk=>by rw[hk,h.op];nofun),fun k hk=>.inl hk⟩
end
open Go.RowKit
theorem fQ{w:World}{n:Nat}{v:Value}{f:Nat→Value}{t:TypeId}(h:w.ownsRow 0 t 1 v n (jK f n)){k:Nat}(hk:k<n) :
  ∃g c,v=.slice (some ⟨g,0,none⟩) n c∧v.ownBlock=some g∧w.cell? ⟨g,k,none⟩=some (f k)∧w.frozen? ⟨g,k,none⟩=false:=by
 obtain⟨g,c,e,e2,-,-,-,hc⟩:=bC h (Nat.lt_of_le_of_lt (Nat.zero_le _) hk);exact⟨g,c,e,e2,hc k _ (LG hk)⟩
def BG(N:List Txt)(U:Nat→List Hp)(x:Ed):Nat→List Hp:=gQ U (cS N x.fr) (tF (U (cS N x.fr)) ⟨x.lb,cS N x.to⟩)
def BH(N:List Txt)(V:Nat→List Hp)(x:Ed):Nat→List Hp:=gQ V (cS N x.to) (tF (V (cS N x.to)) ⟨x.lb,cS N x.fr⟩)
def NT(w:World)(F:Nat→Prop)(p:Nat)(N:List Txt)(U V:Nat→List Hp)(cnt:Int)(x:Ed)(e:Ending)(w':World):Prop:=
 e=.returned (.tuple #[])∧iK w F p (bG (bG N x.fr) x.to) (BG (bG (bG N x.fr) x.to) U x) (BH (bG (bG N x.fr) x.to) V x) (cnt+1) w'
theorem rM(N:List Txt)(s:Txt):(bG N s).length≤N.length+1:=by
 unfold bG;split
 ·omega
 ·simp
theorem xB(w:World)(F:Nat→Prop)(p:Nat)(N:List Txt)(U V:Nat→List Hp)(cnt:Int)(x:Ed)(h:sF w F p N U V cnt)(hx:pE x)(hl:N.length≤900000)(hU:∀k,cL ltH (U k)∧(U k).length≤1000000)(hV:∀k,cL ltH (V k)∧(V k).length≤1000000)(hc:0≤cnt∧cnt≤1000000) :
  Calls Tryz.prog 46 #[.pointer (some ⟨p,0,none⟩),x.agg] w (NT w F p N U V cnt x):=by
 obtain⟨s0,s1,s2⟩:=x;have k0:=Blk.new w 32 #[.string s0,.string s1,.string s2];have u0:Below w.heap.size w (w.alloc (.cells #[.string s0,.string s1,.string s2] 32)):=bR.alloc (Nat.le_refl _) _;have HG:=aI6 (h.below u0) k0 u0 hU hV h.lt;clear h k0 u0 hU hV;unfold Ed.agg;dsimp only
 go_enter Tryz.func46,Tryz.ntmps46;go_upto_region 1 with (fail);generalize w.alloc (.cells #[.string s0,.string s1,.string s2] 32)=W0 at HG ⊢;have SR:=hIz (show ∀W,Upd F W0 W→W.cell? ⟨w.heap.size,0,none⟩=some (.string s0)∧W.cell? ⟨w.heap.size,2,none⟩=some (.string s2) from fun W hu=>by
  have kb:=HG.out.2.1.upd hu (fun e=>by have:=HG.out.2.2.2.2.2 _ e;omega);exact⟨kb.cell 0,kb.cell 2⟩)
 have hS:=SR.out W0.drew (Upd.refl _ _).drew;have HD:=hIz (HG.out.1.below (w':=W0.drew) bR.drew);have HU0:=hIz (show Upd F W0 W0.drew from(Upd.refl _ _).drew);refine aE (fun W=>W.cell? ⟨w.heap.size,0,none⟩=some (.string s0)∧W.cell? ⟨w.heap.size,2,none⟩=some (.string s2)) 10 [(0,true),(1,true),(2,true),(4,true),(5,true),(6,true),(3,false),(7,false),(8,true),(9,true)] hS ?_;generalize W0.drew=W1 at HD HU0 hS ⊢
 iterate 6 refine aB rfl ?_
 refine aN rfl rfl (fun K hK=>?_);go_simp;refine(nC W1 F p N U V cnt s0 HD.out hx.1 (by omega)).mono ?_;rintro e W2 ⟨rfl,F2,g2,u2,n2⟩;have H2:=aI3 g2 (HU0.out.trans u2 (fun _ h=>.inl h)) (show ∀k,F2 k→F k∨W0.heap.size≤k from fun k hk=>(n2 k hk).imp id fun h=>Nat.le_trans HU0.out.size h);clear g2 u2 n2;refine hK _ _ (fun _=>SR.out _ H2.out.2.1) ?_;clear hK K hS HD HU0;(try simp only[Act.put,gA,gS,gZ,sA,sZ,sS])
 refine aN rfl rfl (fun K hK=>?_);go_simp;refine(nC W2 F2 p (bG N s0) U V cnt s2 H2.out.1 hx.2.2 (by have:=rM N s0;omega)).mono ?_;rintro e W3 ⟨rfl,F3,g3,u3,n3⟩;have H3:=aI3 g3 (H2.out.2.1.trans u3 H2.out.2.2) (show ∀k,F3 k→F k∨W0.heap.size≤k from fun k hk=>by
  rcases n3 k hk with h|h
  ·exact H2.out.2.2 k h
  ·exact .inr (Nat.le_trans H2.out.2.1.size h))
 clear g3 u3 n3;refine hK _ _ (fun _=>SR.out _ H3.out.2.1) ?_;clear hK K H2;(try simp only[Act.put,gA,gS,gZ,sA,sZ,sS])
 have hS:=SR.out _ H3.out.2.1;refine aB rfl ?_;refine aB rfl ?_;refine aF ?_;clear hS;have GX:=hIz (show ∀W,Upd F W0 W→W.cell? ⟨w.heap.size,1,none⟩=some (.string s1) from fun W hu=>by
  have kb:=HG.out.2.1.upd hu (fun e=>by have:=HG.out.2.2.2.2.2 _ e;omega);exact kb.cell 1)
 have hgx:=HG.out.2.1.lt;have hi0:cS (bG (bG N s0) s2) s0=cS N s0:=by rw[gL (cO.2 (.inr rfl)),wZ]
 have hi2:cS (bG (bG N s0) s2) s2=cS (bG N s0) s2:=wZ _ _;have hm0:cS N s0<(bG (bG N s0) s2).length:=by rw[← hi0];exact eT (cO.2 (.inl (cO.2 (.inr rfl))))
 have hm2:cS (bG N s0) s2<(bG (bG N s0) s2).length:=by rw[← hi2];exact eT (cO.2 (.inr rfl))
 obtain⟨i,hi⟩:∃u,cS N s0=u:=⟨_,rfl⟩;obtain⟨j,hj⟩:∃u,cS (bG N s0) s2=u:=⟨_,rfl⟩;have hNl:(bG (bG N s0) s2).length≤1000000:=by have:=rM N s0;have:=rM (bG N s0) s2;omega
 unfold NT;dsimp only
 obtain⟨M,hM⟩:∃u,bG (bG N s0) s2=u:=⟨_,rfl⟩;rw[hM] at hNl hi0 hi2 hm0 hm2 H3 ⊢;rw[hi] at hi0 hm0 ⊢;rw[hj] at hi2 hm2 ⊢;have HI:=aI3 hM hi0 hi2;clear hi hj hM hi0 hi2;-- out
 have H5:Hid (sF W3 F3 p M U V cnt∧Upd F W0 W3∧∀k,F3 k→F k∨W0.heap.size≤k):=H3;obtain⟨O,⟨r,nv,ov,iv,fo,fi⟩,hg,hFO⟩:=H5.out.1;obtain⟨g,c,e,eo,cu,fu⟩:=fQ hg.ro hm0;dsimp only at e
 subst e;obtain⟨A,cA,eA,-,-⟩:=aG (hg.fo i);dsimp only at eA cu
 rw[eA] at cu;have own0:=hg.fo i;dsimp only at own0
 rw[eA] at own0;have hup:=HG.out.2.2.2.1 i;obtain⟨L,hL⟩:∃L,U i=L:=⟨_,rfl⟩;obtain⟨l,hl0⟩:∃l,L.length=l:=⟨_,rfl⟩;rw[hL] at hup own0 eA cu;have hcon:=AX W3.drew 0 A cA L ⟨s1,(j:Int)⟩ own0 hup.1 (Nat.zero_le _) (by omega);rw[hl0] at hcon eA cu;unfold Hp.agg at hcon;dsimp only at hcon
 have q2:W3.cell? ⟨p,2,none⟩=some (.slice (some ⟨g,0,none⟩) M.length c):=hg.blk.cell 2;have og:O g=some .o:=hg.oo g rfl;have npg:p≠g:=fun e=>by rw[← e,hg.op] at og;cases og
 have hgx5:∀k,O k≠none→¬k=w.heap.size:=fun k hk e=>by
  have h1:=H5.out.2.2 k (by rw[hFO];exact hk);rcases h1 with h1|h1
  ·have:=HG.out.2.2.2.2.2 _ h1;omega
  ·omega
 have STAY:=hIz (show ∀W,Upd (fun k=>(fo i).ownBlock=some k) W3 W→W.cell? ⟨p,2,none⟩=some (.slice (some ⟨g,0,none⟩) M.length c)∧W.cell? ⟨g,i,none⟩=some (.slice A l cA)∧W.cell? ⟨w.heap.size,1,none⟩=some (.string s1) from fun W hu=>by
  have no:∀k,(fo i).ownBlock=some k→O k=some (.oo i):=fun k hk=>hg.oU i k hk
  refine⟨(hg.blk.upd hu (fun e=>by have:=no p e;rw[hg.op] at this;cases this)).cell 2,?_,?_⟩
  ·rw[← cu];exact hu.cell (p:=⟨g,i,none⟩) (hg.lt g (by rw[og];nofun)) (fun e=>by have:=no g e;rw[og] at this;cases this)
  ·rw[← GX.out _ H5.out.2.1];exact hu.cell (p:=⟨w.heap.size,1,none⟩) (Nat.lt_of_lt_of_le hgx H5.out.2.1.size) (fun e=>hgx5 _ (by rw[no _ e];nofun) rfl))
 have FRO:=hIz (show ∀W,Upd (fun k=>(fo i).ownBlock=some k) W3 W→W.frozen? ⟨g,i,none⟩=false from fun W hu=>by
  have no:∀k,(fo i).ownBlock=some k→O k=some (.oo i):=fun k hk=>hg.oU i k hk
  exact(fQ (aA hg.ro hu (fun k hk e=>by
   have h1:=no k e;rw[hg.oo k hk] at h1;cases h1)) hm0).elim fun g' h=>by
    obtain⟨c',e1,-,-,h4⟩:=h;injection e1 with e1;injection e1 with e1;injection e1 with e1;rw[e1];exact h4)
 have HGG:=aI5 hg hFO eA hL hl0;have hS:=STAY.out W3.drew (Upd.refl _ _).drew;clear hg hFO eA hL own0 hup og npg hgx5 q2 cu fu eo;have hml:(i:Int)<(M.length:Int):=by omega
 go_upto_region 2 with (fail);refine aE (fun W=>W.cell? ⟨p,2,none⟩=some (.slice (some ⟨g,0,none⟩) M.length c)∧W.cell? ⟨g,i,none⟩=some (.slice A l cA)∧W.cell? ⟨w.heap.size,1,none⟩=some (.string s1)) 18 [(0,true),(1,true),(2,true),(3,true),(4,true),(5,true),(6,true),(7,true),(8,true),(9,true),(10,true),(11,true),(12,true),(13,true),(14,true),(15,true),(16,false),(17,true),(18,false)] hS ?_;have HU5:=hIz (show Upd (fun _=>False) W3 W3.drew from(Upd.refl _ _).drew);generalize W3.drew=W4 at HU5 hS hcon ⊢
 iterate 16 refine aB rfl ?_
 refine aN rfl rfl (fun K hK=>?_);go_simp;refine hcon.mono ?_;clear hcon hS;rintro e W6 ⟨A6,c6,rfl,o6,u6,p6⟩;have u7:Upd (fun k=>(fo i).ownBlock=some k) W3 W6:=(HU5.out.mono (fun _ _ h=>h.elim)).trans u6 (fun k hk=>.inl (by rw[HGG.out.2.2.1];exact hk));have NX:=hIz (HGG.out.1.setO hm0 o6 u7 (fun k hk=>(p6 k hk).imp (fun h=>by show(fo i).ownBlock=some k;rw[HGG.out.2.2.1];exact h) (fun h=>Nat.le_trans HU5.out.size h)));have hS:=STAY.out _ u7;have r6:=hS.2.1;have f6:=FRO.out _ u7;clear u6 u7 o6 p6;refine hK _ _ (fun _=>hS) ?_;clear hK K;(try simp only[Act.put,gA,gS,gZ,sA,sZ,sS])
 refine aB rfl ?_;refine aN rfl rfl (fun K hK=>?_);go_simp;refine hK _ _ (fun h=>absurd rfl h) ?_;clear hK K hS r6 f6;(try simp only[Act.put,gA,gS,gZ,sA,sZ,sS])
 refine aF ?_;generalize W6.setCell ⟨g,i,none⟩ _=W7 at NX ⊢;have H7:Hid (∃F9,sF W7 F9 p M (gQ U i (tF (U i) ⟨s1,(j:Int)⟩)) V cnt∧Upd F W0 W7∧∀k,F9 k→F k∨W0.heap.size≤k):=by
  obtain⟨F9,g9,u9,n9⟩:=NX.out;refine hIz ⟨F9,by rw[HGG.out.2.2.2.1];exact g9,H5.out.2.1.trans u9 (fun k hk=>H5.out.2.2 k (by rw[HGG.out.2.1];exact hk)),fun k hk=>?_⟩;rcases n9 k hk with h|h
  ·exact H5.out.2.2 k (by rw[HGG.out.2.1];exact h)
  ·exact .inr (Nat.le_trans H5.out.2.1.size h)
 clear NX HGG STAY FRO HU5 H5 hml;clear H3;obtain⟨F7,hF7⟩:=H7.out;have H7b:=hIz hF7;clear hF7 H7;-- in
 have H5:Hid (sF W7 F7 p M (gQ U i (tF (U i) ⟨s1,(j:Int)⟩)) V cnt∧Upd F W0 W7∧∀k,F7 k→F k∨W0.heap.size≤k):=H7b;obtain⟨O,⟨r,nv,ov,iv,fo,fi⟩,hg,hFO⟩:=H5.out.1;obtain⟨g,c,e,eo,cu,fu⟩:=fQ hg.ri hm2;dsimp only at e
 subst e;obtain⟨A,cA,eA,-,-⟩:=aG (hg.fi j);dsimp only at eA cu
 rw[eA] at cu;have own0:=hg.fi j;dsimp only at own0
 rw[eA] at own0;have hup:=HG.out.2.2.2.2.1 j;obtain⟨L,hL⟩:∃L,V j=L:=⟨_,rfl⟩;obtain⟨l,hl0⟩:∃l,L.length=l:=⟨_,rfl⟩;rw[hL] at hup own0 eA cu;have hcon:=AX W7.drew 0 A cA L ⟨s1,(i:Int)⟩ own0 hup.1 (Nat.zero_le _) (by omega);rw[hl0] at hcon eA cu;unfold Hp.agg at hcon;dsimp only at hcon
 have q2:W7.cell? ⟨p,3,none⟩=some (.slice (some ⟨g,0,none⟩) M.length c):=hg.blk.cell 3;have og:O g=some .i:=hg.oi g rfl;have npg:p≠g:=fun e=>by rw[← e,hg.op] at og;cases og
 have hgx5:∀k,O k≠none→¬k=w.heap.size:=fun k hk e=>by
  have h1:=H5.out.2.2 k (by rw[hFO];exact hk);rcases h1 with h1|h1
  ·have:=HG.out.2.2.2.2.2 _ h1;omega
  ·omega
 have STAY:=hIz (show ∀W,Upd (fun k=>(fi j).ownBlock=some k) W7 W→W.cell? ⟨p,3,none⟩=some (.slice (some ⟨g,0,none⟩) M.length c)∧W.cell? ⟨g,j,none⟩=some (.slice A l cA)∧W.cell? ⟨w.heap.size,1,none⟩=some (.string s1) from fun W hu=>by
  have no:∀k,(fi j).ownBlock=some k→O k=some (.ii j):=fun k hk=>hg.oV j k hk
  refine⟨(hg.blk.upd hu (fun e=>by have:=no p e;rw[hg.op] at this;cases this)).cell 3,?_,?_⟩
  ·rw[← cu];exact hu.cell (p:=⟨g,j,none⟩) (hg.lt g (by rw[og];nofun)) (fun e=>by have:=no g e;rw[og] at this;cases this)
  ·rw[← GX.out _ H5.out.2.1];exact hu.cell (p:=⟨w.heap.size,1,none⟩) (Nat.lt_of_lt_of_le hgx H5.out.2.1.size) (fun e=>hgx5 _ (by rw[no _ e];nofun) rfl))
 have FRO:=hIz (show ∀W,Upd (fun k=>(fi j).ownBlock=some k) W7 W→W.frozen? ⟨g,j,none⟩=false from fun W hu=>by
  have no:∀k,(fi j).ownBlock=some k→O k=some (.ii j):=fun k hk=>hg.oV j k hk
  exact(fQ (aA hg.ri hu (fun k hk e=>by
   have h1:=no k e;rw[hg.oi k hk] at h1;cases h1)) hm2).elim fun g' h=>by
    obtain⟨c',e1,-,-,h4⟩:=h;injection e1 with e1;injection e1 with e1;injection e1 with e1;rw[e1];exact h4)
 have HGG:=aI5 hg hFO eA hL hl0;have hS:=STAY.out W7.drew (Upd.refl _ _).drew;clear hg hFO eA hL own0 hup og npg hgx5 q2 cu fu eo;have hml:(j:Int)<(M.length:Int):=by omega
 go_upto_region 3 with (fail);refine aE (fun W=>W.cell? ⟨p,3,none⟩=some (.slice (some ⟨g,0,none⟩) M.length c)∧W.cell? ⟨g,j,none⟩=some (.slice A l cA)∧W.cell? ⟨w.heap.size,1,none⟩=some (.string s1)) 18 [(0,true),(1,true),(2,true),(3,true),(4,true),(5,true),(6,true),(7,true),(8,true),(9,true),(10,true),(11,true),(12,true),(13,true),(14,true),(15,true),(16,false),(17,true),(18,false)] hS ?_;have HU5:=hIz (show Upd (fun _=>False) W7 W7.drew from(Upd.refl _ _).drew);generalize W7.drew=W4 at HU5 hS hcon ⊢
 iterate 16 refine aB rfl ?_
 refine aN rfl rfl (fun K hK=>?_);go_simp;refine hcon.mono ?_;clear hcon hS;rintro e W6 ⟨A6,c6,rfl,o6,u6,p6⟩;have u7:Upd (fun k=>(fi j).ownBlock=some k) W7 W6:=(HU5.out.mono (fun _ _ h=>h.elim)).trans u6 (fun k hk=>.inl (by rw[HGG.out.2.2.1];exact hk));have NX:=hIz (HGG.out.1.setI hm2 o6 u7 (fun k hk=>(p6 k hk).imp (fun h=>by show(fi j).ownBlock=some k;rw[HGG.out.2.2.1];exact h) (fun h=>Nat.le_trans HU5.out.size h)));have hS:=STAY.out _ u7;have r6:=hS.2.1;have f6:=FRO.out _ u7;clear u6 u7 o6 p6;refine hK _ _ (fun _=>hS) ?_;clear hK K;(try simp only[Act.put,gA,gS,gZ,sA,sZ,sS])
 refine aB rfl ?_;refine aN rfl rfl (fun K hK=>?_);go_simp;refine hK _ _ (fun h=>absurd rfl h) ?_;clear hK K hS r6 f6;(try simp only[Act.put,gA,gS,gZ,sA,sZ,sS])
 refine aF ?_;generalize W6.setCell ⟨g,j,none⟩ _=W9 at NX ⊢;have H9:Hid (∃F9,sF W9 F9 p M (gQ U i (tF (U i) ⟨s1,(j:Int)⟩)) (gQ V j (tF (V j) ⟨s1,(i:Int)⟩)) cnt∧Upd F W0 W9∧∀k,F9 k→F k∨W0.heap.size≤k):=by
  obtain⟨F9,g9,u9,n9⟩:=NX.out;refine hIz ⟨F9,by rw[HGG.out.2.2.2.1];exact g9,H5.out.2.1.trans u9 (fun k hk=>H5.out.2.2 k (by rw[HGG.out.2.1];exact hk)),fun k hk=>?_⟩;rcases n9 k hk with h|h
  ·exact H5.out.2.2 k (by rw[HGG.out.2.1];exact h)
  ·exact .inr (Nat.le_trans H5.out.2.1.size h)
 clear NX HGG STAY FRO HU5 H5 hml;clear H7b;obtain⟨F9,hF9⟩:=H9.out;obtain⟨O,D,hg,hFO⟩:=hF9.1;have q4:W9.cell? ⟨p,4,none⟩=some (.int .i64 cnt):=hg.blk.cell 4;have f4:W9.frozen? ⟨p,4,none⟩=false:=hg.blk.frozen 4;have hw:IntKind.i64.wrap (cnt+1)=cnt+1:=by rw[IntKind.wrap_i64];omega
 have NX:=hIz (hg.setC (cnt+1));have HF:=aI2 hF9 hFO;clear hF9 hFO hg H9;go_wp2;generalize W9.setCell ⟨p,4,none⟩ (.int .i64 (cnt+1))=WZ at NX ⊢;go_end0
 refine⟨rfl,?_⟩;unfold BG BH;dsimp only
 rw[HI.out.1,HI.out.2.1,HI.out.2.2];obtain⟨FZ,gz,uz,nz⟩:=NX.out;refine⟨FZ,gz,?_,?_⟩
 ·exact((Upd.of_below HG.out.2.2.1 F).trans HF.out.1.2.1 (fun k h=>.inl h)).trans uz (fun k hk=>(HF.out.1.2.2 k (by rw[HF.out.2];exact hk)).imp id fun h=>Nat.le_trans HG.out.2.2.1.size h)
 ·intro k hk;have hw0:=HG.out.2.2.1.size;rcases nz k hk with h|h
  ·exact(HF.out.1.2.2 k (by rw[HF.out.2];exact h)).imp id fun h=>Nat.le_trans hw0 h
  ·exact .inr (Nat.le_trans hw0 (Nat.le_trans HF.out.1.2.1.size h))
open Go.RowKit
def ofN(N:List Txt)(E:List Ed):List Txt:=if ofI N E=0 then gN N E else []
def ofE(N:List Txt)(E:List Ed):List Ed:=if ofI N E=0 then gE E else []
def OfQ(w:World)(N:List Txt)(E:List Ed)(e:Ending)(w':World):Prop:=
 ∃A c B d,e=.returned (.tuple #[bQ A (ofN N E).length c B (ofE N E).length d,.int .i64 (ofI N E)])∧w'.ownsRow w.heap.size 9 1 (.slice A (ofN N E).length c) (ofN N E).length (aC (ofN N E))∧w'.ownsRow w.heap.size 32 3 (.slice B (ofE N E).length d) (ofE N E).length (aH (ofE N E))∧Below w.heap.size w w'
theorem OfQ.nil{w w':World}{N:List Txt}{E:List Ed}{z:Int}(h:ofI N E=z)(hz:z≠0)(hb:Below w.heap.size w w'):OfQ w N E (.returned (.tuple #[bQ none 0 0 none 0 0,.int .i64 z])) w':=by
 subst h;unfold OfQ ofN ofE;rw[if_neg hz,if_neg hz];exact⟨none,0,none,0,rfl,World.ownsRow_nil _ _ _ _,World.ownsRow_nil _ _ _ _,hb⟩
theorem OfP.q{w w':World}{N:List Txt}{E:List Ed}{e:Ending}(h:OfP w N E e w'):OfQ w N E e w':=by
 rcases h with ⟨hn,rfl,hb⟩|⟨hn,⟨hc,A,c,B,d,rfl,o1,o2,hb⟩|⟨hc,rfl,hb⟩⟩
 ·exact OfQ.nil (by rw[ofI,if_pos hn]) (by decide) hb
 ·have h0:ofI N E=0:=by rw[ofI,if_neg (by rw[hn];simp),hc]
  unfold OfQ ofN ofE;rw[if_pos h0,if_pos h0,h0];exact⟨A,c,B,d,rfl,o1,o2,hb⟩
 ·exact OfQ.nil (by rw[ofI,if_neg (by rw[hn];simp)]) hc hb
theorem eO(w:World)(A:Option Addr)(c:Nat)(B:Option Addr)(d:Nat)(N:List Txt)(E:List Ed)(h:dX w A c B d N E)(hb:(N.length+E.length*2)*16≤140737488355328) :
  Calls Tryz.prog 108 #[.slice A N.length c,.slice B E.length d] w (OfQ w N E):=(LE w A c B d N E h hb).mono fun _ _ h=>h.q
open Go.RowKit
theorem BI{w:World}{base e size n c:Nat}{A:Option Addr}{xs:List Value}(h:w.ownsRow base e size (.slice A n c) n xs):n≤c:=by
 obtain⟨A',c',hv,hc,-⟩:=aG h;injection hv with _ _ e;omega
open Go.RowKit
theorem eI{N:List Txt}{E:List Ed}(h:bP N E=0):fL N E=true∧bT N E=true∧cI N E=0:=by
 unfold bP at h;split at h
 ·cases h
 split at h
 ·cases h
 ·rename_i h1 h2
  exact⟨by simpa using h1,by simpa using h2,h⟩
theorem vQ{N:List Txt}{E:List Ed}(h:cI N E=0):N.length≤32∧(aR ltT (lbs E)).length≤16∧E.length≤256∧(jG N E).length≤2048:=by
 unfold cI at h;split at h
 ·cases h
 split at h
 ·cases h
 split at h
 ·cases h
 split at h
 ·cases h
 ·omega
def tB:Txt:=⟨#[98]⟩
def tX:Txt:=⟨#[120]⟩
def tA:Txt:=⟨#[97]⟩
theorem kK{α:Type}[DecidableEq α]{lt:α→α→Bool}(hs:Sto lt){L M:List α}(hu:upB lt M=true)(hm:∀x,x∈M↔x∈L):aR lt L=M:=
 (eX.is hs ⟨eR hs hu,hm⟩).symm
open Go.RowKit
theorem bU{w:World}{base e size n:Nat}{v:Value}{xs:List Value}(h:w.ownsRow base e size v n xs):∃A c,v=.slice A n c∧n≤c∧aV w A xs:=by
 obtain⟨A,c,rfl,hc,-⟩:=aG h;exact⟨A,c,rfl,hc,aV.of_own h⟩
open Go.RowKit
def BJ(N:List Txt)(k:Nat)(h:Hp):Ed:=⟨(N[k]?).getD ByteArray.empty,h.lb,(N[h.nd.toNat]?).getD ByteArray.empty⟩
def eB(N:List Txt)(U:Nat→List Hp)(k:Nat):List Ed:=(List.range k).flatMap fun i=>(U i).map (BJ N i)
theorem iV(N:List Txt)(U:Nat→List Hp)(k:Nat):eB N U (k+1)=eB N U k++(U k).map (BJ N k):=by simp[eB,List.range_succ]
theorem dQ(w:World)(p r:Nat)(q1:w.cell? ⟨p,1,none⟩=some (.map (some r))):Calls Tryz.prog 48 #[.pointer (some ⟨p,0,none⟩)] w (eJ w (.bool true)):=by
 have hq:∀W,(binOp .neq 105 (.map (some r)) (.map none)).run Tryz.prog W=.ok (.bool true) W:=fun W=>by
  have:=run_neq_map_nil (P:=Tryz.prog) W 105 9 3 (some r) Tryz.underlying105;simpa using this
 go_enter Tryz.func48,Tryz.ntmps48;go_wp2;go_ret;exact⟨rfl,rfl⟩
def NU(w:World)(N:List Txt)(E:List Ed)(e:Ending)(w':World):Prop:=
 ∃A c B d,e=.returned (bQ A (ofN N E).length c B (ofE N E).length d)∧w'.ownsRow w.heap.size 9 1 (.slice A (ofN N E).length c) (ofN N E).length (aC (ofN N E))∧w'.ownsRow w.heap.size 32 3 (.slice B (ofE N E).length d) (ofE N E).length (aH (ofE N E))∧Below w.heap.size w w'
theorem GF(w:World)(F:Nat→Prop)(p:Nat)(N:List Txt)(U V:Nat→List Hp)(cnt:Int)(h:sF w F p N U V cnt)(hl:N.length≤1000000)(hb:∀k,(eB N U k).length≤1000000)(hn:∀k x,x∈U k→0≤x.nd∧x.nd.toNat<N.length)(hf:yM N (eB N U N.length)) :
  Calls Tryz.prog 64 #[.pointer (some ⟨p,0,none⟩)] w (NU w N (eB N U N.length)):=by
 have k0:=Blk.new w 34 #[.slice none 0 0,.slice none 0 0];have u0:Below w.heap.size w (w.alloc (.cells #[.slice none 0 0,.slice none 0 0] 34)):=bR.alloc (Nat.le_refl _) _;obtain⟨O,⟨r,nv,ov,iv,fo,fi⟩,hg,hFO⟩:=h.below u0;obtain⟨nA,nc,e1,hnc,-⟩:=aG hg.rn;obtain⟨oA,oc,e2,-,-⟩:=aG hg.ro;dsimp only at e1 e2
 subst e1;subst e2;obtain⟨n,hN⟩:∃n,N.length=n:=⟨_,rfl⟩;have H:=aI7 hg k0 u0 hb hn hf hN;have q0:(w.alloc (.cells #[.slice none 0 0,.slice none 0 0] 34)).cell? ⟨p,0,none⟩=some (.slice nA n nc):=by rw[← hN];exact hg.blk.cell 0
 have q1:(w.alloc (.cells #[.slice none 0 0,.slice none 0 0] 34)).cell? ⟨p,1,none⟩=some (.map (some r)):=hg.blk.cell 1;have q2:(w.alloc (.cells #[.slice none 0 0,.slice none 0 0] 34)).cell? ⟨p,2,none⟩=some (.slice oA n oc):=by rw[← hN];exact hg.blk.cell 2
 rw[hN] at hl hnc;clear h k0 u0 hg hFO hb hn hf hN;go_enter Tryz.func64,Tryz.ntmps64;go_upto_region 1 with (fail);generalize w.alloc (.cells #[.slice none 0 0,.slice none 0 0] 34)=W0 at H q0 q1 q2 ⊢;go_wp2_with fail;refine(dQ W0 p r q1).mono ?_;rintro e w' ⟨rfl,hw⟩;subst w';go_wp2_with fail;clear q1 q2;go_loopw [3,19] (fun l i wr=>∃k:Nat,k≤n∧i=.int .i64 k∧Hid (Below W0.heap.size W0 wr)∧Hid (wr.ownsRow W0.heap.size 32 3 l (eB N U k).length (aH (eB N U k)))) (fun _ i _=>n-(intOf i).toNat)
 case atStart=>exact⟨0,Nat.zero_le _,rfl,hIz bR,hIz (World.ownsRow_nil _ _ _ _)⟩
 case round =>
  obtain⟨k,hk,rfl,hbw,ho⟩:=hrel;by_cases hlt:k<n
  ·have hltI:(k:Int)<(n:Int):=by omega
   have hkw:IntKind.i64.wrap ((k:Int)+1)=(k:Int)+1:=IntWalk.i64_in _ (by omega);have hltN:k<N.length:=by rw[H.out.2.2.2.2.2.2];exact hlt
   obtain⟨s0,hs0⟩:∃s,N[k]?=some s:=⟨N[k],gEz hltN⟩;have hg:=H.out.1.upd (upF hbw.out) (fun _ _=>id);obtain⟨og,oc',e,-,co,-⟩:=fQ hg.ro hltN;dsimp only at e co
   injection e with e e1 e2;subst e;clear e1 e2;obtain⟨A,cA,eA,-,-⟩:=aG (hg.fo k);dsimp only at eA
   have hrow:=H.out.1.fo k;dsimp only at hrow
   rw[eA] at co hrow;obtain⟨m,hm⟩:∃m,(U k).length=m:=⟨_,rfl⟩;have hm1:(eB N U (k+1)).length≤1000000:=H.out.2.2.2.1 (k+1);rw[iV,List.length_append,List.length_map,hm] at hm1;rw[hm] at co;have HM:=aI3 hm (aV.of_own hrow) hs0;clear hg eA hrow hm hs0;go_wp2_with fail;clear co;obtain⟨W5,hW5⟩:∃W,W=wr:=⟨_,rfl⟩;subst hW5;go_loopw [3,26] (fun l i wz=>∃j:Nat,j≤m∧i=.int .i64 j∧Hid (Below W0.heap.size W0 wz)∧Hid (wz.ownsRow W0.heap.size 32 3 l (eB N U k++((U k).take j).map (BJ N k)).length (aH (eB N U k++((U k).take j).map (BJ N k))))) (fun _ i _=>m-(intOf i).toNat)
   case atStart=>exact⟨0,Nat.zero_le _,rfl,hbw,hIz (by simpa using ho.out)⟩
   case round =>
    obtain⟨j,hj,rfl,hb0,hown⟩:=hrel;by_cases hjm:j<m
    ·have hjmI:(j:Int)<(m:Int):=by omega
     have hjw:IntKind.i64.wrap ((j:Int)+1)=(j:Int)+1:=IntWalk.i64_in _ (by omega);obtain⟨⟨lb,nd⟩,hx⟩:∃x,(U k)[j]?=some x:=⟨(U k)[j]'(by rw[HM.out.1];exact hjm),gEz _⟩;have hnd:=H.out.2.2.2.2.1 k _ (mG hx);dsimp only at hnd
     obtain⟨q,rfl⟩:=Int.eq_ofNat_of_zero_le hnd.1;have hqN:q<N.length:=by have:=hnd.2;omega
     have hqn:q<n:=by have:=H.out.2.2.2.2.2.2;omega
     obtain⟨s1,hs1⟩:∃s,N[q]?=some s:=⟨N[q],gEz hqN⟩;obtain⟨ab,ao,rfl,y0,y1⟩:=(HM.out.2.1.below hb0.out).hp hx;dsimp only at y0 y1
     have hg:=H.out.1.upd (upF hb0.out) (fun _ _=>id);obtain⟨ng,nc',eN,-,-,-,-,cN⟩:=bC hg.rn (by omega);dsimp only at eN
     injection eN with eN e1 e2;subst eN;clear e1 e2;have z0:wr.cell? ⟨p,0,none⟩=some (.slice (some ⟨ng,0,none⟩) n nc):=by rw[← H.out.2.2.2.2.2.2];exact hg.blk.cell 0
     have z1:wr.cell? ⟨ng,k,none⟩=some (.string s0):=(cN k (.string s0) (by simp[aC,HM.out.2.2])).1;have z2:wr.cell? ⟨ng,q,none⟩=some (.string s1):=(cN q (.string s1) (by simp[aC,hs1])).1;have kx:=Blk.new wr 103 #[.string lb,.int .i64 (q:Int)];have ux:Below wr.heap.size wr (wr.alloc (.cells #[.string lb,.int .i64 (q:Int)] 103)):=bR.alloc (Nat.le_refl _) _;have lp:=World.block_lt_of_cell? wr _ z0;have ln:=World.block_lt_of_cell? wr _ z1;have hgp:∀b,W0.heap.size≤b→ng≠b:=fun b hb e=>by
      have:=H.out.1.rn.lt ng rfl;omega
     have hpp:∀b,W0.heap.size≤b→p≠b:=fun b hb e=>by
      have:=H.out.1.blk.lt;omega
     have hl5:((eB N U k++((U k).take j).map (BJ N k)).length+1)*48≤140737488355328:=by
      rw[List.length_append,List.length_map,List.length_take,HM.out.1];have:=Nat.min_le_left j m;omega
     have hed:BJ N k ⟨lb,(q:Int)⟩=⟨s0,lb,s1⟩:=by
      unfold BJ;simp[HM.out.2.2,hs1]
     have htk:eB N U k++((U k).take (j+1)).map (BJ N k)=(eB N U k++((U k).take j).map (BJ N k))++[⟨s0,lb,s1⟩]:=by
      rw[List.take_add_one,hx,← hed];simp
     have own5:=(hown.out.alloc (.cells #[.string lb,.int .i64 (q:Int)] 103));have HX:=aI6 kx ux own5 hl5 htk hown.out.lt;have SR:=hIz (show ∀W,Upd (fun b=>W0.heap.size≤b∧b<wr.heap.size) (wr.alloc (.cells #[.string lb,.int .i64 (q:Int)] 103)) W→W.cell? ⟨p,0,none⟩=some (.slice (some ⟨ng,0,none⟩) n nc)∧W.cell? ⟨ng,k,none⟩=some (.string s0)∧W.cell? ⟨ng,q,none⟩=some (.string s1)∧W.cell? ⟨wr.heap.size,0,none⟩=some (.string lb)∧W.cell? ⟨wr.heap.size,1,none⟩=some (.int .i64 (q:Int)) from fun W hu=>by
      have hz:(wr.alloc (.cells #[.string lb,.int .i64 (q:Int)] 103)).heap.size=wr.heap.size+1:=by simp
      have kk:=kx.upd hu (fun e=>by have:=e.2;omega);refine⟨?_,?_,?_,kk.cell 0,kk.cell 1⟩
      ·rw[hu.cell (p:=⟨p,0,none⟩) (by rw[hz];exact Nat.lt_succ_of_lt lp) (fun e=>hpp _ e.1 rfl),World.cell?_alloc_past _ p 0 lp];exact z0
      ·rw[hu.cell (p:=⟨ng,k,none⟩) (by rw[hz];exact Nat.lt_succ_of_lt ln) (fun e=>hgp _ e.1 rfl),World.cell?_alloc_past _ ng k ln];exact z1
      ·rw[hu.cell (p:=⟨ng,q,none⟩) (by rw[hz];exact Nat.lt_succ_of_lt ln) (fun e=>hgp _ e.1 rfl),World.cell?_alloc_past _ ng q ln];exact z2)
     have hS:=SR.out (wr.alloc (.cells #[.string lb,.int .i64 (q:Int)] 103)).drew (Upd.refl _ _).drew;clear kx ux own5 hl5 htk hed hg cN z0 z1 z2 hx hs1 lp ln hgp hpp hnd hown;go_upto_region 10 with (fail);generalize wr.alloc (.cells #[.string lb,.int .i64 (q:Int)] 103)=W6 at HX SR hS ⊢;clear y0 y1;refine aE (fun W=>W.cell? ⟨p,0,none⟩=some (.slice (some ⟨ng,0,none⟩) n nc)∧W.cell? ⟨ng,k,none⟩=some (.string s0)∧W.cell? ⟨ng,q,none⟩=some (.string s1)∧W.cell? ⟨wr.heap.size,0,none⟩=some (.string lb)∧W.cell? ⟨wr.heap.size,1,none⟩=some (.int .i64 (q:Int))) 22 [(0,true),(1,true),(2,true),(3,true),(4,true),(5,true),(6,true),(7,true),(8,true),(9,true),(10,true),(11,true),(12,true),(13,true),(14,true),(15,true),(16,true),(17,true),(18,true),(19,false),(20,false),(21,true)] hS ?_
     iterate 19 refine aB rfl ?_
     refine aN rfl rfl (fun K hK=>?_);go_simp;refine hK _ _ (fun _=>SR.out _ ((Upd.refl _ W6).drew.alloc (.cells #[.string s0,.string lb,.string s1] 32))) ?_;clear hK K hS;(try simp only[Act.put,gA,gS,gZ,sA,sZ,sS])
     obtain⟨v7,W7,happ,own7,up7,pl7⟩:=jJ W6.drew W0.heap.size _ _ (aA HX.out.2.2.1 (Upd.refl (fun _=>False) W6).drew (fun _ _ h=>h)) ⟨s0,lb,s1⟩ HX.out.2.2.2.1 (by have:=HX.out.2.1.size;have:=hb0.out.size;exact Nat.le_trans hb0.out.size HX.out.2.1.size);dsimp only at happ
     have u67:Upd (fun b=>W0.heap.size≤b∧b<wr.heap.size) W6 W7:=((Upd.refl (fun _=>False) W6).drew.mono (fun _ _ h=>h.elim)).trans up7 (fun b hb=>.inl (HX.out.2.2.2.2.2 b hb));have b07:Below W0.heap.size W0 W7:=hb0.out.trans ((HX.out.2.1.mono hb0.out.size).trans (u67.below (fun b _ hb=>hb.1) (Nat.le_trans hb0.out.size HX.out.2.1.size)));have hS:=SR.out _ u67;have HF:=aI2 b07 own7;clear own7 up7 pl7 u67 b07;refine aN rfl rfl (fun K hK=>?_);refine bI _ _ _ rfl rfl rfl happ ?_;refine hK _ _ (fun _=>hS) ?_;clear hK K happ;(try simp only[Act.put,gA,gS,gZ,sA,sZ,sS])
     refine aB rfl ?_;refine aF ?_;clear hS;go_wp2;go_roundw
     case rel=>exact⟨j+1,by omega,by go_num,hIz HF.out.1,hIz (by rw[HX.out.2.2.2.2.1];exact HF.out.2)⟩
     case measure=>simp[intOf];omega
    ·obtain rfl:j=m:=by omega
     go_wp2;go_roundw
     case rel=>exact⟨k+1,by omega,by go_num,hb0,hIz (by
      have:=hown.out;rw[← HM.out.1,List.take_length] at this;rw[iV];exact this)⟩
     case measure=>simp[intOf];omega
  ·obtain rfl:k=n:=by omega
   obtain⟨lA,lc,rfl,hlc,-⟩:=aG ho.out;have hg:=H.out.1.upd (upF hbw.out) (fun _ _=>id);have z0:wr.cell? ⟨p,0,none⟩=some (.slice nA k nc):=by rw[← H.out.2.2.2.2.2.2];exact hg.blk.cell 0
   have hl0:(eB N U k).length≤1000000:=H.out.2.2.2.1 k;have hfor:dX wr nA nc lA lc N (eB N U k):=⟨aV.of_own hg.rn,aV.of_own ho.out,by rw[H.out.2.2.2.2.2.2];exact hnc,hlc,by have:=H.out.2.2.2.2.2.1;rw[H.out.2.2.2.2.2.2] at this;exact this⟩;have hcon:=eO wr nA nc lA lc N (eB N U k) hfor (by rw[H.out.2.2.2.2.2.2];omega);rw[H.out.2.2.2.2.2.2] at hcon;clear hg hfor ho;go_wp2_with fail;refine hcon.mono ?_;clear hcon z0;rintro e W5 ⟨A5,c5,B5,d5,rfl,o1,o2,b5⟩;unfold bQ;obtain⟨x1,hx1⟩:∃m,(ofN N (eB N U k)).length=m:=⟨_,rfl⟩;obtain⟨x2,hx2⟩:∃m,(ofE N (eB N U k)).length=m:=⟨_,rfl⟩;rw[hx1] at o1 ⊢;rw[hx2] at o2 ⊢;have b05:=tHn hbw.out b5;have k5:=(H.out.2.1.upd (upF b05) id).alloc (.cells #[.slice A5 x1 c5,.slice B5 x2 d5] 34);have k6:=Blk.new W5 34 #[.slice A5 x1 c5,.slice B5 x2 d5];have h0:w.heap.size<W5.heap.size:=by have:=H.out.2.1.lt;have:=b05.size;omega
   have r0:(W5.alloc (.cells #[.slice A5 x1 c5,.slice B5 x2 d5] 34)).cell? ⟨w.heap.size,0,none⟩=some (.slice none 0 0):=k5.cell 0;have r1:(W5.alloc (.cells #[.slice A5 x1 c5,.slice B5 x2 d5] 34)).cell? ⟨w.heap.size,1,none⟩=some (.slice none 0 0):=k5.cell 1;have f0:=k5.frozen 0;have f1:=k5.frozen 1;have x0:(W5.alloc (.cells #[.slice A5 x1 c5,.slice B5 x2 d5] 34)).cell? ⟨W5.heap.size,0,none⟩=some (.slice A5 x1 c5):=k6.cell 0;have x1':(W5.alloc (.cells #[.slice A5 x1 c5,.slice B5 x2 d5] 34)).cell? ⟨W5.heap.size,1,none⟩=some (.slice B5 x2 d5):=k6.cell 1;have kF:=(k5.set 0 (.slice A5 x1 c5)).set 1 (.slice B5 x2 d5);have uF:=((Upd.refl (fun q=>q=w.heap.size) (W5.alloc (.cells #[.slice A5 x1 c5,.slice B5 x2 d5] 34))).setCell (p:=⟨w.heap.size,0,none⟩) (.inl rfl) (.slice A5 x1 c5)).setCell (p:=⟨w.heap.size,1,none⟩) (.inl rfl) (.slice B5 x2 d5);have e0:=kF.cell 0;have e1:=kF.cell 1;simp only[List.setIfInBounds_toArray,List.set_cons_zero,List.set_cons_succ,List.getElem?_toArray,List.getElem?_cons_succ,List.getElem?_cons_zero] at e0 e1
   have bF:=(b5.alloc b5.size (.cells #[.slice A5 x1 c5,.slice B5 x2 d5] 34));have HO:=aI2 o1 o2;have FIN:=hIz (show NU w N (eB N U k) (.returned (.agg #[.slice A5 x1 c5,.slice B5 x2 d5])) (((W5.alloc (.cells #[.slice A5 x1 c5,.slice B5 x2 d5] 34)).setCell ⟨w.heap.size,0,none⟩ (.slice A5 x1 c5)).setCell ⟨w.heap.size,1,none⟩ (.slice B5 x2 d5)) from by
    have hw:w.heap.size≤wr.heap.size:=Nat.le_trans H.out.2.2.1.size hbw.out.size;have no:∀{v:Value} {e size m:Nat} {xs:List Value},W5.ownsRow wr.heap.size e size v m xs→(((W5.alloc (.cells #[.slice A5 x1 c5,.slice B5 x2 d5] 34)).setCell ⟨w.heap.size,0,none⟩ (.slice A5 x1 c5)).setCell ⟨w.heap.size,1,none⟩ (.slice B5 x2 d5)).ownsRow w.heap.size e size v m xs:=fun h=>by
     refine aJ (aA (h.alloc _) uF (fun q hq e=>?_)) (fun q hq=>Nat.le_trans hw (h.lt q hq).1);have:=(h.lt q hq).1;have:=H.out.2.1.lt;have:=hbw.out.size;omega
    exact⟨A5,c5,B5,d5,by rw[hx1,hx2];rfl,by rw[hx1];exact no o1,by rw[hx2];exact no o2,H.out.2.2.1.trans ((hbw.out.mono H.out.2.2.1.size).trans ((bF.mono hw).trans (uF.below (fun q _ e=>Nat.le_of_eq e.symm) (Nat.le_trans hw bF.size))))⟩)
   clear k5 k6 kF uF bF o1 o2 hx1 hx2 b5 b05;go_upto_region 14 with (fail);generalize W5.alloc (.cells #[.slice A5 x1 c5,.slice B5 x2 d5] 34)=W6 at r0 r1 f0 f1 x0 x1' e0 e1 FIN ⊢;go_wp2;refine bodyPost_ret (v:=.agg #[.slice A5 x1 c5,.slice B5 x2 d5]) (by simp[results,Tryz.f64,go_sem,e0,e1]) rfl ?_;have hNk:=H.out.2.2.2.2.2.2;rw[hNk];exact FIN.out
open Go.RowKit
structure dL(N:List Txt)(X:List Ed)(U V:Nat→List Hp):Prop where
 up:∀k,cL ltH (U k)
 vp:∀k,cL ltH (V k)
 um:∀k h,h∈U k↔∃x∈X,N[k]?=some x.fr∧h=⟨x.lb,(cS N x.to:Int)⟩
 vm:∀k h,h∈V k↔∃x∈X,N[k]?=some x.to∧h=⟨x.lb,(cS N x.fr:Int)⟩
def GrS(w:World)(F:Nat→Prop)(p:Nat)(G:Gr):Prop:=∃U V,sF w F p G.N U V G.X.length∧dL G.N G.X U V
theorem GrS.upd{w w':World}{F Q:Nat→Prop}{p:Nat}{G:Gr}(h:GrS w F p G)(hu:Upd Q w w')(hd:∀k,F k→¬Q k):GrS w' F p G:=by
 obtain⟨U,V,h1,h2⟩:=h;exact⟨U,V,h1.upd hu hd,h2⟩
theorem GrS.below{w w':World}{F:Nat→Prop}{p:Nat}{G:Gr}(h:GrS w F p G)(hb:Below w.heap.size w w'):GrS w' F p G:=h.upd (upF hb) (fun _ _=>id)
theorem GrS.lt{w:World}{F:Nat→Prop}{p:Nat}{G:Gr}(h:GrS w F p G):∀k,F k→k<w.heap.size:=by
 obtain⟨U,V,h1,-⟩:=h;exact h1.lt
def yX(w:World)(F:Nat→Prop)(p:Nat)(G:Gr)(w':World):Prop:=∃F',GrS w' F' p G∧Upd F w w'∧∀k,F' k→F k∨w.heap.size≤k
theorem yX.refl{w w':World}{F:Nat→Prop}{p:Nat}{G:Gr}(h:GrS w F p G)(hb:Below w.heap.size w w'):yX w F p G w':=⟨F,h.below hb,Upd.of_below hb F,fun _ hk=>.inl hk⟩

theorem dL.new:dL [] [] (fun _=>[]) (fun _=>[]):=⟨fun _=>List.Pairwise.nil,fun _=>List.Pairwise.nil,fun k h=>by simp,fun k h=>by simp⟩
theorem rO{N:List Txt}{s t:Txt}(h:t∈N)(k:Nat):(bG N s)[k]?=some t↔N[k]?=some t:=by
 unfold bG;split
 ·rfl
 ·rename_i hs
  constructor
  ·intro e;rw[List.getElem?_append] at e;split at e
   ·exact e
   ·rw[List.getElem?_singleton] at e;split at e
    ·injection e with e;exact(hs (aQ.2 (by rw[e];exact h))).elim
    ·cases e
  ·intro e;rw[List.getElem?_append_left (gO.1 e).1];exact e
theorem dL.node{N:List Txt}{X:List Ed}{U V:Nat→List Hp}(h:dL N X U V)(he:∀x∈X,x.fr∈N∧x.to∈N)(s:Txt):dL (bG N s) X U V:=by
 refine⟨h.up,h.vp,fun k y=>?_,fun k y=>?_⟩
 ·rw[h.um];constructor
  ·rintro⟨x,hx,h1,h2⟩;exact⟨x,hx,(rO (he x hx).1 k).2 h1,by rw[gL (he x hx).2];exact h2⟩
  ·rintro⟨x,hx,h1,h2⟩;exact⟨x,hx,(rO (he x hx).1 k).1 h1,by rw[gL (he x hx).2] at h2;exact h2⟩
 ·rw[h.vm];constructor
  ·rintro⟨x,hx,h1,h2⟩;exact⟨x,hx,(rO (he x hx).2 k).2 h1,by rw[gL (he x hx).1];exact h2⟩
  ·rintro⟨x,hx,h1,h2⟩;exact⟨x,hx,(rO (he x hx).2 k).1 h1,by rw[gL (he x hx).1] at h2;exact h2⟩
theorem rP{N:List Txt}{s t:Txt}(hs:s∈N)(ht:t∈N)(e:(cS N s:Int)=cS N t):s=t:=by
 have e:cS N s=cS N t:=by omega
 have h1:=cR hs;rw[e,cR ht] at h1;injection h1 with h1;exact h1.symm
theorem dL.edge{N:List Txt}{X:List Ed}{U V:Nat→List Hp}(h:dL N X U V)(hN:N.Nodup)(he:∀x∈X,x.fr∈N∧x.to∈N){x:Ed}(hf:x.fr∈N)(ht:x.to∈N)(hx:x ∉ X):dL N (X++[x]) (BG N U x) (BH N V x):=by
 have nU:(⟨x.lb,(cS N x.to:Int)⟩:Hp) ∉ U (cS N x.fr):=fun hm=>by
  obtain⟨y,hy,h1,h2⟩:=(h.um _ _).1 hm;rw[cR hf] at h1;injection h1 with h1;injection h2 with h2 h3;have:=rP ht (he y hy).2 h3;obtain⟨a,b,c⟩:=x;obtain⟨a',b',c'⟩:=y;dsimp only at h1 h2 this
  subst h1;subst h2;subst this;exact hx hy
 have nV:(⟨x.lb,(cS N x.fr:Int)⟩:Hp) ∉ V (cS N x.to):=fun hm=>by
  obtain⟨y,hy,h1,h2⟩:=(h.vm _ _).1 hm;rw[cR ht] at h1;injection h1 with h1;injection h2 with h2 h3;have:=rP hf (he y hy).1 h3;obtain⟨a,b,c⟩:=x;obtain⟨a',b',c'⟩:=y;dsimp only at h1 h2 this
  subst h1;subst h2;subst this;exact hx hy
 refine⟨fun k=>?_,fun k=>?_,fun k y=>?_,fun k y=>?_⟩
 ·unfold BG gQ;split
  ·exact lT (h.up _) nU
  ·exact h.up k
 ·unfold BH gQ;split
  ·exact lT (h.vp _) nV
  ·exact h.vp k
 ·unfold BG gQ;split
  ·rename_i hk
   subst hk;rw[rC,h.um];constructor
   ·rintro (⟨z,hz,h1,h2⟩|rfl)
    ·exact⟨z,List.mem_append.2 (.inl hz),h1,h2⟩
    ·exact⟨x,by simp,cR hf,rfl⟩
   ·rintro⟨z,hz,h1,h2⟩;rcases List.mem_append.1 hz with hz|hz
    ·exact .inl ⟨z,hz,h1,h2⟩
    ·rw[List.mem_singleton] at hz;subst hz;exact .inr h2
  ·rename_i hk
   rw[h.um];constructor
   ·rintro⟨z,hz,h1,h2⟩;exact⟨z,List.mem_append.2 (.inl hz),h1,h2⟩
   ·rintro⟨z,hz,h1,h2⟩;rcases List.mem_append.1 hz with hz|hz
    ·exact⟨z,hz,h1,h2⟩
    ·rw[List.mem_singleton] at hz;subst hz;exact(hk (iJ hN h1).symm).elim
 ·unfold BH gQ;split
  ·rename_i hk
   subst hk;rw[rC,h.vm];constructor
   ·rintro (⟨z,hz,h1,h2⟩|rfl)
    ·exact⟨z,List.mem_append.2 (.inl hz),h1,h2⟩
    ·exact⟨x,by simp,cR ht,rfl⟩
   ·rintro⟨z,hz,h1,h2⟩;rcases List.mem_append.1 hz with hz|hz
    ·exact .inl ⟨z,hz,h1,h2⟩
    ·rw[List.mem_singleton] at hz;subst hz;exact .inr h2
  ·rename_i hk
   rw[h.vm];constructor
   ·rintro⟨z,hz,h1,h2⟩;exact⟨z,List.mem_append.2 (.inl hz),h1,h2⟩
   ·rintro⟨z,hz,h1,h2⟩;rcases List.mem_append.1 hz with hz|hz
    ·exact⟨z,hz,h1,h2⟩
    ·rw[List.mem_singleton] at hz;subst hz;exact(hk (iJ hN h1).symm).elim
theorem dL.len{N:List Txt}{X:List Ed}{U V:Nat→List Hp}(h:dL N X U V)(k:Nat):(U k).length≤X.length∧(V k).length≤X.length:=by
 constructor
 ·have:=fN (L:=U k) (M:=X.map fun x=>(⟨x.lb,(cS N x.to:Int)⟩:Hp)) ((h.up k).nodup yT) (fun y hy=>by
   obtain⟨x,hx,-,e⟩:=(h.um k y).1 hy;exact List.mem_map.2 ⟨x,hx,e.symm⟩)
  simpa using this
 ·have:=fN (L:=V k) (M:=X.map fun x=>(⟨x.lb,(cS N x.fr:Int)⟩:Hp)) ((h.vp k).nodup yT) (fun y hy=>by
   obtain⟨x,hx,-,e⟩:=(h.vm k y).1 hy;exact List.mem_map.2 ⟨x,hx,e.symm⟩)
  simpa using this
theorem dL.out{N:List Txt}{X:List Ed}{U V:Nat→List Hp}(h:dL N X U V){k:Nat}(hk:N.length≤k):U k=[]∧V k=[]:=by
 constructor
 ·refine List.eq_nil_iff_forall_not_mem.2 fun y hy=>?_
  obtain⟨x,-,e,-⟩:=(h.um k y).1 hy;rw[List.getElem?_eq_none hk] at e;cases e
 ·refine List.eq_nil_iff_forall_not_mem.2 fun y hy=>?_
  obtain⟨x,-,e,-⟩:=(h.vm k y).1 hy;rw[List.getElem?_eq_none hk] at e;cases e
theorem oK{N:List Txt}{X:List Ed}{U V:Nat→List Hp}(h:dL N X U V):∀k,(eB N U k).length≤N.length*X.length
 | 0=>by simp[eB]
 | k+1=>by
  have key:∀j,j≤N.length→(eB N U j).length≤j*X.length:=fun j=>by
   induction j with
   | zero=>intro _;simp[eB]
   | succ j ih =>
    intro hj;have h1:=ih (by omega);have h2:=(h.len j).1;rw[iV,List.length_append,List.length_map,Nat.add_mul];omega
  by_cases hk:k+1≤N.length
  ·exact Nat.le_trans (key _ hk) (Nat.mul_le_mul_right _ hk)
  ·have h1:=oK h k;rw[iV,(h.out (by omega)).1];simpa using h1
theorem tI{N:List Txt}{X:List Ed}{U V:Nat→List Hp}(h:dL N X U V)(he:∀x∈X,x.fr∈N∧x.to∈N)(y:Ed):y∈eB N U N.length↔y∈X:=by
 unfold eB;simp only[List.mem_flatMap,List.mem_range,List.mem_map]
 constructor
 ·rintro⟨k,hk,z,hz,rfl⟩;obtain⟨x,hx,h1,rfl⟩:=(h.um k z).1 hz;unfold BJ;dsimp only
  rw[h1,Int.toNat_natCast,cR (he x hx).2];exact hx
 ·intro hy;refine⟨cS N y.fr,eT (he y hy).1,⟨y.lb,(cS N y.to:Int)⟩,(h.um _ _).2 ⟨y,hy,cR (he y hy).1,rfl⟩,?_⟩;unfold BJ;dsimp only
  rw[cR (he y hy).1,Int.toNat_natCast,cR (he y hy).2];rfl
theorem GOk.few{G:Gr}(h:GOk G):G.N.length≤32∧G.X.length≤256:=by
 have hc:=rF h.may;have h1:=fN h.nd (M:=gN G.N G.X) (fun s hs=>kE.2 (.inl hs));have h2:=fN h.xd (M:=gE G.X) (fun s hs=>fO.2 hs);unfold cI at hc;split at hc
 ·cases hc
 split at hc
 ·cases hc
 split at hc
 ·cases hc
 omega
theorem GH{G:Gr}(h:GOk G){U V:Nat→List Hp}(ho:dL G.N G.X U V):ofI G.N (eB G.N U G.N.length)=0∧ofN G.N (eB G.N U G.N.length)=datN G∧ofE G.N (eB G.N U G.N.length)=datE G:=by
 have hm:=tI ho h.ends;have h1:ofI G.N (eB G.N U G.N.length)=ofI G.N G.X:=nB (fun s=>by simp only[hm]) hm (fun s hs=>.inl hs) (fun s hs=>.inl hs);have h0:=h1.trans h.may;refine⟨h0,?_,?_⟩
 ·unfold ofN;rw[if_pos h0];exact rG (fun s=>by simp only[hm])
 ·unfold ofE;rw[if_pos h0];exact rH hm
theorem LH{G:Gr}(h:GOk G){U V:Nat→List Hp}(ho:dL G.N G.X U V):yM G.N (eB G.N U G.N.length):=by
 have hf:=h.few;have hs:=fW.of (fP h.may);have hl:=oK ho G.N.length;have h8:G.N.length*G.X.length≤32*256:=Nat.mul_le_mul hf.1 hf.2;refine⟨by omega,by omega,fun t ht=>by have:=hs.n t ht;unfold cT;omega,fun x hx=>?_⟩;have:=hs.e x ((tI ho h.ends x).1 hx);unfold pE cT;omega
def QA(w:World)(G:Gr)(e:Ending)(w':World):Prop:=
 ∃A c B d,e=.returned (bQ A (datN G).length c B (datE G).length d)∧w'.ownsRow w.heap.size 9 1 (.slice A (datN G).length c) (datN G).length (aC (datN G))∧w'.ownsRow w.heap.size 32 3 (.slice B (datE G).length d) (datE G).length (aH (datE G))∧Below w.heap.size w w'
theorem vR(w:World)(F:Nat→Prop)(p:Nat)(G:Gr)(h:GrS w F p G)(ok:GOk G):Calls Tryz.prog 64 #[.pointer (some ⟨p,0,none⟩)] w (QA w G):=by
 obtain⟨U,V,hg,ho⟩:=h;have hf:=ok.few;have hd:=GH ok ho;have h8:G.N.length*G.X.length≤32*256:=Nat.mul_le_mul hf.1 hf.2;refine(GF w F p G.N U V _ hg (by omega) (fun k=>by have:=oK ho k;omega) (fun k x hx=>?_) (LH ok ho)).mono ?_
 ·obtain⟨y,hy,-,rfl⟩:=(ho.um k x).1 hx;exact⟨Int.natCast_nonneg _,by simpa using eT (ok.ends y hy).2⟩
 ·rintro e w' ⟨A,c,B,d,rfl,o1,o2,b⟩;rw[hd.2.1] at o1 ⊢;rw[hd.2.2] at o2 ⊢;exact⟨A,c,B,d,rfl,o1,o2,b⟩
open Go.RowKit
theorem dL.has{N:List Txt}{X:List Ed}{U V:Nat→List Hp}(h:dL N X U V)(he:∀x∈X,x.fr∈N∧x.to∈N){x:Ed}(hf:x.fr∈N)(ht:x.to∈N):(⟨x.lb,(cS N x.to:Int)⟩:Hp)∈U (cS N x.fr)↔x∈X:=by
 rw[h.um];constructor
 ·rintro⟨y,hy,h1,h2⟩;rw[cR hf] at h1;injection h1 with h1;injection h2 with h2 h3;have:=rP ht (he y hy).2 h3;obtain⟨a,b,c⟩:=x;obtain⟨a',b',c'⟩:=y;dsimp only at h1 h2 this
  subst h1;subst h2;subst this;exact hy
 ·intro hx;exact⟨x,hx,cR hf,rfl⟩
theorem lU{N:List Txt}{s:Txt}(h:s∈N):FB N s=(cS N s:Int)+1:=by unfold FB;rw[if_pos (aQ.2 h)]
theorem nD{N:List Txt}{s:Txt}(h:s ∉ N):FB N s=0:=by unfold FB;rw[if_neg (fun e=>h (aQ.1 e))]
theorem tJ(w:World)(F:Nat→Prop)(p:Nat)(G:Gr)(h:GrS w F p G)(ok:GOk G)(x:Ed)(k0:cT x.fr)(k2:cT x.to) :
  Calls Tryz.prog 43 #[.pointer (some ⟨p,0,none⟩),.string x.fr,.string x.lb,.string x.to] w (Sam w (.bool (decide (x∈G.X)))):=by
 obtain⟨U,V,⟨O,⟨r,nv,ov,iv,fo,fi⟩,hg,-⟩,ho⟩:=h;have q1:w.cell? ⟨p,1,none⟩=some (.map (some r)):=hg.blk.cell 1;have l0:=fX hg.map x.fr k0;have l1:=fX hg.map x.to k2;by_cases hf:x.fr∈G.N
 ·rw[lU hf] at l0;have hlf:=eT hf;have hN:=ok.few.1;obtain⟨i,hi⟩:∃i,cS G.N x.fr=i:=⟨_,rfl⟩;rw[hi] at l0 hlf;have z0:((i:Int)+1==0)=false:=by simp;omega
  by_cases ht:x.to∈G.N
  ·rw[lU ht] at l1;have hlt:=eT ht;obtain⟨j,hj⟩:∃j,cS G.N x.to=j:=⟨_,rfl⟩;rw[hj] at l1 hlt;have z1:((j:Int)+1==0)=false:=by simp;omega
   have w0:IntKind.i64.wrap (i:Int)=(i:Int):=IntWalk.i64_in _ (by omega);have w1:IntKind.i64.wrap (j:Int)=(j:Int):=IntWalk.i64_in _ (by omega);have hdec:decide ((⟨x.lb,(j:Int)⟩:Hp)∈U i)=decide (x∈G.X):=by rw[← hi,← hj];exact decide_eq_decide.2 (ho.has ok.ends hf ht)
   obtain⟨og,oc,eo,-,co,-⟩:=fQ hg.ro hlf;dsimp only at eo co
   subst eo;obtain⟨A,cA,eA,-,-⟩:=aG (hg.fo i);dsimp only at eA
   have hrow:=hg.fo i;dsimp only at hrow
   rw[eA] at co hrow;have hUl:=(ho.len i).1;have hX:=ok.few.2;have hcon:=fun W (hb:Below w.heap.size w W)=>AV W A cA (U i) ⟨x.lb,(j:Int)⟩ ((aV.of_own hrow).below hb) (ho.up i) (by omega)
   rw[hdec] at hcon;obtain⟨m,hm⟩:∃m,(U i).length=m:=⟨_,rfl⟩;rw[hm] at hcon co;obtain⟨n,hn⟩:∃n,G.N.length=n:=⟨_,rfl⟩;have q2:w.cell? ⟨p,2,none⟩=some (.slice (some ⟨og,0,none⟩) n oc):=by rw[← hn];exact hg.blk.cell 2
   rw[hn] at hlf hlt hN;have SR:=hIz (show ∀W,Below w.heap.size w W→W.cell? ⟨p,1,none⟩=some (.map (some r))∧W.cell? ⟨p,2,none⟩=some (.slice (some ⟨og,0,none⟩) n oc)∧W.cell? ⟨og,i,none⟩=some (.slice A m cA)∧(Instr.lookup 105 (.map (some r)) (.string x.fr) false).run Tryz.prog W=.ok (.int .i64 ((i:Int)+1)) W∧(Instr.lookup 105 (.map (some r)) (.string x.to) false).run Tryz.prog W=.ok (.int .i64 ((j:Int)+1)) W from fun W hb=>by
    have hu:=Upd.of_below hb (fun _=>False);have hm':=hg.map.upd hu id;have hblk:=hg.blk.upd hu id;have lo:=World.block_lt_of_cell? w _ co;refine⟨hblk.cell 1,by rw[← hn];exact hblk.cell 2,by rw[hu.cell (p:=⟨og,i,none⟩) lo id];exact co,?_,?_⟩
    ·have:=fX hm' x.fr k0;rwa [lU hf,hi] at this
    ·have:=fX hm' x.to k2;rwa [lU ht,hj] at this)
   have hS:=SR.out w.drew (Below.refl _ w).drew;clear hg ho hrow hUl hX eA hi hj hm hn hdec ok;have hlfI:(i:Int)<(n:Int):=by omega
   go_enter Tryz.func43,Tryz.ntmps43;go_wp2_with fail;refine(dQ w p r q1).mono ?_;rintro e w' ⟨rfl,hw⟩;subst w';go_upto_region 3 with (fail);clear q1 q2 co l0 l1;have HB:=hIz (show Below w.heap.size w w.drew from(Below.refl _ w).drew);refine aE (fun W=>W.cell? ⟨p,1,none⟩=some (.map (some r))∧W.cell? ⟨p,2,none⟩=some (.slice (some ⟨og,0,none⟩) n oc)∧W.cell? ⟨og,i,none⟩=some (.slice A m cA)∧(Instr.lookup 105 (.map (some r)) (.string x.fr) false).run Tryz.prog W=.ok (.int .i64 ((i:Int)+1)) W∧(Instr.lookup 105 (.map (some r)) (.string x.to) false).run Tryz.prog W=.ok (.int .i64 ((j:Int)+1)) W) 28 [(0,true),(1,true),(2,true),(3,true),(4,true),(5,true),(6,true),(7,true),(8,true),(9,true),(10,true),(11,true),(12,true),(13,true),(14,true),(15,true),(16,true),(17,true),(18,true),(19,true),(20,true),(21,true),(22,false),(23,true),(24,true),(25,true),(26,true),(27,true)] hS ?_;generalize w.drew=W1 at HB hS ⊢
   iterate 22 refine aB rfl ?_
   refine aN rfl rfl (fun K hK=>?_);have hc:=hcon W1 HB.out;unfold Hp.agg at hc;dsimp only at hc
   go_simp;refine hc.mono ?_;rintro e W2 ⟨rfl,b2⟩;have HB2:=hIz (tHn HB.out b2);refine hK _ _ (fun _=>SR.out _ HB2.out) ?_;clear hK K hS hc hcon b2;(try simp only[Act.put,gA,gS,gZ,sA,sZ,sS])
   iterate 5 refine aB rfl ?_
   refine aF ?_;go_wp2;go_ret;exact⟨rfl,HB2.out⟩
  ·rw[nD ht] at l1;have hx:decide (x∈G.X)=false:=decide_eq_false fun hx=>ht (ok.ends x hx).2
   rw[hx];clear hg ho hi ok;go_enter Tryz.func43,Tryz.ntmps43;go_wp2_with fail;refine(dQ w p r q1).mono ?_;rintro e w' ⟨rfl,hw⟩;subst w';go_wp2;go_ret;exact⟨rfl,Below.refl _ _⟩
 ·rw[nD hf] at l0;have hx:decide (x∈G.X)=false:=decide_eq_false fun hx=>hf (ok.ends x hx).1
  rw[hx];clear hg ho ok l1;go_enter Tryz.func43,Tryz.ntmps43;go_wp2_with fail;refine(dQ w p r q1).mono ?_;rintro e w' ⟨rfl,hw⟩;subst w';go_wp2;go_ret;exact⟨rfl,Below.refl _ _⟩
end Go.Proofs.YtddffnonlmfhdaaGreatDoor
