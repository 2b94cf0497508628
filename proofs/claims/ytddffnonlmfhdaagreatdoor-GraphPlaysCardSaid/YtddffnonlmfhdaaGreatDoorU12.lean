/- layer 17's laws: look, is a graph what it must be?; The document's matrices: cells, rising, each once; The document's graph of layer 17: the hops of a node, the walk; The document's graph of layer 17: Hops, New, calls on none; The document's graph of layer 17: Matrix. -/
import Derived.Test.YtddffnonlmfhdaaGreatDoorU11
set_option linter.unusedVariables false
set_option linter.unusedSimpArgs false
set_option maxHeartbeats 16000000
set_option maxRecDepth 100000
namespace Go.Proofs.YtddffnonlmfhdaaGreatDoor
open Go.RowKit
section
set_option maxRecDepth 100000
set_option maxHeartbeats 8000000
def PQ(w:World)(DN:List Txt)(DE:List Ed)(e:Ending)(w':World):Prop:=
 ∃A c B d,e=.returned (bQ A DN.length c B DE.length d)∧w'.ownsRow w.heap.size 9 1 (.slice A DN.length c) DN.length (aC DN)∧w'.ownsRow w.heap.size 32 3 (.slice B DE.length d) DE.length (aH DE)∧Below w.heap.size w w'
theorem DY{w:World}{base base' e e' size size' n n' c c':Nat}{A B:Option Addr}{xs ys:List Value}(h:w.ownsRow base e size (.slice A n c) n xs)(k:w.ownsRow base' e' size' (.slice B n' c') n' ys)(he:e≠e'){q:Nat}(h1:(Value.slice A n c).ownBlock=some q)(h2:(Value.slice B n' c').ownBlock=some q):False:=by
 rcases h.2 with ⟨hv,-⟩|⟨g,cap,cur,hv,hb,hg,-⟩
 ·rw[hv] at h1;simp[Value.ownBlock] at h1
 rcases k.2 with ⟨hv2,-⟩|⟨g2,cap2,cur2,hv2,hb2,hg2,-⟩
 ·rw[hv2] at h2;simp[Value.ownBlock] at h2
 rw[hv] at h1;rw[hv2] at h2;simp only[Value.ownBlock,Option.some.injEq] at h1 h2
 subst h1;subst h2;rw[hg] at hg2;simp at hg2
 exact he hg2.2
theorem uH(w:World)(gv:Value)(b:Bool)(A:Option Addr)(c:Nat)(B:Option Addr)(d:Nat)(N:List Txt)(E:List Ed)(h:dX w A c B d N E)(LB:List Txt)(DN:List Txt)(DE:List Ed)
  (h1:∀W,Below w.heap.size w W→Calls Tryz.prog 40 #[gv] W (Sam W (.tuple #[.int .i64 (N.length:Nat),.int .i64 (E.length:Nat)])))
  (h2:∀W,Below w.heap.size w W→Calls Tryz.prog 37 #[gv] W (jW W N))
  (h3:∀W,Below w.heap.size w W→Calls Tryz.prog 63 #[gv] W (jW W LB))
  (h4:∀W,Below w.heap.size w W→Calls Tryz.prog 64 #[gv] W (PQ W DN DE))
  (h5:jB (ofN N E) (ofE N E)=LB) (h6:ofN N E=DN) (h7:ofE N E=DE) (hN:N.length≤100000) (hE:E.length≤100000) (hL:LB.length≤100000) (hDN:DN.length≤100000) (hDE:DE.length≤100000) (hf:yM DN DE) :
  Calls Tryz.prog 16 #[gv,rgV b A N.length c B E.length d] w (Sam w (.bool true)):=by
 unfold rgV;have h8:=fun (W:World) (k:dX W A c B d N E)=>jO W b A c B d N E k (by omega) (by rw[h6,h7];exact hf)
 have h9:=fun (W:World) (k:dX W A c B d N E)=>tY W b A c B d N E k (by omega)
 rw[h5] at h8;unfold MH at h9;rw[h6,h7] at h9;obtain⟨n,hn⟩:∃n,N.length=n:=⟨_,rfl⟩;obtain⟨m,hm⟩:∃m,E.length=m:=⟨_,rfl⟩;obtain⟨n2,hn2⟩:∃n,LB.length=n:=⟨_,rfl⟩;obtain⟨n3,hn3⟩:∃n,DN.length=n:=⟨_,rfl⟩;obtain⟨n4,hn4⟩:∃n,DE.length=n:=⟨_,rfl⟩;rw[hn] at h1 h8 h9 hN;rw[hm] at h1 h8 h9 hE;rw[hn,hm];have b0:Below w.heap.size w (w.alloc (.cells #[.bool b,.slice A n c,.slice B m d] 29)):=bR.alloc (Nat.le_refl _) _;have k0:=Blk.new w 29 #[.bool b,.slice A n c,.slice B m d];have hz:(w.alloc (.cells #[.bool b,.slice A n c,.slice B m d] 29)).heap.size=w.heap.size+1:=by simp
 have H:=aI10 b0 k0 (h.below b0) hn hm hn2 hn3 hn4 hf hz;have HC:=aI6 h1 h2 h3 h4 h8 h9;rw[hn2] at hL;rw[hn3] at hDN;rw[hn4] at hDE;clear b0 k0 h hn hm hn2 hn3 hn4 h1 h2 h3 h4 h5 h6 h7 h8 h9 hf hz;go_enter Tryz.func16,Tryz.ntmps16;go_upto_region 1 with (fail);generalize w.alloc (.cells #[.bool b,.slice A n c,.slice B m d] 29)=W0 at H ⊢;go_wp2_with fail;refine(HC.out.1 W0 H.out.1).mono ?_;rintro e W1 ⟨rfl,b1⟩;have B1:=hIz (tHn H.out.1 b1);have C1:=hIz b1;clear b1;go_wp2_with fail;refine(HC.out.2.1 W1 B1.out).mono ?_;rintro e W2 ⟨v2,rfl,own1,b2⟩;obtain⟨A1,c1,rfl,hc1,r1⟩:=bS own1;rw[H.out.2.2.2.1] at own1 hc1 ⊢;have B2:=hIz (tHn B1.out b2);have C2:=hIz (tHn C1.out b2);have O1:=aI4 own1 r1 b2 hc1;clear own1 r1 b2 hc1;go_wp2_with fail;refine(HC.out.2.2.1 W2 B2.out).mono ?_;rintro e W3 ⟨v3,rfl,own2,b3⟩;obtain⟨A2,c2,rfl,hc2,r2⟩:=bS own2;rw[H.out.2.2.2.2.2.1] at own2 hc2 ⊢;have B3:=hIz (tHn B2.out b3);have C3:=hIz (tHn C2.out b3);have O2:=aI4 own2 r2 b3 hc2;clear own2 r2 b3 hc2;go_wp2_with fail;refine(HC.out.2.2.2.1 W3 B3.out).mono ?_;rintro e W4 ⟨A3,c3,A4,c4,rfl,own3,own4,b4⟩;have hc3:=eC own3;have hc4:=eC own4;rw[H.out.2.2.2.2.2.2.1] at own3 hc3;rw[H.out.2.2.2.2.2.2.2.1] at own4 hc4;have e3:=H.out.2.2.2.2.2.2.1;have e4:=H.out.2.2.2.2.2.2.2.1;unfold bQ;rw[e3,e4];clear e3 e4;have B4:=hIz (tHn B3.out b4);have C4:=hIz (tHn C3.out b4);have k9:=Blk.new W4 34 #[.slice A3 n3 c3,.slice A4 n4 c4];have b9:Below W4.heap.size W4 (W4.alloc (.cells #[.slice A3 n3 c3,.slice A4 n4 c4] 34)):=bR.alloc (Nat.le_refl _) _
 have hz9:(W4.alloc (.cells #[.slice A3 n3 c3,.slice A4 n4 c4] 34)).heap.size=W4.heap.size+1:=by simp
 have O3:=aI8 own3 own4 b4 hc3 hc4 k9 b9 hz9;clear own3 own4 b4 hc3 hc4 k9 b9 hz9;go_upto_region 3 with (fail);obtain⟨p9,hp9⟩:∃p,W4.heap.size=p:=⟨_,rfl⟩;have b9:=O3.out.2.2.2.2.2.2.1;have B5:=hIz (tHn B4.out b9);have C5:=hIz (tHn C4.out b9);clear b9;have Z1:=aI5 C1.out.size O1.out.2.2.1.size O2.out.2.2.1.size O3.out.2.2.1.size O3.out.2.2.2.2.2.2.2;have D4:=O3.out.2.2.2.2.2.2.1;have D3:=tHn O3.out.2.2.1 D4;have D2:=tHn O2.out.2.2.1 D3;have OW1:=hIz (aA O1.out.1 (upF D2) (fun _ _ h=>h));have OW2:=hIz (aA O2.out.1 (upF D3) (fun _ _ h=>h));have OW3:=hIz (aA O3.out.1 (upF D4) (fun _ _ h=>h));have OW4:=hIz (aA O3.out.2.1 (upF D4) (fun _ _ h=>h));have LT:=aI4 (fun q hq=>(O1.out.1.lt q hq).2) (fun q hq=>(O2.out.1.lt q hq).2) (fun q hq=>(O3.out.1.lt q hq).2) (fun q hq=>(O3.out.2.1.lt q hq).2);clear D2 D3 D4;rw[hp9] at Z1 O3 LT ⊢;generalize W4.alloc (.cells #[.slice A3 n3 c3,.slice A4 n4 c4] 34)=W5 at O3 B5 C5 Z1 OW1 OW2 OW3 OW4 ⊢;have RR:=hIz (show ∀V,Below W5.heap.size W5 V→dX V A c B d N E∧aV V A1 (aC N)∧aV V A2 (aC LB)∧dX V A3 c3 A4 c4 DN DE from fun V hb=>by
  have hf:=(H.out.2.2.1.below C5.out).below hb;refine⟨hf,(aV.of_own OW1.out).below hb,(aV.of_own OW2.out).below hb,⟨(aV.of_own OW3.out).below hb,(aV.of_own OW4.out).below hb,?_,?_,H.out.2.2.2.2.2.2.2.2.1⟩⟩
  ·rw[H.out.2.2.2.2.2.2.1];exact O3.out.2.2.2.1
  ·rw[H.out.2.2.2.2.2.2.2.1];exact O3.out.2.2.2.2.1)
 have SS:=hIz (show ∀V,Below W5.heap.size W5 V→(fun V:World=>V.cell? ⟨w.heap.size,0,none⟩=some (.bool b)∧V.cell? ⟨w.heap.size,1,none⟩=some (.slice A n c)∧V.cell? ⟨w.heap.size,2,none⟩=some (.slice B m d)∧V.cell? ⟨p9,0,none⟩=some (.slice A3 n3 c3)∧V.cell? ⟨p9,1,none⟩=some (.slice A4 n4 c4)) V from fun V hb=>by
  have K9:=O3.out.2.2.2.2.2.1.upd (upF hb) id;have K0:=H.out.2.1.upd (Upd.of_below (tHn C5.out hb) (fun _=>False)) id;exact⟨K0.cell 0,K0.cell 1,K0.cell 2,K9.cell 0,K9.cell 1⟩)
 have BV:=hIz (show Below W5.heap.size W5 W5.drew from bR.drew);have hS:=SS.out _ BV.out;have hnn:((n:Int)==(n:Int))=true:=by simp
 have hmm:((m:Int)==(m:Int))=true:=by simp
 refine aE (fun V:World=>V.cell? ⟨w.heap.size,0,none⟩=some (.bool b)∧V.cell? ⟨w.heap.size,1,none⟩=some (.slice A n c)∧V.cell? ⟨w.heap.size,2,none⟩=some (.slice B m d)∧V.cell? ⟨p9,0,none⟩=some (.slice A3 n3 c3)∧V.cell? ⟨p9,1,none⟩=some (.slice A4 n4 c4)) 31 [(0,true),(1,true),(2,true),(3,true),(4,true),(5,true),(6,true),(7,true),(8,true),(9,true),(10,true),(11,true),(12,true),(13,true),(14,true),(15,true),(16,false),(17,true),(18,true),(19,true),(20,true),(21,false),(22,false),(23,true),(24,true),(25,true),(26,true),(27,false),(28,false),(29,true),(30,true)] hS ?_
 iterate 16 refine aB rfl ?_
 clear hS;have hq:=fun (W:World) (M:List Txt) (X Y:Option Addr) (x y:Nat) (hX:aV W X (aC M)) (hY:aV W Y (aC M)) (a:M.length≤x) (b:M.length≤y) (l:M.length≤100000)=>iB W X x Y y M M hX hY a b (by omega) (by omega)
 have hd1:∀M:List Txt,decide (M=M)=true:=fun M=>decide_eq_true rfl
 simp only[hd1] at hq
 have HQ:=hIz hq;clear hq hd1;(refine cM rfl (by first | with_reducible rfl | kernel_rfl) (fun K hK=>?_);go_simp)
 have hcon:=HQ.out W5.drew N A1 A c1 c (RR.out _ BV.out).2.1 (RR.out _ BV.out).1.rn (by rw[H.out.2.2.2.1];exact O1.out.2.2.2) (RR.out _ BV.out).1.hc (by rw[H.out.2.2.2.1];exact hN);rw[H.out.2.2.2.1] at hcon;refine hcon.mono ?_;clear hcon;rintro e V6 ⟨rfl,b6⟩;have B6:=hIz (tHn BV.out b6);clear b6;refine hK _ _ (fun _=>SS.out _ B6.out) ?_;clear hK K;(try simp only[Act.put,gA,gS,gZ,sA,sZ,sS])
 iterate 4 refine aB rfl ?_
 (refine cM rfl (by first | with_reducible rfl | kernel_rfl) (fun K hK=>?_);go_simp)
 refine(HC.out.2.2.2.2.1 V6 (RR.out _ B6.out).1).mono ?_;rintro e V7 ⟨v7,rfl,own7,b7⟩;obtain⟨A7,c7,rfl,hc7,r7⟩:=bS own7;rw[H.out.2.2.2.2.2.1] at hc7 ⊢;have B7:=hIz (tHn B6.out b7);have R7:=aI2 r7 hc7;clear b7 own7 r7 hc7;refine hK _ _ (fun _=>SS.out _ B7.out) ?_;clear hK K;(try simp only[Act.put,gA,gS,gZ,sA,sZ,sS])
 (refine cM rfl (by first | with_reducible rfl | kernel_rfl) (fun K hK=>?_);go_simp)
 have hcon:=HQ.out V7 LB A2 A7 c2 c7 (RR.out _ B7.out).2.2.1 R7.out.1 (by rw[H.out.2.2.2.2.2.1];exact O2.out.2.2.2) (by rw[H.out.2.2.2.2.2.1];exact R7.out.2) (by rw[H.out.2.2.2.2.2.1];exact hL);rw[H.out.2.2.2.2.2.1] at hcon;refine hcon.mono ?_;clear hcon;rintro e V8 ⟨rfl,b8⟩;have B8:=hIz (tHn B7.out b8);clear b8;refine hK _ _ (fun _=>SS.out _ B8.out) ?_;clear hK K;(try simp only[Act.put,gA,gS,gZ,sA,sZ,sS])
 iterate 4 refine aB rfl ?_
 (refine cM rfl (by first | with_reducible rfl | kernel_rfl) (fun K hK=>?_);go_simp)
 refine(HC.out.2.2.2.2.2 V8 (RR.out _ B8.out).1).mono ?_;rintro e V9 ⟨A9,c9,A10,c10,rfl,own9,own10,b9⟩;have hc9:=eC own9;have hc10:=eC own10;have r9:=aV.of_own own9;have r10:=aV.of_own own10;unfold bQ;have B9:=hIz (tHn B8.out b9);have hsame:=wG V9 A3 c3 A4 c4 DN DE A9 c9 A10 c10 DN DE (RR.out _ B9.out).2.2.2 ⟨r9,r10,hc9,hc10,H.out.2.2.2.2.2.2.2.2.1⟩;have hsb:pH DN DE DN DE=true:=by simp[pH]
 rw[hsb] at hsame;unfold bQ at hsame;rw[H.out.2.2.2.2.2.2.1,H.out.2.2.2.2.2.2.2.1] at hsame;rw[H.out.2.2.2.2.2.2.1,H.out.2.2.2.2.2.2.2.1];have HS9:=hIz hsame;clear b9 own9 own10 hc9 hc10 r9 r10 hsame hsb;refine hK _ _ (fun _=>SS.out _ B9.out) ?_;clear hK K;(try simp only[Act.put,gA,gS,gZ,sA,sZ,sS])
 (refine cM rfl (by first | with_reducible rfl | kernel_rfl) (fun K hK=>?_);go_simp)
 refine HS9.out.mono ?_;clear HS9;rintro e VA ⟨rfl,bA⟩;have BA:=hIz (tHn B9.out bA);clear bA;refine hK _ _ (fun _=>SS.out _ BA.out) ?_;clear hK K;(try simp only[Act.put,gA,gS,gZ,sA,sZ,sS])
 refine aB rfl ?_;refine aB rfl ?_;refine aF ?_;clear hnn hmm;have BW:=hIz (tHn B5.out BA.out);have ow1:=aA OW1.out (upF BA.out) (fun _ _ h=>h);have ow2:=aA OW2.out (upF BA.out) (fun _ _ h=>h);have ow3:=aA OW3.out (upF BA.out) (fun _ _ h=>h);have ow4:=aA OW4.out (upF BA.out) (fun _ _ h=>h);have kk:=O3.out.2.2.2.2.2.1.upd (upF BA.out) id;clear OW1 OW2 OW3 OW4;have OW1:=hIz ow1;have OW2:=hIz ow2;have OW3:=hIz ow3;have OW4:=hIz ow4;have KK:=hIz kk;have ZB:=hIz B1.out.size;clear ow1 ow2 ow3 ow4 kk SS RR HQ HC O1 O2 O3 H BV B6 B7 B8 B9 BA B5 B4 B3 B2 B1 C1 C2 C3 C4 C5 R7;go_wp2_with fail;go_loopw [11] (fun iv wr=>∃k:Nat,k≤n∧iv=.int .i64 (k:Int)∧Hid (Upd (fun q=>(Value.slice A1 n c1).ownBlock=some q) VA wr)∧Hid (∃xs,wr.ownsRow W1.heap.size 9 1 (.slice A1 n c1) n xs)) (fun iv _=>n-(intOf iv).toNat)
 case atStart=>exact⟨0,Nat.zero_le _,rfl,hIz (Upd.refl _ _),hIz ⟨_,OW1.out⟩⟩
 case round =>
  obtain⟨k,hk,rfl,hu,hX⟩:=hrel;by_cases hlt:k<n
  ·have hltI:(k:Int)<(n:Int):=by omega
   have hkw:IntKind.i64.wrap ((k:Int)+1)=(k:Int)+1:=IntWalk.i64_in _ (by omega);obtain⟨xs,ho⟩:=hX.out;obtain⟨g,hg⟩:=lC ho (by omega);rw[hg] at ho hu;obtain⟨v0,x0⟩:=qH ho (i:=k) (by omega);have f0:=dF ho (k);have o1:=(bL ho (i:=k) (by omega) (.string ⟨#[54,54]⟩));have u1:Upd (fun q=>(Value.slice (some ⟨g,0,none⟩) n c1).ownBlock=some q) wr (wr.setCell ⟨g,k,none⟩ (.string ⟨#[54,54]⟩)):=((Upd.refl (fun q=>(Value.slice (some ⟨g,0,none⟩) n c1).ownBlock=some q) wr).setCell (p:=⟨g,k,none⟩) (.inl rfl) _);have HN:=aI2 (hu.out.trans u1 (fun i h=>.inl h)) (Exists.intro _ o1);clear ho o1 u1 hX;go_wp2;go_roundw
   case rel=>exact⟨k+1,by omega,by go_num,by rw[hg];exact hIz HN.out.1,by rw[hg];exact hIz HN.out.2⟩
   case measure=>simp[intOf];omega
  ·have hkn:n=k:=by omega
   have hltI:¬(k:Int)<(n:Int):=by omega
   have HU:=hIz hu.out;clear hu hX hkn;obtain⟨VB,hX⟩:∃W,W=wr:=⟨_,rfl⟩;subst hX;have bw:=BW.out.trans (HU.out.below (fun q _ e=>by have h1:=(OW1.out.lt q e).1;have h2:=Z1.out;have h3:=ZB.out;omega) BW.out.size);have ow2:=aA OW2.out HU.out (fun q hq e=>by have h1:=(OW2.out.lt q hq).1;have h2:=LT.out.1 q e;have h3:=Z1.out;omega);have ow3:=aA OW3.out HU.out (fun q hq e=>by have h1:=(OW3.out.lt q hq).1;have h2:=LT.out.1 q e;have h3:=Z1.out;omega);have ow4:=aA OW4.out HU.out (fun q hq e=>by have h1:=(OW4.out.lt q hq).1;have h2:=LT.out.1 q e;have h3:=Z1.out;omega);have kk:=KK.out.upd HU.out (by intro e;have h2:=LT.out.1 _ e;have h3:=Z1.out;omega);clear OW1 OW2 OW3 OW4 KK BW HU;have OW2:=hIz ow2;have OW3:=hIz ow3;have OW4:=hIz ow4;have KK:=hIz kk;have BW:=hIz bw;clear bw kk ow2 ow3 ow4;clear hlt hk;go_wp2_with fail;clear hltI;go_loopw [12] (fun iv wr=>∃k:Nat,k≤n2∧iv=.int .i64 (k:Int)∧Hid (Upd (fun q=>(Value.slice A2 n2 c2).ownBlock=some q) VB wr)∧Hid (∃xs,wr.ownsRow W2.heap.size 9 1 (.slice A2 n2 c2) n2 xs)) (fun iv _=>n2-(intOf iv).toNat)
   case atStart=>exact⟨0,Nat.zero_le _,rfl,hIz (Upd.refl _ _),hIz ⟨_,OW2.out⟩⟩
   case round =>
    obtain⟨k,hk,rfl,hu,hX⟩:=hrel;by_cases hlt:k<n2
    ·have hltI:(k:Int)<(n2:Int):=by omega
     have hkw:IntKind.i64.wrap ((k:Int)+1)=(k:Int)+1:=IntWalk.i64_in _ (by omega);obtain⟨xs,ho⟩:=hX.out;obtain⟨g,hg⟩:=lC ho (by omega);rw[hg] at ho hu;obtain⟨v0,x0⟩:=qH ho (i:=k) (by omega);have f0:=dF ho (k);have o1:=(bL ho (i:=k) (by omega) (.string ⟨#[54,54]⟩));have u1:Upd (fun q=>(Value.slice (some ⟨g,0,none⟩) n2 c2).ownBlock=some q) wr (wr.setCell ⟨g,k,none⟩ (.string ⟨#[54,54]⟩)):=((Upd.refl (fun q=>(Value.slice (some ⟨g,0,none⟩) n2 c2).ownBlock=some q) wr).setCell (p:=⟨g,k,none⟩) (.inl rfl) _);have HN:=aI2 (hu.out.trans u1 (fun i h=>.inl h)) (Exists.intro _ o1);clear ho o1 u1 hX;go_wp2;go_roundw
     case rel=>exact⟨k+1,by omega,by go_num,by rw[hg];exact hIz HN.out.1,by rw[hg];exact hIz HN.out.2⟩
     case measure=>simp[intOf];omega
    ·have hkn:n2=k:=by omega
     have hltI:¬(k:Int)<(n2:Int):=by omega
     have HU:=hIz hu.out;clear hu hX hkn;obtain⟨VC,hX⟩:∃W,W=wr:=⟨_,rfl⟩;subst hX;have bw:=BW.out.trans (HU.out.below (fun q _ e=>by have h1:=(OW2.out.lt q e).1;have h2:=Z1.out;have h3:=ZB.out;omega) BW.out.size);have ow3:=aA OW3.out HU.out (fun q hq e=>by have h1:=(OW3.out.lt q hq).1;have h2:=LT.out.2.1 q e;have h3:=Z1.out;omega);have ow4:=aA OW4.out HU.out (fun q hq e=>by have h1:=(OW4.out.lt q hq).1;have h2:=LT.out.2.1 q e;have h3:=Z1.out;omega);have kk:=KK.out.upd HU.out (by intro e;have h2:=LT.out.2.1 _ e;have h3:=Z1.out;omega);clear OW2 OW3 OW4 KK BW HU;have OW3:=hIz ow3;have OW4:=hIz ow4;have KK:=hIz kk;have BW:=hIz bw;clear bw kk ow3 ow4;clear hlt hk;go_wp2_with fail;clear hltI;go_loopw [13] (fun iv wr=>∃k:Nat,k≤n3∧iv=.int .i64 (k:Int)∧Hid (Upd (fun q=>(Value.slice A3 n3 c3).ownBlock=some q) VC wr)∧Hid (∃xs,wr.ownsRow W3.heap.size 9 1 (.slice A3 n3 c3) n3 xs)) (fun iv _=>n3-(intOf iv).toNat)
     case atStart=>exact⟨0,Nat.zero_le _,rfl,hIz (Upd.refl _ _),hIz ⟨_,OW3.out⟩⟩
     case round =>
      obtain⟨k,hk,rfl,hu,hX⟩:=hrel;have KP:=hIz (KK.out.upd hu.out (by intro e;have h2:=LT.out.2.2.1 _ e;omega));have e0:wr.cell? ⟨p9,0,none⟩=some (.slice A3 n3 c3):=KP.out.cell 0;have e1:wr.cell? ⟨p9,1,none⟩=some (.slice A4 n4 c4):=KP.out.cell 1;by_cases hlt:k<n3
      ·have hltI:(k:Int)<(n3:Int):=by omega
       have hkw:IntKind.i64.wrap ((k:Int)+1)=(k:Int)+1:=IntWalk.i64_in _ (by omega);obtain⟨xs,ho⟩:=hX.out;obtain⟨g,hg⟩:=lC ho (by omega);rw[hg] at ho hu e0;obtain⟨v0,x0⟩:=qH ho (i:=k) (by omega);have f0:=dF ho (k);have o1:=(bL ho (i:=k) (by omega) (.string ⟨#[54,54]⟩));have u1:Upd (fun q=>(Value.slice (some ⟨g,0,none⟩) n3 c3).ownBlock=some q) wr (wr.setCell ⟨g,k,none⟩ (.string ⟨#[54,54]⟩)):=((Upd.refl (fun q=>(Value.slice (some ⟨g,0,none⟩) n3 c3).ownBlock=some q) wr).setCell (p:=⟨g,k,none⟩) (.inl rfl) _);have HN:=aI2 (hu.out.trans u1 (fun i h=>.inl h)) (Exists.intro _ o1);clear ho o1 u1 hX;go_wp2;go_roundw
       case rel=>exact⟨k+1,by omega,by go_num,by rw[hg];exact hIz HN.out.1,by rw[hg];exact hIz HN.out.2⟩
       case measure=>simp[intOf];omega
      ·have hkn:n3=k:=by omega
       have hltI:¬(k:Int)<(n3:Int):=by omega
       have HU:=hIz hu.out;clear hu hX hkn;obtain⟨VD,hX⟩:∃W,W=wr:=⟨_,rfl⟩;subst hX;have bw:=BW.out.trans (HU.out.below (fun q _ e=>by have h1:=(OW3.out.lt q e).1;have h2:=Z1.out;have h3:=ZB.out;omega) BW.out.size);have ow4:=aA OW4.out HU.out (fun q hq e=>DY OW3.out OW4.out (by decide) e hq);have kk:=KK.out.upd HU.out (by intro e;have h2:=LT.out.2.2.1 _ e;have h3:=Z1.out;omega);clear OW3 OW4 KK BW HU KP;have OW4:=hIz ow4;have KK:=hIz kk;have BW:=hIz bw;clear bw kk ow4;clear hlt hk;go_wp2_with fail;clear hltI e0 e1;go_loopw [14] (fun iv wr=>∃k:Nat,k≤n4∧iv=.int .i64 (k:Int)∧Hid (Upd (fun q=>(Value.slice A4 n4 c4).ownBlock=some q) VD wr)∧Hid (∃xs,wr.ownsRow W3.heap.size 32 3 (.slice A4 n4 c4) n4 xs)) (fun iv _=>n4-(intOf iv).toNat)
       case atStart=>exact⟨0,Nat.zero_le _,rfl,hIz (Upd.refl _ _),hIz ⟨_,OW4.out⟩⟩
       case round =>
        obtain⟨k,hk,rfl,hu,hX⟩:=hrel;have KP:=hIz (KK.out.upd hu.out (by intro e;have h2:=LT.out.2.2.2 _ e;omega));have e0:wr.cell? ⟨p9,0,none⟩=some (.slice A3 n3 c3):=KP.out.cell 0;have e1:wr.cell? ⟨p9,1,none⟩=some (.slice A4 n4 c4):=KP.out.cell 1;by_cases hlt:k<n4
        ·have hltI:(k:Int)<(n4:Int):=by omega
         have hkw:IntKind.i64.wrap ((k:Int)+1)=(k:Int)+1:=IntWalk.i64_in _ (by omega);obtain⟨xs,ho⟩:=hX.out;obtain⟨g,hg⟩:=lC ho (by omega);rw[hg] at ho hu e1;obtain⟨v0,x0⟩:=qH ho (i:=k*3) (by omega);obtain⟨v1,x1⟩:=qH ho (i:=k*3+1) (by omega);obtain⟨v2,x2⟩:=qH ho (i:=k*3+2) (by omega);have f0:=dF ho (k*3);have f1:=dF ho (k*3+1);have f2:=dF ho (k*3+2);have o1:=(bL (bL (bL ho (i:=k*3) (by omega) (.string ⟨#[]⟩)) (i:=k*3+1) (by omega) (.string ⟨#[]⟩)) (i:=k*3+2) (by omega) (.string ⟨#[]⟩));have u1:Upd (fun q=>(Value.slice (some ⟨g,0,none⟩) n4 c4).ownBlock=some q) wr (((wr.setCell ⟨g,k*3,none⟩ (.string ⟨#[]⟩)).setCell ⟨g,k*3+1,none⟩ (.string ⟨#[]⟩)).setCell ⟨g,k*3+2,none⟩ (.string ⟨#[]⟩)):=((((Upd.refl (fun q=>(Value.slice (some ⟨g,0,none⟩) n4 c4).ownBlock=some q) wr).setCell (p:=⟨g,k*3,none⟩) (.inl rfl) _).setCell (p:=⟨g,k*3+1,none⟩) (.inl rfl) _).setCell (p:=⟨g,k*3+2,none⟩) (.inl rfl) _);have HN:=aI2 (hu.out.trans u1 (fun i h=>.inl h)) (Exists.intro _ o1);clear ho o1 u1 hX;go_wp2;go_roundw
         case rel=>exact⟨k+1,by omega,by go_num,by rw[hg];exact hIz HN.out.1,by rw[hg];exact hIz HN.out.2⟩
         case measure=>simp[intOf];omega
        ·have hkn:n4=k:=by omega
         have hltI:¬(k:Int)<(n4:Int):=by omega
         have HU:=hIz hu.out;clear hu hX hkn;obtain⟨VE,hX⟩:∃W,W=wr:=⟨_,rfl⟩;subst hX;have bw:=BW.out.trans (HU.out.below (fun q _ e=>by have h1:=(OW4.out.lt q e).1;have h2:=Z1.out;have h3:=ZB.out;omega) BW.out.size);have FIN:=hIz bw;clear bw;go_wp2;go_ret;exact⟨rfl,FIN.out⟩
end
open Go.RowKit
theorem qI(W:World)(x y:Nat × Nat):(Op.equal 83 (.agg #[.int .i64 (x.1:Int),.int .i64 (x.2:Int)]) (.agg #[.int .i64 (y.1:Int),.int .i64 (y.2:Int)])).run Tryz.prog W=.ok (decide (x=y)) W:=by
 obtain⟨a0,a1⟩:=x;obtain⟨b0,b1⟩:=y;dsimp only
 have hs:Tryz.prog.underlying 83=some (.struct (Tryz.prog.fieldsOf 83)):=by kernel_rfl
 have h9:=fun a b=>run_equalIn_int (P:=Tryz.prog) W 9998 3 .i64 .i64 a b Tryz.underlying3
 have pa:=tW W a0 a1;have pb:=tW W b0 b1;have hd:decide (((a0,a1):Nat × Nat)=(b0,b1))=((a0:Int)==(b0:Int)&&(a1:Int)==(b1:Int)):=by
  rw[Bool.eq_iff_iff];simp
  omega
 rw[hd];show(Op.equalIn (9999+1) _ _ _).run _ _=_
 rw[run_equalIn_struct (P:=Tryz.prog) W 9999 _ _ _ hs zI];simp only[Program.fieldsOf,Tryz.underlying83,Op.eqFields]
 rw[if_pos (by decide),if_pos (by decide)];simp only[Sem.run_bind,pa 0 a0 rfl,pb 0 b0 rfl,h9,Result.andThen_ok]
 cases (a0:Int)==(b0:Int)
 ·simp
 ·simp only[Bool.not_true,Bool.false_eq_true,if_false,Sem.run_bind,pa 1 a1 rfl,pb 1 b1 rfl,h9,Result.andThen_ok,Bool.true_and]
  cases (a1:Int)==(b1:Int) <;> simp
theorem IR(W:World)(x y:Nat × Nat):(binOp .eql 83 (.agg #[.int .i64 (x.1:Int),.int .i64 (x.2:Int)]) (.agg #[.int .i64 (y.1:Int),.int .i64 (y.2:Int)])).run Tryz.prog W=.ok (.bool (decide (x=y))) W:=by
 have e:=qI W x y;simp only[binOp]
 simp[e]
theorem lD(W:World)(x y:Nat × Nat):(binOp .neq 83 (.agg #[.int .i64 (x.1:Int),.int .i64 (x.2:Int)]) (.agg #[.int .i64 (y.1:Int),.int .i64 (y.2:Int)])).run Tryz.prog W=.ok (.bool (!decide (x=y))) W:=by
 have e:=qI W x y;simp only[binOp]
 simp[e]
theorem uI:(Tryz.prog.info? 83).map (fun i=>(i.zero,i.size,i.bytes))=some (some (.agg #[.int .i64 0,.int .i64 0]),2,16):=by kernel_rfl
theorem mB(w:World)(base:Nat)(v:Value)(L:List (Nat × Nat))(own:w.ownsRow base 83 2 v L.length (aY L))(x:Nat × Nat)(hl:(L.length+1)*16≤140737488355328)(hb:base≤w.heap.size) :
  ∃v' w',(Builtin.append_ #[58,58] 58 #[v,.slice (some ⟨w.heap.size,0,none⟩) 1 1]).run Tryz.prog (w.alloc (.cells #[.int .i64 (x.1:Int),.int .i64 (x.2:Int)] 83))=.ok v' w'∧w'.ownsRow base 83 2 v' (L++[x]).length (aY (L++[x]))∧Upd (fun k=>v.ownBlock=some k) w w'∧∀k,v'.ownBlock=some k→v.ownBlock=some k∨w.heap.size≤k:=by
 obtain⟨v',w',happ,own',up,pl⟩:=eV w base 58 83 2 16 _ Tryz.underlying58 uI rfl (by decide) v L.length _ own [.int .i64 (x.1:Int),.int .i64 (x.2:Int)] 1 rfl (by simp;exact⟨rfl,rfl⟩) hl (by unfold maxLen;omega) hb;refine⟨v',w',happ,?_,up,pl⟩;rw[List.length_append,jM];simpa[aY,ceC] using own'
theorem MO(L:List (Nat × Nat)):∀u∈aY L,u.oneCell'=true:=by
 intro u hu;obtain⟨x,-,hx⟩:=List.mem_flatMap.1 hu;exact OI x u hx
theorem aV.take_ce{w:World}{A:Option Addr}{N:List (Nat × Nat)}(h:aV w A (aY N))(k:Nat):aV w A (aY (N.take k)):=fun j u hj=>by
 refine h j u ?_;have e:aY N=aY (N.take k)++aY (N.drop k):=by rw[← jM,List.take_append_drop]
 rw[e,List.getElem?_append_left (gO.1 hj).1];exact hj
theorem aV.drop_ce{w:World}{ab ao:Nat}{N:List (Nat × Nat)}(h:aV w (some ⟨ab,ao,none⟩) (aY N))(k:Nat)(hk:k≤N.length):aV w (some ⟨ab,ao+k*2,none⟩) (aY (N.drop k)):=fun j u hj=>by
 have e:aY N=aY (N.take k)++aY (N.drop k):=by rw[← jM,List.take_append_drop]
 have l:(aY (N.take k)).length=k*2:=by rw[oN,List.length_take];omega
 obtain⟨b,o,e2,x⟩:=h (k*2+j) u (by rw[e,List.getElem?_append_right (by rw[l];omega),l,Nat.add_sub_cancel_left];exact hj);injection e2 with e2;injection e2 with e1 e3;subst e1;subst e3;exact⟨ab,ao+k*2,rfl,by rw[Nat.add_assoc];exact x⟩
theorem IS(x y:Nat × Nat)(w:World):Calls Tryz.prog 174 #[.agg #[.int .i64 (x.1:Int),.int .i64 (x.2:Int)],.agg #[.int .i64 (y.1:Int),.int .i64 (y.2:Int)]] w (Sam w (.bool (iD x y))):=by
 obtain⟨a0,a1⟩:=x;obtain⟨b0,b1⟩:=y;dsimp only
 obtain⟨r,hr⟩:∃r,iD (a0,a1) (b0,b1)=r:=⟨_,rfl⟩;rw[hr];have hr2:r=(decide (a0<b0)||(a0==b0&&decide (a1<b1))):=by
  rw[← hr];rw[Bool.eq_iff_iff,lB];unfold ltC;simp
 have HR:=hIz hr2;clear hr hr2;have k0:=(Blk.new w 83 #[.int .i64 (a0:Int),.int .i64 (a1:Int)]).alloc (.cells #[.int .i64 (b0:Int),.int .i64 (b1:Int)] 83);have k1:=Blk.new (w.alloc (.cells #[.int .i64 (a0:Int),.int .i64 (a1:Int)] 83)) 83 #[.int .i64 (b0:Int),.int .i64 (b1:Int)];simp only[World.size_alloc] at k1
 have bb:Below w.heap.size w ((w.alloc (.cells #[.int .i64 (a0:Int),.int .i64 (a1:Int)] 83)).alloc (.cells #[.int .i64 (b0:Int),.int .i64 (b1:Int)] 83)):=by(repeat (first | exact Below.refl _ _ | apply Below.drew | refine Below.alloc ?_ (by first | exact Nat.le_refl _ | (simp;done) | (simp;omega)) _ | refine Below.setCell ?_ (by first | exact Nat.le_refl _ | (simp;done) | (simp;omega)) _))
 have HK:=aI3 k0 k1 bb;clear k0 k1 bb;go_enter Tryz.func174,Tryz.ntmps174;go_upto_region 1 with (fail);generalize (w.alloc (.cells #[.int .i64 (a0:Int),.int .i64 (a1:Int)] 83)).alloc (.cells #[.int .i64 (b0:Int),.int .i64 (b1:Int)] 83)=W0 at HK ⊢;have c00:W0.cell? ⟨w.heap.size,0,none⟩=some (.int .i64 (a0:Int)):=HK.out.1.cell 0;have c01:W0.cell? ⟨w.heap.size,1,none⟩=some (.int .i64 (a1:Int)):=HK.out.1.cell 1;have c10:W0.cell? ⟨w.heap.size+1,0,none⟩=some (.int .i64 (b0:Int)):=HK.out.2.1.cell 0;have c11:W0.cell? ⟨w.heap.size+1,1,none⟩=some (.int .i64 (b1:Int)):=HK.out.2.1.cell 1;rcases Nat.lt_trichotomy a0 b0 with e1|e1|e1
 ·have i1:(a0:Int)<(b0:Int):=by omega
  have i2:r=true:=by rw[HR.out,decide_eq_true e1];rfl
  clear e1;subst i2;go_wp2;go_ret;exact⟨rfl,HK.out.2.2⟩
 ·subst e1;have i1:¬(a0:Int)<(a0:Int):=by omega
  have i2:((a0:Int)==(a0:Int))=true:=by simp
  have i4:r=decide (a1<b1):=by rw[HR.out];simp
  by_cases e3:a1<b1
  ·have i3:(a1:Int)<(b1:Int):=by omega
   have i5:r=true:=by rw[i4,decide_eq_true e3]
   clear i4 e3;subst i5;go_wp2;go_ret;exact⟨rfl,HK.out.2.2⟩
  ·have i3:¬(a1:Int)<(b1:Int):=by omega
   have i5:r=false:=by rw[i4,decide_eq_false e3]
   clear i4 e3;subst i5;go_wp2;go_ret;exact⟨rfl,HK.out.2.2⟩
 ·have i1:¬(a0:Int)<(b0:Int):=by omega
  have i2:((a0:Int)==(b0:Int))=false:=by simp;omega
  have i5:r=false:=by
   rw[HR.out,decide_eq_false (by omega:¬a0<b0),show(a0==b0)=false by simp;omega];rfl
  clear e1;subst i5;go_wp2;go_ret;exact⟨rfl,HK.out.2.2⟩
def NC(w:World)(L:List (Nat × Nat))(e:Ending)(w':World):Prop:=∃v,e=.returned v∧w'.ownsRow w.heap.size 83 2 v L.length (aY L)∧Below w.heap.size w w'
def QD(w:World)(L:List (Nat × Nat))(e:Ending)(w':World):Prop:=∃A c b,e=.returned (.tuple #[.slice A L.length c,.bool b])∧w'.ownsRow w.heap.size 83 2 (.slice A L.length c) L.length (aY L)∧Below w.heap.size w w'
theorem zL(W2:World)(A1:Option Addr)(c1:Nat)(A2:Option Addr)(c2:Nat)(P Q:List (Nat × Nat))(hA:aV W2 A1 (aY P))(hB:aV W2 A2 (aY Q))(hl:(P.length+Q.length)*16≤140737488355328) :
  Calls Tryz.prog 142 #[.slice A1 P.length c1,.slice A2 Q.length c2] W2 (QD W2 (mrg iD P Q)):=by
 obtain⟨n,hn⟩:∃n,P.length=n:=⟨_,rfl⟩;obtain⟨m,hm⟩:∃m,Q.length=m:=⟨_,rfl⟩;rw[hn,hm] at hl ⊢;have HR:=aI2 hA hB;have HL:=aI2 hn hm;clear hA hB hn hm;go_enter Tryz.func142,Tryz.ntmps142;go_wp2_with fail;go_loopw [6,7,8,9] (fun v mv i j wr=>∃(p q:Nat) (L:List (Nat × Nat)) (mb:Bool),p≤n∧q≤m∧mv=.bool mb∧i=.int .i64 p∧j=.int .i64 q∧L.length≤p+q∧Hid (L++mrg iD (P.drop p) (Q.drop q)=mrg iD P Q)∧Hid (Below W2.heap.size W2 wr)∧Hid (wr.ownsRow W2.heap.size 83 2 v L.length (aY L))) (fun _ _ i j _=>(n-(intOf i).toNat)+(m-(intOf j).toNat))
 case atStart=>exact⟨0,0,[],false,Nat.zero_le _,Nat.zero_le _,rfl,rfl,rfl,Nat.le_refl _,hIz (by simp),hIz bR,hIz (World.ownsRow_nil _ _ _ _)⟩
 case round =>
  obtain⟨p,q,L,mb,hp,hq,rfl,rfl,rfl,hL,hI,hbw,how⟩:=hrel;have hpw:IntKind.i64.wrap ((p:Int)+1)=(p:Int)+1:=IntWalk.i64_in _ (by omega);have hqw:IntKind.i64.wrap ((q:Int)+1)=(q:Int)+1:=IntWalk.i64_in _ (by omega);by_cases hpn:p<n
  ·have hpI:(p:Int)<(n:Int):=by omega
   obtain⟨⟨x1,x2⟩,hx⟩:∃z,P[p]?=some z:=⟨P[p]'(by rw[HL.out.1];assumption),gEz _⟩;obtain⟨ab,ao,rfl,xa,xb⟩:=(HR.out.1.below hbw.out).ce hx;dsimp only at xa xb
   by_cases hqm:q<m
   ·have hqI:(q:Int)<(m:Int):=by omega
    have hqne:((q:Int)==(m:Int))=false:=by simp;omega
    obtain⟨⟨y1,y2⟩,hy⟩:∃z,Q[q]?=some z:=⟨Q[q]'(by rw[HL.out.2];assumption),gEz _⟩;obtain⟨bb,bo,rfl,ya,yb⟩:=(HR.out.2.below hbw.out).ce hy;dsimp only at ya yb
    have hbf:=fun W=>IS (x1,x2) (y1,y2) W
    obtain⟨v0,hv⟩:∃b,iD (x1,x2) (y1,y2)=b:=⟨_,rfl⟩;rw[hv] at hbf;dsimp only at hbf
    have HBF:=hIz hbf;have HV:=hIz hv;clear hbf hv;have hS:wr.drew.cell? ⟨ab,ao+p*2,none⟩=some (.int .i64 (x1:Int))∧wr.drew.cell? ⟨ab,ao+p*2+1,none⟩=some (.int .i64 (x2:Int))∧wr.drew.cell? ⟨bb,bo+q*2,none⟩=some (.int .i64 (y1:Int))∧wr.drew.cell? ⟨bb,bo+q*2+1,none⟩=some (.int .i64 (y2:Int)):=⟨xa,xb,ya,yb⟩;go_upto_region 5 with (fail);refine aE (fun w'=>w'.cell? ⟨ab,ao+p*2,none⟩=some (.int .i64 (x1:Int))∧w'.cell? ⟨ab,ao+p*2+1,none⟩=some (.int .i64 (x2:Int))∧w'.cell? ⟨bb,bo+q*2,none⟩=some (.int .i64 (y1:Int))∧w'.cell? ⟨bb,bo+q*2+1,none⟩=some (.int .i64 (y2:Int))) 21 [(0,true),(1,true),(2,true),(3,true),(4,true),(5,true),(6,true),(7,true),(8,true),(9,true),(10,true),(11,true),(12,true),(13,true),(14,true),(15,true),(16,true),(17,true),(18,false),(19,true),(20,true)] hS ?_
    iterate 18 refine aB rfl ?_
    (refine cM rfl (by first | with_reducible rfl | kernel_rfl) (fun K hK=>?_);go_simp)
    refine(HBF.out wr.drew).mono ?_;rintro e W5 ⟨rfl,b5⟩;have bW5:Below wr.heap.size wr W5:=(Below.refl wr.heap.size wr).drew.trans b5;have xa5:=(bW5.cell (World.block_lt_of_cell? _ _ xa)).trans xa;have xb5:=(bW5.cell (World.block_lt_of_cell? _ _ xb)).trans xb;have ya5:=(bW5.cell (World.block_lt_of_cell? _ _ ya)).trans ya;have yb5:=(bW5.cell (World.block_lt_of_cell? _ _ yb)).trans yb;have own5:=aA how.out (upF bW5) (fun _ _ h=>h);have bb5:=tHn hbw.out bW5;have HB5:=aI3 bW5 own5 bb5;clear own5 bb5 bW5 b5;refine hK _ _ (fun _=>⟨xa5,xb5,ya5,yb5⟩) ?_;clear hK K hS;(try simp only[Act.put,gA,gS,gZ,sA,sZ,sS])
    cases v0 with
    | true =>
     refine aB rfl ?_;refine aB rfl ?_;refine aF ?_;have bb5:=HB5.out.2.2;have own5:=HB5.out.2.1;obtain⟨v6,w6,happ,own6,u6,-⟩:=mB W5 W2.heap.size _ L own5 (x1,x2) (by omega) bb5.size;have HN:=aI2 (bb5.trans (u6.below (fun k _ e=>(own5.lt k e).1) bb5.size)) own6;dsimp only at happ
     have HI:=hIz (show(L++[((x1,x2):Nat × Nat)])++mrg iD (P.drop (p+1)) (Q.drop (q))=mrg iD P Q by
      rw[← hI.out,gG hx (.inr ⟨_,hy,HV.out⟩)];simp)
     clear hI hx hy own6 own5 bb5 u6;clear xa xb ya yb;clear ya5 yb5;go_wp2_with (at_builtin;refine wpList_append_run rfl _ _ _ rfl rfl rfl happ ?_);go_roundw
     case rel=>exact⟨p+1,q,L++[((x1,x2):Nat × Nat)],_,by omega,by omega,rfl,by go_num,by go_num,by simp;omega,HI,hIz HN.out.1,hIz HN.out.2⟩
     case measure=>simp[intOf];omega
    | false =>
     refine aB rfl ?_;refine aB rfl ?_;refine aF ?_;have bb5:=HB5.out.2.2;have own5:=HB5.out.2.1;have heq:=fun W=>IR W (x1,x2) (y1,y2)
     dsimp only at heq
     by_cases he:((x1,x2):Nat × Nat)=((y1,y2):Nat × Nat)
     ·rw[decide_eq_true he] at heq;have HE:=hIz he;clear he;have hS:W5.drew.cell? ⟨ab,ao+p*2,none⟩=some (.int .i64 (x1:Int))∧W5.drew.cell? ⟨ab,ao+p*2+1,none⟩=some (.int .i64 (x2:Int))∧W5.drew.cell? ⟨bb,bo+q*2,none⟩=some (.int .i64 (y1:Int))∧W5.drew.cell? ⟨bb,bo+q*2+1,none⟩=some (.int .i64 (y2:Int)):=⟨xa5,xb5,ya5,yb5⟩;go_upto_region 8 with (fail);refine aE (fun w'=>w'.cell? ⟨ab,ao+p*2,none⟩=some (.int .i64 (x1:Int))∧w'.cell? ⟨ab,ao+p*2+1,none⟩=some (.int .i64 (x2:Int))∧w'.cell? ⟨bb,bo+q*2,none⟩=some (.int .i64 (y1:Int))∧w'.cell? ⟨bb,bo+q*2+1,none⟩=some (.int .i64 (y2:Int))) 15 [(0,true),(1,true),(2,true),(3,true),(4,true),(5,true),(6,true),(7,true),(8,true),(9,true),(10,true),(11,true),(12,true),(13,true),(14,true)] hS ?_
      iterate 15 refine aB rfl ?_
      refine aF ?_;clear hS;obtain⟨W6,hW6⟩:∃W,W=W5.drew:=⟨_,rfl⟩;have bW6:Below W5.heap.size W5 W6:=by rw[hW6];exact bR.drew
      rw[← hW6];have ya7:=(bW6.cell (World.block_lt_of_cell? _ _ ya5)).trans ya5;have yb7:=(bW6.cell (World.block_lt_of_cell? _ _ yb5)).trans yb5;have own7:=aA own5 (upF bW6) (fun _ _ h=>h);have bb7:=tHn bb5 bW6;obtain⟨v6,w6,happ,own6,u6,-⟩:=mB W6 W2.heap.size _ L own7 (y1,y2) (by omega) bb7.size;have HN:=aI2 (bb7.trans (u6.below (fun k _ e=>(own7.lt k e).1) bb7.size)) own6;dsimp only at happ
      have HI:=hIz (show(L++[((y1,y2):Nat × Nat)])++mrg iD (P.drop (p+1)) (Q.drop (q+1))=mrg iD P Q by
       rw[← hI.out,qQ NB (by rw[← HE.out];exact hx) hy];simp)
      clear hI hx hy own6 own5 bb5 own7 bb7 hW6 bW6 heq u6;clear xa xb ya yb;clear xa5 xb5 ya5 yb5;go_wp2_with (at_builtin;refine wpList_append_run rfl _ _ _ rfl rfl rfl happ ?_);go_roundw
      case rel=>exact⟨p+1,q+1,L++[((y1,y2):Nat × Nat)],_,by omega,by omega,rfl,by go_num,by go_num,by simp;omega,HI,hIz HN.out.1,hIz HN.out.2⟩
      case measure=>simp[intOf];omega
     ·rw[decide_eq_false he] at heq;have HE:=hIz he;clear he;have hS:W5.drew.cell? ⟨ab,ao+p*2,none⟩=some (.int .i64 (x1:Int))∧W5.drew.cell? ⟨ab,ao+p*2+1,none⟩=some (.int .i64 (x2:Int))∧W5.drew.cell? ⟨bb,bo+q*2,none⟩=some (.int .i64 (y1:Int))∧W5.drew.cell? ⟨bb,bo+q*2+1,none⟩=some (.int .i64 (y2:Int)):=⟨xa5,xb5,ya5,yb5⟩;go_upto_region 8 with (fail);refine aE (fun w'=>w'.cell? ⟨ab,ao+p*2,none⟩=some (.int .i64 (x1:Int))∧w'.cell? ⟨ab,ao+p*2+1,none⟩=some (.int .i64 (x2:Int))∧w'.cell? ⟨bb,bo+q*2,none⟩=some (.int .i64 (y1:Int))∧w'.cell? ⟨bb,bo+q*2+1,none⟩=some (.int .i64 (y2:Int))) 15 [(0,true),(1,true),(2,true),(3,true),(4,true),(5,true),(6,true),(7,true),(8,true),(9,true),(10,true),(11,true),(12,true),(13,true),(14,true)] hS ?_
      iterate 15 refine aB rfl ?_
      refine aF ?_;clear hS;obtain⟨W6,hW6⟩:∃W,W=W5.drew:=⟨_,rfl⟩;have bW6:Below W5.heap.size W5 W6:=by rw[hW6];exact bR.drew
      rw[← hW6];have ya7:=(bW6.cell (World.block_lt_of_cell? _ _ ya5)).trans ya5;have yb7:=(bW6.cell (World.block_lt_of_cell? _ _ yb5)).trans yb5;have own7:=aA own5 (upF bW6) (fun _ _ h=>h);have bb7:=tHn bb5 bW6;obtain⟨v6,w6,happ,own6,u6,-⟩:=mB W6 W2.heap.size _ L own7 (y1,y2) (by omega) bb7.size;have HN:=aI2 (bb7.trans (u6.below (fun k _ e=>(own7.lt k e).1) bb7.size)) own6;dsimp only at happ
      have HI:=hIz (show(L++[((y1,y2):Nat × Nat)])++mrg iD (P.drop (p)) (Q.drop (q+1))=mrg iD P Q by
       rw[← hI.out,gH hy (.inr ⟨_,hx,HV.out,HE.out⟩)];simp)
      clear hI hx hy own6 own5 bb5 own7 bb7 hW6 bW6 heq u6;clear xa xb ya yb;clear xa5 xb5 ya5 yb5;go_wp2_with (at_builtin;refine wpList_append_run rfl _ _ _ rfl rfl rfl happ ?_);go_roundw
      case rel=>exact⟨p,q+1,L++[((y1,y2):Nat × Nat)],_,by omega,by omega,rfl,by go_num,by go_num,by simp;omega,HI,hIz HN.out.1,hIz HN.out.2⟩
      case measure=>simp[intOf];omega
   ·obtain rfl:q=m:=by omega
    have hqe:((q:Int)==(q:Int))=true:=by simp
    have hS:wr.drew.cell? ⟨ab,ao+p*2,none⟩=some (.int .i64 (x1:Int))∧wr.drew.cell? ⟨ab,ao+p*2+1,none⟩=some (.int .i64 (x2:Int)):=⟨xa,xb⟩;go_upto_region 5 with (fail);refine aE (fun w'=>w'.cell? ⟨ab,ao+p*2,none⟩=some (.int .i64 (x1:Int))∧w'.cell? ⟨ab,ao+p*2+1,none⟩=some (.int .i64 (x2:Int))) 21 [(0,true),(1,true),(2,true),(3,true),(4,true),(5,true),(6,true),(7,true),(8,true),(9,true),(10,true),(11,true),(12,true),(13,true),(14,true),(15,true),(16,true),(17,true),(18,false),(19,true),(20,true)] hS ?_
    iterate 5 refine aB rfl ?_
    iterate 13 (refine cE rfl (by kernel_rfl) ?_;(try simp only[Act.put,gA,gS,gZ,sA,sZ,sS]))
    (refine gI rfl (by kernel_rfl) (by first | assumption | trivial | exact UP.out _ H5.out) ?_;(try simp only[Act.put,gA,gS,gZ,sA,sZ,sS]))
    (refine cE rfl (by kernel_rfl) ?_;(try simp only[Act.put,gA,gS,gZ,sA,sZ,sS]))
    refine aB rfl ?_;refine aF ?_;clear hS;obtain⟨W5,hW5⟩:∃W,W=wr.drew:=⟨_,rfl⟩;have bW5:Below wr.heap.size wr W5:=by rw[hW5];exact bR.drew
    rw[← hW5];have xa5:=(bW5.cell (World.block_lt_of_cell? _ _ xa)).trans xa;have xb5:=(bW5.cell (World.block_lt_of_cell? _ _ xb)).trans xb;have own5:=aA how.out (upF bW5) (fun _ _ h=>h);have bb5:=tHn hbw.out bW5;obtain⟨v6,w6,happ,own6,u6,-⟩:=mB W5 W2.heap.size _ L own5 (x1,x2) (by omega) bb5.size;have HN:=aI2 (bb5.trans (u6.below (fun k _ e=>(own5.lt k e).1) bb5.size)) own6;dsimp only at happ
    have HI:=hIz (show(L++[((x1,x2):Nat × Nat)])++mrg iD (P.drop (p+1)) (Q.drop (q))=mrg iD P Q by
     rw[← hI.out,gG hx (.inl (by rw[HL.out.2];exact Nat.le_refl _))];simp)
    clear hI hx own6 own5 bb5 hW5 bW5 u6;clear xa xb;go_wp2_with (at_builtin;refine wpList_append_run rfl _ _ _ rfl rfl rfl happ ?_);go_roundw
    case rel=>exact⟨p+1,q,L++[((x1,x2):Nat × Nat)],_,by omega,by omega,rfl,by go_num,by go_num,by simp;omega,HI,hIz HN.out.1,hIz HN.out.2⟩
    case measure=>simp[intOf];omega
  ·obtain rfl:p=n:=by omega
   by_cases hqm:q<m
   ·have hqI:(q:Int)<(m:Int):=by omega
    have hqne:((q:Int)==(m:Int))=false:=by simp;omega
    obtain⟨⟨y1,y2⟩,hy⟩:∃z,Q[q]?=some z:=⟨Q[q]'(by rw[HL.out.2];assumption),gEz _⟩;obtain⟨bb,bo,rfl,ya,yb⟩:=(HR.out.2.below hbw.out).ce hy;dsimp only at ya yb
    have hS:wr.drew.cell? ⟨bb,bo+q*2,none⟩=some (.int .i64 (y1:Int))∧wr.drew.cell? ⟨bb,bo+q*2+1,none⟩=some (.int .i64 (y2:Int)):=⟨ya,yb⟩;go_upto_region 5 with (fail);refine aE (fun w'=>w'.cell? ⟨bb,bo+q*2,none⟩=some (.int .i64 (y1:Int))∧w'.cell? ⟨bb,bo+q*2+1,none⟩=some (.int .i64 (y2:Int))) 21 [(0,true),(1,true),(2,true),(3,true),(4,true),(5,true),(6,true),(7,true),(8,true),(9,true),(10,true),(11,true),(12,true),(13,true),(14,true),(15,true),(16,true),(17,true),(18,false),(19,true),(20,true)] hS ?_
    iterate 10 refine aB rfl ?_
    iterate 8 (refine cE rfl (by kernel_rfl) ?_;(try simp only[Act.put,gA,gS,gZ,sA,sZ,sS]))
    (refine gI rfl (by kernel_rfl) (by first | assumption | trivial | exact UP.out _ H5.out) ?_;(try simp only[Act.put,gA,gS,gZ,sA,sZ,sS]))
    refine aB rfl ?_;refine aB rfl ?_;refine aF ?_;clear hS;obtain⟨W5,hW5⟩:∃W,W=wr.drew:=⟨_,rfl⟩;have bW5:Below wr.heap.size wr W5:=by rw[hW5];exact bR.drew
    rw[← hW5];have ya5:=(bW5.cell (World.block_lt_of_cell? _ _ ya)).trans ya;have yb5:=(bW5.cell (World.block_lt_of_cell? _ _ yb)).trans yb;have own5:=aA how.out (upF bW5) (fun _ _ h=>h);have bb5:=tHn hbw.out bW5;have hS:W5.drew.cell? ⟨bb,bo+q*2,none⟩=some (.int .i64 (y1:Int))∧W5.drew.cell? ⟨bb,bo+q*2+1,none⟩=some (.int .i64 (y2:Int)):=⟨ya5,yb5⟩;go_upto_region 8 with (fail);refine aE (fun w'=>w'.cell? ⟨bb,bo+q*2,none⟩=some (.int .i64 (y1:Int))∧w'.cell? ⟨bb,bo+q*2+1,none⟩=some (.int .i64 (y2:Int))) 15 [(0,true),(1,true),(2,true),(3,true),(4,true),(5,true),(6,true),(7,true),(8,true),(9,true),(10,true),(11,true),(12,true),(13,true),(14,true)] hS ?_
    iterate 5 refine aB rfl ?_
    iterate 9 (refine cE rfl (by kernel_rfl) ?_;(try simp only[Act.put,gA,gS,gZ,sA,sZ,sS]))
    refine aB rfl ?_;refine aF ?_;clear hS;obtain⟨W6,hW6⟩:∃W,W=W5.drew:=⟨_,rfl⟩;have bW6:Below W5.heap.size W5 W6:=by rw[hW6];exact bR.drew
    rw[← hW6];have ya7:=(bW6.cell (World.block_lt_of_cell? _ _ ya5)).trans ya5;have yb7:=(bW6.cell (World.block_lt_of_cell? _ _ yb5)).trans yb5;have own7:=aA own5 (upF bW6) (fun _ _ h=>h);have bb7:=tHn bb5 bW6;obtain⟨v6,w6,happ,own6,u6,-⟩:=mB W6 W2.heap.size _ L own7 (y1,y2) (by omega) bb7.size;have HN:=aI2 (bb7.trans (u6.below (fun k _ e=>(own7.lt k e).1) bb7.size)) own6;dsimp only at happ
    have HI:=hIz (show(L++[((y1,y2):Nat × Nat)])++mrg iD (P.drop (p)) (Q.drop (q+1))=mrg iD P Q by
     rw[← hI.out,gH hy (.inl (by rw[HL.out.1];exact Nat.le_refl _))];simp)
    clear hI hy own6 own5 bb5 own7 bb7 hW5 bW5 hW6 bW6 u6;clear ya yb;clear ya5 yb5;go_wp2_with (at_builtin;refine wpList_append_run rfl _ _ _ rfl rfl rfl happ ?_);go_roundw
    case rel=>exact⟨p,q+1,L++[((y1,y2):Nat × Nat)],_,by omega,by omega,rfl,by go_num,by go_num,by simp;omega,HI,hIz HN.out.1,hIz HN.out.2⟩
    case measure=>simp[intOf];omega
   ·obtain rfl:q=m:=by omega
    obtain⟨A9,c9,rfl,-,-⟩:=aG how.out;have FIN:=hIz (show QD W2 (mrg iD P Q) (.returned (.tuple #[.slice A9 L.length c9,.bool mb])) wr from by
     have hI:=hI.out;rw[vG (by rw[HL.out.1];exact Nat.le_refl _) (by rw[HL.out.2];exact Nat.le_refl _),List.append_nil] at hI;rw[← hI];exact⟨_,_,_,rfl,how.out,hbw.out⟩)
    clear hI how;go_wp2;refine bodyPost_ret (v:=.tuple #[.slice A9 L.length c9,.bool mb]) (by simp[results,Tryz.f142,go_sem]) rfl FIN.out
theorem lE(w:World)(A:Option Addr)(c:Nat)(N:List (Nat × Nat))(h2:N.length<2)(h:aV w A (aY N)):Calls Tryz.prog 103 #[.slice A N.length c] w (NC w (aR iD N)):=by
 rw[jI NB h2];obtain⟨n,hn⟩:∃n,N.length=n:=⟨_,rfl⟩;rw[hn] at h2 ⊢;have b0:Below w.heap.size w (w.alloc (.cells #[] 83)):=bR.alloc (Nat.le_refl _) _;obtain⟨B6,c6,w6,happ,own6,b6⟩:=eH (w.alloc (.cells #[] 83)) w.heap.size 58 83 2 16 _ Tryz.underlying58 uI rfl (by decide) (by decide) (some ⟨w.heap.size,0,none⟩) 0 0 [] (dG w _ 2) A n c (aY N) (h.below b0) (by rw[oN,hn]) (MO N) (by omega) (by simp);rw[Nat.zero_add] at happ own6;rw[List.nil_append] at own6;have HN:=hIz (show NC w N (.returned (.slice B6 n c6)) w6 from⟨_,rfl,by rw[hn];exact own6,b0.trans b6⟩);have hI:(n:Int)<2:=by omega
 clear own6 b6 b0 h hn;go_enter Tryz.func103,Tryz.ntmps103;go_wp2_with (at_builtin;refine wpList_append_run rfl _ _ _ rfl rfl rfl happ ?_);go_ret;exact HN.out
theorem wH:∀(k:Nat) (w:World) (A:Option Addr) (c:Nat) (N:List (Nat × Nat)),N.length≤k→aV w A (aY N)→N.length≤c→N.length*16≤140737488355328 →
  Calls Tryz.prog 103 #[.slice A N.length c] w (NC w (aR iD N)):=by
 intro k;induction k with
 | zero=>exact fun w A c N hk h _ _=>lE w A c N (by omega) h
 | succ k ih =>
  intro w A c N hk h hc hl;by_cases h2:N.length<2
  ·exact lE w A c N h2 h
  obtain⟨x,hx⟩:∃x,N[0]?=some x:=⟨N[0]'(by omega),gEz _⟩;obtain⟨ab,ao,rfl,-⟩:=h.ce hx;obtain⟨n0,hn⟩:∃n,N.length=n:=⟨_,rfl⟩;obtain⟨q,hq⟩:∃q,n0 / 2=q:=⟨_,rfl⟩;rw[hn] at hk hc hl h2 ⊢;have hq1:1≤q:=by omega
  have hqn:q<n0:=by omega
  have hqI:(n0:Int).tdiv 2=(q:Int):=by
   rw[Int.tdiv_eq_ediv_of_nonneg (by omega),← hq];omega
  have hq2:q≤n0:=by omega
  have hqc:q≤c:=by omega
  have hqw:IntKind.i64.wrap (q:Int)=(q:Int):=IntWalk.i64_in _ (by omega);have hcq:¬(c=q):=by omega
  have lt:(N.take q).length=q:=by rw[List.length_take,hn];omega
  have ld:(N.drop q).length=n0-q:=by rw[List.length_drop,hn]
  have c1:∀W,Below w.heap.size w W→Calls Tryz.prog 103 #[.slice (some ⟨ab,ao,none⟩) q c] W (NC W (aR iD (N.take q))):=fun W hb=>by
   have:=ih W (some ⟨ab,ao,none⟩) c (N.take q) (by omega) ((h.below hb).take_ce q) (by omega) (by omega);rwa [lt] at this
  have c2:∀W,Below w.heap.size w W→Calls Tryz.prog 103 #[.slice (some ⟨ab,ao+q*2,none⟩) (n0-q) (c-q)] W (NC W (aR iD (N.drop q))):=fun W hb=>by
   have:=ih W (some ⟨ab,ao+q*2,none⟩) (c-q) (N.drop q) (by omega) ((h.below hb).drop_ce q (by omega)) (by omega) (by omega);rwa [ld] at this
  have l1:=dP NB (N.take q);have l2:=dP NB (N.drop q);rw[lt] at l1;rw[ld] at l2;have H:=aI5 c1 c2 l1 l2 hn;have h2I:¬((n0:Int)<2):=by omega
  clear c1 c2 l1 l2 hn ih h hx lt ld hq x;go_enter Tryz.func103,Tryz.ntmps103;go_upto_region 3 with (fail);refine aO (fun _=>True) 14 [(0,true),(1,true),(2,true),(3,true),(4,true),(6,true),(7,true),(8,true),(9,true),(10,true),(5,false),(11,false),(12,true),(13,true)] (by kernel_rfl) (by kernel_rfl) (fun _ _ d _ _ h=>by cases d <;> exact h) trivial ?_
  iterate 10 refine aB rfl ?_
  refine aN rfl rfl (fun K hK=>?_);go_simp;refine(H.out.1 w.drew bR.drew).mono ?_;rintro e w1 ⟨v1,rfl,own1,b1⟩;have bb1:Below w.heap.size w w1:=(Below.refl w.heap.size w).drew.trans b1;have HB1:=hIz bb1;have HO1:=hIz own1;refine hK _ _ (fun _=>trivial) ?_;clear hK K own1 b1 bb1;(try simp only[Act.put,gA,gS,gZ,sA,sZ,sS])
  refine aN rfl rfl (fun K hK=>?_);go_simp;refine(H.out.2.1 w1 HB1.out).mono ?_;rintro e W2 ⟨v2,rfl,own2,b2⟩;obtain⟨A1,c1,rfl,hc1,r1⟩:=bS HO1.out;obtain⟨A2,c2,rfl,hc2,r2⟩:=bS own2;obtain⟨P,hP⟩:∃P,aR iD (N.take q)=P:=⟨_,rfl⟩;obtain⟨Q,hQ⟩:∃P,aR iD (N.drop q)=P:=⟨_,rfl⟩;have hPQ:mrg iD P Q=aR iD N:=by rw[← hP,← hQ,lR NB]
  have HH:=H.out;rw[hP,hQ] at HH;rw[hP] at hc1 r1 ⊢;rw[hQ] at hc2 r2 ⊢;have hnm:(P.length+Q.length)*16≤140737488355328:=by have:=HH.2.2.1;have:=HH.2.2.2.1;omega
  have hmer:=zL W2 A1 c1 A2 c2 P Q (r1.below b2) r2 hnm;rw[hPQ] at hmer;obtain⟨n,hn⟩:∃n,P.length=n:=⟨_,rfl⟩;obtain⟨m,hm⟩:∃n,Q.length=n:=⟨_,rfl⟩;rw[hn,hm] at hmer;rw[hn,hm];have HM:=hIz hmer;have HB2:=hIz (tHn HB1.out b2);refine hK _ _ (fun _=>trivial) ?_;clear hK K own2 b2 r1 r2 HH hP hQ hn hm HO1 hPQ hmer hc1 hc2 hnm;(try simp only[Act.put,gA,gS,gZ,sA,sZ,sS])
  refine aB rfl ?_;refine aB rfl ?_;refine aF ?_;clear hqI h2I hq1 hqn hq2 hqc hl hk hc h2 H HB1;go_wp2_with fail;refine HM.out.mono ?_;rintro e W3 ⟨A9,c9,b9,rfl,own9,b3⟩;have FIN:=hIz (show NC w (aR iD N) (.returned (.slice A9 (aR iD N).length c9)) W3 from⟨_,rfl,aJ own9 (fun q hq=>by have:=(own9.lt q hq).1;have:=HB2.out.size;omega),tHn HB2.out b3⟩);clear own9 b3 HM;generalize (aR iD N).length=x9 at FIN ⊢;go_wp2;go_ret;exact FIN.out
open Go.RowKit
section
set_option maxRecDepth 100000
set_option maxHeartbeats 4000000
def uJ(w:World)(L:List Hp)(e:Ending)(w':World):Prop:=∃v,e=.returned v∧w'.ownsRow w.heap.size 103 2 v L.length (aK L)∧Below w.heap.size w w'
theorem zM(w:World)(A:Option Addr)(c:Nat)(B:Option Addr)(d:Nat)(N:List Txt)(E:List Ed)(h:dX w A c B d N E)(hb:(N.length+E.length*2)*16≤140737488355328)(hfit:yM (ofN N E) (ofE N E))(k0:Nat)(s:Txt)(hk:N[k0]?=some s)(hsz:((jB (ofN N E) (ofE N E)).length*N.length+N.length+1)*24≤140737488355328) :
  Calls Tryz.prog 102 #[rgV true A N.length c B E.length d,.int .i64 (k0:Int),.bool true] w (uJ w (bW N E s true (jB (ofN N E) (ofE N E)))):=by
 unfold rgV;obtain⟨n,hn⟩:∃n,N.length=n:=⟨_,rfl⟩;obtain⟨m,hm⟩:∃m,E.length=m:=⟨_,rfl⟩;obtain⟨LB,hLB⟩:∃L,jB (ofN N E) (ofE N E)=L:=⟨_,rfl⟩;obtain⟨l,hl⟩:∃n,LB.length=n:=⟨_,rfl⟩;have hlab:=fun W h=>jO W true A c B d N E h hb hfit
 rw[hn,hm,hLB] at hlab;rw[hn,hLB,hl] at hsz;rw[hn,hm,hLB];have hk0:k0<n:=by rw[← hn];exact(gO.1 hk).1
 have hn47:n≤140737488355328:=by have:=h.fit.n;omega
 have hm47:m≤140737488355328:=by have:=h.fit.e;omega
 have hl47:l≤140737488355328:=by have:=Nat.le_mul_of_pos_right l (show 0<n by omega);omega
 have b1:Below w.heap.size w (w.alloc (.cells #[.bool true,.slice A n c,.slice B m d] 29)):=bR.alloc (Nat.le_refl _) _;have k1:=Blk.new w 29 #[.bool true,.slice A n c,.slice B m d];have H:=aI3 b1 k1 (h.below b1);have HL:=aI4 hn hm hl hk;have HSZ:=hIz hsz;have HLAB:=hIz hlab;obtain⟨ab,ao,hA,-⟩:=h.rn.txt hk;subst hA;clear b1 k1 h hn hm hl hk hlab hLB hsz hb hfit;go_enter Tryz.func102,Tryz.ntmps102;go_upto_region 1 with (fail);generalize w.alloc (.cells #[.bool true,.slice (some ⟨ab,ao,none⟩) n c,.slice B m d] 29)=W0 at H ⊢;have q0:W0.cell? ⟨w.heap.size,0,none⟩=some (.bool true):=H.out.2.1.cell 0;have q1:W0.cell? ⟨w.heap.size,1,none⟩=some (.slice (some ⟨ab,ao,none⟩) n c):=H.out.2.1.cell 1;have q2:W0.cell? ⟨w.heap.size,2,none⟩=some (.slice B m d):=H.out.2.1.cell 2;go_wp2_with fail;refine(HLAB.out W0 H.out.2.2).mono ?_;rintro e W1 ⟨v1,rfl,o1,b1⟩;obtain⟨LA,lc,rfl,-,lrow⟩:=bS o1;rw[HL.out.2.2.1];have HR1:=aI2 lrow b1;clear o1 b1 lrow q0 q1 q2;have ST:=hIz (show ∀V,Below W1.heap.size W1 V→V.cell? ⟨w.heap.size,0,none⟩=some (.bool true)∧V.cell? ⟨w.heap.size,1,none⟩=some (.slice (some ⟨ab,ao,none⟩) n c)∧V.cell? ⟨w.heap.size,2,none⟩=some (.slice B m d)∧aV V (some ⟨ab,ao,none⟩) (aC N)∧aV V B (aH E)∧aV V LA (aC LB)∧Below w.heap.size w V from fun V b=>by
  have b2:=tHn HR1.out.2 b;have k:=H.out.2.1.upd (upF b2) id;exact⟨k.cell 0,k.cell 1,k.cell 2,(H.out.2.2.below b2).rn,(H.out.2.2.below b2).re,HR1.out.1.below b,tHn H.out.1 b2⟩)
 go_wp2_with fail;go_loopw [7,9] (fun v iv wr=>∃a:Nat,a≤l∧iv=.int .i64 (a:Int)∧Hid (wr.ownsRow W1.heap.size 103 2 v (bW N E s true (LB.take a)).length (aK (bW N E s true (LB.take a))))∧Hid (Below W1.heap.size W1 wr)) (fun _ iv _=>l-(intOf iv).toNat)
 case atStart=>exact⟨0,Nat.zero_le _,rfl,hIz (World.ownsRow_nil _ _ _ _),hIz bR⟩
 case round =>
  obtain⟨a,ha,rfl,hown,hbw⟩:=hrel;by_cases hal:a<l
  ·have halI:(a:Int)<(l:Int):=by omega
   have haw:IntKind.i64.wrap ((a:Int)+1)=(a:Int)+1:=IntWalk.i64_in _ (by omega);obtain⟨lb,hlb⟩:∃x,LB[a]?=some x:=⟨LB[a]'(by rw[HL.out.2.2.1];exact hal),gEz _⟩;obtain⟨lbb,lo,hLA,-⟩:=(ST.out _ bR).2.2.2.2.2.1.txt hlb;subst hLA;have HLB:=hIz hlb;clear hlb;have q1:=(ST.out wr hbw.out).2.1;go_wp2_with fail;clear q1;generalize wr=W5 at hown hbw ⊢;go_loopw [7,10] (fun v iv wz=>∃k:Nat,k≤n∧iv=.int .i64 (k:Int)∧Hid (wz.ownsRow W1.heap.size 103 2 v (bW N E s true (LB.take a)++cJ N E s true lb k).length (aK (bW N E s true (LB.take a)++cJ N E s true lb k)))∧Hid (Below W1.heap.size W1 wz)) (fun _ iv _=>n-(intOf iv).toNat)
   case atStart=>exact⟨0,Nat.zero_le _,rfl,by simpa[cJ] using hown,hbw⟩
   case round =>
    obtain⟨k,hkn,rfl,hown2,hb2⟩:=hrel;obtain⟨q0,q1,q2,rN,rE,rL,bw⟩:=ST.out _ hb2.out;have HB:=aI2 rE bw;by_cases hlt:k<n
    ·have hltI:(k:Int)<(n:Int):=by omega
     have hkI:(k0:Int)<(n:Int):=by omega
     have hkw:IntKind.i64.wrap ((k:Int)+1)=(k:Int)+1:=IntWalk.i64_in _ (by omega);obtain⟨t,ht⟩:∃x,N[k]?=some x:=⟨N[k]'(by rw[HL.out.1];exact hlt),gEz _⟩;have HT:=hIz ht;clear ht rN rE rL bw;have SR:=hIz (show ∀V,Below W1.heap.size W1 V→(V.cell? ⟨w.heap.size,1,none⟩=some (.slice (some ⟨ab,ao,none⟩) n c)∧V.cell? ⟨ab,ao+k0,none⟩=some (.string s)∧V.cell? ⟨lbb,lo+a,none⟩=some (.string lb)∧V.cell? ⟨ab,ao+k,none⟩=some (.string t)) from fun V b=>by
      obtain⟨-,q1,-,rN,-,rL,-⟩:=ST.out _ b;exact⟨q1,rN.txt_at HL.out.2.2.2,rL.txt_at HLB.out,rN.txt_at HT.out⟩)
     have hS:=SR.out _ hb2.out.drew;go_upto_region 9 with (fail);clear q0 q1 q2;refine aE (fun V:World=>V.cell? ⟨w.heap.size,1,none⟩=some (.slice (some ⟨ab,ao,none⟩) n c)∧V.cell? ⟨ab,ao+k0,none⟩=some (.string s)∧V.cell? ⟨lbb,lo+a,none⟩=some (.string lb)∧V.cell? ⟨ab,ao+k,none⟩=some (.string t)) 16 [(0,true),(1,true),(2,true),(3,true),(4,true),(5,true),(6,true),(7,true),(8,true),(9,true),(10,true),(11,true),(12,true),(13,true),(14,true),(15,false),(16,false)] hS ?_
     iterate 15 refine aB rfl ?_
     refine aN rfl rfl (fun K hK=>?_);go_simp;refine hK _ _ (fun _=>SR.out _ (hb2.out.alloc hb2.out.size _).drew) ?_;clear hK K hS;(try simp only[Act.put,gA,gS,gZ,sA,sZ,sS])
     refine aN rfl rfl (fun K hK=>?_);go_simp;have kX:=(Blk.new wr 32 #[.string s,.string lb,.string t]).drew;have bX:Below W1.heap.size W1 (wr.alloc (.cells #[.string s,.string lb,.string t] 32)).drew:=(hb2.out.alloc hb2.out.size _).drew;have bY:Below wr.heap.size wr (wr.alloc (.cells #[.string s,.string lb,.string t] 32)).drew:=((Below.refl wr.heap.size wr).alloc (Nat.le_refl _) _).drew;refine hK _ _ (fun h=>absurd rfl h) ?_;clear hK K;(try simp only[Act.put,gA,gS,gZ,sA,sZ,sS])
     refine aF ?_;have HX6:=aI3 kX bX bY;clear kX bX bY;generalize (wr.alloc (.cells #[.string s,.string lb,.string t] 32)).drew=W6 at HX6 ⊢;obtain⟨q0,q1,q2,-,rE,-,-⟩:=ST.out _ HX6.out.2.1;have x0:W6.cell? ⟨wr.heap.size,0,none⟩=some (.string s):=HX6.out.1.cell 0;have x1:W6.cell? ⟨wr.heap.size,1,none⟩=some (.string lb):=HX6.out.1.cell 1;have x2:W6.cell? ⟨wr.heap.size,2,none⟩=some (.string t):=HX6.out.1.cell 2;have hhas:=kU W6 true (.slice (some ⟨ab,ao,none⟩) n c) B d E rE (by rw[HL.out.2.1];omega) ⟨s,lb,t⟩;rw[HL.out.2.1] at hhas;unfold Ed.agg at hhas;dsimp only at hhas
     obtain⟨bh,hbh⟩:∃b,decide ((⟨s,lb,t⟩:Ed)∈E)=b:=⟨_,rfl⟩;rw[hbh] at hhas;have HBH:=hIz hbh;clear hbh rE;go_wp2_with fail;refine hhas.mono ?_;clear hhas q0 q1 q2 x0 x1 x2;rintro e W7 ⟨rfl,b7⟩;have HB7:=aI2 (tHn HX6.out.2.1 b7) (tHn HX6.out.2.2 b7);clear b7;have hown7:=hIz (cG hown2.out (Nat.le_refl _) (Upd.of_below HB7.out.2 (fun _=>False)) (fun _ _ _=>id));cases bh
     ·have HAT:=hIz (show cJ N E s true lb (k+1)=cJ N E s true lb k from by
       have hne:¬(⟨s,lb,t⟩:Ed)∈E:=of_decide_eq_false HBH.out;rw[eU,oO,HT.out];simp[tZ,hne])
      go_wp2;go_roundw
      case rel=>exact⟨k+1,by omega,by go_num,by rw[HAT.out];exact hown7,hIz HB7.out.1⟩
      case measure=>simp[intOf];omega
     ·have HAT:=hIz (show bW N E s true (LB.take a)++cJ N E s true lb (k+1)=(bW N E s true (LB.take a)++cJ N E s true lb k)++[⟨lb,(k:Int)⟩] from by
       have hne:(⟨s,lb,t⟩:Ed)∈E:=of_decide_eq_true HBH.out;rw[eU,oO,HT.out];simp[tZ,hne])
      have hlen:=DK (E:=E) (s:=s) (out:=true) (lb:=lb) (a:=a) HL.out.1 HL.out.2.2.1 hkn HSZ.out;obtain⟨LL,hLL⟩:∃q,bW N E s true (LB.take a)++cJ N E s true lb k=q:=⟨_,rfl⟩;rw[hLL] at hlen hown7 HAT;clear hLL;obtain⟨v',W8,happ,own8,up⟩:=DH W7 W1.heap.size u7 LL hown7.out ⟨lb,(k:Int)⟩ hlen HB7.out.1.size;rw[← HAT.out] at own8;have HN:=aI2 own8 (HB7.out.1.trans (up.below (fun q _ hq=>(hown7.out.lt q hq).1) HB7.out.1.size));have sl:W7.cell? ⟨lbb,lo+a,none⟩=some (.string lb):=(SR.out _ HB7.out.1).2.2.1;clear own8 up hlen;go_wp2_with (at_builtin;refine wpList_append_run rfl _ _ _ rfl rfl rfl happ ?_);go_roundw
      case rel=>exact⟨k+1,by omega,by go_num,hIz HN.out.1,hIz HN.out.2⟩
      case measure=>simp[intOf];omega
    ·obtain rfl:k=n:=by omega
     have hltI:¬(k:Int)<(k:Int):=by omega
     go_wp2;go_roundw
     case rel=>exact⟨a+1,by omega,by go_num,by rw[oP _ _ _ _ _ HLB.out,HL.out.1];exact hown2,hb2⟩
     case measure=>simp[intOf];omega
  ·obtain rfl:a=l:=by omega
   have halI:¬(a:Int)<(a:Int):=by omega
   have FIN:=hIz (show uJ w (bW N E s true LB) (.returned u7) wr from by
    have ho:=hown.out;rw[List.take_of_length_le (by rw[HL.out.2.2.1];exact Nat.le_refl _)] at ho;have bw:=(ST.out _ hbw.out).2.2.2.2.2.2;have hlo:w.heap.size≤W1.heap.size:=(tHn H.out.1 HR1.out.2).size;exact⟨_,rfl,aJ ho (fun k hk=>Nat.le_trans hlo (ho.lt k hk).1),bw⟩)
   go_wp2;go_ret;exact FIN.out
theorem wI(w:World)(A:Option Addr)(c:Nat)(B:Option Addr)(d:Nat)(N:List Txt)(E:List Ed)(h:dX w A c B d N E)(hb:(N.length+E.length*2)*16≤140737488355328)(hfit:yM (ofN N E) (ofE N E))(k0:Nat)(s:Txt)(hk:N[k0]?=some s)(hsz:((jB (ofN N E) (ofE N E)).length*N.length+N.length+1)*24≤140737488355328) :
  Calls Tryz.prog 102 #[rgV true A N.length c B E.length d,.int .i64 (k0:Int),.bool false] w (uJ w (bW N E s false (jB (ofN N E) (ofE N E)))):=by
 unfold rgV;obtain⟨n,hn⟩:∃n,N.length=n:=⟨_,rfl⟩;obtain⟨m,hm⟩:∃m,E.length=m:=⟨_,rfl⟩;obtain⟨LB,hLB⟩:∃L,jB (ofN N E) (ofE N E)=L:=⟨_,rfl⟩;obtain⟨l,hl⟩:∃n,LB.length=n:=⟨_,rfl⟩;have hlab:=fun W h=>jO W true A c B d N E h hb hfit
 rw[hn,hm,hLB] at hlab;rw[hn,hLB,hl] at hsz;rw[hn,hm,hLB];have hk0:k0<n:=by rw[← hn];exact(gO.1 hk).1
 have hn47:n≤140737488355328:=by have:=h.fit.n;omega
 have hm47:m≤140737488355328:=by have:=h.fit.e;omega
 have hl47:l≤140737488355328:=by have:=Nat.le_mul_of_pos_right l (show 0<n by omega);omega
 have b1:Below w.heap.size w (w.alloc (.cells #[.bool true,.slice A n c,.slice B m d] 29)):=bR.alloc (Nat.le_refl _) _;have k1:=Blk.new w 29 #[.bool true,.slice A n c,.slice B m d];have H:=aI3 b1 k1 (h.below b1);have HL:=aI4 hn hm hl hk;have HSZ:=hIz hsz;have HLAB:=hIz hlab;obtain⟨ab,ao,hA,-⟩:=h.rn.txt hk;subst hA;clear b1 k1 h hn hm hl hk hlab hLB hsz hb hfit;go_enter Tryz.func102,Tryz.ntmps102;go_upto_region 1 with (fail);generalize w.alloc (.cells #[.bool true,.slice (some ⟨ab,ao,none⟩) n c,.slice B m d] 29)=W0 at H ⊢;have q0:W0.cell? ⟨w.heap.size,0,none⟩=some (.bool true):=H.out.2.1.cell 0;have q1:W0.cell? ⟨w.heap.size,1,none⟩=some (.slice (some ⟨ab,ao,none⟩) n c):=H.out.2.1.cell 1;have q2:W0.cell? ⟨w.heap.size,2,none⟩=some (.slice B m d):=H.out.2.1.cell 2;go_wp2_with fail;refine(HLAB.out W0 H.out.2.2).mono ?_;rintro e W1 ⟨v1,rfl,o1,b1⟩;obtain⟨LA,lc,rfl,-,lrow⟩:=bS o1;rw[HL.out.2.2.1];have HR1:=aI2 lrow b1;clear o1 b1 lrow q0 q1 q2;have ST:=hIz (show ∀V,Below W1.heap.size W1 V→V.cell? ⟨w.heap.size,0,none⟩=some (.bool true)∧V.cell? ⟨w.heap.size,1,none⟩=some (.slice (some ⟨ab,ao,none⟩) n c)∧V.cell? ⟨w.heap.size,2,none⟩=some (.slice B m d)∧aV V (some ⟨ab,ao,none⟩) (aC N)∧aV V B (aH E)∧aV V LA (aC LB)∧Below w.heap.size w V from fun V b=>by
  have b2:=tHn HR1.out.2 b;have k:=H.out.2.1.upd (upF b2) id;exact⟨k.cell 0,k.cell 1,k.cell 2,(H.out.2.2.below b2).rn,(H.out.2.2.below b2).re,HR1.out.1.below b,tHn H.out.1 b2⟩)
 go_wp2_with fail;go_loopw [7,9] (fun v iv wr=>∃a:Nat,a≤l∧iv=.int .i64 (a:Int)∧Hid (wr.ownsRow W1.heap.size 103 2 v (bW N E s false (LB.take a)).length (aK (bW N E s false (LB.take a))))∧Hid (Below W1.heap.size W1 wr)) (fun _ iv _=>l-(intOf iv).toNat)
 case atStart=>exact⟨0,Nat.zero_le _,rfl,hIz (World.ownsRow_nil _ _ _ _),hIz bR⟩
 case round =>
  obtain⟨a,ha,rfl,hown,hbw⟩:=hrel;by_cases hal:a<l
  ·have halI:(a:Int)<(l:Int):=by omega
   have haw:IntKind.i64.wrap ((a:Int)+1)=(a:Int)+1:=IntWalk.i64_in _ (by omega);obtain⟨lb,hlb⟩:∃x,LB[a]?=some x:=⟨LB[a]'(by rw[HL.out.2.2.1];exact hal),gEz _⟩;obtain⟨lbb,lo,hLA,-⟩:=(ST.out _ bR).2.2.2.2.2.1.txt hlb;subst hLA;have HLB:=hIz hlb;clear hlb;have q1:=(ST.out wr hbw.out).2.1;go_wp2_with fail;clear q1;generalize wr=W5 at hown hbw ⊢;go_loopw [7,10] (fun v iv wz=>∃k:Nat,k≤n∧iv=.int .i64 (k:Int)∧Hid (wz.ownsRow W1.heap.size 103 2 v (bW N E s false (LB.take a)++cJ N E s false lb k).length (aK (bW N E s false (LB.take a)++cJ N E s false lb k)))∧Hid (Below W1.heap.size W1 wz)) (fun _ iv _=>n-(intOf iv).toNat)
   case atStart=>exact⟨0,Nat.zero_le _,rfl,by simpa[cJ] using hown,hbw⟩
   case round =>
    obtain⟨k,hkn,rfl,hown2,hb2⟩:=hrel;obtain⟨q0,q1,q2,rN,rE,rL,bw⟩:=ST.out _ hb2.out;have HB:=aI2 rE bw;by_cases hlt:k<n
    ·have hltI:(k:Int)<(n:Int):=by omega
     have hkI:(k0:Int)<(n:Int):=by omega
     have hkw:IntKind.i64.wrap ((k:Int)+1)=(k:Int)+1:=IntWalk.i64_in _ (by omega);obtain⟨t,ht⟩:∃x,N[k]?=some x:=⟨N[k]'(by rw[HL.out.1];exact hlt),gEz _⟩;have HT:=hIz ht;clear ht rN rE rL bw;have SR:=hIz (show ∀V,Below W1.heap.size W1 V→(V.cell? ⟨w.heap.size,1,none⟩=some (.slice (some ⟨ab,ao,none⟩) n c)∧V.cell? ⟨ab,ao+k0,none⟩=some (.string s)∧V.cell? ⟨lbb,lo+a,none⟩=some (.string lb)∧V.cell? ⟨ab,ao+k,none⟩=some (.string t)) from fun V b=>by
      obtain⟨-,q1,-,rN,-,rL,-⟩:=ST.out _ b;exact⟨q1,rN.txt_at HL.out.2.2.2,rL.txt_at HLB.out,rN.txt_at HT.out⟩)
     have hS:=SR.out _ hb2.out.drew;go_upto_region 9 with (fail);clear q0 q1 q2;refine aE (fun V:World=>V.cell? ⟨w.heap.size,1,none⟩=some (.slice (some ⟨ab,ao,none⟩) n c)∧V.cell? ⟨ab,ao+k0,none⟩=some (.string s)∧V.cell? ⟨lbb,lo+a,none⟩=some (.string lb)∧V.cell? ⟨ab,ao+k,none⟩=some (.string t)) 16 [(0,true),(1,true),(2,true),(3,true),(4,true),(5,true),(6,true),(7,true),(8,true),(9,true),(10,true),(11,true),(12,true),(13,true),(14,true),(15,false),(16,false)] hS ?_
     iterate 15 refine aB rfl ?_
     refine aN rfl rfl (fun K hK=>?_);go_simp;refine hK _ _ (fun _=>SR.out _ (hb2.out.alloc hb2.out.size _).drew) ?_;clear hK K hS;(try simp only[Act.put,gA,gS,gZ,sA,sZ,sS])
     refine aN rfl rfl (fun K hK=>?_);go_simp;have kX:=(Blk.new wr 32 #[.string s,.string lb,.string t]).drew;have bX:Below W1.heap.size W1 (wr.alloc (.cells #[.string s,.string lb,.string t] 32)).drew:=(hb2.out.alloc hb2.out.size _).drew;have bY:Below wr.heap.size wr (wr.alloc (.cells #[.string s,.string lb,.string t] 32)).drew:=((Below.refl wr.heap.size wr).alloc (Nat.le_refl _) _).drew;refine hK _ _ (fun h=>absurd rfl h) ?_;clear hK K;(try simp only[Act.put,gA,gS,gZ,sA,sZ,sS])
     refine aF ?_;have HX6:=aI3 kX bX bY;clear kX bX bY;generalize (wr.alloc (.cells #[.string s,.string lb,.string t] 32)).drew=W6 at HX6 ⊢;have hS6:=SR.out _ HX6.out.2.1.drew;have kX:=HX6.out.1.drew;have bX:=HX6.out.2.1.drew;have bY:=HX6.out.2.2.drew;go_upto_region 11 with (fail);refine aO (fun V:World=>V.cell? ⟨w.heap.size,1,none⟩=some (.slice (some ⟨ab,ao,none⟩) n c)∧V.cell? ⟨ab,ao+k0,none⟩=some (.string s)∧V.cell? ⟨lbb,lo+a,none⟩=some (.string lb)∧V.cell? ⟨ab,ao+k,none⟩=some (.string t)) 15 [(0,true),(1,true),(2,true),(3,true),(4,true),(5,true),(6,true),(7,true),(8,true),(9,true),(10,true),(11,true),(12,true),(13,true),(14,true),(15,false)] (by kernel_rfl) (by kernel_rfl) (fun _ _ d _ _ h=>by cases d <;> exact h) hS6 ?_;clear hS6;generalize W6.drew=W65 at kX bX bY ⊢
     iterate 15 refine aB rfl ?_
     have g0:=kX.frozen 0;have g1:=kX.frozen 1;have g2:=kX.frozen 2;have r0:W65.cell? ⟨wr.heap.size,0,none⟩=some (.string s):=kX.cell 0;have r1:W65.cell? ⟨wr.heap.size,1,none⟩=some (.string lb):=kX.cell 1;have r2:W65.cell? ⟨wr.heap.size,2,none⟩=some (.string t):=kX.cell 2;have kZ:=aW kX (.string t) (.string lb) (.string s);have uZ:=aX W65 wr.heap.size (.string t) (.string lb) (.string s);have bZ1:=bX.trans (uZ.below (B:=W1.heap.size) (fun q _ e=>by have:=hb2.out.size;omega) bX.size);have bZ2:=bY.trans (uZ.below (B:=wr.heap.size) (fun q _ e=>by omega) bY.size);clear HX6;have HX6:=aI3 kZ bZ1 bZ2;clear kX bX bY kZ uZ bZ1 bZ2;refine aN rfl rfl (fun K hK=>?_);go_simp;refine hK _ _ (fun h=>absurd rfl h) ?_;clear hK K g0 g1 g2 r0 r1 r2;(try simp only[Act.put,gA,gS,gZ,sA,sZ,sS])
     refine aF ?_;generalize ((W65.setCell ⟨wr.heap.size,0,none⟩ (.string t)).setCell ⟨wr.heap.size,1,none⟩ (.string lb)).setCell ⟨wr.heap.size,2,none⟩ (.string s)=W6 at HX6 ⊢;obtain⟨q0,q1,q2,-,rE,-,-⟩:=ST.out _ HX6.out.2.1;have x0:W6.cell? ⟨wr.heap.size,0,none⟩=some (.string t):=HX6.out.1.cell 0;have x1:W6.cell? ⟨wr.heap.size,1,none⟩=some (.string lb):=HX6.out.1.cell 1;have x2:W6.cell? ⟨wr.heap.size,2,none⟩=some (.string s):=HX6.out.1.cell 2;have hhas:=kU W6 true (.slice (some ⟨ab,ao,none⟩) n c) B d E rE (by rw[HL.out.2.1];omega) ⟨t,lb,s⟩;rw[HL.out.2.1] at hhas;unfold Ed.agg at hhas;dsimp only at hhas
     obtain⟨bh,hbh⟩:∃b,decide ((⟨t,lb,s⟩:Ed)∈E)=b:=⟨_,rfl⟩;rw[hbh] at hhas;have HBH:=hIz hbh;clear hbh rE;go_wp2_with fail;refine hhas.mono ?_;clear hhas q0 q1 q2 x0 x1 x2;rintro e W7 ⟨rfl,b7⟩;have HB7:=aI2 (tHn HX6.out.2.1 b7) (tHn HX6.out.2.2 b7);clear b7;have hown7:=hIz (cG hown2.out (Nat.le_refl _) (Upd.of_below HB7.out.2 (fun _=>False)) (fun _ _ _=>id));cases bh
     ·have HAT:=hIz (show cJ N E s false lb (k+1)=cJ N E s false lb k from by
       have hne:¬(⟨t,lb,s⟩:Ed)∈E:=of_decide_eq_false HBH.out;rw[eU,oO,HT.out];simp[tZ,hne])
      go_wp2;go_roundw
      case rel=>exact⟨k+1,by omega,by go_num,by rw[HAT.out];exact hown7,hIz HB7.out.1⟩
      case measure=>simp[intOf];omega
     ·have HAT:=hIz (show bW N E s false (LB.take a)++cJ N E s false lb (k+1)=(bW N E s false (LB.take a)++cJ N E s false lb k)++[⟨lb,(k:Int)⟩] from by
       have hne:(⟨t,lb,s⟩:Ed)∈E:=of_decide_eq_true HBH.out;rw[eU,oO,HT.out];simp[tZ,hne])
      have hlen:=DK (E:=E) (s:=s) (out:=false) (lb:=lb) (a:=a) HL.out.1 HL.out.2.2.1 hkn HSZ.out;obtain⟨LL,hLL⟩:∃q,bW N E s false (LB.take a)++cJ N E s false lb k=q:=⟨_,rfl⟩;rw[hLL] at hlen hown7 HAT;clear hLL;obtain⟨v',W8,happ,own8,up⟩:=DH W7 W1.heap.size u7 LL hown7.out ⟨lb,(k:Int)⟩ hlen HB7.out.1.size;rw[← HAT.out] at own8;have HN:=aI2 own8 (HB7.out.1.trans (up.below (fun q _ hq=>(hown7.out.lt q hq).1) HB7.out.1.size));have sl:W7.cell? ⟨lbb,lo+a,none⟩=some (.string lb):=(SR.out _ HB7.out.1).2.2.1;clear own8 up hlen;go_wp2_with (at_builtin;refine wpList_append_run rfl _ _ _ rfl rfl rfl happ ?_);go_roundw
      case rel=>exact⟨k+1,by omega,by go_num,hIz HN.out.1,hIz HN.out.2⟩
      case measure=>simp[intOf];omega
    ·obtain rfl:k=n:=by omega
     have hltI:¬(k:Int)<(k:Int):=by omega
     go_wp2;go_roundw
     case rel=>exact⟨a+1,by omega,by go_num,by rw[oP _ _ _ _ _ HLB.out,HL.out.1];exact hown2,hb2⟩
     case measure=>simp[intOf];omega
  ·obtain rfl:a=l:=by omega
   have halI:¬(a:Int)<(a:Int):=by omega
   have FIN:=hIz (show uJ w (bW N E s false LB) (.returned u7) wr from by
    have ho:=hown.out;rw[List.take_of_length_le (by rw[HL.out.2.2.1];exact Nat.le_refl _)] at ho;have bw:=(ST.out _ hbw.out).2.2.2.2.2.2;have hlo:w.heap.size≤W1.heap.size:=(tHn H.out.1 HR1.out.2).size;exact⟨_,rfl,aJ ho (fun k hk=>Nat.le_trans hlo (ho.lt k hk).1),bw⟩)
   go_wp2;go_ret;exact FIN.out
end
open Go.RowKit
section
set_option maxRecDepth 100000
set_option maxHeartbeats 4000000
def rgZ:Value:=.agg #[.bool false,.slice none 0 0,.slice none 0 0]
theorem IT(w:World):Calls Tryz.prog 11 #[] w (Sam w (rgV true none 0 0 none 0 0)):=by
 have k0:=Blk.new w 29 #[.bool true,.slice none 0 0,.slice none 0 0];have b0:Below w.heap.size w (w.alloc (.cells #[.bool true,.slice none 0 0,.slice none 0 0] 29)):=bR.alloc (Nat.le_refl _) _;go_enter Tryz.func11,Tryz.ntmps11;go_wp2;generalize w.alloc (.cells #[.bool true,.slice none 0 0,.slice none 0 0] 29)=W at k0 b0 ⊢;have e0:W.cell? ⟨w.heap.size,0,none⟩=some (.bool true):=k0.cell 0;have e1:W.cell? ⟨w.heap.size,1,none⟩=some (.slice none 0 0):=k0.cell 1;have e2:W.cell? ⟨w.heap.size,2,none⟩=some (.slice none 0 0):=k0.cell 2;refine bodyPost_ret (v:=.agg #[.bool true,.slice none 0 0,.slice none 0 0]) (by simp[results,Tryz.f11,go_sem,e0,e1,e2]) rfl ⟨rfl,b0⟩
theorem uK(w:World)(n:Int)(o:Bool):Calls Tryz.prog 57 #[rgZ,.int .i64 n,.bool o] w (Sam w (.tuple #[.slice none 0 0,.int .i64 1])):=by
 unfold rgZ;have k0:=Blk.new w 29 #[.bool false,.slice none 0 0,.slice none 0 0];have b0:Below w.heap.size w (w.alloc (.cells #[.bool false,.slice none 0 0,.slice none 0 0] 29)):=bR.alloc (Nat.le_refl _) _;go_enter Tryz.func57,Tryz.ntmps57;go_upto_region 1 with (fail);generalize w.alloc (.cells #[.bool false,.slice none 0 0,.slice none 0 0] 29)=W at k0 b0 ⊢;have e0:W.cell? ⟨w.heap.size,0,none⟩=some (.bool false):=k0.cell 0;go_wp2;refine bodyPost_ret (v:=.tuple #[.slice none 0 0,.int .i64 1]) (by simp[results,Tryz.f57,go_sem]) rfl ⟨rfl,b0⟩
theorem uL(w:World)(A:Option Addr)(n c:Nat)(u:Value)(k:Int)(o:Bool)(hn:n≤100000)(hk:k<0∨(n:Int)≤k):Calls Tryz.prog 57 #[.agg #[.bool true,.slice A n c,u],.int .i64 k,.bool o] w (Sam w (.tuple #[.slice none 0 0,.int .i64 4])):=by
 have k0:=Blk.new w 29 #[.bool true,.slice A n c,u];have b0:Below w.heap.size w (w.alloc (.cells #[.bool true,.slice A n c,u] 29)):=bR.alloc (Nat.le_refl _) _;go_enter Tryz.func57,Tryz.ntmps57;go_upto_region 1 with (fail);generalize w.alloc (.cells #[.bool true,.slice A n c,u] 29)=W at k0 b0 ⊢;have e0:W.cell? ⟨w.heap.size,0,none⟩=some (.bool true):=k0.cell 0;have e1:W.cell? ⟨w.heap.size,1,none⟩=some (.slice A n c):=k0.cell 1;by_cases h0:k<0
 ·go_wp2;refine bodyPost_ret (v:=.tuple #[.slice none 0 0,.int .i64 4]) (by simp[results,Tryz.f57,go_sem]) rfl ⟨rfl,b0⟩
 ·have hk2:(n:Int)≤k:=by omega
  go_wp2;refine bodyPost_ret (v:=.tuple #[.slice none 0 0,.int .i64 4]) (by simp[results,Tryz.f57,go_sem]) rfl ⟨rfl,b0⟩
def KA(w:World)(L:List Hp)(e:Ending)(w':World):Prop:=∃A c,e=.returned (.tuple #[.slice A L.length c,.int .i64 0])∧w'.ownsRow w.heap.size 103 2 (.slice A L.length c) L.length (aK L)∧Below w.heap.size w w'
theorem xX(w:World)(A:Option Addr)(c:Nat)(B:Option Addr)(d:Nat)(N:List Txt)(E:List Ed)(h:dX w A c B d N E)(o:Bool)(k:Nat)(L:List Hp)(hk:k<N.length)(hl:N.length≤100000)
  (hcon:∀W,dX W A c B d N E→Calls Tryz.prog 102 #[rgV true A N.length c B E.length d,.int .i64 (k:Int),.bool o] W (uJ W L)) :
  Calls Tryz.prog 57 #[rgV true A N.length c B E.length d,.int .i64 (k:Int),.bool o] w (KA w L):=by
 unfold rgV at hcon ⊢;obtain⟨n,hn⟩:∃n,N.length=n:=⟨_,rfl⟩;obtain⟨m,hm⟩:∃m,E.length=m:=⟨_,rfl⟩;rw[hn,hm] at hcon ⊢;rw[hn] at hk hl;have k0:=Blk.new w 29 #[.bool true,.slice A n c,.slice B m d];have b0:Below w.heap.size w (w.alloc (.cells #[.bool true,.slice A n c,.slice B m d] 29)):=bR.alloc (Nat.le_refl _) _;have H:=aI4 k0 b0 (h.below b0) hcon;clear k0 b0 h hcon hn hm;go_enter Tryz.func57,Tryz.ntmps57;go_upto_region 1 with (fail);generalize w.alloc (.cells #[.bool true,.slice A n c,.slice B m d] 29)=W at H ⊢;have e0:W.cell? ⟨w.heap.size,0,none⟩=some (.bool true):=H.out.1.cell 0;have e1:W.cell? ⟨w.heap.size,1,none⟩=some (.slice A n c):=H.out.1.cell 1;have e2:W.cell? ⟨w.heap.size,2,none⟩=some (.slice B m d):=H.out.1.cell 2;have h0:¬(k:Int)<0:=by omega
 have h1:¬(n:Int)≤(k:Int):=by omega
 have hp:=H.out.2.2.2 W H.out.2.2.1;go_wp2_with fail;refine hp.mono ?_;clear hp e0 e1 e2;rintro e W2 ⟨v,rfl,own,b2⟩;obtain⟨A9,c9,rfl,-,-⟩:=aG own;have FIN:=hIz (show KA w L (.returned (.tuple #[.slice A9 L.length c9,.int .i64 0])) W2 from⟨_,_,rfl,aJ own (fun q hq=>Nat.le_trans H.out.2.1.size (own.lt q hq).1),tHn H.out.2.1 b2⟩);clear own b2;generalize L.length=x9 at FIN ⊢;go_wp2;refine bodyPost_ret (v:=.tuple #[.slice A9 x9 c9,.int .i64 0]) (by simp[results,Tryz.f57,go_sem]) rfl FIN.out
theorem DZ(w:World)(s:Txt):Calls Tryz.prog 52 #[rgZ,.string s] w (Sam w (.tuple #[rgZ,.bool false,.int .i64 1])):=by
 unfold rgZ;have b0:Below w.heap.size w ((w.alloc (.cells #[.bool false,.slice none 0 0,.slice none 0 0] 29)).alloc (.cells #[.bool false,.slice none 0 0,.slice none 0 0] 29)):=by(repeat (first | exact Below.refl _ _ | apply Below.drew | refine Below.alloc ?_ (by first | exact Nat.le_refl _ | (simp;done) | (simp;omega)) _ | refine Below.setCell ?_ (by first | exact Nat.le_refl _ | (simp;done) | (simp;omega)) _))
 have k1:=(Blk.new w 29 #[.bool false,.slice none 0 0,.slice none 0 0]).alloc (.cells #[.bool false,.slice none 0 0,.slice none 0 0] 29);have k2:=Blk.new (w.alloc (.cells #[.bool false,.slice none 0 0,.slice none 0 0] 29)) 29 #[.bool false,.slice none 0 0,.slice none 0 0];simp only[World.size_alloc] at k2
 go_enter Tryz.func52,Tryz.ntmps52;go_upto_region 1 with (fail);generalize (w.alloc (.cells #[.bool false,.slice none 0 0,.slice none 0 0] 29)).alloc (.cells #[.bool false,.slice none 0 0,.slice none 0 0] 29)=W at b0 k1 k2 ⊢;have e0:W.cell? ⟨w.heap.size,0,none⟩=some (.bool false):=k1.cell 0;have e1:W.cell? ⟨w.heap.size,1,none⟩=some (.slice none 0 0):=k1.cell 1;have e2:W.cell? ⟨w.heap.size,2,none⟩=some (.slice none 0 0):=k1.cell 2;have f0:=k2.frozen 0;have f1:=k2.frozen 1;have f2:=k2.frozen 2;have r0:W.cell? ⟨w.heap.size+1,0,none⟩=some (.bool false):=k2.cell 0;have r1:W.cell? ⟨w.heap.size+1,1,none⟩=some (.slice none 0 0):=k2.cell 1;have r2:W.cell? ⟨w.heap.size+1,2,none⟩=some (.slice none 0 0):=k2.cell 2;have kF:=aW k2 (.bool false) (.slice none 0 0) (.slice none 0 0);have uF:=aX W (w.heap.size+1) (.bool false) (.slice none 0 0) (.slice none 0 0);have HF:=aI3 kF uF b0;clear kF uF b0 k1 k2;go_wp2;clear e0 e1 e2 f0 f1 f2 r0 r1 r2;generalize ((W.setCell ⟨w.heap.size+1,0,none⟩ (.bool false)).setCell ⟨w.heap.size+1,1,none⟩ (.slice none 0 0)).setCell ⟨w.heap.size+1,2,none⟩ (.slice none 0 0)=W3 at HF ⊢;have y0:W3.cell? ⟨w.heap.size+1,0,none⟩=some (.bool false):=HF.out.1.cell 0;have y1:W3.cell? ⟨w.heap.size+1,1,none⟩=some (.slice none 0 0):=HF.out.1.cell 1;have y2:W3.cell? ⟨w.heap.size+1,2,none⟩=some (.slice none 0 0):=HF.out.1.cell 2;refine bodyPost_ret (v:=.tuple #[.agg #[.bool false,.slice none 0 0,.slice none 0 0],.bool false,.int .i64 1]) (by simp[results,Tryz.f52,go_sem,y0,y1,y2]) rfl ⟨rfl,HF.out.2.2.trans (HF.out.2.1.below (fun q _ e=>by omega) HF.out.2.2.size)⟩
theorem EA(w:World)(x:Ed):Calls Tryz.prog 53 #[rgZ,x.agg] w (Sam w (.tuple #[rgZ,.bool false,.int .i64 1])):=by
 obtain⟨x0,x1,x2⟩:=x;unfold rgZ Ed.agg;have b0:Below w.heap.size w (((w.alloc (.cells #[.bool false,.slice none 0 0,.slice none 0 0] 29)).alloc (.cells #[.string x0,.string x1,.string x2] 32)).alloc (.cells #[.bool false,.slice none 0 0,.slice none 0 0] 29)):=((bR.alloc (Nat.le_refl _) _).alloc (by simp) _).alloc (by simp;omega) _;have k1:=((Blk.new w 29 #[.bool false,.slice none 0 0,.slice none 0 0]).alloc (.cells #[.string x0,.string x1,.string x2] 32)).alloc (.cells #[.bool false,.slice none 0 0,.slice none 0 0] 29);have k2:=Blk.new ((w.alloc (.cells #[.bool false,.slice none 0 0,.slice none 0 0] 29)).alloc (.cells #[.string x0,.string x1,.string x2] 32)) 29 #[.bool false,.slice none 0 0,.slice none 0 0];simp only[World.size_alloc] at k2
 go_enter Tryz.func53,Tryz.ntmps53;go_upto_region 1 with (fail);generalize ((w.alloc (.cells #[.bool false,.slice none 0 0,.slice none 0 0] 29)).alloc (.cells #[.string x0,.string x1,.string x2] 32)).alloc (.cells #[.bool false,.slice none 0 0,.slice none 0 0] 29)=W at b0 k1 k2 ⊢;have e0:W.cell? ⟨w.heap.size,0,none⟩=some (.bool false):=k1.cell 0;have e1:W.cell? ⟨w.heap.size,1,none⟩=some (.slice none 0 0):=k1.cell 1;have e2:W.cell? ⟨w.heap.size,2,none⟩=some (.slice none 0 0):=k1.cell 2;have f0:=k2.frozen 0;have f1:=k2.frozen 1;have f2:=k2.frozen 2;have r0:W.cell? ⟨w.heap.size+1+1,0,none⟩=some (.bool false):=k2.cell 0;have r1:W.cell? ⟨w.heap.size+1+1,1,none⟩=some (.slice none 0 0):=k2.cell 1;have r2:W.cell? ⟨w.heap.size+1+1,2,none⟩=some (.slice none 0 0):=k2.cell 2;have kF:=aW k2 (.bool false) (.slice none 0 0) (.slice none 0 0);have uF:=aX W (w.heap.size+1+1) (.bool false) (.slice none 0 0) (.slice none 0 0);have HF:=aI3 kF uF b0;clear kF uF b0 k1 k2;go_wp2;clear e0 e1 e2 f0 f1 f2 r0 r1 r2;generalize ((W.setCell ⟨w.heap.size+1+1,0,none⟩ (.bool false)).setCell ⟨w.heap.size+1+1,1,none⟩ (.slice none 0 0)).setCell ⟨w.heap.size+1+1,2,none⟩ (.slice none 0 0)=W3 at HF ⊢;have y0:W3.cell? ⟨w.heap.size+1+1,0,none⟩=some (.bool false):=HF.out.1.cell 0;have y1:W3.cell? ⟨w.heap.size+1+1,1,none⟩=some (.slice none 0 0):=HF.out.1.cell 1;have y2:W3.cell? ⟨w.heap.size+1+1,2,none⟩=some (.slice none 0 0):=HF.out.1.cell 2;refine bodyPost_ret (v:=.tuple #[.agg #[.bool false,.slice none 0 0,.slice none 0 0],.bool false,.int .i64 1]) (by simp[results,Tryz.f53,go_sem,y0,y1,y2]) rfl ⟨rfl,HF.out.2.2.trans (HF.out.2.1.below (fun q _ e=>by omega) HF.out.2.2.size)⟩
end
open Go.RowKit
section
set_option maxRecDepth 100000
set_option maxHeartbeats 4000000
theorem IU(w:World)(lb:Txt)(sd:Int):Calls Tryz.prog 60 #[rgZ,.string lb,.int .i64 sd] w (Sam w (.tuple #[.agg #[.int .i64 0,.slice none 0 0],.int .i64 1])):=by
 unfold rgZ;have b0:Below w.heap.size w ((w.alloc (.cells #[.bool false,.slice none 0 0,.slice none 0 0] 29)).alloc (.cells #[.int .i64 0,.slice none 0 0] 125)):=by(repeat (first | exact Below.refl _ _ | apply Below.drew | refine Below.alloc ?_ (by first | exact Nat.le_refl _ | (simp;done) | (simp;omega)) _ | refine Below.setCell ?_ (by first | exact Nat.le_refl _ | (simp;done) | (simp;omega)) _))
 have k1:=(Blk.new w 29 #[.bool false,.slice none 0 0,.slice none 0 0]).alloc (.cells #[.int .i64 0,.slice none 0 0] 125);have k2:=Blk.new (w.alloc (.cells #[.bool false,.slice none 0 0,.slice none 0 0] 29)) 125 #[.int .i64 0,.slice none 0 0];simp only[World.size_alloc] at k2
 go_enter Tryz.func60,Tryz.ntmps60;go_upto_region 1 with (fail);generalize (w.alloc (.cells #[.bool false,.slice none 0 0,.slice none 0 0] 29)).alloc (.cells #[.int .i64 0,.slice none 0 0] 125)=W at b0 k1 k2 ⊢;have e0:W.cell? ⟨w.heap.size,0,none⟩=some (.bool false):=k1.cell 0;have e1:W.cell? ⟨w.heap.size,1,none⟩=some (.slice none 0 0):=k1.cell 1;have f0:=k2.frozen 0;have f1:=k2.frozen 1;have r0:W.cell? ⟨w.heap.size+1,0,none⟩=some (.int .i64 0):=k2.cell 0;have r1:W.cell? ⟨w.heap.size+1,1,none⟩=some (.slice none 0 0):=k2.cell 1;have kF:=kS k2 (.int .i64 0) (.slice none 0 0);have uF:=kT W (w.heap.size+1) (.int .i64 0) (.slice none 0 0);have HF:=aI3 kF uF b0;clear kF uF b0 k1 k2;go_wp2;clear e0 e1 f0 f1 r0 r1;generalize (W.setCell ⟨w.heap.size+1,0,none⟩ (.int .i64 0)).setCell ⟨w.heap.size+1,1,none⟩ (.slice none 0 0)=W3 at HF ⊢;have y0:W3.cell? ⟨w.heap.size+1,0,none⟩=some (.int .i64 0):=HF.out.1.cell 0;have y1:W3.cell? ⟨w.heap.size+1,1,none⟩=some (.slice none 0 0):=HF.out.1.cell 1;refine bodyPost_ret (v:=.tuple #[.agg #[.int .i64 0,.slice none 0 0],.int .i64 1]) (by simp[results,Tryz.f60,go_sem,y0,y1]) rfl ⟨rfl,HF.out.2.2.trans (HF.out.2.1.below (fun q _ e=>by omega) HF.out.2.2.size)⟩
theorem IV(w:World)(A:Option Addr)(n c:Nat)(u:Value)(lb:Txt)(sd:Int)(hs:sd<1∨1024<sd∨sd<(n:Int)):Calls Tryz.prog 60 #[.agg #[.bool true,.slice A n c,u],.string lb,.int .i64 sd] w (Sam w (.tuple #[.agg #[.int .i64 0,.slice none 0 0],.int .i64 5])):=by
 skip
 have b0:Below w.heap.size w ((w.alloc (.cells #[.bool true,.slice A n c,u] 29)).alloc (.cells #[.int .i64 0,.slice none 0 0] 125)):=by(repeat (first | exact Below.refl _ _ | apply Below.drew | refine Below.alloc ?_ (by first | exact Nat.le_refl _ | (simp;done) | (simp;omega)) _ | refine Below.setCell ?_ (by first | exact Nat.le_refl _ | (simp;done) | (simp;omega)) _))
 have k1:=(Blk.new w 29 #[.bool true,.slice A n c,u]).alloc (.cells #[.int .i64 0,.slice none 0 0] 125);have k2:=Blk.new (w.alloc (.cells #[.bool true,.slice A n c,u] 29)) 125 #[.int .i64 0,.slice none 0 0];simp only[World.size_alloc] at k2
 go_enter Tryz.func60,Tryz.ntmps60;go_upto_region 1 with (fail);generalize (w.alloc (.cells #[.bool true,.slice A n c,u] 29)).alloc (.cells #[.int .i64 0,.slice none 0 0] 125)=W at b0 k1 k2 ⊢;have e0:W.cell? ⟨w.heap.size,0,none⟩=some (.bool true):=k1.cell 0;have e1:W.cell? ⟨w.heap.size,1,none⟩=some (.slice A n c):=k1.cell 1;have f0:=k2.frozen 0;have f1:=k2.frozen 1;have r0:W.cell? ⟨w.heap.size+1,0,none⟩=some (.int .i64 0):=k2.cell 0;have r1:W.cell? ⟨w.heap.size+1,1,none⟩=some (.slice none 0 0):=k2.cell 1;have kF:=kS k2 (.int .i64 0) (.slice none 0 0);have uF:=kT W (w.heap.size+1) (.int .i64 0) (.slice none 0 0);have HF:=aI3 kF uF b0;clear kF uF b0 k1 k2;by_cases t1:sd<(n:Int)
 ·clear hs;go_wp2;clear e0 e1 f0 f1 r0 r1;generalize (W.setCell ⟨w.heap.size+1,0,none⟩ (.int .i64 0)).setCell ⟨w.heap.size+1,1,none⟩ (.slice none 0 0)=W3 at HF ⊢;have y0:W3.cell? ⟨w.heap.size+1,0,none⟩=some (.int .i64 0):=HF.out.1.cell 0;have y1:W3.cell? ⟨w.heap.size+1,1,none⟩=some (.slice none 0 0):=HF.out.1.cell 1;refine bodyPost_ret (v:=.tuple #[.agg #[.int .i64 0,.slice none 0 0],.int .i64 5]) (by simp[results,Tryz.f60,go_sem,y0,y1]) rfl ⟨rfl,HF.out.2.2.trans (HF.out.2.1.below (fun q _ e=>by omega) HF.out.2.2.size)⟩
 ·by_cases t2:sd<1
  ·clear hs;go_wp2;clear e0 e1 f0 f1 r0 r1;generalize (W.setCell ⟨w.heap.size+1,0,none⟩ (.int .i64 0)).setCell ⟨w.heap.size+1,1,none⟩ (.slice none 0 0)=W3 at HF ⊢;have y0:W3.cell? ⟨w.heap.size+1,0,none⟩=some (.int .i64 0):=HF.out.1.cell 0;have y1:W3.cell? ⟨w.heap.size+1,1,none⟩=some (.slice none 0 0):=HF.out.1.cell 1;refine bodyPost_ret (v:=.tuple #[.agg #[.int .i64 0,.slice none 0 0],.int .i64 5]) (by simp[results,Tryz.f60,go_sem,y0,y1]) rfl ⟨rfl,HF.out.2.2.trans (HF.out.2.1.below (fun q _ e=>by omega) HF.out.2.2.size)⟩
  ·have t3:1024<sd:=by omega
   clear hs;go_wp2;clear e0 e1 f0 f1 r0 r1;generalize (W.setCell ⟨w.heap.size+1,0,none⟩ (.int .i64 0)).setCell ⟨w.heap.size+1,1,none⟩ (.slice none 0 0)=W3 at HF ⊢;have y0:W3.cell? ⟨w.heap.size+1,0,none⟩=some (.int .i64 0):=HF.out.1.cell 0;have y1:W3.cell? ⟨w.heap.size+1,1,none⟩=some (.slice none 0 0):=HF.out.1.cell 1;refine bodyPost_ret (v:=.tuple #[.agg #[.int .i64 0,.slice none 0 0],.int .i64 5]) (by simp[results,Tryz.f60,go_sem,y0,y1]) rfl ⟨rfl,HF.out.2.2.trans (HF.out.2.1.below (fun q _ e=>by omega) HF.out.2.2.size)⟩
theorem EB{N:List Txt}(hd:N.Nodup){s:Txt}(hs:s∈N){k:Int}(h:OW N s k):k=(cS N s:Int):=by
 rcases h with ⟨i,rfl,hi,-⟩|⟨-,hn⟩
 ·rw[iJ hd hi]
 ·exact(hn hs).elim
def ON(w:World)(sd:Int)(L:List (Nat × Nat))(e:Ending)(w':World):Prop:=∃A c,e=.returned (.tuple #[.agg #[.int .i64 sd,.slice A L.length c],.int .i64 0])∧w'.ownsRow w.heap.size 83 2 (.slice A L.length c) L.length (aY L)∧Below w.heap.size w w'
theorem IW(w:World)(A:Option Addr)(c:Nat)(B:Option Addr)(d:Nat)(N:List Txt)(E:List Ed)(h:dX w A c B d N E)(hd:N.Nodup)(hends:∀x∈E,x.fr∈N∧x.to∈N)(lb:Txt)(sd:Int)(hl:N.length≤100000)(he:E.length≤100000)(t1:¬sd<(N.length:Int))(t2:¬sd<1)(t3:¬1024<sd) :
  Calls Tryz.prog 60 #[rgV true A N.length c B E.length d,.string lb,.int .i64 sd] w (ON w sd (aR iD (rX N E lb))):=by
 unfold rgV;obtain⟨n,hn⟩:∃n,N.length=n:=⟨_,rfl⟩;obtain⟨m,hm⟩:∃m,E.length=m:=⟨_,rfl⟩;rw[hn] at hl t1;rw[hm] at he;rw[hn,hm];have b0:Below w.heap.size w ((w.alloc (.cells #[.bool true,.slice A n c,.slice B m d] 29)).alloc (.cells #[.int .i64 0,.slice none 0 0] 125)):=by(repeat (first | exact Below.refl _ _ | apply Below.drew | refine Below.alloc ?_ (by first | exact Nat.le_refl _ | (simp;done) | (simp;omega)) _ | refine Below.setCell ?_ (by first | exact Nat.le_refl _ | (simp;done) | (simp;omega)) _))
 have k1:=(Blk.new w 29 #[.bool true,.slice A n c,.slice B m d]).alloc (.cells #[.int .i64 0,.slice none 0 0] 125);have k2:=Blk.new (w.alloc (.cells #[.bool true,.slice A n c,.slice B m d] 29)) 125 #[.int .i64 0,.slice none 0 0];simp only[World.size_alloc] at k2
 have hz:((w.alloc (.cells #[.bool true,.slice A n c,.slice B m d] 29)).alloc (.cells #[.int .i64 0,.slice none 0 0] 125)).heap.size=w.heap.size+2:=by simp
 have H:=aI9 k1 k2 b0 (h.below b0) hd hends hn hm hz;clear b0 k1 k2 h hd hends hn hm hz;go_enter Tryz.func60,Tryz.ntmps60;go_upto_region 1 with (fail);generalize (w.alloc (.cells #[.bool true,.slice A n c,.slice B m d] 29)).alloc (.cells #[.int .i64 0,.slice none 0 0] 125)=W0 at H ⊢;have e0:W0.cell? ⟨w.heap.size,0,none⟩=some (.bool true):=H.out.1.cell 0;have e1:W0.cell? ⟨w.heap.size,1,none⟩=some (.slice A n c):=H.out.1.cell 1;go_wp2_with fail;clear e0 e1 t1 t2 t3;go_loopw [8,9] (fun v iv wr=>∃i:Nat,i≤m∧iv=.int .i64 (i:Int)∧Hid (Below W0.heap.size W0 wr)∧Hid (wr.ownsRow W0.heap.size 83 2 v (rX N (E.take i) lb).length (aY (rX N (E.take i) lb)))) (fun _ iv _=>m-(intOf iv).toNat)
 case atStart=>exact⟨0,Nat.zero_le _,rfl,hIz bR,hIz (World.ownsRow_nil _ _ _ _)⟩
 case round =>
  obtain⟨i,hi,rfl,hb,ho⟩:=hrel;have K1:=H.out.1.upd (upF hb.out) id;have q2:wr.cell? ⟨w.heap.size,2,none⟩=some (.slice B m d):=K1.cell 2;clear K1;by_cases hin:i<m
  ·have hiI:(i:Int)<(m:Int):=by omega
   have hkw:IntKind.i64.wrap ((i:Int)+1)=(i:Int)+1:=IntWalk.i64_in _ (by omega);obtain⟨⟨y0,y1,y2⟩,hy⟩:∃y,E[i]?=some y:=⟨E[i]'(by rw[H.out.2.2.2.2.2.2.2.1];exact hin),gEz _⟩;obtain⟨bb,bo,rfl,a0,a1,a2⟩:=(H.out.2.2.2.1.re.below hb.out).ed hy;dsimp only at a0 a1 a2
   have HY:=aI2 hy (DU (N:=N) (lb:=lb) hy);have SR:=hIz (show ∀V,Below wr.heap.size wr V→aV V A (aC N)∧(fun V:World=>V.cell? ⟨w.heap.size,0,none⟩=some (.bool true)∧V.cell? ⟨w.heap.size,1,none⟩=some (.slice A n c)∧V.cell? ⟨w.heap.size,2,none⟩=some (.slice (some ⟨bb,bo,none⟩) m d)∧V.cell? ⟨bb,bo+i*3,none⟩=some (.string y0)∧V.cell? ⟨bb,bo+i*3+2,none⟩=some (.string y2)) V from fun V b=>by
    have K1:=H.out.1.upd (Upd.of_below (tHn hb.out b) (fun _=>False)) id;exact⟨(H.out.2.2.2.1.rn.below (tHn hb.out b)),K1.cell 0,K1.cell 1,K1.cell 2,(b.cell (World.block_lt_of_cell? _ _ a0)).trans a0,(b.cell (World.block_lt_of_cell? _ _ a2)).trans a2⟩)
   have hxE:=H.out.2.2.2.2.2.1 _ (mG hy);have HX:=hIz hxE;dsimp only at hxE
   clear hy hxE;by_cases hlb:y1=lb
   ·have heq:(ByteArray.toList y1==ByteArray.toList lb)=true:=by rw[txt_beq,decide_eq_true hlb]
    have HLB:=hIz hlb;clear hlb;have hS:=(SR.out _ bR.drew).2;clear a0 a2;go_upto_region 10 with (fail);clear q2 a1;refine aE (fun V:World=>V.cell? ⟨w.heap.size,0,none⟩=some (.bool true)∧V.cell? ⟨w.heap.size,1,none⟩=some (.slice A n c)∧V.cell? ⟨w.heap.size,2,none⟩=some (.slice (some ⟨bb,bo,none⟩) m d)∧V.cell? ⟨bb,bo+i*3,none⟩=some (.string y0)∧V.cell? ⟨bb,bo+i*3+2,none⟩=some (.string y2)) 21 [(0,true),(1,true),(2,true),(3,true),(4,true),(5,true),(6,true),(7,true),(9,true),(10,true),(11,true),(12,true),(13,true),(14,true),(15,true),(8,false),(16,false),(17,true),(18,false),(19,false),(20,true)] hS ?_
    iterate 15 refine aB rfl ?_
    clear hS;have hnum1:=dD wr.drew true A c N (SR.out _ bR.drew).1 (by rw[H.out.2.2.2.2.2.2.1];omega) (.slice (some ⟨bb,bo,none⟩) m d) y0;rw[H.out.2.2.2.2.2.2.1] at hnum1;refine aN rfl rfl (fun K hK=>?_);go_simp;refine hnum1.mono ?_;clear hnum1;rintro e V1 ⟨k1,rfl,hq1,b1⟩;have hk1:=EB H.out.2.2.2.2.1 HX.out.1 hq1;dsimp only at hk1
    subst hk1;clear hq1;have B1:=hIz ((Below.refl wr.heap.size wr).drew.trans b1);clear b1;refine hK _ _ (fun _=>(SR.out _ B1.out).2) ?_;clear hK K;(try simp only[Act.put,gA,gS,gZ,sA,sZ,sS])
    have hnum2:=dD V1 true A c N (SR.out _ B1.out).1 (by rw[H.out.2.2.2.2.2.2.1];omega) (.slice (some ⟨bb,bo,none⟩) m d) y2;rw[H.out.2.2.2.2.2.2.1] at hnum2;refine aN rfl rfl (fun K hK=>?_);go_simp;refine hnum2.mono ?_;clear hnum2;rintro e V2 ⟨k2,rfl,hq2,b2⟩;have hk2:=EB H.out.2.2.2.2.1 HX.out.2 hq2;dsimp only at hk2
    subst hk2;clear hq2;have B2:=hIz (tHn B1.out b2);clear b2;refine hK _ _ (fun _=>(SR.out _ B2.out).2) ?_;clear hK K;(try simp only[Act.put,gA,gS,gZ,sA,sZ,sS])
    have hS2:=(SR.out _ B2.out).2;refine aB rfl ?_;clear hS2;have own2:=aA ho.out (upF B2.out) (fun _ _ h=>h);have hb2:=tHn hb.out B2.out;obtain⟨LL,hLL⟩:∃q,rX N (E.take i) lb=q:=⟨_,rfl⟩;have hlen:=xW N (E.take i) lb;have hlen2:(E.take i).length≤m:=by rw[List.length_take,H.out.2.2.2.2.2.2.2.1];omega
    have hnx:=HY.out.2;dsimp only at hnx
    rw[if_pos HLB.out] at hnx;rw[hLL] at own2 hlen hnx;obtain⟨v',W8,happ,own8,up,-⟩:=mB V2 W0.heap.size u8 LL own2 (cS N y0,cS N y2) (by omega) hb2.size;dsimp only at happ
    rw[← hnx] at own8;have bW8:=hb2.trans (up.below (fun q _ hq=>(own2.lt q hq).1) hb2.size);have SW8:(fun V:World=>V.cell? ⟨w.heap.size,0,none⟩=some (.bool true)∧V.cell? ⟨w.heap.size,1,none⟩=some (.slice A n c)∧V.cell? ⟨w.heap.size,2,none⟩=some (.slice (some ⟨bb,bo,none⟩) m d)∧V.cell? ⟨bb,bo+i*3,none⟩=some (.string y0)∧V.cell? ⟨bb,bo+i*3+2,none⟩=some (.string y2)) W8:=by
     have K1:=H.out.1.upd (upF bW8) id;have hxb:bb<W0.heap.size:=by
      obtain⟨bb',bo',e,x0,-,-⟩:=H.out.2.2.2.1.re.ed HY.out.1;injection e with e;injection e with e1 e2;subst e1;exact World.block_lt_of_cell? _ _ x0
     obtain⟨bb',bo',e,x0,x1,x2⟩:=(H.out.2.2.2.1.re.below bW8).ed HY.out.1;injection e with e;injection e with e1 e2;subst e1;subst e2;exact⟨K1.cell 0,K1.cell 1,K1.cell 2,x0,x2⟩
    have HN:=aI3 own8 bW8 SW8;have bA:=B2.out.alloc B2.out.size (.cells #[.int .i64 (cS N y0:Int),.int .i64 (cS N y2:Int)] 83);have HA:=hIz (SR.out _ bA).2;clear own8 up hlen hlen2 hnx own2 hb2 hLL bW8 bA SW8 hb ho;refine aN rfl rfl (fun K hK=>?_);go_simp;refine hK _ _ (fun _=>HA.out) ?_;clear hK K HA;(try simp only[Act.put,gA,gS,gZ,sA,sZ,sS])
    refine aN rfl rfl (fun K hK=>?_);refine fA _ _ _ rfl rfl rfl happ ?_;refine hK _ _ (fun _=>HN.out.2.2) ?_;clear hK K happ;(try simp only[Act.put,gA,gS,gZ,sA,sZ,sS])
    refine aB rfl ?_;refine aF ?_;go_wp2;go_roundw
    case rel=>exact⟨i+1,by omega,by go_num,hIz HN.out.2.1,hIz HN.out.1⟩
    case measure=>simp[intOf];omega
   ·have heq:(ByteArray.toList y1==ByteArray.toList lb)=false:=by rw[txt_beq,decide_eq_false hlb]
    have HLB:=hIz hlb;clear hlb a0 a2;have HN:=hIz (show rX N (E.take (i+1)) lb=rX N (E.take i) lb from by
     have hnx:=HY.out.2;dsimp only at hnx
     rw[if_neg HLB.out,List.append_nil] at hnx;exact hnx)
    go_wp2;go_roundw
    case rel=>exact⟨i+1,by omega,by go_num,hb,by rw[HN.out];exact ho⟩
    case measure=>simp[intOf];omega
  ·obtain rfl:i=m:=by omega
   have hiI:¬(i:Int)<(i:Int):=by omega
   have hown:=ho.out;rw[List.take_of_length_le (by rw[H.out.2.2.2.2.2.2.2.1];exact Nat.le_refl _)] at hown;have hlen:=xW N E lb;obtain⟨A7,c7,rfl,hc7,r7⟩:=bS hown;have hcon:=wH (rX N E lb).length wr A7 c7 (rX N E lb) (Nat.le_refl _) r7 hc7 (by rw[H.out.2.2.2.2.2.2.2.1] at hlen;omega);generalize (rX N E lb).length=x7 at hcon ⊢;have HB:=hIz hb.out;clear ho hb hown hlen hc7 r7;go_wp2_with fail;refine hcon.mono ?_;clear hcon q2;rintro e W5 ⟨v5,rfl,own5,b5⟩;obtain⟨A9,c9,rfl,-,-⟩:=aG own5;have BW:=tHn HB.out b5;have K6:=H.out.2.1.upd (upF BW) id;have f0:=K6.frozen 0;have f1:=K6.frozen 1;have r0:W5.cell? ⟨w.heap.size+1,0,none⟩=some (.int .i64 0):=K6.cell 0;have r1:W5.cell? ⟨w.heap.size+1,1,none⟩=some (.slice none 0 0):=K6.cell 1;obtain⟨x9,hx9⟩:∃x,(aR iD (rX N E lb)).length=x:=⟨_,rfl⟩;rw[hx9] at own5 ⊢;have kF:=kS K6 (.int .i64 sd) (.slice A9 x9 c9);have uF:=kT W5 (w.heap.size+1) (.int .i64 sd) (.slice A9 x9 c9);have hz:=H.out.2.2.2.2.2.2.2.2;have z0:=HB.out.size;have FIN:=hIz (show ON w sd (aR iD (rX N E lb)) (.returned (.tuple #[.agg #[.int .i64 sd,.slice A9 x9 c9],.int .i64 0])) ((W5.setCell ⟨w.heap.size+1,0,none⟩ (.int .i64 sd)).setCell ⟨w.heap.size+1,1,none⟩ (.slice A9 x9 c9)) from⟨A9,c9,by rw[hx9],by
    rw[hx9];exact cG own5 (by omega) uF (fun k hk _ e=>by omega),(tHn H.out.2.2.1 BW).trans (uF.below (fun q _ e=>by omega) (tHn H.out.2.2.1 BW).size)⟩)
   have HF:=hIz kF;clear kF uF own5 b5 BW K6 hz z0 hx9;go_wp2;clear f0 f1 r0 r1;generalize (W5.setCell ⟨w.heap.size+1,0,none⟩ (.int .i64 sd)).setCell ⟨w.heap.size+1,1,none⟩ (.slice A9 x9 c9)=W9 at HF FIN ⊢;have y0:W9.cell? ⟨w.heap.size+1,0,none⟩=some (.int .i64 sd):=HF.out.cell 0;have y1:W9.cell? ⟨w.heap.size+1,1,none⟩=some (.slice A9 x9 c9):=HF.out.cell 1;refine bodyPost_ret (v:=.tuple #[.agg #[.int .i64 sd,.slice A9 x9 c9],.int .i64 0]) (by simp[results,Tryz.f60,go_sem,y0,y1]) rfl FIN.out
end
end Go.Proofs.YtddffnonlmfhdaaGreatDoor
