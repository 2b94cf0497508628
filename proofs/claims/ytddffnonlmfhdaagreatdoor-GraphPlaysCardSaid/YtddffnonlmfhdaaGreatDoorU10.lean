/- The document's answers of layer 16 that the calls on graphs ask: Made, Of, Parts (cut from RfJ, RfL for a program without Print, Join); Sorting at most one block; The lowest bit of a word; Going down a matrix: nothing, where it is empty; A block and its place as one value; a row of one of them; Going down a matrix: at its block; Going down a matrix: the walk at its block; Cells in a row; the document's graph: Number, Of (for the seat of graphs: pieces of RaA, RaG); The document's answer of layer 16: two lists of texts, two graphs, one by one; The document's graph of layer 17: Has, Data, Labels; The document's graph of layer 17: AddNode. -/
import Derived.Test.YtddffnonlmfhdaaGreatDoorU04
import Derived.Test.YtddffnonlmfhdaaGreatDoorU09
import Derived.Test.YtddffnonlmfhdaaGreatDoorU08
import Derived.Shelf.Spec.TrailingZeros
import Derived.Great.FillDense
import Derived.Great.BuildSlice
import Derived.Test.YtddffnonlmfhdaaGreatDoorU05
set_option linter.unusedVariables false
set_option linter.unusedSimpArgs false
set_option maxHeartbeats 16000000
set_option maxRecDepth 100000
namespace Go.Proofs.YtddffnonlmfhdaaGreatDoor
open Go.RowKit
theorem wC(w:World)(A:Option Addr)(c:Nat)(B:Option Addr)(d:Nat)(N:List Txt)(E:List Ed)(h:dX w A c B d N E)(hs:fW N E)(hb:(N.length+E.length*2)*16≤140737488355328) :
  Calls Tryz.prog 141 #[.slice A N.length c,.slice B E.length d] w (vI w N E):=by
 have k0:=Blk.new w 34 #[.slice none 0 0,.slice none 0 0];have u0:Below w.heap.size w (w.alloc (.cells #[.slice none 0 0,.slice none 0 0] 34)):=bR.alloc (Nat.le_refl _) _;have he:E.length*48≤140737488355328:=h.fit.e;have hn:N.length*16≤140737488355328:=h.fit.n;have HB:=hIz (show ∀(j:Nat) (x:Ed),E[j]?=some x→∃b o,B=some ⟨b,o,none⟩∧b<w.heap.size from fun j x hx=>by obtain⟨b,o,e,y0,-⟩:=h.re.ed hx;exact⟨b,o,e,World.block_lt_of_cell? _ _ y0⟩);have H:=aI4 (h.below u0) k0 u0 hs;clear h k0 u0 hs;go_enter Tryz.func141,Tryz.ntmps141;go_upto_region 1 with (fail);generalize w.alloc (.cells #[.slice none 0 0,.slice none 0 0] 34)=W0 at H ⊢;have hz0:w.heap.size+1≤W0.heap.size:=H.out.2.1.lt;have bz:Below W0.heap.size W0 (W0.alloc (.cells #[] 9)):=bR.alloc (Nat.le_refl _) _;obtain⟨A1,c1,w1,happ,own1,b1⟩:=eH (W0.alloc (.cells #[] 9)) W0.heap.size 26 9 1 16 _ Tryz.underlying26 bJ rfl (by decide) (by decide) (some ⟨W0.heap.size,0,none⟩) 0 0 [] (dG W0 _ 1) A N.length c (aC N) (H.out.1.rn.below bz) (cC N) (gT N) (by omega) (by simp);rw[Nat.zero_add] at happ own1;rw[List.nil_append] at own1;have H1:=aI2 own1 (bz.trans b1);clear own1 b1 bz;go_wp2_with (at_builtin;refine wpList_append_run rfl _ _ _ rfl rfl rfl happ ?_);clear happ;go_loopw [6,7] (fun v i wr=>∃k:Nat,k≤E.length∧i=.int .i64 k∧Hid (Below W0.heap.size W0 wr)∧Hid (wr.ownsRow W0.heap.size 9 1 v (jZ N (E.take k)).length (aC (jZ N (E.take k))))) (fun _ i _=>E.length-(intOf i).toNat)
 case atStart=>exact⟨0,Nat.zero_le _,rfl,hIz H1.out.2,hIz (by simpa[jZ] using H1.out.1)⟩
 case round =>
  obtain⟨k,hk,rfl,hbw,how⟩:=hrel;have hal:=iR N (E.take k);have htl:(E.take k).length≤k:=by rw[List.length_take];omega
  by_cases hlt:k<E.length
  ·have hltI:(k:Int)<(E.length:Int):=by omega
   have hkw:IntKind.i64.wrap ((k:Int)+1)=(k:Int)+1:=IntWalk.i64_in _ (by omega);obtain⟨⟨s0,s1,s2⟩,hx⟩:∃x,E[k]?=some x:=⟨E[k],gEz _⟩;obtain⟨ab,ao,rfl,x0,x1,x2⟩:=(H.out.1.below hbw.out).re.ed hx;dsimp only at x0 x1 x2
   obtain⟨v6,w6,happ,own6,b6⟩:=qY wr.drew W0.heap.size _ (jZ N (E.take k)) how.out s0 s2 (by omega) hbw.out.size;have hst:=sW (N:=N) hx;dsimp only at hst
   rw[← hst] at own6;have HN:=aI2 (hbw.out.drew.trans b6) own6;have SR:=hIz (show ∀W,Below W0.heap.size W0 W→W.cell? ⟨ab,ao+k*3,none⟩=some (.string s0)∧W.cell? ⟨ab,ao+k*3+2,none⟩=some (.string s2) from fun W hb=>by
    obtain⟨y0,y1,y2⟩:=(H.out.1.below hb).re.ed_at hx;exact⟨y0,y2⟩)
   have hS:=SR.out _ hbw.out.drew;have HBW:=hIz hbw.out;clear own6 b6 hst hx;go_upto_region 5 with (fail);refine aE (fun W=>W.cell? ⟨ab,ao+k*3,none⟩=some (.string s0)∧W.cell? ⟨ab,ao+k*3+2,none⟩=some (.string s2)) 14 [(0,true),(1,true),(2,true),(3,true),(4,true),(5,true),(6,true),(7,true),(8,true),(9,true),(10,true),(11,false),(12,false),(13,true)] hS ?_
   iterate 11 refine aB rfl ?_
   refine aN rfl rfl (fun K hK=>?_);go_simp;refine hK _ _ (fun _=>SR.out _ (HBW.out.drew.alloc HBW.out.size _)) ?_;clear hK K;(try simp only[Act.put,gA,gS,gZ,sA,sZ,sS])
   refine aN rfl rfl (fun K hK=>?_);refine bI _ _ _ rfl rfl rfl happ ?_;refine hK _ _ (fun _=>SR.out _ HN.out.1) ?_;clear hK K happ;(try simp only[Act.put,gA,gS,gZ,sA,sZ,sS])
   refine aB rfl ?_;refine aF ?_;clear hS x0 x1 x2;go_wp2;go_roundw
   case rel=>exact⟨k+1,by omega,by go_num,hIz HN.out.1,hIz HN.out.2⟩
   case measure=>simp[intOf];omega
  ·obtain rfl:k=E.length:=by omega
   obtain⟨W4,hW4⟩:∃W,W=wr:=⟨_,rfl⟩;subst hW4;obtain⟨A5,c5,rfl,-,-⟩:=aG how.out;obtain⟨n5,hn5⟩:∃n5,(jZ N (E.take E.length)).length=n5:=⟨_,rfl⟩;have ow:=how.out;rw[List.take_length] at ow hn5;have rw4:=aV.of_own ow;have hl5:(jZ N E).length*16≤140737488355328:=by rw[iR];exact hb
   have hsT:=nZ (jZ N E).length W4 A5 c5 (jZ N E) (Nat.le_refl _) rw4 (BI ow) hl5;rw[hn5] at hsT;rw[List.take_length,hn5];have HT:=hIz hsT;have H4:=hIz hbw.out;clear ow hn5 rw4 hsT how hbw hal htl hk hlt hl5;go_wp2_with fail;refine HT.out.mono ?_;rintro e w5 ⟨v5,rfl,own5,b5⟩;obtain⟨M,hM0⟩:∃M,aR ltT (jZ N E)=M:=⟨_,rfl⟩;rw[hM0] at own5;have hM:eX ltT (jZ N E) M:=by rw[← hM0];exact aZ dW _
   have hMl:M.length≤(jZ N E).length:=by rw[← hM0];exact dP dW _
   clear hM0;have eM:M=gN N E:=hM.is dW;have H5:=aI3 own5 (tHn H4.out b5) eM;have hM16:M.length*16≤140737488355328:=by rw[iR] at hMl;omega
   clear hM hMl own5 b5 eM;go_wp2_with fail;refine(dB E.length w5 B d E (Nat.le_refl _) (H.out.1.below H5.out.2.1).re H.out.1.hd he).mono ?_;rintro e w6 ⟨v6,rfl,own6,b6⟩;obtain⟨F,hF0⟩:∃F,aR ltE E=F:=⟨_,rfl⟩;rw[hF0] at own6;have hF:eX ltE E F:=by rw[← hF0];exact aZ jR _
   have hFl:F.length≤E.length:=by rw[← hF0];exact dP jR _
   clear hF0;have eF:F=gE E:=hF.is jR;have hF48:F.length*48≤140737488355328:=by omega
   obtain⟨A6,c6,rfl,hc6,-⟩:=aG H5.out.1;obtain⟨A7,c7,rfl,hc7,-⟩:=aG own6;have o5:=aA H5.out.1 (upF b6) (fun _ _=>id);have H6:=aI6 o5 own6 (tHn H5.out.2.1 b6) eF hc6 hc7;clear hF hFl own6 b6 eF o5 hc6 hc7;go_upto_region 7 with (fail);have k7:=Blk.new w6 34 #[.slice A6 M.length c6,.slice A7 F.length c7];have b7:Below w6.heap.size w6 (w6.alloc (.cells #[.slice A6 M.length c6,.slice A7 F.length c7] 34)):=bR.alloc (Nat.le_refl _) _;have o7:=H6.out.1.alloc (.cells #[.slice A6 M.length c6,.slice A7 F.length c7] 34);have o8:=H6.out.2.1.alloc (.cells #[.slice A6 M.length c6,.slice A7 F.length c7] 34);have H7:=aI4 k7 o7 o8 (tHn H6.out.2.2.1 b7);clear k7 b7 o7 o8;generalize w6.alloc (.cells #[.slice A6 M.length c6,.slice A7 F.length c7] 34)=W7 at H7 ⊢;have q0:W7.cell? ⟨w6.heap.size,0,none⟩=some (.slice A6 M.length c6):=H7.out.1.cell 0;have q1:W7.cell? ⟨w6.heap.size,1,none⟩=some (.slice A7 F.length c7):=H7.out.1.cell 1;have hG:dX W7 A6 c6 A7 c7 M F:=⟨aV.of_own H7.out.2.1,aV.of_own H7.out.2.2.1,H6.out.2.2.2.2.1,H6.out.2.2.2.2.2,wV H.out.2.2.2 H5.out.2.2 H6.out.2.2.2.1 hM16 hF48⟩;have hsh:fW M F:=by rw[H5.out.2.2,H6.out.2.2.2.1];exact lS H.out.2.2.2
   have HG:=aI2 hG hsh;clear hG hsh;go_wp2_with fail;refine(oD W7 A6 c6 A7 c7 M F HG.out.1 HG.out.2).mono ?_;rintro e w8 ⟨rfl,b8⟩;have bb:=tHn H7.out.2.2.2 b8;have k8:=H.out.2.1.upd (upF bb) id;have c0:w8.cell? ⟨w.heap.size,0,none⟩=some (.slice none 0 0):=k8.cell 0;have c1':w8.cell? ⟨w.heap.size,1,none⟩=some (.slice none 0 0):=k8.cell 1;have f0:=k8.frozen 0;have f1:=k8.frozen 1;have k9:=H7.out.1.upd (upF b8) id;have bw:Below w.heap.size w w8:=H.out.2.2.1.trans (bb.mono (by omega));have oT:=aA H7.out.2.1 (upF b8) (fun _ _=>id);have oE:=aA H7.out.2.2.1 (upF b8) (fun _ _=>id);have z7:=H4.out.size;have z5:=H5.out.2.1.size;have fin:∀v0 v1:Value,(w8.setCell ⟨w.heap.size,0,none⟩ v0).setCell ⟨w.heap.size,1,none⟩ v1=(w8.setCell ⟨w.heap.size,0,none⟩ v0).setCell ⟨w.heap.size,1,none⟩ v1∧Blk ((w8.setCell ⟨w.heap.size,0,none⟩ v0).setCell ⟨w.heap.size,1,none⟩ v1) w.heap.size 34 #[v0,v1]∧Upd (fun q=>q=w.heap.size) w8 ((w8.setCell ⟨w.heap.size,0,none⟩ v0).setCell ⟨w.heap.size,1,none⟩ v1):=fun v0 v1 =>
    ⟨rfl,(k8.set 0 v0).set 1 v1,((Upd.refl (fun q=>q=w.heap.size) w8).setCell (p:=⟨w.heap.size,0,none⟩) (.inl rfl) v0).setCell (p:=⟨w.heap.size,1,none⟩) (.inl rfl) v1⟩
   obtain⟨cp,hcp⟩:∃cp,cI M F=cp:=⟨_,rfl⟩;have hcg:cI (gN N E) (gE E)=cp:=by rw[← H5.out.2.2,← H6.out.2.2.2.1];exact hcp
   rw[hcp];by_cases h0:cp=0
   ·subst h0;obtain⟨-,kF,uF⟩:=fin (.slice A6 M.length c6) (.slice A7 F.length c7);have e0:=kF.cell 0;have e1:=kF.cell 1;simp only[List.getElem?_toArray,List.getElem?_cons_succ,List.getElem?_cons_zero] at e0 e1
    have q0:w8.cell? ⟨w6.heap.size,0,none⟩=some (.slice A6 M.length c6):=k9.cell 0;have q1:w8.cell? ⟨w6.heap.size,1,none⟩=some (.slice A7 F.length c7):=k9.cell 1;have post:vI w N E (.returned (.tuple #[bQ A6 M.length c6 A7 F.length c7,.int .i64 0])) ((w8.setCell ⟨w.heap.size,0,none⟩ (.slice A6 M.length c6)).setCell ⟨w.heap.size,1,none⟩ (.slice A7 F.length c7)):=by
     refine .inl ⟨hcg,A6,c6,A7,c7,by rw[← H5.out.2.2,← H6.out.2.2.2.1],?_,?_,bw.trans (uF.below (fun q _ e=>by omega) bw.size)⟩
     ·rw[← H5.out.2.2];exact aJ (aA oT uF (fun q hq e=>by have:=(oT.lt q hq).1;omega)) (fun q hq=>by have:=(oT.lt q hq).1;omega)
     ·rw[← H6.out.2.2.2.1];exact aJ (aA oE uF (fun q hq e=>by have:=(oE.lt q hq).1;omega)) (fun q hq=>by have:=(oE.lt q hq).1;omega)
    have FIN:=hIz post;clear post kF uF fin hcp hcg oT oE k8 k9 bb bw b8;go_wp2;refine bodyPost_ret (v:=.tuple #[bQ A6 M.length c6 A7 F.length c7,.int .i64 0]) (by simp[results,Tryz.f141,go_sem,bQ,e0,e1]) rfl FIN.out
   ·obtain⟨-,kF,uF⟩:=fin (.slice none 0 0) (.slice none 0 0);have e0:=kF.cell 0;have e1:=kF.cell 1;simp only[List.getElem?_toArray,List.getElem?_cons_succ,List.getElem?_cons_zero] at e0 e1
    have post:vI w N E (.returned (.tuple #[bQ none 0 0 none 0 0,.int .i64 cp])) ((w8.setCell ⟨w.heap.size,0,none⟩ (.slice none 0 0)).setCell ⟨w.heap.size,1,none⟩ (.slice none 0 0)):=
     .inr ⟨by rw[hcg];exact h0,by rw[hcg],bw.trans (uF.below (fun q _ e=>by omega) bw.size)⟩
    have FIN:=hIz post;have hne:(cp==0)=false:=by simpa using h0
    have hne2:(cp != 0)=true:=by simpa using h0
    clear post kF uF fin hcp hcg oT oE k8 k9 bb bw b8 h0;go_wp2;refine bodyPost_ret (v:=.tuple #[bQ none 0 0 none 0 0,.int .i64 cp]) (by simp[results,Tryz.f141,go_sem,bQ,e0,e1]) rfl FIN.out
theorem CV(w:World)(A:Option Addr)(c:Nat)(B:Option Addr)(d:Nat)(N:List Txt)(E:List Ed)(h:dX w A c B d N E)(hb:(N.length+E.length*2)*16≤140737488355328) :
  Calls Tryz.prog 98 #[.slice A N.length c,.slice B E.length d] w (OfP w N E):=by
 have k0:=Blk.new w 34 #[.slice none 0 0,.slice none 0 0];have u0:Below w.heap.size w (w.alloc (.cells #[.slice none 0 0,.slice none 0 0] 34)):=bR.alloc (Nat.le_refl _) _;have H:=aI3 (h.below u0) k0 u0;clear h k0 u0;obtain⟨b0,hb0⟩:∃b,bT N E=b:=⟨_,rfl⟩;have HN:=hIz hb0;clear hb0;go_enter Tryz.func98,Tryz.ntmps98;go_upto_region 1 with (fail);generalize w.alloc (.cells #[.slice none 0 0,.slice none 0 0] 34)=W0 at H ⊢;have hz0:w.heap.size+1≤W0.heap.size:=H.out.2.1.lt;go_wp2_with fail;refine(mN W0 A c B d N E H.out.1).mono ?_;rintro e w1 ⟨rfl,b1⟩;rw[HN.out];have k1:=H.out.2.1.upd (upF b1) id;have fin:∀w8:World,Blk w8 w.heap.size 34 #[.slice none 0 0,.slice none 0 0]→∀v0 v1:Value,Blk ((w8.setCell ⟨w.heap.size,0,none⟩ v0).setCell ⟨w.heap.size,1,none⟩ v1) w.heap.size 34 #[v0,v1]∧Upd (fun q=>q=w.heap.size) w8 ((w8.setCell ⟨w.heap.size,0,none⟩ v0).setCell ⟨w.heap.size,1,none⟩ v1):=fun w8 k8 v0 v1 =>
  ⟨(k8.set 0 v0).set 1 v1,((Upd.refl (fun q=>q=w.heap.size) w8).setCell (p:=⟨w.heap.size,0,none⟩) (.inl rfl) v0).setCell (p:=⟨w.heap.size,1,none⟩) (.inl rfl) v1⟩
 have H1:=aI3 (H.out.1.below b1) k1 (tHn H.out.2.2 b1);have FN:=hIz fin;have z1:=b1.size;clear k1 b1 fin;cases b0
 ·have c0:w1.cell? ⟨w.heap.size,0,none⟩=some (.slice none 0 0):=H1.out.2.1.cell 0;have c1':w1.cell? ⟨w.heap.size,1,none⟩=some (.slice none 0 0):=H1.out.2.1.cell 1;have f0:=H1.out.2.1.frozen 0;have f1:=H1.out.2.1.frozen 1;obtain⟨kF,uF⟩:=FN.out _ H1.out.2.1 (.slice none 0 0) (.slice none 0 0);have e0:=kF.cell 0;have e1:=kF.cell 1;simp only[List.getElem?_toArray,List.getElem?_cons_succ,List.getElem?_cons_zero] at e0 e1
  have FIN:=hIz (show OfP w N E (.returned (.tuple #[bQ none 0 0 none 0 0,.int .i64 173])) _ from .inl ⟨HN.out,rfl,H1.out.2.2.trans (uF.below (fun q _ e=>by omega) H1.out.2.2.size)⟩);clear kF uF;go_wp2;refine bodyPost_ret (v:=.tuple #[bQ none 0 0 none 0 0,.int .i64 173]) (by simp[results,Tryz.f98,go_sem,bQ,e0,e1]) rfl FIN.out
 ·go_wp2_with fail;refine(wC w1 A c B d N E H1.out.1 (fW.of HN.out) hb).mono ?_;rintro e w2 (⟨hc,A2,c2,B2,d2,rfl,oT,oE,b2⟩|⟨hc,rfl,b2⟩)
  ·have k2:=H1.out.2.1.upd (upF b2) id;have c0:w2.cell? ⟨w.heap.size,0,none⟩=some (.slice none 0 0):=k2.cell 0;have c1':w2.cell? ⟨w.heap.size,1,none⟩=some (.slice none 0 0):=k2.cell 1;have f0:=k2.frozen 0;have f1:=k2.frozen 1;obtain⟨n,hn⟩:∃n,(gN N E).length=n:=⟨_,rfl⟩;obtain⟨m,hm⟩:∃m,(gE E).length=m:=⟨_,rfl⟩;obtain⟨kF,uF⟩:=FN.out _ k2 (.slice A2 n c2) (.slice B2 m d2);have e0:=kF.cell 0;have e1:=kF.cell 1;simp only[List.getElem?_toArray,List.getElem?_cons_succ,List.getElem?_cons_zero] at e0 e1
   have bw:=tHn H1.out.2.2 b2;have FIN:=hIz (show OfP w N E (.returned (.tuple #[bQ A2 n c2 B2 m d2,.int .i64 0])) _ from .inr ⟨HN.out,.inl ⟨hc,A2,c2,B2,d2,by rw[hn,hm],aJ (aA oT uF (fun q hq e=>by have:=(oT.lt q hq).1;omega)) (fun q hq=>by have:=(oT.lt q hq).1;omega),aJ (aA oE uF (fun q hq e=>by have:=(oE.lt q hq).1;omega)) (fun q hq=>by have:=(oE.lt q hq).1;omega),bw.trans (uF.below (fun q _ e=>by omega) bw.size)⟩⟩);rw[hn,hm];unfold bQ;clear kF uF oT oE b2 bw k2 hc hn hm;go_wp2;refine bodyPost_ret (v:=.tuple #[bQ A2 n c2 B2 m d2,.int .i64 0]) (by simp[results,Tryz.f98,go_sem,bQ,e0,e1]) rfl FIN.out
  ·have k2:=H1.out.2.1.upd (upF b2) id;have c0:w2.cell? ⟨w.heap.size,0,none⟩=some (.slice none 0 0):=k2.cell 0;have c1':w2.cell? ⟨w.heap.size,1,none⟩=some (.slice none 0 0):=k2.cell 1;have f0:=k2.frozen 0;have f1:=k2.frozen 1;obtain⟨cp,hcp⟩:∃cp,cI (gN N E) (gE E)=cp:=⟨_,rfl⟩;obtain⟨kF,uF⟩:=FN.out _ k2 (.slice none 0 0) (.slice none 0 0);have e0:=kF.cell 0;have e1:=kF.cell 1;simp only[List.getElem?_toArray,List.getElem?_cons_succ,List.getElem?_cons_zero] at e0 e1
   have bw:=tHn H1.out.2.2 b2;have FIN:=hIz (show OfP w N E (.returned (.tuple #[bQ none 0 0 none 0 0,.int .i64 cp])) _ from .inr ⟨HN.out,.inr ⟨hc,by rw[hcp],bw.trans (uF.below (fun q _ e=>by omega) bw.size)⟩⟩);rw[hcp];unfold bQ;clear kF uF b2 bw k2 hc hcp;go_wp2;refine bodyPost_ret (v:=.tuple #[bQ none 0 0 none 0 0,.int .i64 cp]) (by simp[results,Tryz.f98,go_sem,bQ,e0,e1]) rfl FIN.out
theorem wD(w:World)(A:Option Addr)(c:Nat)(B:Option Addr)(d:Nat)(N:List Txt)(E:List Ed)(h:dX w A c B d N E)(hb:(N.length+E.length*2)*16≤140737488355328) :
  Calls Tryz.prog 98 #[.slice A N.length c,.slice B E.length d] w (OfQ w N E):=(CV w A c B d N E h hb).mono fun _ _ h=>h.q
def JY(N:List Txt)(E:List Ed):List Txt:=if bP N E=0 then cB N E else []
def xQ(w:World)(N:List Txt)(E:List Ed)(e:Ending)(w':World):Prop:=
 ∃A c B d,e=.returned (.tuple #[.slice A (jB N E).length c,.slice B (JY N E).length d,.int .i64 (bP N E)])∧w'.ownsRow w.heap.size 9 1 (.slice A (jB N E).length c) (jB N E).length (aC (jB N E))∧w'.ownsRow w.heap.size 9 1 (.slice B (JY N E).length d) (JY N E).length (aC (JY N E))∧Below w.heap.size w w'
theorem tS(w:World)(A:Option Addr)(c:Nat)(B:Option Addr)(d:Nat)(N:List Txt)(E:List Ed)(h:dX w A c B d N E) :
  Calls Tryz.prog 109 #[bQ A N.length c B E.length d] w (xQ w N E):=by
 have k0:=Blk.new w 34 #[.slice A N.length c,.slice B E.length d];have u0:Below w.heap.size w (w.alloc (.cells #[.slice A N.length c,.slice B E.length d] 34)):=bR.alloc (Nat.le_refl _) _;have H:=aI3 (h.below u0) k0 u0;clear h k0 u0;obtain⟨z,hz⟩:∃z,bP N E=z:=⟨_,rfl⟩;have HZ:=hIz hz;clear hz;unfold bQ;go_enter Tryz.func109,Tryz.ntmps109;go_upto_region 1 with (fail);generalize w.alloc (.cells #[.slice A N.length c,.slice B E.length d] 34)=W0 at H ⊢;have q0:W0.cell? ⟨w.heap.size,0,none⟩=some (.slice A N.length c):=H.out.2.1.cell 0;have q1:W0.cell? ⟨w.heap.size,1,none⟩=some (.slice B E.length d):=H.out.2.1.cell 1;go_wp2_with fail;refine(mO W0 A c B d N E H.out.1).mono ?_;rintro e W1 ⟨rfl,b1⟩;rw[HZ.out];have UP:=hIz (show ∀W,Below W1.heap.size W1 W→(W.cell? ⟨w.heap.size,0,none⟩=some (.slice A N.length c)∧W.cell? ⟨w.heap.size,1,none⟩=some (.slice B E.length d))∧dX W A c B d N E∧Below w.heap.size w W from fun W hb=>by
  have b:=tHn b1 hb;have k:=H.out.2.1.upd (upF b) id;exact⟨⟨k.cell 0,k.cell 1⟩,H.out.1.below b,tHn H.out.2.2 b⟩)
 clear q0 q1 b1;by_cases h0:z=0
 ·subst h0;have q0:=(UP.out W1 bR).1.1;have q1:=(UP.out W1 bR).1.2;have hS:=(UP.out W1.drew bR.drew).1;go_upto_region 4 with (fail);refine aE (fun W=>W.cell? ⟨w.heap.size,0,none⟩=some (.slice A N.length c)∧W.cell? ⟨w.heap.size,1,none⟩=some (.slice B E.length d)) 8 [(0,true),(1,true),(3,true),(2,false),(4,false),(5,true),(6,true),(7,true)] hS ?_
  iterate 3 refine aB rfl ?_
  refine aN rfl rfl (fun K hK=>?_);go_simp;refine(kD W1.drew B d E (UP.out W1.drew bR.drew).2.1.re (UP.out W1.drew bR.drew).2.1.fit.e).mono ?_;rintro e W2 ⟨v2,rfl,own2,b2⟩;have b12:Below W1.heap.size W1 W2:=(Below.refl W1.heap.size W1).drew.trans b2;have HB2:=aI2 own2 b12;refine hK _ _ (fun _=>(UP.out _ HB2.out.2).1) ?_;clear hK K hS q0 q1 own2 b2 b12;(try simp only[Act.put,gA,gS,gZ,sA,sZ,sS])
  refine aN rfl rfl (fun K hK=>?_);go_simp;refine(oC W2 A c B d N E (UP.out _ HB2.out.2).2.1).mono ?_;rintro e W3 ⟨v3,rfl,own3,b3⟩;have b13:=tHn HB2.out.2 b3;have own2:=aA HB2.out.1 (upF b3) (fun _ _ h=>h);obtain⟨A4,c4,rfl,-,-⟩:=aG own2;obtain⟨A5,c5,rfl,-,-⟩:=aG own3;have e1:jB N E=aR ltT (lbs E):=by rw[jB,if_pos HZ.out]
  have e2:JY N E=cB N E:=by rw[JY,if_pos HZ.out]
  have bw:=(UP.out _ b13).2.2;have hz1:w.heap.size≤W1.heap.size:=(UP.out _ bR).2.2.size;have hz2:W1.heap.size≤W2.heap.size:=HB2.out.2.size;have FIN:=hIz (show xQ w N E (.returned (.tuple #[.slice A4 (aR ltT (lbs E)).length c4,.slice A5 (cB N E).length c5,.int .i64 0])) W3 from⟨A4,c4,A5,c5,by rw[e1,e2,HZ.out],by rw[e1];exact aJ own2 (fun q hq=>by have:=(HB2.out.1.lt q hq).1;have:W1.drew.heap.size=W1.heap.size:=rfl;omega),by rw[e2];exact aJ own3 (fun q hq=>by have:=(own3.lt q hq).1;omega),bw⟩);refine hK _ _ (fun _=>(UP.out _ b13).1) ?_;clear hK K own2 own3 b3 b13 e1 e2 bw;(try simp only[Act.put,gA,gS,gZ,sA,sZ,sS])
  refine aB rfl ?_;refine aB rfl ?_;refine aB rfl ?_;refine aF ?_;go_wp2;refine bodyPost_ret (v:=.tuple #[.slice A4 (aR ltT (lbs E)).length c4,.slice A5 (cB N E).length c5,.int .i64 0]) (by simp[results,Tryz.f109,go_sem]) rfl FIN.out
 ·have h0I:(z==0)=false:=by simpa using h0
  have e1:jB N E=[]:=by rw[jB,if_neg (by rw[HZ.out];exact h0)]
  have e2:JY N E=[]:=by rw[JY,if_neg (by rw[HZ.out];exact h0)]
  have FIN:=hIz (show xQ w N E (.returned (.tuple #[.slice none 0 0,.slice none 0 0,.int .i64 z])) W1 from by
   unfold xQ;rw[e1,e2,HZ.out];exact⟨none,0,none,0,rfl,World.ownsRow_nil _ _ _ _,World.ownsRow_nil _ _ _ _,(UP.out _ bR).2.2⟩)
  clear e1 e2 h0;go_wp2;refine bodyPost_ret (v:=.tuple #[.slice none 0 0,.slice none 0 0,.int .i64 z]) (by simp[results,Tryz.f109,go_sem]) rfl FIN.out
open Go.RowKit
theorem IM(n:Nat)(hn:n=0∨n=1)(w:World):Calls Tryz.prog 210 #[.int .u64 (n:Int)] w (fun e w'=>(∃v:Int,e=.returned (.int .i64 v))∧w'=w):=by
 rcases hn with rfl|rfl
 ·go_enter Tryz.func210,Tryz.ntmps210;go_wp2;go_ret;exact⟨⟨_,rfl⟩,rfl⟩
 ·go_enter Tryz.func210,Tryz.ntmps210;go_wp2;go_ret;exact⟨⟨_,rfl⟩,rfl⟩
theorem OE(n:Nat)(hn:n=0∨n=1)(w:World):Calls Tryz.prog 185 #[.int .u64 (n:Int)] w (fun e w'=>(∃v:Int,e=.returned (.int .i64 v))∧w'=w):=by
 have hcon:=IM n hn w;go_enter Tryz.func185,Tryz.ntmps185;go_wp2_with fail;refine hcon.mono ?_;rintro e w' ⟨⟨v,rfl⟩,hw⟩;subst w';go_wp2;go_ret;exact⟨⟨v,rfl⟩,rfl⟩
theorem OF(n:Nat)(hn:n≤1)(A:Option Addr)(l c:Nat)(f:Value)(w:World):Calls Tryz.prog 201 #[.slice A l c,.int .i64 0,.int .i64 (n:Int),f] w (fun e w'=>(∃v,e=.returned v)∧w'=w):=by
 have h1:¬((1:Int)<(n:Int)):=by omega
 have h2:¬(1<n):=by omega
 go_enter Tryz.func201,Tryz.ntmps201;go_wp2_with fail;go_loopw [8] (fun i wr=>i=.int .i64 1∧wr=w) (fun _ _=>0)
 case atStart=>exact⟨rfl,rfl⟩
 case round =>
  obtain⟨rfl,hw⟩:=hrel;subst hw;go_wp2;(try simp only[Exit.inBlock,Exit.then]);first | exact bodyPost_ret (results_none rfl _ _ _) rfl ⟨⟨_,rfl⟩,rfl⟩ | exact bodyPost_end (results_none rfl _ _ _) rfl ⟨⟨_,rfl⟩,rfl⟩
theorem OG(n:Nat)(hn:n≤1)(A:Option Addr)(l c:Nat)(f:Value)(lim:Int)(w:World):Calls Tryz.prog 184 #[.slice A l c,.int .i64 0,.int .i64 (n:Int),.int .i64 lim,f] w (fun e w'=>(∃v,e=.returned v)∧w'=w):=by
 have hw0:IntKind.i64.wrap (n:Int)=(n:Int):=IntWalk.i64_in _ (by omega);have h1:(n:Int)≤12:=by omega
 have h2:n≤12:=by omega
 have hcon:=OF n hn A l c f;go_enter Tryz.func184,Tryz.ntmps184;go_wp2_with fail;go_loopw [1,2] (fun a b wr=>a=.int .i64 0∧b=.int .i64 (n:Int)∧wr=w) (fun _ _ _=>0)
 case atStart=>exact⟨rfl,rfl,rfl⟩
 case round =>
  obtain⟨rfl,rfl,hw⟩:=hrel;subst hw;go_wp2_with fail;refine(hcon _).mono ?_;rintro e w' ⟨⟨v,rfl⟩,hw⟩;subst w';go_wp2;(try simp only[Exit.inBlock,Exit.then]);first | exact bodyPost_ret (results_none rfl _ _ _) rfl ⟨⟨_,rfl⟩,rfl⟩ | exact bodyPost_end (results_none rfl _ _ _) rfl ⟨⟨_,rfl⟩,rfl⟩
theorem CX(n:Nat)(hn:n≤1)(A:Option Addr)(c:Nat)(f:Value)(w:World):Calls Tryz.prog 157 #[.slice A n c,f] w (fun e w'=>(∃v,e=.returned v)∧w'=w):=by
 have hl:=OE n (by omega) w;have hw0:IntKind.u64.wrap (n:Int)=(n:Int):=by rw[IntKind.wrap_u64];omega
 have hcon:=fun lim=>OG n hn A n c f lim w
 go_enter Tryz.func157,Tryz.ntmps157;go_wp2_with fail;refine hl.mono ?_;rintro e w' ⟨⟨v,rfl⟩,hw⟩;subst w';go_wp2_with fail;refine(hcon v).mono ?_;rintro e w' ⟨⟨v,rfl⟩,hw⟩;subst w';go_wp2;(try simp only[Exit.inBlock,Exit.then]);first | exact bodyPost_ret (results_none rfl _ _ _) rfl ⟨⟨_,rfl⟩,rfl⟩ | exact bodyPost_end (results_none rfl _ _ _) rfl ⟨⟨_,rfl⟩,rfl⟩
open Go.RowKit
theorem MG(x k idx:Nat)(w:World)(hx0:((x:Int)==0)=false)
  (key:IntKind.u64.wrap (bits BinOp.and IntKind.u64 (x:Int) (IntKind.u64.wrap (-(x:Int)))*285870213051353865) / 288230376151711744=(idx:Int))
  (hi:idx<64) (hk:k<64) (hcell:w.cell? ⟨1,idx,none⟩=some (.int .u8 k)) :
  Calls Tryz.prog 187 #[.int .u64 (x:Int)] w (fun e w'=>e=.returned (.int .i64 k)∧w'=w):=by
 go_enter Tryz.func187,Tryz.ntmps187;go_wp2_with (simp only[key]);go_ret;exact⟨rfl,rfl⟩
def iN(w:World):Prop:=TabAt 1 Lib.deBruijn64tab w
theorem iN.upd{w w':World}{G:Nat→Prop}(h:iN w)(hu:Upd G w w')(hl:1<w.heap.size)(hg:¬G 1):iN w':=fun j hj=>by
 rw[hu.cell hl hg];exact h j hj
theorem OH(x:Nat)(hx:x<18446744073709551616)(hx0:x≠0)(w:World)(hT:iN w) :
  Calls Tryz.prog 187 #[.int .u64 (x:Int)] w (fun e w'=>e=.returned (.int .i64 (Lib.ctz 64 x:Nat))∧w'=w):=by
 obtain⟨hlow,hk⟩:=Lib.lowest_bit 64 x hx0 hx;obtain⟨hi,htab⟩:=Lib.deBruijn64_at _ hk;have hcell:=hT _ hi;rw[htab] at hcell;exact MG x _ _ w (by simp;omega) (tz64_key x _ hx hx0 hlow) hi hk hcell
open Go.RowKit
theorem lX{w:World}{O:Nat→Option QRo}{p side dep cnt m:Nat}{last:Int}{L:List (List Nat)}{lv:Value}{pg pc:Nat}(h:QuI w O p side dep cnt m last L (.slice (some ⟨pg,0,none⟩) (m+1) pc) lv){k:Nat}{x:Int}(hx:∀j u,(gR x)[j]?=some u→(qsC m last)[k*4+j]?=some u):w.rangeAt pg (k*4) (gR x):=fun j u hu=>by
 obtain⟨g',c',e',-,-,-,-,hc'⟩:=bC h.rp (by omega);injection e' with e';injection e' with e';injection e' with e';subst e';exact(hc' _ _ (hx j u hu)).1
theorem rT(x:Int)(W:World)(j:Nat)(hj:j<4):(Instr.index 225 (.agg (gR x).toArray) (.int .i64 (j:Int))).run Tryz.prog W=.ok (.int .i64 (if j=0 then x else 0)) W:=by
 obtain rfl|rfl|rfl|rfl:j=0∨j=1∨j=2∨j=3:=by omega
 ·kernel_rfl
 ·kernel_rfl
 ·kernel_rfl
 ·kernel_rfl
theorem CY(W:World)(j:Nat)(hj:j<4):(Instr.index 225 (.agg (gR 0).toArray) (.int .i64 (j:Int))).run Tryz.prog W=.ok (.int .i64 0) W:=by
 rw[rT 0 W j hj,ite_self]
theorem CZ(w:World)(O:Nat→Option QRo)(p side dep cnt:Nat)(pv lv:Value)(h:QuI w O p side dep cnt 0 0 [] pv lv)(l:Int)(g1 g3 g4:Nat)(c1:w.cell? ⟨g1,0,none⟩=some (.pointer (some ⟨p,0,none⟩))) :
  Calls Tryz.prog 156 #[.int .i64 0,.int .i64 l,.int .i64 0,.int .i64 0,.pointer (some ⟨g1,0,none⟩),.pointer (some ⟨g3,0,none⟩),.pointer (some ⟨g4,0,none⟩)] w (fun e w'=>e=.returned (.tuple #[])∧w'=w):=by
 obtain⟨pg,pc,e,-,-,-,-,-⟩:=bC h.rp (by omega);subst e;have q3:w.cell? ⟨p,3,none⟩=some (.slice (some ⟨pg,0,none⟩) 1 pc):=h.blk.cell 3;have hrg:w.rangeAt pg 0 (gR 0):=lX (k:=0) h (fun j u hu=>by rw[Nat.zero_mul,Nat.zero_add];exact hu);have hsz:(Tryz.prog.info? 225).map (·.size)=some (gR 0).length:=by kernel_rfl
 clear h;go_enter Tryz.func156,Tryz.ntmps156;go_wp2_with (first | (refine wpList_load_mid rfl 225 _ rfl pg 0 rfl (gR 0) (.array 4 3) hrg Tryz.underlying225 rfl hsz ?_) | fail);clear c1 q3 hrg hsz;have HX:=hIz (CY);generalize (gR 0).toArray=arr at HX ⊢;go_loopw [22] (fun a wr=>∃j:Nat,j≤4∧a=.int .i64 (j:Int)∧wr=w) (fun a _=>(4-intOf a).toNat)
 case atStart=>exact⟨0,by omega,rfl,rfl⟩
 case round =>
  obtain⟨j,hj,rfl,hw⟩:=hrel;subst hw;by_cases hlt:j<4
  ·have hltI:(j:Int)<(4:Int):=by omega
   have hkw:IntKind.i64.wrap ((j:Int)+1)=(j:Int)+1:=IntWalk.i64_in _ (by omega);have hge:(0:Int)≤(j:Int):=by omega
   have hix:=HX.out wr j hlt;go_wp2;go_roundw
   case rel=>exact⟨j+1,by omega,by go_num,by first | rfl | trivial⟩
   case measure=>simp[intOf] <;> omega
  ·obtain rfl:j=4:=by omega
   go_wp2;(try simp only[Exit.inBlock,Exit.then])
   exact bodyPost_end (results_none rfl _ _ _) rfl (by first | exact⟨rfl,rfl⟩ | exact⟨rfl,trivial⟩)
open Go.RowKit
def plC(r:List Nat):List Value:=.int .i64 0::.int .i64 0::wdC r
theorem oM{r:List Nat}(hr:Wd r):(plC r).length=66:=by simp[plC,gD,hr.len]
theorem DA(r:List Nat):∀u∈plC r,u.oneCell'=true:=fun u hu=>by
 simp only[plC,wdC,List.mem_cons,List.mem_map] at hu
 rcases hu with rfl|rfl|⟨x,-,rfl⟩ <;> rfl
theorem wE{r:List Nat}(hr:Wd r)(cells:Array Value)(hc:cells.size=66) :
  Instr.fill (fun i=>#[(0,2),(2,64)][i]?) cells [(0,.agg #[.int .i64 0,.int .i64 0]),(1,wdV r)]=some (plC r).toArray:=by
 have hl:(wdC r).length=64:=by rw[gD,hr.len]
 obtain⟨s1,k1⟩:=Go.Great.foldl_set 0 [.int .i64 0,.int .i64 0] 0 cells;obtain⟨s2,k2⟩:=Go.Great.foldl_set 2 (wdC r) 0 (([Value.int .i64 0,.int .i64 0].zipIdx 0).foldl (fun cs (x:Value × Nat)=>cs.setIfInBounds (0+x.2) x.1) cells);have e:Instr.fill (fun i=>#[(0,2),(2,64)][i]?) cells [(0,.agg #[.int .i64 0,.int .i64 0]),(1,wdV r)]=some (((wdC r).zipIdx 0).foldl (fun cs (x:Value × Nat)=>cs.setIfInBounds (2+x.2) x.1) (([Value.int .i64 0,.int .i64 0].zipIdx 0).foldl (fun cs (x:Value × Nat)=>cs.setIfInBounds (0+x.2) x.1) cells)):=by
  simp[Instr.fill,wdV,Value.cells,hl,hc]
 rw[e];congr 1
 apply Array.ext_getElem?
 intro k;rw[k2 k,s1,hc,hl];by_cases h2:2+0≤k∧k<2+0+64∧k<66
 ·rw[if_pos h2];obtain⟨j,rfl⟩:∃j,k=j+2:=⟨k-2,by omega⟩;simp[plC]
 ·rw[if_neg h2,k1 k];by_cases h0:k<2
  ·rw[if_pos (by simp;omega)];obtain rfl|rfl:k=0∨k=1:=by omega
   ·simp[plC]
   ·simp[plC]
  ·rw[if_neg (by simp;omega)];have:(plC r).length≤k:=by rw[oM hr];omega
   simp[hc,this]
   omega
theorem tT{r:List Nat}(hr:Wd r)(w:World):(Instr.build 196 #[(0,.agg #[.int .i64 0,.int .i64 0]),(1,wdV r)]).run Tryz.prog w=.ok (.agg (plC r).toArray) w:=by
 refine run_build w _ _ _ ?_;obtain⟨cells,hc,hb⟩:∃cells:Array Value,cells.size=66∧∀ps,Tryz.prog.built 196 ps=Instr.fill (fun i=>#[(0,2),(2,64)][i]?) cells ps:=⟨(List.replicate 2 (Value.int .i64 0)++List.replicate 64 (Value.int .u64 0)).toArray,by decide,fun ps=>by kernel_rfl⟩;rw[hb];exact wE hr cells hc
theorem wF:(Tryz.prog.info? 196).map (fun i=>(i.zero.isSome,i.size,i.bytes))=some (true,66,528):=by kernel_rfl
theorem tU{r:List Nat}(hr:Wd r)(w:World):(Instr.buildSlice 192 1 #[(0,.agg (plC r).toArray)]).run Tryz.prog w=.ok (.slice (some ⟨w.heap.size,0,none⟩) 1 1) (w.alloc (.cells (plC r).toArray 196)):=by
 obtain⟨ie,z,hie,hz,hs⟩:∃ie z,Tryz.prog.info? 196=some ie∧ie.zero=some z∧ie.size=66:=by
  have h:=wF;cases hi:Tryz.prog.info? 196 with
  | none=>rw[hi] at h;cases h
  | some ie =>
   rw[hi] at h;simp only[Option.map_some,Option.some.injEq,Prod.mk.injEq] at h
   obtain⟨h1,h2,h3⟩:=h;obtain⟨z,hz⟩:=Option.isSome_iff_exists.1 h1;exact⟨ie,z,rfl,hz,h2⟩
 refine run_buildSlice w _ 196 1 _ _ ie z Tryz.underlying192 hie hz (by rw[hs];decide) (by rw[hs];decide) ?_;rw[hs];have hl:(Value.agg (plC r).toArray).cells.size=66:=by simp[Value.cells,oM hr]
 have:=Go.Great.fill_whole (s:=66) (by decide) [Value.agg (plC r).toArray] ((Array.range (1*66)).map (z.cells[· % z.cells.size]!)) (fun v hv=>by rw[List.mem_singleton.1 hv];exact hl) (by simp);simpa[Value.cells] using this
open Go.RowKit
def lY(w:World)(g3:Nat)(r:List Nat)(w':World):Prop:=
 ∃A c,w'.cell? ⟨g3,0,none⟩=some (.slice A 1 c)∧w'.ownsRow 0 196 66 (.slice A 1 c) 1 (plC r)∧Upd (fun k=>k=g3) w w'∧∀k,(Value.slice A 1 c).ownBlock=some k→w.heap.size≤k
theorem tV:∃z,z.cells.size=66∧(Tryz.prog.info? 196).map (fun i=>(i.zero,i.size,i.bytes))=some (some z,66,528):=⟨.agg (List.replicate 2 (Value.int .i64 0)++List.replicate 64 (Value.int .u64 0)).toArray,by decide,by kernel_rfl⟩
theorem DB{w:World}{r:List Nat}(hr:Wd r)(g3:Nat)(hg:g3<w.heap.size)(hfz:w.frozen? ⟨g3,0,none⟩=false)(hl:∃ty,Blk w g3 ty #[.slice none 0 0]):∃A c W2,(Builtin.append_ #[192,192] 192 #[.slice none 0 0,.slice (some ⟨w.heap.size,0,none⟩) 1 1]).run Tryz.prog (w.alloc (.cells (plC r).toArray 196))=.ok (.slice A 1 c) W2∧Upd (fun _=>False) w W2∧W2.frozen? ⟨g3,0,none⟩=false∧lY w g3 r (W2.setCell ⟨g3,0,none⟩ (.slice A 1 c)):=by
 obtain⟨z,hz,hi⟩:=tV;obtain⟨v2,W2,happ,own2,u2,p2⟩:=eV w 0 192 196 66 528 z Tryz.underlying192 hi hz (by decide) (.slice none 0 0) 0 [] (World.ownsRow_nil _ _ _ _) (plC r) 1 (by rw[oM hr]) (DA r) (by omega) (by unfold maxLen;omega) (Nat.zero_le _);obtain⟨A,c,rfl,-,-⟩:=aG own2;obtain⟨ty,kb⟩:=hl;have u3:Upd (fun _=>False) w W2:=u2.mono (fun k _ hk=>by simp[Value.ownBlock] at hk);have kb2:=kb.upd u3 (fun h=>h);have us:=(Upd.refl (fun k=>k=g3) W2).setCell (p:=⟨g3,0,none⟩) (.inl rfl) (.slice A 1 c);have pl:∀k,(Value.slice A 1 c).ownBlock=some k→w.heap.size≤k:=fun k hk=>by
  rcases p2 k hk with h1|h1
  ·simp[Value.ownBlock] at h1
  ·exact h1
 exact⟨A,c,W2,happ,u3,kb2.frozen 0,A,c,(kb2.set 0 (.slice A 1 c)).cell 0,aA own2 us (fun k hk e=>by have:=pl k hk;omega),(u3.mono (fun _ _ h=>h.elim)).trans us (fun k hk=>.inl hk),pl⟩
open Go.RowKit
section
variable {P:Program} {ops:Array Oper} {Q:Exit→Act→World→Prop} {S:World→Prop} {n:Nat}
theorem DC{i:Nat}{r:List (Nat × Bool)}{a:Act}{w:World}{oi:Oper}{v:Value}(hi:ops[i]?=some oi)(hw:Region.wanted oi (yielded ops a.tmps)=true)(ty:TypeId)(parts:Array (Nat × Operand))(ho:oi.op=.build ty parts)
  (vals:Array (Nat × Value)) (hv:parts.map (fun (i,x)=>(i,a.eval x))=vals) (hb:∀w,(Instr.build ty vals).run P w=.ok v w) (h:fH P ops Q S n r (a.put oi.dst v) w):fH P ops Q S n ((i,true)::r) a w:=
 qR hi hw (fun w _=>by unfold execOp;simp only[ho,hv,Sem.run_bind,hb,Result.andThen_ok];rfl) h
theorem rU{o:Oper}{a:Act}{w w':World}{K:Act→World→Prop}{v:Value}(ty:TypeId)(len:Nat)(parts:Array (Nat × Operand))(ho:o.op=.buildSlice ty len parts)
  (vals:Array (Nat × Value)) (hv:parts.map (fun (i,x)=>(i,a.eval x))=vals) (hb:(Instr.buildSlice ty len vals).run P w=.ok v w') (h:K (a.put o.dst v) w'):o.wp P a w K Q:=by
 unfold Oper.wp execOp;simp only[ho,hv,Sem.run_bind,hb,Result.andThen_ok]
 exact h
theorem fA{o:Oper}{a:Act}{w w':World}{K:Act→World→Prop}{v v2 v':Value}(s x:Operand)(t:TypeId)
  (ho:o.op=.call { callee:=.builtin .append,args:=#[s,x],argTypes:=#[t,t] }) (hs:a.eval s=v) (hx:a.eval x=v2)
  (hrun:(Builtin.append_ #[t,t] o.type #[v,v2]).run P w=.ok v' w') (h:K (a.put o.dst v') w'):o.wp P a w K Q:=by
 unfold Oper.wp execOp;simp only[ho,resolve,invoke,builtin,Sem.run_bind,Sem.run_pure,Result.andThen_ok,List.map_toArray,List.map_cons,List.map_nil,hs,hx,hrun]
 exact h
end
theorem DD(w:World)(O:Nat→Option QRo)(p side dep cnt m:Nat)(r:List Nat)(pv lv:Value)(h:QuI w O p side dep cnt m 1 [r] pv lv)(hr:Wd r)(hm:m≤4)(g1 g3 g4:Nat)(k1:∃ty,Blk w g1 ty #[.pointer (some ⟨p,0,none⟩)])(k3:∃ty,Blk w g3 ty #[.slice none 0 0]) :
  Calls Tryz.prog 156 #[.int .i64 (m:Int),.int .i64 0,.int .i64 0,.int .i64 0,.pointer (some ⟨g1,0,none⟩),.pointer (some ⟨g3,0,none⟩),.pointer (some ⟨g4,0,none⟩)] w (fun e w'=>e=.returned (.tuple #[])∧lY w g3 r w'):=by
 obtain⟨pg,pc,e,-,-,-,-,-⟩:=bC h.rp (by omega);subst e;obtain⟨lg,lc,e,-,-,-,-,-⟩:=bC h.rl (by simp);subst e;have c1:w.cell? ⟨g1,0,none⟩=some (.pointer (some ⟨p,0,none⟩)):=by obtain⟨ty,k⟩:=k1;exact k.cell 0
 obtain⟨n,hn⟩:∃n,m+1=n:=⟨_,rfl⟩;have q3:w.cell? ⟨p,3,none⟩=some (.slice (some ⟨pg,0,none⟩) n pc):=by rw[← hn];exact h.blk.cell 3
 have hmn:(m:Int)<(n:Int):=by omega
 have hrg:w.rangeAt pg (m*4) (gR 1):=lX (k:=m) h (fun j u hu=>by
  have hq:qsC m 1=((List.range m).flatMap fun (i:Nat)=>gR ((i:Int)+2))++gR 1:=rfl;have hlen:((List.range m).flatMap fun (i:Nat)=>gR ((i:Int)+2)).length=m*4:=by
   have:=vX m 1;rw[hq,List.length_append] at this;simp only[gR,List.length_cons,List.length_nil] at this ⊢
   omega
  rw[hq,List.getElem?_append_right (by omega),hlen,Nat.add_sub_cancel_left];exact hu)
 have hsz:(Tryz.prog.info? 225).map (·.size)=some (gR 1).length:=by kernel_rfl
 have hszr:(Tryz.prog.info? 168).map (·.size)=some (wdC r).length:=fS hr;have SR:=hIz (show ∀W,Below w.heap.size w W→W.cell? ⟨g3,0,none⟩=some (.slice none 0 0)∧W.cell? ⟨g1,0,none⟩=some (.pointer (some ⟨p,0,none⟩))∧W.cell? ⟨p,4,none⟩=some (.slice (some ⟨lg,0,none⟩) 1 lc)∧W.rangeAt lg 0 (wdC r) from fun W hb=>by
  have hi:=h.upd (upF hb) (fun _ _=>id);obtain⟨t1,b1⟩:=k1;obtain⟨t3,b3⟩:=k3;refine⟨(b3.upd (upF hb) (fun h=>h)).cell 0,(b1.upd (upF hb) (fun h=>h)).cell 0,hi.blk.cell 4,fun j u hu=>?_⟩;obtain⟨g',c',e',-,-,-,-,hc'⟩:=bC hi.rl (by simp);injection e' with e';injection e' with e';injection e' with e';subst e';rw[Nat.zero_add];exact(hc' j u (by simpa[lfC] using hu)).1)
 have KD:=aI2 hr k3;clear h k1 k3 hn;go_enter Tryz.func156,Tryz.ntmps156;go_wp2_with (first | (refine wpList_load_mid rfl 225 _ rfl pg (m*4) rfl (gR 1) (.array 4 3) hrg Tryz.underlying225 rfl hsz ?_) | fail);clear c1 q3 hrg hsz;have HX:=hIz (rT 1);generalize (gR 1).toArray=arr at HX ⊢;go_loopw [22] (fun a wr=>∃j:Nat,j≤4∧a=.int .i64 (j:Int)∧Hid (j=0∧wr=w∨0<j∧lY w g3 r wr)) (fun a _=>(4-intOf a).toNat)
 case atStart=>exact⟨0,by omega,rfl,hIz (.inl ⟨rfl,rfl⟩)⟩
 case round =>
  obtain⟨j,hj,rfl,hq⟩:=hrel;by_cases hlt:j<4
  ·by_cases h0:j=0
   ·subst h0;obtain rfl:wr=w:=by rcases hq.out with ⟨-,e⟩|⟨e,-⟩ <;> first|exact e|omega
    clear hq hlt;have hix:(Instr.index 225 (.agg arr) (.int .i64 0)).run Tryz.prog wr=.ok (.int .i64 1) wr:=HX.out wr 0 (by decide);have b1:bits .or .i64 0 0=0:=by decide
    have b2:bits .and .i64 0 1=0:=by decide
    go_upto_region 7 with (fail);clear b1 b2;have HB:=hIz (show Below wr.heap.size wr wr.drew from bR.drew);have hS:=SR.out wr.drew HB.out;refine aE (fun W=>W.cell? ⟨g3,0,none⟩=some (.slice none 0 0)∧W.cell? ⟨g1,0,none⟩=some (.pointer (some ⟨p,0,none⟩))∧W.cell? ⟨p,4,none⟩=some (.slice (some ⟨lg,0,none⟩) 1 lc)∧W.rangeAt lg 0 (wdC r)) 15 [(0,true),(1,true),(2,true),(3,true),(4,true),(5,true),(6,true),(7,true),(8,true),(9,true),(10,true),(11,true),(12,true),(13,false),(14,false),(15,false)] hS ?_;generalize wr.drew=V0 at HB hS ⊢;have hw00:IntKind.i64.wrap 0=0:=by decide
    iterate 11 refine aB rfl ?_
    (refine kR rfl (by first | with_reducible rfl | kernel_rfl) 168 _ rfl lg 0 rfl (wdC r) (.array 64 166) (fun _ h=>h.2.2.2) Tryz.underlying168 rfl hszr ?_;(try simp only[Act.put,gA,gS,gZ,sA,sZ,sS]))
    have hbp:∀W,(Instr.build 196 #[(0,.agg #[.int .i64 0,.int .i64 0]),(1,.agg (wdC r).toArray)]).run Tryz.prog W=.ok (.agg (plC r).toArray) W:=fun W=>tT KD.out.1 W
    (refine DC rfl (by first | with_reducible rfl | kernel_rfl) 196 _ rfl #[(0,.agg #[.int .i64 0,.int .i64 0]),(1,.agg (wdC r).toArray)] (by first | with_reducible rfl | kernel_rfl) hbp ?_;(try simp only[Act.put,gA,gS,gZ,sA,sZ,sS]))
    clear hbp;have hbs:=tU KD.out.1 V0;have k3:∃ty,Blk V0 g3 ty #[.slice none 0 0]:=by obtain⟨ty,k⟩:=KD.out.2;exact⟨ty,k.upd (upF HB.out) (fun h=>h)⟩
    have hg3:g3<V0.heap.size:=by obtain⟨ty,k⟩:=k3;exact k.lt
    have hf3:V0.frozen? ⟨g3,0,none⟩=false:=by obtain⟨ty,k⟩:=k3;exact k.frozen 0
    obtain⟨A,c,W2,happ,u2,f2,D⟩:=DB KD.out.1 g3 hg3 hf3 k3;have HD:=aI2 u2 D;clear u2 D k3;have hS1:=SR.out (V0.alloc (.cells (plC r).toArray 196)) (HB.out.alloc HB.out.size _);generalize (plC r).toArray=pla at hbs happ hS1 ⊢;refine aN rfl rfl (fun K hK=>?_);refine rU 192 1 _ rfl #[(0,.agg pla)] (by first | with_reducible rfl | kernel_rfl) hbs ?_;refine hK _ _ (fun _=>hS1) ?_;clear hK K hbs;(try simp only[Act.put,gA,gS,gZ,sA,sZ,sS])
    refine aN rfl rfl (fun K hK=>?_);have hS2:=SR.out W2 (HB.out.trans (Below.mono (show Below V0.heap.size V0 W2 from⟨HD.out.1.os,HD.out.1.tape,HD.out.1.output,HD.out.1.size,fun k hk=>HD.out.1.block k hk (fun h=>h)⟩) HB.out.size));refine fA _ _ _ rfl rfl rfl happ ?_;refine hK _ _ (fun _=>?_) ?_
    ·exact hS2
    obtain⟨qW,-,-,-⟩:=hS2;clear hK K happ;(try simp only[Act.put,gA,gS,gZ,sA,sZ,sS])
    refine aN rfl rfl (fun K hK=>?_);go_simp;refine hK _ _ (fun h=>absurd rfl h) ?_;clear hK K;(try simp only[Act.put,gA,gS,gZ,sA,sZ,sS])
    refine aF ?_;have FIN:=hIz (show lY wr g3 r (W2.setCell ⟨g3,0,none⟩ (.slice A 1 c)) by
     obtain⟨-,A',c',e1,e2,e3,e4⟩:=HD.out;exact⟨A',c',e1,e2,(Upd.of_below HB.out _).trans e3 (fun _ h=>.inl h),fun k hk=>Nat.le_trans HB.out.size (e4 k hk)⟩)
    go_wp2;go_roundw
    case rel=>exact⟨1,by omega,by go_num,hIz (.inr ⟨by omega,FIN.out⟩)⟩
    case measure=>simp[intOf] <;> omega
   ·have hix:(Instr.index 225 (.agg arr) (.int .i64 (j:Int))).run Tryz.prog wr=.ok (.int .i64 0) wr:=by have:=HX.out wr j hlt;rwa [if_neg h0] at this
    have hltI:(j:Int)<(4:Int):=by omega
    have hkw:IntKind.i64.wrap ((j:Int)+1)=(j:Int)+1:=IntWalk.i64_in _ (by omega);have hge:(0:Int)≤(j:Int):=by omega
    have hD:=hIz (show 0<j+1∧lY w g3 r wr from by rcases hq.out with ⟨e,-⟩ | ⟨-,e⟩;exact absurd e h0;exact⟨by omega,e⟩);clear hq;go_wp2;go_roundw
    case rel=>exact⟨j+1,by omega,by go_num,hIz (.inr hD.out)⟩
    case measure=>simp[intOf] <;> omega
  ·obtain rfl:j=4:=by omega
   have FIN:=hIz (show lY w g3 r wr by rcases hq.out with ⟨e,-⟩ | ⟨-,e⟩;exact absurd e (by decide);exact e);clear hq;go_wp2;(try simp only[Exit.inBlock,Exit.then])
   exact bodyPost_end (results_none rfl _ _ _) rfl ⟨rfl,FIN.out⟩
open Go.RowKit Go.Shelf
def ceC(x:Nat × Nat):List Value:=[.int .i64 (x.1:Int),.int .i64 (x.2:Int)]
def aY(L:List (Nat × Nat)):List Value:=L.flatMap ceC
theorem oN(L:List (Nat × Nat)):(aY L).length=L.length*2:=dS ceC 2 (fun _=>rfl) L
theorem jM(L M:List (Nat × Nat)):aY (L++M)=aY L++aY M:=by simp[aY]
theorem OI(x:Nat × Nat):∀u∈ceC x,u.oneCell'=true:=by
 intro u hf;simp[ceC] at hf
 rcases hf with rfl|rfl <;> rfl
theorem zI:Tryz.prog.stoodInHeld 83=false:=by kernel_rfl
theorem tW(W:World)(a b:Int)(k:Nat)(x:Int)(h:[a,b][k]?=some x):(part 3 #[.int .i64 a,.int .i64 b] k).run Tryz.prog W=.ok (.int .i64 x) W:=by
 match k,h with
 | 0,h=>simp at h;subst h;simp[part,isAgg,run_underlying Tryz.underlying3]
 | 1,h=>simp at h;subst h;simp[part,isAgg,run_underlying Tryz.underlying3]
 | k+2,h=>simp at h
theorem aV.ce{w:World}{A:Option Addr}{L:List (Nat × Nat)}(h:aV w A (aY L)){k:Nat}{x:Nat × Nat}(hk:L[k]?=some x) :
  ∃b o,A=some ⟨b,o,none⟩∧w.cell? ⟨b,o+k*2,none⟩=some (.int .i64 (x.1:Int))∧w.cell? ⟨b,o+k*2+1,none⟩=some (.int .i64 (x.2:Int)):=by
 have hg:=fun j (hj:j<2)=>dR ceC 2 (fun _=>rfl) L k j x hk hj
 obtain⟨b,o,rfl,h0⟩:=h _ _ (hg 0 (by omega));obtain⟨b1,o1,e1,h1⟩:=h _ _ (hg 1 (by omega));injection e1 with e1;injection e1 with e1 e1';subst e1;subst e1';exact⟨_,_,rfl,h0,h1⟩
theorem eC{w:World}{base e size n c m:Nat}{A:Option Addr}{xs:List Value}(h:w.ownsRow base e size (.slice A n c) m xs):n≤c:=by
 obtain⟨A',c',e1,h1,-⟩:=aG h;injection e1 with e1 e2 e3;omega
theorem aW{W:World}{z:Nat}{t:TypeId}{p q r:Value}(k:Blk W z t #[p,q,r])(a b c:Value):Blk (((W.setCell ⟨z,0,none⟩ a).setCell ⟨z,1,none⟩ b).setCell ⟨z,2,none⟩ c) z t #[a,b,c]:=((k.set 0 a).set 1 b).set 2 c
theorem aX(W:World)(z:Nat)(a b c:Value):Upd (fun q=>q=z) W (((W.setCell ⟨z,0,none⟩ a).setCell ⟨z,1,none⟩ b).setCell ⟨z,2,none⟩ c):=
 (((Upd.refl (fun q=>q=z) W).setCell (p:=⟨z,0,none⟩) (.inl rfl) a).setCell (p:=⟨z,1,none⟩) (.inl rfl) b).setCell (p:=⟨z,2,none⟩) (.inl rfl) c
def OW(N:List Txt)(s:Txt)(k:Int):Prop:=(∃i:Nat,k=(i:Int)∧N[i]?=some s∧∀j,j<i→N[j]?≠some s)∨(k = -1∧s ∉ N)
theorem dD(w:World)(b:Bool)(A:Option Addr)(c:Nat)(N:List Txt)(hN:aV w A (aC N))(hl:N.length≤140737488355328)(u:Value)(s:Txt) :
  Calls Tryz.prog 54 #[.agg #[.bool b,.slice A N.length c,u],.string s] w (fun e w'=>∃k:Int,e=.returned (.int .i64 k)∧OW N s k∧Below w.heap.size w w'):=by
 obtain⟨n,hn⟩:∃n,N.length=n:=⟨_,rfl⟩;rw[hn] at hl ⊢;have b1:Below w.heap.size w (w.alloc (.cells #[.bool b,.slice A n c,u] 29)):=bR.alloc (Nat.le_refl _) _;have k1:=Blk.new w 29 #[.bool b,.slice A n c,u];have H:=aI4 b1 k1 (hN.below b1) hn;clear b1 k1 hN hn;go_enter Tryz.func54,Tryz.ntmps54;go_upto_region 1 with (fail);generalize w.alloc (.cells #[.bool b,.slice A n c,u] 29)=W0 at H ⊢;go_wp2;go_loopw [5] (fun iv wr=>∃i:Nat,i≤n∧iv=.int .i64 (i:Int)∧Hid (Below W0.heap.size W0 wr)∧Hid (∀j,j<i→N[j]?≠some s)) (fun iv _=>n-(intOf iv).toNat)
 case atStart=>exact⟨0,Nat.zero_le _,rfl,hIz bR,hIz (fun j hj=>by omega)⟩
 case round =>
  obtain⟨i,hi,rfl,hb,hall⟩:=hrel;have q1:wr.cell? ⟨w.heap.size,1,none⟩=some (.slice A n c):=(H.out.2.1.upd (upF hb.out) id).cell 1;have HB:=hIz (tHn H.out.1 hb.out);by_cases hin:i<n
  ·have hiI:(i:Int)<(n:Int):=by omega
   have hkw:IntKind.i64.wrap ((i:Int)+1)=(i:Int)+1:=IntWalk.i64_in _ (by omega);obtain⟨x,hx⟩:∃x,N[i]?=some x:=⟨N[i]'(by rw[H.out.2.2.2];exact hin),gEz _⟩;obtain⟨ab,ao,rfl,x0⟩:=(H.out.2.2.1.below hb.out).txt hx;by_cases hxs:x=s
   ·have he:(ByteArray.toList x==ByteArray.toList s)=true:=by rw[txt_beq];exact decide_eq_true hxs
    have FIN:=hIz (show OW N s (i:Int) from .inl ⟨i,rfl,by rw[hx,hxs],hall.out⟩);clear hx hxs;go_wp2;go_ret;exact⟨_,rfl,FIN.out,HB.out⟩
   ·have he:(ByteArray.toList x==ByteArray.toList s)=false:=by rw[txt_beq];exact decide_eq_false hxs
    have FIN:=hIz (show ∀j,j<i+1→N[j]?≠some s from fun j hj e=>by
     rcases Nat.lt_succ_iff_lt_or_eq.1 hj with h|rfl
     ·exact hall.out j h e
     ·rw[hx] at e;exact hxs (Option.some.inj e))
    clear hx hxs;go_wp2;go_roundw
    case rel=>exact⟨i+1,by omega,by go_num,hb,FIN⟩
    case measure=>simp[intOf];omega
  ·obtain rfl:i=n:=by omega
   have hiI:¬(i:Int)<(i:Int):=by omega
   have FIN:=hIz (show OW N s (-1) from .inr ⟨rfl,fun hm=>by
    obtain⟨j,hj⟩:=List.getElem?_of_mem hm;have:=(gO.1 hj).1;have:=H.out.2.2.2;exact hall.out j (by omega) hj⟩)
   go_wp2;go_ret;exact⟨_,rfl,FIN.out,HB.out⟩
open Go.RowKit
theorem iB(w:World)(A:Option Addr)(c:Nat)(B:Option Addr)(d:Nat)(N M:List Txt)(h:aV w A (aC N))(k:aV w B (aC M))(hc:N.length≤c)(hd:M.length≤d)(hl:N.length*16≤140737488355328)(hl2:M.length*16≤140737488355328) :
  Calls Tryz.prog 65 #[.slice A N.length c,.slice B M.length d] w (Sam w (.bool (decide (N=M)))):=by
 have HH:=aI2 h k;clear h k;by_cases hlen:N.length=M.length
 ·obtain⟨n,hn⟩:∃n,M.length=n:=⟨_,rfl⟩;rw[hn] at hlen hd hl2 ⊢;have HN:=aI2 hn hlen;have hNn:N.length≤n:=by omega
  have hnN:n≤N.length:=by omega
  have hnM:n≤M.length:=by omega
  rw[hlen] at hc hl ⊢;clear hn hlen;go_enter Tryz.func65,Tryz.ntmps65;go_wp2_with fail;go_loopw [5] (fun iv wr=>∃k q:Nat,k≤n∧iv=.int .i64 k∧wr=w.drewN q∧Hid (∀j,j<k→N[j]?=M[j]?)) (fun iv _=>n-(intOf iv).toNat)
  case atStart=>exact⟨0,0,Nat.zero_le _,rfl,rfl,hIz (fun j hj=>by omega)⟩
  case round =>
   obtain⟨k,q,hk,rfl,rfl,hall⟩:=hrel;have hkw:IntKind.i64.wrap ((k:Int)+1)=(k:Int)+1:=IntWalk.i64_in _ (by omega);by_cases hlt:k<n
   ·have hltI:(k:Int)<(n:Int):=by omega
    obtain⟨x,hx⟩:∃x,N[k]?=some x:=⟨N[k],gEz _⟩;obtain⟨y,hy⟩:∃y,M[k]?=some y:=⟨M[k]'(by omega),gEz _⟩;obtain⟨ab,ao,rfl,x0⟩:=HH.out.1.txt hx;obtain⟨bb,bo,rfl,y0⟩:=HH.out.2.txt hy;have hneq:(!(x.toList==y.toList))=!decide (x=y):=by rw[vH]
    have HXY:=aI2 hx hy;clear hx hy;by_cases he:x=y
    ·rw[decide_eq_true he] at hneq;have HE:=hIz he;clear he;go_upto_region 6 with (fail);refine aO (fun w'=>w'.cell? ⟨ab,ao+k,none⟩=some (.string x)∧w'.cell? ⟨bb,bo+k,none⟩=some (.string y)) 9 [(0,true),(1,true),(2,true),(3,true),(4,true),(5,true),(6,true),(7,true),(8,true)] (by kernel_rfl) (by kernel_rfl) (fun _ _ d _ _ h=>by cases d <;> exact h) ⟨x0,y0⟩ ?_
     iterate 9 refine aB rfl ?_
     refine aF ?_;go_wp2;go_roundw
     case rel=>exact⟨k+1,q+1,by omega,by go_num,rfl,hIz (fun j hj=>by
      rcases Nat.lt_succ_iff_lt_or_eq.1 hj with h|rfl
      ·exact hall.out j h
      ·rw[HXY.out.1,HXY.out.2,HE.out])⟩
     case measure=>simp[intOf];omega
    ·rw[decide_eq_false he] at hneq;have HE:=hIz he;clear he;go_upto_region 6 with (fail);refine aO (fun w'=>w'.cell? ⟨ab,ao+k,none⟩=some (.string x)∧w'.cell? ⟨bb,bo+k,none⟩=some (.string y)) 9 [(0,true),(1,true),(2,true),(3,true),(4,true),(5,true),(6,true),(7,true),(8,true)] (by kernel_rfl) (by kernel_rfl) (fun _ _ d _ _ h=>by cases d <;> exact h) ⟨x0,y0⟩ ?_
     iterate 9 refine aB rfl ?_
     refine aF ?_;go_wp2;go_ret;refine⟨fV ?_,(below_drewN bR _).drew⟩;refine(decide_eq_false (fun e=>HE.out ?_)).symm;have h1:=HXY.out.1;rw[e,HXY.out.2] at h1;injection h1 with h1;exact h1.symm
   ·obtain rfl:k=n:=by omega
    have he:N=M:=by
     apply List.ext_getElem?
     intro j;by_cases hj:j<k
     ·exact hall.out j hj
     ·rw[List.getElem?_eq_none (by rw[HN.out.2];omega),List.getElem?_eq_none (by rw[HN.out.1];omega)]
    have HE:=hIz he;clear he hall;go_wp2;go_ret;exact⟨fV (decide_eq_true HE.out).symm,below_drewN bR _⟩
 ·have hne:N≠M:=fun e=>hlen (by rw[e])
  have HE:=hIz hne;clear hne;obtain⟨n,hn⟩:∃n,N.length=n:=⟨_,rfl⟩;obtain⟨m,hm⟩:∃m,M.length=m:=⟨_,rfl⟩;rw[hn,hm] at hlen;rw[hn,hm];have hd1:(n==m)=false:=by simpa using hlen
  clear hn hm HH;go_enter Tryz.func65,Tryz.ntmps65;go_wp2;go_ret;exact⟨fV (decide_eq_false HE.out).symm,Below.refl _ _⟩


theorem wG(w:World)(A:Option Addr)(c:Nat)(B:Option Addr)(d:Nat)(N:List Txt)(E:List Ed)(A':Option Addr)(c':Nat)(B':Option Addr)(d':Nat)(N':List Txt)(E':List Ed)(h:dX w A c B d N E)(h':dX w A' c' B' d' N' E') :
  Calls Tryz.prog 67 #[bQ A N.length c B E.length d,bQ A' N'.length c' B' E'.length d'] w (Sam w (.bool (pH N E N' E'))):=by
 have k0:=(Blk.new w 34 #[.slice A N.length c,.slice B E.length d]).alloc (.cells #[.slice A' N'.length c',.slice B' E'.length d'] 34);have k1:=Blk.new (w.alloc (.cells #[.slice A N.length c,.slice B E.length d] 34)) 34 #[.slice A' N'.length c',.slice B' E'.length d'];simp only[World.size_alloc] at k1
 have u0:Below w.heap.size w ((w.alloc (.cells #[.slice A N.length c,.slice B E.length d] 34)).alloc (.cells #[.slice A' N'.length c',.slice B' E'.length d'] 34)):=by(repeat (first | exact Below.refl _ _ | apply Below.drew | refine Below.alloc ?_ (by first | exact Nat.le_refl _ | (simp;done) | (simp;omega)) _ | refine Below.setCell ?_ (by first | exact Nat.le_refl _ | (simp;done) | (simp;omega)) _))
 have H:=aI5 (h.below u0) (h'.below u0) k0 k1 u0;clear h h' k0 k1 u0;obtain⟨b0,hb0⟩:∃b,decide (N=N')=b:=⟨_,rfl⟩;have HB:=hIz hb0;clear hb0;obtain⟨n,hn⟩:∃n,N.length=n:=⟨_,rfl⟩;obtain⟨m,hm⟩:∃m,E.length=m:=⟨_,rfl⟩;obtain⟨n',hn'⟩:∃n,N'.length=n:=⟨_,rfl⟩;obtain⟨m',hm'⟩:∃m,E'.length=m:=⟨_,rfl⟩;have hcon:=fun (W:World) (_b:Below w.heap.size w W) (h:dX W A c B d N E) (h':dX W A' c' B' d' N' E')=>iB W A c A' c' N N' h.rn h'.rn h.hc h'.hc h.fit.n h'.fit.n
 have hm47:m≤140737488355328:=by have:=H.out.1.fit.e;omega
 rw[hn,hn'] at hcon;rw[hn,hm,hn',hm'] at H;rw[hn,hm,hn',hm'];rw[HB.out] at hcon;have HL:=aI2 hm hm';have HC:=hIz hcon;clear hn hm hn' hm' hcon;unfold bQ;go_enter Tryz.func67,Tryz.ntmps67;go_upto_region 1 with (fail);generalize (w.alloc (.cells #[.slice A n c,.slice B m d] 34)).alloc (.cells #[.slice A' n' c',.slice B' m' d'] 34)=W0 at H ⊢;have q1:W0.cell? ⟨w.heap.size,1,none⟩=some (.slice B m d):=H.out.2.2.1.cell 1;have q3:W0.cell? ⟨w.heap.size+1,1,none⟩=some (.slice B' m' d'):=H.out.2.2.2.1.cell 1;by_cases hmm:m=m'
 ·subst hmm;go_wp2_with fail;go_loopw [5] (fun iv wr=>∃k:Nat,k≤m∧iv=.int .i64 k∧Hid (Below W0.heap.size W0 wr)∧Hid (∀j,j<k→E[j]?=E'[j]?)) (fun iv _=>m-(intOf iv).toNat)
  case atStart=>exact⟨0,Nat.zero_le _,rfl,hIz bR,hIz (fun j hj=>by omega)⟩
  case round =>
   obtain⟨k,hk,rfl,hbw,hall⟩:=hrel;have K1:=H.out.2.2.1.upd (upF hbw.out) id;have K2:=H.out.2.2.2.1.upd (upF hbw.out) id;have q1:wr.cell? ⟨w.heap.size,1,none⟩=some (.slice B m d):=K1.cell 1;have q3:wr.cell? ⟨w.heap.size+1,1,none⟩=some (.slice B' m d'):=K2.cell 1;by_cases hlt:k<m
   ·have hltI:(k:Int)<(m:Int):=by omega
    have hkw:IntKind.i64.wrap ((k:Int)+1)=(k:Int)+1:=IntWalk.i64_in _ (by omega);clear K1 K2;obtain⟨⟨x0,x1,x2⟩,hx⟩:∃x,E[k]?=some x:=⟨E[k]'(by rw[HL.out.1];exact hlt),gEz _⟩;obtain⟨⟨y0,y1,y2⟩,hy⟩:∃y,E'[k]?=some y:=⟨E'[k]'(by rw[HL.out.2];exact hlt),gEz _⟩;obtain⟨ab,ao,rfl,a0,a1,a2⟩:=(H.out.1.re.below hbw.out).ed hx;obtain⟨bb,bo,rfl,b0',b1',b2'⟩:=(H.out.2.1.re.below hbw.out).ed hy;dsimp only at a0 a1 a2 b0' b1' b2'
    have hneq:=fun W=>JT W ⟨x0,x1,x2⟩ ⟨y0,y1,y2⟩
    unfold Ed.agg at hneq;dsimp only at hneq
    have HXY:=aI2 hx hy;clear hx hy;by_cases he:(⟨x0,x1,x2⟩:Ed)=⟨y0,y1,y2⟩
    ·rw[decide_eq_true he] at hneq;have HE:=hIz he;clear he;go_upto_region 6 with (fail);refine aO (fun w'=>w'.cell? ⟨w.heap.size,1,none⟩=some (.slice (some ⟨ab,ao,none⟩) m d)∧w'.cell? ⟨w.heap.size+1,1,none⟩=some (.slice (some ⟨bb,bo,none⟩) m d')∧w'.cell? ⟨ab,ao+k*3,none⟩=some (.string x0)∧w'.cell? ⟨ab,ao+k*3+1,none⟩=some (.string x1)∧w'.cell? ⟨ab,ao+k*3+2,none⟩=some (.string x2)∧w'.cell? ⟨bb,bo+k*3,none⟩=some (.string y0)∧w'.cell? ⟨bb,bo+k*3+1,none⟩=some (.string y1)∧w'.cell? ⟨bb,bo+k*3+2,none⟩=some (.string y2)) 11 [(0,true),(1,true),(2,true),(3,true),(4,true),(5,true),(6,true),(7,true),(8,true),(9,true),(10,true)] (by kernel_rfl) (by kernel_rfl) (fun _ _ d _ _ h=>by cases d <;> exact h) ⟨q1,q3,a0,a1,a2,b0',b1',b2'⟩ ?_
     iterate 11 refine aB rfl ?_
     refine aF ?_;go_wp2;go_roundw
     case rel=>exact⟨k+1,by omega,by go_num,hIz hbw.out.drew,hIz (fun j hj=>by
      rcases Nat.lt_succ_iff_lt_or_eq.1 hj with h|rfl
      ·exact hall.out j h
      ·rw[HXY.out.1,HXY.out.2,HE.out])⟩
     case measure=>simp[intOf];omega
    ·rw[decide_eq_false he] at hneq;have HE:=hIz he;clear he;go_upto_region 6 with (fail);refine aO (fun w'=>w'.cell? ⟨w.heap.size,1,none⟩=some (.slice (some ⟨ab,ao,none⟩) m d)∧w'.cell? ⟨w.heap.size+1,1,none⟩=some (.slice (some ⟨bb,bo,none⟩) m d')∧w'.cell? ⟨ab,ao+k*3,none⟩=some (.string x0)∧w'.cell? ⟨ab,ao+k*3+1,none⟩=some (.string x1)∧w'.cell? ⟨ab,ao+k*3+2,none⟩=some (.string x2)∧w'.cell? ⟨bb,bo+k*3,none⟩=some (.string y0)∧w'.cell? ⟨bb,bo+k*3+1,none⟩=some (.string y1)∧w'.cell? ⟨bb,bo+k*3+2,none⟩=some (.string y2)) 11 [(0,true),(1,true),(2,true),(3,true),(4,true),(5,true),(6,true),(7,true),(8,true),(9,true),(10,true)] (by kernel_rfl) (by kernel_rfl) (fun _ _ d _ _ h=>by cases d <;> exact h) ⟨q1,q3,a0,a1,a2,b0',b1',b2'⟩ ?_
     iterate 11 refine aB rfl ?_
     refine aF ?_;go_wp2;go_ret;refine⟨fV ?_,tHn H.out.2.2.2.2 hbw.out.drew⟩;rw[pH,decide_eq_false (p:=E=E') (fun e=>HE.out ?_),Bool.and_false];have h1:=HXY.out.1;rw[e,HXY.out.2] at h1;injection h1 with h1;exact h1.symm
   ·obtain rfl:k=m:=by omega
    have he:E=E':=by
     apply List.ext_getElem?
     intro j;by_cases hj:j<k
     ·exact hall.out j hj
     ·rw[List.getElem?_eq_none (by rw[HL.out.1];omega),List.getElem?_eq_none (by rw[HL.out.2];omega)]
    have HE:=hIz he;clear he hall;have q0:wr.cell? ⟨w.heap.size,0,none⟩=some (.slice A n c):=K1.cell 0;have q2:wr.cell? ⟨w.heap.size+1,0,none⟩=some (.slice A' n' c'):=K2.cell 0;clear K1 K2;go_wp2_with fail;refine(HC.out wr (tHn H.out.2.2.2.2 hbw.out) (H.out.1.below hbw.out) (H.out.2.1.below hbw.out)).mono ?_;rintro e w1 ⟨rfl,u1⟩;have b1:=tHn H.out.2.2.2.2 hbw.out;have FIN:=hIz (tHn b1 u1);clear u1 b1;go_wp2;go_ret;exact⟨fV (by rw[pH,HB.out,decide_eq_true HE.out,Bool.and_true]),FIN.out⟩
 ·have hne:E≠E':=fun e=>hmm (by rw[← HL.out.1,← HL.out.2,e])
  have HE:=hIz hne;have hd1:(m==m')=false:=by simpa using hmm
  clear hne hmm;go_wp2;go_ret;exact⟨fV (by rw[pH,decide_eq_false HE.out,Bool.and_false]),H.out.2.2.2.2⟩
open Go.RowKit
section
set_option maxRecDepth 100000
set_option maxHeartbeats 4000000
theorem kS{W:World}{z:Nat}{t:TypeId}{p q:Value}(k:Blk W z t #[p,q])(a b:Value):Blk ((W.setCell ⟨z,0,none⟩ a).setCell ⟨z,1,none⟩ b) z t #[a,b]:=(k.set 0 a).set 1 b
theorem kT(W:World)(z:Nat)(a b:Value):Upd (fun q=>q=z) W ((W.setCell ⟨z,0,none⟩ a).setCell ⟨z,1,none⟩ b):=
 ((Upd.refl (fun q=>q=z) W).setCell (p:=⟨z,0,none⟩) (.inl rfl) a).setCell (p:=⟨z,1,none⟩) (.inl rfl) b
theorem cG{w w':World}{F:Nat→Prop}{base base' e size n:Nat}{v:Value}{xs:List Value}(h:w.ownsRow base e size v n xs)(hb:base'≤base)(hu:Upd F w w')(hF:∀k,base≤k→k<w.heap.size→¬F k):w'.ownsRow base' e size v n xs:=
 aJ (aA h hu (fun k hk=>hF k (h.lt k hk).1 (h.lt k hk).2)) (fun k hk=>Nat.le_trans hb (h.lt k hk).1)
theorem jN{B:Nat}{w v:World}(h:Below B w v)(n:Nat):Below B w (v.drewN n):=⟨h.os,h.tape,h.output,h.size,h.block⟩
theorem kU(w:World)(b:Bool)(u:Value)(B:Option Addr)(d:Nat)(E:List Ed)(hE:aV w B (aH E))(hl:E.length≤140737488355328)(x:Ed) :
  Calls Tryz.prog 55 #[.agg #[.bool b,u,.slice B E.length d],x.agg] w (Sam w (.bool (decide (x∈E)))):=by
 obtain⟨x0,x1,x2⟩:=x;obtain⟨m,hm⟩:∃m,E.length=m:=⟨_,rfl⟩;rw[hm] at hl ⊢;have k0:=(Blk.new w 29 #[.bool b,u,.slice B m d]).alloc (.cells #[.string x0,.string x1,.string x2] 32);have k1:=Blk.new (w.alloc (.cells #[.bool b,u,.slice B m d] 29)) 32 #[.string x0,.string x1,.string x2];simp only[World.size_alloc] at k1
 have b1:Below w.heap.size w ((w.alloc (.cells #[.bool b,u,.slice B m d] 29)).alloc (.cells #[.string x0,.string x1,.string x2] 32)):=by(repeat (first | exact Below.refl _ _ | apply Below.drew | refine Below.alloc ?_ (by first | exact Nat.le_refl _ | (simp;done) | (simp;omega)) _ | refine Below.setCell ?_ (by first | exact Nat.le_refl _ | (simp;done) | (simp;omega)) _))
 have H:=aI5 b1 k0 k1 (hE.below b1) hm;clear b1 k0 k1 hE hm;unfold Ed.agg;go_enter Tryz.func55,Tryz.ntmps55;go_upto_region 1 with (fail);generalize (w.alloc (.cells #[.bool b,u,.slice B m d] 29)).alloc (.cells #[.string x0,.string x1,.string x2] 32)=W0 at H ⊢;go_wp2;go_loopw [5] (fun iv wr=>∃i:Nat,i≤m∧iv=.int .i64 (i:Int)∧Hid (Below W0.heap.size W0 wr)∧Hid (∀j,j<i→E[j]?≠some ⟨x0,x1,x2⟩)) (fun iv _=>m-(intOf iv).toNat)
 case atStart=>exact⟨0,Nat.zero_le _,rfl,hIz bR,hIz (fun j hj=>by omega)⟩
 case round =>
  obtain⟨i,hi,rfl,hb,hall⟩:=hrel;have SR:=hIz (show ∀W,Below W0.heap.size W0 W→W.cell? ⟨w.heap.size,2,none⟩=some (.slice B m d)∧W.cell? ⟨w.heap.size+1,0,none⟩=some (.string x0)∧W.cell? ⟨w.heap.size+1,1,none⟩=some (.string x1)∧W.cell? ⟨w.heap.size+1,2,none⟩=some (.string x2) from fun W b=>by
   have K1:=H.out.2.1.upd (upF b) id;have K2:=H.out.2.2.1.upd (upF b) id;exact⟨K1.cell 2,K2.cell 0,K2.cell 1,K2.cell 2⟩)
  obtain⟨q1,e0,e1,e2⟩:=SR.out _ hb.out;have HB:=hIz (tHn H.out.1 hb.out);by_cases hin:i<m
  ·have hiI:(i:Int)<(m:Int):=by omega
   have hkw:IntKind.i64.wrap ((i:Int)+1)=(i:Int)+1:=IntWalk.i64_in _ (by omega);obtain⟨⟨y0,y1,y2⟩,hy⟩:∃y,E[i]?=some y:=⟨E[i]'(by rw[H.out.2.2.2.2];exact hin),gEz _⟩;obtain⟨ab,ao,rfl,a0,a1,a2⟩:=(H.out.2.2.2.1.below hb.out).ed hy;dsimp only at a0 a1 a2
   have heq:=fun W=>AM W ⟨y0,y1,y2⟩ ⟨x0,x1,x2⟩
   unfold Ed.agg at heq;dsimp only at heq
   have HY:=hIz hy;clear hy;by_cases he:(⟨y0,y1,y2⟩:Ed)=⟨x0,x1,x2⟩
   ·rw[decide_eq_true he] at heq;have FIN:=hIz (show decide ((⟨x0,x1,x2⟩:Ed)∈E)=true from decide_eq_true (by rw[← he];exact mG HY.out));clear he;go_upto_region 4 with (fail);go_quiet (fail)
    go_wp2;go_ret;exact⟨by rw[FIN.out];rfl,jN HB.out nq⟩
   ·rw[decide_eq_false he] at heq;have FIN:=hIz (show ∀j,j<i+1→E[j]?≠some ⟨x0,x1,x2⟩ from fun j hj e=>by
     rcases Nat.lt_succ_iff_lt_or_eq.1 hj with h|rfl
     ·exact hall.out j h e
     ·rw[HY.out] at e;exact he (Option.some.inj e))
    clear he;go_upto_region 4 with (fail);go_quiet (fail)
    go_wp2;go_roundw
    case rel=>exact⟨i+1,by omega,by go_num,hIz (jN hb.out nq),FIN⟩
    case measure=>simp[intOf];omega
  ·obtain rfl:i=m:=by omega
   have hiI:¬(i:Int)<(i:Int):=by omega
   have FIN:=hIz (show decide ((⟨x0,x1,x2⟩:Ed)∈E)=false from decide_eq_false (fun hm=>by
    obtain⟨j,hj⟩:=List.getElem?_of_mem hm;have:=(gO.1 hj).1;have:=H.out.2.2.2.2;exact hall.out j (by omega) hj))
   go_wp2;go_ret;exact⟨by rw[FIN.out];rfl,HB.out⟩
def MH(w:World)(N:List Txt)(E:List Ed)(e:Ending)(w':World):Prop:=
 ∃A c B d,e=.returned (bQ A (ofN N E).length c B (ofE N E).length d)∧w'.ownsRow w.heap.size 9 1 (.slice A (ofN N E).length c) (ofN N E).length (aC (ofN N E))∧w'.ownsRow w.heap.size 32 3 (.slice B (ofE N E).length d) (ofE N E).length (aH (ofE N E))∧Below w.heap.size w w'
theorem tY(w:World)(b:Bool)(A:Option Addr)(c:Nat)(B:Option Addr)(d:Nat)(N:List Txt)(E:List Ed)(h:dX w A c B d N E)(hb:(N.length+E.length*2)*16≤140737488355328) :
  Calls Tryz.prog 68 #[.agg #[.bool b,.slice A N.length c,.slice B E.length d]] w (MH w N E):=by
 have b1:Below w.heap.size w ((w.alloc (.cells #[.bool b,.slice A N.length c,.slice B E.length d] 29)).alloc (.cells #[.slice none 0 0,.slice none 0 0] 34)):=by(repeat (first | exact Below.refl _ _ | apply Below.drew | refine Below.alloc ?_ (by first | exact Nat.le_refl _ | (simp;done) | (simp;omega)) _ | refine Below.setCell ?_ (by first | exact Nat.le_refl _ | (simp;done) | (simp;omega)) _))
 have k0:=(Blk.new w 29 #[.bool b,.slice A N.length c,.slice B E.length d]).alloc (.cells #[.slice none 0 0,.slice none 0 0] 34);have k1:=Blk.new (w.alloc (.cells #[.bool b,.slice A N.length c,.slice B E.length d] 29)) 34 #[.slice none 0 0,.slice none 0 0];simp only[World.size_alloc] at k1
 have H:=aI4 b1 k0 k1 (h.below b1);clear b1 k0 k1 h;obtain⟨n,hn⟩:∃n,N.length=n:=⟨_,rfl⟩;obtain⟨m,hm⟩:∃m,E.length=m:=⟨_,rfl⟩;obtain⟨x1,hx1⟩:∃n,(ofN N E).length=n:=⟨_,rfl⟩;obtain⟨x2,hx2⟩:∃m,(ofE N E).length=m:=⟨_,rfl⟩;have hcon:=fun W h=>wD W A c B d N E h hb
 unfold OfQ bQ at hcon;rw[hn,hm,hx1,hx2] at hcon;have HC:=hIz hcon;have HX:=aI2 hx1 hx2;rw[hn,hm] at H ⊢;clear hcon hx1 hx2 hb hn hm;go_enter Tryz.func68,Tryz.ntmps68;go_upto_region 1 with (fail);generalize (w.alloc (.cells #[.bool b,.slice A n c,.slice B m d] 29)).alloc (.cells #[.slice none 0 0,.slice none 0 0] 34)=W0 at H ⊢;have q1:W0.cell? ⟨w.heap.size,1,none⟩=some (.slice A n c):=H.out.2.1.cell 1;have q2:W0.cell? ⟨w.heap.size,2,none⟩=some (.slice B m d):=H.out.2.1.cell 2;go_wp2_with fail;refine(HC.out W0 H.out.2.2.2).mono ?_;rintro e W1 ⟨A5,c5,B5,d5,rfl,o1,o2,b1⟩;have HO:=aI3 o1 o2 b1;clear o1 o2 b1 q1 q2;go_upto_region 2 with (fail);have k8:=Blk.new W1 34 #[.slice A5 x1 c5,.slice B5 x2 d5];have b8:Below W0.heap.size W0 (W1.alloc (.cells #[.slice A5 x1 c5,.slice B5 x2 d5] 34)):=HO.out.2.2.alloc HO.out.2.2.size _;have bA:Below W1.heap.size W1 (W1.alloc (.cells #[.slice A5 x1 c5,.slice B5 x2 d5] 34)):=bR.alloc (Nat.le_refl _) _;generalize W1.alloc (.cells #[.slice A5 x1 c5,.slice B5 x2 d5] 34)=W2 at k8 b8 bA ⊢;have k1:=H.out.2.2.1.upd (upF b8) id;have e0:W2.cell? ⟨W1.heap.size,0,none⟩=some (.slice A5 x1 c5):=k8.cell 0;have e1:W2.cell? ⟨W1.heap.size,1,none⟩=some (.slice B5 x2 d5):=k8.cell 1;have f0:=k1.frozen 0;have f1:=k1.frozen 1;have r0:W2.cell? ⟨w.heap.size+1,0,none⟩=some (.slice none 0 0):=k1.cell 0;have r1:W2.cell? ⟨w.heap.size+1,1,none⟩=some (.slice none 0 0):=k1.cell 1;have kF:=kS k1 (.slice A5 x1 c5) (.slice B5 x2 d5);have uF:=kT W2 (w.heap.size+1) (.slice A5 x1 c5) (.slice B5 x2 d5)
 have HF:=aI4 kF uF b8 bA;clear k8 b8 bA k1 kF uF;go_wp2;clear e0 e1 f0 f1 r0 r1;generalize (W2.setCell ⟨w.heap.size+1,0,none⟩ (.slice A5 x1 c5)).setCell ⟨w.heap.size+1,1,none⟩ (.slice B5 x2 d5)=W3 at HF ⊢;have y0:W3.cell? ⟨w.heap.size+1,0,none⟩=some (.slice A5 x1 c5):=HF.out.1.cell 0;have y1:W3.cell? ⟨w.heap.size+1,1,none⟩=some (.slice B5 x2 d5):=HF.out.1.cell 1;have hlt:w.heap.size+1<W0.heap.size:=H.out.2.2.1.lt;refine bodyPost_ret (v:=.agg #[.slice A5 x1 c5,.slice B5 x2 d5]) (by simp[results,Tryz.f68,go_sem,y0,y1]) rfl ?_;have bw:Below w.heap.size w W2:=tHn H.out.1 HF.out.2.2.1;refine⟨A5,c5,B5,d5,by rw[HX.out.1,HX.out.2];rfl,?_,?_,bw.trans (HF.out.2.1.below (fun q _ e=>by omega) bw.size)⟩
 ·rw[HX.out.1];exact cG (cG HO.out.1 (Nat.le_refl _) (Upd.of_below HF.out.2.2.2 (fun _=>False)) (fun _ _ _=>id)) (by omega) HF.out.2.1 (fun k hk _ e=>by omega)
 ·rw[HX.out.2];exact cG (cG HO.out.2.1 (Nat.le_refl _) (Upd.of_below HF.out.2.2.2 (fun _=>False)) (fun _ _ _=>id)) (by omega) HF.out.2.1 (fun k hk _ e=>by omega)
theorem jO(w:World)(b:Bool)(A:Option Addr)(c:Nat)(B:Option Addr)(d:Nat)(N:List Txt)(E:List Ed)(h:dX w A c B d N E)(hb:(N.length+E.length*2)*16≤140737488355328)(hfit:yM (ofN N E) (ofE N E)) :
  Calls Tryz.prog 66 #[.agg #[.bool b,.slice A N.length c,.slice B E.length d]] w (jW w (jB (ofN N E) (ofE N E))):=by
 have b1:Below w.heap.size w (w.alloc (.cells #[.bool b,.slice A N.length c,.slice B E.length d] 29)):=bR.alloc (Nat.le_refl _) _;have k0:=Blk.new w 29 #[.bool b,.slice A N.length c,.slice B E.length d];have H:=aI3 b1 k0 (h.below b1);clear b1 k0 h;obtain⟨n,hn⟩:∃n,N.length=n:=⟨_,rfl⟩;obtain⟨m,hm⟩:∃m,E.length=m:=⟨_,rfl⟩;obtain⟨x1,hx1⟩:∃n,(ofN N E).length=n:=⟨_,rfl⟩;obtain⟨x2,hx2⟩:∃m,(ofE N E).length=m:=⟨_,rfl⟩;have hcon:=fun W h=>tY W b A c B d N E h hb
 have hpar:=fun (W:World) (A5:Option Addr) (c5:Nat) (B5:Option Addr) (d5:Nat) h=>tS W A5 c5 B5 d5 (ofN N E) (ofE N E) h
 unfold MH bQ at hcon;unfold bQ at hpar;rw[hn,hm,hx1,hx2] at hcon;rw[hx1,hx2] at hpar;have HC:=aI2 hcon hpar;have HX:=aI3 hx1 hx2 hfit;rw[hn,hm] at H ⊢;clear hcon hpar hx1 hx2 hb hn hm hfit;go_enter Tryz.func66,Tryz.ntmps66;go_upto_region 1 with (fail);generalize w.alloc (.cells #[.bool b,.slice A n c,.slice B m d] 29)=W0 at H ⊢;have q0:W0.cell? ⟨w.heap.size,0,none⟩=some (.bool b):=H.out.2.1.cell 0;have q1:W0.cell? ⟨w.heap.size,1,none⟩=some (.slice A n c):=H.out.2.1.cell 1;have q2:W0.cell? ⟨w.heap.size,2,none⟩=some (.slice B m d):=H.out.2.1.cell 2;go_wp2_with fail;refine(HC.out.1 W0 H.out.2.2).mono ?_;rintro e W1 ⟨A5,c5,B5,d5,rfl,o1,o2,b1⟩;have HO:=aI3 o1 o2 b1;have hle1:=eC o1;have hle2:=eC o2;have hf:dX W1 A5 c5 B5 d5 (ofN N E) (ofE N E):=⟨aV.of_own o1,aV.of_own o2,by rw[HX.out.1];exact hle1,by rw[HX.out.2.1];exact hle2,HX.out.2.2⟩;have hp:=HC.out.2 W1 A5 c5 B5 d5 hf;clear o1 o2 b1 q0 q1 q2 hle1 hle2 hf;go_wp2_with fail;refine hp.mono ?_;clear hp;rintro e W2 ⟨A6,c6,B6,d6,rfl,o6,-,b6⟩;have bw:Below w.heap.size w W2:=(tHn H.out.1 HO.out.2.2).trans (b6.mono (tHn H.out.1 HO.out.2.2).size);have hlt:w.heap.size≤W1.heap.size:=(tHn H.out.1 HO.out.2.2).size;have FIN:=hIz (show jW w (jB (ofN N E) (ofE N E)) (.returned (.slice A6 (jB (ofN N E) (ofE N E)).length c6)) W2 from⟨_,rfl,aJ o6 (fun k hk=>Nat.le_trans hlt (o6.lt k hk).1),bw⟩);generalize (jB (ofN N E) (ofE N E)).length=x6 at FIN ⊢;clear o6 b6 bw;go_wp2;go_ret;exact FIN.out
end
open Go.RowKit
section
set_option maxRecDepth 100000
set_option maxHeartbeats 4000000
theorem xR(W:World)(A:Option Addr)(n c:Nat)(N:List Txt)(hN:aV W A (aC N))(hn:N.length=n)(hl:n*16≤140737488355328) :
  ∃A' c' V,(Builtin.append_ #[26,26] 26 #[.slice (some ⟨W.heap.size,0,none⟩) 0 0,.slice A n c]).run Tryz.prog (W.alloc (.cells #[] 9))=.ok (.slice A' n c') V∧V.ownsRow W.heap.size 9 1 (.slice A' n c') n (aC N)∧Below W.heap.size W V:=by
 have bz:Below W.heap.size W (W.alloc (.cells #[] 9)):=bR.alloc (Nat.le_refl _) _;obtain⟨A',c',V,happ,r,up,-⟩:=bB (W.alloc (.cells #[] 9)) W.heap.size 26 9 1 16 _ Tryz.underlying26 bJ rfl (by decide) (by decide) (some ⟨W.heap.size,0,none⟩) 0 0 [] (dG W _ 1) A n c (aC N) (hN.below bz) (by rw[cC N,hn]) (gT N) (by omega) bz.size;rw[Nat.zero_add] at happ r;rw[List.nil_append] at r;exact⟨A',c',V,happ,r,bz.trans (up.below (fun q _ hq=>((dG W 9 1).lt q hq).1) bz.size)⟩
theorem MI(W:World)(A:Option Addr)(n c:Nat)(N:List Ed)(hN:aV W A (aH N))(hn:N.length=n)(hl:n*48≤140737488355328) :
  ∃A' c' V,(Builtin.append_ #[27,27] 27 #[.slice (some ⟨W.heap.size,0,none⟩) 0 0,.slice A n c]).run Tryz.prog (W.alloc (.cells #[] 32))=.ok (.slice A' n c') V∧V.ownsRow W.heap.size 32 3 (.slice A' n c') n (aH N)∧Below W.heap.size W V:=by
 have bz:Below W.heap.size W (W.alloc (.cells #[] 32)):=bR.alloc (Nat.le_refl _) _;obtain⟨A',c',V,happ,r,up,-⟩:=bB (W.alloc (.cells #[] 32)) W.heap.size 27 32 3 48 _ Tryz.underlying27 dN rfl (by decide) (by decide) (some ⟨W.heap.size,0,none⟩) 0 0 [] (dG W _ 3) A n c (aH N) (hN.below bz) (by rw[bK N,hn]) (mJ N) (by omega) bz.size;rw[Nat.zero_add] at happ r;rw[List.nil_append] at r;exact⟨A',c',V,happ,r,bz.trans (up.below (fun q _ hq=>((dG W 32 3).lt q hq).1) bz.size)⟩
def rgV(b:Bool)(A:Option Addr)(n c:Nat)(B:Option Addr)(m d:Nat):Value:=.agg #[.bool b,.slice A n c,.slice B m d]
def jP(N:List Txt)(E:List Ed)(s:Txt):Bool × Int:=
 if cH s=false then (false,173) else if inB s N=true then (false,0) else if ofI (N++[s]) E=0 then (true,0) else (false,ofI (N++[s]) E)
def xS(w:World)(A:Option Addr)(c:Nat)(B:Option Addr)(d:Nat)(N:List Txt)(E:List Ed)(s:Txt)(e:Ending)(w':World):Prop:=
 Below w.heap.size w w'∧∃z:Int,(jP N E s=(false,z)∧e=.returned (.tuple #[rgV true A N.length c B E.length d,.bool false,.int .i64 z])) ∨
  (z=0∧jP N E s=(true,0)∧∃A' c',e=.returned (.tuple #[rgV true A' (N.length+1) c' B E.length d,.bool true,.int .i64 0])∧w'.ownsRow w.heap.size 9 1 (.slice A' (N.length+1) c') (N.length+1) (aC (N++[s])))
theorem DF(w:World)(A:Option Addr)(c:Nat)(B:Option Addr)(d:Nat)(N:List Txt)(E:List Ed)(h:dX w A c B d N E)(hl:N.length≤100000)(he:E.length≤100000)(s:Txt)(hs:cT s) :
  Calls Tryz.prog 52 #[rgV true A N.length c B E.length d,.string s] w (xS w A c B d N E s):=by
 unfold rgV;have b0:Below w.heap.size w ((w.alloc (.cells #[.bool true,.slice A N.length c,.slice B E.length d] 29)).alloc (.cells #[.bool false,.slice none 0 0,.slice none 0 0] 29)):=by(repeat (first | exact Below.refl _ _ | apply Below.drew | refine Below.alloc ?_ (by first | exact Nat.le_refl _ | (simp;done) | (simp;omega)) _ | refine Below.setCell ?_ (by first | exact Nat.le_refl _ | (simp;done) | (simp;omega)) _))
 have k1:=(Blk.new w 29 #[.bool true,.slice A N.length c,.slice B E.length d]).alloc (.cells #[.bool false,.slice none 0 0,.slice none 0 0] 29);have k2:=Blk.new (w.alloc (.cells #[.bool true,.slice A N.length c,.slice B E.length d] 29)) 29 #[.bool false,.slice none 0 0,.slice none 0 0];simp only[World.size_alloc] at k2
 have P0:=hIz (show xS w A c B d N E s=xS w A c B d N E s from rfl);obtain⟨PP,hPP⟩:∃PP,xS w A c B d N E s=PP:=⟨_,rfl⟩;rw[hPP];have HPP:=hIz hPP;clear hPP P0;obtain⟨n,hn⟩:∃n,N.length=n:=⟨_,rfl⟩;obtain⟨m,hm⟩:∃m,E.length=m:=⟨_,rfl⟩;rw[hn,hm] at b0 k1 k2 ⊢;rw[hn] at hl;rw[hm] at he;have HL:=aI2 hn hm;have HH:=hIz h;have SAME:=hIz (show ∀z V,jP N E s=(false,z)→Below w.heap.size w V→PP (.returned (.tuple #[.agg #[.bool true,.slice A n c,.slice B m d],.bool false,.int .i64 z])) V from fun z V h1 h2=>by
  rw[← HPP.out,← hn,← hm];exact⟨h2,z,.inl ⟨h1,rfl⟩⟩)
 have H:=aI3 k1 k2 b0;clear b0 k1 k2 h hn hm;go_enter Tryz.func52,Tryz.ntmps52;go_upto_region 1 with (fail);generalize (w.alloc (.cells #[.bool true,.slice A n c,.slice B m d] 29)).alloc (.cells #[.bool false,.slice none 0 0,.slice none 0 0] 29)=W0 at H ⊢;have q0:W0.cell? ⟨w.heap.size,0,none⟩=some (.bool true):=H.out.1.cell 0;have hname:=dA s W0 hs;obtain⟨nb,hnb⟩:∃b,cH s=b:=⟨_,rfl⟩;rw[hnb] at hname;have HNB:=hIz hnb;clear hnb;go_wp2_with fail;refine hname.mono ?_;clear hname q0;rintro e V ⟨rfl,hw⟩;subst V;cases nb
 ·have FIN:=hIz (show jP N E s=(false,173) by rw[jP,if_pos HNB.out]);have q0:W0.cell? ⟨w.heap.size,0,none⟩=some (.bool true):=H.out.1.cell 0;have q1:W0.cell? ⟨w.heap.size,1,none⟩=some (.slice A n c):=H.out.1.cell 1;have q2:W0.cell? ⟨w.heap.size,2,none⟩=some (.slice B m d):=H.out.1.cell 2;have s0:W0.cell? ⟨w.heap.size+1,0,none⟩=some (.bool false):=H.out.2.1.cell 0;have s1:W0.cell? ⟨w.heap.size+1,1,none⟩=some (.slice none 0 0):=H.out.2.1.cell 1;have s2:W0.cell? ⟨w.heap.size+1,2,none⟩=some (.slice none 0 0):=H.out.2.1.cell 2;have g0:=H.out.2.1.frozen 0;have g1:=H.out.2.1.frozen 1;have g2:=H.out.2.1.frozen 2;have HF:=aI2 (aW H.out.2.1 (.bool true) (.slice A n c) (.slice B m d)) (aX W0 (w.heap.size+1) (.bool true) (.slice A n c) (.slice B m d));go_wp2;clear q0 q1 q2 s0 s1 s2 g0 g1 g2;generalize ((W0.setCell ⟨w.heap.size+1,0,none⟩ (.bool true)).setCell ⟨w.heap.size+1,1,none⟩ (.slice A n c)).setCell ⟨w.heap.size+1,2,none⟩ (.slice B m d)=VF at HF ⊢;have y0:VF.cell? ⟨w.heap.size+1,0,none⟩=some (.bool true):=HF.out.1.cell 0;have y1:VF.cell? ⟨w.heap.size+1,1,none⟩=some (.slice A n c):=HF.out.1.cell 1;have y2:VF.cell? ⟨w.heap.size+1,2,none⟩=some (.slice B m d):=HF.out.1.cell 2;have bF:Below w.heap.size w VF:=H.out.2.2.trans (HF.out.2.below (fun q _ e=>by omega) H.out.2.2.size);refine bodyPost_ret (v:=.tuple #[.agg #[(.bool true),(.slice A n c),(.slice B m d)],.bool false,.int .i64 173]) (by simp[results,Tryz.f52,go_sem,y0,y1,y2]) rfl ?_;exact SAME.out _ _ FIN.out bF
 ·have q0:W0.cell? ⟨w.heap.size,0,none⟩=some (.bool true):=H.out.1.cell 0;have q1:W0.cell? ⟨w.heap.size,1,none⟩=some (.slice A n c):=H.out.1.cell 1;have q2:W0.cell? ⟨w.heap.size,2,none⟩=some (.slice B m d):=H.out.1.cell 2;have hnum:=dD W0 true A c N (HH.out.rn.below H.out.2.2) (by rw[HL.out.1];omega) (.slice B m d) s;rw[HL.out.1] at hnum;go_wp2_with fail;refine hnum.mono ?_;clear hnum q0 q1 q2;rintro e W1 ⟨k,rfl,hk,b1⟩;have H1:=aI3 (H.out.1.upd (upF b1) id) (H.out.2.1.upd (upF b1) id) (tHn H.out.2.2 b1);have HK:=hIz hk;clear b1 hk;by_cases hk0:0≤k
  ·have FIN:=hIz (show jP N E s=(false,0) by
    rw[jP,if_neg (by rw[HNB.out];simp),if_pos (aQ.2 ?_)];rcases HK.out with ⟨i,-,h1,-⟩|⟨h1,-⟩
    ·exact mG h1
    ·omega)
   have q0:W1.cell? ⟨w.heap.size,0,none⟩=some (.bool true):=H1.out.1.cell 0;have q1:W1.cell? ⟨w.heap.size,1,none⟩=some (.slice A n c):=H1.out.1.cell 1;have q2:W1.cell? ⟨w.heap.size,2,none⟩=some (.slice B m d):=H1.out.1.cell 2;have s0:W1.cell? ⟨w.heap.size+1,0,none⟩=some (.bool false):=H1.out.2.1.cell 0;have s1:W1.cell? ⟨w.heap.size+1,1,none⟩=some (.slice none 0 0):=H1.out.2.1.cell 1;have s2:W1.cell? ⟨w.heap.size+1,2,none⟩=some (.slice none 0 0):=H1.out.2.1.cell 2;have g0:=H1.out.2.1.frozen 0;have g1:=H1.out.2.1.frozen 1;have g2:=H1.out.2.1.frozen 2;have HF:=aI2 (aW H1.out.2.1 (.bool true) (.slice A n c) (.slice B m d)) (aX W1 (w.heap.size+1) (.bool true) (.slice A n c) (.slice B m d));go_wp2;clear q0 q1 q2 s0 s1 s2 g0 g1 g2;generalize ((W1.setCell ⟨w.heap.size+1,0,none⟩ (.bool true)).setCell ⟨w.heap.size+1,1,none⟩ (.slice A n c)).setCell ⟨w.heap.size+1,2,none⟩ (.slice B m d)=VF at HF ⊢;have y0:VF.cell? ⟨w.heap.size+1,0,none⟩=some (.bool true):=HF.out.1.cell 0;have y1:VF.cell? ⟨w.heap.size+1,1,none⟩=some (.slice A n c):=HF.out.1.cell 1;have y2:VF.cell? ⟨w.heap.size+1,2,none⟩=some (.slice B m d):=HF.out.1.cell 2;have bF:Below w.heap.size w VF:=H1.out.2.2.trans (HF.out.2.below (fun q _ e=>by omega) H1.out.2.2.size);refine bodyPost_ret (v:=.tuple #[.agg #[(.bool true),(.slice A n c),(.slice B m d)],.bool false,.int .i64 0]) (by simp[results,Tryz.f52,go_sem,y0,y1,y2]) rfl ?_;exact SAME.out _ _ FIN.out bF
  ·have hnm:Hid (s ∉ N):=hIz (by
    rcases HK.out with ⟨i,h1,-,-⟩|⟨-,h1⟩
    ·omega
    ·exact h1)
   have hkI:k<0:=by omega
   have q1:(W1.alloc (.cells #[] 9)).cell? ⟨w.heap.size,1,none⟩=some (.slice A n c):=(H1.out.1.alloc (.cells #[] 9)).cell 1;obtain⟨A3,c3,W2,happ,r3,b2⟩:=xR W1 A n c N (HH.out.rn.below H1.out.2.2) HL.out.1 (by omega);have HR:=aI2 r3 b2;clear r3 b2;go_upto_region 8 with (at_builtin;refine wpList_append_run rfl _ _ _ rfl rfl rfl happ ?_);clear happ q1;obtain⟨v',W3,happ,r4,up,-⟩:=dU W2 W1.heap.size (.slice A3 n c3) N (by rw[HL.out.1];exact HR.out.1) s (by rw[HL.out.1];omega) HR.out.2.size;obtain⟨A4,c4,rfl,hle,row⟩:=bS r4;have b3:Below W1.heap.size W1 W3:=HR.out.2.trans (up.below (fun q _ hq=>(HR.out.1.lt q hq).1) HR.out.2.size);rw[List.length_append,List.length_singleton,HL.out.1] at happ r4 hle;have HR2:=aI4 r4 b3 hle row;clear r4 b3 up HR hle row;go_upto_region 9 with (at_builtin;refine wpList_append_run rfl _ _ _ rfl rfl rfl happ ?_);clear happ;have H3:=aI3 (H1.out.1.upd (Upd.of_below HR2.out.2.1 (fun _=>False)) id) (H1.out.2.1.upd (Upd.of_below HR2.out.2.1 (fun _=>False)) id) (tHn H1.out.2.2 HR2.out.2.1);have q2:W3.cell? ⟨w.heap.size,2,none⟩=some (.slice B m d):=H3.out.1.cell 2;have hfg:dX W3 A4 c4 B d (N++[s]) E:=⟨HR2.out.2.2.2,HH.out.re.below H3.out.2.2,by rw[List.length_append,List.length_singleton,HL.out.1];exact HR2.out.2.2.1,HH.out.hd,⟨by rw[List.length_append,List.length_singleton,HL.out.1];omega,HH.out.fit.e,fun t ht=>by
    rcases List.mem_append.1 ht with ht|ht
    ·exact HH.out.fit.tn t ht
    ·rw[List.mem_singleton.1 ht];exact hs,HH.out.fit.te⟩⟩
   have hof:=wD W3 A4 c4 B d (N++[s]) E hfg (by rw[List.length_append,List.length_singleton,HL.out.1,HL.out.2];omega);rw[List.length_append,List.length_singleton,HL.out.1,HL.out.2] at hof;unfold OfQ bQ at hof;obtain⟨oz,hoz⟩:∃z,ofI (N++[s]) E=z:=⟨_,rfl⟩;rw[hoz] at hof;have HOZ:=hIz hoz;clear hfg hoz;go_wp2_with fail;refine hof.mono ?_;clear hof q2;rintro e W4 ⟨A5,c5,B5,d5,rfl,-,-,b4⟩;generalize (ofN (N++[s]) E).length=x1;generalize (ofE (N++[s]) E).length=x2;have b34:Below W3.heap.size W3 (W4.alloc (.cells #[.slice A5 x1 c5,.slice B5 x2 d5] 34)):=b4.alloc b4.size _;have HB4:=hIz b34;clear b4 b34;go_upto_region 10 with (fail);generalize W4.alloc (.cells #[.slice A5 x1 c5,.slice B5 x2 d5] 34)=W5 at HB4 ⊢;have H5:=aI3 (H3.out.1.upd (upF HB4.out) id) (H3.out.2.1.upd (upF HB4.out) id) (tHn H3.out.2.2 HB4.out);by_cases hz0:oz=0
   ·subst hz0;have FIN:=hIz (show jP N E s=(true,0) by rw[jP,if_neg (by rw[HNB.out];simp),if_neg (fun e=>hnm.out (aQ.1 e)),if_pos HOZ.out]);have q0:W5.cell? ⟨w.heap.size,0,none⟩=some (.bool true):=H5.out.1.cell 0;have q1:W5.cell? ⟨w.heap.size,1,none⟩=some (.slice A n c):=H5.out.1.cell 1;have q2:W5.cell? ⟨w.heap.size,2,none⟩=some (.slice B m d):=H5.out.1.cell 2;have s0:W5.cell? ⟨w.heap.size+1,0,none⟩=some (.bool false):=H5.out.2.1.cell 0;have s1:W5.cell? ⟨w.heap.size+1,1,none⟩=some (.slice none 0 0):=H5.out.2.1.cell 1;have s2:W5.cell? ⟨w.heap.size+1,2,none⟩=some (.slice none 0 0):=H5.out.2.1.cell 2;have g0:=H5.out.2.1.frozen 0;have g1:=H5.out.2.1.frozen 1;have g2:=H5.out.2.1.frozen 2;have HF:=aI2 (aW H5.out.2.1 (.bool true) (.slice A4 (n+1) c4) (.slice B m d)) (aX W5 (w.heap.size+1) (.bool true) (.slice A4 (n+1) c4) (.slice B m d));go_wp2;clear q0 q1 q2 s0 s1 s2 g0 g1 g2;generalize ((W5.setCell ⟨w.heap.size+1,0,none⟩ (.bool true)).setCell ⟨w.heap.size+1,1,none⟩ (.slice A4 (n+1) c4)).setCell ⟨w.heap.size+1,2,none⟩ (.slice B m d)=VF at HF ⊢;have y0:VF.cell? ⟨w.heap.size+1,0,none⟩=some (.bool true):=HF.out.1.cell 0;have y1:VF.cell? ⟨w.heap.size+1,1,none⟩=some (.slice A4 (n+1) c4):=HF.out.1.cell 1;have y2:VF.cell? ⟨w.heap.size+1,2,none⟩=some (.slice B m d):=HF.out.1.cell 2;have bF:Below w.heap.size w VF:=H5.out.2.2.trans (HF.out.2.below (fun q _ e=>by omega) H5.out.2.2.size);refine bodyPost_ret (v:=.tuple #[.agg #[(.bool true),(.slice A4 (n+1) c4),(.slice B m d)],.bool true,.int .i64 0]) (by simp[results,Tryz.f52,go_sem,y0,y1,y2]) rfl ?_
    rw[← HPP.out];refine⟨bF,0,.inr ⟨rfl,FIN.out,A4,c4,by rw[rgV,HL.out.1,HL.out.2],?_⟩⟩;rw[HL.out.1];exact cG (cG HR2.out.1 (Nat.le_refl _) (upF HB4.out) (fun _ _ _=>id)) H1.out.2.2.size HF.out.2 (fun k hk _ e=>by have:=H1.out.2.1.lt;omega)
   ·have FIN:=hIz (show jP N E s=(false,oz) by rw[jP,if_neg (by rw[HNB.out];simp),if_neg (fun e=>hnm.out (aQ.1 e)),if_neg (by rw[HOZ.out];exact hz0),HOZ.out]);have hzb:((oz==0)=false):=by simpa using hz0
    have q0:W5.cell? ⟨w.heap.size,0,none⟩=some (.bool true):=H5.out.1.cell 0;have q1:W5.cell? ⟨w.heap.size,1,none⟩=some (.slice A n c):=H5.out.1.cell 1;have q2:W5.cell? ⟨w.heap.size,2,none⟩=some (.slice B m d):=H5.out.1.cell 2;have s0:W5.cell? ⟨w.heap.size+1,0,none⟩=some (.bool false):=H5.out.2.1.cell 0;have s1:W5.cell? ⟨w.heap.size+1,1,none⟩=some (.slice none 0 0):=H5.out.2.1.cell 1;have s2:W5.cell? ⟨w.heap.size+1,2,none⟩=some (.slice none 0 0):=H5.out.2.1.cell 2;have g0:=H5.out.2.1.frozen 0;have g1:=H5.out.2.1.frozen 1;have g2:=H5.out.2.1.frozen 2;have HF:=aI2 (aW H5.out.2.1 (.bool true) (.slice A n c) (.slice B m d)) (aX W5 (w.heap.size+1) (.bool true) (.slice A n c) (.slice B m d));go_wp2;clear q0 q1 q2 s0 s1 s2 g0 g1 g2;generalize ((W5.setCell ⟨w.heap.size+1,0,none⟩ (.bool true)).setCell ⟨w.heap.size+1,1,none⟩ (.slice A n c)).setCell ⟨w.heap.size+1,2,none⟩ (.slice B m d)=VF at HF ⊢;have y0:VF.cell? ⟨w.heap.size+1,0,none⟩=some (.bool true):=HF.out.1.cell 0;have y1:VF.cell? ⟨w.heap.size+1,1,none⟩=some (.slice A n c):=HF.out.1.cell 1;have y2:VF.cell? ⟨w.heap.size+1,2,none⟩=some (.slice B m d):=HF.out.1.cell 2;have bF:Below w.heap.size w VF:=H5.out.2.2.trans (HF.out.2.below (fun q _ e=>by omega) H5.out.2.2.size);refine bodyPost_ret (v:=.tuple #[.agg #[(.bool true),(.slice A n c),(.slice B m d)],.bool false,.int .i64 oz]) (by simp[results,Tryz.f52,go_sem,y0,y1,y2]) rfl ?_;exact SAME.out _ _ FIN.out bF
end
end Go.Proofs.YtddffnonlmfhdaaGreatDoor
