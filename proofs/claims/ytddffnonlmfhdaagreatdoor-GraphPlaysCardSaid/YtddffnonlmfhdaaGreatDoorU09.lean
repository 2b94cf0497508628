/- Graphs: fits; Graphs: AddNode, AddEdge; Graphs: Labels, Matrix; Graphs: Matrix; Graphs: each call on none, on a node or a side that is none. -/
import Derived.Test.YtddffnonlmfhdaaGreatDoorU06
import Derived.Test.YtddffnonlmfhdaaGreatDoorU07
import Derived.Test.YtddffnonlmfhdaaGreatDoorU08
import Derived.Test.YtddffnonlmfhdaaGreatDoorU02
set_option linter.unusedVariables false
set_option linter.unusedSimpArgs false
set_option maxHeartbeats 16000000
set_option maxRecDepth 100000
namespace Go.Proofs.YtddffnonlmfhdaaGreatDoor
open Go.RowKit
theorem alX{W1 W:World}(ty:TypeId)(cs:Array Value)(h:Below W1.heap.size W1 W):Hid (Blk (W.alloc (.cells cs ty)) W.heap.size ty cs∧Below W1.heap.size W1 (W.alloc (.cells cs ty)))∧Hid (Below W.heap.size W (W.alloc (.cells cs ty)))∧W.heap.size<(W.alloc (.cells cs ty)).heap.size:=
 have k:=Blk.new W ty cs;⟨⟨k,h.alloc h.size _⟩,(Below.refl W.heap.size W).alloc (Nat.le_refl _) _,k.lt⟩

theorem CM(w:World)(F:Nat→Prop)(p:Nat)(G:Gr)(h:GrS w F p G)(ok:GOk G)(A:Option Addr)(c:Nat)(B:Option Addr)(d:Nat)(M:List Txt)(D:List Ed)(hM:aV w A (aC M))(hD:aV w B (aH D))(hm1:M.length≤1)(hd1:D.length≤1)(tM:∀s∈M,cT s)(tD:∀x∈D,pE x) :
  Calls Tryz.prog 82 #[.pointer (some ⟨p,0,none⟩),.slice A M.length c,.slice B D.length d] w (Sam w (.int .i64 (ofI (G.N++M) (G.X++D)))):=by
 have hcon:=vR w F p G h ok;have hf:=ok.few;have hs:=fW.of (fP ok.may);have hn5:(datN G).length≤32:=Nat.le_trans (fN (wX _ _) (fun s hs=>(kG ok).1 hs)) hf.1;have he5:(datE G).length≤256:=Nat.le_trans (fN (rD _) (fun x hx=>fO.1 hx)) hf.2;have HFT:=hIz (show yM (datN G++M) (datE G++D) from⟨by rw[List.length_append];omega,by rw[List.length_append];omega,fun t ht=>by
  rcases List.mem_append.1 ht with ht|ht
  ·have:=hs.n t ((kG ok).1 ht);unfold cT;omega
  ·exact tM t ht,fun x hx=>by
  rcases List.mem_append.1 hx with hx|hx
  ·have:=hs.e x (fO.1 hx);unfold pE cT;omega
  ·exact tD x hx⟩)
 have HBB:=hIz (show((datN G++M).length+(datE G++D).length*2)*16≤140737488355328 by simp only[List.length_append];omega);have HNL:=hIz (show((datN G).length+M.length)*16≤140737488355328∧((datE G).length+D.length)*48≤140737488355328 by omega);have HOI:=hIz (show ofI (datN G++M) (datE G++D)=ofI (G.N++M) (G.X++D) from LF M D);have HMD:=aI2 hM hD;obtain⟨x1,hx1⟩:∃q,(datN G).length=q:=⟨_,rfl⟩;obtain⟨x2,hx2⟩:∃q,(datE G).length=q:=⟨_,rfl⟩;obtain⟨m1,hm⟩:∃q,M.length=q:=⟨_,rfl⟩;obtain⟨m2,hdd⟩:∃q,D.length=q:=⟨_,rfl⟩;obtain⟨qN,hqN⟩:∃q,(datN G++M).length=q:=⟨_,rfl⟩;obtain⟨qE,hqE⟩:∃q,(datE G++D).length=q:=⟨_,rfl⟩;have HQ:=aI2 hqN hqE;have HN:=aI4 hx1 hx2 hm hdd;unfold QA bQ at hcon;rw[hx1,hx2] at hcon;rw[hm,hdd];clear h hf hs hn5 he5 tM tD hM hD hm1 hd1 hx1 hx2 hm hdd hqN hqE ok;go_enter Tryz.func82,Tryz.ntmps82;go_wp2_with fail;refine hcon.mono ?_;clear hcon;rintro e W0 ⟨A5,c5,B5,d5,rfl,o1,o2,b0⟩;have k7:=Blk.new W0 34 #[.slice A5 x1 c5,.slice B5 x2 d5];have u7:Below W0.heap.size W0 (W0.alloc (.cells #[.slice A5 x1 c5,.slice B5 x2 d5] 34)):=bR.alloc (Nat.le_refl _) _;have HR0:=hIz (show aV W0 A5 (aC (datN G))∧aV W0 B5 (aH (datE G))∧aV W0 A (aC M)∧aV W0 B (aH D) from⟨aV.of_own o1,aV.of_own o2,HMD.out.1.below b0,HMD.out.2.below b0⟩);have HW0:=hIz b0;have HK7:=aI2 k7 u7;have hz7:(W0.alloc (.cells #[.slice A5 x1 c5,.slice B5 x2 d5] 34)).heap.size=W0.heap.size+1:=by simp
 clear o1 o2 b0 k7 u7;go_upto_region 2 with (fail);generalize W0.alloc (.cells #[.slice A5 x1 c5,.slice B5 x2 d5] 34)=W1 at HK7 hz7 ⊢;have US:=hIz (show ∀W,Below W1.heap.size W1 W→(fun w'=>w'.cell? ⟨W0.heap.size,0,none⟩=some (.slice A5 x1 c5)∧w'.cell? ⟨W0.heap.size,1,none⟩=some (.slice B5 x2 d5)) W from fun W hb=>by
  have kb:=HK7.out.1.upd (upF hb) id;exact⟨kb.cell 0,kb.cell 1⟩)
 have HWT:=hIz (show Below w.heap.size w W1 from tHn HW0.out HK7.out.2);have HR:=hIz (show aV W1 A5 (aC (datN G))∧aV W1 B5 (aH (datE G))∧aV W1 A (aC M)∧aV W1 B (aH D) from⟨HR0.out.1.below HK7.out.2,HR0.out.2.1.below HK7.out.2,HR0.out.2.2.1.below HK7.out.2,HR0.out.2.2.2.below HK7.out.2⟩);clear HR0 HK7 HW0 HMD hz7;have HB0:=hIz (show Below W1.heap.size W1 W1.drew from bR.drew);have hS:=US.out _ HB0.out;refine gC (fun w'=>w'.cell? ⟨W0.heap.size,0,none⟩=some (.slice A5 x1 c5)∧w'.cell? ⟨W0.heap.size,1,none⟩=some (.slice B5 x2 d5)) (by kernel_rfl) (by kernel_rfl) hS ?_;refine oI (fun hd=>?_);generalize W1.drew=V0 at HB0 hS ⊢;(refine aD 0 rfl hd hS ?_;clear hd;intro hd;(try simp only[Act.put,gA,gZ,sA,sZ,sS]))
 refine aD 1 rfl hd hS ?_;clear hd;intro hd;refine aD 2 rfl hd hS ?_;clear hd;intro hd;refine aD 5 rfl hd hS ?_;clear hd;intro hd;refine aD 6 rfl hd hS ?_;clear hd;intro hd;refine aD 7 rfl hd hS ?_;clear hd;intro hd;clear hS;refine wY hd 3 8 14 ?_ ?_ ?_<;>(clear hd;intro hd)
 focus
  refine aL rfl rfl (fun K hK=>?_);go_simp;obtain⟨HX1,HS1,hlt1⟩:=alX 26 #[.slice A5 x1 c5,.slice A m1 c] HB0.out;refine hK _ _ (US.out _ HX1.out.2) ?_;clear hK K;(try simp only[Act.put,gA,gS,gZ,sA,sZ,sS])
  generalize V0.alloc (.cells #[.slice A5 x1 c5,.slice A m1 c] 26)=V1 at HX1 HS1 hlt1 ⊢;have HB1:=hIz HX1.out.2;refine wY hd 4 8 14 ?_ ?_ ?_<;>(clear hd;intro hd)
  focus
   refine aL rfl rfl (fun K hK=>?_);go_simp;have hcon:=cQ V1 V0.heap.size A5 c5 A c (datN G) M (by rw[HN.out.1,HN.out.2.2.1];exact HX1.out.1.upd (Upd.of_below bR (fun _=>False)) id) (HR.out.1.below HB1.out) (HR.out.2.2.1.below HB1.out) HNL.out.1;refine hcon.mono ?_;clear hcon;rintro e V2 ⟨v,rfl,own2X,b2X⟩;rw[HQ.out.1] at own2X;obtain⟨A2X,c2X,rfl,hle2X,row2X⟩:=bU own2X;have HB2:=hIz (tHn HB1.out b2X);have HS2:=hIz b2X;have HR2X:=aI2 row2X hle2X;clear own2X b2X row2X hle2X;refine hK _ _ (US.out _ HB2.out) ?_;clear hK K;(try simp only[Act.put,gA,gS,gZ,sA,sZ,sS])
   refine cP hd 8 14 ?_ ?_<;>(clear hd;intro hd)
   focus
    refine aL rfl rfl (fun K hK=>?_);go_simp;obtain⟨HX3,HS3,hlt3⟩:=alX 27 #[.slice B5 x2 d5,.slice B m2 d] HB2.out;refine hK _ _ (US.out _ HX3.out.2) ?_;clear hK K;(try simp only[Act.put,gA,gS,gZ,sA,sZ,sS])
    generalize V2.alloc (.cells #[.slice B5 x2 d5,.slice B m2 d] 27)=V3 at HX3 HS3 hlt3 ⊢;have HB3:=hIz HX3.out.2;refine cP hd 9 14 ?_ ?_<;>(clear hd;intro hd)
    focus
     refine aL rfl rfl (fun K hK=>?_);go_simp;have hcon:=cD V3 V2.heap.size B5 d5 B d (datE G) D (by rw[HN.out.2.1,HN.out.2.2.2];exact HX3.out.1.upd (Upd.of_below bR (fun _=>False)) id) (HR.out.2.1.below HB3.out) (HR.out.2.2.2.below HB3.out) HNL.out.2;refine hcon.mono ?_;clear hcon;rintro e V4 ⟨v,rfl,own4X,b4X⟩;rw[HQ.out.2] at own4X;obtain⟨A4X,c4X,rfl,hle4X,row4X⟩:=bU own4X;have HB4:=hIz (tHn HB3.out b4X);have HS4:=hIz b4X;have HR4X:=aI2 row4X hle4X;clear own4X b4X row4X hle4X;refine hK _ _ (US.out _ HB4.out) ?_;clear hK K;(try simp only[Act.put,gA,gS,gZ,sA,sZ,sS])
     refine cP hd 10 14 ?_ ?_<;>(clear hd;intro hd)
     focus
      refine aL rfl rfl (fun K hK=>?_);have rA:=HR2X.out.1.below ((HS3.out).trans ((HS4.out).mono (HS3.out).size));have rB:=HR4X.out.1.below bR;have hmade:=eO V4 A2X c2X A4X c4X (datN G++M) (datE G++D) ⟨rA,rB,by rw[HQ.out.1];exact HR2X.out.2,by rw[HQ.out.2];exact HR4X.out.2,HFT.out⟩ HBB.out;clear rA rB;rw[HQ.out.1,HQ.out.2] at hmade;go_simp;refine hmade.mono ?_;clear hmade;rintro e V5 ⟨AZ,cZ,BZ,dZ,rfl,-,-,bZ⟩;have HB5:=hIz (tHn HB4.out bZ);have HS5:=hIz bZ;clear bZ;unfold bQ;refine hK _ _ (US.out _ HB5.out) ?_;clear hK K;(try simp only[Act.put,gA,gS,gZ,sA,sZ,sS])
      have hS:=US.out _ HB5.out;refine aD 11 rfl hd hS ?_;clear hd;intro hd;refine aD 12 rfl hd hS ?_;clear hd;intro hd;refine aD 13 rfl hd hS ?_;clear hd;intro hd;clear hS;refine aM hd 14 ?_;clear hd;intro hd;refine aL rfl rfl (fun K hK=>?_);go_simp;obtain⟨HX6,HS6,hlt6⟩:=alX 34 #[.slice none 0 0,.slice none 0 0] HB5.out;refine hK _ _ (US.out _ HX6.out.2) ?_;clear hK K;(try simp only[Act.put,gA,gS,gZ,sA,sZ,sS])
      generalize V5.alloc (.cells #[.slice none 0 0,.slice none 0 0] 34)=V6 at HX6 HS6 hlt6 ⊢;have HB6:=hIz HX6.out.2;have kr:=HX6.out.1.upd (Upd.of_below bR (fun _=>False)) id;have bZ:=HB6.out;have hz:=HB5.out.size;generalize V5.heap.size=kz at kr hz ⊢;rename World=>WZ
     rotate_left 1
     focus
      refine aL rfl rfl (fun K hK=>?_);go_simp;obtain⟨HX7,HS7,hlt7⟩:=alX 34 #[.slice none 0 0,.slice none 0 0] HB4.out;refine hK _ _ (US.out _ HX7.out.2) ?_;clear hK K;(try simp only[Act.put,gA,gS,gZ,sA,sZ,sS])
      generalize V4.alloc (.cells #[.slice none 0 0,.slice none 0 0] 34)=V7 at HX7 HS7 hlt7 ⊢;have HB7:=hIz HX7.out.2;refine aM hd 10 ?_;clear hd;intro hd;refine aL rfl rfl (fun K hK=>?_);have rA:=HR2X.out.1.below (((HS3.out).trans ((HS4.out).mono (HS3.out).size)).trans ((HS7.out).mono ((HS3.out).trans ((HS4.out).mono (HS3.out).size)).size));have rB:=HR4X.out.1.below (HS7.out);have hmade:=eO V7 A2X c2X A4X c4X (datN G++M) (datE G++D) ⟨rA,rB,by rw[HQ.out.1];exact HR2X.out.2,by rw[HQ.out.2];exact HR4X.out.2,HFT.out⟩ HBB.out;clear rA rB;rw[HQ.out.1,HQ.out.2] at hmade;go_simp;refine hmade.mono ?_;clear hmade;rintro e V8 ⟨AZ,cZ,BZ,dZ,rfl,-,-,bZ⟩;have HB8:=hIz (tHn HB7.out bZ);have HS8:=hIz bZ;clear bZ;unfold bQ;refine hK _ _ (US.out _ HB8.out) ?_;clear hK K;(try simp only[Act.put,gA,gS,gZ,sA,sZ,sS])
      have hS:=US.out _ HB8.out;refine aD 11 rfl hd hS ?_;clear hd;intro hd;refine aD 12 rfl hd hS ?_;clear hd;intro hd;refine aD 13 rfl hd hS ?_;clear hd;intro hd;clear hS;have kr:=HX7.out.1.upd (Upd.of_below (HS8.out) (fun _=>False)) id;have bZ:=HB8.out;have hz:=HB4.out.size;generalize V4.heap.size=kz at kr hz ⊢;rename World=>WZ
     rotate_left 1
    rotate_left 2
    focus
     refine aL rfl rfl (fun K hK=>?_);go_simp;obtain⟨HX9,HS9,hlt9⟩:=alX 34 #[.slice none 0 0,.slice none 0 0] HB3.out;refine hK _ _ (US.out _ HX9.out.2) ?_;clear hK K;(try simp only[Act.put,gA,gS,gZ,sA,sZ,sS])
     generalize V3.alloc (.cells #[.slice none 0 0,.slice none 0 0] 34)=V9 at HX9 HS9 hlt9 ⊢;have HB9:=hIz HX9.out.2;refine aM hd 9 ?_;clear hd;intro hd;refine aL rfl rfl (fun K hK=>?_);go_simp;have hcon:=cD V9 V2.heap.size B5 d5 B d (datE G) D (by rw[HN.out.2.1,HN.out.2.2.2];exact HX3.out.1.upd (Upd.of_below (HS9.out) (fun _=>False)) id) (HR.out.2.1.below HB9.out) (HR.out.2.2.2.below HB9.out) HNL.out.2;refine hcon.mono ?_;clear hcon;rintro e V10 ⟨v,rfl,own10X,b10X⟩;rw[HQ.out.2] at own10X;obtain⟨A10X,c10X,rfl,hle10X,row10X⟩:=bU own10X;have HB10:=hIz (tHn HB9.out b10X);have HS10:=hIz b10X;have HR10X:=aI2 row10X hle10X;clear own10X b10X row10X hle10X;refine hK _ _ (US.out _ HB10.out) ?_;clear hK K;(try simp only[Act.put,gA,gS,gZ,sA,sZ,sS])
     refine aM hd 10 ?_;clear hd;intro hd;refine aL rfl rfl (fun K hK=>?_);have rA:=HR2X.out.1.below (((HS3.out).trans ((HS9.out).mono (HS3.out).size)).trans ((HS10.out).mono ((HS3.out).trans ((HS9.out).mono (HS3.out).size)).size));have rB:=HR10X.out.1.below bR;have hmade:=eO V10 A2X c2X A10X c10X (datN G++M) (datE G++D) ⟨rA,rB,by rw[HQ.out.1];exact HR2X.out.2,by rw[HQ.out.2];exact HR10X.out.2,HFT.out⟩ HBB.out;clear rA rB;rw[HQ.out.1,HQ.out.2] at hmade;go_simp;refine hmade.mono ?_;clear hmade;rintro e V11 ⟨AZ,cZ,BZ,dZ,rfl,-,-,bZ⟩;have HB11:=hIz (tHn HB10.out bZ);have HS11:=hIz bZ;clear bZ;unfold bQ;refine hK _ _ (US.out _ HB11.out) ?_;clear hK K;(try simp only[Act.put,gA,gS,gZ,sA,sZ,sS])
     have hS:=US.out _ HB11.out;refine aD 11 rfl hd hS ?_;clear hd;intro hd;refine aD 12 rfl hd hS ?_;clear hd;intro hd;refine aD 13 rfl hd hS ?_;clear hd;intro hd;clear hS;have kr:=HX9.out.1.upd (Upd.of_below ((HS10.out).trans ((HS11.out).mono (HS10.out).size)) (fun _=>False)) id;have bZ:=HB11.out;have hz:=HB3.out.size;generalize V3.heap.size=kz at kr hz ⊢;rename World=>WZ
    rotate_left 1
   rotate_left 3
   focus
    refine aL rfl rfl (fun K hK=>?_);go_simp;obtain⟨HX12,HS12,hlt12⟩:=alX 34 #[.slice none 0 0,.slice none 0 0] HB2.out;refine hK _ _ (US.out _ HX12.out.2) ?_;clear hK K;(try simp only[Act.put,gA,gS,gZ,sA,sZ,sS])
    generalize V2.alloc (.cells #[.slice none 0 0,.slice none 0 0] 34)=V12 at HX12 HS12 hlt12 ⊢;have HB12:=hIz HX12.out.2;refine aM hd 8 ?_;clear hd;intro hd;refine aL rfl rfl (fun K hK=>?_);go_simp;obtain⟨HX13,HS13,hlt13⟩:=alX 27 #[.slice B5 x2 d5,.slice B m2 d] HB12.out;refine hK _ _ (US.out _ HX13.out.2) ?_;clear hK K;(try simp only[Act.put,gA,gS,gZ,sA,sZ,sS])
    generalize V12.alloc (.cells #[.slice B5 x2 d5,.slice B m2 d] 27)=V13 at HX13 HS13 hlt13 ⊢;have HB13:=hIz HX13.out.2;refine aM hd 9 ?_;clear hd;intro hd;refine aL rfl rfl (fun K hK=>?_);go_simp;have hcon:=cD V13 V12.heap.size B5 d5 B d (datE G) D (by rw[HN.out.2.1,HN.out.2.2.2];exact HX13.out.1.upd (Upd.of_below bR (fun _=>False)) id) (HR.out.2.1.below HB13.out) (HR.out.2.2.2.below HB13.out) HNL.out.2;refine hcon.mono ?_;clear hcon;rintro e V14 ⟨v,rfl,own14X,b14X⟩;rw[HQ.out.2] at own14X;obtain⟨A14X,c14X,rfl,hle14X,row14X⟩:=bU own14X;have HB14:=hIz (tHn HB13.out b14X);have HS14:=hIz b14X;have HR14X:=aI2 row14X hle14X;clear own14X b14X row14X hle14X;refine hK _ _ (US.out _ HB14.out) ?_;clear hK K;(try simp only[Act.put,gA,gS,gZ,sA,sZ,sS])
    refine aM hd 10 ?_;clear hd;intro hd;refine aL rfl rfl (fun K hK=>?_);have rA:=HR2X.out.1.below (((HS12.out).trans ((HS13.out).mono (HS12.out).size)).trans ((HS14.out).mono ((HS12.out).trans ((HS13.out).mono (HS12.out).size)).size));have rB:=HR14X.out.1.below bR;have hmade:=eO V14 A2X c2X A14X c14X (datN G++M) (datE G++D) ⟨rA,rB,by rw[HQ.out.1];exact HR2X.out.2,by rw[HQ.out.2];exact HR14X.out.2,HFT.out⟩ HBB.out;clear rA rB;rw[HQ.out.1,HQ.out.2] at hmade;go_simp;refine hmade.mono ?_;clear hmade;rintro e V15 ⟨AZ,cZ,BZ,dZ,rfl,-,-,bZ⟩;have HB15:=hIz (tHn HB14.out bZ);have HS15:=hIz bZ;clear bZ;unfold bQ;refine hK _ _ (US.out _ HB15.out) ?_;clear hK K;(try simp only[Act.put,gA,gS,gZ,sA,sZ,sS])
    have hS:=US.out _ HB15.out;refine aD 11 rfl hd hS ?_;clear hd;intro hd;refine aD 12 rfl hd hS ?_;clear hd;intro hd;refine aD 13 rfl hd hS ?_;clear hd;intro hd;clear hS;have kr:=HX12.out.1.upd (Upd.of_below (((HS13.out).trans ((HS14.out).mono (HS13.out).size)).trans ((HS15.out).mono ((HS13.out).trans ((HS14.out).mono (HS13.out).size)).size)) (fun _=>False)) id;have bZ:=HB15.out;have hz:=HB2.out.size;generalize V2.heap.size=kz at kr hz ⊢;rename World=>WZ
   rotate_left 1
  rotate_left 4
  focus
   refine aL rfl rfl (fun K hK=>?_);go_simp;obtain⟨HX16,HS16,hlt16⟩:=alX 27 #[.slice B5 x2 d5,.slice B m2 d] HB1.out;refine hK _ _ (US.out _ HX16.out.2) ?_;clear hK K;(try simp only[Act.put,gA,gS,gZ,sA,sZ,sS])
   generalize V1.alloc (.cells #[.slice B5 x2 d5,.slice B m2 d] 27)=V16 at HX16 HS16 hlt16 ⊢;have HB16:=hIz HX16.out.2;refine cP hd 4 14 ?_ ?_<;>(clear hd;intro hd)
   focus
    refine aL rfl rfl (fun K hK=>?_);go_simp;have hcon:=cQ V16 V0.heap.size A5 c5 A c (datN G) M (by rw[HN.out.1,HN.out.2.2.1];exact HX1.out.1.upd (Upd.of_below (HS16.out) (fun _=>False)) id) (HR.out.1.below HB16.out) (HR.out.2.2.1.below HB16.out) HNL.out.1;refine hcon.mono ?_;clear hcon;rintro e V17 ⟨v,rfl,own17X,b17X⟩;rw[HQ.out.1] at own17X;obtain⟨A17X,c17X,rfl,hle17X,row17X⟩:=bU own17X;have HB17:=hIz (tHn HB16.out b17X);have HS17:=hIz b17X;have HR17X:=aI2 row17X hle17X;clear own17X b17X row17X hle17X;refine hK _ _ (US.out _ HB17.out) ?_;clear hK K;(try simp only[Act.put,gA,gS,gZ,sA,sZ,sS])
    refine cP hd 9 14 ?_ ?_<;>(clear hd;intro hd)
    focus
     refine aL rfl rfl (fun K hK=>?_);go_simp;have hcon:=cD V17 V1.heap.size B5 d5 B d (datE G) D (by rw[HN.out.2.1,HN.out.2.2.2];exact HX16.out.1.upd (Upd.of_below (HS17.out) (fun _=>False)) id) (HR.out.2.1.below HB17.out) (HR.out.2.2.2.below HB17.out) HNL.out.2;refine hcon.mono ?_;clear hcon;rintro e V18 ⟨v,rfl,own18X,b18X⟩;rw[HQ.out.2] at own18X;obtain⟨A18X,c18X,rfl,hle18X,row18X⟩:=bU own18X;have HB18:=hIz (tHn HB17.out b18X);have HS18:=hIz b18X;have HR18X:=aI2 row18X hle18X;clear own18X b18X row18X hle18X;refine hK _ _ (US.out _ HB18.out) ?_;clear hK K;(try simp only[Act.put,gA,gS,gZ,sA,sZ,sS])
     refine cP hd 10 14 ?_ ?_<;>(clear hd;intro hd)
     focus
      refine aL rfl rfl (fun K hK=>?_);have rA:=HR17X.out.1.below (HS18.out);have rB:=HR18X.out.1.below bR;have hmade:=eO V18 A17X c17X A18X c18X (datN G++M) (datE G++D) ⟨rA,rB,by rw[HQ.out.1];exact HR17X.out.2,by rw[HQ.out.2];exact HR18X.out.2,HFT.out⟩ HBB.out;clear rA rB;rw[HQ.out.1,HQ.out.2] at hmade;go_simp;refine hmade.mono ?_;clear hmade;rintro e V19 ⟨AZ,cZ,BZ,dZ,rfl,-,-,bZ⟩;have HB19:=hIz (tHn HB18.out bZ);have HS19:=hIz bZ;clear bZ;unfold bQ;refine hK _ _ (US.out _ HB19.out) ?_;clear hK K;(try simp only[Act.put,gA,gS,gZ,sA,sZ,sS])
      have hS:=US.out _ HB19.out;refine aD 11 rfl hd hS ?_;clear hd;intro hd;refine aD 12 rfl hd hS ?_;clear hd;intro hd;refine aD 13 rfl hd hS ?_;clear hd;intro hd;clear hS;refine aM hd 14 ?_;clear hd;intro hd;refine aL rfl rfl (fun K hK=>?_);go_simp;obtain⟨HX20,HS20,hlt20⟩:=alX 34 #[.slice none 0 0,.slice none 0 0] HB19.out;refine hK _ _ (US.out _ HX20.out.2) ?_;clear hK K;(try simp only[Act.put,gA,gS,gZ,sA,sZ,sS])
      generalize V19.alloc (.cells #[.slice none 0 0,.slice none 0 0] 34)=V20 at HX20 HS20 hlt20 ⊢;have HB20:=hIz HX20.out.2;have kr:=HX20.out.1.upd (Upd.of_below bR (fun _=>False)) id;have bZ:=HB20.out;have hz:=HB19.out.size;generalize V19.heap.size=kz at kr hz ⊢;rename World=>WZ
     rotate_left 1
     focus
      refine aL rfl rfl (fun K hK=>?_);go_simp;obtain⟨HX21,HS21,hlt21⟩:=alX 34 #[.slice none 0 0,.slice none 0 0] HB18.out;refine hK _ _ (US.out _ HX21.out.2) ?_;clear hK K;(try simp only[Act.put,gA,gS,gZ,sA,sZ,sS])
      generalize V18.alloc (.cells #[.slice none 0 0,.slice none 0 0] 34)=V21 at HX21 HS21 hlt21 ⊢;have HB21:=hIz HX21.out.2;refine aM hd 10 ?_;clear hd;intro hd;refine aL rfl rfl (fun K hK=>?_);have rA:=HR17X.out.1.below ((HS18.out).trans ((HS21.out).mono (HS18.out).size));have rB:=HR18X.out.1.below (HS21.out);have hmade:=eO V21 A17X c17X A18X c18X (datN G++M) (datE G++D) ⟨rA,rB,by rw[HQ.out.1];exact HR17X.out.2,by rw[HQ.out.2];exact HR18X.out.2,HFT.out⟩ HBB.out;clear rA rB;rw[HQ.out.1,HQ.out.2] at hmade;go_simp;refine hmade.mono ?_;clear hmade;rintro e V22 ⟨AZ,cZ,BZ,dZ,rfl,-,-,bZ⟩;have HB22:=hIz (tHn HB21.out bZ);have HS22:=hIz bZ;clear bZ;unfold bQ;refine hK _ _ (US.out _ HB22.out) ?_;clear hK K;(try simp only[Act.put,gA,gS,gZ,sA,sZ,sS])
      have hS:=US.out _ HB22.out;refine aD 11 rfl hd hS ?_;clear hd;intro hd;refine aD 12 rfl hd hS ?_;clear hd;intro hd;refine aD 13 rfl hd hS ?_;clear hd;intro hd;clear hS;have kr:=HX21.out.1.upd (Upd.of_below (HS22.out) (fun _=>False)) id;have bZ:=HB22.out;have hz:=HB18.out.size;generalize V18.heap.size=kz at kr hz ⊢;rename World=>WZ
     rotate_left 1
    rotate_left 2
    focus
     refine aL rfl rfl (fun K hK=>?_);go_simp;obtain⟨HX23,HS23,hlt23⟩:=alX 34 #[.slice none 0 0,.slice none 0 0] HB17.out;refine hK _ _ (US.out _ HX23.out.2) ?_;clear hK K;(try simp only[Act.put,gA,gS,gZ,sA,sZ,sS])
     generalize V17.alloc (.cells #[.slice none 0 0,.slice none 0 0] 34)=V23 at HX23 HS23 hlt23 ⊢;have HB23:=hIz HX23.out.2;refine aM hd 9 ?_;clear hd;intro hd;refine aL rfl rfl (fun K hK=>?_);go_simp;have hcon:=cD V23 V1.heap.size B5 d5 B d (datE G) D (by rw[HN.out.2.1,HN.out.2.2.2];exact HX16.out.1.upd (Upd.of_below ((HS17.out).trans ((HS23.out).mono (HS17.out).size)) (fun _=>False)) id) (HR.out.2.1.below HB23.out) (HR.out.2.2.2.below HB23.out) HNL.out.2;refine hcon.mono ?_;clear hcon;rintro e V24 ⟨v,rfl,own24X,b24X⟩;rw[HQ.out.2] at own24X;obtain⟨A24X,c24X,rfl,hle24X,row24X⟩:=bU own24X;have HB24:=hIz (tHn HB23.out b24X);have HS24:=hIz b24X;have HR24X:=aI2 row24X hle24X;clear own24X b24X row24X hle24X;refine hK _ _ (US.out _ HB24.out) ?_;clear hK K;(try simp only[Act.put,gA,gS,gZ,sA,sZ,sS])
     refine aM hd 10 ?_;clear hd;intro hd;refine aL rfl rfl (fun K hK=>?_);have rA:=HR17X.out.1.below ((HS23.out).trans ((HS24.out).mono (HS23.out).size));have rB:=HR24X.out.1.below bR;have hmade:=eO V24 A17X c17X A24X c24X (datN G++M) (datE G++D) ⟨rA,rB,by rw[HQ.out.1];exact HR17X.out.2,by rw[HQ.out.2];exact HR24X.out.2,HFT.out⟩ HBB.out;clear rA rB;rw[HQ.out.1,HQ.out.2] at hmade;go_simp;refine hmade.mono ?_;clear hmade;rintro e V25 ⟨AZ,cZ,BZ,dZ,rfl,-,-,bZ⟩;have HB25:=hIz (tHn HB24.out bZ);have HS25:=hIz bZ;clear bZ;unfold bQ;refine hK _ _ (US.out _ HB25.out) ?_;clear hK K;(try simp only[Act.put,gA,gS,gZ,sA,sZ,sS])
     have hS:=US.out _ HB25.out;refine aD 11 rfl hd hS ?_;clear hd;intro hd;refine aD 12 rfl hd hS ?_;clear hd;intro hd;refine aD 13 rfl hd hS ?_;clear hd;intro hd;clear hS;have kr:=HX23.out.1.upd (Upd.of_below ((HS24.out).trans ((HS25.out).mono (HS24.out).size)) (fun _=>False)) id;have bZ:=HB25.out;have hz:=HB17.out.size;generalize V17.heap.size=kz at kr hz ⊢;rename World=>WZ
    rotate_left 1
   rotate_left 3
   focus
    refine aL rfl rfl (fun K hK=>?_);go_simp;obtain⟨HX26,HS26,hlt26⟩:=alX 34 #[.slice none 0 0,.slice none 0 0] HB16.out;refine hK _ _ (US.out _ HX26.out.2) ?_;clear hK K;(try simp only[Act.put,gA,gS,gZ,sA,sZ,sS])
    generalize V16.alloc (.cells #[.slice none 0 0,.slice none 0 0] 34)=V26 at HX26 HS26 hlt26 ⊢;have HB26:=hIz HX26.out.2;refine aM hd 4 ?_;clear hd;intro hd;refine aL rfl rfl (fun K hK=>?_);go_simp;have hcon:=cQ V26 V0.heap.size A5 c5 A c (datN G) M (by rw[HN.out.1,HN.out.2.2.1];exact HX1.out.1.upd (Upd.of_below ((HS16.out).trans ((HS26.out).mono (HS16.out).size)) (fun _=>False)) id) (HR.out.1.below HB26.out) (HR.out.2.2.1.below HB26.out) HNL.out.1;refine hcon.mono ?_;clear hcon;rintro e V27 ⟨v,rfl,own27X,b27X⟩;rw[HQ.out.1] at own27X;obtain⟨A27X,c27X,rfl,hle27X,row27X⟩:=bU own27X;have HB27:=hIz (tHn HB26.out b27X);have HS27:=hIz b27X;have HR27X:=aI2 row27X hle27X;clear own27X b27X row27X hle27X;refine hK _ _ (US.out _ HB27.out) ?_;clear hK K;(try simp only[Act.put,gA,gS,gZ,sA,sZ,sS])
    refine aM hd 9 ?_;clear hd;intro hd;refine aL rfl rfl (fun K hK=>?_);go_simp;have hcon:=cD V27 V1.heap.size B5 d5 B d (datE G) D (by rw[HN.out.2.1,HN.out.2.2.2];exact HX16.out.1.upd (Upd.of_below ((HS26.out).trans ((HS27.out).mono (HS26.out).size)) (fun _=>False)) id) (HR.out.2.1.below HB27.out) (HR.out.2.2.2.below HB27.out) HNL.out.2;refine hcon.mono ?_;clear hcon;rintro e V28 ⟨v,rfl,own28X,b28X⟩;rw[HQ.out.2] at own28X;obtain⟨A28X,c28X,rfl,hle28X,row28X⟩:=bU own28X;have HB28:=hIz (tHn HB27.out b28X);have HS28:=hIz b28X;have HR28X:=aI2 row28X hle28X;clear own28X b28X row28X hle28X;refine hK _ _ (US.out _ HB28.out) ?_;clear hK K;(try simp only[Act.put,gA,gS,gZ,sA,sZ,sS])
    refine aM hd 10 ?_;clear hd;intro hd;refine aL rfl rfl (fun K hK=>?_);have rA:=HR27X.out.1.below (HS28.out);have rB:=HR28X.out.1.below bR;have hmade:=eO V28 A27X c27X A28X c28X (datN G++M) (datE G++D) ⟨rA,rB,by rw[HQ.out.1];exact HR27X.out.2,by rw[HQ.out.2];exact HR28X.out.2,HFT.out⟩ HBB.out;clear rA rB;rw[HQ.out.1,HQ.out.2] at hmade;go_simp;refine hmade.mono ?_;clear hmade;rintro e V29 ⟨AZ,cZ,BZ,dZ,rfl,-,-,bZ⟩;have HB29:=hIz (tHn HB28.out bZ);have HS29:=hIz bZ;clear bZ;unfold bQ;refine hK _ _ (US.out _ HB29.out) ?_;clear hK K;(try simp only[Act.put,gA,gS,gZ,sA,sZ,sS])
    have hS:=US.out _ HB29.out;refine aD 11 rfl hd hS ?_;clear hd;intro hd;refine aD 12 rfl hd hS ?_;clear hd;intro hd;refine aD 13 rfl hd hS ?_;clear hd;intro hd;clear hS;have kr:=HX26.out.1.upd (Upd.of_below (((HS27.out).trans ((HS28.out).mono (HS27.out).size)).trans ((HS29.out).mono ((HS27.out).trans ((HS28.out).mono (HS27.out).size)).size)) (fun _=>False)) id;have bZ:=HB29.out;have hz:=HB16.out.size;generalize V16.heap.size=kz at kr hz ⊢;rename World=>WZ
   rotate_left 1
  rotate_left 4
  focus
   refine aL rfl rfl (fun K hK=>?_);go_simp;obtain⟨HX30,HS30,hlt30⟩:=alX 34 #[.slice none 0 0,.slice none 0 0] HB1.out;refine hK _ _ (US.out _ HX30.out.2) ?_;clear hK K;(try simp only[Act.put,gA,gS,gZ,sA,sZ,sS])
   generalize V1.alloc (.cells #[.slice none 0 0,.slice none 0 0] 34)=V30 at HX30 HS30 hlt30 ⊢;have HB30:=hIz HX30.out.2;refine cP hd 4 8 ?_ ?_<;>(clear hd;intro hd)
   focus
    refine aL rfl rfl (fun K hK=>?_);go_simp;have hcon:=cQ V30 V0.heap.size A5 c5 A c (datN G) M (by rw[HN.out.1,HN.out.2.2.1];exact HX1.out.1.upd (Upd.of_below (HS30.out) (fun _=>False)) id) (HR.out.1.below HB30.out) (HR.out.2.2.1.below HB30.out) HNL.out.1;refine hcon.mono ?_;clear hcon;rintro e V31 ⟨v,rfl,own31X,b31X⟩;rw[HQ.out.1] at own31X;obtain⟨A31X,c31X,rfl,hle31X,row31X⟩:=bU own31X;have HB31:=hIz (tHn HB30.out b31X);have HS31:=hIz b31X;have HR31X:=aI2 row31X hle31X;clear own31X b31X row31X hle31X;refine hK _ _ (US.out _ HB31.out) ?_;clear hK K;(try simp only[Act.put,gA,gS,gZ,sA,sZ,sS])
    refine aM hd 8 ?_;clear hd;intro hd;refine aL rfl rfl (fun K hK=>?_);go_simp;obtain⟨HX32,HS32,hlt32⟩:=alX 27 #[.slice B5 x2 d5,.slice B m2 d] HB31.out;refine hK _ _ (US.out _ HX32.out.2) ?_;clear hK K;(try simp only[Act.put,gA,gS,gZ,sA,sZ,sS])
    generalize V31.alloc (.cells #[.slice B5 x2 d5,.slice B m2 d] 27)=V32 at HX32 HS32 hlt32 ⊢;have HB32:=hIz HX32.out.2;refine aM hd 9 ?_;clear hd;intro hd;refine aL rfl rfl (fun K hK=>?_);go_simp;have hcon:=cD V32 V31.heap.size B5 d5 B d (datE G) D (by rw[HN.out.2.1,HN.out.2.2.2];exact HX32.out.1.upd (Upd.of_below bR (fun _=>False)) id) (HR.out.2.1.below HB32.out) (HR.out.2.2.2.below HB32.out) HNL.out.2;refine hcon.mono ?_;clear hcon;rintro e V33 ⟨v,rfl,own33X,b33X⟩;rw[HQ.out.2] at own33X;obtain⟨A33X,c33X,rfl,hle33X,row33X⟩:=bU own33X;have HB33:=hIz (tHn HB32.out b33X);have HS33:=hIz b33X;have HR33X:=aI2 row33X hle33X;clear own33X b33X row33X hle33X;refine hK _ _ (US.out _ HB33.out) ?_;clear hK K;(try simp only[Act.put,gA,gS,gZ,sA,sZ,sS])
    refine aM hd 10 ?_;clear hd;intro hd;refine aL rfl rfl (fun K hK=>?_);have rA:=HR31X.out.1.below ((HS32.out).trans ((HS33.out).mono (HS32.out).size));have rB:=HR33X.out.1.below bR;have hmade:=eO V33 A31X c31X A33X c33X (datN G++M) (datE G++D) ⟨rA,rB,by rw[HQ.out.1];exact HR31X.out.2,by rw[HQ.out.2];exact HR33X.out.2,HFT.out⟩ HBB.out;clear rA rB;rw[HQ.out.1,HQ.out.2] at hmade;go_simp;refine hmade.mono ?_;clear hmade;rintro e V34 ⟨AZ,cZ,BZ,dZ,rfl,-,-,bZ⟩;have HB34:=hIz (tHn HB33.out bZ);have HS34:=hIz bZ;clear bZ;unfold bQ;refine hK _ _ (US.out _ HB34.out) ?_;clear hK K;(try simp only[Act.put,gA,gS,gZ,sA,sZ,sS])
    have hS:=US.out _ HB34.out;refine aD 11 rfl hd hS ?_;clear hd;intro hd;refine aD 12 rfl hd hS ?_;clear hd;intro hd;refine aD 13 rfl hd hS ?_;clear hd;intro hd;clear hS;have kr:=HX30.out.1.upd (Upd.of_below ((((HS31.out).trans ((HS32.out).mono (HS31.out).size)).trans ((HS33.out).mono ((HS31.out).trans ((HS32.out).mono (HS31.out).size)).size)).trans ((HS34.out).mono (((HS31.out).trans ((HS32.out).mono (HS31.out).size)).trans ((HS33.out).mono ((HS31.out).trans ((HS32.out).mono (HS31.out).size)).size)).size)) (fun _=>False)) id;have bZ:=HB34.out;have hz:=HB1.out.size;generalize V1.heap.size=kz at kr hz ⊢;rename World=>WZ
   rotate_left 1
   focus
    refine aL rfl rfl (fun K hK=>?_);go_simp;obtain⟨HX35,HS35,hlt35⟩:=alX 27 #[.slice B5 x2 d5,.slice B m2 d] HB30.out;refine hK _ _ (US.out _ HX35.out.2) ?_;clear hK K;(try simp only[Act.put,gA,gS,gZ,sA,sZ,sS])
    generalize V30.alloc (.cells #[.slice B5 x2 d5,.slice B m2 d] 27)=V35 at HX35 HS35 hlt35 ⊢;have HB35:=hIz HX35.out.2;refine aM hd 4 ?_;clear hd;intro hd;refine aL rfl rfl (fun K hK=>?_);go_simp;have hcon:=cQ V35 V0.heap.size A5 c5 A c (datN G) M (by rw[HN.out.1,HN.out.2.2.1];exact HX1.out.1.upd (Upd.of_below ((HS30.out).trans ((HS35.out).mono (HS30.out).size)) (fun _=>False)) id) (HR.out.1.below HB35.out) (HR.out.2.2.1.below HB35.out) HNL.out.1;refine hcon.mono ?_;clear hcon;rintro e V36 ⟨v,rfl,own36X,b36X⟩;rw[HQ.out.1] at own36X;obtain⟨A36X,c36X,rfl,hle36X,row36X⟩:=bU own36X;have HB36:=hIz (tHn HB35.out b36X);have HS36:=hIz b36X;have HR36X:=aI2 row36X hle36X;clear own36X b36X row36X hle36X;refine hK _ _ (US.out _ HB36.out) ?_;clear hK K;(try simp only[Act.put,gA,gS,gZ,sA,sZ,sS])
    refine aM hd 9 ?_;clear hd;intro hd;refine aL rfl rfl (fun K hK=>?_);go_simp;have hcon:=cD V36 V30.heap.size B5 d5 B d (datE G) D (by rw[HN.out.2.1,HN.out.2.2.2];exact HX35.out.1.upd (Upd.of_below (HS36.out) (fun _=>False)) id) (HR.out.2.1.below HB36.out) (HR.out.2.2.2.below HB36.out) HNL.out.2;refine hcon.mono ?_;clear hcon;rintro e V37 ⟨v,rfl,own37X,b37X⟩;rw[HQ.out.2] at own37X;obtain⟨A37X,c37X,rfl,hle37X,row37X⟩:=bU own37X;have HB37:=hIz (tHn HB36.out b37X);have HS37:=hIz b37X;have HR37X:=aI2 row37X hle37X;clear own37X b37X row37X hle37X;refine hK _ _ (US.out _ HB37.out) ?_;clear hK K;(try simp only[Act.put,gA,gS,gZ,sA,sZ,sS])
    refine aM hd 10 ?_;clear hd;intro hd;refine aL rfl rfl (fun K hK=>?_);have rA:=HR36X.out.1.below (HS37.out);have rB:=HR37X.out.1.below bR;have hmade:=eO V37 A36X c36X A37X c37X (datN G++M) (datE G++D) ⟨rA,rB,by rw[HQ.out.1];exact HR36X.out.2,by rw[HQ.out.2];exact HR37X.out.2,HFT.out⟩ HBB.out;clear rA rB;rw[HQ.out.1,HQ.out.2] at hmade;go_simp;refine hmade.mono ?_;clear hmade;rintro e V38 ⟨AZ,cZ,BZ,dZ,rfl,-,-,bZ⟩;have HB38:=hIz (tHn HB37.out bZ);have HS38:=hIz bZ;clear bZ;unfold bQ;refine hK _ _ (US.out _ HB38.out) ?_;clear hK K;(try simp only[Act.put,gA,gS,gZ,sA,sZ,sS])
    have hS:=US.out _ HB38.out;refine aD 11 rfl hd hS ?_;clear hd;intro hd;refine aD 12 rfl hd hS ?_;clear hd;intro hd;refine aD 13 rfl hd hS ?_;clear hd;intro hd;clear hS;have kr:=HX30.out.1.upd (Upd.of_below ((((HS35.out).trans ((HS36.out).mono (HS35.out).size)).trans ((HS37.out).mono ((HS35.out).trans ((HS36.out).mono (HS35.out).size)).size)).trans ((HS38.out).mono (((HS35.out).trans ((HS36.out).mono (HS35.out).size)).trans ((HS37.out).mono ((HS35.out).trans ((HS36.out).mono (HS35.out).size)).size)).size)) (fun _=>False)) id;have bZ:=HB38.out;have hz:=HB1.out.size;generalize V1.heap.size=kz at kr hz ⊢;rename World=>WZ
   rotate_left 1
  rotate_left 2
 rotate_left 10
 focus
  refine aL rfl rfl (fun K hK=>?_);go_simp;obtain⟨HX39,HS39,hlt39⟩:=alX 27 #[.slice B5 x2 d5,.slice B m2 d] HB0.out;refine hK _ _ (US.out _ HX39.out.2) ?_;clear hK K;(try simp only[Act.put,gA,gS,gZ,sA,sZ,sS])
  generalize V0.alloc (.cells #[.slice B5 x2 d5,.slice B m2 d] 27)=V39 at HX39 HS39 hlt39 ⊢;have HB39:=hIz HX39.out.2;refine cP hd 3 14 ?_ ?_<;>(clear hd;intro hd)
  focus
   refine aL rfl rfl (fun K hK=>?_);go_simp;obtain⟨HX40,HS40,hlt40⟩:=alX 26 #[.slice A5 x1 c5,.slice A m1 c] HB39.out;refine hK _ _ (US.out _ HX40.out.2) ?_;clear hK K;(try simp only[Act.put,gA,gS,gZ,sA,sZ,sS])
   generalize V39.alloc (.cells #[.slice A5 x1 c5,.slice A m1 c] 26)=V40 at HX40 HS40 hlt40 ⊢;have HB40:=hIz HX40.out.2;refine cP hd 4 14 ?_ ?_<;>(clear hd;intro hd)
   focus
    refine aL rfl rfl (fun K hK=>?_);go_simp;have hcon:=cQ V40 V39.heap.size A5 c5 A c (datN G) M (by rw[HN.out.1,HN.out.2.2.1];exact HX40.out.1.upd (Upd.of_below bR (fun _=>False)) id) (HR.out.1.below HB40.out) (HR.out.2.2.1.below HB40.out) HNL.out.1;refine hcon.mono ?_;clear hcon;rintro e V41 ⟨v,rfl,own41X,b41X⟩;rw[HQ.out.1] at own41X;obtain⟨A41X,c41X,rfl,hle41X,row41X⟩:=bU own41X;have HB41:=hIz (tHn HB40.out b41X);have HS41:=hIz b41X;have HR41X:=aI2 row41X hle41X;clear own41X b41X row41X hle41X;refine hK _ _ (US.out _ HB41.out) ?_;clear hK K;(try simp only[Act.put,gA,gS,gZ,sA,sZ,sS])
    refine cP hd 9 14 ?_ ?_<;>(clear hd;intro hd)
    focus
     refine aL rfl rfl (fun K hK=>?_);go_simp;have hcon:=cD V41 V0.heap.size B5 d5 B d (datE G) D (by rw[HN.out.2.1,HN.out.2.2.2];exact HX39.out.1.upd (Upd.of_below ((HS40.out).trans ((HS41.out).mono (HS40.out).size)) (fun _=>False)) id) (HR.out.2.1.below HB41.out) (HR.out.2.2.2.below HB41.out) HNL.out.2;refine hcon.mono ?_;clear hcon;rintro e V42 ⟨v,rfl,own42X,b42X⟩;rw[HQ.out.2] at own42X;obtain⟨A42X,c42X,rfl,hle42X,row42X⟩:=bU own42X;have HB42:=hIz (tHn HB41.out b42X);have HS42:=hIz b42X;have HR42X:=aI2 row42X hle42X;clear own42X b42X row42X hle42X;refine hK _ _ (US.out _ HB42.out) ?_;clear hK K;(try simp only[Act.put,gA,gS,gZ,sA,sZ,sS])
     refine cP hd 10 14 ?_ ?_<;>(clear hd;intro hd)
     focus
      refine aL rfl rfl (fun K hK=>?_);have rA:=HR41X.out.1.below (HS42.out);have rB:=HR42X.out.1.below bR;have hmade:=eO V42 A41X c41X A42X c42X (datN G++M) (datE G++D) ⟨rA,rB,by rw[HQ.out.1];exact HR41X.out.2,by rw[HQ.out.2];exact HR42X.out.2,HFT.out⟩ HBB.out;clear rA rB;rw[HQ.out.1,HQ.out.2] at hmade;go_simp;refine hmade.mono ?_;clear hmade;rintro e V43 ⟨AZ,cZ,BZ,dZ,rfl,-,-,bZ⟩;have HB43:=hIz (tHn HB42.out bZ);have HS43:=hIz bZ;clear bZ;unfold bQ;refine hK _ _ (US.out _ HB43.out) ?_;clear hK K;(try simp only[Act.put,gA,gS,gZ,sA,sZ,sS])
      have hS:=US.out _ HB43.out;refine aD 11 rfl hd hS ?_;clear hd;intro hd;refine aD 12 rfl hd hS ?_;clear hd;intro hd;refine aD 13 rfl hd hS ?_;clear hd;intro hd;clear hS;refine aM hd 14 ?_;clear hd;intro hd;refine aL rfl rfl (fun K hK=>?_);go_simp;obtain⟨HX44,HS44,hlt44⟩:=alX 34 #[.slice none 0 0,.slice none 0 0] HB43.out;refine hK _ _ (US.out _ HX44.out.2) ?_;clear hK K;(try simp only[Act.put,gA,gS,gZ,sA,sZ,sS])
      generalize V43.alloc (.cells #[.slice none 0 0,.slice none 0 0] 34)=V44 at HX44 HS44 hlt44 ⊢;have HB44:=hIz HX44.out.2;have kr:=HX44.out.1.upd (Upd.of_below bR (fun _=>False)) id;have bZ:=HB44.out;have hz:=HB43.out.size;generalize V43.heap.size=kz at kr hz ⊢;rename World=>WZ
     rotate_left 1
     focus
      refine aL rfl rfl (fun K hK=>?_);go_simp;obtain⟨HX45,HS45,hlt45⟩:=alX 34 #[.slice none 0 0,.slice none 0 0] HB42.out;refine hK _ _ (US.out _ HX45.out.2) ?_;clear hK K;(try simp only[Act.put,gA,gS,gZ,sA,sZ,sS])
      generalize V42.alloc (.cells #[.slice none 0 0,.slice none 0 0] 34)=V45 at HX45 HS45 hlt45 ⊢;have HB45:=hIz HX45.out.2;refine aM hd 10 ?_;clear hd;intro hd;refine aL rfl rfl (fun K hK=>?_);have rA:=HR41X.out.1.below ((HS42.out).trans ((HS45.out).mono (HS42.out).size));have rB:=HR42X.out.1.below (HS45.out);have hmade:=eO V45 A41X c41X A42X c42X (datN G++M) (datE G++D) ⟨rA,rB,by rw[HQ.out.1];exact HR41X.out.2,by rw[HQ.out.2];exact HR42X.out.2,HFT.out⟩ HBB.out;clear rA rB;rw[HQ.out.1,HQ.out.2] at hmade;go_simp;refine hmade.mono ?_;clear hmade;rintro e V46 ⟨AZ,cZ,BZ,dZ,rfl,-,-,bZ⟩;have HB46:=hIz (tHn HB45.out bZ);have HS46:=hIz bZ;clear bZ;unfold bQ;refine hK _ _ (US.out _ HB46.out) ?_;clear hK K;(try simp only[Act.put,gA,gS,gZ,sA,sZ,sS])
      have hS:=US.out _ HB46.out;refine aD 11 rfl hd hS ?_;clear hd;intro hd;refine aD 12 rfl hd hS ?_;clear hd;intro hd;refine aD 13 rfl hd hS ?_;clear hd;intro hd;clear hS;have kr:=HX45.out.1.upd (Upd.of_below (HS46.out) (fun _=>False)) id;have bZ:=HB46.out;have hz:=HB42.out.size;generalize V42.heap.size=kz at kr hz ⊢;rename World=>WZ
     rotate_left 1
    rotate_left 2
    focus
     refine aL rfl rfl (fun K hK=>?_);go_simp;obtain⟨HX47,HS47,hlt47⟩:=alX 34 #[.slice none 0 0,.slice none 0 0] HB41.out;refine hK _ _ (US.out _ HX47.out.2) ?_;clear hK K;(try simp only[Act.put,gA,gS,gZ,sA,sZ,sS])
     generalize V41.alloc (.cells #[.slice none 0 0,.slice none 0 0] 34)=V47 at HX47 HS47 hlt47 ⊢;have HB47:=hIz HX47.out.2;refine aM hd 9 ?_;clear hd;intro hd;refine aL rfl rfl (fun K hK=>?_);go_simp;have hcon:=cD V47 V0.heap.size B5 d5 B d (datE G) D (by rw[HN.out.2.1,HN.out.2.2.2];exact HX39.out.1.upd (Upd.of_below (((HS40.out).trans ((HS41.out).mono (HS40.out).size)).trans ((HS47.out).mono ((HS40.out).trans ((HS41.out).mono (HS40.out).size)).size)) (fun _=>False)) id) (HR.out.2.1.below HB47.out) (HR.out.2.2.2.below HB47.out) HNL.out.2;refine hcon.mono ?_;clear hcon;rintro e V48 ⟨v,rfl,own48X,b48X⟩;rw[HQ.out.2] at own48X;obtain⟨A48X,c48X,rfl,hle48X,row48X⟩:=bU own48X;have HB48:=hIz (tHn HB47.out b48X);have HS48:=hIz b48X;have HR48X:=aI2 row48X hle48X;clear own48X b48X row48X hle48X;refine hK _ _ (US.out _ HB48.out) ?_;clear hK K;(try simp only[Act.put,gA,gS,gZ,sA,sZ,sS])
     refine aM hd 10 ?_;clear hd;intro hd;refine aL rfl rfl (fun K hK=>?_);have rA:=HR41X.out.1.below ((HS47.out).trans ((HS48.out).mono (HS47.out).size));have rB:=HR48X.out.1.below bR;have hmade:=eO V48 A41X c41X A48X c48X (datN G++M) (datE G++D) ⟨rA,rB,by rw[HQ.out.1];exact HR41X.out.2,by rw[HQ.out.2];exact HR48X.out.2,HFT.out⟩ HBB.out;clear rA rB;rw[HQ.out.1,HQ.out.2] at hmade;go_simp;refine hmade.mono ?_;clear hmade;rintro e V49 ⟨AZ,cZ,BZ,dZ,rfl,-,-,bZ⟩;have HB49:=hIz (tHn HB48.out bZ);have HS49:=hIz bZ;clear bZ;unfold bQ;refine hK _ _ (US.out _ HB49.out) ?_;clear hK K;(try simp only[Act.put,gA,gS,gZ,sA,sZ,sS])
     have hS:=US.out _ HB49.out;refine aD 11 rfl hd hS ?_;clear hd;intro hd;refine aD 12 rfl hd hS ?_;clear hd;intro hd;refine aD 13 rfl hd hS ?_;clear hd;intro hd;clear hS;have kr:=HX47.out.1.upd (Upd.of_below ((HS48.out).trans ((HS49.out).mono (HS48.out).size)) (fun _=>False)) id;have bZ:=HB49.out;have hz:=HB41.out.size;generalize V41.heap.size=kz at kr hz ⊢;rename World=>WZ
    rotate_left 1
   rotate_left 3
   focus
    refine aL rfl rfl (fun K hK=>?_);go_simp;obtain⟨HX50,HS50,hlt50⟩:=alX 34 #[.slice none 0 0,.slice none 0 0] HB40.out;refine hK _ _ (US.out _ HX50.out.2) ?_;clear hK K;(try simp only[Act.put,gA,gS,gZ,sA,sZ,sS])
    generalize V40.alloc (.cells #[.slice none 0 0,.slice none 0 0] 34)=V50 at HX50 HS50 hlt50 ⊢;have HB50:=hIz HX50.out.2;refine aM hd 4 ?_;clear hd;intro hd;refine aL rfl rfl (fun K hK=>?_);go_simp;have hcon:=cQ V50 V39.heap.size A5 c5 A c (datN G) M (by rw[HN.out.1,HN.out.2.2.1];exact HX40.out.1.upd (Upd.of_below (HS50.out) (fun _=>False)) id) (HR.out.1.below HB50.out) (HR.out.2.2.1.below HB50.out) HNL.out.1;refine hcon.mono ?_;clear hcon;rintro e V51 ⟨v,rfl,own51X,b51X⟩;rw[HQ.out.1] at own51X;obtain⟨A51X,c51X,rfl,hle51X,row51X⟩:=bU own51X;have HB51:=hIz (tHn HB50.out b51X);have HS51:=hIz b51X;have HR51X:=aI2 row51X hle51X;clear own51X b51X row51X hle51X;refine hK _ _ (US.out _ HB51.out) ?_;clear hK K;(try simp only[Act.put,gA,gS,gZ,sA,sZ,sS])
    refine aM hd 9 ?_;clear hd;intro hd;refine aL rfl rfl (fun K hK=>?_);go_simp;have hcon:=cD V51 V0.heap.size B5 d5 B d (datE G) D (by rw[HN.out.2.1,HN.out.2.2.2];exact HX39.out.1.upd (Upd.of_below (((HS40.out).trans ((HS50.out).mono (HS40.out).size)).trans ((HS51.out).mono ((HS40.out).trans ((HS50.out).mono (HS40.out).size)).size)) (fun _=>False)) id) (HR.out.2.1.below HB51.out) (HR.out.2.2.2.below HB51.out) HNL.out.2;refine hcon.mono ?_;clear hcon;rintro e V52 ⟨v,rfl,own52X,b52X⟩;rw[HQ.out.2] at own52X;obtain⟨A52X,c52X,rfl,hle52X,row52X⟩:=bU own52X;have HB52:=hIz (tHn HB51.out b52X);have HS52:=hIz b52X;have HR52X:=aI2 row52X hle52X;clear own52X b52X row52X hle52X;refine hK _ _ (US.out _ HB52.out) ?_;clear hK K;(try simp only[Act.put,gA,gS,gZ,sA,sZ,sS])
    refine aM hd 10 ?_;clear hd;intro hd;refine aL rfl rfl (fun K hK=>?_);have rA:=HR51X.out.1.below (HS52.out);have rB:=HR52X.out.1.below bR;have hmade:=eO V52 A51X c51X A52X c52X (datN G++M) (datE G++D) ⟨rA,rB,by rw[HQ.out.1];exact HR51X.out.2,by rw[HQ.out.2];exact HR52X.out.2,HFT.out⟩ HBB.out;clear rA rB;rw[HQ.out.1,HQ.out.2] at hmade;go_simp;refine hmade.mono ?_;clear hmade;rintro e V53 ⟨AZ,cZ,BZ,dZ,rfl,-,-,bZ⟩;have HB53:=hIz (tHn HB52.out bZ);have HS53:=hIz bZ;clear bZ;unfold bQ;refine hK _ _ (US.out _ HB53.out) ?_;clear hK K;(try simp only[Act.put,gA,gS,gZ,sA,sZ,sS])
    have hS:=US.out _ HB53.out;refine aD 11 rfl hd hS ?_;clear hd;intro hd;refine aD 12 rfl hd hS ?_;clear hd;intro hd;refine aD 13 rfl hd hS ?_;clear hd;intro hd;clear hS;have kr:=HX50.out.1.upd (Upd.of_below (((HS51.out).trans ((HS52.out).mono (HS51.out).size)).trans ((HS53.out).mono ((HS51.out).trans ((HS52.out).mono (HS51.out).size)).size)) (fun _=>False)) id;have bZ:=HB53.out;have hz:=HB40.out.size;generalize V40.heap.size=kz at kr hz ⊢;rename World=>WZ
   rotate_left 1
  rotate_left 4
  focus
   refine aL rfl rfl (fun K hK=>?_);go_simp;obtain⟨HX54,HS54,hlt54⟩:=alX 34 #[.slice none 0 0,.slice none 0 0] HB39.out;refine hK _ _ (US.out _ HX54.out.2) ?_;clear hK K;(try simp only[Act.put,gA,gS,gZ,sA,sZ,sS])
   generalize V39.alloc (.cells #[.slice none 0 0,.slice none 0 0] 34)=V54 at HX54 HS54 hlt54 ⊢;have HB54:=hIz HX54.out.2;refine aM hd 3 ?_;clear hd;intro hd;refine aL rfl rfl (fun K hK=>?_);go_simp;obtain⟨HX55,HS55,hlt55⟩:=alX 26 #[.slice A5 x1 c5,.slice A m1 c] HB54.out;refine hK _ _ (US.out _ HX55.out.2) ?_;clear hK K;(try simp only[Act.put,gA,gS,gZ,sA,sZ,sS])
   generalize V54.alloc (.cells #[.slice A5 x1 c5,.slice A m1 c] 26)=V55 at HX55 HS55 hlt55 ⊢;have HB55:=hIz HX55.out.2;refine aM hd 4 ?_;clear hd;intro hd;refine aL rfl rfl (fun K hK=>?_);go_simp;have hcon:=cQ V55 V54.heap.size A5 c5 A c (datN G) M (by rw[HN.out.1,HN.out.2.2.1];exact HX55.out.1.upd (Upd.of_below bR (fun _=>False)) id) (HR.out.1.below HB55.out) (HR.out.2.2.1.below HB55.out) HNL.out.1;refine hcon.mono ?_;clear hcon;rintro e V56 ⟨v,rfl,own56X,b56X⟩;rw[HQ.out.1] at own56X;obtain⟨A56X,c56X,rfl,hle56X,row56X⟩:=bU own56X;have HB56:=hIz (tHn HB55.out b56X);have HS56:=hIz b56X;have HR56X:=aI2 row56X hle56X;clear own56X b56X row56X hle56X;refine hK _ _ (US.out _ HB56.out) ?_;clear hK K;(try simp only[Act.put,gA,gS,gZ,sA,sZ,sS])
   refine aM hd 9 ?_;clear hd;intro hd;refine aL rfl rfl (fun K hK=>?_);go_simp;have hcon:=cD V56 V0.heap.size B5 d5 B d (datE G) D (by rw[HN.out.2.1,HN.out.2.2.2];exact HX39.out.1.upd (Upd.of_below (((HS54.out).trans ((HS55.out).mono (HS54.out).size)).trans ((HS56.out).mono ((HS54.out).trans ((HS55.out).mono (HS54.out).size)).size)) (fun _=>False)) id) (HR.out.2.1.below HB56.out) (HR.out.2.2.2.below HB56.out) HNL.out.2;refine hcon.mono ?_;clear hcon;rintro e V57 ⟨v,rfl,own57X,b57X⟩;rw[HQ.out.2] at own57X;obtain⟨A57X,c57X,rfl,hle57X,row57X⟩:=bU own57X;have HB57:=hIz (tHn HB56.out b57X);have HS57:=hIz b57X;have HR57X:=aI2 row57X hle57X;clear own57X b57X row57X hle57X;refine hK _ _ (US.out _ HB57.out) ?_;clear hK K;(try simp only[Act.put,gA,gS,gZ,sA,sZ,sS])
   refine aM hd 10 ?_;clear hd;intro hd;refine aL rfl rfl (fun K hK=>?_);have rA:=HR56X.out.1.below (HS57.out);have rB:=HR57X.out.1.below bR;have hmade:=eO V57 A56X c56X A57X c57X (datN G++M) (datE G++D) ⟨rA,rB,by rw[HQ.out.1];exact HR56X.out.2,by rw[HQ.out.2];exact HR57X.out.2,HFT.out⟩ HBB.out;clear rA rB;rw[HQ.out.1,HQ.out.2] at hmade;go_simp;refine hmade.mono ?_;clear hmade;rintro e V58 ⟨AZ,cZ,BZ,dZ,rfl,-,-,bZ⟩;have HB58:=hIz (tHn HB57.out bZ);have HS58:=hIz bZ;clear bZ;unfold bQ;refine hK _ _ (US.out _ HB58.out) ?_;clear hK K;(try simp only[Act.put,gA,gS,gZ,sA,sZ,sS])
   have hS:=US.out _ HB58.out;refine aD 11 rfl hd hS ?_;clear hd;intro hd;refine aD 12 rfl hd hS ?_;clear hd;intro hd;refine aD 13 rfl hd hS ?_;clear hd;intro hd;clear hS;have kr:=HX54.out.1.upd (Upd.of_below ((((HS55.out).trans ((HS56.out).mono (HS55.out).size)).trans ((HS57.out).mono ((HS55.out).trans ((HS56.out).mono (HS55.out).size)).size)).trans ((HS58.out).mono (((HS55.out).trans ((HS56.out).mono (HS55.out).size)).trans ((HS57.out).mono ((HS55.out).trans ((HS56.out).mono (HS55.out).size)).size)).size)) (fun _=>False)) id;have bZ:=HB58.out;have hz:=HB39.out.size;generalize V39.heap.size=kz at kr hz ⊢;rename World=>WZ
  rotate_left 1
 rotate_left 5
 focus
  refine aL rfl rfl (fun K hK=>?_);go_simp;obtain⟨HX59,HS59,hlt59⟩:=alX 34 #[.slice none 0 0,.slice none 0 0] HB0.out;refine hK _ _ (US.out _ HX59.out.2) ?_;clear hK K;(try simp only[Act.put,gA,gS,gZ,sA,sZ,sS])
  generalize V0.alloc (.cells #[.slice none 0 0,.slice none 0 0] 34)=V59 at HX59 HS59 hlt59 ⊢;have HB59:=hIz HX59.out.2;refine cP hd 3 8 ?_ ?_<;>(clear hd;intro hd)
  focus
   refine aL rfl rfl (fun K hK=>?_);go_simp;obtain⟨HX60,HS60,hlt60⟩:=alX 26 #[.slice A5 x1 c5,.slice A m1 c] HB59.out;refine hK _ _ (US.out _ HX60.out.2) ?_;clear hK K;(try simp only[Act.put,gA,gS,gZ,sA,sZ,sS])
   generalize V59.alloc (.cells #[.slice A5 x1 c5,.slice A m1 c] 26)=V60 at HX60 HS60 hlt60 ⊢;have HB60:=hIz HX60.out.2;refine cP hd 4 8 ?_ ?_<;>(clear hd;intro hd)
   focus
    refine aL rfl rfl (fun K hK=>?_);go_simp;have hcon:=cQ V60 V59.heap.size A5 c5 A c (datN G) M (by rw[HN.out.1,HN.out.2.2.1];exact HX60.out.1.upd (Upd.of_below bR (fun _=>False)) id) (HR.out.1.below HB60.out) (HR.out.2.2.1.below HB60.out) HNL.out.1;refine hcon.mono ?_;clear hcon;rintro e V61 ⟨v,rfl,own61X,b61X⟩;rw[HQ.out.1] at own61X;obtain⟨A61X,c61X,rfl,hle61X,row61X⟩:=bU own61X;have HB61:=hIz (tHn HB60.out b61X);have HS61:=hIz b61X;have HR61X:=aI2 row61X hle61X;clear own61X b61X row61X hle61X;refine hK _ _ (US.out _ HB61.out) ?_;clear hK K;(try simp only[Act.put,gA,gS,gZ,sA,sZ,sS])
    refine aM hd 8 ?_;clear hd;intro hd;refine aL rfl rfl (fun K hK=>?_);go_simp;obtain⟨HX62,HS62,hlt62⟩:=alX 27 #[.slice B5 x2 d5,.slice B m2 d] HB61.out;refine hK _ _ (US.out _ HX62.out.2) ?_;clear hK K;(try simp only[Act.put,gA,gS,gZ,sA,sZ,sS])
    generalize V61.alloc (.cells #[.slice B5 x2 d5,.slice B m2 d] 27)=V62 at HX62 HS62 hlt62 ⊢;have HB62:=hIz HX62.out.2;refine aM hd 9 ?_;clear hd;intro hd;refine aL rfl rfl (fun K hK=>?_);go_simp;have hcon:=cD V62 V61.heap.size B5 d5 B d (datE G) D (by rw[HN.out.2.1,HN.out.2.2.2];exact HX62.out.1.upd (Upd.of_below bR (fun _=>False)) id) (HR.out.2.1.below HB62.out) (HR.out.2.2.2.below HB62.out) HNL.out.2;refine hcon.mono ?_;clear hcon;rintro e V63 ⟨v,rfl,own63X,b63X⟩;rw[HQ.out.2] at own63X;obtain⟨A63X,c63X,rfl,hle63X,row63X⟩:=bU own63X;have HB63:=hIz (tHn HB62.out b63X);have HS63:=hIz b63X;have HR63X:=aI2 row63X hle63X;clear own63X b63X row63X hle63X;refine hK _ _ (US.out _ HB63.out) ?_;clear hK K;(try simp only[Act.put,gA,gS,gZ,sA,sZ,sS])
    refine aM hd 10 ?_;clear hd;intro hd;refine aL rfl rfl (fun K hK=>?_);have rA:=HR61X.out.1.below ((HS62.out).trans ((HS63.out).mono (HS62.out).size));have rB:=HR63X.out.1.below bR;have hmade:=eO V63 A61X c61X A63X c63X (datN G++M) (datE G++D) ⟨rA,rB,by rw[HQ.out.1];exact HR61X.out.2,by rw[HQ.out.2];exact HR63X.out.2,HFT.out⟩ HBB.out;clear rA rB;rw[HQ.out.1,HQ.out.2] at hmade;go_simp;refine hmade.mono ?_;clear hmade;rintro e V64 ⟨AZ,cZ,BZ,dZ,rfl,-,-,bZ⟩;have HB64:=hIz (tHn HB63.out bZ);have HS64:=hIz bZ;clear bZ;unfold bQ;refine hK _ _ (US.out _ HB64.out) ?_;clear hK K;(try simp only[Act.put,gA,gS,gZ,sA,sZ,sS])
    have hS:=US.out _ HB64.out;refine aD 11 rfl hd hS ?_;clear hd;intro hd;refine aD 12 rfl hd hS ?_;clear hd;intro hd;refine aD 13 rfl hd hS ?_;clear hd;intro hd;clear hS;have kr:=HX59.out.1.upd (Upd.of_below (((((HS60.out).trans ((HS61.out).mono (HS60.out).size)).trans ((HS62.out).mono ((HS60.out).trans ((HS61.out).mono (HS60.out).size)).size)).trans ((HS63.out).mono (((HS60.out).trans ((HS61.out).mono (HS60.out).size)).trans ((HS62.out).mono ((HS60.out).trans ((HS61.out).mono (HS60.out).size)).size)).size)).trans ((HS64.out).mono ((((HS60.out).trans ((HS61.out).mono (HS60.out).size)).trans ((HS62.out).mono ((HS60.out).trans ((HS61.out).mono (HS60.out).size)).size)).trans ((HS63.out).mono (((HS60.out).trans ((HS61.out).mono (HS60.out).size)).trans ((HS62.out).mono ((HS60.out).trans ((HS61.out).mono (HS60.out).size)).size)).size)).size)) (fun _=>False)) id;have bZ:=HB64.out;have hz:=HB0.out.size;generalize V0.heap.size=kz at kr hz ⊢;rename World=>WZ
   rotate_left 1
   focus
    refine aL rfl rfl (fun K hK=>?_);go_simp;obtain⟨HX65,HS65,hlt65⟩:=alX 27 #[.slice B5 x2 d5,.slice B m2 d] HB60.out;refine hK _ _ (US.out _ HX65.out.2) ?_;clear hK K;(try simp only[Act.put,gA,gS,gZ,sA,sZ,sS])
    generalize V60.alloc (.cells #[.slice B5 x2 d5,.slice B m2 d] 27)=V65 at HX65 HS65 hlt65 ⊢;have HB65:=hIz HX65.out.2;refine aM hd 4 ?_;clear hd;intro hd;refine aL rfl rfl (fun K hK=>?_);go_simp;have hcon:=cQ V65 V59.heap.size A5 c5 A c (datN G) M (by rw[HN.out.1,HN.out.2.2.1];exact HX60.out.1.upd (Upd.of_below (HS65.out) (fun _=>False)) id) (HR.out.1.below HB65.out) (HR.out.2.2.1.below HB65.out) HNL.out.1;refine hcon.mono ?_;clear hcon;rintro e V66 ⟨v,rfl,own66X,b66X⟩;rw[HQ.out.1] at own66X;obtain⟨A66X,c66X,rfl,hle66X,row66X⟩:=bU own66X;have HB66:=hIz (tHn HB65.out b66X);have HS66:=hIz b66X;have HR66X:=aI2 row66X hle66X;clear own66X b66X row66X hle66X;refine hK _ _ (US.out _ HB66.out) ?_;clear hK K;(try simp only[Act.put,gA,gS,gZ,sA,sZ,sS])
    refine aM hd 9 ?_;clear hd;intro hd;refine aL rfl rfl (fun K hK=>?_);go_simp;have hcon:=cD V66 V60.heap.size B5 d5 B d (datE G) D (by rw[HN.out.2.1,HN.out.2.2.2];exact HX65.out.1.upd (Upd.of_below (HS66.out) (fun _=>False)) id) (HR.out.2.1.below HB66.out) (HR.out.2.2.2.below HB66.out) HNL.out.2;refine hcon.mono ?_;clear hcon;rintro e V67 ⟨v,rfl,own67X,b67X⟩;rw[HQ.out.2] at own67X;obtain⟨A67X,c67X,rfl,hle67X,row67X⟩:=bU own67X;have HB67:=hIz (tHn HB66.out b67X);have HS67:=hIz b67X;have HR67X:=aI2 row67X hle67X;clear own67X b67X row67X hle67X;refine hK _ _ (US.out _ HB67.out) ?_;clear hK K;(try simp only[Act.put,gA,gS,gZ,sA,sZ,sS])
    refine aM hd 10 ?_;clear hd;intro hd;refine aL rfl rfl (fun K hK=>?_);have rA:=HR66X.out.1.below (HS67.out);have rB:=HR67X.out.1.below bR;have hmade:=eO V67 A66X c66X A67X c67X (datN G++M) (datE G++D) ⟨rA,rB,by rw[HQ.out.1];exact HR66X.out.2,by rw[HQ.out.2];exact HR67X.out.2,HFT.out⟩ HBB.out;clear rA rB;rw[HQ.out.1,HQ.out.2] at hmade;go_simp;refine hmade.mono ?_;clear hmade;rintro e V68 ⟨AZ,cZ,BZ,dZ,rfl,-,-,bZ⟩;have HB68:=hIz (tHn HB67.out bZ);have HS68:=hIz bZ;clear bZ;unfold bQ;refine hK _ _ (US.out _ HB68.out) ?_;clear hK K;(try simp only[Act.put,gA,gS,gZ,sA,sZ,sS])
    have hS:=US.out _ HB68.out;refine aD 11 rfl hd hS ?_;clear hd;intro hd;refine aD 12 rfl hd hS ?_;clear hd;intro hd;refine aD 13 rfl hd hS ?_;clear hd;intro hd;clear hS;have kr:=HX59.out.1.upd (Upd.of_below (((((HS60.out).trans ((HS65.out).mono (HS60.out).size)).trans ((HS66.out).mono ((HS60.out).trans ((HS65.out).mono (HS60.out).size)).size)).trans ((HS67.out).mono (((HS60.out).trans ((HS65.out).mono (HS60.out).size)).trans ((HS66.out).mono ((HS60.out).trans ((HS65.out).mono (HS60.out).size)).size)).size)).trans ((HS68.out).mono ((((HS60.out).trans ((HS65.out).mono (HS60.out).size)).trans ((HS66.out).mono ((HS60.out).trans ((HS65.out).mono (HS60.out).size)).size)).trans ((HS67.out).mono (((HS60.out).trans ((HS65.out).mono (HS60.out).size)).trans ((HS66.out).mono ((HS60.out).trans ((HS65.out).mono (HS60.out).size)).size)).size)).size)) (fun _=>False)) id;have bZ:=HB68.out;have hz:=HB0.out.size;generalize V0.heap.size=kz at kr hz ⊢;rename World=>WZ
   rotate_left 1
  rotate_left 2
  focus
   refine aL rfl rfl (fun K hK=>?_);go_simp;obtain⟨HX69,HS69,hlt69⟩:=alX 27 #[.slice B5 x2 d5,.slice B m2 d] HB59.out;refine hK _ _ (US.out _ HX69.out.2) ?_;clear hK K;(try simp only[Act.put,gA,gS,gZ,sA,sZ,sS])
   generalize V59.alloc (.cells #[.slice B5 x2 d5,.slice B m2 d] 27)=V69 at HX69 HS69 hlt69 ⊢;have HB69:=hIz HX69.out.2;refine aM hd 3 ?_;clear hd;intro hd;refine aL rfl rfl (fun K hK=>?_);go_simp;obtain⟨HX70,HS70,hlt70⟩:=alX 26 #[.slice A5 x1 c5,.slice A m1 c] HB69.out;refine hK _ _ (US.out _ HX70.out.2) ?_;clear hK K;(try simp only[Act.put,gA,gS,gZ,sA,sZ,sS])
   generalize V69.alloc (.cells #[.slice A5 x1 c5,.slice A m1 c] 26)=V70 at HX70 HS70 hlt70 ⊢;have HB70:=hIz HX70.out.2;refine aM hd 4 ?_;clear hd;intro hd;refine aL rfl rfl (fun K hK=>?_);go_simp;have hcon:=cQ V70 V69.heap.size A5 c5 A c (datN G) M (by rw[HN.out.1,HN.out.2.2.1];exact HX70.out.1.upd (Upd.of_below bR (fun _=>False)) id) (HR.out.1.below HB70.out) (HR.out.2.2.1.below HB70.out) HNL.out.1;refine hcon.mono ?_;clear hcon;rintro e V71 ⟨v,rfl,own71X,b71X⟩;rw[HQ.out.1] at own71X;obtain⟨A71X,c71X,rfl,hle71X,row71X⟩:=bU own71X;have HB71:=hIz (tHn HB70.out b71X);have HS71:=hIz b71X;have HR71X:=aI2 row71X hle71X;clear own71X b71X row71X hle71X;refine hK _ _ (US.out _ HB71.out) ?_;clear hK K;(try simp only[Act.put,gA,gS,gZ,sA,sZ,sS])
   refine aM hd 9 ?_;clear hd;intro hd;refine aL rfl rfl (fun K hK=>?_);go_simp;have hcon:=cD V71 V59.heap.size B5 d5 B d (datE G) D (by rw[HN.out.2.1,HN.out.2.2.2];exact HX69.out.1.upd (Upd.of_below ((HS70.out).trans ((HS71.out).mono (HS70.out).size)) (fun _=>False)) id) (HR.out.2.1.below HB71.out) (HR.out.2.2.2.below HB71.out) HNL.out.2;refine hcon.mono ?_;clear hcon;rintro e V72 ⟨v,rfl,own72X,b72X⟩;rw[HQ.out.2] at own72X;obtain⟨A72X,c72X,rfl,hle72X,row72X⟩:=bU own72X;have HB72:=hIz (tHn HB71.out b72X);have HS72:=hIz b72X;have HR72X:=aI2 row72X hle72X;clear own72X b72X row72X hle72X;refine hK _ _ (US.out _ HB72.out) ?_;clear hK K;(try simp only[Act.put,gA,gS,gZ,sA,sZ,sS])
   refine aM hd 10 ?_;clear hd;intro hd;refine aL rfl rfl (fun K hK=>?_);have rA:=HR71X.out.1.below (HS72.out);have rB:=HR72X.out.1.below bR;have hmade:=eO V72 A71X c71X A72X c72X (datN G++M) (datE G++D) ⟨rA,rB,by rw[HQ.out.1];exact HR71X.out.2,by rw[HQ.out.2];exact HR72X.out.2,HFT.out⟩ HBB.out;clear rA rB;rw[HQ.out.1,HQ.out.2] at hmade;go_simp;refine hmade.mono ?_;clear hmade;rintro e V73 ⟨AZ,cZ,BZ,dZ,rfl,-,-,bZ⟩;have HB73:=hIz (tHn HB72.out bZ);have HS73:=hIz bZ;clear bZ;unfold bQ;refine hK _ _ (US.out _ HB73.out) ?_;clear hK K;(try simp only[Act.put,gA,gS,gZ,sA,sZ,sS])
   have hS:=US.out _ HB73.out;refine aD 11 rfl hd hS ?_;clear hd;intro hd;refine aD 12 rfl hd hS ?_;clear hd;intro hd;refine aD 13 rfl hd hS ?_;clear hd;intro hd;clear hS;have kr:=HX59.out.1.upd (Upd.of_below (((((HS69.out).trans ((HS70.out).mono (HS69.out).size)).trans ((HS71.out).mono ((HS69.out).trans ((HS70.out).mono (HS69.out).size)).size)).trans ((HS72.out).mono (((HS69.out).trans ((HS70.out).mono (HS69.out).size)).trans ((HS71.out).mono ((HS69.out).trans ((HS70.out).mono (HS69.out).size)).size)).size)).trans ((HS73.out).mono ((((HS69.out).trans ((HS70.out).mono (HS69.out).size)).trans ((HS71.out).mono ((HS69.out).trans ((HS70.out).mono (HS69.out).size)).size)).trans ((HS72.out).mono (((HS69.out).trans ((HS70.out).mono (HS69.out).size)).trans ((HS71.out).mono ((HS69.out).trans ((HS70.out).mono (HS69.out).size)).size)).size)).size)) (fun _=>False)) id;have bZ:=HB73.out;have hz:=HB0.out.size;generalize V0.heap.size=kz at kr hz ⊢;rename World=>WZ
  rotate_left 1
 rotate_left 3
 all_goals
  have r0:WZ.cell? ⟨kz,0,none⟩=some (.slice none 0 0):=kr.cell 0;have r1:WZ.cell? ⟨kz,1,none⟩=some (.slice none 0 0):=kr.cell 1;have f0:=kr.frozen 0;have f1:=kr.frozen 1;generalize (ofN (datN G++M) (datE G++D)).length=l1;generalize (ofE (datN G++M) (datE G++D)).length=l2;have uF:=((Upd.refl (fun q=>q=kz) WZ).setCell (p:=⟨kz,0,none⟩) (.inl rfl) (.slice AZ l1 cZ)).setCell (p:=⟨kz,1,none⟩) (.inl rfl) (.slice BZ l2 dZ);have bF:=uF.below (B:=W1.heap.size) (fun q _ e=>by subst e;exact hz) bZ.size;have bY:=bZ.trans bF;have hS:=US.out _ bY;have FIN:=hIz (tHn HWT.out bY);clear kr uF bF bZ bY hz;refine aM hd 15 ?_;clear hd;intro hd;refine aL rfl rfl (fun K hK=>?_);go_simp;refine hK _ _ hS ?_;clear hK K;(try simp only[Act.put,gA,gS,gZ,sA,sZ,sS])
  refine aD 16 rfl hd hS ?_;clear hd;intro hd;refine iQ (by kernel_rfl) ?_;clear hS hd r0 r1 f0 f1;go_wp2;go_ret;exact⟨by rw[← HOI.out];rfl,FIN.out⟩
open Go.RowKit
def IC(w:World)(F:Nat→Prop)(p:Nat)(r:Gr × Bool × Int)(e:Ending)(w':World):Prop:=e=.returned (.tuple #[.bool r.2.1,.int .i64 r.2.2])∧yX w F p r.1 w'
theorem yX.after{w w1 w':World}{F:Nat→Prop}{p:Nat}{G:Gr}(hb:Below w.heap.size w w1)(h:yX w1 F p G w'):yX w F p G w':=by
 obtain⟨F',g,u,n⟩:=h;exact⟨F',g,(Upd.of_below hb F).trans u (fun _ h=>.inl h),fun k hk=>(n k hk).imp id fun h=>Nat.le_trans hb.size h⟩
theorem qA(w:World)(F:Nat→Prop)(p:Nat)(G:Gr)(h:GrS w F p G)(ok:GOk G)(s:Txt)(hk:cT s) :
  Calls Tryz.prog 39 #[.pointer (some ⟨p,0,none⟩),.string s] w (IC w F p (aS G s)):=by
 have h0:=h;obtain⟨U,V,hgr,ho⟩:=h;obtain⟨O,⟨r,nv,ov,iv,fo,fi⟩,hg,hF⟩:=hgr;have q1:w.cell? ⟨p,1,none⟩=some (.map (some r)):=hg.blk.cell 1;have l0:=fX hg.map s hk;by_cases hs:s∈G.N
 ·rw[lU hs] at l0;generalize cS G.N s=i at l0;have z0:(0:Int)<(i:Int)+1:=by omega
  have FIN:=hIz (show IC w F p (aS G s) (.returned (.tuple #[.bool false,.int .i64 0])) w from by
   have e:aS G s=(G,false,0):=by unfold aS;rw[if_pos (aQ.2 hs)]
   rw[e];exact⟨rfl,yX.refl h0 bR⟩)
  clear hg ho ok h0 hF;go_enter Tryz.func39,Tryz.ntmps39;go_wp2_with fail;refine(dQ w p r q1).mono ?_;rintro e w' ⟨rfl,hw⟩;subst w';go_wp2;refine bodyPost_ret (v:=.tuple #[.bool false,.int .i64 0]) (by simp[results,Tryz.f39,go_sem]) rfl FIN.out
 ·rw[nD hs] at l0;have k1:=Blk.new w 9 #[.string s];have u1:Below w.heap.size w (w.alloc (.cells #[.string s] 9)):=bR.alloc (Nat.le_refl _) _;have hcon:=CM (w.alloc (.cells #[.string s] 9)) F p G (h0.below u1) ok (some ⟨w.heap.size,0,none⟩) 1 none 0 [s] [] (gX k1) (fun j u hj=>by simp[aH] at hj) (by simp) (by simp) (fun t ht=>by rw[List.mem_singleton] at ht;subst ht;exact hk) (fun x hx=>by cases hx);rw[List.append_nil] at hcon;obtain⟨z,hz⟩:∃z,ofI (G.N++[s]) G.X=z:=⟨_,rfl⟩;rw[hz] at hcon;have HZ:=aI4 hz h0 ok u1;clear hg ho ok h0 hF k1 u1 hz;go_enter Tryz.func39,Tryz.ntmps39;go_wp2_with fail;refine(dQ w p r q1).mono ?_;rintro e w' ⟨rfl,hw⟩;subst w';go_wp2_with fail;refine hcon.mono ?_;clear hcon q1 l0;rintro e W2 ⟨rfl,b2⟩;have HB:=hIz (show Below w.heap.size w W2 from tHn HZ.out.2.2.2 b2);clear b2;by_cases h0:z=0
  ·subst h0;have hgr:=HZ.out.2.1.below HB.out;have hN:=HZ.out.2.2.1.few.1;obtain⟨U,V,hgr,ho⟩:=hgr;have hc:=nC W2 F p G.N U V G.X.length s hgr hk (by omega);have HO:=hIz ho;clear hgr ho hN;go_wp2_with fail;refine hc.mono ?_;clear hc;rintro e W3 ⟨rfl,F3,g3,u3,n3⟩;have FIN:=hIz (show IC w F p (aS G s) (.returned (.tuple #[.bool true,.int .i64 0])) W3 from by
    have e:aS G s=(⟨G.N++[s],G.X⟩,true,0):=by unfold aS;rw[if_neg (fun e=>hs (aQ.1 e)),if_pos HZ.out.1]
    have hadd:bG G.N s=G.N++[s]:=by unfold bG;rw[if_neg (fun e=>hs (aQ.1 e))]
    rw[e];refine⟨rfl,yX.after HB.out ⟨F3,⟨U,V,?_,?_⟩,u3,n3⟩⟩
    ·rw[← hadd];exact g3
    ·have:=HO.out.node HZ.out.2.2.1.ends s;rwa [hadd] at this)
   clear g3 u3 n3;go_wp2;refine bodyPost_ret (v:=.tuple #[.bool true,.int .i64 0]) (by simp[results,Tryz.f39,go_sem]) rfl FIN.out
  ·have h0I:(z==0)=false:=by simpa using h0
   have FIN:=hIz (show IC w F p (aS G s) (.returned (.tuple #[.bool false,.int .i64 z])) W2 from by
    have e:aS G s=(G,false,z):=by unfold aS;rw[if_neg (fun e=>hs (aQ.1 e)),if_neg (by rw[HZ.out.1];exact h0),HZ.out.1]
    rw[e];exact⟨rfl,yX.refl HZ.out.2.1 HB.out⟩)
   go_wp2;refine bodyPost_ret (v:=.tuple #[.bool false,.int .i64 z]) (by simp[results,Tryz.f39,go_sem]) rfl FIN.out
theorem lW(w:World)(F:Nat→Prop)(p:Nat)(G:Gr)(h:GrS w F p G)(ok:GOk G)(x:Ed)(hk:pE x) :
  Calls Tryz.prog 27 #[.pointer (some ⟨p,0,none⟩),.string x.fr,.string x.lb,.string x.to] w (IC w F p (aP G x)):=by
 have h0:=h;obtain⟨U,V,hgr,ho⟩:=h;obtain⟨O,⟨r,nv,ov,iv,fo,fi⟩,hg,hF⟩:=hgr;have q1:w.cell? ⟨p,1,none⟩=some (.map (some r)):=hg.blk.cell 1;have hhas:=tJ w F p G h0 ok x hk.1 hk.2.2;clear hg ho hF;by_cases hx:x∈G.X
 ·rw[decide_eq_true hx] at hhas;have HG:=hIz (show ∀W,Below w.heap.size w W→IC w F p (aP G x) (.returned (.tuple #[.bool false,.int .i64 0])) W from fun W hb=>by
   have e:aP G x=(G,false,0):=by unfold aP;rw[if_pos hx]
   rw[e];exact⟨rfl,yX.refl h0 hb⟩)
  clear ok h0;go_enter Tryz.func27,Tryz.ntmps27;go_wp2_with fail;refine(dQ w p r q1).mono ?_;rintro e w' ⟨rfl,hw⟩;subst w';go_wp2_with fail;refine hhas.mono ?_;rintro e W1 ⟨rfl,b1⟩;have FIN:=hIz (HG.out W1 b1);clear b1;go_wp2;refine bodyPost_ret (v:=.tuple #[.bool false,.int .i64 0]) (by simp[results,Tryz.f27,go_sem]) rfl FIN.out
 ·rw[decide_eq_false hx] at hhas;have H:=aI4 h0 ok hx hk;clear ok h0 hk;obtain⟨s0,s1,s2⟩:=x;dsimp only at hhas
  go_enter Tryz.func27,Tryz.ntmps27;go_wp2_with fail;refine(dQ w p r q1).mono ?_;rintro e w' ⟨rfl,hw⟩;subst w';go_wp2_with fail;refine hhas.mono ?_;clear hhas q1;rintro e W1 ⟨rfl,b1⟩;have k1:=Blk.new W1 32 #[.string s0,.string s1,.string s2];have u1:Below W1.heap.size W1 (W1.alloc (.cells #[.string s0,.string s1,.string s2] 32)):=bR.alloc (Nat.le_refl _) _;have HW:=aI2 (tHn b1 u1) k1;clear k1 u1 b1;go_upto_region 6 with (fail);generalize W1.alloc (.cells #[.string s0,.string s1,.string s2] 32)=W2 at HW ⊢;have q0:W2.cell? ⟨W1.heap.size,0,none⟩=some (.string s0):=HW.out.2.cell 0;have q1:W2.cell? ⟨W1.heap.size,1,none⟩=some (.string s1):=HW.out.2.cell 1;have q2:W2.cell? ⟨W1.heap.size,2,none⟩=some (.string s2):=HW.out.2.cell 2;have k3:=Blk.new W2 32 #[.string s0,.string s1,.string s2];have u3:Below W2.heap.size W2 (W2.alloc (.cells #[.string s0,.string s1,.string s2] 32)):=bR.alloc (Nat.le_refl _) _;have b3:=tHn HW.out.1 u3;have hcon:=CM (W2.alloc (.cells #[.string s0,.string s1,.string s2] 32)) F p G (H.out.1.below b3) H.out.2.1 none 0 (some ⟨W2.heap.size,0,none⟩) 1 [] [⟨s0,s1,s2⟩] (fun j u hj=>by simp[aC] at hj) (fun j u hj=>⟨W2.heap.size,0,rfl,by rw[Nat.zero_add,k3.cell j];simpa[aH,Ed.cells] using hj⟩) (by simp) (by simp) (fun t ht=>by cases ht) (fun y hy=>by rw[List.mem_singleton] at hy;subst hy;exact H.out.2.2.2);rw[List.append_nil] at hcon;obtain⟨z,hz⟩:∃z,ofI G.N (G.X++[⟨s0,s1,s2⟩])=z:=⟨_,rfl⟩;rw[hz] at hcon;have HZ:=aI3 hz b3 (HW.out.2.upd (upF u3) id);clear k3 u3 b3 hz;go_wp2_with fail
  refine hcon.mono ?_;clear hcon q0 q1 q2;rintro e W4 ⟨rfl,b4⟩;have HB:=hIz (show Below w.heap.size w W4 from tHn HZ.out.2.1 b4);have k4:=HZ.out.2.2.upd (upF b4) id;have q0:W4.cell? ⟨W1.heap.size,0,none⟩=some (.string s0):=k4.cell 0;have q1:W4.cell? ⟨W1.heap.size,1,none⟩=some (.string s1):=k4.cell 1;have q2:W4.cell? ⟨W1.heap.size,2,none⟩=some (.string s2):=k4.cell 2;clear b4 k4;by_cases h0:z=0
  ·subst h0;have hf:=H.out.2.1.few;obtain⟨U,V,hgr,ho⟩:=H.out.1.below HB.out;have hUV:=fun k=>ho.len k
   have hc:=xB W4 F p G.N U V G.X.length ⟨s0,s1,s2⟩ hgr H.out.2.2.2 (by omega) (fun k=>⟨ho.up k,by have:=(hUV k).1;omega⟩) (fun k=>⟨ho.vp k,by have:=(hUV k).2;omega⟩) ⟨by omega,by omega⟩;have HO:=hIz ho;clear hgr ho hUV hf;unfold Ed.agg at hc;dsimp only at hc
   go_wp2_with fail;refine hc.mono ?_;clear hc q0 q1 q2;rintro e W5 ⟨rfl,F5,g5,u5,n5⟩;have FIN:=hIz (show IC w F p (aP G ⟨s0,s1,s2⟩) (.returned (.tuple #[.bool true,.int .i64 0])) W5 from by
    have e:aP G ⟨s0,s1,s2⟩=(⟨bG (bG G.N s0) s2,G.X++[⟨s0,s1,s2⟩]⟩,true,0):=by unfold aP;rw[if_neg H.out.2.2.1,if_pos HZ.out.1]
    have ok:=H.out.2.1;rw[e];have m:∀y∈G.X,y.fr∈bG (bG G.N s0) s2∧y.to∈bG (bG G.N s0) s2:=fun y hy=>by
     simp only[cO]
     exact⟨.inl (.inl (ok.ends y hy).1),.inl (.inl (ok.ends y hy).2)⟩
    have m1:∀y∈G.X,y.fr∈bG G.N s0∧y.to∈bG G.N s0:=fun y hy=>by
     simp only[cO]
     exact⟨.inl (ok.ends y hy).1,.inl (ok.ends y hy).2⟩
    have hops:=((HO.out.node ok.ends s0).node m1 s2).edge (gK (gK ok.nd s0) s2) m (x:=⟨s0,s1,s2⟩) (by simp[cO]) (by simp[cO]) H.out.2.2.1;refine⟨rfl,yX.after HB.out ⟨F5,⟨_,_,?_,hops⟩,u5,n5⟩⟩;have e2:(((G.X++[⟨s0,s1,s2⟩]:List Ed).length:Nat):Int)=(G.X.length:Int)+1:=by simp
    dsimp only
    rw[e2];exact g5)
   clear g5 u5 n5;go_wp2;refine bodyPost_ret (v:=.tuple #[.bool true,.int .i64 0]) (by simp[results,Tryz.f27,go_sem]) rfl FIN.out
  ·have h0I:(z==0)=false:=by simpa using h0
   have FIN:=hIz (show IC w F p (aP G ⟨s0,s1,s2⟩) (.returned (.tuple #[.bool false,.int .i64 z])) W4 from by
    have e:aP G ⟨s0,s1,s2⟩=(G,false,z):=by unfold aP;rw[if_neg H.out.2.2.1,if_neg (by rw[HZ.out.1];exact h0),HZ.out.1]
    rw[e];exact⟨rfl,yX.refl H.out.1 HB.out⟩)
   go_wp2;refine bodyPost_ret (v:=.tuple #[.bool false,.int .i64 z]) (by simp[results,Tryz.f27,go_sem]) rfl FIN.out
open Go.RowKit
theorem MD{w':World}{G:Gr}{A:Option Addr}{c:Nat}{B:Option Addr}{d:Nat}{base:Nat}(ok:GOk G)(o1:w'.ownsRow base 9 1 (.slice A (datN G).length c) (datN G).length (aC (datN G)))(o2:w'.ownsRow base 32 3 (.slice B (datE G).length d) (datE G).length (aH (datE G))):dX w' A c B d (datN G) (datE G):=by
 have hc:=iW ok.may;have hs:=fW.of (eI hc).2.1;have hcap:=vQ (eI hc).2.2;refine⟨aV.of_own o1,aV.of_own o2,BI o1,BI o2,⟨by have:=hcap.1;unfold datN;omega,by have:=hcap.2.2.1;unfold datE;omega,fun t ht=>by have:=hs.n t ht;unfold cT;omega,fun x hx=>?_⟩⟩;have:=hs.e x hx;unfold pE cT;omega
theorem nI{G:Gr}(ok:GOk G):jB (datN G) (datE G)=aR ltT (lbs (datE G)):=by
 have h:bP (datN G) (datE G)=0:=iW ok.may;unfold jB;rw[if_pos h]
theorem CN(w:World)(F:Nat→Prop)(p:Nat)(G:Gr)(h:GrS w F p G)(ok:GOk G):Calls Tryz.prog 63 #[.pointer (some ⟨p,0,none⟩)] w (jW w (aR ltT (lbs (datE G)))):=by
 have hr:∃r,w.cell? ⟨p,1,none⟩=some (.map (some r)):=by
  obtain⟨U,V,⟨O,⟨r,nv,ov,iv,fo,fi⟩,hg,-⟩,-⟩:=h;exact⟨r,hg.blk.cell 1⟩
 obtain⟨r,q1⟩:=hr;have hdat:=vR w F p G h ok;have HK:=hIz ok;clear h ok;go_enter Tryz.func63,Tryz.ntmps63;go_wp2_with fail;refine(dQ w p r q1).mono ?_;rintro e w' ⟨rfl,hw⟩;subst w';go_wp2_with fail;refine hdat.mono ?_;clear hdat q1;rintro e W1 ⟨A,c,B,d,rfl,o1,o2,b1⟩;have hf:=MD HK.out o1 o2;have hcon:=vT W1 A c B d (datN G) (datE G) hf;rw[nI HK.out] at hcon;have HB:=hIz b1;clear hf o1 o2 b1;go_wp2_with fail;refine hcon.mono ?_;clear hcon;rintro e W2 ⟨A2,c2,rfl,o3,b3⟩;have FIN:=hIz (show jW w (aR ltT (lbs (datE G))) (.returned (.slice A2 (aR ltT (lbs (datE G))).length c2)) W2 from⟨_,rfl,aJ o3 (fun q hq=>Nat.le_trans HB.out.size (o3.lt q hq).1),tHn HB.out b3⟩);clear o3 b3;go_wp2;go_ret;exact FIN.out
theorem OD{o:List Nat}(ho:Wd o){i j i' j':Nat}(hi:i<64)(hi':i'<64):pY (List.zipWith orN o (kP i j)) i' j'=(pY o i' j'||decide (i'=i∧j'=j)):=by
 obtain⟨x,hx⟩:∃x,o[i']?=some x:=⟨o[i']'(by rw[ho.len];exact hi'),gEz _⟩;by_cases e:i'=i
 ·subst e;have hz:(List.zipWith orN o (kP i' j))[i']?=some (orN x (2 ^ j)):=by rw[List.getElem?_zipWith,hx,vZ hi]
  unfold pY;rw[hz,hx];simp only[Option.getD_some,orN,Nat.testBit_or,true_and]
  rw[Nat.testBit_two_pow];simp[eq_comm]
 ·have ho2:(kP i j)[i']?=some 0:=by
   unfold kP;rw[List.getElem?_set,if_neg (fun h=>e h.symm),iM hi']
  have hz:(List.zipWith orN o (kP i j))[i']?=some (orN x 0):=by rw[List.getElem?_zipWith,hx,ho2]
  unfold pY;rw[hz,hx];simp[orN,e]
theorem ID(b:Option (List Nat)){i j:Nat}(hi:i<64):pY (pI b) i j=zF b i j:=by
 cases b with
 | none =>
  unfold pY pI;rw[Option.getD_none,iM hi];simp[zF]
 | some r=>rfl
theorem ME{b:Option (List Nat)}(hw:Wd (pI b)){i j i' j':Nat}(hi:i<64)(hi':i'<64):zF (setO b i j) i' j'=(zF b i' j'||decide (i'=i∧j'=j)):=by
 unfold setO;split
 ·rename_i h
  by_cases e:i'=i∧j'=j
  ·rw[e.1,e.2,h];rfl
  ·simp[e]
 ·show pY _ i' j'=_
  rw[OD hw hi hi',ID b hi']
theorem QuS.wd{w:World}{F:Nat→Prop}{p side:Nat}{b:Option (List Nat)}(h:QuS w F p side b):Wd (pI b):=by
 obtain⟨O,dep,cnt,m,last,L,pv,lv,-,ok,-⟩:=h;exact vY ok
theorem jD.below{B p side:Nat}{b:Option (List Nat)}{w w':World}(h:jD B p side b w)(hb:Below w.heap.size w w'):jD B p side b w':=by
 obtain⟨F,g,n⟩:=h;exact⟨F,g.below hb,n⟩
theorem jD.step{B p side:Nat}{b:Option (List Nat)}{w w':World}{F:Nat→Prop}(hF:∀k,F k→B≤k)(hB:B≤w.heap.size)(h:QTo w F p side b w'):jD B p side b w'∧Below B w w':=by
 obtain⟨F',g,u,n⟩:=h;refine⟨⟨F',g,fun k hk=>?_⟩,u.below (fun i _ hi=>hF i hi) hB⟩;rcases n k hk with h|h
 ·exact hF k h
 ·omega
open Go.RowKit
def IE(G:Gr)(lb:Txt)(b:Option (List Nat)):Prop:=∀i j,i<64→j<64→(zF b i j=true↔∃x∈G.X,x.lb=lb∧G.N[i]?=some x.fr∧G.N[j]?=some x.to)
def iZ(U:Nat→List Hp)(lb:Txt)(k t:Nat)(b:Option (List Nat)):Prop:=∀i j,i<64→j<64→(zF b i j=true↔(i<k∧∃h∈U i,h.lb=lb∧h.nd=(j:Int))∨(i=k∧∃h∈(U k).take t,h.lb=lb∧h.nd=(j:Int)))
theorem iZ.all{G:Gr}{U V:Nat→List Hp}{lb:Txt}{b:Option (List Nat)}(h:iZ U lb G.N.length 0 b)(ho:dL G.N G.X U V)(ok:GOk G):IE G lb b:=fun i j hi hj=>by
 rw[h i j hi hj];constructor
 ·rintro (⟨_,y,hy,h1,h2⟩|⟨_,y,hy,_⟩)
  ·obtain⟨x,hx,e1,rfl⟩:=(ho.um i y).1 hy;refine⟨x,hx,h1,e1,?_⟩;have h2:(cS G.N x.to:Int)=(j:Int):=h2;have:cS G.N x.to=j:=by omega
   rw[← this];exact cR (ok.ends x hx).2
  ·simp at hy
 ·rintro⟨x,hx,h1,h2,h3⟩;refine .inl ⟨(gO.1 h2).1,⟨x.lb,(cS G.N x.to:Int)⟩,(ho.um i _).2 ⟨x,hx,h2,rfl⟩,h1,?_⟩;show(cS G.N x.to:Int)=(j:Int)
  rw[iJ ok.nd h3]
theorem iZ.next{U:Nat→List Hp}{lb:Txt}{k:Nat}{b:Option (List Nat)}(h:iZ U lb k (U k).length b):iZ U lb (k+1) 0 b:=fun i j hi hj=>by
 rw[h i j hi hj,List.take_length];constructor
 ·rintro (⟨h1,h2⟩|⟨rfl,h2⟩)
  ·exact .inl ⟨by omega,h2⟩
  ·exact .inl ⟨by omega,h2⟩
 ·rintro (⟨h1,h2⟩|⟨_,y,hy,_⟩)
  ·by_cases e:i=k
   ·subst e;exact .inr ⟨rfl,h2⟩
   ·exact .inl ⟨by omega,h2⟩
  ·simp at hy
theorem iZ.skip{U:Nat→List Hp}{lb:Txt}{k t:Nat}{b:Option (List Nat)}{y:Hp}(h:iZ U lb k t b)(hy:(U k)[t]?=some y)(hn:y.lb≠lb):iZ U lb k (t+1) b:=fun i j hi hj=>by
 rw[h i j hi hj,List.take_add_one,hy];simp only[Option.toList_some,List.mem_append,List.mem_singleton]
 constructor
 ·rintro (h1|⟨e,z,hz,h2⟩)
  ·exact .inl h1
  ·exact .inr ⟨e,z,.inl hz,h2⟩
 ·rintro (h1|⟨e,z,hz|rfl,h2⟩)
  ·exact .inl h1
  ·exact .inr ⟨e,z,hz,h2⟩
  ·exact absurd h2.1 hn
theorem iZ.put{U:Nat→List Hp}{lb:Txt}{k t q:Nat}{b:Option (List Nat)}(h:iZ U lb k t b)(hw:Wd (pI b))(hk:k<64)(hy:(U k)[t]?=some ⟨lb,(q:Int)⟩):iZ U lb k (t+1) (setO b k q):=fun i j hi hj=>by
 rw[ME hw hk hi,Bool.or_eq_true,h i j hi hj,List.take_add_one,hy];simp only[Option.toList_some,List.mem_append,List.mem_singleton,decide_eq_true_eq]
 constructor
 ·rintro ((h1|⟨e,z,hz,h2⟩)|⟨rfl,rfl⟩)
  ·exact .inl h1
  ·exact .inr ⟨e,z,.inl hz,h2⟩
  ·exact .inr ⟨rfl,_,.inr rfl,rfl,rfl⟩
 ·rintro (h1|⟨e,z,hz|rfl,h2⟩)
  ·exact .inl (.inl h1)
  ·exact .inl (.inr ⟨e,z,hz,h2⟩)
  ·exact .inr ⟨e,by have:=h2.2;dsimp only at this;omega⟩
theorem iZ.zero(U:Nat→List Hp)(lb:Txt):iZ U lb 0 0 none:=fun i j _ _=>by
 constructor
 ·intro h;cases h
 ·rintro (⟨h,_⟩|⟨_,y,hy,_⟩)
  ·omega
  ·simp at hy
def QC(w:World)(G:Gr)(lb:Txt)(side:Nat)(e:Ending)(w':World):Prop:=∃q b,e=.returned (.tuple #[.pointer (some ⟨q,0,none⟩),.int .i64 0])∧jD w.heap.size q side b w'∧Below w.heap.size w w'∧IE G lb b
theorem CO(w:World)(F:Nat→Prop)(p:Nat)(G:Gr)(h:GrS w F p G)(ok:GOk G)(lb:Txt)(side:Nat)(hs:G.N.length≤side)(hs1:1≤side)(hs2:side≤1024) :
  Calls Tryz.prog 59 #[.pointer (some ⟨p,0,none⟩),.string lb,.int .i64 (side:Int)] w (QC w G lb side):=by
 obtain⟨U,V,⟨O,⟨r,nv,ov,iv,fo,fi⟩,hg,-⟩,ho⟩:=h;have hf:=ok.few;have q1:w.cell? ⟨p,1,none⟩=some (.map (some r)):=hg.blk.cell 1;obtain⟨nA,nc,e1,-,-⟩:=aG hg.rn;obtain⟨oA,oc,e2,-,-⟩:=aG hg.ro;dsimp only at e1 e2
 subst e1;subst e2;obtain⟨n,hn⟩:∃n,G.N.length=n:=⟨_,rfl⟩;have hn32:n≤32:=by omega
 rw[hn] at hs;have H:=aI4 hg ho ok hn;have hnew:=xL w side hs1 hs2;have hlt:¬(side<n):=by omega
 clear hg ho ok hn hf;go_enter Tryz.func59,Tryz.ntmps59;go_wp2_with fail;refine(dQ w p r q1).mono ?_;rintro e w' ⟨rfl,hw⟩;subst w';go_wp2_with fail;refine hnew.mono ?_;clear hnew q1;rintro e W1 ⟨q,rfl,fr1,b1⟩;have HF1:=hIz fr1;have HB1:=hIz b1;have hg1:=H.out.1.upd (upF b1) (fun _ _=>id);have q0:W1.cell? ⟨p,0,none⟩=some (.slice nA n nc):=by rw[← H.out.2.2.2];exact hg1.blk.cell 0
 have q2:W1.cell? ⟨p,2,none⟩=some (.slice oA n oc):=by rw[← H.out.2.2.2];exact hg1.blk.cell 2
 clear fr1 b1 hg1;go_wp2_with fail;clear q0 q2;go_loopw [38] (fun i wr=>∃k:Nat,k≤n∧i=.int .i64 k∧Hid (∃b,jD w.heap.size q side b wr∧iZ U lb k 0 b)∧Hid (Below w.heap.size w wr)) (fun i _=>n-(intOf i).toNat)
 case atStart=>exact⟨0,Nat.zero_le _,rfl,hIz ⟨none,HF1.out,iZ.zero U lb⟩,HB1⟩
 case round =>
  obtain⟨k,hk,rfl,hq,hbw⟩:=hrel;by_cases hkn:k<n
  ·have hknI:(k:Int)<(n:Int):=by omega
   have hkw:IntKind.i64.wrap ((k:Int)+1)=(k:Int)+1:=IntWalk.i64_in _ (by omega);have hkN:k<G.N.length:=by rw[H.out.2.2.2];exact hkn
   have hg:=H.out.1.upd (upF hbw.out) (fun _ _=>id);obtain⟨og,oc',e,-,co,-⟩:=fQ hg.ro hkN;dsimp only at e co
   injection e with e e1 e2;subst e;clear e1 e2;obtain⟨A,cA,eA,-,-⟩:=aG (hg.fo k);dsimp only at eA
   have hrow:=H.out.1.fo k;dsimp only at hrow
   rw[eA] at co hrow;obtain⟨m,hm⟩:∃m,(U k).length=m:=⟨_,rfl⟩;have hm256:m≤256:=by rw[← hm];exact Nat.le_trans (H.out.2.1.len k).1 H.out.2.2.1.few.2
   rw[hm] at co;have HM:=aI2 hm (aV.of_own hrow);clear hg eA hrow hm;go_wp2_with fail;clear co;generalize wr=W5 at hq hbw ⊢;go_loopw [45] (fun i wr=>∃t:Nat,t≤m∧i=.int .i64 t∧Hid (∃b,jD w.heap.size q side b wr∧iZ U lb k t b)∧Hid (Below w.heap.size w wr)) (fun i _=>m-(intOf i).toNat)
   case atStart=>exact⟨0,Nat.zero_le _,rfl,hq,hbw⟩
   case round =>
    obtain⟨t,ht,rfl,hqt,hbt⟩:=hrel;by_cases htm:t<m
    ·have htmI:(t:Int)<(m:Int):=by omega
     have htw:IntKind.i64.wrap ((t:Int)+1)=(t:Int)+1:=IntWalk.i64_in _ (by omega);obtain⟨⟨s,nd⟩,hx⟩:∃x,(U k)[t]?=some x:=⟨(U k)[t]'(by rw[HM.out.1];exact htm),gEz _⟩;obtain⟨ed,hed,-,hnd⟩:=(H.out.2.1.um k _).1 (mG hx);injection hnd with hs0 hnd;clear hs0;have hqn:=eT (H.out.2.2.1.ends ed hed).2;rw[H.out.2.2.2] at hqn;generalize cS G.N ed.to=v at hnd hqn;subst hnd;clear hed;obtain⟨ab,ao,rfl,y0,y1⟩:=(HM.out.2.below hbt.out).hp hx;dsimp only at y0 y1
     have k6:=Blk.new wr 103 #[.string s,.int .i64 (v:Int)];have u6:Below wr.heap.size wr (wr.alloc (.cells #[.string s,.int .i64 (v:Int)] 103)):=bR.alloc (Nat.le_refl _) _;obtain⟨b,hb1,hb2⟩:=hqt.out;have H6:=aI5 k6 (hb1.below u6) hb2 (tHn hbt.out u6) hx;clear k6 u6 hb1 hb2 hqt hbt hx;go_upto_region 12 with (fail);generalize wr.alloc (.cells #[.string s,.int .i64 (v:Int)] 103)=W6 at H6 ⊢;clear y0 y1;have y0:W6.cell? ⟨wr.heap.size,0,none⟩=some (.string s):=H6.out.1.cell 0;have y1:W6.cell? ⟨wr.heap.size,1,none⟩=some (.int .i64 (v:Int)):=H6.out.1.cell 1;by_cases hsl:s=lb
     ·subst hsl;obtain⟨F6,g6,n6⟩:=H6.out.2.1;have hset:=xP W6 F6 q side b g6 k v (by omega) (by omega) (by omega) (by omega);have HW:=hIz g6.wd;have HN6:=hIz n6;clear g6 n6;go_wp2_with fail;refine hset.mono ?_;clear hset y0 y1;rintro e W7 ⟨rfl,hto⟩;have hst:=jD.step HN6.out H6.out.2.2.2.1.size hto;have HF:=hIz hst;clear hto hst;go_wp2;go_roundw
      case rel=>exact⟨t+1,by omega,by go_num,hIz ⟨_,HF.out.1,H6.out.2.2.1.put HW.out (by omega) H6.out.2.2.2.2⟩,hIz (H6.out.2.2.2.1.trans HF.out.2)⟩
      case measure=>simp[intOf];omega
     ·have hsb:(ByteArray.toList s==ByteArray.toList lb)=false:=by rw[txt_beq];exact decide_eq_false hsl
      go_wp2;go_roundw
      case rel=>exact⟨t+1,by omega,by go_num,hIz ⟨b,H6.out.2.1,H6.out.2.2.1.skip H6.out.2.2.2.2 hsl⟩,hIz H6.out.2.2.2.1⟩
      case measure=>simp[intOf];omega
    ·obtain rfl:t=m:=by omega
     go_wp2;go_roundw
     case rel=>exact⟨k+1,by omega,by go_num,hIz (by
      obtain⟨b,h1,h2⟩:=hqt.out;rw[← HM.out.1] at h2;exact⟨b,h1,h2.next⟩),hbt⟩
     case measure=>simp[intOf];omega
  ·obtain rfl:k=n:=by omega
   have FIN:=hIz (show QC w G lb side (.returned (.tuple #[.pointer (some ⟨q,0,none⟩),.int .i64 0])) wr from by
    obtain⟨b,h1,h2⟩:=hq.out;rw[← H.out.2.2.2] at h2;exact⟨q,b,rfl,h1,hbw.out,h2.all H.out.2.1 H.out.2.2.1⟩)
   clear hq hbw;go_wp2;refine bodyPost_ret (v:=.tuple #[.pointer (some ⟨q,0,none⟩),.int .i64 0]) (by simp[results,Tryz.f59,go_sem]) rfl FIN.out
open Go.RowKit
section
set_option maxRecDepth 20000
set_option maxHeartbeats 2000000
theorem fC(w:World):Calls Tryz.prog 48 #[.pointer none] w (eJ w (.bool false)):=by
 go_enter Tryz.func48,Tryz.ntmps48;go_wp2;go_ret;exact⟨rfl,rfl⟩
theorem IF(w:World):Calls Tryz.prog 40 #[.pointer none] w (eJ w (.tuple #[.int .i64 0,.int .i64 0])):=by
 have hcon:=fC w;go_enter Tryz.func40,Tryz.ntmps40;go_wp2_with fail;refine hcon.mono ?_;clear hcon;rintro e V ⟨rfl,hw⟩;subst V;go_wp2;refine bodyPost_ret (v:=.tuple #[.int .i64 0,.int .i64 0]) (by simp[results,Tryz.f40,go_sem]) rfl ⟨rfl,rfl⟩
theorem zH(w:World):Calls Tryz.prog 37 #[.pointer none] w (eJ w (.slice none 0 0)):=by
 have hcon:=fC w;go_enter Tryz.func37,Tryz.ntmps37;go_wp2_with fail;refine hcon.mono ?_;clear hcon;rintro e V ⟨rfl,hw⟩;subst V;go_wp2;go_ret;exact⟨rfl,rfl⟩
theorem wA(w:World):Calls Tryz.prog 63 #[.pointer none] w (eJ w (.slice none 0 0)):=by
 have hcon:=fC w;go_enter Tryz.func63,Tryz.ntmps63;go_wp2_with fail;refine hcon.mono ?_;clear hcon;rintro e V ⟨rfl,hw⟩;subst V;go_wp2;go_ret;exact⟨rfl,rfl⟩
theorem CP(w:World)(s:Txt):Calls Tryz.prog 41 #[.pointer none,.string s] w (eJ w (.tuple #[.int .i64 0,.int .i64 1])):=by
 have hcon:=fC w;go_enter Tryz.func41,Tryz.ntmps41;go_wp2_with fail;refine hcon.mono ?_;clear hcon;rintro e V ⟨rfl,hw⟩;subst V;go_wp2;refine bodyPost_ret (v:=.tuple #[.int .i64 0,.int .i64 1]) (by simp[results,Tryz.f41,go_sem]) rfl ⟨rfl,rfl⟩
theorem IG(w:World)(x:Ed):Calls Tryz.prog 43 #[.pointer none,.string x.fr,.string x.lb,.string x.to] w (eJ w (.bool false)):=by
 have hcon:=fC w;go_enter Tryz.func43,Tryz.ntmps43;go_wp2_with fail;refine hcon.mono ?_;clear hcon;rintro e V ⟨rfl,hw⟩;subst V;go_wp2;go_ret;exact⟨rfl,rfl⟩
theorem CQ(w:World)(s:Txt):Calls Tryz.prog 39 #[.pointer none,.string s] w (eJ w (.tuple #[.bool false,.int .i64 1])):=by
 have hcon:=fC w;go_enter Tryz.func39,Tryz.ntmps39;go_wp2_with fail;refine hcon.mono ?_;clear hcon;rintro e V ⟨rfl,hw⟩;subst V;go_wp2;refine bodyPost_ret (v:=.tuple #[.bool false,.int .i64 1]) (by simp[results,Tryz.f39,go_sem]) rfl ⟨rfl,rfl⟩
theorem CR(w:World)(x:Ed):Calls Tryz.prog 27 #[.pointer none,.string x.fr,.string x.lb,.string x.to] w (eJ w (.tuple #[.bool false,.int .i64 1])):=by
 have hcon:=fC w;go_enter Tryz.func27,Tryz.ntmps27;go_wp2_with fail;refine hcon.mono ?_;clear hcon;rintro e V ⟨rfl,hw⟩;subst V;go_wp2;refine bodyPost_ret (v:=.tuple #[.bool false,.int .i64 1]) (by simp[results,Tryz.f27,go_sem]) rfl ⟨rfl,rfl⟩
theorem CS(w:World):Calls Tryz.prog 14 #[.pointer none] w (eJ w (.pointer none)):=by
 have hcon:=fC w;go_enter Tryz.func14,Tryz.ntmps14;go_wp2_with fail;refine hcon.mono ?_;clear hcon;rintro e V ⟨rfl,hw⟩;subst V;go_wp2;go_ret;exact⟨rfl,rfl⟩
theorem wB(w:World)(s:Txt)(n:Int):Calls Tryz.prog 59 #[.pointer none,.string s,.int .i64 n] w (eJ w (.tuple #[.pointer none,.int .i64 1])):=by
 have hcon:=fC w;go_enter Tryz.func59,Tryz.ntmps59;go_wp2_with fail;refine hcon.mono ?_;clear hcon;rintro e V ⟨rfl,hw⟩;subst V;go_wp2;refine bodyPost_ret (v:=.tuple #[.pointer none,.int .i64 1]) (by simp[results,Tryz.f59,go_sem]) rfl ⟨rfl,rfl⟩
theorem CT(w:World):Calls Tryz.prog 64 #[.pointer none] w (Sam w (bQ none 0 0 none 0 0)):=by
 go_enter Tryz.func64,Tryz.ntmps64;go_wp2_with fail;refine(fC _).mono ?_;rintro e V ⟨rfl,hw⟩;subst V;go_wp2;have k0:=Blk.new w 34 #[.slice none 0 0,.slice none 0 0];have b0:Below w.heap.size w (w.alloc (.cells #[.slice none 0 0,.slice none 0 0] 34)):=bR.alloc (Nat.le_refl _) _;generalize w.alloc (.cells #[.slice none 0 0,.slice none 0 0] 34)=W at k0 b0 ⊢;have e0:W.cell? ⟨w.heap.size,0,none⟩=some (.slice none 0 0):=k0.cell 0;have e1:W.cell? ⟨w.heap.size,1,none⟩=some (.slice none 0 0):=k0.cell 1;refine bodyPost_ret (v:=.agg #[.slice none 0 0,.slice none 0 0]) (by simp[results,Tryz.f64,go_sem,e0,e1]) rfl ⟨rfl,b0⟩
theorem II(w:World)(n:Int):Calls Tryz.prog 42 #[.pointer none,.int .i64 n] w (eJ w (.tuple #[.slice none 0 0,.int .i64 1])):=by
 have hops:Calls Tryz.prog 85 #[.pointer none,.int .i64 n,.func (.func 86) #[.pointer none] #[]] w (eJ w (.tuple #[.slice none 0 0,.int .i64 1])):=by
  go_enter Tryz.func85,Tryz.ntmps85;go_wp2_with fail;refine(fC w).mono ?_;rintro e V ⟨rfl,hw⟩;subst V;go_wp2;refine bodyPost_ret (v:=.tuple #[.slice none 0 0,.int .i64 1]) (by simp[results,Tryz.f85,go_sem]) rfl ⟨rfl,rfl⟩
 go_enter Tryz.func42,Tryz.ntmps42;go_wp2_with fail;refine hops.mono ?_;clear hops;rintro e V ⟨rfl,hw⟩;subst V;go_wp2;refine bodyPost_ret (v:=.tuple #[.slice none 0 0,.int .i64 1]) (by simp[results,Tryz.f42,go_sem]) rfl ⟨rfl,rfl⟩
theorem MF(w:World)(n:Int):Calls Tryz.prog 56 #[.pointer none,.int .i64 n] w (eJ w (.tuple #[.slice none 0 0,.int .i64 1])):=by
 have hops:Calls Tryz.prog 85 #[.pointer none,.int .i64 n,.func (.func 101) #[.pointer none] #[]] w (eJ w (.tuple #[.slice none 0 0,.int .i64 1])):=by
  go_enter Tryz.func85,Tryz.ntmps85;go_wp2_with fail;refine(fC w).mono ?_;rintro e V ⟨rfl,hw⟩;subst V;go_wp2;refine bodyPost_ret (v:=.tuple #[.slice none 0 0,.int .i64 1]) (by simp[results,Tryz.f85,go_sem]) rfl ⟨rfl,rfl⟩
 go_enter Tryz.func56,Tryz.ntmps56;go_wp2_with fail;refine hops.mono ?_;clear hops;rintro e V ⟨rfl,hw⟩;subst V;go_wp2;refine bodyPost_ret (v:=.tuple #[.slice none 0 0,.int .i64 1]) (by simp[results,Tryz.f56,go_sem]) rfl ⟨rfl,rfl⟩
theorem CU(w:World)(F:Nat→Prop)(p:Nat)(G:Gr)(h:GrS w F p G)(ok:GOk G)(n:Int)(hn:n<0∨(G.N.length:Int)≤n):Calls Tryz.prog 42 #[.pointer (some ⟨p,0,none⟩),.int .i64 n] w (eJ w (.tuple #[.slice none 0 0,.int .i64 4])):=by
 obtain⟨U,V,⟨O,⟨r,nv,ov,iv,fo,fi⟩,hg,-⟩,ho⟩:=h;have hf:=ok.few;have q1:w.cell? ⟨p,1,none⟩=some (.map (some r)):=hg.blk.cell 1;obtain⟨nA,nc,e1,-,-⟩:=aG hg.rn;dsimp only at e1
 subst e1;obtain⟨m,hm⟩:∃m,G.N.length=m:=⟨_,rfl⟩;have q0:w.cell? ⟨p,0,none⟩=some (.slice nA m nc):=by rw[← hm];exact hg.blk.cell 0
 rw[hm] at hn;clear hg ho ok hf hm;have hops:Calls Tryz.prog 85 #[.pointer (some ⟨p,0,none⟩),.int .i64 n,.func (.func 86) #[.pointer (some ⟨p,0,none⟩)] #[]] w (eJ w (.tuple #[.slice none 0 0,.int .i64 4])):=by
  go_enter Tryz.func85,Tryz.ntmps85;go_wp2_with fail;refine(dQ w p r q1).mono ?_;rintro e w' ⟨rfl,hw⟩;subst w';by_cases hneg:n<0
  ·go_wp2;refine bodyPost_ret (v:=.tuple #[.slice none 0 0,.int .i64 4]) (by simp[results,Tryz.f85,go_sem]) rfl ⟨rfl,rfl⟩
  ·have hge:(m:Int)≤n:=by omega
   clear hn;go_wp2;refine bodyPost_ret (v:=.tuple #[.slice none 0 0,.int .i64 4]) (by simp[results,Tryz.f85,go_sem]) rfl ⟨rfl,rfl⟩
 go_enter Tryz.func42,Tryz.ntmps42;go_wp2_with fail;refine hops.mono ?_;clear hops;rintro e V ⟨rfl,hw⟩;subst V;go_wp2;refine bodyPost_ret (v:=.tuple #[.slice none 0 0,.int .i64 4]) (by simp[results,Tryz.f42,go_sem]) rfl ⟨rfl,rfl⟩
theorem IJ(w:World)(F:Nat→Prop)(p:Nat)(G:Gr)(h:GrS w F p G)(ok:GOk G)(n:Int)(hn:n<0∨(G.N.length:Int)≤n):Calls Tryz.prog 56 #[.pointer (some ⟨p,0,none⟩),.int .i64 n] w (eJ w (.tuple #[.slice none 0 0,.int .i64 4])):=by
 obtain⟨U,V,⟨O,⟨r,nv,ov,iv,fo,fi⟩,hg,-⟩,ho⟩:=h;have hf:=ok.few;have q1:w.cell? ⟨p,1,none⟩=some (.map (some r)):=hg.blk.cell 1;obtain⟨nA,nc,e1,-,-⟩:=aG hg.rn;dsimp only at e1
 subst e1;obtain⟨m,hm⟩:∃m,G.N.length=m:=⟨_,rfl⟩;have q0:w.cell? ⟨p,0,none⟩=some (.slice nA m nc):=by rw[← hm];exact hg.blk.cell 0
 rw[hm] at hn;clear hg ho ok hf hm;have hops:Calls Tryz.prog 85 #[.pointer (some ⟨p,0,none⟩),.int .i64 n,.func (.func 101) #[.pointer (some ⟨p,0,none⟩)] #[]] w (eJ w (.tuple #[.slice none 0 0,.int .i64 4])):=by
  go_enter Tryz.func85,Tryz.ntmps85;go_wp2_with fail;refine(dQ w p r q1).mono ?_;rintro e w' ⟨rfl,hw⟩;subst w';by_cases hneg:n<0
  ·go_wp2;refine bodyPost_ret (v:=.tuple #[.slice none 0 0,.int .i64 4]) (by simp[results,Tryz.f85,go_sem]) rfl ⟨rfl,rfl⟩
  ·have hge:(m:Int)≤n:=by omega
   clear hn;go_wp2;refine bodyPost_ret (v:=.tuple #[.slice none 0 0,.int .i64 4]) (by simp[results,Tryz.f85,go_sem]) rfl ⟨rfl,rfl⟩
 go_enter Tryz.func56,Tryz.ntmps56;go_wp2_with fail;refine hops.mono ?_;clear hops;rintro e V ⟨rfl,hw⟩;subst V;go_wp2;refine bodyPost_ret (v:=.tuple #[.slice none 0 0,.int .i64 4]) (by simp[results,Tryz.f56,go_sem]) rfl ⟨rfl,rfl⟩
theorem IK(w:World)(n:Int)(h:n<1∨1024<n):Calls Tryz.prog 70 #[.int .i64 n] w (eJ w (.tuple #[.pointer none,.int .i64 2])):=by
 go_enter Tryz.func70,Tryz.ntmps70;by_cases h1:n<1
 ·go_wp2;refine bodyPost_ret (v:=.tuple #[.pointer none,.int .i64 2]) (by simp[results,Tryz.f70,go_sem]) rfl ⟨rfl,rfl⟩
 ·have h2:1024<n:=by omega
  clear h;go_wp2;refine bodyPost_ret (v:=.tuple #[.pointer none,.int .i64 2]) (by simp[results,Tryz.f70,go_sem]) rfl ⟨rfl,rfl⟩
theorem IL(w:World)(F:Nat→Prop)(p:Nat)(G:Gr)(h:GrS w F p G)(ok:GOk G)(lb:Txt)(n:Int)(hn:n<1∨1024<n∨n<(G.N.length:Int)):Calls Tryz.prog 59 #[.pointer (some ⟨p,0,none⟩),.string lb,.int .i64 n] w (Sam w (.tuple #[.pointer none,.int .i64 5])):=by
 obtain⟨U,V,⟨O,⟨r,nv,ov,iv,fo,fi⟩,hg,-⟩,ho⟩:=h;have q1:w.cell? ⟨p,1,none⟩=some (.map (some r)):=hg.blk.cell 1;obtain⟨nA,nc,e1,-,-⟩:=aG hg.rn;dsimp only at e1
 subst e1;obtain⟨m,hm⟩:∃m,G.N.length=m:=⟨_,rfl⟩;rw[hm] at hn;have HG:=aI2 hg hm;clear hg ho ok hm;by_cases hb:n<1∨1024<n
 ·have hnew:=IK w n hb;clear hb hn HG;go_enter Tryz.func59,Tryz.ntmps59;go_wp2_with fail;refine(dQ w p r q1).mono ?_;rintro e w' ⟨rfl,hw⟩;subst w';go_wp2_with fail;refine hnew.mono ?_;rintro e w' ⟨rfl,hw⟩;subst w';go_wp2;refine bodyPost_ret (v:=.tuple #[.pointer none,.int .i64 5]) (by simp[results,Tryz.f59,go_sem]) rfl ⟨rfl,Below.refl _ _⟩
 ·obtain⟨k,rfl⟩:∃k:Nat,n=(k:Int):=⟨n.toNat,by omega⟩;have hk:(k:Int)<(m:Int):=by omega
  have hnew:=xL w k (by omega) (by omega);clear hb hn;go_enter Tryz.func59,Tryz.ntmps59;go_wp2_with fail;refine(dQ w p r q1).mono ?_;rintro e w' ⟨rfl,hw⟩;subst w';go_wp2_with fail;refine hnew.mono ?_;clear hnew q1;rintro e W1 ⟨q,rfl,fr1,b1⟩;have hg1:=HG.out.1.upd (upF b1) (fun _ _=>id);have q0:W1.cell? ⟨p,0,none⟩=some (.slice nA m nc):=by rw[← HG.out.2];exact hg1.blk.cell 0
  have HB:=hIz b1;clear fr1 b1 hg1;go_wp2;refine bodyPost_ret (v:=.tuple #[.pointer none,.int .i64 5]) (by simp[results,Tryz.f59,go_sem]) rfl ⟨rfl,HB.out⟩
end
end Go.Proofs.YtddffnonlmfhdaaGreatDoor
