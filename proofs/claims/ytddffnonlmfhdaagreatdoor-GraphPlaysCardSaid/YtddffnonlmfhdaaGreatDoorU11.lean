/- The document's graph of layer 17: AddEdge; The document's graph of layer 17: the hops of a node; Going down a matrix: all the way; All blocks of a matrix: at most one; All blocks of a matrix: none, or what there is; The iterators over cells: what the makers hand back; The bits of a word, lowest first (plain); The cells of a block, row by row (plain); How many edges a graph has, counted by their ends and by their labels (plain); GraphPlays: the plain law (no program in sight); layer 17's laws: hops, two lists hop by hop, the first one written over. -/
import Derived.Test.YtddffnonlmfhdaaGreatDoorU10
import Derived.Test.YtddffnonlmfhdaaGreatDoorU04
import Derived.Laws.EntriesVeiled
import Derived.Test.YtddffnonlmfhdaaGreatDoorU09
import Derived.Test.YtddffnonlmfhdaaGreatDoorU03
set_option linter.unusedVariables false
set_option linter.unusedSimpArgs false
set_option maxHeartbeats 16000000
set_option maxRecDepth 100000
namespace Go.Proofs.YtddffnonlmfhdaaGreatDoor
open Go.RowKit
section
set_option maxRecDepth 100000
set_option maxHeartbeats 4000000
def hO(N:List Txt)(E:List Ed)(x:Ed):Bool × Int:=
 if (cH x.fr&&eP x.lb&&cH x.to)=false then (false,173) else if x∈E then (false,0) else if ofI N (E++[x])=0 then (true,0) else (false,ofI N (E++[x]))
def JZ(w:World)(A:Option Addr)(c:Nat)(B:Option Addr)(d:Nat)(N:List Txt)(E:List Ed)(x:Ed)(e:Ending)(w':World):Prop:=
 Below w.heap.size w w'∧∃z:Int,(hO N E x=(false,z)∧e=.returned (.tuple #[rgV true A N.length c B E.length d,.bool false,.int .i64 z])) ∨
  (z=0∧hO N E x=(true,0)∧∃A' c' B' d',e=.returned (.tuple #[rgV true A' (bG (bG N x.fr) x.to).length c' B' (aR ltE (E++[x])).length d',.bool true,.int .i64 0])∧w'.ownsRow w.heap.size 9 1 (.slice A' (bG (bG N x.fr) x.to).length c') (bG (bG N x.fr) x.to).length (aC (bG (bG N x.fr) x.to))∧w'.ownsRow w.heap.size 32 3 (.slice B' (aR ltE (E++[x])).length d') (aR ltE (E++[x])).length (aH (aR ltE (E++[x]))))
theorem DG(w:World)(A:Option Addr)(c:Nat)(B:Option Addr)(d:Nat)(N:List Txt)(E:List Ed)(h:dX w A c B d N E)(hl:N.length≤100000)(he:E.length≤100000)(x:Ed)(hx:pE x) :
  Calls Tryz.prog 53 #[rgV true A N.length c B E.length d,x.agg] w (JZ w A c B d N E x):=by
 obtain⟨x0,x1,x2⟩:=x;unfold rgV Ed.agg;obtain⟨PP,hPP⟩:∃PP,JZ w A c B d N E ⟨x0,x1,x2⟩=PP:=⟨_,rfl⟩;rw[hPP];have HPP:=hIz hPP;clear hPP;obtain⟨n,hn⟩:∃n,N.length=n:=⟨_,rfl⟩;obtain⟨m,hm⟩:∃m,E.length=m:=⟨_,rfl⟩;rw[hn,hm];rw[hn] at hl;rw[hm] at he;have b0:Below w.heap.size w (((w.alloc (.cells #[.bool true,.slice A n c,.slice B m d] 29)).alloc (.cells #[.string x0,.string x1,.string x2] 32)).alloc (.cells #[.bool false,.slice none 0 0,.slice none 0 0] 29)):=((bR.alloc (Nat.le_refl _) _).alloc (by simp) _).alloc (by simp;omega) _;have k1:=((Blk.new w 29 #[.bool true,.slice A n c,.slice B m d]).alloc (.cells #[.string x0,.string x1,.string x2] 32)).alloc (.cells #[.bool false,.slice none 0 0,.slice none 0 0] 29);have kx:=(Blk.new (w.alloc (.cells #[.bool true,.slice A n c,.slice B m d] 29)) 32 #[.string x0,.string x1,.string x2]).alloc (.cells #[.bool false,.slice none 0 0,.slice none 0 0] 29);have k2:=Blk.new ((w.alloc (.cells #[.bool true,.slice A n c,.slice B m d] 29)).alloc (.cells #[.string x0,.string x1,.string x2] 32)) 29 #[.bool false,.slice none 0 0,.slice none 0 0];simp only[World.size_alloc] at kx k2
 have HL:=aI2 hn hm;have HH:=aI2 h hx;have SAME:=hIz (show ∀z V,hO N E ⟨x0,x1,x2⟩=(false,z)→Below w.heap.size w V→PP (.returned (.tuple #[.agg #[.bool true,.slice A n c,.slice B m d],.bool false,.int .i64 z])) V from fun z V h1 h2=>by
  rw[← HPP.out,← hn,← hm];exact⟨h2,z,.inl ⟨h1,rfl⟩⟩)
 have H:=aI4 k1 kx k2 b0;clear b0 k1 kx k2 h hx hn hm;go_enter Tryz.func53,Tryz.ntmps53;go_upto_region 1 with (fail);generalize ((w.alloc (.cells #[.bool true,.slice A n c,.slice B m d] 29)).alloc (.cells #[.string x0,.string x1,.string x2] 32)).alloc (.cells #[.bool false,.slice none 0 0,.slice none 0 0] 29)=W0 at H ⊢;have ST:=hIz (show ∀V,Below W0.heap.size W0 V→Blk V w.heap.size 29 #[.bool true,.slice A n c,.slice B m d]∧Blk V (w.heap.size+1+1) 29 #[.bool false,.slice none 0 0,.slice none 0 0]∧Below w.heap.size w V from fun V b =>
  ⟨H.out.1.upd (upF b) id,H.out.2.2.1.upd (upF b) id,tHn H.out.2.2.2 b⟩)
 have XT:=hIz (show ∀V,Below W0.heap.size W0 V→V.cell? ⟨w.heap.size+1,0,none⟩=some (.string x0)∧V.cell? ⟨w.heap.size+1,1,none⟩=some (.string x1)∧V.cell? ⟨w.heap.size+1,2,none⟩=some (.string x2) from fun V b=>by
  have k:=H.out.2.1.upd (upF b) id;exact⟨k.cell 0,k.cell 1,k.cell 2⟩)
 have GT:=hIz (show ∀V,Below W0.heap.size W0 V→V.cell? ⟨w.heap.size,0,none⟩=some (.bool true)∧V.cell? ⟨w.heap.size,1,none⟩=some (.slice A n c)∧V.cell? ⟨w.heap.size,2,none⟩=some (.slice B m d) from fun V b=>by
  have k:=(ST.out V b).1;exact⟨k.cell 0,k.cell 1,k.cell 2⟩)
 have HW0:=hIz (ST.out W0 bR);have q0:W0.cell? ⟨w.heap.size,0,none⟩=some (.bool true):=(GT.out W0 bR).1;obtain⟨e0,e1,e2⟩:=XT.out W0 bR;have hn0:=dA x0 W0 HH.out.2.1;have hn1:=mL x1 W0 HH.out.2.2.1;have hn2:=dA x2 W0 HH.out.2.2.2;obtain⟨b0,hb0⟩:∃b,cH x0=b:=⟨_,rfl⟩;obtain⟨b1,hb1⟩:∃b,eP x1=b:=⟨_,rfl⟩;obtain⟨b2,hb2⟩:∃b,cH x2=b:=⟨_,rfl⟩;rw[hb0] at hn0;rw[hb1] at hn1;rw[hb2] at hn2;have HNB:=aI3 hb0 hb1 hb2;clear hb0 hb1 hb2;go_wp2_with fail;refine hn0.mono ?_;rintro e V ⟨rfl,hw⟩;subst V;cases b0
 ·have FIN:=hIz (show hO N E ⟨x0,x1,x2⟩=(false,173) by rw[hO,if_pos (by rw[HNB.out.1];rfl)]);clear hn0 hn1 hn2 e0 e1 e2 q0;have q0:W0.cell? ⟨w.heap.size,0,none⟩=some (.bool true):=HW0.out.1.cell 0;have q1:W0.cell? ⟨w.heap.size,1,none⟩=some (.slice A n c):=HW0.out.1.cell 1;have q2:W0.cell? ⟨w.heap.size,2,none⟩=some (.slice B m d):=HW0.out.1.cell 2;have s0:W0.cell? ⟨w.heap.size+1+1,0,none⟩=some (.bool false):=HW0.out.2.1.cell 0;have s1:W0.cell? ⟨w.heap.size+1+1,1,none⟩=some (.slice none 0 0):=HW0.out.2.1.cell 1;have s2:W0.cell? ⟨w.heap.size+1+1,2,none⟩=some (.slice none 0 0):=HW0.out.2.1.cell 2;have g0:=HW0.out.2.1.frozen 0;have g1:=HW0.out.2.1.frozen 1;have g2:=HW0.out.2.1.frozen 2;have HF:=aI2 (aW HW0.out.2.1 (.bool true) (.slice A n c) (.slice B m d)) (aX W0 (w.heap.size+1+1) (.bool true) (.slice A n c) (.slice B m d));go_wp2;clear q0 q1 q2 s0 s1 s2 g0 g1 g2;generalize ((W0.setCell ⟨w.heap.size+1+1,0,none⟩ (.bool true)).setCell ⟨w.heap.size+1+1,1,none⟩ (.slice A n c)).setCell ⟨w.heap.size+1+1,2,none⟩ (.slice B m d)=VF at HF ⊢;have y0:VF.cell? ⟨w.heap.size+1+1,0,none⟩=some (.bool true):=HF.out.1.cell 0;have y1:VF.cell? ⟨w.heap.size+1+1,1,none⟩=some (.slice A n c):=HF.out.1.cell 1;have y2:VF.cell? ⟨w.heap.size+1+1,2,none⟩=some (.slice B m d):=HF.out.1.cell 2;have bF:Below w.heap.size w VF:=HW0.out.2.2.trans (HF.out.2.below (fun q _ e=>by omega) HW0.out.2.2.size);refine bodyPost_ret (v:=.tuple #[.agg #[(.bool true),(.slice A n c),(.slice B m d)],.bool false,.int .i64 173]) (by simp[results,Tryz.f53,go_sem,y0,y1,y2]) rfl ?_
  exact SAME.out _ _ FIN.out bF
 go_wp2_with fail;refine hn1.mono ?_;rintro e V ⟨rfl,hw⟩;subst V;cases b1
 ·have FIN:=hIz (show hO N E ⟨x0,x1,x2⟩=(false,173) by rw[hO,if_pos (by rw[HNB.out.1,HNB.out.2.1];rfl)]);clear hn0 hn1 hn2 e0 e1 e2 q0;have q0:W0.cell? ⟨w.heap.size,0,none⟩=some (.bool true):=HW0.out.1.cell 0;have q1:W0.cell? ⟨w.heap.size,1,none⟩=some (.slice A n c):=HW0.out.1.cell 1;have q2:W0.cell? ⟨w.heap.size,2,none⟩=some (.slice B m d):=HW0.out.1.cell 2;have s0:W0.cell? ⟨w.heap.size+1+1,0,none⟩=some (.bool false):=HW0.out.2.1.cell 0;have s1:W0.cell? ⟨w.heap.size+1+1,1,none⟩=some (.slice none 0 0):=HW0.out.2.1.cell 1;have s2:W0.cell? ⟨w.heap.size+1+1,2,none⟩=some (.slice none 0 0):=HW0.out.2.1.cell 2;have g0:=HW0.out.2.1.frozen 0;have g1:=HW0.out.2.1.frozen 1;have g2:=HW0.out.2.1.frozen 2;have HF:=aI2 (aW HW0.out.2.1 (.bool true) (.slice A n c) (.slice B m d)) (aX W0 (w.heap.size+1+1) (.bool true) (.slice A n c) (.slice B m d));go_wp2;clear q0 q1 q2 s0 s1 s2 g0 g1 g2;generalize ((W0.setCell ⟨w.heap.size+1+1,0,none⟩ (.bool true)).setCell ⟨w.heap.size+1+1,1,none⟩ (.slice A n c)).setCell ⟨w.heap.size+1+1,2,none⟩ (.slice B m d)=VF at HF ⊢;have y0:VF.cell? ⟨w.heap.size+1+1,0,none⟩=some (.bool true):=HF.out.1.cell 0;have y1:VF.cell? ⟨w.heap.size+1+1,1,none⟩=some (.slice A n c):=HF.out.1.cell 1;have y2:VF.cell? ⟨w.heap.size+1+1,2,none⟩=some (.slice B m d):=HF.out.1.cell 2;have bF:Below w.heap.size w VF:=HW0.out.2.2.trans (HF.out.2.below (fun q _ e=>by omega) HW0.out.2.2.size);refine bodyPost_ret (v:=.tuple #[.agg #[(.bool true),(.slice A n c),(.slice B m d)],.bool false,.int .i64 173]) (by simp[results,Tryz.f53,go_sem,y0,y1,y2]) rfl ?_
  exact SAME.out _ _ FIN.out bF
 go_wp2_with fail;refine hn2.mono ?_;rintro e V ⟨rfl,hw⟩;subst V;cases b2
 ·have FIN:=hIz (show hO N E ⟨x0,x1,x2⟩=(false,173) by rw[hO,if_pos (by rw[HNB.out.1,HNB.out.2.1,HNB.out.2.2];rfl)]);clear hn0 hn1 hn2 e0 e1 e2 q0;have q0:W0.cell? ⟨w.heap.size,0,none⟩=some (.bool true):=HW0.out.1.cell 0;have q1:W0.cell? ⟨w.heap.size,1,none⟩=some (.slice A n c):=HW0.out.1.cell 1;have q2:W0.cell? ⟨w.heap.size,2,none⟩=some (.slice B m d):=HW0.out.1.cell 2;have s0:W0.cell? ⟨w.heap.size+1+1,0,none⟩=some (.bool false):=HW0.out.2.1.cell 0;have s1:W0.cell? ⟨w.heap.size+1+1,1,none⟩=some (.slice none 0 0):=HW0.out.2.1.cell 1;have s2:W0.cell? ⟨w.heap.size+1+1,2,none⟩=some (.slice none 0 0):=HW0.out.2.1.cell 2;have g0:=HW0.out.2.1.frozen 0;have g1:=HW0.out.2.1.frozen 1;have g2:=HW0.out.2.1.frozen 2;have HF:=aI2 (aW HW0.out.2.1 (.bool true) (.slice A n c) (.slice B m d)) (aX W0 (w.heap.size+1+1) (.bool true) (.slice A n c) (.slice B m d));go_wp2;clear q0 q1 q2 s0 s1 s2 g0 g1 g2;generalize ((W0.setCell ⟨w.heap.size+1+1,0,none⟩ (.bool true)).setCell ⟨w.heap.size+1+1,1,none⟩ (.slice A n c)).setCell ⟨w.heap.size+1+1,2,none⟩ (.slice B m d)=VF at HF ⊢;have y0:VF.cell? ⟨w.heap.size+1+1,0,none⟩=some (.bool true):=HF.out.1.cell 0;have y1:VF.cell? ⟨w.heap.size+1+1,1,none⟩=some (.slice A n c):=HF.out.1.cell 1;have y2:VF.cell? ⟨w.heap.size+1+1,2,none⟩=some (.slice B m d):=HF.out.1.cell 2;have bF:Below w.heap.size w VF:=HW0.out.2.2.trans (HF.out.2.below (fun q _ e=>by omega) HW0.out.2.2.size);refine bodyPost_ret (v:=.tuple #[.agg #[(.bool true),(.slice A n c),(.slice B m d)],.bool false,.int .i64 173]) (by simp[results,Tryz.f53,go_sem,y0,y1,y2]) rfl ?_
  exact SAME.out _ _ FIN.out bF
 have hok:Hid (¬(cH x0&&eP x1&&cH x2)=false):=hIz (by rw[HNB.out.1,HNB.out.2.1,HNB.out.2.2];simp);clear hn0 hn1 hn2;obtain⟨-,q1,q2⟩:=GT.out W0 bR;have hhas:=kU W0 true (.slice A n c) B d E (HH.out.1.re.below HW0.out.2.2) (by rw[HL.out.2];omega) ⟨x0,x1,x2⟩;rw[HL.out.2] at hhas;unfold Ed.agg at hhas;dsimp only at hhas
 obtain⟨bh,hbh⟩:∃b,decide ((⟨x0,x1,x2⟩:Ed)∈E)=b:=⟨_,rfl⟩;rw[hbh] at hhas;have HBH:=hIz hbh;clear hbh;go_wp2_with fail;refine hhas.mono ?_;clear hhas q0 q1 q2 e0 e1 e2;rintro e W1 ⟨rfl,b1⟩;have HB1:=hIz b1;clear b1;have HW1:=hIz (ST.out W1 HB1.out);cases bh
 rotate_left
 ·have FIN:=hIz (show hO N E ⟨x0,x1,x2⟩=(false,0) by rw[hO,if_neg hok.out,if_pos (of_decide_eq_true HBH.out)]);have q0:W1.cell? ⟨w.heap.size,0,none⟩=some (.bool true):=HW1.out.1.cell 0;have q1:W1.cell? ⟨w.heap.size,1,none⟩=some (.slice A n c):=HW1.out.1.cell 1;have q2:W1.cell? ⟨w.heap.size,2,none⟩=some (.slice B m d):=HW1.out.1.cell 2;have s0:W1.cell? ⟨w.heap.size+1+1,0,none⟩=some (.bool false):=HW1.out.2.1.cell 0;have s1:W1.cell? ⟨w.heap.size+1+1,1,none⟩=some (.slice none 0 0):=HW1.out.2.1.cell 1;have s2:W1.cell? ⟨w.heap.size+1+1,2,none⟩=some (.slice none 0 0):=HW1.out.2.1.cell 2;have g0:=HW1.out.2.1.frozen 0;have g1:=HW1.out.2.1.frozen 1;have g2:=HW1.out.2.1.frozen 2;have HF:=aI2 (aW HW1.out.2.1 (.bool true) (.slice A n c) (.slice B m d)) (aX W1 (w.heap.size+1+1) (.bool true) (.slice A n c) (.slice B m d));go_wp2;clear q0 q1 q2 s0 s1 s2 g0 g1 g2;generalize ((W1.setCell ⟨w.heap.size+1+1,0,none⟩ (.bool true)).setCell ⟨w.heap.size+1+1,1,none⟩ (.slice A n c)).setCell ⟨w.heap.size+1+1,2,none⟩ (.slice B m d)=VF at HF ⊢;have y0:VF.cell? ⟨w.heap.size+1+1,0,none⟩=some (.bool true):=HF.out.1.cell 0;have y1:VF.cell? ⟨w.heap.size+1+1,1,none⟩=some (.slice A n c):=HF.out.1.cell 1;have y2:VF.cell? ⟨w.heap.size+1+1,2,none⟩=some (.slice B m d):=HF.out.1.cell 2;have bF:Below w.heap.size w VF:=HW1.out.2.2.trans (HF.out.2.below (fun q _ e=>by omega) HW1.out.2.2.size);refine bodyPost_ret (v:=.tuple #[.agg #[(.bool true),(.slice A n c),(.slice B m d)],.bool false,.int .i64 0]) (by simp[results,Tryz.f53,go_sem,y0,y1,y2]) rfl ?_
  exact SAME.out _ _ FIN.out bF
 have hnm:Hid ((⟨x0,x1,x2⟩:Ed) ∉ E):=hIz (of_decide_eq_false HBH.out);have q2:(W1.alloc (.cells #[] 32)).cell? ⟨w.heap.size,2,none⟩=some (.slice B m d):=(HW1.out.1.alloc (.cells #[] 32)).cell 2;obtain⟨B3,d3,W2,happ,r3,b2⟩:=MI W1 B m d E (HH.out.1.re.below HW1.out.2.2) HL.out.2 (by omega);have HR:=aI2 r3 b2;clear r3 b2;go_upto_region 8 with (at_builtin;refine wpList_append_run rfl _ _ _ rfl rfl rfl happ ?_);clear happ q2;obtain⟨v',W3,happ,r4,up,-⟩:=jJ W2 W1.heap.size (.slice B3 m d3) E (by rw[HL.out.2];exact HR.out.1) ⟨x0,x1,x2⟩ (by rw[HL.out.2];omega) HR.out.2.size;obtain⟨B4,d4,rfl,hle,row⟩:=bS r4;have b3:Below W1.heap.size W1 W3:=HR.out.2.trans (up.below (fun q _ hq=>(HR.out.1.lt q hq).1) HR.out.2.size);rw[List.length_append,List.length_singleton,HL.out.2] at happ r4 hle;have HB3:=hIz (tHn HB1.out b3);have HR2:=aI4 r4 b3 hle row;obtain⟨e0,e1,e2⟩:=XT.out W2 (tHn HB1.out HR.out.2);clear r4 b3 up HR hle row;go_upto_region 9 with (at_builtin;refine wpList_append_run rfl _ _ _ rfl rfl rfl happ ?_);clear happ e0 e1 e2;have HW3:=hIz (ST.out W3 HB3.out);have q1:W3.cell? ⟨w.heap.size,1,none⟩=some (.slice A n c):=HW3.out.1.cell 1;have hfg:dX W3 A c B4 d4 N (E++[⟨x0,x1,x2⟩]):=⟨HH.out.1.rn.below HW3.out.2.2,HR2.out.2.2.2,HH.out.1.hc,by rw[List.length_append,List.length_singleton,HL.out.2];exact HR2.out.2.2.1,⟨HH.out.1.fit.n,by rw[List.length_append,List.length_singleton,HL.out.2];omega,HH.out.1.fit.tn,fun t ht=>by
  rcases List.mem_append.1 ht with ht|ht
  ·exact HH.out.1.fit.te t ht
  ·rw[List.mem_singleton.1 ht];exact HH.out.2⟩⟩
 have hof:=wD W3 A c B4 d4 N (E++[⟨x0,x1,x2⟩]) hfg (by rw[List.length_append,List.length_singleton,HL.out.1,HL.out.2];omega);have hso:=dB (m+1) W3 B4 d4 (E++[⟨x0,x1,x2⟩]) (by rw[List.length_append,List.length_singleton,HL.out.2];exact Nat.le_refl _);rw[List.length_append,List.length_singleton,HL.out.1,HL.out.2] at hof;unfold OfQ bQ at hof;obtain⟨oz,hoz⟩:∃z,ofI N (E++[⟨x0,x1,x2⟩])=z:=⟨_,rfl⟩;rw[hoz] at hof;have HOZ:=hIz hoz;clear hfg hoz hso;go_wp2_with fail;refine hof.mono ?_;clear hof q1;rintro e W4 ⟨A5,c5,B5,d5,rfl,-,-,b4⟩;generalize (ofN N (E++[⟨x0,x1,x2⟩])).length=u1;generalize (ofE N (E++[⟨x0,x1,x2⟩])).length=u2;have b34:Below W3.heap.size W3 (W4.alloc (.cells #[.slice A5 u1 c5,.slice B5 u2 d5] 34)):=b4.alloc b4.size _;have HB4:=hIz b34;clear b4 b34;go_upto_region 10 with (fail);generalize W4.alloc (.cells #[.slice A5 u1 c5,.slice B5 u2 d5] 34)=W5 at HB4 ⊢;have HB5:=hIz (tHn HB3.out HB4.out);have HW5:=hIz (ST.out W5 HB5.out);by_cases hz0:oz=0
 rotate_left
 ·have FIN:=hIz (show hO N E ⟨x0,x1,x2⟩=(false,oz) by rw[hO,if_neg hok.out,if_neg hnm.out,if_neg (by rw[HOZ.out];exact hz0),HOZ.out]);have hzb:((oz==0)=false):=by simpa using hz0
  have q0:W5.cell? ⟨w.heap.size,0,none⟩=some (.bool true):=HW5.out.1.cell 0;have q1:W5.cell? ⟨w.heap.size,1,none⟩=some (.slice A n c):=HW5.out.1.cell 1;have q2:W5.cell? ⟨w.heap.size,2,none⟩=some (.slice B m d):=HW5.out.1.cell 2;have s0:W5.cell? ⟨w.heap.size+1+1,0,none⟩=some (.bool false):=HW5.out.2.1.cell 0;have s1:W5.cell? ⟨w.heap.size+1+1,1,none⟩=some (.slice none 0 0):=HW5.out.2.1.cell 1;have s2:W5.cell? ⟨w.heap.size+1+1,2,none⟩=some (.slice none 0 0):=HW5.out.2.1.cell 2;have g0:=HW5.out.2.1.frozen 0;have g1:=HW5.out.2.1.frozen 1;have g2:=HW5.out.2.1.frozen 2;have HF:=aI2 (aW HW5.out.2.1 (.bool true) (.slice A n c) (.slice B m d)) (aX W5 (w.heap.size+1+1) (.bool true) (.slice A n c) (.slice B m d));go_wp2;clear q0 q1 q2 s0 s1 s2 g0 g1 g2;generalize ((W5.setCell ⟨w.heap.size+1+1,0,none⟩ (.bool true)).setCell ⟨w.heap.size+1+1,1,none⟩ (.slice A n c)).setCell ⟨w.heap.size+1+1,2,none⟩ (.slice B m d)=VF at HF ⊢;have y0:VF.cell? ⟨w.heap.size+1+1,0,none⟩=some (.bool true):=HF.out.1.cell 0;have y1:VF.cell? ⟨w.heap.size+1+1,1,none⟩=some (.slice A n c):=HF.out.1.cell 1;have y2:VF.cell? ⟨w.heap.size+1+1,2,none⟩=some (.slice B m d):=HF.out.1.cell 2;have bF:Below w.heap.size w VF:=HW5.out.2.2.trans (HF.out.2.below (fun q _ e=>by omega) HW5.out.2.2.size);refine bodyPost_ret (v:=.tuple #[.agg #[(.bool true),(.slice A n c),(.slice B m d)],.bool false,.int .i64 oz]) (by simp[results,Tryz.f53,go_sem,y0,y1,y2]) rfl ?_;exact SAME.out _ _ FIN.out bF
 subst hz0;have FIN:=hIz (show hO N E ⟨x0,x1,x2⟩=(true,0) by rw[hO,if_neg hok.out,if_neg hnm.out,if_pos HOZ.out]);have q1:(W5.alloc (.cells #[] 9)).cell? ⟨w.heap.size,1,none⟩=some (.slice A n c):=(HW5.out.1.alloc (.cells #[] 9)).cell 1;obtain⟨A6,c6,W6,happ,r6,b6⟩:=xR W5 A n c N (HH.out.1.rn.below HW5.out.2.2) HL.out.1 (by omega);have HR6:=aI2 r6 b6;have HB6:=hIz (tHn HB5.out b6);clear r6 b6;go_upto_region 13 with (at_builtin;refine wpList_append_run rfl _ _ _ rfl rfl rfl happ ?_);clear happ q1;have HW6:=hIz (ST.out W6 HB6.out);obtain⟨q0,q1,q2⟩:=GT.out W6 HB6.out;obtain⟨e0,e1,e2⟩:=XT.out W6 HB6.out;have hnum:=dD W6 true A c N (HH.out.1.rn.below HW6.out.2.2) (by rw[HL.out.1];omega) (.slice B m d) x0;rw[HL.out.1] at hnum;go_wp2_with fail;refine hnum.mono ?_;clear hnum q0 q1 q2 e0 e1 e2;rintro e W7 ⟨k,rfl,hk,b7⟩;have HK:=hIz hk;have HB7:=hIz (tHn HB6.out b7);have HR7:=aI2 (cG HR6.out.1 (Nat.le_refl _) (upF b7) (fun _ _ _=>id)) (tHn HR6.out.2 b7);have HW7:=hIz (ST.out W7 HB7.out);clear b7 hk;by_cases hk0:k<0
 ·have hN1:Hid (bG N x0=N++[x0]):=hIz (by
   rcases HK.out with ⟨i,h1,-,-⟩|⟨-,h1⟩
   ·omega
   ·rw[bG,if_neg (fun e=>h1 (aQ.1 e))])
  obtain⟨e0,e1,e2⟩:=XT.out W7 HB7.out;obtain⟨v',W8,happ,r8,up,-⟩:=dU W7 W5.heap.size (.slice A6 n c6) N (by rw[HL.out.1];exact HR7.out.1) x0 (by rw[HL.out.1];omega) HR7.out.2.size;obtain⟨A8,c8,rfl,-,-⟩:=bS r8;have b8:Below W5.heap.size W5 W8:=HR7.out.2.trans (up.below (fun q _ hq=>(HR7.out.1.lt q hq).1) HR7.out.2.size);rw[← hN1.out] at r8 happ;obtain⟨n1,hn1⟩:∃q,(bG N x0).length=q:=⟨_,rfl⟩;rw[hn1] at r8 happ;have hn1b:n1≤n+1:=by rw[← hn1,hN1.out,List.length_append,List.length_singleton,HL.out.1];exact Nat.le_refl _
  have HN1:=aI2 hn1 (show x0∈bG N x0 from cO.2 (.inr rfl));have HR8:=aI2 r8 b8;have HB8:=hIz (tHn HB5.out b8);clear r8 b8 up hn1;go_upto_region 15 with (at_builtin;refine wpList_append_run rfl _ _ _ rfl rfl rfl happ ?_);clear happ e0 e1 e2;have HW8:=hIz (ST.out W8 HB8.out);obtain⟨q0,q1,q2⟩:=GT.out W8 HB8.out;obtain⟨e0,e1,e2⟩:=XT.out W8 HB8.out;have hnum:=dD W8 true A c N (HH.out.1.rn.below HW8.out.2.2) (by rw[HL.out.1];omega) (.slice B m d) x2;rw[HL.out.1] at hnum;go_wp2_with fail;refine hnum.mono ?_;clear hnum q0 q1 q2 e0 e1 e2;rintro e W9 ⟨k2,rfl,hk2,b9⟩;have HK2:=hIz hk2;have HB9:=hIz (tHn HB8.out b9);have HR9:=aI2 (cG HR8.out.1 (Nat.le_refl _) (upF b9) (fun _ _ _=>id)) (tHn HR8.out.2 b9);clear b9 hk2;obtain⟨e0,e1,e2⟩:=XT.out W9 HB9.out;by_cases hk20:k2<0
  ·by_cases hx20:x2=x0
   ·have hq:(x2.toList==x0.toList)=true:=by rw[txt_beq];exact decide_eq_true hx20
    have HN2:=hIz (show bG (bG N x0) x2=bG N x0 by rw[bG,if_pos (aQ.2 (by rw[hx20];exact HN1.out.2))]);clear hx20;go_upto_region 17 with (fail);clear hq e0 e1 e2;have HWV:=hIz (ST.out W9 HB9.out);have b3V:Below W3.heap.size W3 W9:=tHn HB4.out HR9.out.2;have hso:=dB (m+1) W9 B4 d4 (E++[⟨x0,x1,x2⟩]) (by rw[List.length_append,List.length_singleton,HL.out.2];exact Nat.le_refl _) (HR2.out.2.2.2.below b3V) (by rw[List.length_append,List.length_singleton,HL.out.2];exact HR2.out.2.2.1) (by rw[List.length_append,List.length_singleton,HL.out.2];omega);rw[List.length_append,List.length_singleton,HL.out.2] at hso;clear b3V;go_wp2_with fail;refine hso.mono ?_;clear hso;rintro e WZ ⟨vz,rfl,oz,bz⟩;obtain⟨BZ,dZ,rfl,-,-⟩:=bS oz;obtain⟨l9,hl9⟩:∃q,(aR ltE (E++[⟨x0,x1,x2⟩])).length=q:=⟨_,rfl⟩;rw[hl9] at oz ⊢;have HZ:=aI3 hl9 (cG HR9.out.1 (Nat.le_refl _) (upF bz) (fun _ _ _=>id)) oz;have HWZ:=hIz (ST.out WZ (tHn HB9.out bz));have hwV:w.heap.size+1+1<W9.heap.size:=HWV.out.2.1.lt;have hwZ:w.heap.size+1+1<W5.heap.size:=HW5.out.2.1.lt;clear hl9 oz bz;have q0:WZ.cell? ⟨w.heap.size,0,none⟩=some (.bool true):=HWZ.out.1.cell 0;have q1:WZ.cell? ⟨w.heap.size,1,none⟩=some (.slice A n c):=HWZ.out.1.cell 1;have q2:WZ.cell? ⟨w.heap.size,2,none⟩=some (.slice B m d):=HWZ.out.1.cell 2;have s0:WZ.cell? ⟨w.heap.size+1+1,0,none⟩=some (.bool false):=HWZ.out.2.1.cell 0;have s1:WZ.cell? ⟨w.heap.size+1+1,1,none⟩=some (.slice none 0 0):=HWZ.out.2.1.cell 1;have s2:WZ.cell? ⟨w.heap.size+1+1,2,none⟩=some (.slice none 0 0):=HWZ.out.2.1.cell 2
    have g0:=HWZ.out.2.1.frozen 0;have g1:=HWZ.out.2.1.frozen 1;have g2:=HWZ.out.2.1.frozen 2;have HF:=aI2 (aW HWZ.out.2.1 (.bool true) (.slice A8 n1 c8) (.slice BZ l9 dZ)) (aX WZ (w.heap.size+1+1) (.bool true) (.slice A8 n1 c8) (.slice BZ l9 dZ));go_wp2;clear q0 q1 q2 s0 s1 s2 g0 g1 g2;generalize ((WZ.setCell ⟨w.heap.size+1+1,0,none⟩ (.bool true)).setCell ⟨w.heap.size+1+1,1,none⟩ (.slice A8 n1 c8)).setCell ⟨w.heap.size+1+1,2,none⟩ (.slice BZ l9 dZ)=VF at HF ⊢;have y0:VF.cell? ⟨w.heap.size+1+1,0,none⟩=some (.bool true):=HF.out.1.cell 0;have y1:VF.cell? ⟨w.heap.size+1+1,1,none⟩=some (.slice A8 n1 c8):=HF.out.1.cell 1;have y2:VF.cell? ⟨w.heap.size+1+1,2,none⟩=some (.slice BZ l9 dZ):=HF.out.1.cell 2;have bF:Below w.heap.size w VF:=HWZ.out.2.2.trans (HF.out.2.below (fun q _ e=>by omega) HWZ.out.2.2.size);refine bodyPost_ret (v:=.tuple #[.agg #[(.bool true),(.slice A8 n1 c8),(.slice BZ l9 dZ)],.bool true,.int .i64 0]) (by simp[results,Tryz.f53,go_sem,y0,y1,y2]) rfl ?_;rw[← HPP.out];refine⟨bF,0,.inr ⟨rfl,FIN.out,A8,c8,BZ,dZ,by dsimp only;rw[rgV,HZ.out.1,HN2.out,HN1.out.1],?_,?_⟩⟩
    ·dsimp only
     rw[HN2.out,HN1.out.1];exact cG HZ.out.2.1 (by omega) HF.out.2 (fun k hk _ e=>by omega)
    ·rw[HZ.out.1];exact cG HZ.out.2.2 (by omega) HF.out.2 (fun k hk _ e=>by omega)
   ·have hq:(x2.toList==x0.toList)=false:=by rw[txt_beq];exact decide_eq_false hx20
    have HN2:=hIz (show bG (bG N x0) x2=bG N x0++[x2] by
     rw[bG,if_neg (fun e=>?_)];rcases cO.1 (aQ.1 e) with h|h
     ·rcases HK2.out with ⟨i,h1,-,-⟩|⟨-,h1⟩
      ·omega
      ·exact h1 h
     ·exact hx20 h)
    clear hx20;obtain⟨v',WA,happ,rA,up,-⟩:=dU W9 W5.heap.size (.slice A8 n1 c8) (bG N x0) (by rw[HN1.out.1];exact HR9.out.1) x2 (by rw[HN1.out.1];omega) HR9.out.2.size;obtain⟨AA,cA,rfl,-,-⟩:=bS rA;have bA:Below W5.heap.size W5 WA:=HR9.out.2.trans (up.below (fun q _ hq=>(HR9.out.1.lt q hq).1) HR9.out.2.size);rw[← HN2.out] at rA happ;obtain⟨n2,hn2⟩:∃q,(bG (bG N x0) x2).length=q:=⟨_,rfl⟩;rw[hn2] at rA happ;have HRA:=aI3 rA bA hn2;have HBA:=hIz (tHn HB5.out bA);clear rA bA up hn2;go_upto_region 17 with (at_builtin;refine wpList_append_run rfl _ _ _ rfl rfl rfl happ ?_);clear happ hq e0 e1 e2;have HWV:=hIz (ST.out WA HBA.out);have b3V:Below W3.heap.size W3 WA:=tHn HB4.out HRA.out.2.1;have hso:=dB (m+1) WA B4 d4 (E++[⟨x0,x1,x2⟩]) (by rw[List.length_append,List.length_singleton,HL.out.2];exact Nat.le_refl _) (HR2.out.2.2.2.below b3V) (by rw[List.length_append,List.length_singleton,HL.out.2];exact HR2.out.2.2.1) (by rw[List.length_append,List.length_singleton,HL.out.2];omega);rw[List.length_append,List.length_singleton,HL.out.2] at hso;clear b3V;go_wp2_with fail;refine hso.mono ?_;clear hso;rintro e WZ ⟨vz,rfl,oz,bz⟩;obtain⟨BZ,dZ,rfl,-,-⟩:=bS oz;obtain⟨l9,hl9⟩:∃q,(aR ltE (E++[⟨x0,x1,x2⟩])).length=q:=⟨_,rfl⟩;rw[hl9] at oz ⊢;have HZ:=aI3 hl9 (cG HRA.out.1 (Nat.le_refl _) (upF bz) (fun _ _ _=>id)) oz;have HWZ:=hIz (ST.out WZ (tHn HBA.out bz));have hwV:w.heap.size+1+1<WA.heap.size:=HWV.out.2.1.lt;have hwZ:w.heap.size+1+1<W5.heap.size:=HW5.out.2.1.lt;clear hl9 oz bz;have q0:WZ.cell? ⟨w.heap.size,0,none⟩=some (.bool true):=HWZ.out.1.cell 0
    have q1:WZ.cell? ⟨w.heap.size,1,none⟩=some (.slice A n c):=HWZ.out.1.cell 1;have q2:WZ.cell? ⟨w.heap.size,2,none⟩=some (.slice B m d):=HWZ.out.1.cell 2;have s0:WZ.cell? ⟨w.heap.size+1+1,0,none⟩=some (.bool false):=HWZ.out.2.1.cell 0;have s1:WZ.cell? ⟨w.heap.size+1+1,1,none⟩=some (.slice none 0 0):=HWZ.out.2.1.cell 1;have s2:WZ.cell? ⟨w.heap.size+1+1,2,none⟩=some (.slice none 0 0):=HWZ.out.2.1.cell 2;have g0:=HWZ.out.2.1.frozen 0;have g1:=HWZ.out.2.1.frozen 1;have g2:=HWZ.out.2.1.frozen 2;have HF:=aI2 (aW HWZ.out.2.1 (.bool true) (.slice AA n2 cA) (.slice BZ l9 dZ)) (aX WZ (w.heap.size+1+1) (.bool true) (.slice AA n2 cA) (.slice BZ l9 dZ));go_wp2;clear q0 q1 q2 s0 s1 s2 g0 g1 g2;generalize ((WZ.setCell ⟨w.heap.size+1+1,0,none⟩ (.bool true)).setCell ⟨w.heap.size+1+1,1,none⟩ (.slice AA n2 cA)).setCell ⟨w.heap.size+1+1,2,none⟩ (.slice BZ l9 dZ)=VF at HF ⊢;have y0:VF.cell? ⟨w.heap.size+1+1,0,none⟩=some (.bool true):=HF.out.1.cell 0;have y1:VF.cell? ⟨w.heap.size+1+1,1,none⟩=some (.slice AA n2 cA):=HF.out.1.cell 1;have y2:VF.cell? ⟨w.heap.size+1+1,2,none⟩=some (.slice BZ l9 dZ):=HF.out.1.cell 2;have bF:Below w.heap.size w VF:=HWZ.out.2.2.trans (HF.out.2.below (fun q _ e=>by omega) HWZ.out.2.2.size);refine bodyPost_ret (v:=.tuple #[.agg #[(.bool true),(.slice AA n2 cA),(.slice BZ l9 dZ)],.bool true,.int .i64 0]) (by simp[results,Tryz.f53,go_sem,y0,y1,y2]) rfl ?_;rw[← HPP.out];refine⟨bF,0,.inr ⟨rfl,FIN.out,AA,cA,BZ,dZ,by dsimp only;rw[rgV,HZ.out.1,HRA.out.2.2],?_,?_⟩⟩
    ·dsimp only
     rw[HRA.out.2.2];exact cG HZ.out.2.1 (by omega) HF.out.2 (fun k hk _ e=>by omega)
    ·rw[HZ.out.1];exact cG HZ.out.2.2 (by omega) HF.out.2 (fun k hk _ e=>by omega)
  ·have HN2:=hIz (show bG (bG N x0) x2=bG N x0 by
    rw[bG,if_pos (aQ.2 (cO.2 (.inl ?_)))];rcases HK2.out with ⟨i,-,h1,-⟩|⟨h1,-⟩
    ·exact mG h1
    ·omega)
   go_upto_region 17 with (fail);clear e0 e1 e2;have HWV:=hIz (ST.out W9 HB9.out);have b3V:Below W3.heap.size W3 W9:=tHn HB4.out HR9.out.2;have hso:=dB (m+1) W9 B4 d4 (E++[⟨x0,x1,x2⟩]) (by rw[List.length_append,List.length_singleton,HL.out.2];exact Nat.le_refl _) (HR2.out.2.2.2.below b3V) (by rw[List.length_append,List.length_singleton,HL.out.2];exact HR2.out.2.2.1) (by rw[List.length_append,List.length_singleton,HL.out.2];omega);rw[List.length_append,List.length_singleton,HL.out.2] at hso;clear b3V;go_wp2_with fail;refine hso.mono ?_;clear hso;rintro e WZ ⟨vz,rfl,oz,bz⟩;obtain⟨BZ,dZ,rfl,-,-⟩:=bS oz;obtain⟨l9,hl9⟩:∃q,(aR ltE (E++[⟨x0,x1,x2⟩])).length=q:=⟨_,rfl⟩;rw[hl9] at oz ⊢;have HZ:=aI3 hl9 (cG HR9.out.1 (Nat.le_refl _) (upF bz) (fun _ _ _=>id)) oz;have HWZ:=hIz (ST.out WZ (tHn HB9.out bz));have hwV:w.heap.size+1+1<W9.heap.size:=HWV.out.2.1.lt;have hwZ:w.heap.size+1+1<W5.heap.size:=HW5.out.2.1.lt;clear hl9 oz bz;have q0:WZ.cell? ⟨w.heap.size,0,none⟩=some (.bool true):=HWZ.out.1.cell 0;have q1:WZ.cell? ⟨w.heap.size,1,none⟩=some (.slice A n c):=HWZ.out.1.cell 1;have q2:WZ.cell? ⟨w.heap.size,2,none⟩=some (.slice B m d):=HWZ.out.1.cell 2;have s0:WZ.cell? ⟨w.heap.size+1+1,0,none⟩=some (.bool false):=HWZ.out.2.1.cell 0;have s1:WZ.cell? ⟨w.heap.size+1+1,1,none⟩=some (.slice none 0 0):=HWZ.out.2.1.cell 1;have s2:WZ.cell? ⟨w.heap.size+1+1,2,none⟩=some (.slice none 0 0):=HWZ.out.2.1.cell 2;have g0:=HWZ.out.2.1.frozen 0;have g1:=HWZ.out.2.1.frozen 1;have g2:=HWZ.out.2.1.frozen 2;have HF:=aI2 (aW HWZ.out.2.1 (.bool true) (.slice A8 n1 c8) (.slice BZ l9 dZ)) (aX WZ (w.heap.size+1+1) (.bool true) (.slice A8 n1 c8) (.slice BZ l9 dZ))
   go_wp2;clear q0 q1 q2 s0 s1 s2 g0 g1 g2;generalize ((WZ.setCell ⟨w.heap.size+1+1,0,none⟩ (.bool true)).setCell ⟨w.heap.size+1+1,1,none⟩ (.slice A8 n1 c8)).setCell ⟨w.heap.size+1+1,2,none⟩ (.slice BZ l9 dZ)=VF at HF ⊢;have y0:VF.cell? ⟨w.heap.size+1+1,0,none⟩=some (.bool true):=HF.out.1.cell 0;have y1:VF.cell? ⟨w.heap.size+1+1,1,none⟩=some (.slice A8 n1 c8):=HF.out.1.cell 1;have y2:VF.cell? ⟨w.heap.size+1+1,2,none⟩=some (.slice BZ l9 dZ):=HF.out.1.cell 2;have bF:Below w.heap.size w VF:=HWZ.out.2.2.trans (HF.out.2.below (fun q _ e=>by omega) HWZ.out.2.2.size);refine bodyPost_ret (v:=.tuple #[.agg #[(.bool true),(.slice A8 n1 c8),(.slice BZ l9 dZ)],.bool true,.int .i64 0]) (by simp[results,Tryz.f53,go_sem,y0,y1,y2]) rfl ?_;rw[← HPP.out];refine⟨bF,0,.inr ⟨rfl,FIN.out,A8,c8,BZ,dZ,by dsimp only;rw[rgV,HZ.out.1,HN2.out,HN1.out.1],?_,?_⟩⟩
   ·dsimp only
    rw[HN2.out,HN1.out.1];exact cG HZ.out.2.1 (by omega) HF.out.2 (fun k hk _ e=>by omega)
   ·rw[HZ.out.1];exact cG HZ.out.2.2 (by omega) HF.out.2 (fun k hk _ e=>by omega)
 ·have hN1:Hid (bG N x0=N):=hIz (by
   rcases HK.out with ⟨i,-,h1,-⟩|⟨h1,-⟩
   ·rw[bG,if_pos (aQ.2 (mG h1))]
   ·omega)
  have hk0':¬k<0:=hk0;obtain⟨n1,hn1⟩:∃q,q=n:=⟨_,rfl⟩;have hn1b:n1≤n+1:=by omega
  have HN1:=aI2 (show(bG N x0).length=n1 by rw[hN1.out,HL.out.1,hn1]) (show x0∈bG N x0 from cO.2 (.inr rfl));have HR8:=hIz (show W7.ownsRow W5.heap.size 9 1 (.slice A6 n1 c6) n1 (aC (bG N x0))∧Below W5.heap.size W5 W7 from⟨by rw[hN1.out,hn1];exact HR7.out.1,HR7.out.2⟩);have HB8:=HB7;go_upto_region 15 with (fail);rw[← hn1];clear hn1;obtain⟨W8,hW8⟩:∃q,q=W7:=⟨_,rfl⟩;rw[← hW8] at HR8 HB8 ⊢;clear hW8;obtain⟨A8,hA8⟩:∃q,q=A6:=⟨_,rfl⟩;obtain⟨c8,hc8⟩:∃q,q=c6:=⟨_,rfl⟩;rw[← hA8,← hc8] at HR8 ⊢;clear hA8 hc8;have HW8:=hIz (ST.out W8 HB8.out);obtain⟨q0,q1,q2⟩:=GT.out W8 HB8.out;obtain⟨e0,e1,e2⟩:=XT.out W8 HB8.out;have hnum:=dD W8 true A c N (HH.out.1.rn.below HW8.out.2.2) (by rw[HL.out.1];omega) (.slice B m d) x2;rw[HL.out.1] at hnum;go_wp2_with fail;refine hnum.mono ?_;clear hnum q0 q1 q2 e0 e1 e2;rintro e W9 ⟨k2,rfl,hk2,b9⟩;have HK2:=hIz hk2;have HB9:=hIz (tHn HB8.out b9);have HR9:=aI2 (cG HR8.out.1 (Nat.le_refl _) (upF b9) (fun _ _ _=>id)) (tHn HR8.out.2 b9);clear b9 hk2;obtain⟨e0,e1,e2⟩:=XT.out W9 HB9.out;by_cases hk20:k2<0
  ·by_cases hx20:x2=x0
   ·have hq:(x2.toList==x0.toList)=true:=by rw[txt_beq];exact decide_eq_true hx20
    have HN2:=hIz (show bG (bG N x0) x2=bG N x0 by rw[bG,if_pos (aQ.2 (by rw[hx20];exact HN1.out.2))]);clear hx20;go_upto_region 17 with (fail);clear hq e0 e1 e2;have HWV:=hIz (ST.out W9 HB9.out);have b3V:Below W3.heap.size W3 W9:=tHn HB4.out HR9.out.2;have hso:=dB (m+1) W9 B4 d4 (E++[⟨x0,x1,x2⟩]) (by rw[List.length_append,List.length_singleton,HL.out.2];exact Nat.le_refl _) (HR2.out.2.2.2.below b3V) (by rw[List.length_append,List.length_singleton,HL.out.2];exact HR2.out.2.2.1) (by rw[List.length_append,List.length_singleton,HL.out.2];omega);rw[List.length_append,List.length_singleton,HL.out.2] at hso;clear b3V;go_wp2_with fail;refine hso.mono ?_;clear hso;rintro e WZ ⟨vz,rfl,oz,bz⟩;obtain⟨BZ,dZ,rfl,-,-⟩:=bS oz;obtain⟨l9,hl9⟩:∃q,(aR ltE (E++[⟨x0,x1,x2⟩])).length=q:=⟨_,rfl⟩;rw[hl9] at oz ⊢;have HZ:=aI3 hl9 (cG HR9.out.1 (Nat.le_refl _) (upF bz) (fun _ _ _=>id)) oz;have HWZ:=hIz (ST.out WZ (tHn HB9.out bz));have hwV:w.heap.size+1+1<W9.heap.size:=HWV.out.2.1.lt;have hwZ:w.heap.size+1+1<W5.heap.size:=HW5.out.2.1.lt;clear hl9 oz bz;have q0:WZ.cell? ⟨w.heap.size,0,none⟩=some (.bool true):=HWZ.out.1.cell 0;have q1:WZ.cell? ⟨w.heap.size,1,none⟩=some (.slice A n c):=HWZ.out.1.cell 1;have q2:WZ.cell? ⟨w.heap.size,2,none⟩=some (.slice B m d):=HWZ.out.1.cell 2;have s0:WZ.cell? ⟨w.heap.size+1+1,0,none⟩=some (.bool false):=HWZ.out.2.1.cell 0;have s1:WZ.cell? ⟨w.heap.size+1+1,1,none⟩=some (.slice none 0 0):=HWZ.out.2.1.cell 1;have s2:WZ.cell? ⟨w.heap.size+1+1,2,none⟩=some (.slice none 0 0):=HWZ.out.2.1.cell 2
    have g0:=HWZ.out.2.1.frozen 0;have g1:=HWZ.out.2.1.frozen 1;have g2:=HWZ.out.2.1.frozen 2;have HF:=aI2 (aW HWZ.out.2.1 (.bool true) (.slice A8 n1 c8) (.slice BZ l9 dZ)) (aX WZ (w.heap.size+1+1) (.bool true) (.slice A8 n1 c8) (.slice BZ l9 dZ));go_wp2;clear q0 q1 q2 s0 s1 s2 g0 g1 g2;generalize ((WZ.setCell ⟨w.heap.size+1+1,0,none⟩ (.bool true)).setCell ⟨w.heap.size+1+1,1,none⟩ (.slice A8 n1 c8)).setCell ⟨w.heap.size+1+1,2,none⟩ (.slice BZ l9 dZ)=VF at HF ⊢;have y0:VF.cell? ⟨w.heap.size+1+1,0,none⟩=some (.bool true):=HF.out.1.cell 0;have y1:VF.cell? ⟨w.heap.size+1+1,1,none⟩=some (.slice A8 n1 c8):=HF.out.1.cell 1;have y2:VF.cell? ⟨w.heap.size+1+1,2,none⟩=some (.slice BZ l9 dZ):=HF.out.1.cell 2;have bF:Below w.heap.size w VF:=HWZ.out.2.2.trans (HF.out.2.below (fun q _ e=>by omega) HWZ.out.2.2.size);refine bodyPost_ret (v:=.tuple #[.agg #[(.bool true),(.slice A8 n1 c8),(.slice BZ l9 dZ)],.bool true,.int .i64 0]) (by simp[results,Tryz.f53,go_sem,y0,y1,y2]) rfl ?_;rw[← HPP.out];refine⟨bF,0,.inr ⟨rfl,FIN.out,A8,c8,BZ,dZ,by dsimp only;rw[rgV,HZ.out.1,HN2.out,HN1.out.1],?_,?_⟩⟩
    ·dsimp only
     rw[HN2.out,HN1.out.1];exact cG HZ.out.2.1 (by omega) HF.out.2 (fun k hk _ e=>by omega)
    ·rw[HZ.out.1];exact cG HZ.out.2.2 (by omega) HF.out.2 (fun k hk _ e=>by omega)
   ·have hq:(x2.toList==x0.toList)=false:=by rw[txt_beq];exact decide_eq_false hx20
    have HN2:=hIz (show bG (bG N x0) x2=bG N x0++[x2] by
     rw[bG,if_neg (fun e=>?_)];rcases cO.1 (aQ.1 e) with h|h
     ·rcases HK2.out with ⟨i,h1,-,-⟩|⟨-,h1⟩
      ·omega
      ·exact h1 h
     ·exact hx20 h)
    clear hx20;obtain⟨v',WA,happ,rA,up,-⟩:=dU W9 W5.heap.size (.slice A8 n1 c8) (bG N x0) (by rw[HN1.out.1];exact HR9.out.1) x2 (by rw[HN1.out.1];omega) HR9.out.2.size;obtain⟨AA,cA,rfl,-,-⟩:=bS rA;have bA:Below W5.heap.size W5 WA:=HR9.out.2.trans (up.below (fun q _ hq=>(HR9.out.1.lt q hq).1) HR9.out.2.size);rw[← HN2.out] at rA happ;obtain⟨n2,hn2⟩:∃q,(bG (bG N x0) x2).length=q:=⟨_,rfl⟩;rw[hn2] at rA happ;have HRA:=aI3 rA bA hn2;have HBA:=hIz (tHn HB5.out bA);clear rA bA up hn2;go_upto_region 17 with (at_builtin;refine wpList_append_run rfl _ _ _ rfl rfl rfl happ ?_);clear happ hq e0 e1 e2;have HWV:=hIz (ST.out WA HBA.out);have b3V:Below W3.heap.size W3 WA:=tHn HB4.out HRA.out.2.1;have hso:=dB (m+1) WA B4 d4 (E++[⟨x0,x1,x2⟩]) (by rw[List.length_append,List.length_singleton,HL.out.2];exact Nat.le_refl _) (HR2.out.2.2.2.below b3V) (by rw[List.length_append,List.length_singleton,HL.out.2];exact HR2.out.2.2.1) (by rw[List.length_append,List.length_singleton,HL.out.2];omega);rw[List.length_append,List.length_singleton,HL.out.2] at hso;clear b3V;go_wp2_with fail;refine hso.mono ?_;clear hso;rintro e WZ ⟨vz,rfl,oz,bz⟩;obtain⟨BZ,dZ,rfl,-,-⟩:=bS oz;obtain⟨l9,hl9⟩:∃q,(aR ltE (E++[⟨x0,x1,x2⟩])).length=q:=⟨_,rfl⟩;rw[hl9] at oz ⊢;have HZ:=aI3 hl9 (cG HRA.out.1 (Nat.le_refl _) (upF bz) (fun _ _ _=>id)) oz;have HWZ:=hIz (ST.out WZ (tHn HBA.out bz));have hwV:w.heap.size+1+1<WA.heap.size:=HWV.out.2.1.lt;have hwZ:w.heap.size+1+1<W5.heap.size:=HW5.out.2.1.lt;clear hl9 oz bz;have q0:WZ.cell? ⟨w.heap.size,0,none⟩=some (.bool true):=HWZ.out.1.cell 0
    have q1:WZ.cell? ⟨w.heap.size,1,none⟩=some (.slice A n c):=HWZ.out.1.cell 1;have q2:WZ.cell? ⟨w.heap.size,2,none⟩=some (.slice B m d):=HWZ.out.1.cell 2;have s0:WZ.cell? ⟨w.heap.size+1+1,0,none⟩=some (.bool false):=HWZ.out.2.1.cell 0;have s1:WZ.cell? ⟨w.heap.size+1+1,1,none⟩=some (.slice none 0 0):=HWZ.out.2.1.cell 1;have s2:WZ.cell? ⟨w.heap.size+1+1,2,none⟩=some (.slice none 0 0):=HWZ.out.2.1.cell 2;have g0:=HWZ.out.2.1.frozen 0;have g1:=HWZ.out.2.1.frozen 1;have g2:=HWZ.out.2.1.frozen 2;have HF:=aI2 (aW HWZ.out.2.1 (.bool true) (.slice AA n2 cA) (.slice BZ l9 dZ)) (aX WZ (w.heap.size+1+1) (.bool true) (.slice AA n2 cA) (.slice BZ l9 dZ));go_wp2;clear q0 q1 q2 s0 s1 s2 g0 g1 g2;generalize ((WZ.setCell ⟨w.heap.size+1+1,0,none⟩ (.bool true)).setCell ⟨w.heap.size+1+1,1,none⟩ (.slice AA n2 cA)).setCell ⟨w.heap.size+1+1,2,none⟩ (.slice BZ l9 dZ)=VF at HF ⊢;have y0:VF.cell? ⟨w.heap.size+1+1,0,none⟩=some (.bool true):=HF.out.1.cell 0;have y1:VF.cell? ⟨w.heap.size+1+1,1,none⟩=some (.slice AA n2 cA):=HF.out.1.cell 1;have y2:VF.cell? ⟨w.heap.size+1+1,2,none⟩=some (.slice BZ l9 dZ):=HF.out.1.cell 2;have bF:Below w.heap.size w VF:=HWZ.out.2.2.trans (HF.out.2.below (fun q _ e=>by omega) HWZ.out.2.2.size);refine bodyPost_ret (v:=.tuple #[.agg #[(.bool true),(.slice AA n2 cA),(.slice BZ l9 dZ)],.bool true,.int .i64 0]) (by simp[results,Tryz.f53,go_sem,y0,y1,y2]) rfl ?_;rw[← HPP.out];refine⟨bF,0,.inr ⟨rfl,FIN.out,AA,cA,BZ,dZ,by dsimp only;rw[rgV,HZ.out.1,HRA.out.2.2],?_,?_⟩⟩
    ·dsimp only
     rw[HRA.out.2.2];exact cG HZ.out.2.1 (by omega) HF.out.2 (fun k hk _ e=>by omega)
    ·rw[HZ.out.1];exact cG HZ.out.2.2 (by omega) HF.out.2 (fun k hk _ e=>by omega)
  ·have HN2:=hIz (show bG (bG N x0) x2=bG N x0 by
    rw[bG,if_pos (aQ.2 (cO.2 (.inl ?_)))];rcases HK2.out with ⟨i,-,h1,-⟩|⟨h1,-⟩
    ·exact mG h1
    ·omega)
   go_upto_region 17 with (fail);clear e0 e1 e2;have HWV:=hIz (ST.out W9 HB9.out);have b3V:Below W3.heap.size W3 W9:=tHn HB4.out HR9.out.2;have hso:=dB (m+1) W9 B4 d4 (E++[⟨x0,x1,x2⟩]) (by rw[List.length_append,List.length_singleton,HL.out.2];exact Nat.le_refl _) (HR2.out.2.2.2.below b3V) (by rw[List.length_append,List.length_singleton,HL.out.2];exact HR2.out.2.2.1) (by rw[List.length_append,List.length_singleton,HL.out.2];omega);rw[List.length_append,List.length_singleton,HL.out.2] at hso;clear b3V;go_wp2_with fail;refine hso.mono ?_;clear hso;rintro e WZ ⟨vz,rfl,oz,bz⟩;obtain⟨BZ,dZ,rfl,-,-⟩:=bS oz;obtain⟨l9,hl9⟩:∃q,(aR ltE (E++[⟨x0,x1,x2⟩])).length=q:=⟨_,rfl⟩;rw[hl9] at oz ⊢;have HZ:=aI3 hl9 (cG HR9.out.1 (Nat.le_refl _) (upF bz) (fun _ _ _=>id)) oz;have HWZ:=hIz (ST.out WZ (tHn HB9.out bz));have hwV:w.heap.size+1+1<W9.heap.size:=HWV.out.2.1.lt;have hwZ:w.heap.size+1+1<W5.heap.size:=HW5.out.2.1.lt;clear hl9 oz bz;have q0:WZ.cell? ⟨w.heap.size,0,none⟩=some (.bool true):=HWZ.out.1.cell 0;have q1:WZ.cell? ⟨w.heap.size,1,none⟩=some (.slice A n c):=HWZ.out.1.cell 1;have q2:WZ.cell? ⟨w.heap.size,2,none⟩=some (.slice B m d):=HWZ.out.1.cell 2;have s0:WZ.cell? ⟨w.heap.size+1+1,0,none⟩=some (.bool false):=HWZ.out.2.1.cell 0;have s1:WZ.cell? ⟨w.heap.size+1+1,1,none⟩=some (.slice none 0 0):=HWZ.out.2.1.cell 1;have s2:WZ.cell? ⟨w.heap.size+1+1,2,none⟩=some (.slice none 0 0):=HWZ.out.2.1.cell 2;have g0:=HWZ.out.2.1.frozen 0;have g1:=HWZ.out.2.1.frozen 1;have g2:=HWZ.out.2.1.frozen 2;have HF:=aI2 (aW HWZ.out.2.1 (.bool true) (.slice A8 n1 c8) (.slice BZ l9 dZ)) (aX WZ (w.heap.size+1+1) (.bool true) (.slice A8 n1 c8) (.slice BZ l9 dZ))
   go_wp2;clear q0 q1 q2 s0 s1 s2 g0 g1 g2;generalize ((WZ.setCell ⟨w.heap.size+1+1,0,none⟩ (.bool true)).setCell ⟨w.heap.size+1+1,1,none⟩ (.slice A8 n1 c8)).setCell ⟨w.heap.size+1+1,2,none⟩ (.slice BZ l9 dZ)=VF at HF ⊢;have y0:VF.cell? ⟨w.heap.size+1+1,0,none⟩=some (.bool true):=HF.out.1.cell 0;have y1:VF.cell? ⟨w.heap.size+1+1,1,none⟩=some (.slice A8 n1 c8):=HF.out.1.cell 1;have y2:VF.cell? ⟨w.heap.size+1+1,2,none⟩=some (.slice BZ l9 dZ):=HF.out.1.cell 2;have bF:Below w.heap.size w VF:=HWZ.out.2.2.trans (HF.out.2.below (fun q _ e=>by omega) HWZ.out.2.2.size);refine bodyPost_ret (v:=.tuple #[.agg #[(.bool true),(.slice A8 n1 c8),(.slice BZ l9 dZ)],.bool true,.int .i64 0]) (by simp[results,Tryz.f53,go_sem,y0,y1,y2]) rfl ?_;rw[← HPP.out];refine⟨bF,0,.inr ⟨rfl,FIN.out,A8,c8,BZ,dZ,by dsimp only;rw[rgV,HZ.out.1,HN2.out,HN1.out.1],?_,?_⟩⟩
   ·dsimp only
    rw[HN2.out,HN1.out.1];exact cG HZ.out.2.1 (by omega) HF.out.2 (fun k hk _ e=>by omega)
   ·rw[HZ.out.1];exact cG HZ.out.2.2 (by omega) HF.out.2 (fun k hk _ e=>by omega)
end
open Go.RowKit
section
set_option maxRecDepth 100000
set_option maxHeartbeats 4000000
theorem DH(w:World)(base:Nat)(v:Value)(L:List Hp)(own:w.ownsRow base 103 2 v L.length (aK L))(x:Hp)(hl:(L.length+1)*24≤140737488355328)(hb:base≤w.heap.size) :
  ∃v' w',(Builtin.append_ #[99,99] 99 #[v,.slice (some ⟨w.heap.size,0,none⟩) 1 1]).run Tryz.prog (w.alloc (.cells #[.string x.lb,.int .i64 x.nd] 103))=.ok v' w'∧w'.ownsRow base 103 2 v' (L++[x]).length (aK (L++[x]))∧Upd (fun k=>v.ownBlock=some k) w w':=by
 obtain⟨v',w',happ,own',up,pl⟩:=eV w base 99 103 2 24 _ Tryz.underlying99 iS rfl (by decide) v L.length _ own [.string x.lb,.int .i64 x.nd] 1 rfl (by simp;exact⟨rfl,rfl⟩) hl (by unfold maxLen;omega) hb;refine⟨v',w',happ,?_,up⟩;rw[List.length_append,aK,List.flatMap_append];exact own'
def tZ(out:Bool)(s lb t:Txt):Ed:=if out then ⟨s,lb,t⟩ else ⟨t,lb,s⟩
def oO(N:List Txt)(E:List Ed)(s:Txt)(out:Bool)(lb:Txt)(j:Nat):List Hp:=
 match N[j]? with
 | some t=>if tZ out s lb t∈E then [⟨lb,(j:Int)⟩] else []
 | none=>[]
def cJ(N:List Txt)(E:List Ed)(s:Txt)(out:Bool)(lb:Txt)(k:Nat):List Hp:=(List.range k).flatMap (oO N E s out lb)
def bW(N:List Txt)(E:List Ed)(s:Txt)(out:Bool)(labs:List Txt):List Hp:=labs.flatMap fun lb=>cJ N E s out lb N.length
theorem eU(N:List Txt)(E:List Ed)(s:Txt)(out:Bool)(lb:Txt)(k:Nat):cJ N E s out lb (k+1)=cJ N E s out lb k++oO N E s out lb k:=by
 unfold cJ;rw[List.range_succ,List.flatMap_append];simp
theorem oP(N:List Txt)(E:List Ed)(s:Txt)(out:Bool)(labs:List Txt){a:Nat}{lb:Txt}(h:labs[a]?=some lb):bW N E s out (labs.take (a+1))=bW N E s out (labs.take a)++cJ N E s out lb N.length:=by
 obtain⟨ha,rfl⟩:=gO.1 h;unfold bW;rw[List.take_add_one,List.flatMap_append,gEz ha];simp
theorem DI(N:List Txt)(E:List Ed)(s:Txt)(out:Bool)(lb:Txt)(j:Nat):(oO N E s out lb j).length≤1:=by
 unfold oO;split
 ·split <;> simp
 ·simp
theorem qB(N:List Txt)(E:List Ed)(s:Txt)(out:Bool)(lb:Txt)(k:Nat):(cJ N E s out lb k).length≤k:=by
 induction k with
 | zero=>simp[cJ]
 | succ k ih=>rw[eU,List.length_append];have:=DI N E s out lb k;omega
theorem lZ(N:List Txt)(E:List Ed)(s:Txt)(out:Bool)(labs:List Txt):(bW N E s out labs).length≤labs.length*N.length:=by
 induction labs with
 | nil=>simp[bW]
 | cons a l ih =>
  have:=qB N E s out a N.length;unfold bW at ih ⊢;rw[List.flatMap_cons,List.length_append,List.length_cons,Nat.succ_mul];omega
theorem DJ{p q t n:Nat}(h1:p≤t)(h2:q≤n)(h:(t+n+1)*24≤140737488355328):(p+q+1)*24≤140737488355328:=Nat.le_trans (Nat.mul_le_mul_right 24 (Nat.succ_le_succ (Nat.add_le_add h1 h2))) h
theorem DK{N:List Txt}{E:List Ed}{s:Txt}{out:Bool}{LB:List Txt}{lb:Txt}{a k n l:Nat}(hn:N.length=n)(hl:LB.length=l)(hk:k≤n)(h:(l*n+n+1)*24≤140737488355328):((bW N E s out (LB.take a)++cJ N E s out lb k).length+1)*24≤140737488355328:=by
 have h1:=lZ N E s out (LB.take a);have h2:=qB N E s out lb k;rw[List.length_take,hn,hl] at h1;rw[List.length_append];exact DJ (Nat.le_trans h1 (Nat.mul_le_mul_right _ (Nat.min_le_right a l))) (Nat.le_trans h2 hk) h
end
open Go.RowKit
theorem DL(w:World)(O:Nat→Option QRo)(p side dep cnt m:Nat)(r:List Nat)(pv lv:Value)(h:QuI w O p side dep cnt m 1 [r] pv lv)(hr:Wd r)(hm:m≤4)(g1 g3 g4:Nat)(k1:∃ty,Blk w g1 ty #[.pointer (some ⟨p,0,none⟩)])(k3:∃ty,Blk w g3 ty #[.slice none 0 0])
  (k4:∃ty,Blk w g4 ty #[.func (.func 156) #[] #[.pointer (some ⟨g1,0,none⟩),.pointer (some ⟨g3,0,none⟩),.pointer (some ⟨g4,0,none⟩)]]) (l k:Nat) (hk:k+(l+1)=m) (IH:Calls Tryz.prog 156 #[.int .i64 ((k+1:Nat):Int),.int .i64 (l:Int),.int .i64 0,.int .i64 0,.pointer (some ⟨g1,0,none⟩),.pointer (some ⟨g3,0,none⟩),.pointer (some ⟨g4,0,none⟩)] w (fun e w'=>e=.returned (.tuple #[])∧lY w g3 r w')) :
  Calls Tryz.prog 156 #[.int .i64 (k:Int),.int .i64 ((l+1:Nat):Int),.int .i64 0,.int .i64 0,.pointer (some ⟨g1,0,none⟩),.pointer (some ⟨g3,0,none⟩),.pointer (some ⟨g4,0,none⟩)] w (fun e w'=>e=.returned (.tuple #[])∧lY w g3 r w'):=by
 obtain⟨pg,pc,e,-,-,-,-,-⟩:=bC h.rp (by omega);subst e;have c1:w.cell? ⟨g1,0,none⟩=some (.pointer (some ⟨p,0,none⟩)):=by obtain⟨ty,k⟩:=k1;exact k.cell 0
 have c4:w.cell? ⟨g4,0,none⟩=some (.func (.func 156) #[] #[.pointer (some ⟨g1,0,none⟩),.pointer (some ⟨g3,0,none⟩),.pointer (some ⟨g4,0,none⟩)]):=by obtain⟨ty,k⟩:=k4;exact k.cell 0
 obtain⟨n,hn⟩:∃n,m+1=n:=⟨_,rfl⟩;have q3:w.cell? ⟨p,3,none⟩=some (.slice (some ⟨pg,0,none⟩) n pc):=by rw[← hn];exact h.blk.cell 3
 have hkn:(k:Int)<(n:Int):=by omega
 have hrg:w.rangeAt pg (k*4) (gR ((k:Int)+2)):=lX (k:=k) h (fun j u hu=>by
  have hj:j<4:=by have:=(gO.1 hu).1;simpa[gR] using this
  have hq:qsC m 1=((List.range m).flatMap fun (i:Nat)=>gR ((i:Int)+2))++gR 1:=rfl;have hlen:((List.range m).flatMap fun (i:Nat)=>gR ((i:Int)+2)).length=m*4:=by
   have:=vX m 1;rw[hq,List.length_append] at this;simp only[gR,List.length_cons,List.length_nil] at this ⊢
   omega
  rw[hq,List.getElem?_append_left (by omega),dR (fun (i:Nat)=>gR ((i:Int)+2)) 4 (fun _=>rfl) (List.range m) k j k (by rw[List.getElem?_range (by omega)]) hj];exact hu)
 have hsz:(Tryz.prog.info? 225).map (·.size)=some (gR ((k:Int)+2)).length:=by kernel_rfl
 clear h k1 k3 k4 hn;have hw1:IntKind.i64.wrap ((k:Int)+2-1)=((k+1:Nat):Int):=by rw[IntKind.wrap_i64];omega
 have hw2:IntKind.i64.wrap (((l+1:Nat):Int)-1)=(l:Int):=by rw[IntKind.wrap_i64];omega
 have z1:((k:Int)+2==0)=false:=by simp;omega
 have z2:(((l+1:Nat):Int)==0)=false:=by simp;omega
 go_enter Tryz.func156,Tryz.ntmps156;generalize ((l+1:Nat):Int)=lI at hw2 z2 ⊢;generalize hx:(k:Int)+2=xI at hw1 z1 hrg hsz ⊢;have HX:=hIz (rT xI);clear hx;go_wp2_with (first | (refine wpList_load_mid rfl 225 _ rfl pg (k*4) rfl (gR xI) (.array 4 3) hrg Tryz.underlying225 rfl hsz ?_) | fail);clear c1 q3 hrg hsz;generalize (gR xI).toArray=arr at HX ⊢;go_loopw [22] (fun a wr=>∃j:Nat,j≤4∧a=.int .i64 (j:Int)∧Hid (j=0∧wr=w∨0<j∧lY w g3 r wr)) (fun a _=>(4-intOf a).toNat)
 case atStart=>exact⟨0,by omega,rfl,hIz (.inl ⟨rfl,rfl⟩)⟩
 case round =>
  obtain⟨j,hj,rfl,hq⟩:=hrel;by_cases hlt:j<4
  ·by_cases h0:j=0
   ·subst h0;obtain rfl:wr=w:=by rcases hq.out with ⟨-,e⟩|⟨e,-⟩ <;> first|exact e|omega
    clear hq hlt;have hix:(Instr.index 225 (.agg arr) (.int .i64 0)).run Tryz.prog wr=.ok (.int .i64 xI) wr:=HX.out wr 0 (by decide);have b1:bits .or .i64 0 0=0:=by decide
    have b2:bits .and .i64 0 1=0:=by decide
    go_wp2_with fail;refine IH.mono ?_;clear IH;rintro e W1 ⟨rfl,D⟩;have FIN:=hIz D;clear D;go_wp2;go_roundw
    case rel=>exact⟨1,by omega,by go_num,hIz (.inr ⟨by omega,FIN.out⟩)⟩
    case measure=>simp[intOf] <;> omega
   ·have hix:(Instr.index 225 (.agg arr) (.int .i64 (j:Int))).run Tryz.prog wr=.ok (.int .i64 0) wr:=by have:=HX.out wr j hlt;rwa [if_neg h0] at this
    have hltI:(j:Int)<(4:Int):=by omega
    have hkw:IntKind.i64.wrap ((j:Int)+1)=(j:Int)+1:=IntWalk.i64_in _ (by omega);have hge:(0:Int)≤(j:Int):=by omega
    have hD:=hIz (show 0<j+1∧lY w g3 r wr from by rcases hq.out with ⟨e,-⟩ | ⟨-,e⟩;exact absurd e h0;exact⟨by omega,e⟩);clear hq;go_wp2;go_roundw
    case rel=>exact⟨j+1,by omega,by go_num,hIz (.inr hD.out)⟩
    case measure=>simp[intOf] <;> omega
  ·obtain rfl:j=4:=by omega
   have FIN:=hIz (show lY w g3 r wr by rcases hq.out with ⟨e,-⟩ | ⟨-,e⟩;exact absurd e (by decide);exact e);clear hq;go_wp2;(try simp only[Exit.inBlock,Exit.then])
   exact bodyPost_end (results_none rfl _ _ _) rfl ⟨rfl,FIN.out⟩
theorem uA(w:World)(O:Nat→Option QRo)(p side dep cnt m:Nat)(r:List Nat)(pv lv:Value)(h:QuI w O p side dep cnt m 1 [r] pv lv)(hr:Wd r)(hm:m≤4)(g1 g3 g4:Nat)(k1:∃ty,Blk w g1 ty #[.pointer (some ⟨p,0,none⟩)])(k3:∃ty,Blk w g3 ty #[.slice none 0 0])
  (k4:∃ty,Blk w g4 ty #[.func (.func 156) #[] #[.pointer (some ⟨g1,0,none⟩),.pointer (some ⟨g3,0,none⟩),.pointer (some ⟨g4,0,none⟩)]]):∀(l k:Nat),k+l=m →
  Calls Tryz.prog 156 #[.int .i64 (k:Int),.int .i64 (l:Int),.int .i64 0,.int .i64 0,.pointer (some ⟨g1,0,none⟩),.pointer (some ⟨g3,0,none⟩),.pointer (some ⟨g4,0,none⟩)] w (fun e w'=>e=.returned (.tuple #[])∧lY w g3 r w')
 | 0,k,hk=>by
  obtain rfl:k=m:=by omega
  exact DD w O p side dep cnt k r pv lv h hr hm g1 g3 g4 k1 k3
 | l+1,k,hk=>DL w O p side dep cnt m r pv lv h hr hm g1 g3 g4 k1 k3 k4 l k hk (uA w O p side dep cnt m r pv lv h hr hm g1 g3 g4 k1 k3 k4 l (k+1) (by omega))
open Go.RowKit
def OJ(w:World)(b:Option (List Nat))(e:Ending)(w':World):Prop:=
 Below w.heap.size w w'∧match b with
 | none=>e=.returned (.slice none 0 0)
 | some r=>∃A c,e=.returned (.slice A 1 c)∧w'.ownsRow 0 196 66 (.slice A 1 c) 1 (plC r)∧∀k,(Value.slice A 1 c).ownBlock=some k→w.heap.size≤k
theorem iO{w V W:World}{g:Nat}(hb:Below w.heap.size w V)(hu:Upd (fun k=>k=g) V W)(hg:w.heap.size≤g):Below w.heap.size w W:=
 hb.trans (show Below w.heap.size V W from⟨hu.os,hu.tape,hu.output,hu.size,fun k hk=>hu.block k (Nat.lt_of_lt_of_le hk hb.size) (fun e=>by omega)⟩)
abbrev qC (g1 g3 g4:Nat):Value:=.func (.func 156) #[] #[.pointer (some ⟨g1,0,none⟩),.pointer (some ⟨g3,0,none⟩),.pointer (some ⟨g4,0,none⟩)]
theorem qD(w:World)(p:Nat):let V:=(((w.alloc (.cells #[.pointer (some ⟨p,0,none⟩)] 121)).alloc (.cells #[.slice none 0 0] 192)).alloc (.cells #[.nilFunc] 227))
  Blk V w.heap.size 121 #[.pointer (some ⟨p,0,none⟩)]∧Blk V (w.heap.size+1) 192 #[.slice none 0 0]∧Blk V (w.heap.size+1+1) 227 #[.nilFunc]∧Below w.heap.size w V:=by
 intro V;have k1:=Blk.new w 121 #[.pointer (some ⟨p,0,none⟩)];have k2:=Blk.new (w.alloc (.cells #[.pointer (some ⟨p,0,none⟩)] 121)) 192 #[.slice none 0 0];have k3:=Blk.new ((w.alloc (.cells #[.pointer (some ⟨p,0,none⟩)] 121)).alloc (.cells #[.slice none 0 0] 192)) 227 #[.nilFunc];simp only[World.size_alloc] at k2 k3
 refine⟨(k1.upd ((Upd.refl (fun _=>False) _).alloc _) (fun h=>h)).upd ((Upd.refl (fun _=>False) _).alloc _) (fun h=>h),k2.upd ((Upd.refl (fun _=>False) _).alloc _) (fun h=>h),k3,?_⟩;exact((bR.alloc (Nat.le_refl _) _).alloc (by simp) _).alloc (by simp;omega) _
theorem DM(w:World)(O:Nat→Option QRo)(p side dep cnt m:Nat)(r:List Nat)(pv lv:Value)(h:QuI w O p side dep cnt m 1 [r] pv lv)(hr:Wd r)(hs:1≤side)(hd:m+1=dep)(hd4:dep≤4) :
  Calls Tryz.prog 119 #[.pointer (some ⟨p,0,none⟩)] w (OJ w (some r)):=by
 have q0:((w.alloc (.cells #[.pointer (some ⟨p,0,none⟩)] 121)).alloc (.cells #[.slice none 0 0] 192)).cell? ⟨p,0,none⟩=some (.int .i64 (side:Int)):=(h.blk.upd (((Upd.refl (fun _=>False) w).alloc _).alloc _) (fun h=>h)).cell 0;have hcon:=lV _ p side hs q0;clear q0;have H:=hIz h;have HA:=hIz (qD w p);obtain⟨g,hg⟩:∃g,w.heap.size=g:=⟨_,rfl⟩;clear h;go_enter Tryz.func119,Tryz.ntmps119;go_wp2_with fail;refine hcon.mono ?_;clear hcon;rintro e w' ⟨rfl,hw⟩;subst w';go_upto_region 5 with (fail);obtain⟨k1,k3,k4,hb⟩:=HA.out;generalize (((w.alloc (.cells #[.pointer (some ⟨p,0,none⟩)] 121)).alloc (.cells #[.slice none 0 0] 192)).alloc (.cells #[.nilFunc] 227))=V at k1 k3 k4 hb ⊢;rw[hg] at k1 k3 k4;have q4:V.cell? ⟨g+1+1,0,none⟩=some .nilFunc:=k4.cell 0;have f4:V.frozen? ⟨g+1+1,0,none⟩=false:=k4.frozen 0;have us:=(Upd.refl (fun k=>k=g+1+1) V).setCell (p:=⟨g+1+1,0,none⟩) (.inl rfl) (qC g (g+1) (g+1+1));have HV:=hIz (show Blk (V.setCell ⟨g+1+1,0,none⟩ (qC g (g+1) (g+1+1))) g 121 #[.pointer (some ⟨p,0,none⟩)]∧Blk (V.setCell ⟨g+1+1,0,none⟩ (qC g (g+1) (g+1+1))) (g+1) 192 #[.slice none 0 0]∧Blk (V.setCell ⟨g+1+1,0,none⟩ (qC g (g+1) (g+1+1))) (g+1+1) 227 #[qC g (g+1) (g+1+1)]∧Below w.heap.size w (V.setCell ⟨g+1+1,0,none⟩ (qC g (g+1) (g+1+1))) from
  ⟨k1.upd us (by omega),k3.upd us (by omega),k4.set 0 _,iO hb us (by omega)⟩)
 clear k1 k3 k4 hb us;go_upto_region 6 with (fail);generalize V.setCell ⟨g+1+1,0,none⟩ (qC g (g+1) (g+1+1))=V1 at HV ⊢;clear q4 f4;have SR:=hIz (show ∀W,Below V1.heap.size V1 W→Blk W g 121 #[.pointer (some ⟨p,0,none⟩)]∧Blk W (g+1) 192 #[.slice none 0 0]∧Blk W (g+1+1) 227 #[qC g (g+1) (g+1+1)]∧Below w.heap.size w W∧QuI W O p side dep cnt m 1 [r] pv lv from fun W hb=>by
  obtain⟨k1,k3,k4,b⟩:=HV.out;have hu:=Upd.of_below hb (fun _=>False);have hbw:=tHn b hb;exact⟨k1.upd hu (fun h=>h),k3.upd hu (fun h=>h),k4.upd hu (fun h=>h),hbw,H.out.upd (upF hbw) (fun _ _=>id)⟩)
 obtain⟨j1,j3,j4,bw,hi⟩:=SR.out V1.drew bR.drew;have hS:V1.drew.cell? ⟨g+1+1,0,none⟩=some (qC g (g+1) (g+1+1))∧V1.drew.cell? ⟨g,0,none⟩=some (.pointer (some ⟨p,0,none⟩))∧V1.drew.cell? ⟨p,1,none⟩=some (.int .i64 (dep:Int)):=⟨j4.cell 0,j1.cell 0,hi.blk.cell 1⟩;have hw1:IntKind.i64.wrap ((dep:Int)-1)=(m:Int):=by rw[IntKind.wrap_i64];omega
 have hcon:Calls Tryz.prog 156 #[.int .i64 0,.int .i64 (m:Int),.int .i64 0,.int .i64 0,.pointer (some ⟨g,0,none⟩),.pointer (some ⟨g+1,0,none⟩),.pointer (some ⟨g+1+1,0,none⟩)] V1.drew (fun e w'=>e=.returned (.tuple #[])∧lY V1.drew (g+1) r w'):=uA V1.drew O p side dep cnt m r pv lv hi hr (by omega) g (g+1) (g+1+1) ⟨_,j1⟩ ⟨_,j3⟩ ⟨_,j4⟩ m 0 (by omega);have BW:=hIz bw;clear j1 j3 j4 bw hi;refine aE (fun W=>W.cell? ⟨g+1+1,0,none⟩=some (qC g (g+1) (g+1+1))∧W.cell? ⟨g,0,none⟩=some (.pointer (some ⟨p,0,none⟩))∧W.cell? ⟨p,1,none⟩=some (.int .i64 (dep:Int))) 6 [(0,true),(1,true),(2,true),(3,true),(4,true),(5,true),(6,false)] hS ?_;generalize V1.drew=V2 at hS hcon BW ⊢
 iterate 6 refine aB rfl ?_
 refine aN rfl rfl (fun K hK=>?_);go_simp;refine hcon.mono ?_;clear hcon;rintro e W3 ⟨rfl,D⟩;refine hK _ _ (fun h=>absurd rfl h) ?_;clear hK K hS;(try simp only[Act.put,gA,gS,gZ,sA,sZ,sS])
 refine aF ?_;obtain⟨A,c,d1,d2,d3,d4⟩:=D;have FIN:=hIz (show OJ w (some r) (.returned (.slice A 1 c)) W3 from⟨iO BW.out d3 (by omega),A,c,rfl,d2,fun k hk=>Nat.le_trans BW.out.size (d4 k hk)⟩);clear d2 d3 d4;have hso:=CX 1 (Nat.le_refl _) A c (.func (.func 158) #[] #[]) W3;go_wp2_with fail;refine hso.mono ?_;clear hso;rintro e w' ⟨⟨v,rfl⟩,hw⟩;subst w';go_wp2;go_ret;exact FIN.out
open Go.RowKit
theorem DO(w:World)(O:Nat→Option QRo)(p side dep cnt:Nat)(pv lv:Value)(h:QuI w O p side dep cnt 0 0 [] pv lv)(hs:1≤side)(hd1:1≤dep)(hd4:dep≤4) :
  Calls Tryz.prog 119 #[.pointer (some ⟨p,0,none⟩)] w (OJ w none):=by
 have q0:((w.alloc (.cells #[.pointer (some ⟨p,0,none⟩)] 121)).alloc (.cells #[.slice none 0 0] 192)).cell? ⟨p,0,none⟩=some (.int .i64 (side:Int)):=(h.blk.upd (((Upd.refl (fun _=>False) w).alloc _).alloc _) (fun h=>h)).cell 0;have hcon:=lV _ p side hs q0;clear q0;have H:=hIz h;have HA:=hIz (qD w p);obtain⟨g,hg⟩:∃g,w.heap.size=g:=⟨_,rfl⟩;clear h;go_enter Tryz.func119,Tryz.ntmps119;go_wp2_with fail;refine hcon.mono ?_;clear hcon;rintro e w' ⟨rfl,hw⟩;subst w';go_upto_region 5 with (fail);obtain⟨k1,k3,k4,hb⟩:=HA.out;generalize (((w.alloc (.cells #[.pointer (some ⟨p,0,none⟩)] 121)).alloc (.cells #[.slice none 0 0] 192)).alloc (.cells #[.nilFunc] 227))=V at k1 k3 k4 hb ⊢;rw[hg] at k1 k3 k4;have q4:V.cell? ⟨g+1+1,0,none⟩=some .nilFunc:=k4.cell 0;have f4:V.frozen? ⟨g+1+1,0,none⟩=false:=k4.frozen 0;have us:=(Upd.refl (fun k=>k=g+1+1) V).setCell (p:=⟨g+1+1,0,none⟩) (.inl rfl) (qC g (g+1) (g+1+1));have HV:=hIz (show Blk (V.setCell ⟨g+1+1,0,none⟩ (qC g (g+1) (g+1+1))) g 121 #[.pointer (some ⟨p,0,none⟩)]∧Blk (V.setCell ⟨g+1+1,0,none⟩ (qC g (g+1) (g+1+1))) (g+1) 192 #[.slice none 0 0]∧Blk (V.setCell ⟨g+1+1,0,none⟩ (qC g (g+1) (g+1+1))) (g+1+1) 227 #[qC g (g+1) (g+1+1)]∧Below w.heap.size w (V.setCell ⟨g+1+1,0,none⟩ (qC g (g+1) (g+1+1))) from
  ⟨k1.upd us (by omega),k3.upd us (by omega),k4.set 0 _,iO hb us (by omega)⟩)
 clear k1 k3 k4 hb us;go_upto_region 6 with (fail);generalize V.setCell ⟨g+1+1,0,none⟩ (qC g (g+1) (g+1+1))=V1 at HV ⊢;clear q4 f4;have SR:=hIz (show ∀W,Below V1.heap.size V1 W→Blk W g 121 #[.pointer (some ⟨p,0,none⟩)]∧Blk W (g+1) 192 #[.slice none 0 0]∧Blk W (g+1+1) 227 #[qC g (g+1) (g+1+1)]∧Below w.heap.size w W∧QuI W O p side dep cnt 0 0 [] pv lv from fun W hb=>by
  obtain⟨k1,k3,k4,b⟩:=HV.out;have hu:=Upd.of_below hb (fun _=>False);have hbw:=tHn b hb;exact⟨k1.upd hu (fun h=>h),k3.upd hu (fun h=>h),k4.upd hu (fun h=>h),hbw,H.out.upd (upF hbw) (fun _ _=>id)⟩)
 obtain⟨j1,j3,j4,bw,hi⟩:=SR.out V1.drew bR.drew;have hS:V1.drew.cell? ⟨g+1+1,0,none⟩=some (qC g (g+1) (g+1+1))∧V1.drew.cell? ⟨g,0,none⟩=some (.pointer (some ⟨p,0,none⟩))∧V1.drew.cell? ⟨p,1,none⟩=some (.int .i64 (dep:Int)):=⟨j4.cell 0,j1.cell 0,hi.blk.cell 1⟩;have hw1:IntKind.i64.wrap ((dep:Int)-1)=(dep:Int)-1:=by rw[IntKind.wrap_i64];omega
 have hcon:=CZ V1.drew O p side dep cnt pv lv hi ((dep:Int)-1) g (g+1) (g+1+1) (j1.cell 0);have h3:V1.drew.cell? ⟨g+1,0,none⟩=some (.slice none 0 0):=j3.cell 0;have BW:=hIz bw;clear j1 j3 j4 bw hi;refine aE (fun W=>W.cell? ⟨g+1+1,0,none⟩=some (qC g (g+1) (g+1+1))∧W.cell? ⟨g,0,none⟩=some (.pointer (some ⟨p,0,none⟩))∧W.cell? ⟨p,1,none⟩=some (.int .i64 (dep:Int))) 6 [(0,true),(1,true),(2,true),(3,true),(4,true),(5,true),(6,false)] hS ?_;generalize V1.drew=V2 at hS hcon h3 BW ⊢
 iterate 6 refine aB rfl ?_
 refine aN rfl rfl (fun K hK=>?_);go_simp;refine hcon.mono ?_;clear hcon;rintro e W3 ⟨rfl,hw⟩;subst W3;refine hK _ _ (fun h=>absurd rfl h) ?_;clear hK K hS;(try simp only[Act.put,gA,gS,gZ,sA,sZ,sS])
 refine aF ?_;have FIN:=hIz (show OJ w none (.returned (.slice none 0 0)) V2 from⟨BW.out,rfl⟩);have hso:=CX 0 (Nat.zero_le _) none 0 (.func (.func 158) #[] #[]) V2;go_wp2_with fail;refine hso.mono ?_;clear hso;rintro e w' ⟨⟨v,rfl⟩,hw⟩;subst w';go_wp2;go_ret;exact FIN.out
theorem IN(w:World)(F:Nat→Prop)(p side:Nat)(b:Option (List Nat))(h:QuS w F p side b):Calls Tryz.prog 119 #[.pointer (some ⟨p,0,none⟩)] w (OJ w b):=by
 obtain⟨O,dep,cnt,m,last,L,pv,lv,hq,ok,-⟩:=h;cases b with
 | none =>
  obtain⟨rfl,rfl,rfl,rfl⟩:=ok.no rfl;exact DO w O p side dep 0 pv lv hq ok.s1 ok.d1 ok.d2
 | some r =>
  obtain⟨hm,rfl,rfl,rfl,hr⟩:=ok.is r rfl;exact DM w O p side dep _ m r pv lv hq hr ok.s1 hm ok.d2
open Go.RowKit
theorem zJ(r:List Nat)(hr:Wd r)(w:World):Calls Tryz.prog 159 #[wdV r] w (fun e w'=>e=.returned (.func (.func 186) #[] #[.pointer (some ⟨w.heap.size,0,none⟩)])∧w'=w.alloc (.cells (wdC r).toArray 168)):=by
 unfold wdV;go_enter Tryz.func159,Tryz.ntmps159;go_wp2;go_ret;exact⟨rfl,rfl⟩
def DP(w:World)(b:Option (List Nat))(e:Ending)(w':World):Prop:=
 ∃g A n c,w.heap.size≤g∧e=.returned (.func (.func 120) #[] #[.pointer (some ⟨g,0,none⟩)])∧Blk w' g 192 #[.slice A n c]∧Below w.heap.size w w' ∧
  match b with
  | none=>n=0
  | some r=>n=1∧w'.ownsRow 0 196 66 (.slice A 1 c) 1 (plC r)∧∀k,(Value.slice A 1 c).ownBlock=some k→w.heap.size≤k
theorem oQ(w W:World)(v:Value)(hb:Below w.heap.size w W):Blk (W.alloc (.cells #[v] 192)) W.heap.size 192 #[v]∧Below w.heap.size w (W.alloc (.cells #[v] 192)):=
 ⟨Blk.new W 192 #[v],hb.alloc hb.size _⟩
theorem zK(w:World)(F:Nat→Prop)(p side:Nat)(b:Option (List Nat))(h:QuS w F p side b):Calls Tryz.prog 74 #[.pointer (some ⟨p,0,none⟩)] w (DP w b):=by
 have ha:=IN w F p side b h;clear h;cases b with
 | none =>
  go_enter Tryz.func74,Tryz.ntmps74;go_wp2_with fail;refine ha.mono ?_;clear ha;rintro e W ⟨hb,rfl⟩;have C:=hIz (oQ w W (.slice none 0 0) hb);have HB:=hIz hb;clear hb;go_wp2;go_ret;exact⟨W.heap.size,none,0,0,HB.out.size,rfl,C.out.1,C.out.2,rfl⟩
 | some r =>
  go_enter Tryz.func74,Tryz.ntmps74;go_wp2_with fail;refine ha.mono ?_;clear ha;rintro e W ⟨hb,A,c,rfl,own,pl⟩;have C:=hIz (oQ w W (.slice A 1 c) hb);have HB:=aI3 hb own pl;clear hb own pl;go_wp2;go_ret;exact⟨W.heap.size,A,1,c,HB.out.1.size,rfl,C.out.1,C.out.2,rfl,HB.out.2.1.alloc _,HB.out.2.2⟩
def gF:Nat→Nat→Nat→List Nat
 | 0,_,_=>[]
 | n+1,o,x=>if x % 2=1 then o::gF n (o+1) (x / 2) else gF n (o+1) (x / 2)
theorem uC{x:Nat}(h:x % 2=1):x &&& (x-1)=x-1:=by
 apply Nat.eq_of_testBit_eq
 intro j;rw[Nat.testBit_and];cases j with
 | zero=>simp[Nat.testBit_zero];omega
 | succ j =>
  rw[Nat.testBit_succ,Nat.testBit_succ];have:(x-1) / 2=x / 2:=by omega
  rw[this,Bool.and_self]
theorem rV{y:Nat}(h:y≠0):(2*y) &&& (2*y-1)=2*(y &&& (y-1)):=by
 apply Nat.eq_of_testBit_eq
 intro j;rw[Nat.testBit_and];cases j with
 | zero=>simp[Nat.testBit_zero]
 | succ j =>
  rw[Nat.testBit_succ,Nat.testBit_succ,Nat.testBit_succ];have h1:(2*y-1) / 2=y-1:=by omega
  have h2:2*y / 2=y:=by omega
  have h3:2*(y &&& (y-1)) / 2=y &&& (y-1):=by omega
  rw[h1,h2,h3,Nat.testBit_and]
theorem mA:∀n o,gF n o 0=[]
 | 0,_=>rfl
 | n+1,o=>by
  rw[gF,if_neg (by decide)];exact mA n (o+1)
theorem qF:∀(n o x:Nat),x≠0→x<2 ^ n→gF n o x=(o+Lib.ctz n x)::gF n o (x &&& (x-1))
 | 0,o,x,h0,h=>by simp at h;omega
 | n+1,o,x,h0,h=>by
  by_cases hx:x % 2=1
  ·have hc:Lib.ctz (n+1) x=0:=by rw[Lib.ctz,if_neg h0,Lib.ctzFrom,if_pos hx]
   rw[uC hx,hc,gF,if_pos hx,gF,if_neg (by omega)];have:(x-1) / 2=x / 2:=by omega
   rw[this];rfl
  ·obtain⟨y,rfl⟩:∃y,x=2*y:=⟨x / 2,by omega⟩;have hy:y≠0:=by omega
   have hd:2*y / 2=y:=by omega
   have hc:Lib.ctz (n+1) (2*y)=Lib.ctz n y+1:=by rw[Lib.ctz,if_neg h0,Lib.ctz,if_neg hy,Lib.ctzFrom,if_neg hx,hd,Nat.add_comm]
   have hd2:2*(y &&& (y-1)) / 2=y &&& (y-1):=by omega
   rw[rV hy,hc,gF,if_neg hx,gF,if_neg (by omega),hd,hd2,qF n (o+1) y hy (by rw[Nat.pow_succ] at h;omega)];congr 1
   omega
theorem oR:∀(n o x j:Nat),j∈gF n o x↔∃i,i<n∧j=o+i∧x.testBit i=true
 | 0,o,x,j=>by simp[gF]
 | n+1,o,x,j=>by
  have ih:=oR n (o+1) (x / 2) j;have hz:x.testBit 0=decide (x % 2=1):=Nat.testBit_zero x;constructor
  ·intro h;rw[gF] at h;have key:j=o∧x % 2=1∨j∈gF n (o+1) (x / 2):=by
    split at h
    ·rcases List.mem_cons.1 h with h|h
     ·exact .inl ⟨h,by assumption⟩
     ·exact .inr h
    ·exact .inr h
   rcases key with ⟨rfl,hx⟩|hm
   ·exact⟨0,by omega,rfl,by rw[hz];exact decide_eq_true hx⟩
   ·obtain⟨i,hi,rfl,ht⟩:=ih.1 hm;exact⟨i+1,by omega,by omega,by rw[Nat.testBit_succ];exact ht⟩
  ·rintro⟨i,hi,rfl,ht⟩;rw[gF];cases i with
   | zero =>
    rw[hz] at ht;rw[if_pos (of_decide_eq_true ht)];exact List.mem_cons_self
   | succ i =>
    have hm:o+(i+1)∈gF n (o+1) (x / 2):=ih.2 ⟨i,by omega,by omega,by rw[← Nat.testBit_succ];exact ht⟩;split
    ·exact List.mem_cons_of_mem _ hm
    ·exact hm
def lH(k x:Nat):List (Nat × Nat):=(gF 64 0 x).map (fun c=>(k,c))
def cK:Nat→List Nat→List (Nat × Nat)
 | _,[]=>[]
 | k,x::r=>lH k x++cK (k+1) r
def qcL:Option (List Nat)→List (Nat × Nat)
 | none=>[]
 | some r=>cK 0 r
theorem xT{k x i j:Nat}:(i,j)∈lH k x↔i=k∧j<64∧x.testBit j=true:=by
 unfold lH;simp only[List.mem_map,oR,Prod.mk.injEq]
 constructor
 ·rintro⟨c,⟨t,h1,h2,h3⟩,rfl,rfl⟩;rw[Nat.zero_add] at h2;subst h2;exact⟨rfl,h1,h3⟩
 ·rintro⟨rfl,h1,h2⟩;exact⟨j,⟨j,h1,(Nat.zero_add j).symm,h2⟩,rfl,rfl⟩
theorem rW:∀(r:List Nat) (k i j:Nat),(i,j)∈cK k r↔∃t,i=k+t∧∃x,r[t]?=some x∧j<64∧x.testBit j=true
 | [],k,i,j=>by simp[cK]
 | x::r,k,i,j=>by
  rw[cK,List.mem_append,xT,rW r (k+1) i j];constructor
  ·rintro (⟨rfl,h1,h2⟩|⟨t,rfl,h⟩)
   ·exact⟨0,rfl,x,rfl,h1,h2⟩
   ·exact⟨t+1,by omega,h⟩
  ·rintro⟨t,rfl,y,h1,h2⟩;cases t with
   | zero =>
    rw[List.getElem?_cons_zero] at h1;injection h1 with h1;subst h1;exact .inl ⟨rfl,h2⟩
   | succ t=>exact .inr ⟨t,by omega,y,h1,h2⟩
theorem xU:∀(n o x:Nat),(gF n o x).Pairwise (·<·)
 | 0,_,_=>List.Pairwise.nil
 | n+1,o,x=>by
  have ih:=xU n (o+1) (x / 2);rw[gF];split
  ·refine List.pairwise_cons.2 ⟨fun j hj=>?_,ih⟩;obtain⟨i,-,rfl,-⟩:=(oR n (o+1) (x / 2) j).1 hj;omega
  ·exact ih
def ltC(a b:Nat × Nat):Prop:=a.1<b.1∨a.1=b.1∧a.2<b.2
theorem MJ(k x:Nat):(lH k x).Pairwise ltC:=by
 unfold lH;rw[List.pairwise_map];exact(xU 64 0 x).imp (fun h=>.inr ⟨rfl,h⟩)
theorem DQ:∀(r:List Nat) (k:Nat),(cK k r).Pairwise ltC
 | [],_=>List.Pairwise.nil
 | x::r,k=>by
  rw[cK,List.pairwise_append];refine⟨MJ k x,DQ r (k+1),fun a ha b hb=>.inl ?_⟩;obtain⟨a1,a2⟩:=a;obtain⟨b1,b2⟩:=b;obtain⟨rfl,-⟩:=xT.1 ha;obtain⟨t,rfl,-⟩:=(rW r _ _ _).1 hb;show a1<_
  omega
theorem OK{a b:Nat × Nat}(h:ltC a b):a≠b:=by
 rintro rfl;rcases h with h|⟨-,h⟩ <;> exact absurd h (Nat.lt_irrefl _)
theorem OL(b:Option (List Nat)):(qcL b).Pairwise ltC:=by
 cases b with
 | none=>exact List.Pairwise.nil
 | some r=>exact DQ r 0
theorem DR{b:Option (List Nat)}(hw:Wd (pI b)){i j:Nat}:(i,j)∈qcL b↔i<64∧j<64∧zF b i j=true:=by
 cases b with
 | none=>simp[qcL,zF]
 | some r =>
  show(i,j)∈cK 0 r↔_
  rw[rW];have hl:=hw.len;have hl:r.length=64:=hl;constructor
  ·rintro⟨t,rfl,x,h1,h2,h3⟩;have ht:=(gO.1 h1).1;rw[Nat.zero_add];refine⟨by omega,h2,?_⟩;show pY r t j=true
   unfold pY;rw[h1];exact h3
  ·rintro⟨h1,h2,h3⟩;refine⟨i,(Nat.zero_add i).symm,r[i]'(by omega),gEz _,h2,?_⟩;have h3:pY r i j=true:=h3;unfold pY at h3;rw[gEz (by omega)] at h3;exact h3
theorem oS:∀(n o x:Nat),(gF n o x).length=pcN n x
 | 0,_,_=>rfl
 | n+1,o,x=>by
  rw[gF,pcN];split
  ·rw[List.length_cons,oS n];omega
  ·rw[oS n];omega
theorem xV:∀(r:List Nat) (k:Nat),(cK k r).length=jL r
 | [],_=>rfl
 | x::r,k=>by
  rw[cK,List.length_append,xV r,lH,List.length_map,oS];rfl
theorem DS{b:Option (List Nat)}:(qcL b).length=jL (pI b):=by
 cases b with
 | none=>exact tR.symm
 | some r=>exact xV r 0
theorem nJ(x:Nat):cK 0 (x::List.replicate 63 0)=lH 0 x:=by
 have h:∀(n k:Nat),cK k (List.replicate n 0)=[]:=fun n=>by
  induction n with
  | zero=>intro k;rfl
  | succ n ih=>intro k;rw[List.replicate_succ,cK,ih,lH,mA];rfl
 rw[cK,h,List.append_nil]
theorem IP{α:Type}[DecidableEq α]{L M:List α}(hl:L.Nodup)(hm:M.Nodup)(h:∀x,x∈L↔x∈M):L.length=M.length:=
 Nat.le_antisymm (fN hl (fun x hx=>(h x).1 hx)) (fN hm (fun x hx=>(h x).2 hx))
open Go.RowKit
structure iE(G:Gr)(E:List Ed):Prop where
 mem:∀x,x∈E↔x∈G.X
 nd:E.Nodup
theorem iE.len{G:Gr}{E:List Ed}(h:iE G E)(ok:GOk G):E.length=G.X.length:=IP h.nd ok.xd h.mem
theorem iE.of{G:Gr}{E M:List Ed}{N:List Txt}(h:iE G E)(k:List Ed):ofI N (E++k)=ofI N (G.X++k):=by
 have hm:∀x,x∈E++k↔x∈G.X++k:=fun x=>by rw[List.mem_append,List.mem_append,h.mem]
 exact nB (fun s=>by simp only[hm]) hm (fun s hs=>.inl hs) (fun s hs=>.inl hs)
theorem iE.may{G:Gr}{E:List Ed}(h:iE G E)(N:List Txt):ofI N E=ofI N G.X:=by
 have:=h.of (M:=[]) (N:=N) [];rwa [List.append_nil,List.append_nil] at this
theorem iE.datN{G:Gr}{E:List Ed}(h:iE G E)(ok:GOk G):ofN G.N E=datN G:=by
 unfold ofN;rw[if_pos ((h.may _).trans ok.may)];exact rG (fun s=>by simp only[h.mem])
theorem iE.datE{G:Gr}{E:List Ed}(h:iE G E)(ok:GOk G):ofE G.N E=datE G:=by
 unfold ofE;rw[if_pos ((h.may _).trans ok.may)];exact rH h.mem
theorem MK{G:Gr}(ok:GOk G){s:Txt}(hs:s∈G.N):cH s=true:=(cU.1 (fP ok.may)).1 s hs
theorem nK{G:Gr}{E:List Ed}(h:iE G E)(ok:GOk G)(s:Txt):jP G.N E s=((aS G s).2.1,(aS G s).2.2):=by
 have h1:ofI (G.N++[s]) E=ofI (G.N++[s]) G.X:=h.may _;unfold jP aS;by_cases hn:cH s=false
 ·rw[if_pos hn];have hs:¬inB s G.N=true:=fun hs=>by
   rw[MK ok (aQ.1 hs)] at hn;cases hn
  have h2:ofI (G.N++[s]) G.X=173:=by
   unfold ofI;rw[if_pos];cases e:bT (G.N++[s]) G.X
   ·rfl
   ·have:=(cU.1 e).1 s (by simp);rw[hn] at this;cases this
  rw[if_neg hs,h2];rfl
 ·rw[if_neg hn];split
  ·rfl
  ·rw[h1];split
   ·rfl
   ·rfl
theorem nL{G:Gr}{E:List Ed}(h:iE G E)(ok:GOk G)(x:Ed):hO G.N E x=((aP G x).2.1,(aP G x).2.2):=by
 have h1:ofI G.N (E++[x])=ofI G.N (G.X++[x]):=h.of (M:=[]) _;unfold hO aP;by_cases hn:(cH x.fr&&eP x.lb&&cH x.to)=false
 ·rw[if_pos hn];have hx:¬x∈G.X:=fun hx=>by
   have:=(cU.1 (fP ok.may)).2 x hx;rw[this.1,this.2.1,this.2.2] at hn;cases hn
  have h2:ofI G.N (G.X++[x])=173:=by
   unfold ofI;rw[if_pos];cases e:bT G.N (G.X++[x])
   ·rfl
   ·have:=(cU.1 e).2 x (by simp);rw[this.1,this.2.1,this.2.2] at hn;cases hn
  rw[if_neg hx,h2];rfl
 ·rw[if_neg hn,h1];by_cases hx:x∈G.X
  ·rw[if_pos hx,if_pos ((h.mem x).2 hx)]
  ·rw[if_neg hx,if_neg (fun e=>hx ((h.mem x).1 e))];split
   ·rfl
   ·rfl
theorem iE.node{G:Gr}{E:List Ed}(h:iE G E)(s:Txt):iE (aS G s).1 E:=by
 unfold aS;split
 ·exact h
 split
 ·exact⟨h.mem,h.nd⟩
 ·exact h
theorem iE.edge{G:Gr}{E:List Ed}(h:iE G E)(ok:GOk G){x:Ed}{z:Int}(hr:hO G.N E x=(true,z)):iE (aP G x).1 (aR ltE (E++[x]))∧(aP G x).1.N=bG (bG G.N x.fr) x.to:=by
 rw[nL h ok] at hr;unfold aP at hr ⊢;split at hr
 ·cases hr
 split at hr
 ·rename_i h1 h2
  rw[if_neg h1,if_pos h2];refine⟨⟨fun y=>?_,(aZ jR _).up.nodup jR⟩,rfl⟩;rw[(aZ jR _).mem,List.mem_append,List.mem_append,h.mem]
 ·cases hr
theorem iE.edge_no{G:Gr}{E:List Ed}(h:iE G E)(ok:GOk G){x:Ed}{z:Int}(hr:hO G.N E x=(false,z)):(aP G x).1=G:=by
 rw[nL h ok] at hr;unfold aP at hr ⊢;split at hr
 ·rename_i h1;rw[if_pos h1]
 split at hr
 ·cases hr
 ·rename_i h1 h2;rw[if_neg h1,if_neg h2]
theorem iE.node_no{G:Gr}{E:List Ed}(h:iE G E)(ok:GOk G){s:Txt}{z:Int}(hr:jP G.N E s=(false,z)):(aS G s).1=G:=by
 rw[nK h ok] at hr;unfold aS at hr ⊢;split at hr
 ·rename_i h1;rw[if_pos h1]
 split at hr
 ·cases hr
 ·rename_i h1 h2;rw[if_neg h1,if_neg h2]
theorem iE.node_yes{G:Gr}{E:List Ed}(h:iE G E)(ok:GOk G){s:Txt}{z:Int}(hr:jP G.N E s=(true,z)):(aS G s).1=⟨G.N++[s],G.X⟩:=by
 rw[nK h ok] at hr;unfold aS at hr ⊢;split at hr
 ·cases hr
 split at hr
 ·rename_i h1 h2;rw[if_neg h1,if_pos h2]
 ·cases hr
theorem iE.new:iE ⟨[],[]⟩ []:=⟨fun _=>Iff.rfl,List.nodup_nil⟩
theorem iE.self{G:Gr}(ok:GOk G):iE G G.X:=⟨fun _=>Iff.rfl,ok.xd⟩

theorem kY{N:List Txt}{E:List Ed}{s:Txt}{out:Bool}{lb:Txt}{j:Nat}{h:Hp}:h∈oO N E s out lb j↔∃t,N[j]?=some t∧tZ out s lb t∈E∧h=⟨lb,(j:Int)⟩:=by
 unfold oO;cases N[j]? with
 | none=>simp
 | some t =>
  dsimp only
  by_cases hm:tZ out s lb t∈E
  ·rw[if_pos hm,List.mem_singleton];constructor
   ·rintro rfl;exact⟨t,rfl,hm,rfl⟩
   ·rintro⟨t',h1,-,h3⟩;exact h3
  ·rw[if_neg hm];constructor
   ·intro h;cases h
   ·rintro⟨t',h1,h2,-⟩;injection h1 with h1;subst h1;exact(hm h2).elim
theorem qG{N:List Txt}{E:List Ed}{s:Txt}{out:Bool}{L:List Txt}{h:Hp}:h∈bW N E s out L↔h.lb∈L∧∃(j:Nat) (t:Txt),N[j]?=some t∧tZ out s h.lb t∈E∧h.nd=(j:Int):=by
 unfold bW cJ;simp only[List.mem_flatMap,List.mem_range,kY]
 constructor
 ·rintro⟨lb,hl,j,-,t,h1,h2,rfl⟩;exact⟨hl,j,t,h1,h2,rfl⟩
 ·rintro⟨hl,j,t,h1,h2,h3⟩;refine⟨h.lb,hl,j,(gO.1 h1).1,t,h1,h2,?_⟩;rw[← h3]
theorem mP{N:List Txt}{E:List Ed}{s:Txt}{out:Bool}{L:List Txt}(hL:cL ltT L):cL ltH (bW N E s out L):=by
 have row:∀lb k,cL ltH (cJ N E s out lb k):=by
  intro lb k;induction k with
  | zero=>exact List.Pairwise.nil
  | succ k ih =>
   rw[eU];refine List.pairwise_append.2 ⟨ih,?_,fun a ha b hb=>?_⟩
   ·unfold oO;split
    ·split
     ·exact List.pairwise_singleton _ _
     ·exact List.Pairwise.nil
    ·exact List.Pairwise.nil
   ·obtain⟨t,-,-,rfl⟩:=kY.1 hb;unfold cJ at ha;obtain⟨j,hj,ha⟩:=List.mem_flatMap.1 ha;obtain⟨t',-,-,rfl⟩:=kY.1 ha;rw[List.mem_range] at hj;simp[ltH]
    omega
 have rows:∀lb k (h:Hp),h∈cJ N E s out lb k→h.lb=lb:=fun lb k h hh=>by
  unfold cJ at hh;obtain⟨j,-,hh⟩:=List.mem_flatMap.1 hh;obtain⟨t',-,-,rfl⟩:=kY.1 hh;rfl
 induction L with
 | nil=>exact List.Pairwise.nil
 | cons a L ih =>
  obtain⟨h1,h2⟩:=List.pairwise_cons.1 hL;unfold bW;rw[List.flatMap_cons];refine List.pairwise_append.2 ⟨row _ _,ih h2,fun x hx y hy=>?_⟩;obtain⟨lb,hlb,hy⟩:=List.mem_flatMap.1 hy;have e1:=rows _ _ _ hx;have e2:=rows _ _ _ hy;have e3:=h1 lb hlb;unfold ltH;rw[e1,e2,if_neg (dW.ne e3)];exact e3
theorem DT{G:Gr}{lb:Txt}:lb∈aR ltT (lbs (datE G))↔∃x∈G.X,x.lb=lb:=by
 rw[(aZ dW _).mem,vP];constructor
 ·rintro⟨x,hx,e⟩;exact⟨x,fO.1 hx,e⟩
 ·rintro⟨x,hx,e⟩;exact⟨x,fO.2 hx,e⟩
theorem ML{G:Gr}{E:List Ed}(h:iE G E)(ok:GOk G){k:Nat}{s:Txt}(hk:G.N[k]?=some s){L:List Hp}(hL:GL G k L):bW G.N E s true (aR ltT (lbs (datE G)))=L:=by
 refine cL.uniq yT (mP (aZ dW _).up) hL.up (fun y=>?_);rw[qG,hL.mem,DT];constructor
 ·rintro⟨-,j,t,h1,h2,h3⟩;refine⟨⟨s,y.lb,t⟩,(h.mem _).1 h2,hk,?_⟩;rw[iJ ok.nd h1,← h3]
 ·rintro⟨x,hx,h1,rfl⟩;rw[hk] at h1;injection h1 with h1;refine⟨⟨x,hx,rfl⟩,cS G.N x.to,x.to,cR (ok.ends x hx).2,?_,rfl⟩;show(⟨s,x.lb,x.to⟩:Ed)∈E
  rw[h1];exact(h.mem x).2 hx
theorem OM{G:Gr}{E:List Ed}(h:iE G E)(ok:GOk G){k:Nat}{s:Txt}(hk:G.N[k]?=some s){L:List Hp}(hL:PL G k L):bW G.N E s false (aR ltT (lbs (datE G)))=L:=by
 refine cL.uniq yT (mP (aZ dW _).up) hL.up (fun y=>?_);rw[qG,hL.mem,DT];constructor
 ·rintro⟨-,j,t,h1,h2,h3⟩;refine⟨⟨t,y.lb,s⟩,(h.mem _).1 h2,hk,?_⟩;rw[iJ ok.nd h1,← h3]
 ·rintro⟨x,hx,h1,rfl⟩;rw[hk] at h1;injection h1 with h1;refine⟨⟨x,hx,rfl⟩,cS G.N x.fr,x.fr,cR (ok.ends x hx).1,?_,rfl⟩;show(⟨x.fr,x.lb,s⟩:Ed)∈E
  rw[h1];exact(h.mem x).2 hx

instance (a b:Nat × Nat):Decidable (ltC a b):=by unfold ltC;exact inferInstance
def iD(a b:Nat × Nat):Bool:=decide (ltC a b)
theorem lB{a b:Nat × Nat}:iD a b=true↔ltC a b:=by unfold iD;exact decide_eq_true_iff
theorem NB:Sto iD where
 irr:=fun a=>by
  unfold iD;rw[decide_eq_false_iff_not];intro h;exact OK h rfl
 tr:=fun a b c h k=>by
  rw[lB] at h k ⊢;unfold ltC at h k ⊢;omega
 tri:=fun a b h k=>by
  have h':¬ltC a b:=fun e=>by rw[lB.2 e] at h;cases h
  have k':¬ltC b a:=fun e=>by rw[lB.2 e] at k;cases k
  unfold ltC at h' k';obtain⟨a1,a2⟩:=a;obtain⟨b1,b2⟩:=b;dsimp only at h' k'
  have e1:a1=b1:=by omega
  have e2:a2=b2:=by omega
  rw[e1,e2]
def rX(N:List Txt)(E:List Ed)(lb:Txt):List (Nat × Nat):=(E.filter fun x=>decide (x.lb=lb)).map fun x=>(cS N x.fr,cS N x.to)
theorem DU{N:List Txt}{E:List Ed}{lb:Txt}{i:Nat}{x:Ed}(h:E[i]?=some x):rX N (E.take (i+1)) lb=rX N (E.take i) lb++if x.lb=lb then [(cS N x.fr,cS N x.to)] else []:=by
 unfold rX;rw[List.take_add_one,h,Option.toList_some,List.filter_append,List.map_append];by_cases e:x.lb=lb
 ·rw[if_pos e,List.filter_cons,if_pos (decide_eq_true e)];rfl
 ·rw[if_neg e,List.filter_cons,if_neg (by simpa using e)];rfl
theorem xW(N:List Txt)(E:List Ed)(lb:Txt):(rX N E lb).length≤E.length:=by
 unfold rX;rw[List.length_map];exact List.length_filter_le _ _
theorem IQ{G:Gr}{E:List Ed}(h:iE G E)(ok:GOk G){lb:Txt}{b:Option (List Nat)}(hw:Wd (pI b))(hm:IE G lb b):aR iD (rX G.N E lb)=qcL b:=by
 refine(eX.is NB ⟨?_,fun y=>?_⟩).symm
 ·exact(OL b).imp (fun h=>lB.2 h)
 ·obtain⟨i,j⟩:=y;have hf:=ok.few.1;unfold rX;rw[DR hw,List.mem_map];constructor
  ·rintro⟨hi,hj,hb⟩;obtain⟨x,hx,h1,h2,h3⟩:=(hm i j hi hj).1 hb;exact⟨x,List.mem_filter.2 ⟨(h.mem x).2 hx,decide_eq_true h1⟩,by rw[iJ ok.nd h2,iJ ok.nd h3]⟩
  ·rintro⟨x,hx,e⟩;injection e with e1 e2;rw[List.mem_filter] at hx;have hx1:=(h.mem x).1 hx.1;have h1:=cR (ok.ends x hx1).1;have h2:=cR (ok.ends x hx1).2;have l1:=eT (ok.ends x hx1).1;have l2:=eT (ok.ends x hx1).2;rw[e1] at h1 l1;rw[e2] at h2 l2;exact⟨by omega,by omega,(hm i j (by omega) (by omega)).2 ⟨x,hx1,of_decide_eq_true hx.2,h1,h2⟩⟩
open Go.RowKit
theorem lC{w:World}{base e size n c:Nat}{A:Option Addr}{xs:List Value}(h:w.ownsRow base e size (.slice A n c) n xs)(h0:0<n):∃g,A=some ⟨g,0,none⟩:=by
 rcases h.2 with ⟨hv,h1⟩|⟨g',cap',cur,hv,-⟩
 ·omega
 injection hv with hv;exact⟨g',hv⟩
theorem qH{w:World}{base e size n c g:Nat}{xs:List Value}(h:w.ownsRow base e size (.slice (some ⟨g,0,none⟩) n c) n xs){i:Nat}(hi:i<n*size):∃u,w.cell? ⟨g,i,none⟩=some u:=by
 have hl:i<xs.length:=by rw[h.1];exact hi
 have:=h.cells (g:=g) rfl i xs[i] (gEz hl);rw[Addr.add_lit,Nat.zero_add] at this;exact⟨_,this⟩
theorem DV:Tryz.prog.stoodInHeld 103=false:=by kernel_rfl
theorem uD(W:World)(a:Txt)(n:Int):(part 9 #[.string a,.int .i64 n] 0).run Tryz.prog W=.ok (.string a) W:=by simp[part,isAgg,run_underlying Tryz.underlying9]
theorem uE(W:World)(a:Txt)(n:Int):(part 3 #[.string a,.int .i64 n] 1).run Tryz.prog W=.ok (.int .i64 n) W:=by simp[part,isAgg,run_underlying Tryz.underlying3]
theorem DW(W:World)(x y:Hp):(Op.equal 103 x.agg y.agg).run Tryz.prog W=.ok (decide (x=y)) W:=by
 obtain⟨a0,a1⟩:=x;obtain⟨b0,b1⟩:=y;have hs:Tryz.prog.underlying 103=some (.struct (Tryz.prog.fieldsOf 103)):=by kernel_rfl
 have h9:=fun a b=>nS W 9998 a b
 have h8:=fun a b=>run_equalIn_int (P:=Tryz.prog) W 9998 3 .i64 .i64 a b Tryz.underlying3
 have pa:=uD W a0 a1;have pb:=uD W b0 b1;have qa:=uE W a0 a1;have qb:=uE W b0 b1;have hd:decide ((⟨a0,a1⟩:Hp)=⟨b0,b1⟩)=(decide (a0=b0)&&(a1==b1)):=by
  rw[Bool.eq_iff_iff];simp
 rw[hd];unfold Hp.agg;show(Op.equalIn (9999+1) _ _ _).run _ _=_
 rw[run_equalIn_struct (P:=Tryz.prog) W 9999 _ _ _ hs DV];simp only[Program.fieldsOf,Tryz.underlying103,Op.eqFields]
 rw[if_pos (by decide),if_pos (by decide)];simp only[Sem.run_bind,pa,pb,h9,Result.andThen_ok]
 cases decide (a0=b0)
 ·simp
 ·simp only[Bool.not_true,Bool.false_eq_true,if_false,Sem.run_bind,qa,qb,h8,Result.andThen_ok,Bool.true_and]
  cases a1==b1 <;> simp
theorem MM(W:World)(x y:Hp):(binOp .neq 103 x.agg y.agg).run Tryz.prog W=.ok (.bool (!decide (x=y))) W:=by
 have h:=DW W x y;unfold Hp.agg at h ⊢;simp only[binOp]
 simp[h]
theorem DX{w:World}{base e size n c g:Nat}{xs:List Value}(h:w.ownsRow base e size (.slice (some ⟨g,0,none⟩) n c) n xs){i:Nat}{u:Value}(hi:xs[i]?=some u):w.cell? ⟨g,i,none⟩=some u:=by
 have:=h.cells (g:=g) rfl i u hi;rwa [Addr.add_lit,Nat.zero_add] at this
theorem MN{L:List Hp}{k:Nat}{x0:Txt}{x1:Int}(h:L[k]?=some ⟨x0,x1⟩):(aK L)[k*2]?=some (.string x0)∧(aK L)[k*2+1]?=some (.int .i64 x1):=by
 have hg:=fun j (hj:j<2)=>dR Hp.cells 2 (fun _=>rfl) L k j _ h hj
 exact⟨hg 0 (by omega),hg 1 (by omega)⟩
theorem uG(w:World)(base:Nat)(A:Option Addr)(c:Nat)(B:Option Addr)(d:Nat)(L:List Hp)(hA:w.ownsRow base 103 2 (.slice A L.length c) L.length (aK L))(hB:aV w B (aK L))(hne:∀a b o s,A=some a→B=some ⟨b,o,s⟩→a.block≠b)(hl:L.length≤100000) :
  Calls Tryz.prog 58 #[.slice A L.length c,.slice B L.length d] w (fun e w'=>e=.returned (.bool true)∧Upd (fun k=>(Value.slice A L.length c).ownBlock=some k) w w'):=by
 obtain⟨n,hn⟩:∃n,L.length=n:=⟨_,rfl⟩;rw[hn] at hA hl ⊢;have H:=aI4 hA hB hne hn;clear hA hB hne hn;go_enter Tryz.func58,Tryz.ntmps58;go_wp2_with fail;go_loopw [5] (fun iv wr=>∃i:Nat,i≤n∧iv=.int .i64 (i:Int)∧Hid (Upd (fun k=>(Value.slice A n c).ownBlock=some k) w wr)∧Hid (∃xs,wr.ownsRow base 103 2 (.slice A n c) n xs∧∀j,i*2≤j→xs[j]?=(aK L)[j]?)) (fun iv _=>n-(intOf iv).toNat)
 case atStart=>exact⟨0,Nat.zero_le _,rfl,hIz (Upd.refl _ _),hIz ⟨_,H.out.1,fun _ _=>rfl⟩⟩
 case round =>
  obtain⟨i,hi,rfl,hu,HX⟩:=hrel;by_cases hin:i<n
  ·have hiI:(i:Int)<(n:Int):=by omega
   have hkw:IntKind.i64.wrap ((i:Int)+1)=(i:Int)+1:=IntWalk.i64_in _ (by omega);obtain⟨⟨y0,y1⟩,hy⟩:∃y,L[i]?=some y:=⟨L[i]'(by rw[H.out.2.2.2];exact hin),gEz _⟩;obtain⟨xs,ho,hx⟩:=HX.out;obtain⟨g,rfl⟩:=lC ho (by omega);have hrow:aV wr B (aK L):=H.out.2.1.upd hu.out (fun b o s e hb=>by
    simp only[Value.ownBlock,Option.some.injEq] at hb
    exact H.out.2.2.1 _ b o s rfl e hb)
   obtain⟨bb,bo,rfl,b0,b1⟩:=hrow.hp hy;dsimp only at b0 b1
   have hc:=MN hy;have a0:=DX ho (i:=i*2) (by rw[hx _ (Nat.le_refl _)];exact hc.1);have a1:=DX ho (i:=i*2+1) (by rw[hx _ (by omega)];exact hc.2);have heq:=fun W=>MM W ⟨y0,y1⟩ ⟨y0,y1⟩
   rw[decide_eq_true rfl] at heq;unfold Hp.agg at heq;dsimp only at heq
   have HO:=aI2 ho hx;clear ho hx hy hc hrow;go_upto_region 6 with (fail);go_quiet (fail)
   obtain⟨W5,hW5⟩:∃W,W=wr.drewN nq:=⟨_,rfl⟩;have bW5:Below wr.heap.size wr W5:=by rw[hW5];exact jN bR nq
   rw[← hW5];have o5:=aA HO.out.1 (upF bW5) (fun _ _ h=>h);have c0:=(bW5.cell (World.block_lt_of_cell? _ _ a0)).trans a0;have c1:=(bW5.cell (World.block_lt_of_cell? _ _ a1)).trans a1;have f0:=dF o5 (i*2);have f1:=dF o5 (i*2+1);have o6:=bL (bL o5 (i:=i*2) (by omega) (.string ⟨#[55,55]⟩)) (i:=i*2+1) (by omega) (.int .i64 0);have u6:Upd (fun k=>(Value.slice (some ⟨g,0,none⟩) n c).ownBlock=some k) W5 ((W5.setCell ⟨g,i*2,none⟩ (.string ⟨#[55,55]⟩)).setCell ⟨g,i*2+1,none⟩ (.int .i64 0)):=((Upd.refl (fun k=>(Value.slice (some ⟨g,0,none⟩) n c).ownBlock=some k) W5).setCell (p:=⟨g,i*2,none⟩) (.inl rfl) _).setCell (p:=⟨g,i*2+1,none⟩) (.inl rfl) _;have HN:=aI2 ((hu.out.trans (Upd.of_below bW5 _) (fun i h=>.inl h)).trans u6 (fun i h=>.inl h)) (show ∃xs,((W5.setCell ⟨g,i*2,none⟩ (.string ⟨#[55,55]⟩)).setCell ⟨g,i*2+1,none⟩ (.int .i64 0)).ownsRow base 103 2 (.slice (some ⟨g,0,none⟩) n c) n xs∧∀j,(i+1)*2≤j→xs[j]?=(aK L)[j]? from⟨_,o6,fun j hj=>by
    rw[List.getElem?_set_ne (by omega),List.getElem?_set_ne (by omega)];exact HO.out.2 j (by omega)⟩)
   clear o5 o6 u6 bW5 hW5 a0 a1 b0 b1 heq HX;go_wp2;go_roundw
   case rel=>exact⟨i+1,by omega,by go_num,hIz HN.out.1,hIz HN.out.2⟩
   case measure=>simp[intOf];omega
  ·obtain rfl:i=n:=by omega
   have hiI:¬(i:Int)<(i:Int):=by omega
   have FIN:=hIz hu.out;go_wp2;go_ret;exact⟨rfl,FIN.out⟩
end Go.Proofs.YtddffnonlmfhdaaGreatDoor
