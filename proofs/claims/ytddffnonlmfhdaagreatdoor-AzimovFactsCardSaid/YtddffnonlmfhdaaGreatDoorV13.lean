/- layer 18's laws: small, a grammar of the law's own. (Written by mkAyG.py.); layer 18's laws: the closure of the law's own grammar over its own graph: plain; azimov: Pairs where it refuses; Facts without a closure; layer 18's laws: awake; AzimovNone: the walk; azimov: Facts, the iterator that it makes; azimov: the iterator that Facts makes; layer 18's laws: facts; layer 18's laws: same; AzimovOrder: the plain law; AzimovOrder: the walk; How many edges a graph has, counted by their ends and by their labels (plain); AzimovMirror: what is put together in memory; layer 18's laws: born; AzimovLeast: the walk. -/
import Derived.Deep.CutRange
import Derived.Test.YtddffnonlmfhdaaGreatDoorV12
import Derived.Test.YtddffnonlmfhdaaGreatDoorV07
import Derived.Test.YtddffnonlmfhdaaGreatDoorV09
import Derived.RangeFuncNested
import Derived.RangeFuncBound
import Derived.RangeFuncCalls
import Derived.RangeFuncLeaves
import Derived.RangeFuncBox
import Derived.Shelf.Abstract
import Derived.Shelf.RegionOpen
import Derived.OwnWalkIn
import Derived.TacticsInMore
import Derived.LoopNIn
import Derived.LoopIn
import Derived.Test.YtddffnonlmfhdaaGreatDoorV04
import Derived.Test.YtddffnonlmfhdaaGreatDoorV06
import Derived.Test.YtddffnonlmfhdaaGreatDoorV11
set_option linter.unusedVariables false
set_option linter.unusedSimpArgs false
set_option maxHeartbeats 16000000
set_option maxRecDepth 100000
namespace Go.Proofs.YtddffnonlmfhdaaGreatDoor
open Go.RowKit Go.Shelf
theorem gD{w:World}{g:Nat}{t:TypeId}{cs:List Value}(h:Blk w g t cs.toArray):aU w (some ⟨g,0,none⟩) cs:=fun j u hj=>⟨g,0,rfl,by rw[Nat.zero_add,h.cell j];simpa using hj⟩
def fQ:List Pr:=[⟨0,[⟨false,1⟩,⟨false,2⟩]⟩,⟨1,[⟨true,0⟩]⟩,⟨2,[⟨false,0⟩,⟨false,2⟩]⟩,⟨2,[⟨true,1⟩]⟩]
def PC(w:World)(e:Ending)(w':World):Prop:=∃(g c:Nat) (PV:List Pv),e=.returned (.agg #[.int .i64 3,.slice (some ⟨g,0,none⟩) 4 c])∧PvR w' (some ⟨g,0,none⟩) PV∧PV.map (·.pr)=fQ∧Below w.heap.size w w'
def XI(w wc:World)(g3 g4:Nat):Prop:=Below w.heap.size w wc∧Blk wc w.heap.size 50 #[.int .i64 0,.slice none 0 0]∧Blk wc (w.heap.size+1) 96 #[.bool false,.int .i64 0]∧Blk wc (w.heap.size+1+1) 96 #[.bool true,.int .i64 0] ∧
 Blk wc g3 96 #[.bool false,.int .i64 0]∧Blk wc g4 96 #[.bool false,.int .i64 0]∧w.heap.size+3≤g3∧w.heap.size+3≤g4∧g3≠g4
def XJ(w W:World):Prop:=Below w.heap.size w W∧Blk W w.heap.size 50 #[.int .i64 0,.slice none 0 0]∧Blk W (w.heap.size+1) 96 #[.bool false,.int .i64 0]∧Blk W (w.heap.size+1+1) 96 #[.bool true,.int .i64 0]∧W.heap.size=w.heap.size+3
theorem XR(w:World):XJ w (((w.alloc (.cells #[.int .i64 0,.slice none 0 0] 50)).alloc (.cells #[.bool false,.int .i64 0] 96)).alloc (.cells #[.bool true,.int .i64 0] 96)):=by
 have k0:=((Blk.new w 50 #[.int .i64 0,.slice none 0 0]).alloc (.cells #[.bool false,.int .i64 0] 96)).alloc (.cells #[.bool true,.int .i64 0] 96);have k1:=(Blk.new (w.alloc (.cells #[.int .i64 0,.slice none 0 0] 50)) 96 #[.bool false,.int .i64 0]).alloc (.cells #[.bool true,.int .i64 0] 96);have k2:=Blk.new ((w.alloc (.cells #[.int .i64 0,.slice none 0 0] 50)).alloc (.cells #[.bool false,.int .i64 0] 96)) 96 #[.bool true,.int .i64 0];simp only[World.size_alloc] at k1 k2
 exact⟨by(repeat (first | exact Below.refl _ _ | apply Below.drew | refine Below.alloc ?_ (by first | exact Nat.le_refl _ | (simp;done) | (simp;omega)) _ | refine Below.setCell ?_ (by first | exact Nat.le_refl _ | (simp;done) | (simp;omega)) _)),k0,k1,k2,by simp⟩
theorem XK{w W V:World}{a b:Nat}(h:XJ w W)(hb:Below W.heap.size W V)(ha:Blk V a 96 #[.bool false,.int .i64 0])(hb2:Blk V b 96 #[.bool false,.int .i64 0])(h0:W.heap.size≤a)(h1:W.heap.size≤b)(hab:a≠b):XI w V a b:=by
 obtain⟨i1,i2,i3,i4,i5⟩:=h;have hu:=Upd.of_below hb (fun _=>False);exact⟨tHn i1 hb,i2.upd hu id,i3.upd hu id,i4.upd hu id,ha,hb2,by omega,by omega,hab⟩
theorem AV(w:World):Calls Tryz.prog 78 #[] w (PC w):=by
 have HI:=hIz (XR w);go_enter Tryz.func78,Tryz.ntmps78;go_upto_region 2 with (fail);generalize ((w.alloc (.cells #[.int .i64 0,.slice none 0 0] 50)).alloc (.cells #[.bool false,.int .i64 0] 96)).alloc (.cells #[.bool true,.int .i64 0] 96)=W at HI ⊢;go_cut [3,4] from 8 (fun s3 s4 wc=>∃g3 g4:Nat,s3=.pointer (some ⟨g3,0,none⟩)∧s4=.pointer (some ⟨g4,0,none⟩)∧Hid (XI w wc g3 g4))
 case first =>
  have SR:=hIz (show ∀V,Below W.heap.size W V→(fun V:World=>V.cell? ⟨w.heap.size+1,0,none⟩=some (.bool false)∧V.cell? ⟨w.heap.size+1,1,none⟩=some (.int .i64 0)) V from fun V hb=>by
   have hu:=Upd.of_below hb (fun _=>False);have k:=HI.out.2.2.1.upd hu id;exact⟨k.cell 0,k.cell 1⟩)
  have HK0:=hIz (show Below W.heap.size W W.drew from bR.drew);have hS:=SR.out _ HK0.out;refine vU ?_;refine fH (fun V:World=>V.cell? ⟨w.heap.size+1,0,none⟩=some (.bool false)∧V.cell? ⟨w.heap.size+1,1,none⟩=some (.int .i64 0)) (by kernel_rfl) (by kernel_rfl) hS ?_;refine lM (fun hd=>?_);generalize W.drew=V0 at HK0 hS ⊢;(refine aD 0 rfl hd hS ?_;clear hd;intro hd;(try simp only[Act.put,gA,gZ,sA,sZ,sS]))
  refine aD 1 rfl hd hS ?_;clear hd;intro hd;refine bK hd 2 3 ?_ ?_<;>(clear hd;intro hd)
  ·have HN0:=hIz (show Blk (V0.alloc (.cells #[.bool false,.int .i64 0] 96)) V0.heap.size 96 #[.bool false,.int .i64 0] from Blk.new V0 _ _);have HK1:=hIz (show Below W.heap.size W (V0.alloc (.cells #[.bool false,.int .i64 0] 96)) from HK0.out.alloc HK0.out.size _);have hz0:(V0.alloc (.cells #[.bool false,.int .i64 0] 96)).heap.size=V0.heap.size+1:=by simp
   have HZ0:=hIz hz0;clear hz0;refine aJ rfl rfl (fun K hK=>?_);go_simp;refine hK _ _ (SR.out _ HK1.out) ?_;clear hK K hS;(try simp only[Act.put,gA,gS,gZ,sA,sZ,sS])
   have hS:=SR.out _ HK1.out;generalize V0.alloc (.cells #[.bool false,.int .i64 0] 96)=V1 at HN0 HK1 HZ0 hS ⊢;refine aH hd 3 ?_;clear hd;intro hd;have HN1:=hIz (show Blk (V1.alloc (.cells #[.bool false,.int .i64 0] 96)) V1.heap.size 96 #[.bool false,.int .i64 0] from Blk.new V1 _ _);have HK2:=hIz (show Below W.heap.size W (V1.alloc (.cells #[.bool false,.int .i64 0] 96)) from HK1.out.alloc HK1.out.size _);have hz1:(V1.alloc (.cells #[.bool false,.int .i64 0] 96)).heap.size=V1.heap.size+1:=by simp
   have HZ1:=hIz hz1;clear hz1;have HO:=hIz (HN0.out.alloc (.cells #[.bool false,.int .i64 0] 96));refine aJ rfl rfl (fun K hK=>?_);go_simp;refine hK _ _ (SR.out _ HK2.out) ?_;clear hK K hS;(try simp only[Act.put,gA,gS,gZ,sA,sZ,sS])
   have hS:=SR.out _ HK2.out;generalize V1.alloc (.cells #[.bool false,.int .i64 0] 96)=V2 at HN1 HK2 HZ1 HO hS ⊢;have HF:=hIz (show Blk V2 V0.heap.size 96 #[.bool false,.int .i64 0]∧Blk V2 V1.heap.size 96 #[.bool false,.int .i64 0] from⟨HO.out,HN1.out⟩);have HB:=HK2;have HAB:=hIz (show W.heap.size≤V0.heap.size∧W.heap.size≤V1.heap.size∧V0.heap.size≠V1.heap.size∧V1.heap.size≠V0.heap.size from by
    have h0:=HK0.out.size;have h1:=HZ0.out;refine⟨by omega,by omega,by omega,by omega⟩)
   clear HK2 HN1 HO HN0 HK1 HZ0 HZ1;generalize V0.heap.size=a at HF HAB ⊢;generalize V1.heap.size=b at HF HAB ⊢;refine aH hd 4 ?_;clear hd;intro hd;have c0:V2.cell? ⟨a,0,none⟩=some (.bool false):=HF.out.1.cell 0;have f0:V2.frozen? ⟨a,0,none⟩=false:=HF.out.1.frozen 0;have ks:=HF.out.1.set 0 (.bool false);have c1:(V2.setCell ⟨a,0,none⟩ (.bool false)).cell? ⟨a,1,none⟩=some (.int .i64 0):=ks.cell 1;have f1:(V2.setCell ⟨a,0,none⟩ (.bool false)).frozen? ⟨a,1,none⟩=false:=ks.frozen 1;have ks2:Blk ((V2.setCell ⟨a,0,none⟩ (.bool false)).setCell ⟨a,1,none⟩ (.int .i64 0)) a 96 #[.bool false,.int .i64 0]:=ks.set 1 (.int .i64 0);have HF2:=hIz (show Blk ((V2.setCell ⟨a,0,none⟩ (.bool false)).setCell ⟨a,1,none⟩ (.int .i64 0)) a 96 #[.bool false,.int .i64 0]∧Blk ((V2.setCell ⟨a,0,none⟩ (.bool false)).setCell ⟨a,1,none⟩ (.int .i64 0)) b 96 #[.bool false,.int .i64 0] from⟨ks2,(HF.out.2.far (p:=⟨a,0,none⟩) HAB.out.2.2.2 _).far (p:=⟨a,1,none⟩) HAB.out.2.2.2 _⟩);have HB2:=hIz (show Below W.heap.size W ((V2.setCell ⟨a,0,none⟩ (.bool false)).setCell ⟨a,1,none⟩ (.int .i64 0)) from(HB.out.setCell (p:=⟨a,0,none⟩) HAB.out.1 _).setCell (p:=⟨a,1,none⟩) HAB.out.1 _);clear ks ks2;refine aJ rfl rfl (fun K hK=>?_);go_simp;refine hK _ _ (SR.out _ HB2.out) ?_;clear hK K c0 c1 f0 f1 HF HB hS;(try simp only[Act.put,gA,gS,gZ,sA,sZ,sS])
   generalize (V2.setCell ⟨a,0,none⟩ (.bool false)).setCell ⟨a,1,none⟩ (.int .i64 0)=V3 at HF2 HB2 ⊢;have HF:=HF2;have HB:=HB2;clear HF2 HB2;have hS:=SR.out _ HB.out;refine aH hd 5 ?_;clear hd;intro hd;have c0:V3.cell? ⟨b,0,none⟩=some (.bool false):=HF.out.2.cell 0;have f0:V3.frozen? ⟨b,0,none⟩=false:=HF.out.2.frozen 0;have ks:=HF.out.2.set 0 (.bool false);have c1:(V3.setCell ⟨b,0,none⟩ (.bool false)).cell? ⟨b,1,none⟩=some (.int .i64 0):=ks.cell 1;have f1:(V3.setCell ⟨b,0,none⟩ (.bool false)).frozen? ⟨b,1,none⟩=false:=ks.frozen 1;have ks2:Blk ((V3.setCell ⟨b,0,none⟩ (.bool false)).setCell ⟨b,1,none⟩ (.int .i64 0)) b 96 #[.bool false,.int .i64 0]:=ks.set 1 (.int .i64 0);have HF2:=hIz (show Blk ((V3.setCell ⟨b,0,none⟩ (.bool false)).setCell ⟨b,1,none⟩ (.int .i64 0)) a 96 #[.bool false,.int .i64 0]∧Blk ((V3.setCell ⟨b,0,none⟩ (.bool false)).setCell ⟨b,1,none⟩ (.int .i64 0)) b 96 #[.bool false,.int .i64 0] from⟨(HF.out.1.far (p:=⟨b,0,none⟩) HAB.out.2.2.1 _).far (p:=⟨b,1,none⟩) HAB.out.2.2.1 _,ks2⟩);have HB2:=hIz (show Below W.heap.size W ((V3.setCell ⟨b,0,none⟩ (.bool false)).setCell ⟨b,1,none⟩ (.int .i64 0)) from(HB.out.setCell (p:=⟨b,0,none⟩) HAB.out.2.1 _).setCell (p:=⟨b,1,none⟩) HAB.out.2.1 _);clear ks ks2;refine aJ rfl rfl (fun K hK=>?_);go_simp;refine hK _ _ (SR.out _ HB2.out) ?_;clear hK K c0 c1 f0 f1 HF HB hS;(try simp only[Act.put,gA,gS,gZ,sA,sZ,sS])
   generalize (V3.setCell ⟨b,0,none⟩ (.bool false)).setCell ⟨b,1,none⟩ (.int .i64 0)=V4 at HF2 HB2 ⊢;have HF:=HF2;have HB:=HB2;clear HF2 HB2;have hS:=SR.out _ HB.out;refine cX (by kernel_rfl) ?_;clear hd hS;dsimp only [jR]
   go_wp2;go_meet
   case rel=>exact⟨a,b,rfl,rfl,hIz (XK HI.out HB.out HF.out.1 HF.out.2 HAB.out.1 HAB.out.2.1 HAB.out.2.2.1)⟩
  ·have HN0:=hIz (show Blk (V0.alloc (.cells #[.bool false,.int .i64 0] 96)) V0.heap.size 96 #[.bool false,.int .i64 0] from Blk.new V0 _ _);have HK1:=hIz (show Below W.heap.size W (V0.alloc (.cells #[.bool false,.int .i64 0] 96)) from HK0.out.alloc HK0.out.size _);have hz0:(V0.alloc (.cells #[.bool false,.int .i64 0] 96)).heap.size=V0.heap.size+1:=by simp
   have HZ0:=hIz hz0;clear hz0;refine aJ rfl rfl (fun K hK=>?_);go_simp;refine hK _ _ (SR.out _ HK1.out) ?_;clear hK K hS;(try simp only[Act.put,gA,gS,gZ,sA,sZ,sS])
   have hS:=SR.out _ HK1.out;generalize V0.alloc (.cells #[.bool false,.int .i64 0] 96)=V1 at HN0 HK1 HZ0 hS ⊢;refine aH hd 2 ?_;clear hd;intro hd;have HN1:=hIz (show Blk (V1.alloc (.cells #[.bool false,.int .i64 0] 96)) V1.heap.size 96 #[.bool false,.int .i64 0] from Blk.new V1 _ _);have HK2:=hIz (show Below W.heap.size W (V1.alloc (.cells #[.bool false,.int .i64 0] 96)) from HK1.out.alloc HK1.out.size _);have hz1:(V1.alloc (.cells #[.bool false,.int .i64 0] 96)).heap.size=V1.heap.size+1:=by simp
   have HZ1:=hIz hz1;clear hz1;have HO:=hIz (HN0.out.alloc (.cells #[.bool false,.int .i64 0] 96));refine aJ rfl rfl (fun K hK=>?_);go_simp;refine hK _ _ (SR.out _ HK2.out) ?_;clear hK K hS;(try simp only[Act.put,gA,gS,gZ,sA,sZ,sS])
   have hS:=SR.out _ HK2.out;generalize V1.alloc (.cells #[.bool false,.int .i64 0] 96)=V2 at HN1 HK2 HZ1 HO hS ⊢;have HF:=hIz (show Blk V2 V1.heap.size 96 #[.bool false,.int .i64 0]∧Blk V2 V0.heap.size 96 #[.bool false,.int .i64 0] from⟨HN1.out,HO.out⟩);have HB:=HK2;have HAB:=hIz (show W.heap.size≤V1.heap.size∧W.heap.size≤V0.heap.size∧V1.heap.size≠V0.heap.size∧V0.heap.size≠V1.heap.size from by
    have h0:=HK0.out.size;have h1:=HZ0.out;refine⟨by omega,by omega,by omega,by omega⟩)
   clear HK2 HN1 HO HN0 HK1 HZ0 HZ1;generalize V0.heap.size=b at HF HAB ⊢;generalize V1.heap.size=a at HF HAB ⊢;refine aH hd 4 ?_;clear hd;intro hd;have c0:V2.cell? ⟨a,0,none⟩=some (.bool false):=HF.out.1.cell 0;have f0:V2.frozen? ⟨a,0,none⟩=false:=HF.out.1.frozen 0;have ks:=HF.out.1.set 0 (.bool false);have c1:(V2.setCell ⟨a,0,none⟩ (.bool false)).cell? ⟨a,1,none⟩=some (.int .i64 0):=ks.cell 1;have f1:(V2.setCell ⟨a,0,none⟩ (.bool false)).frozen? ⟨a,1,none⟩=false:=ks.frozen 1;have ks2:Blk ((V2.setCell ⟨a,0,none⟩ (.bool false)).setCell ⟨a,1,none⟩ (.int .i64 0)) a 96 #[.bool false,.int .i64 0]:=ks.set 1 (.int .i64 0);have HF2:=hIz (show Blk ((V2.setCell ⟨a,0,none⟩ (.bool false)).setCell ⟨a,1,none⟩ (.int .i64 0)) a 96 #[.bool false,.int .i64 0]∧Blk ((V2.setCell ⟨a,0,none⟩ (.bool false)).setCell ⟨a,1,none⟩ (.int .i64 0)) b 96 #[.bool false,.int .i64 0] from⟨ks2,(HF.out.2.far (p:=⟨a,0,none⟩) HAB.out.2.2.2 _).far (p:=⟨a,1,none⟩) HAB.out.2.2.2 _⟩);have HB2:=hIz (show Below W.heap.size W ((V2.setCell ⟨a,0,none⟩ (.bool false)).setCell ⟨a,1,none⟩ (.int .i64 0)) from(HB.out.setCell (p:=⟨a,0,none⟩) HAB.out.1 _).setCell (p:=⟨a,1,none⟩) HAB.out.1 _);clear ks ks2;refine aJ rfl rfl (fun K hK=>?_);go_simp;refine hK _ _ (SR.out _ HB2.out) ?_;clear hK K c0 c1 f0 f1 HF HB hS;(try simp only[Act.put,gA,gS,gZ,sA,sZ,sS])
   generalize (V2.setCell ⟨a,0,none⟩ (.bool false)).setCell ⟨a,1,none⟩ (.int .i64 0)=V3 at HF2 HB2 ⊢;have HF:=HF2;have HB:=HB2;clear HF2 HB2;have hS:=SR.out _ HB.out;refine aH hd 5 ?_;clear hd;intro hd;have c0:V3.cell? ⟨b,0,none⟩=some (.bool false):=HF.out.2.cell 0;have f0:V3.frozen? ⟨b,0,none⟩=false:=HF.out.2.frozen 0;have ks:=HF.out.2.set 0 (.bool false);have c1:(V3.setCell ⟨b,0,none⟩ (.bool false)).cell? ⟨b,1,none⟩=some (.int .i64 0):=ks.cell 1;have f1:(V3.setCell ⟨b,0,none⟩ (.bool false)).frozen? ⟨b,1,none⟩=false:=ks.frozen 1;have ks2:Blk ((V3.setCell ⟨b,0,none⟩ (.bool false)).setCell ⟨b,1,none⟩ (.int .i64 0)) b 96 #[.bool false,.int .i64 0]:=ks.set 1 (.int .i64 0);have HF2:=hIz (show Blk ((V3.setCell ⟨b,0,none⟩ (.bool false)).setCell ⟨b,1,none⟩ (.int .i64 0)) a 96 #[.bool false,.int .i64 0]∧Blk ((V3.setCell ⟨b,0,none⟩ (.bool false)).setCell ⟨b,1,none⟩ (.int .i64 0)) b 96 #[.bool false,.int .i64 0] from⟨(HF.out.1.far (p:=⟨b,0,none⟩) HAB.out.2.2.1 _).far (p:=⟨b,1,none⟩) HAB.out.2.2.1 _,ks2⟩);have HB2:=hIz (show Below W.heap.size W ((V3.setCell ⟨b,0,none⟩ (.bool false)).setCell ⟨b,1,none⟩ (.int .i64 0)) from(HB.out.setCell (p:=⟨b,0,none⟩) HAB.out.2.1 _).setCell (p:=⟨b,1,none⟩) HAB.out.2.1 _);clear ks ks2;refine aJ rfl rfl (fun K hK=>?_);go_simp;refine hK _ _ (SR.out _ HB2.out) ?_;clear hK K c0 c1 f0 f1 HF HB hS;(try simp only[Act.put,gA,gS,gZ,sA,sZ,sS])
   generalize (V3.setCell ⟨b,0,none⟩ (.bool false)).setCell ⟨b,1,none⟩ (.int .i64 0)=V4 at HF2 HB2 ⊢;have HF:=HF2;have HB:=HB2;clear HF2 HB2;have hS:=SR.out _ HB.out;refine cX (by kernel_rfl) ?_;clear hd hS;dsimp only [jR]
   go_wp2;go_meet
   case rel=>exact⟨a,b,rfl,rfl,hIz (XK HI.out HB.out HF.out.1 HF.out.2 HAB.out.1 HAB.out.2.1 HAB.out.2.2.1)⟩
 case rest =>
  obtain⟨g3,g4,rfl,rfl,hc⟩:=hcut;clear HI;have c31:wc.cell? ⟨g3,1,none⟩=some (.int .i64 0):=hc.out.2.2.2.2.1.cell 1;have f31:=hc.out.2.2.2.2.1.frozen 1;have k4:=hc.out.2.2.2.2.2.1.far (p:=⟨g3,1,none⟩) hc.out.2.2.2.2.2.2.2.2.symm (.int .i64 1);have c41:(wc.setCell ⟨g3,1,none⟩ (.int .i64 1)).cell? ⟨g4,1,none⟩=some (.int .i64 0):=k4.cell 1;have f41:=k4.frozen 1;have FX:=hIz (show Below w.heap.size w ((wc.setCell ⟨g3,1,none⟩ (.int .i64 1)).setCell ⟨g4,1,none⟩ (.int .i64 2))∧Blk ((wc.setCell ⟨g3,1,none⟩ (.int .i64 1)).setCell ⟨g4,1,none⟩ (.int .i64 2)) w.heap.size 50 #[.int .i64 0,.slice none 0 0] ∧
    Blk ((wc.setCell ⟨g3,1,none⟩ (.int .i64 1)).setCell ⟨g4,1,none⟩ (.int .i64 2)) (w.heap.size+1) 96 #[.bool false,.int .i64 0]∧Blk ((wc.setCell ⟨g3,1,none⟩ (.int .i64 1)).setCell ⟨g4,1,none⟩ (.int .i64 2)) (w.heap.size+1+1) 96 #[.bool true,.int .i64 0] ∧
    Blk ((wc.setCell ⟨g3,1,none⟩ (.int .i64 1)).setCell ⟨g4,1,none⟩ (.int .i64 2)) g3 96 #[.bool false,.int .i64 1]∧Blk ((wc.setCell ⟨g3,1,none⟩ (.int .i64 1)).setCell ⟨g4,1,none⟩ (.int .i64 2)) g4 96 #[.bool false,.int .i64 2] from by
   obtain⟨i1,i2,i3,i4,i5,i6,i7,i8,i9⟩:=hc.out;have u:Upd (fun k=>k=g3∨k=g4) wc ((wc.setCell ⟨g3,1,none⟩ (.int .i64 1)).setCell ⟨g4,1,none⟩ (.int .i64 2)):=((Upd.refl _ wc).setCell (p:=⟨g3,1,none⟩) (.inl (.inl rfl)) _).setCell (p:=⟨g4,1,none⟩) (.inl (.inr rfl)) _;exact⟨i1.trans (u.below (fun k _ hk=>by rcases hk with e | e <;> omega) i1.size),i2.upd u (by omega),i3.upd u (by omega),i4.upd u (by omega),(i5.set 1 (.int .i64 1)).far (p:=⟨g4,1,none⟩) i9 _,k4.set 1 (.int .i64 2)⟩)
  clear k4 hc;go_upto_region 4 with (fail);clear c31 f31 c41 f41;generalize (wc.setCell ⟨g3,1,none⟩ (.int .i64 1)).setCell ⟨g4,1,none⟩ (.int .i64 2)=W3 at FX ⊢;have c20:W3.cell? ⟨w.heap.size+1+1,0,none⟩=some (.bool true):=FX.out.2.2.2.1.cell 0;have c21:W3.cell? ⟨w.heap.size+1+1,1,none⟩=some (.int .i64 0):=FX.out.2.2.2.1.cell 1;have k5:=Blk.new W3 96 #[.bool true,.int .i64 0];have c51:(W3.alloc (.cells #[.bool true,.int .i64 0] 96)).cell? ⟨W3.heap.size,1,none⟩=some (.int .i64 0):=k5.cell 1;have f51:=k5.frozen 1;have F5:=hIz (show Below w.heap.size w (W3.alloc (.cells #[.bool true,.int .i64 1] 96))∧Blk (W3.alloc (.cells #[.bool true,.int .i64 1] 96)) w.heap.size 50 #[.int .i64 0,.slice none 0 0] ∧
    Blk (W3.alloc (.cells #[.bool true,.int .i64 1] 96)) (w.heap.size+1) 96 #[.bool false,.int .i64 0]∧Blk (W3.alloc (.cells #[.bool true,.int .i64 1] 96)) (w.heap.size+1+1) 96 #[.bool true,.int .i64 0] ∧
    Blk (W3.alloc (.cells #[.bool true,.int .i64 1] 96)) g3 96 #[.bool false,.int .i64 1]∧Blk (W3.alloc (.cells #[.bool true,.int .i64 1] 96)) g4 96 #[.bool false,.int .i64 2]∧Blk (W3.alloc (.cells #[.bool true,.int .i64 1] 96)) W3.heap.size 96 #[.bool true,.int .i64 1] from by
   obtain⟨i1,i2,i3,i4,i5,i6⟩:=FX.out;have b:Below W3.heap.size W3 (W3.alloc (.cells #[.bool true,.int .i64 1] 96)):=by(repeat (first | exact Below.refl _ _ | apply Below.drew | refine Below.alloc ?_ (by first | exact Nat.le_refl _ | (simp;done) | (simp;omega)) _ | refine Below.setCell ?_ (by first | exact Nat.le_refl _ | (simp;done) | (simp;omega)) _))
   have u:=Upd.of_below b (fun _=>False);exact⟨tHn i1 b,i2.upd u id,i3.upd u id,i4.upd u id,i5.upd u id,i6.upd u id,Blk.new W3 _ _⟩)
  clear k5 FX;go_upto_region 6 with (fail);clear c20 c21 c51 f51;generalize W3.alloc (.cells #[.bool true,.int .i64 1] 96)=W5 at F5 ⊢;generalize W3.heap.size=g5 at F5 ⊢;obtain⟨i1,i2,i3,i4,i5,i6,i7⟩:=F5.out;have a30:W5.cell? ⟨g3,0,none⟩=some (.bool false):=i5.cell 0;have a31:W5.cell? ⟨g3,1,none⟩=some (.int .i64 1):=i5.cell 1;have a40:W5.cell? ⟨g4,0,none⟩=some (.bool false):=i6.cell 0;have a41:W5.cell? ⟨g4,1,none⟩=some (.int .i64 2):=i6.cell 1;have j4:=i4.alloc (.cells #[.bool false,.int .i64 1,.bool false,.int .i64 2] 96);have a20:(W5.alloc (.cells #[.bool false,.int .i64 1,.bool false,.int .i64 2] 96)).cell? ⟨w.heap.size+1+1,0,none⟩=some (.bool true):=j4.cell 0;have a21:(W5.alloc (.cells #[.bool false,.int .i64 1,.bool false,.int .i64 2] 96)).cell? ⟨w.heap.size+1+1,1,none⟩=some (.int .i64 0):=j4.cell 1;have j1:=(i3.alloc (.cells #[.bool false,.int .i64 1,.bool false,.int .i64 2] 96)).alloc (.cells #[.bool true,.int .i64 0] 96);have j6:=(i6.alloc (.cells #[.bool false,.int .i64 1,.bool false,.int .i64 2] 96)).alloc (.cells #[.bool true,.int .i64 0] 96);have a10:=j1.cell 0;have a11:=j1.cell 1;have a60:=j6.cell 0;have a61:=j6.cell 1;have j7:=((i7.alloc (.cells #[.bool false,.int .i64 1,.bool false,.int .i64 2] 96)).alloc (.cells #[.bool true,.int .i64 0] 96)).alloc (.cells #[.bool false,.int .i64 0,.bool false,.int .i64 2] 96);have a70:=j7.cell 0;have a71:=j7.cell 1;simp only[List.getElem?_toArray,List.getElem?_cons_zero,List.getElem?_cons_succ] at a10 a11 a60 a61 a70 a71
  have kz:=((((i2.alloc (.cells #[.bool false,.int .i64 1,.bool false,.int .i64 2] 96)).alloc (.cells #[.bool true,.int .i64 0] 96)).alloc (.cells #[.bool false,.int .i64 0,.bool false,.int .i64 2] 96)).alloc (.cells #[.bool true,.int .i64 1] 96)).alloc (.cells #[.int .i64 0,.slice (some ⟨W5.heap.size,0,none⟩) 2 2,.int .i64 1,.slice (some ⟨W5.heap.size+1,0,none⟩) 1 1,.int .i64 2,.slice (some ⟨W5.heap.size+1+1,0,none⟩) 2 2,.int .i64 2,.slice (some ⟨W5.heap.size+1+1+1,0,none⟩) 1 1] 71);have z0:=kz.cell 0;have fz0:=kz.frozen 0;have kz1:=kz.set 0 (.int .i64 3);have z1:=kz1.cell 1;have fz1:=kz1.frozen 1;have kz2:=kz1.set 1 (.slice (some ⟨W5.heap.size+1+1+1+1,0,none⟩) 4 4);have y0:=kz2.cell 0;have y1:=kz2.cell 1;simp only[List.getElem?_toArray,List.setIfInBounds_toArray,List.set_cons_zero,List.set_cons_succ,List.getElem?_cons_zero,List.getElem?_cons_succ] at z0 z1 y0 y1
  have hfar:∀k,w.heap.size+1≤k→¬k=w.heap.size:=fun k h=>by omega
  have hn5:w.heap.size+1≤W5.heap.size:=by have:=i4.lt;omega
  have FIN:=hIz (show PC w (.returned (.agg #[.int .i64 3,(.slice (some ⟨W5.heap.size+1+1+1+1,0,none⟩) 4 4)])) (((((((W5.alloc (.cells #[.bool false,.int .i64 1,.bool false,.int .i64 2] 96)).alloc (.cells #[.bool true,.int .i64 0] 96)).alloc (.cells #[.bool false,.int .i64 0,.bool false,.int .i64 2] 96)).alloc (.cells #[.bool true,.int .i64 1] 96)).alloc (.cells #[.int .i64 0,.slice (some ⟨W5.heap.size,0,none⟩) 2 2,.int .i64 1,.slice (some ⟨W5.heap.size+1,0,none⟩) 1 1,.int .i64 2,.slice (some ⟨W5.heap.size+1+1,0,none⟩) 2 2,.int .i64 2,.slice (some ⟨W5.heap.size+1+1+1,0,none⟩) 1 1] 71)).setCell ⟨w.heap.size,0,none⟩ (.int .i64 3)).setCell ⟨w.heap.size,1,none⟩ (.slice (some ⟨W5.heap.size+1+1+1+1,0,none⟩) 4 4)) from by
   have b16:=(((((Blk.new W5 96 #[.bool false,.int .i64 1,.bool false,.int .i64 2]).alloc (.cells #[.bool true,.int .i64 0] 96)).alloc (.cells #[.bool false,.int .i64 0,.bool false,.int .i64 2] 96)).alloc (.cells #[.bool true,.int .i64 1] 96)).alloc (.cells #[.int .i64 0,.slice (some ⟨W5.heap.size,0,none⟩) 2 2,.int .i64 1,.slice (some ⟨W5.heap.size+1,0,none⟩) 1 1,.int .i64 2,.slice (some ⟨W5.heap.size+1+1,0,none⟩) 2 2,.int .i64 2,.slice (some ⟨W5.heap.size+1+1+1,0,none⟩) 1 1] 71));have b19:=((((Blk.new (W5.alloc (.cells #[.bool false,.int .i64 1,.bool false,.int .i64 2] 96)) 96 #[.bool true,.int .i64 0]).alloc (.cells #[.bool false,.int .i64 0,.bool false,.int .i64 2] 96)).alloc (.cells #[.bool true,.int .i64 1] 96)).alloc (.cells #[.int .i64 0,.slice (some ⟨W5.heap.size,0,none⟩) 2 2,.int .i64 1,.slice (some ⟨W5.heap.size+1,0,none⟩) 1 1,.int .i64 2,.slice (some ⟨W5.heap.size+1+1,0,none⟩) 2 2,.int .i64 2,.slice (some ⟨W5.heap.size+1+1+1,0,none⟩) 1 1] 71));have b23:=(((Blk.new ((W5.alloc (.cells #[.bool false,.int .i64 1,.bool false,.int .i64 2] 96)).alloc (.cells #[.bool true,.int .i64 0] 96)) 96 #[.bool false,.int .i64 0,.bool false,.int .i64 2]).alloc (.cells #[.bool true,.int .i64 1] 96)).alloc (.cells #[.int .i64 0,.slice (some ⟨W5.heap.size,0,none⟩) 2 2,.int .i64 1,.slice (some ⟨W5.heap.size+1,0,none⟩) 1 1,.int .i64 2,.slice (some ⟨W5.heap.size+1+1,0,none⟩) 2 2,.int .i64 2,.slice (some ⟨W5.heap.size+1+1+1,0,none⟩) 1 1] 71));have b26:=((Blk.new (((W5.alloc (.cells #[.bool false,.int .i64 1,.bool false,.int .i64 2] 96)).alloc (.cells #[.bool true,.int .i64 0] 96)).alloc (.cells #[.bool false,.int .i64 0,.bool false,.int .i64 2] 96)) 96 #[.bool true,.int .i64 1]).alloc (.cells #[.int .i64 0,.slice (some ⟨W5.heap.size,0,none⟩) 2 2,.int .i64 1,.slice (some ⟨W5.heap.size+1,0,none⟩) 1 1,.int .i64 2,.slice (some ⟨W5.heap.size+1+1,0,none⟩) 2 2,.int .i64 2,.slice (some ⟨W5.heap.size+1+1+1,0,none⟩) 1 1] 71))
   have b28:=Blk.new ((((W5.alloc (.cells #[.bool false,.int .i64 1,.bool false,.int .i64 2] 96)).alloc (.cells #[.bool true,.int .i64 0] 96)).alloc (.cells #[.bool false,.int .i64 0,.bool false,.int .i64 2] 96)).alloc (.cells #[.bool true,.int .i64 1] 96)) 71 #[.int .i64 0,.slice (some ⟨W5.heap.size,0,none⟩) 2 2,.int .i64 1,.slice (some ⟨W5.heap.size+1,0,none⟩) 1 1,.int .i64 2,.slice (some ⟨W5.heap.size+1+1,0,none⟩) 2 2,.int .i64 2,.slice (some ⟨W5.heap.size+1+1+1,0,none⟩) 1 1];simp only[World.size_alloc] at b19 b23 b26 b28
   have d16:=(b16.far (p:=⟨w.heap.size,0,none⟩) (by show ¬W5.heap.size=w.heap.size;omega) (.int .i64 3)).far (p:=⟨w.heap.size,1,none⟩) (by show ¬W5.heap.size=w.heap.size;omega) (.slice (some ⟨W5.heap.size+1+1+1+1,0,none⟩) 4 4);have d19:=(b19.far (p:=⟨w.heap.size,0,none⟩) (by show ¬W5.heap.size+1=w.heap.size;omega) (.int .i64 3)).far (p:=⟨w.heap.size,1,none⟩) (by show ¬W5.heap.size+1=w.heap.size;omega) (.slice (some ⟨W5.heap.size+1+1+1+1,0,none⟩) 4 4);have d23:=(b23.far (p:=⟨w.heap.size,0,none⟩) (by show ¬W5.heap.size+1+1=w.heap.size;omega) (.int .i64 3)).far (p:=⟨w.heap.size,1,none⟩) (by show ¬W5.heap.size+1+1=w.heap.size;omega) (.slice (some ⟨W5.heap.size+1+1+1+1,0,none⟩) 4 4);have d26:=(b26.far (p:=⟨w.heap.size,0,none⟩) (by show ¬W5.heap.size+1+1+1=w.heap.size;omega) (.int .i64 3)).far (p:=⟨w.heap.size,1,none⟩) (by show ¬W5.heap.size+1+1+1=w.heap.size;omega) (.slice (some ⟨W5.heap.size+1+1+1+1,0,none⟩) 4 4);have d28:=(b28.far (p:=⟨w.heap.size,0,none⟩) (by show ¬W5.heap.size+1+1+1+1=w.heap.size;omega) (.int .i64 3)).far (p:=⟨w.heap.size,1,none⟩) (by show ¬W5.heap.size+1+1+1+1=w.heap.size;omega) (.slice (some ⟨W5.heap.size+1+1+1+1,0,none⟩) 4 4);have hb:Below W5.heap.size W5 (((((W5.alloc (.cells #[.bool false,.int .i64 1,.bool false,.int .i64 2] 96)).alloc (.cells #[.bool true,.int .i64 0] 96)).alloc (.cells #[.bool false,.int .i64 0,.bool false,.int .i64 2] 96)).alloc (.cells #[.bool true,.int .i64 1] 96)).alloc (.cells #[.int .i64 0,.slice (some ⟨W5.heap.size,0,none⟩) 2 2,.int .i64 1,.slice (some ⟨W5.heap.size+1,0,none⟩) 1 1,.int .i64 2,.slice (some ⟨W5.heap.size+1+1,0,none⟩) 2 2,.int .i64 2,.slice (some ⟨W5.heap.size+1+1+1,0,none⟩) 1 1] 71)):=by(repeat (first | exact Below.refl _ _ | apply Below.drew | refine Below.alloc ?_ (by first | exact Nat.le_refl _ | (simp;done) | (simp;omega)) _ | refine Below.setCell ?_ (by first | exact Nat.le_refl _ | (simp;done) | (simp;omega)) _))
   have hb9:Below w.heap.size w (((((((W5.alloc (.cells #[.bool false,.int .i64 1,.bool false,.int .i64 2] 96)).alloc (.cells #[.bool true,.int .i64 0] 96)).alloc (.cells #[.bool false,.int .i64 0,.bool false,.int .i64 2] 96)).alloc (.cells #[.bool true,.int .i64 1] 96)).alloc (.cells #[.int .i64 0,.slice (some ⟨W5.heap.size,0,none⟩) 2 2,.int .i64 1,.slice (some ⟨W5.heap.size+1,0,none⟩) 1 1,.int .i64 2,.slice (some ⟨W5.heap.size+1+1,0,none⟩) 2 2,.int .i64 2,.slice (some ⟨W5.heap.size+1+1+1,0,none⟩) 1 1] 71)).setCell ⟨w.heap.size,0,none⟩ (.int .i64 3)).setCell ⟨w.heap.size,1,none⟩ (.slice (some ⟨W5.heap.size+1+1+1+1,0,none⟩) 4 4)):=((tHn i1 hb).setCell (p:=⟨w.heap.size,0,none⟩) (Nat.le_refl _) _).setCell (p:=⟨w.heap.size,1,none⟩) (Nat.le_refl _) _;refine⟨W5.heap.size+1+1+1+1,4,[⟨⟨0,[⟨false,1⟩,⟨false,2⟩]⟩,some ⟨W5.heap.size,0,none⟩,2⟩,⟨⟨1,[⟨true,0⟩]⟩,some ⟨W5.heap.size+1,0,none⟩,1⟩,⟨⟨2,[⟨false,0⟩,⟨false,2⟩]⟩,some ⟨W5.heap.size+1+1,0,none⟩,2⟩,⟨⟨2,[⟨true,1⟩]⟩,some ⟨W5.heap.size+1+1+1,0,none⟩,1⟩],rfl,⟨gD d28,fun v hv=>?_⟩,rfl,hb9⟩;simp only[List.mem_cons,List.not_mem_nil,or_false] at hv
   rcases hv with rfl|rfl|rfl|rfl
   ·exact gD d16
   ·exact gD d19
   ·exact gD d23
   ·exact gD d26)
  clear i1 i2 i3 i4 i5 i6 i7 j4 j1 j6 j7 kz kz1 kz2 hfar hn5;go_wp2;generalize (((((((W5.alloc (.cells #[.bool false,.int .i64 1,.bool false,.int .i64 2] 96)).alloc (.cells #[.bool true,.int .i64 0] 96)).alloc (.cells #[.bool false,.int .i64 0,.bool false,.int .i64 2] 96)).alloc (.cells #[.bool true,.int .i64 1] 96)).alloc (.cells #[.int .i64 0,.slice (some ⟨W5.heap.size,0,none⟩) 2 2,.int .i64 1,.slice (some ⟨W5.heap.size+1,0,none⟩) 1 1,.int .i64 2,.slice (some ⟨W5.heap.size+1+1,0,none⟩) 2 2,.int .i64 2,.slice (some ⟨W5.heap.size+1+1+1,0,none⟩) 1 1] 71)).setCell ⟨w.heap.size,0,none⟩ (.int .i64 3)).setCell ⟨w.heap.size,1,none⟩ (.slice (some ⟨W5.heap.size+1+1+1+1,0,none⟩) 4 4))=WF at FIN y0 y1 ⊢;refine bodyPost_ret (v:=.agg #[.int .i64 3,(.slice (some ⟨W5.heap.size+1+1+1+1,0,none⟩) 4 4)]) (by simp[results,Tryz.f78,go_sem,y0,y1]) rfl FIN.out
open Go.RowKit Go.Shelf
def sX:Txt:=⟨#[120]⟩
def sY:Txt:=⟨#[121]⟩
def sZq:Txt:=⟨#[122]⟩
def sAq:Txt:=⟨#[97]⟩
def sB:Txt:=⟨#[98]⟩
def ed1:Ed:=⟨sX,sAq,sY⟩
def ed2:Ed:=⟨sY,sB,sZq⟩
def gr1:Gr:=⟨[sX,sY],[ed1]⟩
def gr2:Gr:=⟨[sX,sY,sZq],[ed1,ed2]⟩
theorem WQ:ofI [] [ed1]=0:=by
 have h1:gN [] [ed1]=[sX,sY]:=by
  refine gM eX (by decide +kernel) (fun x=>?_);simp only[rY,ed1,gW,List.flatMap_cons,List.flatMap_nil,List.mem_append,List.mem_cons,List.not_mem_nil,or_false]
  constructor
  ·rintro (rfl|rfl) <;> simp
  ·rintro (h|(rfl|rfl)) <;> simp_all
 have h2:gE [ed1]=[ed1]:=gM qH rfl (fun _=>Iff.rfl);have h3:dM ltT (lbs [ed1])=[sAq]:=gM eX rfl (fun x=>by simp[lbs,ed1]);rw[ofI,if_neg (by decide +kernel),h1,h2,cG,h3];rw[if_neg (by decide),if_neg (by decide),if_neg (by decide),if_neg (Nat.not_lt.2 (by unfold kR cB;decide +kernel))]
theorem WR:ofI [sX,sY] [ed1,ed2]=0:=by
 have h1:gN [sX,sY] [ed1,ed2]=[sX,sY,sZq]:=by
  refine gM eX (by decide +kernel) (fun x=>?_);simp only[rY,ed1,ed2,gW,List.flatMap_cons,List.flatMap_nil,List.mem_append,List.mem_cons,List.not_mem_nil,or_false]
  constructor
  ·rintro (rfl|rfl|rfl) <;> simp
  ·rintro ((rfl|rfl)|((rfl|rfl)|(rfl|rfl))) <;> simp
 have h2:gE [ed1,ed2]=[ed1,ed2]:=gM qH (by decide +kernel) (fun _=>Iff.rfl);have h3:dM ltT (lbs [ed1,ed2])=[sAq,sB]:=gM eX (by decide +kernel) (fun x=>by simp[lbs,ed1,ed2]);rw[ofI,if_neg (by decide +kernel),h1,h2,cG,h3];rw[if_neg (by decide),if_neg (by decide),if_neg (by decide),if_neg (Nat.not_lt.2 (by unfold kR cB;decide +kernel))]
theorem tR{N:List Txt}{s:Txt}(h:inB s N=false):cU N s=N++[s]:=by
 unfold cU;rw[h];rfl
theorem NJ{N:List Txt}{s:Txt}(h:inB s N=true):cU N s=N:=by
 unfold cU;rw[h];rfl
theorem UO:aX ⟨[],[]⟩ ed1=(gr1,true,0):=by
 rw[pE (by simp) WQ];have h1:cU [] sX=[sX]:=tR (by decide +kernel);have h2:cU [sX] sY=[sX,sY]:=tR (by decide +kernel);show((⟨cU (cU [] sX) sY,[]++[ed1]⟩:Gr),true,(0:Int))=_
 rw[h1,h2];rfl
theorem UQ:aX gr1 ed2=(gr2,true,0):=by
 rw[pE (by show ed2 ∉ [ed1];simp[ed1,ed2];decide +kernel) WR];have h1:cU [sX,sY] sY=[sX,sY]:=NJ (by decide +kernel);have h2:cU [sX,sY] sZq=[sX,sY,sZq]:=tR (by decide +kernel);show((⟨cU (cU [sX,sY] sY) sZq,[ed1]++[ed2]⟩:Gr),true,(0:Int))=_
 rw[h1,h2];rfl
theorem AW{i:Nat}{s:Txt}(h:gr2.N[i]?=some s):(i=0∧s=sX)∨(i=1∧s=sY)∨(i=2∧s=sZq):=by
 match i,h with
 | 0,h=>exact .inl ⟨rfl,(Option.some.inj h).symm⟩
 | 1,h=>exact .inr (.inl ⟨rfl,(Option.some.inj h).symm⟩)
 | 2,h=>exact .inr (.inr ⟨rfl,(Option.some.inj h).symm⟩)
 | n+3,h=>simp[gr2] at h
theorem RW:sX≠sY:=by decide +kernel
theorem UR:sX≠sZq:=by decide +kernel
theorem RX:sY≠sZq:=by decide +kernel
theorem UT:sAq≠sB:=by decide +kernel
theorem XS{i j:Nat}(h:ElG gr2 [sAq,sB] 0 i j):i=0∧j=1:=by
 obtain⟨lb,hl,x,hx,he,h1,h2⟩:=h;obtain rfl:sAq=lb:=Option.some.inj hl;have hx:x∈[ed1,ed2]:=hx;simp only[List.mem_cons,List.not_mem_nil,or_false] at hx
 rcases hx with rfl|rfl
 ·have h1:gr2.N[i]?=some sX:=h1;have h2:gr2.N[j]?=some sY:=h2;refine⟨?_,?_⟩
  ·rcases AW h1 with ⟨e,-⟩|⟨-,e⟩|⟨-,e⟩
   ·exact e
   ·exact absurd e RW
   ·exact absurd e UR
  ·rcases AW h2 with ⟨-,e⟩|⟨e,-⟩|⟨-,e⟩
   ·exact absurd e.symm RW
   ·exact e
   ·exact absurd e RX
 ·exact absurd he.symm UT
theorem XT{i j:Nat}(h:ElG gr2 [sAq,sB] 1 i j):i=1∧j=2:=by
 obtain⟨lb,hl,x,hx,he,h1,h2⟩:=h;obtain rfl:sB=lb:=Option.some.inj hl;have hx:x∈[ed1,ed2]:=hx;simp only[List.mem_cons,List.not_mem_nil,or_false] at hx
 rcases hx with rfl|rfl
 ·exact absurd he UT
 ·have h1:gr2.N[i]?=some sY:=h1;have h2:gr2.N[j]?=some sZq:=h2;refine⟨?_,?_⟩
  ·rcases AW h1 with ⟨-,e⟩|⟨e,-⟩|⟨-,e⟩
   ·exact absurd e.symm RW
   ·exact e
   ·exact absurd e RX
  ·rcases AW h2 with ⟨-,e⟩|⟨-,e⟩|⟨e,-⟩
   ·exact absurd e.symm UR
   ·exact absurd e.symm RX
   ·exact e
def fO(a:Int)(i j:Nat):Prop:=(a=1∧i=0∧j=1)∨(a=2∧i=1∧j=2)∨(a=0∧i=0∧j=2)
theorem WS{a:Int}{i j:Nat}:qD fQ (ElG gr2 [sAq,sB]) 3 a i j↔fO a i j:=by
 have d1:qD fQ (ElG gr2 [sAq,sB]) 3 1 0 1:=.one (s:=⟨true,0⟩) (by simp[fQ]) ⟨sAq,rfl,ed1,by simp[gr2],rfl,rfl,rfl⟩;have d2:qD fQ (ElG gr2 [sAq,sB]) 3 2 1 2:=.one (s:=⟨true,1⟩) (by simp[fQ]) ⟨sB,rfl,ed2,by simp[gr2],rfl,rfl,rfl⟩;constructor
 ·intro d;have hc:wC fQ (ElG gr2 [sAq,sB]) 3 fO:=by
   refine⟨fun a i h=>?_,fun a s i j h he=>?_,fun a s t i k j h h1 h2=>?_⟩
   ·simp[fQ] at h
   ·simp only[fQ,List.mem_cons,List.not_mem_nil,or_false,Pr.mk.injEq,List.cons.injEq] at h
    rcases h with ⟨-,-,h⟩|⟨rfl,rfl,-⟩|⟨-,-,h⟩|⟨rfl,rfl,-⟩
    ·cases h
    ·exact .inl ⟨rfl,XS he⟩
    ·cases h
    ·exact .inr (.inl ⟨rfl,XT he⟩)
   ·simp only[fQ,List.mem_cons,List.not_mem_nil,or_false,Pr.mk.injEq,List.cons.injEq] at h
    rcases h with ⟨rfl,rfl,rfl,-⟩|⟨-,-,h⟩|⟨rfl,rfl,rfl,-⟩|⟨-,-,h⟩
    ·unfold fO at h1 h2 ⊢;dsimp only at h1 h2
     omega
    ·cases h
    ·unfold fO at h1 h2 ⊢;dsimp only at h1 h2
     omega
    ·cases h
  exact hc.least d
 ·rintro (⟨rfl,rfl,rfl⟩|⟨rfl,rfl,rfl⟩|⟨rfl,rfl,rfl⟩)
  ·exact d1
  ·exact d2
  ·exact .two (s:=⟨false,1⟩) (t:=⟨false,2⟩) (by simp[fQ]) d1 d2
theorem UU{r s:List Nat}(hr:Wd r)(hs:Wd s)(h:∀i j,i<64→gC r i j=gC s i j):r=s:=by
 apply List.ext_getElem?
 intro i;by_cases hi:i<64
 ·have h1:r[i]?=some (r[i]?.getD 0):=by rw[gEz (by rw[hr.len];exact hi)];rfl
  have h2:s[i]?=some (s[i]?.getD 0):=by rw[gEz (by rw[hs.len];exact hi)];rfl
  rw[h1,h2];exact congrArg some (Nat.eq_of_testBit_eq (fun j=>h i j hi))
 ·rw[List.getElem?_eq_none (by rw[hr.len];omega),List.getElem?_eq_none (by rw[hs.len];omega)]
theorem len_one{b:Option (List Nat)}(hb:WdO b){i0 j0:Nat}(hi:i0<64)(hj:j0<64)(h:∀i j,cV b i j=true↔i=i0∧j=j0):dD b=List.zipWith orN aZ (kM i0 j0):=by
 have hbit:∀i j,i<64→gC (List.zipWith orN aZ (kM i0 j0)) i j=decide (i=i0∧j=j0):=fun i j hi'=>by
  rw[OY dX hi hi'];have:gC aZ i j=false:=by
   have:=lS none (i:=i) (j:=j) hi';exact this
  rw[this,Bool.false_or]
 have hwd:Wd (List.zipWith orN aZ (kM i0 j0)):=by
  have h1:WdO (joinO none (kM i0 j0)):=WdO.joinO (b:=none) (fun r e=>by cases e) (xU hj);refine h1 _ ?_;unfold joinO;rw[if_neg (FR hi)];rfl
 refine UU hb.old hwd (fun i j hi'=>?_);rw[lS b hi',hbit i j hi',Bool.eq_iff_iff,h i j,decide_eq_true_eq]
theorem WT{B:dA}(hw:∀k,WdO (B k))(h:∀k,k<3→∀i j,cV (B k) i j=true↔fO (k:Int) i j):CU B 3=3:=by
 have h0:=len_one (hw 0) (i0:=0) (j0:=2) (by decide) (by decide) (fun i j=>by rw[h 0 (by omega)];unfold fO;simp);have h1:=len_one (hw 1) (i0:=0) (j0:=1) (by decide) (by decide) (fun i j=>by rw[h 1 (by omega)];unfold fO;simp);have h2:=len_one (hw 2) (i0:=1) (j0:=2) (by decide) (by decide) (fun i j=>by rw[h 2 (by omega)];unfold fO;simp);show 0+dG (dD (B 0))+dG (dD (B 1))+dG (dD (B 2))=3
 rw[h0,h1,h2];decide +kernel
theorem WU{PV:List Pv}(h:PV.map (·.pr)=fQ):cO 3 PV [sAq,sB]=0:=by
 have hl:PV.length=4:=by have:=congrArg List.length h;simpa[fQ] using this
 have hs:∀p∈fQ,aT p 3 2=true:=by decide
 unfold cO;rw[if_neg (by rw[hl];decide),if_pos ⟨by decide +kernel,fun v hv=>hs v.pr (by rw[← h];exact List.mem_map.2 ⟨v,hv,rfl⟩)⟩]
theorem UV(PV:List Pv):cO 3 PV [sB,sAq]=2:=by
 unfold cO;by_cases h:16<[sB,sAq].length∨(3:Int)<1∨512<(3:Int)∨8192<PV.length
 ·rw[if_pos h]
 ·rw[if_neg h,if_neg (fun h=>by
   have:upB ltT [sB,sAq]=false:=by decide +kernel
   rw[this] at h;cases h.1)]
open Go.RowKit Go.Shelf
attribute [local go_sem] Oper.semAt_some
theorem wK{F:Fence}{n:Nat}{P:Program}{fn:Func}{R:Ending→World→Prop}{a:Act}{w:World}{v:Value}(hr:(results fn a.tmps).run P w=.ok v w)(hd:a.defers=[])(hR:R (.returned v) w):bodyPostM F n P fn R .ret a w:=by
 show LeavesInM F n P fn a.tmps R a.defers .returning w
 rw[hd];exact⟨v,hr,hR⟩
theorem rH(w:World)(F:Nat→Prop)(p side n nts:Nat)(B:dA)(h:ClS w F p side n nts B)(hn1:1≤nts)(k:Int)(hk:k<0∨(nts:Int)≤k) :
  Calls Tryz.prog 19 #[.pointer (some ⟨p,0,none⟩),.int .i64 k] w (Sam w (.tuple #[.slice none 0 0,.int .i64 4])):=by
 obtain⟨O,pv,ad,hi,rfl⟩:=h;obtain⟨g,gc,rfl,-,-,-,-,-⟩:=aL hi.rows (by omega);have his:=pQ w p g nts gc (hi.blk.cell 1);have q1:w.cell? ⟨p,1,none⟩=some (.slice (some ⟨g,0,none⟩) nts gc):=hi.blk.cell 1;clear hi;refine(callsIn_wide (n:=1)).1 ?_;refine callsIn_of_wp_marks Tryz.func19 rfl trivial ?_ rfl;simp only[Tryz.ntmps19,List.size_toArray,List.length_cons,List.length_nil,Nat.reduceAdd,Nat.reduceSub,Array.replicate_succ,Array.replicate_zero,List.push_toArray,List.append_toArray,List.nil_append,List.cons_append]
 refine wpIn_wide.2 ?_;go_wp2_with fail;refine his.mono ?_;clear his;rintro e V ⟨rfl,hw⟩;subst V;by_cases h0:k<0
 ·clear hk;go_wp2;refine wK (v:=.tuple #[.slice none 0 0,.int .i64 4]) (by simp[results,Tryz.f19,go_sem]) rfl ⟨rfl,Below.refl _ _⟩
 ·have h1:(nts:Int)≤k:=by omega
  clear hk;go_wp2;refine wK (v:=.tuple #[.slice none 0 0,.int .i64 4]) (by simp[results,Tryz.f19,go_sem]) rfl ⟨rfl,Below.refl _ _⟩
open Go.RowKit Go.Shelf
theorem UW(B:dA)(k i j:Nat)(hk:k<3)(hi:i<3)(hj:j<3):AU 3 3 B (k:Int) (i:Int) (j:Int)=.tuple #[.bool (cV (B k) i j),.int .i64 0]:=by
 unfold AU;rw[if_pos (by omega),Int.toNat_natCast,Int.toNat_natCast,Int.toNat_natCast]
theorem CV(w:World)(hT:jC w)(htab:1<w.heap.size):Calls Tryz.prog 22 #[] w (Sam w (.bool true)):=by
 have hk1:uM ed1:=by unfold uM eP;decide
 have hk2:uM ed2:=by unfold uM eP;decide
 have ok1:GOk gr1:=by have:=GOk.new.edge ed1;rw[UO] at this;exact this
 have ok2:GOk gr2:=by have:=ok1.edge ed2;rw[UQ] at this;exact this
 have HT:=aI2 hT htab;clear hT htab;go_enter Tryz.func22,Tryz.ntmps22;go_wp2_with fail;refine(OX w).mono ?_;rintro e W1 ⟨p,rfl,⟨F1,g1,n1⟩,b1⟩;have hc:=kH W1 F1 p ⟨[],[]⟩ g1 GOk.new ed1 hk1;rw[UO] at hc;have HB1:=hIz b1;have HF1:=hIz n1;clear b1 n1 g1;unfold ed1 sX sAq sY at hc;dsimp only at hc
 go_wp2_with fail;refine hc.mono ?_;clear hc;rintro e W2 ⟨rfl,F2,g2,u2,n2⟩;obtain⟨⟨F3,g3,n3⟩,b3⟩:=gG.step HF1.out HB1.out.size ⟨F2,g2,u2,n2⟩;have HB2:=hIz (HB1.out.trans b3);have HF2:=hIz n3;clear g2 u2 n2 b3 n3;have hc:=kH W2 F3 p gr1 g3 ok1 ed2 hk2;rw[UQ] at hc;clear g3;unfold ed2 sY sB sZq at hc;dsimp only at hc
 go_wp2_with fail;refine hc.mono ?_;clear hc;rintro e W3 ⟨rfl,F4,g4,u4,n4⟩;obtain⟨⟨F5,g5,n5⟩,b5⟩:=gG.step HF2.out HB2.out.size ⟨F4,g4,u4,n4⟩;have HB3:=hIz (HB2.out.trans b5);have HG:=hIz g5;clear g4 u4 n4 b5 n5 g5;have hsm:=AV W3;go_wp2_with fail;refine hsm.mono ?_;clear hsm;rintro e W4 ⟨gp,gc,PV,rfl,hPV,hPr,b4⟩;have b5:Below W4.heap.size W4 (W4.alloc (.cells #[.string sAq,.string sB] 9)):=bR.alloc (Nat.le_refl _) _;have hlr:aU (W4.alloc (.cells #[.string sAq,.string sB] 9)) (some ⟨W4.heap.size,0,none⟩) (aE [sAq,sB]):=gD (Blk.new W4 9 #[.string sAq,.string sB]);have hlen4:PV.length=4:=by have:=congrArg List.length hPr;simpa[fQ] using this
 have hb15:=HB3.out.trans ((tHn b4 b5).mono HB3.out.size);have hnew:=tP (W4.alloc (.cells #[.string sAq,.string sB] 9)) 3 (some ⟨gp,0,none⟩) gc PV (hPV.below b5) (some ⟨W4.heap.size,0,none⟩) 2 [sAq,sB] hlr F5 p gr2 ((HG.out.below b4).below b5) ok2 (HT.out.1.upd (upF hb15) HT.out.2 id) (Nat.lt_of_lt_of_le HT.out.2 hb15.size);rw[hlen4] at hnew;have hnq:∀e w',PB (W4.alloc (.cells #[.string sAq,.string sB] 9)) 3 PV [sAq,sB] gr2 e w'→∃(x:Nat) (F:Nat→Prop) (B:dA),e=.returned (.tuple #[.pointer (some ⟨x,0,none⟩),.int .i64 0])∧ClS w' F x 3 3 3 B∧Below (W4.alloc (.cells #[.string sAq,.string sB] 9)).heap.size (W4.alloc (.cells #[.string sAq,.string sB] 9)) w' ∧
   (∀k,k<3→∀i j,cV (B k) i j=true↔fO (k:Int) i j)∧CU B 3=3:=by
  rintro e w' (⟨h,-,-⟩|⟨-,x,F,B,he,h1,-,h2,h3,h4⟩)
  ·rw[WU hPr] at h;cases h
  ·rw[hPr] at h3;have h5:∀k,k<3→∀i j,cV (B k) i j=true↔fO (k:Int) i j:=fun k hk i j=>(h3 k hk i j).trans WS
   exact⟨x,F,B,he,h1,h2,h5,WT h4 h5⟩
 have HNQ:=hIz hnq;have HB5:=hIz hb15;have HG5:=hIz ((HG.out.below b4).below b5);clear hnq hb15 b4 b5 hlr hPV hPr hlen4 HG;unfold sAq sB at hnew;simp only[List.length_cons,List.length_nil,Nat.reduceAdd] at hnew
 go_wp2_with fail;refine hnew.mono ?_;clear hnew;rintro e W6 hq;obtain⟨x,F,B,rfl,hcl,hb6,hbit,hl3⟩:=HNQ.out e W6 hq;have HB6:=hIz (tHn HB5.out hb6);have HG6:=hIz (HG5.out.below hb6);have h1:=tQ W6 F x 3 3 3 B hcl (by decide) (by decide) (by decide) 0 0 2;have e1:AU 3 3 B 0 0 2=.tuple #[.bool true,.int .i64 0]:=by
  have:=UW B 0 0 2 (by decide) (by decide) (by decide);rw[(hbit 0 (by decide) 0 2).2 (by unfold fO;simp)] at this;exact this
 have e2:AU 3 3 B 0 1 2=.tuple #[.bool false,.int .i64 0]:=by
  have:=UW B 0 1 2 (by decide) (by decide) (by decide);have hf:cV (B 0) 1 2=false:=by
   cases h:cV (B 0) 1 2 with
   | false=>rfl
   | true =>
    have:=(hbit 0 (by decide) 1 2).1 h;unfold fO at this;omega
  rw[hf] at this;exact this
 rw[e1] at h1;have HC:=aI3 hcl e2 hl3;clear hq hb6 hbit hl3 e1 e2 hcl HG5 HNQ;go_wp2_with fail;refine h1.mono ?_;clear h1;rintro e W7 ⟨rfl,hb7⟩;have hcl7:=HC.out.1.below hb7;have h2:=tQ W7 F x 3 3 3 B hcl7 (by decide) (by decide) (by decide) 0 1 2;rw[HC.out.2.1] at h2;have HB7:=hIz (tHn HB6.out hb7);have HG7:=hIz (HG6.out.below hb7);have HC7:=hIz hcl7;clear hb7 hcl7;go_wp2_with fail;refine h2.mono ?_;clear h2;rintro e W8 ⟨rfl,hb8⟩;have HB8:=hIz (tHn HB7.out hb8);have HG8:=hIz (HG7.out.below hb8);have HC8:=hIz (HC7.out.below hb8);clear hb8;have hsm:=AV W8;go_wp2_with fail;refine hsm.mono ?_;clear hsm;rintro e W9 ⟨gp2,gc2,PV2,rfl,hPV,hPr,b4⟩;have b5:Below W9.heap.size W9 (W9.alloc (.cells #[.string sB,.string sAq] 9)):=bR.alloc (Nat.le_refl _) _;have hlr:aU (W9.alloc (.cells #[.string sB,.string sAq] 9)) (some ⟨W9.heap.size,0,none⟩) (aE [sB,sAq]):=gD (Blk.new W9 9 #[.string sB,.string sAq]);have hlen4:PV2.length=4:=by have:=congrArg List.length hPr;simpa[fQ] using this
 have hb15:=HB8.out.trans ((tHn b4 b5).mono HB8.out.size);have hnew:=tP (W9.alloc (.cells #[.string sB,.string sAq] 9)) 3 (some ⟨gp2,0,none⟩) gc2 PV2 (hPV.below b5) (some ⟨W9.heap.size,0,none⟩) 2 [sB,sAq] hlr F5 p gr2 ((HG8.out.below b4).below b5) ok2 (HT.out.1.upd (upF hb15) HT.out.2 id) (Nat.lt_of_lt_of_le HT.out.2 hb15.size);rw[hlen4] at hnew;have hnq:∀e w',PB (W9.alloc (.cells #[.string sB,.string sAq] 9)) 3 PV2 [sB,sAq] gr2 e w'→e=.returned (.tuple #[.pointer none,.int .i64 2])∧Below (W9.alloc (.cells #[.string sB,.string sAq] 9)).heap.size (W9.alloc (.cells #[.string sB,.string sAq] 9)) w':=by
  rintro e w' (⟨-,h1,h2⟩|⟨h,-⟩)
  ·exact⟨h1,h2⟩
  ·rw[UV] at h;cases h
 have HNQ:=hIz hnq;have HB9:=hIz hb15;have HC9:=hIz ((HC8.out.below b4).below b5);clear hnq hb15 b4 b5 hlr hPV hPr hlen4;unfold sAq sB at hnew;simp only[List.length_cons,List.length_nil,Nat.reduceAdd] at hnew
 go_wp2_with fail;refine hnew.mono ?_;clear hnew;rintro e V1 hq;obtain⟨rfl,hb10⟩:=HNQ.out e V1 hq;have HB10:=hIz (tHn HB9.out hb10);have hcl10:=HC9.out.below hb10;have h3:=rH V1 F x 3 3 3 B hcl10 (by decide) 3 (.inr (by decide));have HC10:=hIz hcl10;clear hq hb10 hcl10 HNQ;go_wp2_with fail;refine h3.mono ?_;clear h3;rintro e V2 ⟨rfl,hb11⟩;have HB11:=hIz (tHn HB10.out hb11);have h4:=nP V2 F x 3 3 3 B (HC10.out.below hb11) (by decide) (by decide) (by decide);rw[HC.out.2.2] at h4;clear hb11;go_wp2_with fail;refine h4.mono ?_;clear h4;rintro e V3 ⟨rfl,hb12⟩;have HB12:=hIz (tHn HB11.out hb12);clear hb12;go_wp2;go_ret;exact⟨rfl,HB12.out⟩
open Go.RowKit Go.Shelf
attribute [local go_sem] Oper.semAt_some
theorem yN(W:World)(f:Fn)(x y:Array Value):(binOp .eql 62 (.func f x y) .nilFunc).run Tryz.prog W=.ok (.bool false) W:=by
 have h:Tryz.prog.underlying 62=some (.func #[79] #[] false):=by kernel_rfl
 have e9:∀d,(Op.equalIn (d+1) 62 (.func f x y) .nilFunc).run Tryz.prog W=.ok false W:=fun d=>by simp[Op.equalIn,run_underlying h]
 have e:(Op.equal 62 (.func f x y) .nilFunc).run Tryz.prog W=.ok false W:=e9 9999;simp only[binOp]
 simp[e]
open Go.RowKit Go.Shelf
theorem NK:(Tryz.prog.info? 121).map (fun i=>(i.zero,i.size,i.bytes))=some (some (.pointer none),1,8):=by kernel_rfl
theorem IV(ad:Nat→Nat)(nts:Nat):(ptC ad nts).length=nts:=by simp[ptC]
theorem UX(ad:Nat→Nat)(nts:Nat):∀u∈ptC ad nts,u.oneCell'=true:=by
 intro u hu;obtain⟨k,-,rfl⟩:=List.mem_map.1 hu;rfl
def PD(w:World)(ad:Nat→Nat)(nts:Nat)(e:Ending)(w':World):Prop:=∃A c,e=.returned (.slice A nts c)∧w'.ownsRow w.heap.size 121 1 (.slice A nts c) nts (ptC ad nts)∧Below w.heap.size w w'
theorem NL(w:World)(A:Option Addr)(c nts:Nat)(ad:Nat→Nat)(h:aU w A (ptC ad nts))(h1:1≤nts)(hl:nts≤512) :
  Calls Tryz.prog 75 #[.slice A nts c] w (PD w ad nts):=by
 have heq:=fun (A:Option Addr) (n c n' c':Nat) (w:World)=>Lib.run_eql_slice_nil (P:=Tryz.prog) w 136 121 A n c n' c' Tryz.underlying136
 rcases A with _|⟨gb,go,sp⟩
 ·obtain⟨b,o,e,-⟩:=h 0 _ (kO h1);cases e
 ·obtain⟨i0,hi0,hz0,hz1,hz2⟩:=info_parts NK;have b1:Below w.heap.size w (w.alloc (.cells #[] 121)):=bR.alloc (Nat.le_refl _) _;have hr:=(h.below b1).reads (n:=nts) (size:=1) (by rw[IV];omega) (by decide);have own:(w.alloc (.cells #[] 121)).ownsRow w.heap.size 121 1 (.slice (some ⟨w.heap.size,0,none⟩) 0 0) 0 []:=⟨rfl,.inr ⟨w.heap.size,0,#[],rfl,Nat.le_refl _,heap_alloc_new w _,Nat.le_refl _,by decide,rfl,rfl⟩⟩;obtain⟨v',w',happ,own',gr,-,-⟩:=run_append_own_at (P:=Tryz.prog) (w.alloc (.cells #[] 121)) w.heap.size 136 136 121 i0 _ 1 8 Tryz.underlying136 hi0 hz0 hz1 hz2 rfl (by decide) (.slice (some ⟨w.heap.size,0,none⟩) 0 0) 0 [] own ⟨gb,go,sp⟩ nts c (ptC ad nts) (by rw[IV];omega) (hr.2.2 _ rfl) (UX ad nts) (by unfold maxLen;omega) (by omega) (by simp);have own2:w'.ownsRow w.heap.size 121 1 v' nts (ptC ad nts):=by simpa using own'
  obtain⟨A',c',rfl,-,-⟩:=aK own2;have fin:PD w ad nts (.returned (.slice A' nts c')) w':=⟨A',c',rfl,own2,b1.grown gr (by simp) (fun k hk=>by simp[Value.ownBlock] at hk;omega)⟩;have FIN:=hIz fin;clear fin own own' own2 gr hr b1 hi0 hz0 hz1 hz2 h;go_enter Tryz.func75,Tryz.ntmps75;go_wp2_with (at_builtin;refine wpList_append_run rfl _ _ _ rfl rfl rfl happ ?_);go_ret;exact FIN.out

def UY(w:World)(ad:Nat→Nat)(nts:Nat)(e:Ending)(w':World):Prop:=
 ∃g A c,w.heap.size≤g∧e=.returned (.func (.func 76) #[] #[.pointer (some ⟨g,0,none⟩)])∧Blk w' g 136 #[.slice A nts c]∧w'.ownsRow w.heap.size 121 1 (.slice A nts c) nts (ptC ad nts)∧Below w.heap.size w w'
theorem CW(w:World)(O:Nat→Option CRo)(p side n nts:Nat)(pv:Value)(ad:Nat→Nat)(B:dA)(h:ClI w O p side n nts pv ad B)(h1:1≤nts)(h5:nts≤512) :
  Calls Tryz.prog 20 #[.pointer (some ⟨p,0,none⟩)] w (UY w ad nts):=by
 obtain⟨g,gc,rfl,-,-,-,-,-⟩:=aL h.rows (by omega);have k1:=Blk.new w 136 #[.slice none 0 0];have b1:Below w.heap.size w (w.alloc (.cells #[.slice none 0 0] 136)):=bR.alloc (Nat.le_refl _) _;have hi:=h.upd (upF b1) (fun _ _=>id);have his:=pQ (w.alloc (.cells #[.slice none 0 0] 136)) p g nts gc (hi.blk.cell 1);have q1:(w.alloc (.cells #[.slice none 0 0] 136)).cell? ⟨p,1,none⟩=some (.slice (some ⟨g,0,none⟩) nts gc):=hi.blk.cell 1;have hcl:=NL _ (some ⟨g,0,none⟩) gc nts ad (aU.of_own hi.rows) h1 h5;have hz:(w.alloc (.cells #[.slice none 0 0] 136)).heap.size=w.heap.size+1:=by simp
 have H:=aI3 k1 b1 hz;clear k1 b1 h hi hz;go_enter Tryz.func20,Tryz.ntmps20;go_upto_region 2 with (fail);generalize hW1:w.alloc (.cells #[.slice none 0 0] 136)=W1 at H his q1 hcl ⊢;clear hW1;go_wp2_with fail;refine his.mono ?_;clear his;rintro e V ⟨rfl,hw⟩;subst V;go_wp2_with fail;refine hcl.mono ?_;clear hcl q1;rintro e W2 ⟨A,c,rfl,own,b2⟩;have k2:=H.out.1.upd (upF b2) id;have q2:W2.cell? ⟨w.heap.size,0,none⟩=some (.slice none 0 0):=k2.cell 0;have f2:=k2.frozen 0;have H2:=aI3 k2 own b2;clear k2 own b2;go_wp2;go_ret;have hz1:=H.out.2.2;refine⟨w.heap.size,A,c,Nat.le_refl _,rfl,H2.out.1.set 0 _,?_,?_⟩
 ·exact aA (aQ (base':=w.heap.size) H2.out.2.1 (fun k hk=>by have:=(H2.out.2.1.lt k hk).1;omega)) ((Upd.refl (fun q=>q=w.heap.size) W2).setCell (.inl rfl) _) (fun k hk e=>by have:=(H2.out.2.1.lt k hk).1;omega)
 ·exact(H.out.2.1.trans (H2.out.2.2.mono (by omega))).setCell (Nat.le_refl _) _
open Go.RowKit Go.Shelf
attribute [local go_sem] Oper.semAt_some
def rI(B:dA):Nat→Nat→List (Nat × Nat × Nat)
 | _,0=>[]
 | k,n+1=>(qcL (B k)).map (fun y=>(k,y))++rI B (k+1) n
def fT(B:dA)(nts:Nat):List (Nat × Nat × Nat):=rI B 0 nts
def VU{Q:Nat × Nat × Nat→Prop}(x:{x:Nat × Nat × Nat // Q x}):Array Value:=#[.agg #[.int .i64 (x.1.1:Int),.int .i64 (x.1.2.1:Int),.int .i64 (x.1.2.2:Int)]]
def XX{Q:Nat × Nat × Nat→Prop}(k:Nat)(y:{y:Nat × Nat // Q (k,y)}):{x:Nat × Nat × Nat // Q x}:=⟨(k,y.1),y.2⟩
theorem nQ{α:Type}(L:List α)(Q:α→Prop)(hQ:∀x∈L,Q x):(eR L Q hQ).map (·.1)=L:=by unfold eR;simp
theorem NM{α:Type}{Q:α→Prop}{l m:List {x:α // Q x}}(h:l.map (·.1)=m.map (·.1)):l=m:=
 (List.map_inj_right (fun _ _ e=>Subtype.ext e)).1 h
theorem wL{L R:List (Nat × Nat × Nat)}{M:List (Nat × Nat)}{Q:Nat × Nat × Nat→Prop}{hQ:∀x∈L,Q x}{c k:Nat}(h:L.drop c=M.map (fun y=>(k,y))++R)(hQ':∀y∈M,Q (k,y))(j:Nat)(hj:j≤M.length) :
  (eR L Q hQ).take (c+j)=(eR L Q hQ).take c++((eR M (fun y=>Q (k,y)) hQ').take j).map (XX k):=by
 apply NM
 rw[List.map_append,List.map_map,List.map_take,List.map_take,nQ,List.take_add,h];congr 1
 have e:((fun z:{x:Nat × Nat × Nat // Q x}=>z.1) ∘ XX (Q:=Q) k)=(fun y:Nat × Nat=>(k,y)) ∘ (fun y:{y:Nat × Nat // Q (k,y)}=>y.1):=rfl;rw[e,← List.map_map,List.map_take,nQ];rw[List.take_append_of_le_length (by rw[List.length_map];exact hj),List.map_take]
theorem tS{L R:List (Nat × Nat × Nat)}{M:List (Nat × Nat)}{Q:Nat × Nat × Nat→Prop}(hQ:∀x∈L,Q x){c k:Nat}(h:L.drop c=M.map (fun y=>(k,y))++R):∀y∈M,Q (k,y):=fun y hy=>by
 refine hQ _ (List.mem_of_mem_drop (i:=c) ?_);rw[h];exact List.mem_append_left _ (List.mem_map.2 ⟨y,hy,rfl⟩)

structure FaI(lb:Nat)(F:Nat→Prop)(B:dA)(nts:Nat)(L:List (Nat × Nat × Nat))(Q:Nat × Nat × Nat→Prop)(hQ:∀x∈L,Q x)(J:List {x:Nat × Nat × Nat // Q x}→World→Prop)(W1 wr:World)(k c:Nat)(Ds:List Nat):Prop where
 at_:L.drop c=rI B k (nts-k)
 le:c≤L.length
 j:J ((eR L Q hQ).take c) wr
 kp:KpM lb F W1 wr
 nd:Ds.Nodup
 ds:∀D∈Ds,W1.heap.size≤D∧Prv lb F wr D∧wr.heap[D]?=some (.deferred (some []))
def IW(g:Nat)(v:Value)(Oc:Nat→Prop)(q:Nat):Prop:=q=1∨q=g∨v.ownBlock=some q∨Oc q
structure XU(lb g0:Nat)(F:Nat→Prop)(l k g3 gq:Nat)(b:Option (List Nat))(v:Value)(W4:World):Prop where
 lt:lb<W4.heap.size
 rg:RgM lb W4
 fF:∀q,F q→q<W4.heap.size∧¬yB gq b v q
 row:∀u q,W4.cell? ⟨lb,0,none⟩=some u→u.ownBlock=some q→¬yB gq b v q
 tab:jC W4
 k2:Blk W4 g0 79 #[.func (.yield l) #[] #[]]
 p2:Prv lb F W4 g0
 k3:Blk W4 g3 3 #[.int .i64 (k:Int)]
 p3:Prv lb F W4 g3
def VV{Q:Nat × Nat × Nat→Prop}(lb:Nat)(F:Nat→Prop)(J:List {x:Nat × Nat × Nat // Q x}→World→Prop)(pre0:List {x:Nat × Nat × Nat // Q x})(k:Nat)(W4:World)(pre:List {y:Nat × Nat // Q (k,y)})(V:World):Prop:=
 J (pre0++pre.map (XX k)) V∧KpM lb F W4 V∧lb<V.heap.size
def WV{Q:Nat × Nat × Nat→Prop}(lb:Nat)(F:Nat→Prop)(Jx:List {x:Nat × Nat × Nat // Q x}→World→Prop)(pre0:List {x:Nat × Nat × Nat // Q x})(k:Nat)(W4:World)(c:Code)(pre:List {y:Nat × Nat // Q (k,y)})(V:World):Prop:=
 c=.ret∧Jx (pre0++pre.map (XX k)) V∧KpM lb F W4 V
theorem NN{Q:Nat × Nat × Nat→Prop}{lb g0:Nat}{F:Nat→Prop}{J:List {x:Nat × Nat × Nat // Q x}→World→Prop}{pre0:List {x:Nat × Nat × Nat // Q x}}{k:Nat}{W4:World}(hJ:iZ lb F g0 J)(hl:lb<W4.heap.size)(r4:RgM lb W4)(hg:g0<W4.heap.size) :
  iZ lb F W4.heap.size (VV lb F J pre0 k W4):=by
 rintro s X Y row ⟨h1,h2,h5⟩ hgr hr;exact⟨(hJ.from (by omega)) _ X Y row h1 hgr hr,iQ (β:=Unit) (Nat.le_refl _) hl r4 () X Y row h2 hgr hr,Nat.lt_of_lt_of_le h5 hgr.size⟩
theorem NO{Q:Nat × Nat × Nat→Prop}{lb g0:Nat}{F:Nat→Prop}{Jx:List {x:Nat × Nat × Nat // Q x}→World→Prop}{pre0:List {x:Nat × Nat × Nat // Q x}}{k:Nat}{W4:World}(hJ:iZ lb F g0 Jx)(hl:lb<W4.heap.size)(r4:RgM lb W4)(hg:g0<W4.heap.size)(c:Code) :
  iZ lb F W4.heap.size (WV lb F Jx pre0 k W4 c):=by
 rintro s X Y row ⟨h0,h1,h2⟩ hgr hr;exact⟨h0,(hJ.from (by omega)) _ X Y row h1 hgr hr,iQ (β:=Unit) (Nat.le_refl _) hl r4 () X Y row h2 hgr hr⟩
structure UZ(w:World)(gl c nts side:Nat)(A:Option Addr)(ad:Nat→Nat)(B:dA)(Oc:Nat→Prop):Prop where
 tab:jC w
 blk:Blk w gl 136 #[.slice A nts c]
 own:w.ownsRow 0 121 1 (.slice A nts c) nts (ptC ad nts)
 mat:∀k,k<nts→∃F,QuS w F (ad k) side (B k)∧∀q,F q→Oc q
theorem UZ.upd{w w':World}{gl c nts side:Nat}{A:Option Addr}{ad:Nat→Nat}{B:dA}{Oc G:Nat→Prop}(h:UZ w gl c nts side A ad B Oc)(hu:Upd G w w')(hd:∀q,IW gl (.slice A nts c) Oc q→¬G q):UZ w' gl c nts side A ad B Oc:=
 ⟨h.tab.upd hu h.tab.lt (hd _ (.inl rfl)),h.blk.upd hu (hd _ (.inr (.inl rfl))),aA h.own hu (fun q hq=>hd q (.inr (.inr (.inl hq)))),fun k hk=>by
  obtain⟨F,h1,h2⟩:=h.mat k hk;exact⟨F,h1.upd hu (fun q hq=>hd q (.inr (.inr (.inr (h2 q hq))))),h2⟩⟩

theorem AX(w:World)(gl c nts side:Nat)(A:Option Addr)(ad:Nat→Nat)(B:dA)(Oc:Nat→Prop)(h:UZ w gl c nts side A ad B Oc)(hOc:∀q,Oc q→q<w.heap.size)(h1:1≤nts)(h5:nts≤512)
  (Q:Nat × Nat × Nat→Prop) (hQb:∀x,Q x→x.1<512∧x.2.1<64∧x.2.2<64) (hQ:∀x∈fT B nts,Q x) :
  TX Tryz.prog 76 #[.pointer (some ⟨gl,0,none⟩)] VU (IW gl (.slice A nts c) Oc) (fun ys=>ys=eR (fT B nts) Q hQ) (fun pre=>∃k,k≤(fT B nts).length∧pre=(eR (fT B nts) Q hQ).take k) (fT B nts).length w:=by
 intro l lb F J Jx W hW hJ hJx hlb hrg hF hrow hY h0;have hol:∀q,IW gl (.slice A nts c) Oc q→q<w.heap.size:=fun q hq=>by
  rcases hq with rfl|rfl|hq|hq
  ·exact h.tab.lt
  ·exact h.blk.lt
  ·exact(h.own.lt q hq).2
  ·exact hOc q hq
 have hp:∀q,IW gl (.slice A nts c) Oc q→Prv lb F W q:=fun q ho=>⟨Nat.lt_of_lt_of_le (hol q ho) hW.size,fun ha=>ha.elim (fun hf=>(hF q hf).2 ho) (fun ⟨v,hv,hq⟩=>hrow v q hv hq ho)⟩
 have hw:=h.upd (upF hW) (fun _ _=>id);obtain⟨ga,cc,e,hob,-,-,-,hcell⟩:=aL hw.own (by omega);injection e with e1 e2 e3;subst e1;subst e3;have k2:=Blk.new W 79 #[.func (.yield l) #[] #[]];have b1:Below W.heap.size W (W.alloc (.cells #[.func (.yield l) #[] #[]] 79)):=bR.alloc (Nat.le_refl _) _;have z1:(W.alloc (.cells #[.func (.yield l) #[] #[]] 79)).heap.size=W.heap.size+1:=by simp
 have hw1:=hw.upd (upF b1) (fun _ _=>id);have H:=aI7 hJ hJx hlb hrg (fun q hq=>(hF q hq).1) hp hY;have kp1:=KpM.of_below (lb:=lb) (F:=F) b1 hlb;have r1:=kp1.rg hrg;have lb1:lb<(W.alloc (.cells #[.func (.yield l) #[] #[]] 79)).heap.size:=by omega
 have p2:Prv lb F (W.alloc (.cells #[.func (.yield l) #[] #[]] 79)) W.heap.size:=Prv.since b1 hlb hrg (fun q hq=>(hF q hq).1) (Nat.le_refl _) (by omega);have pO:∀q,IW gl (.slice (some ⟨ga,0,none⟩) nts c) Oc q→Prv lb F (W.alloc (.cells #[.func (.yield l) #[] #[]] 79)) q:=fun q ho=>(kp1.prv hrg (hp q ho)).2
 have j1:=hJ.below h0 b1;have q1:(W.alloc (.cells #[.func (.yield l) #[] #[]] 79)).cell? ⟨gl,0,none⟩=some (.slice (some ⟨ga,0,none⟩) nts c):=hw1.blk.cell 0;clear h hW hJ hJx hlb hrg hF hrow hY h0 hol hp hw hob hcell hOc e2;refine(callsIn_wide (n:=1)).1 ?_;refine callsIn_of_wp_marks Tryz.func76 rfl trivial ?_ rfl;simp only[Tryz.ntmps76,List.size_toArray,List.length_cons,List.length_nil,Nat.reduceAdd,Nat.reduceSub,Array.replicate_succ,Array.replicate_zero,List.push_toArray,List.append_toArray,List.nil_append,List.cons_append]
 refine wpIn_wide.2 ?_;go_upto_region 1 with (fail);generalize hW1:W.alloc (.cells #[.func (.yield l) #[] #[]] 79)=W1 at k2 b1 z1 hw1 kp1 r1 lb1 p2 pO j1 q1 ⊢;clear hW1;have HI0:=hIz (show FaI lb F B nts (fT B nts) Q hQ J W1 W1 0 0 [] from⟨rfl,Nat.zero_le _,by simpa using j1,KpM.refl _ _ _,List.nodup_nil,fun D hD=>by cases hD⟩);have HW:=aI9 b1 k2 p2 pO hw1 r1 lb1 z1 kp1;clear b1 k2 p2 pO hw1 r1 lb1 z1 kp1 j1;go_wp2;clear q1;refine wp_loop (fun a wr=>∃(k c':Nat) (Ds:List Nat) (u3 u4 u5 u6 u10 u11 u12 u13 u14 u15 u16 u17 u18 u19 u20 u21 u22 u23 u24 u25:Value),a=⟨#[.func (.yield l) #[] #[],.pointer (some ⟨gl,0,none⟩),.pointer (some ⟨W.heap.size,0,none⟩),u3,u4,u5,u6,.slice (some ⟨ga,0,none⟩) nts c,.int .i64 (nts:Int),.int .i64 (k:Int),u10,u11,u12,u13,u14,u15,u16,u17,u18,u19,u20,u21,u22,u23,u24,u25],Ds.map (fun D=>{ target:=.collected D,args:=#[] })⟩∧k≤nts∧FaI lb F B nts (fT B nts) Q hQ J W1 wr k c' Ds) (fun a _=>nts-(intOf (a.tmps.getD 9 undef)).toNat) ?_ ?_
 ·exact⟨0,0,[],_,_,_,_,_,_,_,_,_,_,_,_,_,_,_,_,_,_,_,_,rfl,by omega,HI0.out⟩
 ·rintro a wr ⟨k,c',Ds,u3,u4,u5,u6,u10,u11,u12,u13,u14,u15,u16,u17,u18,u19,u20,u21,u22,u23,u24,u25,rfl,hk,hI⟩;have HI:=hIz hI;clear hI;by_cases hlt:k<nts
  ·have hltI:(k:Int)<(nts:Int):=by omega
   have hkw:IntKind.i64.wrap ((k:Int)+1)=(k:Int)+1:=IntWalk.i64_in _ (by omega);have rw1:RgM lb wr:=HI.out.kp.rg HW.out.2.2.2.2.2.1;have lbr:lb<wr.heap.size:=Nat.lt_of_lt_of_le HW.out.2.2.2.2.2.2.1 (HI.out.kp.size HW.out.2.2.2.2.2.1);have hwr:=HW.out.2.2.2.2.1.upd (HI.out.kp HW.out.2.2.2.2.2.1).1 (fun q ho=>(HW.out.2.2.2.1 q ho).2);have qk:wr.cell? ⟨ga,k,none⟩=some (.pointer (some ⟨ad k,0,none⟩)):=by
    obtain⟨g',c1,e,-,-,-,-,hc⟩:=aL hwr.own (by omega);injection e with e;injection e with e;injection e with e;subst e;exact(hc k _ (kO hlt)).1
   have k3:=Blk.new wr 3 #[.int .i64 (k:Int)];have b3:Below wr.heap.size wr (wr.alloc (.cells #[.int .i64 (k:Int)] 3)):=bR.alloc (Nat.le_refl _) _;have z3:(wr.alloc (.cells #[.int .i64 (k:Int)] 3)).heap.size=wr.heap.size+1:=by simp
   have hw3:=hwr.upd (upF b3) (fun _ _=>id);obtain⟨Fk,hq,hFk⟩:=hw3.mat k hlt;have hcon:=oZ _ Fk (ad k) side (B k) hq;have hwd:=hq.wd;have HX:=aI7 rw1 lbr b3 k3 z3 hw3 hwd;clear rw1 lbr hwr k3 b3 z3 hw3 hq hFk hwd;go_upto_region 4 with (fail);clear qk;generalize hW3:wr.alloc (.cells #[.int .i64 (k:Int)] 3)=W3 at HX hcon ⊢;clear hW3;go_wp2_with fail;refine hcon.mono ?_;clear hcon;rintro e W4 ⟨gq,A4,n4,c4,hgq,rfl,kq,b4,hch⟩;have HB:=aI4 hgq kq b4 hch;clear hgq kq b4 hch;go_wp2;have HD:=hIz (show(fT B nts).drop c'=(qcL (B k)).map (fun y=>(k,y))++rI B (k+1) (nts-(k+1)) from by
    rw[HI.out.at_,show nts-k=(nts-(k+1))+1 by omega];rfl)
   have hbb:Below wr.heap.size wr W4:=tHn HX.out.2.2.1 HB.out.2.2.1;have hFlt:∀q,F q→q<wr.heap.size:=fun q hq=>by
    have h1:=H.out.2.2.2.2.1 q hq;have h2:=HW.out.1.size;have h3:=HI.out.kp.size HW.out.2.2.2.2.2.1;omega
   have hz3:=HX.out.2.2.2.2.1;have hgq:=HB.out.1;have pT4:Prv lb F W4 1:=((HI.out.kp.prv HW.out.2.2.2.2.2.1 (HW.out.2.2.2.1 _ (.inl rfl))).2).below hbb HX.out.2.1;have hr4:RgM lb W4:=(KpM.of_below (F:=F) hbb HX.out.2.1).rg HX.out.1;have hcl:∀q,yB gq (B k) (.slice A4 n4 c4) q→q=1∨W3.heap.size≤q:=fun q hq=>by
    rcases hq with hq|rfl|⟨hs,hq⟩
    ·exact .inl hq
    ·exact .inr hgq
    ·exact .inr (HB.out.2.2.2.own hs hq).1
   have HR:XU lb W.heap.size F l k wr.heap.size gq (B k) (.slice A4 n4 c4) W4:=by
    have u4:=Upd.of_below HB.out.2.2.1 (fun _=>False);have hz4:=HB.out.2.2.1.size;have ub:=Upd.of_below hbb (fun _=>False);refine⟨by have:=HX.out.2.1;omega,hr4,fun q hq=>⟨by have:=hFlt q hq;omega,fun ho=>?_⟩,fun v q hv ho hc=>?_,HX.out.2.2.2.2.2.1.tab.upd u4 HX.out.2.2.2.2.2.1.tab.lt id,(HI.out.kp.blk HW.out.2.2.2.2.2.1 HW.out.2.2.1 HW.out.2.1).upd ub id,(HI.out.kp.prv HW.out.2.2.2.2.2.1 HW.out.2.2.1).2.below hbb HX.out.2.1,HX.out.2.2.2.1.upd u4 id,?_⟩
    ·rcases hcl q ho with rfl|hge
     ·exact pT4.2 (.inl hq)
     ·have:=hFlt q hq;omega
    ·rcases hcl q hc with rfl|hge
     ·exact pT4.2 (.inr ⟨v,hv,ho⟩)
     ·rw[hbb.cell (p:=⟨lb,0,none⟩) HX.out.2.1] at hv;have:=HX.out.1 v q hv ho;omega
    ·exact Prv.since hbb HX.out.2.1 HX.out.1 hFlt (Nat.le_refl _) (by omega)
   have hg4:W.heap.size<W4.heap.size:=HR.k2.lt;have hQ':=tS hQ HD.out;have hm:∀j,j≤(qcL (B k)).length→c'+j≤(fT B nts).length:=fun j hj=>by
    have:=congrArg List.length HD.out;rw[List.length_drop,List.length_append,List.length_map] at this;have:=HI.out.le;omega
   have hst:=nC W4 (B k) HX.out.2.2.2.2.2.2 HR.tab gq c4 n4 A4 (fun y=>Q (k,y)) (fun y hy=>(hQb _ hy).2) hQ' HB.out.2.1 W3.heap.size HB.out.2.2.2;have j4:VV lb F J ((eR (fT B nts) Q hQ).take c') k W4 [] W4:=by
    refine⟨?_,KpM.refl _ _ _,HR.lt⟩;have:=H.out.1.below HI.out.j hbb;simpa using this
   have HS:=aI5 HR hg4 hm hbb j4;have HT:=hIz hst;have hOl:∀q,yB gq (B k) (.slice A4 n4 c4) q→q<W4.heap.size:=fun q ho=>by
    rcases ho with rfl|rfl|⟨hs,hq⟩
    ·exact HR.tab.lt
    ·exact HB.out.2.1.lt
    ·exact(HB.out.2.2.2.own hs hq).2
   clear hst HR hg4 hm j4 hFlt pT4 hr4 hcl hz3 hgq hbb;refine iC (gf:=120) (cap:=#[.pointer (some ⟨gq,0,none⟩)]) rfl (enters_of Tryz.func120 (by kernel_rfl) rfl) HT.out bR hOl (fun _=>rfl)
    lb F HS.out.1.lt HS.out.1.rg HS.out.1.fF HS.out.1.row
    (VV lb F J ((eR (fT B nts) Q hQ).take c') k W4) (WV lb F Jx ((eR (fT B nts) Q hQ).take c') k W4)
    (NN H.out.1 HS.out.1.lt HS.out.1.rg HS.out.2.1) (NO H.out.2.1 HS.out.1.lt HS.out.1.rg HS.out.2.1) HS.out.2.2.2.2
    (fun T y _=>(((T.setIfInBounds 16 (.int .i64 (y.1.1:Int))).setIfInBounds 17 (.int .i64 (y.1.2:Int))).setIfInBounds 5 (.int .i64 (y.1.1:Int))).setIfInBounds 6 (.int .i64 (y.1.2:Int)))
    (fun _ _ _=>True)
    ?hBx ?assign ?body ?done ?stop
   case hBx=>exact fun _ _ _ _ _ _ _ _ _=>trivial
   case assign =>
    rintro l2 pre y V Kc hrV hsV hi hK;dsimp only [SU]
    have HI2:=hIz hi;clear hi;gi_wp2
    exact hK 0 V (KpM.refl _ _ _) HI2.out trivial
   case body =>
    rintro l2 pre y b V hrV hsV ⟨j1,kp,lbV⟩-hlt2;have hyb:=hQb _ y.2;have hR:=HS.out.1;have c3:V.cell? ⟨W.heap.size,0,none⟩=some (.func (.yield l) #[] #[]):=(kp.blk hR.rg hR.p2 hR.k2).cell 0;have c5:V.cell? ⟨wr.heap.size,0,none⟩=some (.int .i64 (k:Int)):=(kp.blk hR.rg hR.p3 hR.k3).cell 0;have hlen:((eR (fT B nts) Q hQ).take c'++pre.map (XX k)).length<(fT B nts).length:=by
     rw[List.length_append,List.length_take,List.length_map,iR];have:=HS.out.2.2.1 (pre.length+1) hlt2;omega
    obtain⟨fn,tmps,assign,body,hy,hRd⟩:=oY (l2:=l2) (n:=0) (H.out.2.2.2.2.2.2 _ (XX k y) V j1 hlen);dsimp only [VU,XX] at hy
    have HK:=aI3 kp lbV hrV;clear kp lbV hrV hR hyb hlen j1;simp only[sA,sZ,sS]
    gi_wp2
    refine⟨rfl,hRd.mono ?_⟩;clear hRd hy c3 c5;rintro e V3 ⟨hk3,(⟨rfl,hJ3⟩|⟨rfl,hJx3⟩)⟩
    ·have FIN:=hIz (show KpM lb F V V3∧VV lb F J ((eR (fT B nts) Q hQ).take c') k W4 (pre++[y]) V3 from by
      obtain⟨kp,lbV,hrV⟩:=HK.out;exact⟨hk3,by rw[List.map_append,← List.append_assoc];exact hJ3,kp.trans hk3,Nat.lt_of_lt_of_le lbV (hk3.size hrV)⟩)
     clear hJ3 hk3;gi_wp2
     exact FIN.out
    ·have FIN:=hIz (show KpM lb F V V3∧WV lb F Jx ((eR (fT B nts) Q hQ).take c') k W4 .ret (pre++[y]) V3 from by
      obtain⟨kp,lbV,hrV⟩:=HK.out;exact⟨hk3,rfl,by rw[List.map_append,← List.append_assoc];exact hJx3,kp.trans hk3⟩)
     clear hJx3 hk3;gi_wp2
     exact FIN.out
   case done =>
    rintro ys V rfl ⟨j1,kp,lbV⟩ hrV pD hD;have hI2:FaI lb F B nts (fT B nts) Q hQ J W1 V (k+1) (c'+(qcL (B k)).length) (W4.heap.size::Ds):=by
     have bb:=HS.out.2.2.2.1;have kw:KpM lb F wr V:=(KpM.of_below bb HX.out.2.1).trans kp;have hz4:=bb.size;refine⟨?_,HS.out.2.2.1 _ (Nat.le_refl _),?_,HI.out.kp.trans kw,?_,fun D hD'=>?_⟩
     ·rw[← List.drop_drop,HD.out,show(qcL (B k)).length=((qcL (B k)).map (fun y=>(k,y))).length by rw[List.length_map],List.drop_left]
     ·rw[wL HD.out (tS hQ HD.out) _ (Nat.le_refl _),show(eR (qcL (B k)) (fun y=>Q (k,y)) (tS hQ HD.out)).take (qcL (B k)).length=eR (qcL (B k)) (fun y=>Q (k,y)) (tS hQ HD.out) from List.take_of_length_le (by rw[iR];exact Nat.le_refl _)];exact j1
     ·rw[List.nodup_cons];exact⟨fun hm=>by have:=(HI.out.ds _ hm).2.1.1;omega,HI.out.nd⟩
     ·rcases List.mem_cons.1 hD' with rfl|hm
      ·exact⟨Nat.le_trans (HI.out.kp.size HW.out.2.2.2.2.2.1) hz4,pD,hD⟩
      ·have h5:=HI.out.ds D hm;have h6:=kw.prv HX.out.1 h5.2.1;exact⟨h5.1,h6.2,h6.1.trans h5.2.2⟩
    have HN:=hIz hI2;clear hI2 j1 kp lbV hrV pD hD;go_wp2;exact⟨⟨k+1,_,W4.heap.size::Ds,_,_,_,_,_,_,_,_,_,_,_,_,_,_,_,_,_,_,_,_,rfl,by omega,HN.out⟩,by simp[intOf];omega⟩
   case stop =>
    rintro ct pre V ⟨j,hj,rfl⟩ ⟨rfl,jx,kp⟩ hrV pD hD;have bb:=HS.out.2.2.2.1;have kw:KpM lb F wr V:=(KpM.of_below bb HX.out.2.1).trans kp;have hz4:=bb.size;have hz:=HI.out.kp.size HW.out.2.2.2.2.2.1;have z1:=HW.out.2.2.2.2.2.2.2.1;have hds:∀D∈W4.heap.size::Ds,W1.heap.size≤D∧Prv lb F V D∧V.heap[D]?=some (.deferred (some [])):=fun D hD'=>by
     rcases List.mem_cons.1 hD' with rfl|hm
     ·exact⟨Nat.le_trans hz hz4,pD,hD⟩
     ·have h5:=HI.out.ds D hm;have:=kw.prv HX.out.1 h5.2.1;exact⟨h5.1,this.2,this.1.trans h5.2.2⟩
    have hnd:(W4.heap.size::Ds).Nodup:=List.nodup_cons.2 ⟨fun hm=>by have:=(HI.out.ds _ hm).2.1.1;omega,HI.out.nd⟩;have hlv:lb<V.heap.size:=by have:=HX.out.2.1;have:=kp.size HS.out.1.rg;omega
    have HL:=aI4 hds hnd hlv jx;clear jx kp hrV pD hD bb kw hz4 hds hnd hlv;go_wp2;refine fD (B:=W1.heap.size) (fun w1=>Jx ((eR (fT B nts) Q hQ).take c'++((eR (qcL (B k)) (fun y=>Q (k,y)) hQ').take j).map (XX k)) w1) ?_ HW.out.2.2.2.2.2.2.1 ?_ (W4.heap.size::Ds) V HL.out.2.1 HL.out.1 HL.out.2.2.1 HL.out.2.2.2
    ·rintro s X Y row h2 hg hrr;exact(H.out.2.1.from (by omega)) _ X Y row h2 hg hrr
    ·intro w1 h2;exact⟨_,results_none rfl _ _ _,⟨_,rfl⟩,.inr ⟨_,⟨c'+j,HS.out.2.2.1 j hj,(wL HD.out hQ' j hj).symm⟩,h2⟩⟩
  ·obtain rfl:k=nts:=by omega
   have hdr:(fT B k).drop c'=[]:=by rw[HI.out.at_,Nat.sub_self];rfl
   have jj:=HI.out.j;rw[tC hdr] at jj;have z1:=HW.out.2.2.2.2.2.2.2.1;have lbr:lb<wr.heap.size:=Nat.lt_of_lt_of_le HW.out.2.2.2.2.2.2.1 (HI.out.kp.size HW.out.2.2.2.2.2.1);have HL:=aI4 HI.out.ds HI.out.nd lbr jj;clear hdr jj lbr;go_wp2;refine fD (B:=W1.heap.size) (fun w1=>J (eR (fT B k) Q hQ) w1) ?_ HW.out.2.2.2.2.2.2.1 ?_ Ds _ HL.out.2.1 HL.out.1 HL.out.2.2.1 HL.out.2.2.2
   ·rintro s X Y row h2 hg hrr;exact(H.out.1.from (by omega)) _ X Y row h2 hg hrr
   ·intro w1 h2;exact⟨_,results_none rfl _ _ _,⟨_,rfl⟩,.inl ⟨_,rfl,h2⟩⟩
open Go.RowKit Go.Shelf
attribute [local go_sem] Oper.semAt_some
theorem kX{F:Fence}{nF:Nat}{P:Program}{ops:Array Oper}{rest:List Oper}{o:Oper}{a:Act}{Q:Exit→Act→World→Prop}{w w':World}{v v2 v':Value}(hgd:o.guard=none)(s x:Operand)(t:TypeId)
  (ho:o.op=.call { callee:=.builtin .append,args:=#[s,x],argTypes:=#[t,t] }) (hs:a.eval s=v) (hx:a.eval x=v2)
  (hrun:(Builtin.append_ #[t,t] o.type #[v,v2]).run P w=.ok v' w') (h:wpListIn F nF P ops Q rest (a.put o.dst v') w'):wpListIn F nF P ops Q (o::rest) a w:=by
 refine wpListIn_plain hgd fun K hK=>?_
 unfold Oper.wpIn;refine⟨by simp[Oper.about,ho,resolve,Target.leads,Sem.run_pure],?_⟩;rw[Oper.semAt_plain F _ _ (by rw[ho];intro c hc';cases hc')];simp[execOp,ho,resolve,invoke,builtin,hs,hx,hrun,Result.andThen]
 exact hK _ _ h
theorem wM:(Tryz.prog.info? 52).map (fun i=>(i.zero,i.size,i.bytes))=some (some (.agg #[.int .i64 0,.int .i64 0,.int .i64 0]),3,24):=by kernel_rfl
def faC(x:Nat × Nat × Nat):List Value:=[.int .i64 (x.1:Int),.int .i64 (x.2.1:Int),.int .i64 (x.2.2:Int)]
def dW(L:List (Nat × Nat × Nat)):List Value:=L.flatMap faC
theorem PE(x:Nat × Nat × Nat):∀u∈faC x,u.oneCell'=true:=by
 intro u hf;simp[faC] at hf
 rcases hf with rfl|rfl|rfl <;> rfl
theorem tT{w w':World}{base e size n:Nat}{v:Value}{xs:List Value}{row:Option Nat}(h:w.ownsRow base e size v n xs)(hg:w.grownBy w' row)(hn:∀q,v.ownBlock=some q→row≠some q):w'.ownsRow base e size v n xs:=by
 have hu:=Upd.of_grown hg;refine aA h hu (fun k hk e=>hn k hk e)
theorem VA{lb:Nat}{F:Nat→Prop}{A B:World}{v v':Value}(ha:A.cell? ⟨lb,0,none⟩=some v)(hb:B.cell? ⟨lb,0,none⟩=some v')(hu:Upd (fun q=>F q∨v.ownBlock=some q) A B)(hl:∀q,v'.ownBlock=some q→q<B.heap.size)(pl:∀k,v'.ownBlock=some k→v.ownBlock=some k∨A.heap.size≤k):KpM lb F A B:=by
 intro _;refine⟨hu.mono (fun i _ h=>h.imp id (fun h=>⟨v,ha,h⟩)),fun u q h1 h2=>?_⟩;rw[hb] at h1;injection h1 with e;subst e;refine⟨hl q h2,fun hlt=>⟨v,ha,?_⟩⟩;rcases pl q h2 with h|h
 ·exact h
 ·omega
theorem AY(B:dA):∀(n k:Nat) (x:Nat × Nat × Nat),x∈rI B k n↔k≤x.1∧x.1<k+n∧x.2∈qcL (B x.1)
 | 0,k,x=>by simp[rI];omega
 | n+1,k,x=>by
  rw[rI,List.mem_append,AY B n (k+1) x,List.mem_map];constructor
  ·rintro (⟨y,hy,rfl⟩|⟨h1,h2,h3⟩)
   ·exact⟨Nat.le_refl _,by show k<_;omega,hy⟩
   ·exact⟨by omega,by omega,h3⟩
  ·rintro⟨h1,h2,h3⟩;by_cases e:x.1=k
   ·exact .inl ⟨x.2,by rw[← e];exact h3,by rw[← e]⟩
   ·exact .inr ⟨by omega,by omega,h3⟩
theorem lW{B:dA}{nts:Nat}(hw:∀k,k<nts→Wd (dD (B k))){k i j:Nat}:(k,i,j)∈fT B nts↔k<nts∧i<64∧j<64∧cV (B k) i j=true:=by
 unfold fT;rw[AY];constructor
 ·rintro⟨-,h2,h3⟩;have h2:k<nts:=by simpa using h2
  exact⟨h2,(GF (hw k h2)).1 h3⟩
 ·rintro⟨h2,h3⟩;exact⟨Nat.zero_le _,by simpa using h2,(GF (hw k h2)).2 h3⟩
theorem BA(B:dA):∀(n k:Nat),(∀j,k≤j→j<k+n→Wd (dD (B j)))→(rI B k n).length≤n*4096
 | 0,k,_=>by simp[rI]
 | n+1,k,h=>by
  rw[rI,List.length_append,List.length_map,kU];have h1:=fM (h k (Nat.le_refl _) (by omega));have h2:=BA B n (k+1) (fun j a b=>h j (by omega) (by omega));omega
def WW(w:World)(L:List (Nat × Nat × Nat))(e:Ending)(w':World):Prop:=∃A c,e=.returned (.slice A L.length c)∧w'.ownsRow w.heap.size 52 3 (.slice A L.length c) L.length (dW L)∧Below w.heap.size w w'
theorem yO(W:World)(f:Fn)(x y:Array Value):(binOp .eql 62 (.func f x y) .nilFunc).run Tryz.prog W=.ok (.bool false) W:=yN W f x y
open Go.RowKit Go.Shelf
theorem CX:Tryz.prog.stoodInHeld 52=false:=by kernel_rfl
theorem wN(W:World)(a b c:Int)(k:Nat)(x:Int)(h:[a,b,c][k]?=some x):(part 3 #[.int .i64 a,.int .i64 b,.int .i64 c] k).run Tryz.prog W=.ok (.int .i64 x) W:=by
 match k,h with
 | 0,h=>simp at h;subst h;simp[part,isAgg,run_underlying Tryz.underlying3]
 | 1,h=>simp at h;subst h;simp[part,isAgg,run_underlying Tryz.underlying3]
 | 2,h=>simp at h;subst h;simp[part,isAgg,run_underlying Tryz.underlying3]
 | k+3,h=>simp at h
theorem nR(W:World)(a0 a1 a2 b0 b1 b2:Int):(binOp .neq 52 (.agg #[.int .i64 a0,.int .i64 a1,.int .i64 a2]) (.agg #[.int .i64 b0,.int .i64 b1,.int .i64 b2])).run Tryz.prog W=.ok (.bool (!(a0==b0&&(a1==b1&&a2==b2)))) W:=by
 have hs:Tryz.prog.underlying 52=some (.struct (Tryz.prog.fieldsOf 52)):=by kernel_rfl
 have h9:=fun a b=>run_equalIn_int (P:=Tryz.prog) W 9998 3 .i64 .i64 a b Tryz.underlying3
 have pa:=wN W a0 a1 a2;have pb:=wN W b0 b1 b2;have e:(Op.equal 52 (.agg #[.int .i64 a0,.int .i64 a1,.int .i64 a2]) (.agg #[.int .i64 b0,.int .i64 b1,.int .i64 b2])).run Tryz.prog W=.ok (a0==b0&&(a1==b1&&a2==b2)) W:=by
  show(Op.equalIn (9999+1) _ _ _).run _ _=_
  rw[run_equalIn_struct (P:=Tryz.prog) W 9999 _ _ _ hs CX];simp only[Program.fieldsOf,Tryz.underlying52,Op.eqFields]
  rw[if_pos (by decide),if_pos (by decide),if_pos (by decide)];simp only[Sem.run_bind,pa 0 a0 rfl,pb 0 b0 rfl,h9,Result.andThen_ok]
  cases a0==b0
  ·simp
  ·simp only[Bool.not_true,Bool.false_eq_true,if_false,Sem.run_bind,pa 1 a1 rfl,pb 1 b1 rfl,h9,Result.andThen_ok,Bool.true_and]
   cases a1==b1
   ·simp
   ·simp only[Bool.not_true,Bool.false_eq_true,if_false,Sem.run_bind,pa 2 a2 rfl,pb 2 b2 rfl,h9,Result.andThen_ok,Bool.true_and]
    cases a2==b2 <;> simp
 clear pa pb h9 hs;simp only[binOp]
 simp[e]
theorem aU.fact{w:World}{A:Option Addr}{L:List (Nat × Nat × Nat)}(h:aU w A (dW L)){k:Nat}{x:Nat × Nat × Nat}(hk:L[k]?=some x) :
  ∃b o,A=some ⟨b,o,none⟩∧w.cell? ⟨b,o+k*3,none⟩=some (.int .i64 (x.1:Int))∧w.cell? ⟨b,o+k*3+1,none⟩=some (.int .i64 (x.2.1:Int))∧w.cell? ⟨b,o+k*3+2,none⟩=some (.int .i64 (x.2.2:Int)):=by
 have hg:=fun j (hj:j<3)=>cW faC 3 (fun _=>rfl) L k j x hk hj
 obtain⟨b,o,rfl,h0⟩:=h _ _ (hg 0 (by omega));obtain⟨b1,o1,e1,h1⟩:=h _ _ (hg 1 (by omega));obtain⟨b2,o2,e2,h2⟩:=h _ _ (hg 2 (by omega));injection e1 with e1;injection e1 with e1 e1';injection e2 with e2;injection e2 with e2 e2';subst e1;subst e1';subst e2;subst e2';exact⟨_,_,rfl,h0,h1,h2⟩
open Go.RowKit Go.Shelf
theorem VB{N:List Txt}{E:List Ed}(h:cJ N E=0):GOk ⟨N,E⟩:=by
 have hf:=nO (kE h).1;exact⟨hf.1.nodup eX,hf.2.1.nodup qH,hf.2.2,(RA h (fun _=>Iff.rfl) (fun _=>Iff.rfl)).1⟩
theorem NP(B:dA):∀(n:Nat),(fT B n).length=CU B n:=by
 have h:∀n k,(rI B k n).length=yJ (fun j=>dG (dD (B (k+j)))) n:=by
  intro n;induction n with
  | zero=>intro k;rfl
  | succ n ih =>
   intro k;rw[rI,List.length_append,List.length_map,kU,ih (k+1)];have hs:∀(f:Nat→Nat) (m:Nat),yJ f (m+1)=f 0+yJ (fun j=>f (j+1)) m:=by
    intro f m;induction m with
    | zero=>simp[yJ]
    | succ m im =>
     rw[yJ,im,yJ];omega
   rw[hs];congr 1
   congr 1
   funext j
   rw[show k+1+j=k+(j+1) by omega]
 intro n;unfold fT CU;rw[h n 0];congr 1
 funext j
 rw[Nat.zero_add]
open Go.RowKit Go.Shelf
theorem VC(l:List Pv):∀u∈cI l,u.oneCell'=true:=by
 intro u hu;obtain⟨v,-,hu⟩:=List.mem_flatMap.1 hu;simp[Pv.cells] at hu
 rcases hu with rfl|rfl <;> rfl
structure OrO(W:World)(B0 g:Nat)(nts:Int)(L:List Pv)(n:Nat)(A:Option Addr)(c:Nat):Prop where
 b:Blk W g 50 #[.int .i64 nts,.slice A n c]
 own:W.ownsRow B0 71 2 (.slice A n c) n (cI L)
 ne:(Value.slice A n c).ownBlock≠some g
 len:L.length=n
 g0:B0≤g
theorem OrO.below{W V:World}{B0 g n c:Nat}{nts:Int}{L:List Pv}{A:Option Addr}(h:OrO W B0 g nts L n A c)(hb:Below W.heap.size W V):OrO V B0 g nts L n A c:=
 ⟨h.b.upd (upF hb) id,aA h.own (upF hb) (fun _ _=>id),h.ne,h.len,h.g0⟩
def NwC(W W':World)(nts:Int)(PV:List Pv)(labels:List Txt)(G:Gr)(v:Value)(e:Int):Prop:=
 Below W.heap.size W W'∧((cO nts PV labels=2∧v=.pointer none∧e=2)∨(cO nts PV labels=0∧e=0∧∃(p:Nat) (F:Nat→Prop) (B:dA),v=.pointer (some ⟨p,0,none⟩)∧ClS W' F p (max 1 G.N.length) G.N.length nts.toNat B∧(∀k,F k→W.heap.size≤k) ∧
  (∀k,k<nts.toNat→∀i j,cV (B k) i j=true↔qD (PV.map (·.pr)) (ElG G labels) G.N.length (k:Int) i j)∧∀k,WdO (B k)))
theorem VE{W W':World}{nts:Int}{PV:List Pv}{labels:List Txt}{G:Gr}{e:Ending}(h:PB W nts PV labels G e W'):∃v c,e=.returned (.tuple #[v,.int .i64 c])∧NwC W W' nts PV labels G v c:=by
 rcases h with ⟨h1,h2,h3⟩|⟨h1,p,F,B,h2,h3,h4,h5,h6⟩
 ·exact⟨_,_,h2,h3,.inl ⟨h1,rfl,rfl⟩⟩
 ·exact⟨_,_,h2,h5,.inr ⟨h1,rfl,p,F,B,rfl,h3,h4,h6⟩⟩
theorem IX{α β:Type}{f:α→β}{l:List α}(h:l.Nodup)(hf:∀a∈l,∀b∈l,f a=f b→a=b):(l.map f).Nodup:=by
 unfold List.Nodup;rw[List.pairwise_map];exact List.Pairwise.imp_of_mem (fun {a b} ha hb hn e=>hn (hf a ha b hb e)) h
open Go.RowKit Go.Shelf
theorem yP(l:List Sy):(cS l).length=l.length*2:=eC _ 2 (fun _=>rfl) l
theorem VF(l:List Sy):∀u∈cS l,u.oneCell'=true:=by
 intro u hu;obtain⟨v,-,hu⟩:=List.mem_flatMap.1 hu;simp[Sy.cells] at hu
 rcases hu with rfl|rfl <;> rfl
theorem NQ:(Tryz.prog.info? 96).map (fun i=>(i.zero,i.size,i.bytes))=some (some (.agg #[.bool false,.int .i64 0]),2,16):=by kernel_rfl
theorem aU.sym{w:World}{A:Option Addr}{l:List Sy}(h:aU w A (cS l)){k:Nat}{s:Sy}(hk:l[k]?=some s) :
  ∃b o,A=some ⟨b,o,none⟩∧w.cell? ⟨b,o+k*2,none⟩=some (.bool s.lab)∧w.cell? ⟨b,o+k*2+1,none⟩=some (.int .i64 s.at_):=by
 have hg:=fun j (hj:j<2)=>cW Sy.cells 2 (fun _=>rfl) l k j s hk hj
 obtain⟨b,o,rfl,h0⟩:=h _ _ (hg 0 (by omega));obtain⟨b1,o1,e1,h1⟩:=h _ _ (hg 1 (by omega));injection e1 with e1;injection e1 with e1 e1';subst e1;subst e1';exact⟨_,_,rfl,h0,h1⟩
structure OrM(W0 W:World)(nts:Int)(PV:List Pv)(L:List Pv)(t:Nat)(A:Option Addr)(c:Nat):Prop where
 o:OrO W W0.heap.size W0.heap.size nts L t A c
 pr:L.map (·.pr)=((PV.take t).map (·.pr)).map Pr.mirror
 bd:∀v∈L,aU W v.adr (cS v.pr.body)∧∀b o s,v.adr=some ⟨b,o,s⟩→b<W.heap.size∧b≠W0.heap.size∧(Value.slice A t c).ownBlock≠some b
 bl:Below W0.heap.size W0 W
theorem OrM.below{W0 W V:World}{nts:Int}{PV L:List Pv}{t c:Nat}{A:Option Addr}(h:OrM W0 W nts PV L t A c)(hb:Below W.heap.size W V):OrM W0 V nts PV L t A c:=
 ⟨h.o.below hb,h.pr,fun v hv=>⟨(h.bd v hv).1.below3 hb,fun b o s e=>⟨Nat.lt_of_lt_of_le ((h.bd v hv).2 b o s e).1 hb.size,((h.bd v hv).2 b o s e).2⟩⟩,tHn h.bl hb⟩
theorem OrM.push{W0 W:World}{nts:Int}{PV L:List Pv}{t c:Nat}{A:Option Addr}(h:OrM W0 W nts PV L t A c){y:Pv}(hy:PV[t]?=some y)(v:Pv)(hv:v.pr=y.pr.mirror)(ha:∀b o s,v.adr=some ⟨b,o,s⟩→b≠W0.heap.size∧(Value.slice A t c).ownBlock≠some b)
  (hvr:aU W v.adr (cS v.pr.body)) (hlt:∀b o s,v.adr=some ⟨b,o,s⟩→b<W.heap.size) (R:Option Addr) (d:Nat) (hr:aU W R (cI [v])) (hl:(t+1)*32≤140737488355328) :
  ∃A' c' W1,(Builtin.append_ #[48,48] 48 #[.slice A t c,.slice R 1 d]).run Tryz.prog W=.ok (.slice A' (t+1) c') W1∧Blk W1 W0.heap.size 50 #[.int .i64 nts,.slice A t c] ∧
   OrM W0 (W1.setCell ⟨W0.heap.size,1,none⟩ (.slice A' (t+1) c')) nts PV (L++[v]) (t+1) A' c':=by
 obtain⟨A',c',W1,happ,own',up,pl⟩:=aY W W0.heap.size 48 71 2 32 _ Tryz.underlying48 wI rfl (by decide) (by decide) A t c _ h.o.own R 1 d (cI [v]) hr rfl (VC [v]) hl h.bl.size;have kb:=h.o.b.upd up h.o.ne;have hne':(Value.slice A' (t+1) c').ownBlock≠some W0.heap.size:=by
  intro e;rcases pl _ e with h1|h1
  ·exact h.o.ne h1
  ·have:=h.o.b.lt;omega
 have us:Upd (fun q=>q=W0.heap.size) W1 (W1.setCell ⟨W0.heap.size,1,none⟩ (.slice A' (t+1) c')):=(Upd.refl (fun q=>q=W0.heap.size) W1).setCell (p:=⟨W0.heap.size,1,none⟩) (.inl rfl) _;have ua:=(up.mono (F':=fun q=>q=W0.heap.size∨(Value.slice A t c).ownBlock=some q) (fun i _ h=>.inr h)).trans us (fun i h=>.inl (.inl h));have hb1:Below W0.heap.size W W1:=up.below (fun q _ hq=>(h.o.own.lt q hq).1) h.bl.size;have keep:∀z:Pv,aU W z.adr (cS z.pr.body)→(∀b o s,z.adr=some ⟨b,o,s⟩→b<W.heap.size∧b≠W0.heap.size∧(Value.slice A t c).ownBlock≠some b) →
   aU (W1.setCell ⟨W0.heap.size,1,none⟩ (.slice A' (t+1) c')) z.adr (cS z.pr.body)∧∀b o s,z.adr=some ⟨b,o,s⟩→b<(W1.setCell ⟨W0.heap.size,1,none⟩ (.slice A' (t+1) c')).heap.size∧b≠W0.heap.size∧(Value.slice A' (t+1) c').ownBlock≠some b:=fun z h1 h2=>by
  refine⟨h1.upd ua (fun b o s e hf=>?_),fun b o s e=>⟨Nat.lt_of_lt_of_le (h2 b o s e).1 ua.size,(h2 b o s e).2.1,fun ho=>?_⟩⟩
  ·rcases hf with hf|hf
   ·exact(h2 b o s e).2.1 hf
   ·exact(h2 b o s e).2.2 hf
  ·rcases pl b ho with h3|h3
   ·exact(h2 b o s e).2.2 h3
   ·have:=(h2 b o s e).1;omega
 refine⟨A',c',W1,happ,kb,⟨⟨kb.set 1 _,?_,hne',by rw[List.length_append,h.o.len];rfl,h.o.g0⟩,?_,fun z hz=>?_,h.bl.trans (hb1.setCell (Nat.le_refl _) _)⟩⟩
 ·have:=aA own' us (fun k hk e=>hne' (by rw[hk,e]));rw[show cI (L++[v])=cI L++cI [v] by simp[cI]];exact this
 ·rw[List.map_append,h.pr,List.take_add_one,hy,Option.toList_some,List.map_append,List.map_append,List.map_cons,List.map_nil,List.map_cons,List.map_nil,List.map_cons,List.map_nil,hv]
 ·rcases List.mem_append.1 hz with hz|hz
  ·exact keep z (h.bd z hz).1 (h.bd z hz).2
  ·rw[List.mem_singleton] at hz;subst hz;exact keep z hvr (fun b o s e=>⟨hlt b o s e,ha b o s e⟩)
open Go.RowKit Go.Shelf
theorem pR{p:Pr}{nts labels:Int}(h:aT p nts labels=true):p.body=[]∨(∃s,p.body=[s]∧0≤s.at_∧s.at_<labels)∨∃s t,p.body=[s,t]:=by
 obtain⟨hd,b⟩:=p;unfold aT at h;rw[Bool.and_eq_true] at h;match b with
 | []=>exact .inl rfl
 | [s] =>
  have h2:dQ s true labels=true:=h.2;unfold dQ at h2;simp only[Bool.and_eq_true,decide_eq_true_eq] at h2
  exact .inr (.inl ⟨s,rfl,h2.2.1,h2.2.2⟩)
 | [s,t]=>exact .inr (.inr ⟨s,t,rfl⟩)
 | s::t::u::b=>exact absurd h.2 (by simp)
open Go.RowKit Go.Shelf
theorem yQ{P:List Pr}{El:Int→Nat→Nat→Prop}{n:Nat}(hE:∀k i j,El k i j→i<n∧j<n){a:Int}{i j:Nat}(d:qD P El n a i j):i<n∧j<n:=by
 induction d with
 | eps _ h=>exact⟨h,h⟩
 | one _ h=>exact hE _ _ _ h
 | two _ _ _ h1 h2=>exact⟨h1.1,h2.2⟩
theorem wO{P:List Pr}{El:Int→Nat→Nat→Prop}{n T:Nat}(hP:∀p∈P,0≤p.head∧p.head<(T:Int)){a:Int}{i j:Nat}(d:qD P El n a i j):∃k:Nat,a=(k:Int)∧k<T:=by
 have:0≤a∧a<(T:Int):=by
  cases d with
  | eps h _=>exact hP _ h
  | one h _=>exact hP _ h
  | two h _ _=>exact hP _ h
 exact⟨a.toNat,by omega,by omega⟩
theorem kJ{p:Pr}{nts labels:Int}(h:aT p nts labels=true):0≤p.head∧p.head<nts:=by
 unfold aT at h;simp only[Bool.and_eq_true,decide_eq_true_eq] at h
 exact h.1
end Go.Proofs.YtddffnonlmfhdaaGreatDoor
