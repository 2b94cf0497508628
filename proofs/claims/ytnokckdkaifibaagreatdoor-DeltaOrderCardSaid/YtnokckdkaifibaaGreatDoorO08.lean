/- Blocks of bits: the product. (Written by mkAzC.py.); Matrices of bits: or of any block, Put. (Written by mkAzD.py.); Matrices of bits: Put. (Written by mkAzE.py.); Matrices of bits: Join; Matrices of bits: a block of one, what one holds and another one does not. (Written by mkDlB.py.); Graphs: an edge that comes; Graphs: an edge that comes (the walk); Edges: cut to what this seat wants; Edges: cut to what this seat wants; Edges: cut to what this seat wants; Graphs: Data. -/
import Derived.Test.YtnokckdkaifibaaGreatDoorO07
import Derived.Test.YtnokckdkaifibaaGreatDoorO04
import Derived.Deep.Cut
import Derived.Test.YtnokckdkaifibaaGreatDoorO05
import Derived.Laws.Cover3
set_option linter.unusedVariables false
set_option linter.unusedSimpArgs false
set_option maxHeartbeats 16000000
set_option maxRecDepth 100000
namespace Go.Proofs.YtnokckdkaifibaaGreatDoor
open Go.RowKit
def orL(b:List Nat):List Nat→Nat→Nat
 | [],v=>v
 | c::l,v=>orL b l (v ||| b.getD c 0)
def lY(a b:List Nat):List Nat:=wf (fun i=>orL b (dP 64 0 (a.getD i 0)) 0)
theorem FI{b:List Nat}(h:Wd b):∀(l:List Nat) (v:Nat),v<18446744073709551616→orL b l v<18446744073709551616
 | [],_,hv=>hv
 | c::l,v,hv=>FI h l _ (Nat.or_lt_two_pow (n:=64) hv (lX h c))
theorem jR(a:List Nat){b:List Nat}(h:Wd b):Wd (lY a b):=PJ (fun _ _=>FI h _ _ (by decide))
theorem FJ(b:List Nat)(j:Nat):∀(l:List Nat) (v:Nat),(orL b l v).testBit j=true↔v.testBit j=true∨∃c∈l,(b.getD c 0).testBit j=true
 | [],v=>by simp[orL]
 | c::l,v=>by
  rw[orL,FJ b j l,Nat.testBit_or,Bool.or_eq_true];constructor
  ·rintro ((h|h)|⟨d,hd,h⟩)
   ·exact .inl h
   ·exact .inr ⟨c,List.mem_cons_self,h⟩
   ·exact .inr ⟨d,List.mem_cons_of_mem _ hd,h⟩
  ·rintro (h|⟨d,hd,h⟩)
   ·exact .inl (.inl h)
   ·rcases List.mem_cons.1 hd with rfl|hd
    ·exact .inl (.inr h)
    ·exact .inr ⟨d,hd,h⟩
theorem xL{a b:List Nat}(_ha:Wd a)(_hb:Wd b){i j:Nat}(hi:i<64):fE (lY a b) i j=true↔∃k,k<64∧fE a i k=true∧fE b k j=true:=by
 unfold fE lY;rw[qF _ hi,Option.getD_some,FJ];constructor
 ·rintro (h|⟨c,hc,h⟩)
  ·simp at h
  ·obtain⟨t,ht,rfl,hb⟩:=(jL _ _ _ _).1 hc;rw[Nat.zero_add] at h;exact⟨t,ht,hb,h⟩
 ·rintro⟨k,hk,h1,h2⟩;exact .inr ⟨k,(jL _ _ _ _).2 ⟨k,hk,(Nat.zero_add k).symm,h1⟩,h2⟩
theorem SC{f g:Nat→Nat}{k:Nat}(h:k<64)(v u:Nat):(wf (fun i=>if i<k then f i else if i=k then v else g i)).set k u=wf (fun i=>if i<k then f i else if i=k then u else g i):=by
 rw[NO _ h];apply iL
 intro i _;by_cases e:i=k
 ·subst e;rw[if_pos rfl,if_neg (Nat.lt_irrefl i),if_pos rfl]
 ·rw[if_neg e];by_cases e2:i<k
  ·rw[if_pos e2,if_pos e2]
  ·rw[if_neg e2,if_neg e2,if_neg e,if_neg e]
theorem UC{f:Nat→Nat}{k:Nat}:wf (fun i=>if i<k then f i else 0)=wf (fun i=>if i<k then f i else if i=k then 0 else 0):=iL (fun i _=>by
 by_cases e:i<k
 ·rw[if_pos e,if_pos e]
 ·rw[if_neg e,if_neg e];split <;> rfl)
theorem SD{f:Nat→Nat}{k:Nat}:wf (fun i=>if i<k then f i else if i=k then f k else 0)=wf (fun i=>if i<k+1 then f i else 0):=iL (fun i _=>by
 by_cases e:i<k
 ·rw[if_pos e,if_pos (by omega)]
 ·rw[if_neg e];by_cases e2:i=k
  ·subst e2;rw[if_pos rfl,if_pos (by omega)]
  ·rw[if_neg e2,if_neg (by omega)])
theorem LD(w:World)(a b:List Nat)(ha:Wd a)(hb:Wd b)(hT:gI w):Calls Tryz.prog 217 #[wdV a,wdV b] w (Sam w (wdV (lY a b))):=by
 have k0:=(((Blk.new w 168 (wdC a).toArray).alloc (.cells (wdC b).toArray 168)).alloc (.cells Z64 168)).alloc (.cells Z64 168);have k1:=((Blk.new (w.alloc (.cells (wdC a).toArray 168)) 168 (wdC b).toArray).alloc (.cells Z64 168)).alloc (.cells Z64 168);have k2:=(Blk.new ((w.alloc (.cells (wdC a).toArray 168)).alloc (.cells (wdC b).toArray 168)) 168 Z64).alloc (.cells Z64 168);have k3:=Blk.new (((w.alloc (.cells (wdC a).toArray 168)).alloc (.cells (wdC b).toArray 168)).alloc (.cells Z64 168)) 168 Z64;simp only[World.size_alloc] at k1 k2 k3
 have u0:Below w.heap.size w ((((w.alloc (.cells (wdC a).toArray 168)).alloc (.cells (wdC b).toArray 168)).alloc (.cells Z64 168)).alloc (.cells Z64 168)):=by(repeat (first | exact Below.refl _ _ | apply Below.drew | refine Below.alloc ?_ (by first | exact Nat.le_refl _ | (simp;done) | (simp;omega)) _ | refine Below.setCell ?_ (by first | exact Nat.le_refl _ | (simp;done) | (simp;omega)) _))
 have H:=aI9 k0 k1 (bB.mp k2) (bB.mp k3) u0 ha hb (hT.upd (upF u0) hT.lt id) hT.lt;have HIx:=hIz (show ∀(W:World) (k x:Nat),a[k]?=some x→(Instr.index 168 (.agg (wdC a).toArray) (.int .i64 (k:Int))).run Tryz.prog W=.ok (.int .u64 (x:Int)) W from fun W k x h=>rJ ha h);clear k0 k1 k2 k3 u0;unfold wdV;go_enter Tryz.func217,Tryz.ntmps217;go_upto_region 2 with (fail);generalize (((w.alloc (.cells (wdC a).toArray 168)).alloc (.cells (wdC b).toArray 168)).alloc (.cells Z64 168)).alloc (.cells Z64 168)=W0 at H ⊢;have hrg:=bP H.out.1;have hsz:=bH ha;go_wp2_with (refine wpList_load_mid rfl 168 _ rfl w.heap.size 0 rfl (wdC a) (.array 64 166) hrg Tryz.underlying168 rfl hsz ?_);clear hrg hsz;go_loopw [9] (fun i wr=>∃k:Nat,k≤64∧i=.int .i64 k∧Hid (Upd (fun q=>q=w.heap.size+1+1+1) W0 wr∧Blk wr (w.heap.size+1+1+1) 168 (wdC (wf (fun i=>if i<k then orL b (dP 64 0 (a.getD i 0)) 0 else 0))).toArray)) (fun i _=>64-(intOf i).toNat)
 case atStart=>exact⟨0,Nat.zero_le _,rfl,hIz ⟨Upd.refl _ _,by rw[xK (fun i=>orL b (dP 64 0 (a.getD i 0)) 0) (fun _=>0),← xH];exact H.out.2.2.2.1⟩⟩
 case round =>
  obtain⟨k,hk,rfl,hI⟩:=hrel;by_cases hlt:k<64
  ·have hltI:(k:Int)<(64:Int):=by omega
   have hkw:IntKind.i64.wrap ((k:Int)+1)=(k:Int)+1:=IntWalk.i64_in _ (by omega);obtain⟨x,hx⟩:∃x,a[k]?=some x:=⟨a[k]'(by rw[ha.len];exact hlt),gEz _⟩;have hxd:a.getD k 0=x:=by rw[List.getD_eq_getElem?_getD,hx];rfl
   have hix:=HIx.out wr k x hx;have hx64:=ha.fit x (mG hx);have HX:=aI2 hxd hx64;clear hx hxd hx64;go_wp2;clear hix;go_loopw [7] (fun t wr=>∃y v:Nat,t=.int .u64 (y:Int)∧Hid (y<18446744073709551616∧v<18446744073709551616∧orL b (dP 64 0 y) v=orL b (dP 64 0 x) 0∧Upd (fun q=>q=w.heap.size+1+1+1) W0 wr∧Blk wr (w.heap.size+1+1+1) 168 (wdC (wf (fun i=>if i<k then orL b (dP 64 0 (a.getD i 0)) 0 else if i=k then v else 0))).toArray)) (fun t _=>(intOf t).toNat)
   case atStart=>exact⟨x,0,rfl,hIz ⟨HX.out.2,by decide,rfl,hI.out.1,by rw[← UC];exact hI.out.2⟩⟩
   case round =>
    obtain⟨y,v,rfl,hJ⟩:=hrel;by_cases h0:y=0
    ·subst h0;have HE:=hIz (show Upd (fun q=>q=w.heap.size+1+1+1) W0 wr∧Blk wr (w.heap.size+1+1+1) 168 (wdC (wf (fun i=>if i<k+1 then orL b (dP 64 0 (a.getD i 0)) 0 else 0))).toArray from by
      obtain⟨-,-,h3,h4,h5⟩:=hJ.out;rw[kH,orL] at h3;refine⟨h4,?_⟩;rw[← SD (f:=fun i=>orL b (dP 64 0 (a.getD i 0)) 0),HX.out.1,← h3];exact h5)
     go_wp2;go_roundw
     case rel=>exact⟨k+1,by omega,by go_num,HE⟩
     case measure=>simp[intOf];omega
    ·have e1:((y:Int)==0)=false:=by simp;omega
     obtain⟨hy,hv,hor,hu,kp⟩:=hJ.out;obtain⟨c,hc⟩:∃c,Lib.ctz 64 y=c:=⟨_,rfl⟩;have hc64:c<64:=by rw[← hc];exact(Lib.lowest_bit 64 y h0 hy).2
     have hT2:=H.out.2.2.2.2.2.2.2.1.upd hu (by have:=H.out.2.2.2.2.1.size;have:=H.out.2.2.2.2.2.2.2.2;omega) (by have:=H.out.2.2.2.2.2.2.2.2;omega);have hcon:=NN y hy h0 wr.drew hT2;rw[hc] at hcon;have kb:=H.out.2.1.upd hu (by omega);obtain⟨z,hz⟩:∃z,b.getD c 0=z:=⟨_,rfl⟩;have hz64:z<18446744073709551616:=by rw[← hz];exact lX hb c
     have cb:wr.drew.cell? ⟨w.heap.size+1,c,none⟩=some (.int .u64 (z:Int)):=(kb.drew.cell c).trans (by
      have hbl:c<b.length:=by rw[hb.len];exact hc64
      have:=gB (r:=b) (k:=c) (x:=z) (by rw[← hz,List.getD_eq_getElem?_getD,gEz hbl];rfl);simpa using this)
     have cp:wr.drew.cell? ⟨w.heap.size+1+1+1,k,none⟩=some (.int .u64 (v:Int)):=(kp.drew.cell k).trans (by
      have:=gB (qF (fun i=>if i<k then orL b (dP 64 0 (a.getD i 0)) 0 else if i=k then v else 0) hlt);rw[if_neg (Nat.lt_irrefl k),if_pos rfl] at this;simpa using this)
     have fp:=kp.drew.frozen k;have hbo:=bits_or_u64_nat v z hv hz64;have hb1:IntKind.u64.wrap ((y:Int)-1)=((y-1:Nat):Int):=by rw[IntKind.wrap_u64];omega
     have hb2:bits .and .u64 (y:Int) ((y-1:Nat):Int)=((y &&& (y-1):Nat):Int):=bits_and_u64_nat y (y-1) hy (by omega);obtain⟨u,hu2⟩:∃u,v ||| z=u:=⟨_,rfl⟩;rw[hu2] at hbo;have HN:=hIz (show y &&& (y-1)<18446744073709551616∧u<18446744073709551616∧orL b (dP 64 0 (y &&& (y-1))) u=orL b (dP 64 0 x) 0∧Upd (fun q=>q=w.heap.size+1+1+1) W0 (wr.drew.setCell ⟨w.heap.size+1+1+1,k,none⟩ (.int .u64 (u:Int)))∧Blk (wr.drew.setCell ⟨w.heap.size+1+1+1,k,none⟩ (.int .u64 (u:Int))) (w.heap.size+1+1+1) 168 (wdC (wf (fun i=>if i<k then orL b (dP 64 0 (a.getD i 0)) 0 else if i=k then u else 0))).toArray from by
      refine⟨Nat.lt_of_lt_of_le (iK h0) (Nat.le_of_lt hy),by rw[← hu2];exact Nat.or_lt_two_pow (n:=64) hv hz64,?_,hu.drew.setCell (p:=⟨w.heap.size+1+1+1,k,none⟩) (.inl rfl) _,?_⟩
      ·rw[← hor,mW 64 0 y h0 (by simpa using hy),Nat.zero_add,orL,hc,hz,hu2]
      ·have:=kp.drew.set k (.int .u64 (u:Int));rw[mR,SC hlt v u] at this;exact this)
     have HM:=hIz (iK h0);clear hy hv hor hu kp hc hz hu2 kb hT2 hz64;go_upto_region 7 with (fail);have hcI:(c:Int)<(64:Int):=by omega
     have hS:wr.drew.cell? ⟨w.heap.size+1+1+1,k,none⟩=some (.int .u64 (v:Int))∧wr.drew.cell? ⟨w.heap.size+1,c,none⟩=some (.int .u64 (z:Int)):=⟨cp,cb⟩;refine aN (fun W=>W.cell? ⟨w.heap.size+1+1+1,k,none⟩=some (.int .u64 (v:Int))∧W.cell? ⟨w.heap.size+1,c,none⟩=some (.int .u64 (z:Int))) 9 [(0,true),(1,true),(2,true),(3,true),(4,false),(5,true),(6,true),(7,true),(8,true),(9,false)] hS ?_;generalize wr.drew=V0 at hS fp HN hcon ⊢;clear cp cb
     iterate 4 refine aD rfl ?_
     refine aK rfl rfl (fun K hK=>?_);go_simp;refine hcon.mono ?_;clear hcon;rintro e V1 ⟨rfl,hw1⟩;subst V1;refine hK _ _ (fun _=>hS) ?_;clear hK K;(try simp only[Act.put,gA,gS,gZ,sA,sZ,sS])
     iterate 4 refine aD rfl ?_
     refine aK rfl rfl (fun K hK=>?_);go_simp;refine hK _ _ (fun h=>absurd rfl h) ?_;clear hK K hS fp hbo;(try simp only[Act.put,gA,gS,gZ,sA,sZ,sS])
     refine aJ ?_;generalize V0.setCell ⟨w.heap.size+1+1+1,k,none⟩ (.int .u64 (u:Int))=V1 at HN ⊢;go_wp2;go_roundw
     case rel=>exact⟨y &&& (y-1),u,rfl,HN⟩
     case measure=>have:=HM.out;simp only[intOf];omega
  ·obtain rfl:k=64:=by omega
   have kP:=hI.out.2;rw[xJ (fun i=>orL b (dP 64 0 (a.getD i 0)) 0) (fun _=>0)] at kP;have hwd:=jR a hb;have hrg:=bP kP;have hsz:=bH hwd;have hth:wr.there (w.heap.size+1+1) 0 (wdC (lY a b)).toArray.size:=by have:=bU (H.out.2.2.1.upd hI.out.1 (by omega));simpa[bJ,bG,hwd.len] using this
   have hsz2:(Tryz.prog.info? 168).map (·.size)=some (wdC (lY a b)).toArray.size:=by simpa using hsz
   have h1c:(wdC (lY a b)).toArray.all (·.oneCell')=true:=all_oneCell_toArray (fK _);have bw:=H.out.2.2.2.2.1.trans (hI.out.1.below (fun q _ e=>by omega) H.out.2.2.2.2.1.size);have FIN:=hIz (show Below w.heap.size w (wr.setCells (w.heap.size+1+1) 0 (wdC (lY a b)))∧(wr.setCells (w.heap.size+1+1) 0 (wdC (lY a b))).rangeAt (w.heap.size+1+1) 0 (wdC (lY a b)) from
    ⟨bw.trans ((Upd.setCells (F:=fun q=>q=w.heap.size+1+1) (.inl rfl) (wdC (lY a b)) 0 (Upd.refl _ wr)).below (fun q _ e=>by omega) bw.size),World.rangeAt_setCells_same _ _ _ _ (by simpa using hth)⟩)
   change wr.rangeAt (w.heap.size+1+1+1) 0 (wdC (lY a b)) at hrg
   clear kP hI bw;go_upto_region 9 with (fail);go_wp2_with (first | (refine wpList_load_mid rfl 168 _ rfl (w.heap.size+1+1+1) 0 rfl (wdC (lY a b)) (.array 64 166) hrg Tryz.underlying168 rfl hsz ?_) | (refine wpList_store_mid rfl 168 _ _ rfl (w.heap.size+1+1) 0 (wdC (lY a b)).toArray rfl rfl hth hsz2 h1c ?_) | fail);have hlv:=run_loadVar_mid (P:=Tryz.prog) _ (w.heap.size+1+1) 0 168 (wdC (lY a b)) (.array 64 166) FIN.out.2 Tryz.underlying168 rfl hsz;refine bodyPost_ret (v:=.agg (wdC (lY a b)).toArray) (by simp[results,Tryz.f217,Act.put,asAddr,hlv,Result.andThen,Sem.run_bind]) rfl ⟨rfl,FIN.out.1⟩
open Go.RowKit
section
variable {P:Program} {ops:Array Oper} {Q:Exit→Act→World→Prop} {md:Region.Mode} {S:World→Prop} {n:Nat}
theorem LE{i f:Nat}{listed:Array Bool}{a:Act}{w:World}{oi:Oper}(hi:ops[i]?=some oi)(hB:(Region.noSelect ops&&Region.free md ops listed i&&(Region.ready md ops listed).contains i)=true)
  (hd:dU md ops listed) (hn:ops.size≤n) (hQ:∀c a d v w,Q (.panic c) (Act.put a d v) w→Q (.panic c) a w) (hS:S w)
  (hw:Region.wanted oi (yielded ops a.tmps)=true) (ty:TypeId) (x:Operand) (ho:oi.op=.load ty x) (b o:Nat) (hx:a.eval x=.pointer (some ⟨b,o,none⟩)) (cs:List Value) (d:TypeDesc) (hc:∀w,S w→w.rangeAt b o cs)
  (hu:P.underlying ty=some d) (hdr:d.isRow=true) (hinf:(P.info? ty).map (·.size)=some cs.length)
  (h:dU md ops (listed.setIfInBounds i true)→bI P md ops Q S n f (listed.setIfInBounds i true) (a.put oi.dst (.agg cs.toArray)) w):bI P md ops Q S n (f+1) listed a w:=
 yL hi hB hd hn hQ hS hw (fun w hw=>by
  unfold execOp;simp only[ho,hx,run_loadAt_mid w b o ty cs d (hc w hw) hu hdr hinf,Sem.run_bind,Result.andThen_ok]
  rfl) h
end
def joinO(b:Option (List Nat))(x:List Nat):Option (List Nat):=if x=aV then b else some (List.zipWith orN (bX b) x)
theorem vH{o:List Nat}:dF (List.zipWith aZ aV o)=0:=by
 have h:∀(n:Nat) (o:List Nat),dF (List.zipWith aZ (List.replicate n 0) o)=0:=fun n=>by
  induction n with
  | zero=>intro o;rfl
  | succ n ih =>
   intro o;cases o with
   | nil=>rfl
   | cons y o =>
    rw[List.replicate_succ,List.zipWith_cons_cons];have e:aZ 0 y=0:=by simp[aZ]
    have:=ih o;unfold dF at this ⊢;rw[List.map_cons,List.sum_cons,this,e];decide
 exact h 64 o
theorem LF(w:World)(p:Nat):Calls Tryz.prog 92 #[.pointer (some ⟨p,0,none⟩),.int .i64 0,.int .i64 0,wdV aV] w (Sam w (.bool false)):=by
 have k0:=Blk.new w 168 (wdC aV).toArray;have u0:Below w.heap.size w (w.alloc (.cells (wdC aV).toArray 168)):=bR.alloc (Nat.le_refl _) _;have hrg:=bP k0;have hsz:=bH cW;have heq:∀W,(binOp .eql 168 (.agg (wdC aV).toArray) (.agg Z64)).run Tryz.prog W=.ok (.bool true) W:=fun W=>by
  have h2:=EH W cW cW;rw[decide_eq_true rfl] at h2;rw[PC];exact h2
 have H:=hIz u0;clear k0 u0;unfold wdV;go_enter Tryz.func92,Tryz.ntmps92;go_upto_region 1 with (fail);generalize w.alloc (.cells (wdC aV).toArray 168)=W0 at H hrg ⊢;go_wp2_with (first | (refine wpList_load_mid rfl 168 _ rfl w.heap.size 0 rfl (wdC aV) (.array 64 166) hrg Tryz.underlying168 rfl hsz ?_) | fail);go_ret;exact⟨rfl,H.out⟩
theorem xM(w:World)(F:Nat→Prop)(p side:Nat)(b:Option (List Nat))(h:QuS w F p side b)(x:List Nat)(hx:Wd x) :
  Calls Tryz.prog 92 #[.pointer (some ⟨p,0,none⟩),.int .i64 0,.int .i64 0,wdV x] w (fun e w'=>e=.returned (.bool (decide (0<dF (List.zipWith aZ x (bX b)))))∧QTo w F p side (joinO b x) w'):=by
 by_cases hz:x=aV
 ·subst hz;refine(LF w p).mono ?_;rintro e w' ⟨rfl,hb⟩;refine⟨by rw[vH];rfl,?_⟩;unfold joinO;rw[if_pos rfl];exact⟨F,h.below hb,Upd.of_below hb F,fun k hk=>.inl hk⟩
 ·unfold joinO;rw[if_neg hz];exact EK w F p side b h x hx hz
theorem sW(w:World)(p side:Nat)(hs:1≤side)(hs2:side≤1024)(q0:w.cell? ⟨p,0,none⟩=some (.int .i64 (side:Int))):Calls Tryz.prog 173 #[.pointer (some ⟨p,0,none⟩),.int .i64 0,.int .i64 0] w (nE w (.bool true)):=by
 have hw:IntKind.i64.wrap ((side:Int)-1)=((side-1:Nat):Int):=by rw[IntKind.wrap_i64];omega
 have hd:(((side-1:Nat):Int)).tdiv 64=(((side-1) / 64:Nat):Int):=by rw[Int.tdiv_eq_ediv_of_nonneg (by omega)];omega
 have hw2:IntKind.i64.wrap ((((side-1) / 64:Nat):Int))=(((side-1) / 64:Nat):Int):=IntWalk.i64_in _ (by omega);have h0:(0:Int)≤(((side-1) / 64:Nat):Int):=by omega
 generalize (((side-1) / 64:Nat):Int)=q at hd hw2 h0;generalize (((side-1:Nat):Int))=s1 at hw hd;go_enter Tryz.func173,Tryz.ntmps173;go_wp2;go_ret;exact⟨rfl,rfl⟩
open Go.RowKit
theorem LG(W:World){r s:List Nat}(hr:Wd r)(hs:Wd s):(Op.equalIn 10000 168 (.agg (wdC r).toArray) (.agg (wdC s).toArray)).run Tryz.prog W=.ok (decide (r=s)) W:=by
 obtain⟨i0,hi0⟩:=Option.isSome_iff_exists.1 yO;show(Op.equalIn (9999+1) _ _ _).run _ _=_
 rw[run_equalIn_array (P:=Tryz.prog) W 9999 _ _ Tryz.underlying168 hi0,uS];rw[mT W 9998 hr.len hs.len _ (fun i hi=>List.mem_range.1 hi),NL hr.len hs.len]
def cE(Q:Exit→Act→World→Prop):Exit→Act→World→Prop
 | .panic _,_,_=>False
 | e,a,w=>Q e a w
theorem fD{P:Program}{c:Code}{Q:Exit→Act→World→Prop}{a:Act}{w:World}(h:c.wp P (cE Q) a w):c.wp P Q a w:=fun b k cs=>by
 obtain⟨e,a',w',hq,ha⟩:=h b k cs;refine⟨e,a',w',?_,ha⟩;cases e <;> first | exact hq | exact hq.elim
theorem tA{x:List Nat}(hx:Wd x){side:Nat}(h:∀i j,fE x i j=true→i<side∧j<side):cS x side=x:=by
 conv=>rhs;rw[SB hx]
 unfold cS;apply iL
 intro i hi;have hb:∀j,fE x i j=(x.getD i 0).testBit j:=fun j=>by unfold fE;rw[List.getD_eq_getElem?_getD]
 by_cases hs:i<side
 ·rw[if_pos hs];apply Nat.eq_of_testBit_eq
  intro j;rw[Nat.testBit_and,Nat.testBit_two_pow_sub_one];by_cases hj:(x.getD i 0).testBit j=true
  ·have:=(h i j (by rw[hb];exact hj)).2;rw[hj,Bool.true_and];exact decide_eq_true this
  ·rw[eq_false_of_ne_true hj,Bool.false_and]
 ·rw[if_neg hs];apply Nat.eq_of_testBit_eq
  intro j;by_cases hj:(x.getD i 0).testBit j=true
  ·exact absurd (h i j (by rw[hb];exact hj)).1 hs
  ·rw[Nat.zero_testBit];exact(eq_false_of_ne_true hj).symm
theorem yX(w:World)(F:Nat→Prop)(p side:Nat)(b:Option (List Nat))(h:QuS w F p side b)(hs64:side≤64)(x:List Nat)(hx:Wd x)(hfit:cS x side=x) :
  Calls Tryz.prog 203 #[.pointer (some ⟨p,0,none⟩),.int .i64 0,.int .i64 0,wdV x] w (fun e w'=>e=.returned (.tuple #[.bool (decide (0<dF (List.zipWith aZ x (bX b)))),.int .i64 0])∧QTo w F p side (joinO b x) w'):=by
 have hs1:1≤side:=by obtain⟨O,dep,cnt,m,last,L,pv,lv,hq,ok,-⟩:=h;exact ok.s1
 have k0:=Blk.new w 168 (wdC x).toArray;have u0:Below w.heap.size w (w.alloc (.cells (wdC x).toArray 168)):=bR.alloc (Nat.le_refl _) _;have hsz:=bH hx;have hsz2:(Tryz.prog.info? 168).map (·.size)=some (wdC x).toArray.size:=by simpa using hsz
 have h1c:(wdC x).toArray.all (·.oneCell')=true:=all_oneCell_toArray (fK _);have H:=aI3 (h.below u0) k0 u0;have q0:(w.alloc (.cells (wdC x).toArray 168)).cell? ⟨p,0,none⟩=some (.int .i64 (side:Int)):=by obtain⟨O,dep,cnt,m,last,L,pv,lv,hq,ok,-⟩:=h.below u0;exact hq.blk.cell 0
 clear k0 u0 h;unfold wdV;go_enter Tryz.func203,Tryz.ntmps203;go_upto_region 1 with (fail);generalize w.alloc (.cells (wdC x).toArray 168)=W1 at H q0 ⊢;have his:=eX W1 p side hs1 q0;have hhas:=sW W1 p side hs1 (by omega) q0;go_wp2_with fail;refine his.mono ?_;clear his;rintro e V1 ⟨rfl,hw1⟩;subst V1;go_wp2_with fail;refine hhas.mono ?_;clear hhas;rintro e V1 ⟨rfl,hw1⟩;subst V1;go_upto_region 5 with (fail);have hw0:IntKind.i64.wrap 0=0:=by decide
 have hws:IntKind.i64.wrap (side:Int)=(side:Int):=IntWalk.i64_in _ (by omega);have hmn:min (64:Int) (side:Int)=(side:Int):=by omega
 have SR:=hIz (show ∀V,Below W1.heap.size W1 V→(fun V=>V.rangeAt w.heap.size 0 (wdC x)∧V.cell? ⟨p,0,none⟩=some (.int .i64 (side:Int))) V from fun V hb=>by
  have hu:=Upd.of_below hb (fun _=>False);obtain⟨O,dep,cnt,m,last,L,pv,lv,hq,ok,-⟩:=H.out.1.below hb;exact⟨bP (H.out.2.1.upd hu id),hq.blk.cell 0⟩)
 clear q0;go_cut [10,11] from 10 (fun s10 s11 wc=>∃g10:Nat,s10=.pointer (some ⟨g10,0,none⟩)∧s11=.int .i64 0∧Hid (Below W1.heap.size W1 wc∧wc.rangeAt g10 0 (wdC x)))
 case first =>
  have hB0:=hIz (show Below W1.heap.size W1 W1.drew from bR.drew);have hS:=SR.out _ hB0.out;refine fD ?_;refine dY (fun V=>V.rangeAt w.heap.size 0 (wdC x)∧V.cell? ⟨p,0,none⟩=some (.int .i64 (side:Int))) (by kernel_rfl) (by kernel_rfl) hS ?_;refine jC (fun hd=>?_);generalize W1.drew=V0 at hB0 hS ⊢;(refine LE (i:=0) rfl (by kernel_rfl) hd (Nat.le_refl _) (fun _ _ d _ _ h=>by cases d <;> exact h) hS (by first | with_reducible rfl | kernel_rfl) 168 _ rfl w.heap.size 0 rfl (wdC x) (.array 64 166) (fun _ h=>h.1) Tryz.underlying168 rfl hsz ?_;clear hd;intro hd;(try simp only[Act.put,gA,gS,gZ,sA,sZ,sS]))
  refine aC 1 rfl hd hS ?_;clear hd;intro hd;refine aC 2 rfl hd hS ?_;clear hd;intro hd;refine aC 3 rfl hd hS ?_;clear hd;intro hd;refine aC 4 rfl hd hS ?_;clear hd;intro hd;refine aC 5 rfl hd hS ?_;clear hd;intro hd;refine aC 6 rfl hd hS ?_;clear hd;intro hd;refine aC 7 rfl hd hS ?_;clear hd;intro hd;refine aC 9 rfl hd hS ?_;clear hd;intro hd;refine aC 10 rfl hd hS ?_;clear hd;intro hd;refine aC 11 rfl hd hS ?_;clear hd;intro hd;refine aC 12 rfl hd hS ?_;clear hd;intro hd;refine aC 13 rfl hd hS ?_;clear hd;intro hd;refine aC 14 rfl hd hS ?_;clear hd;intro hd;refine aC 15 rfl hd hS ?_;clear hd;intro hd;refine rZ hd 8 16 21 ?_ ?_ ?_<;>(clear hd;intro hd)
  ·refine aF rfl rfl (fun K hK=>?_);go_simp;refine hK _ _ hS ?_;clear hK K;(try simp only[Act.put,gA,gS,gZ,sA,sZ,sS])
   refine cD hd 16 21 ?_ ?_<;>(clear hd;intro hd)
   ·refine aF rfl rfl (fun K hK=>?_);go_simp;refine hK _ _ hS ?_;clear hK K;(try simp only[Act.put,gA,gS,gZ,sA,sZ,sS])
    refine cD hd 17 21 ?_ ?_<;>(clear hd;intro hd)
    ·refine aF rfl rfl (fun K hK=>?_);go_simp;refine(cU V0 x hx side hs64).mono ?_;rintro e V1 ⟨rfl,b5⟩;rw[hfit];have hB1:=hIz (tHn hB0.out b5);have hS1:=SR.out _ hB1.out;refine hK _ _ hS1 ?_;clear hK K b5;(try simp only[Act.put,gA,gS,gZ,sA,sZ,sS])
     have hS:=hS1;refine aC 18 rfl hd hS ?_;clear hd;intro hd;refine aC 19 rfl hd hS ?_;clear hd;intro hd;refine aC 20 rfl hd hS ?_;clear hd;intro hd;refine aE hd 21 ?_;clear hd;intro hd;refine aF rfl rfl (fun K hK=>?_);go_simp;have hB2:=hIz (show Below W1.heap.size W1 (V1.alloc (.cells Z64 168)) from hB1.out.alloc hB1.out.size _);have hG2:=aI2 (Blk.new V1 168 Z64) hB1.out.size;have hS2:=SR.out _ hB2.out;refine hK _ _ hS2 ?_;clear hK K;(try simp only[Act.put,gA,gS,gZ,sA,sZ,sS])
     generalize hgg:V1.heap.size=g10 at hG2;generalize V1.alloc (.cells Z64 168)=V2 at hB2 hG2 hS2 ⊢;(try simp only[hgg])
     have kz:=bB.mp (hG2.out).1;have hth:V2.there g10 0 (wdC x).toArray.size:=by have:=bU kz;simpa[bJ,bG,hx.len] using this
     have zg:=(hG2.out).2;have us:=Upd.setCells (F:=fun q=>q=g10) (b:=g10) (.inl rfl) (wdC x) 0 (Upd.refl _ V2);have bF:=hB2.out.trans (us.below (fun q _ e=>by omega) hB2.out.size);have HE:=aI2 bF (World.rangeAt_setCells_same V2 g10 0 (wdC x) (by simpa using hth));clear kz us bF zg;refine aE hd 22 ?_;clear hd;intro hd;refine aF rfl rfl (fun K hK=>?_);refine wp_store_mid 168 _ _ rfl g10 0 (wdC x).toArray rfl rfl hth hsz2 h1c ?_;have hS:=SR.out _ HE.out.1;refine hK _ _ hS ?_;clear hK K hth;(try simp only[Act.put,gA,gS,gZ,sA,sZ,sS])
     refine aC 23 rfl hd hS ?_;clear hd;intro hd;refine bD (by kernel_rfl) ?_;clear hd hS;dsimp only [cE]
     go_wp2;go_meet
     case rel=>exact⟨_,rfl,rfl,HE⟩
    ·refine aF rfl rfl (fun K hK=>?_);go_simp;have hB3:=hIz (show Below W1.heap.size W1 (V0.alloc (.cells Z64 168)) from hB0.out.alloc hB0.out.size _);have hG3:=aI2 (Blk.new V0 168 Z64) hB0.out.size;have hS3:=SR.out _ hB3.out;refine hK _ _ hS3 ?_;clear hK K;(try simp only[Act.put,gA,gS,gZ,sA,sZ,sS])
     generalize hgg:V0.heap.size=g10 at hG3;generalize V0.alloc (.cells Z64 168)=V3 at hB3 hG3 hS3 ⊢;(try simp only[hgg])
     refine aE hd 17 ?_;clear hd;intro hd;refine aF rfl rfl (fun K hK=>?_);go_simp;refine(cU V3 x hx side hs64).mono ?_;rintro e V4 ⟨rfl,b5⟩;rw[hfit];have hB4:=hIz (tHn hB3.out b5);have hS4:=SR.out _ hB4.out;have hG4:=aI2 ((hG3.out).1.upd (upF b5) id) (hG3.out).2;refine hK _ _ hS4 ?_;clear hK K b5;(try simp only[Act.put,gA,gS,gZ,sA,sZ,sS])
     have hS:=hS4;refine aC 18 rfl hd hS ?_;clear hd;intro hd;refine aC 19 rfl hd hS ?_;clear hd;intro hd;refine aC 20 rfl hd hS ?_;clear hd;intro hd;have kz:=bB.mp (hG4.out).1;have hth:V4.there g10 0 (wdC x).toArray.size:=by have:=bU kz;simpa[bJ,bG,hx.len] using this
     have zg:=(hG4.out).2;have us:=Upd.setCells (F:=fun q=>q=g10) (b:=g10) (.inl rfl) (wdC x) 0 (Upd.refl _ V4);have bF:=hB4.out.trans (us.below (fun q _ e=>by omega) hB4.out.size);have HE:=aI2 bF (World.rangeAt_setCells_same V4 g10 0 (wdC x) (by simpa using hth));clear kz us bF zg;refine aE hd 22 ?_;clear hd;intro hd;refine aF rfl rfl (fun K hK=>?_);refine wp_store_mid 168 _ _ rfl g10 0 (wdC x).toArray rfl rfl hth hsz2 h1c ?_;have hS:=SR.out _ HE.out.1;refine hK _ _ hS ?_;clear hK K hth;(try simp only[Act.put,gA,gS,gZ,sA,sZ,sS])
     refine aC 23 rfl hd hS ?_;clear hd;intro hd;refine bD (by kernel_rfl) ?_;clear hd hS;dsimp only [cE]
     go_wp2;go_meet
     case rel=>exact⟨_,rfl,rfl,HE⟩
   ·refine aF rfl rfl (fun K hK=>?_);go_simp;have hB5:=hIz (show Below W1.heap.size W1 (V0.alloc (.cells Z64 168)) from hB0.out.alloc hB0.out.size _);have hG5:=aI2 (Blk.new V0 168 Z64) hB0.out.size;have hS5:=SR.out _ hB5.out;refine hK _ _ hS5 ?_;clear hK K;(try simp only[Act.put,gA,gS,gZ,sA,sZ,sS])
    generalize hgg:V0.heap.size=g10 at hG5;generalize V0.alloc (.cells Z64 168)=V5 at hB5 hG5 hS5 ⊢;(try simp only[hgg])
    refine aE hd 16 ?_;clear hd;intro hd;refine aF rfl rfl (fun K hK=>?_);go_simp;refine hK _ _ hS5 ?_;clear hK K;(try simp only[Act.put,gA,gS,gZ,sA,sZ,sS])
    refine aE hd 17 ?_;clear hd;intro hd;refine aF rfl rfl (fun K hK=>?_);go_simp;refine(cU V5 x hx side hs64).mono ?_;rintro e V6 ⟨rfl,b5⟩;rw[hfit];have hB6:=hIz (tHn hB5.out b5);have hS6:=SR.out _ hB6.out;have hG6:=aI2 ((hG5.out).1.upd (upF b5) id) (hG5.out).2;refine hK _ _ hS6 ?_;clear hK K b5;(try simp only[Act.put,gA,gS,gZ,sA,sZ,sS])
    have hS:=hS6;refine aC 18 rfl hd hS ?_;clear hd;intro hd;refine aC 19 rfl hd hS ?_;clear hd;intro hd;refine aC 20 rfl hd hS ?_;clear hd;intro hd;have kz:=bB.mp (hG6.out).1;have hth:V6.there g10 0 (wdC x).toArray.size:=by have:=bU kz;simpa[bJ,bG,hx.len] using this
    have zg:=(hG6.out).2;have us:=Upd.setCells (F:=fun q=>q=g10) (b:=g10) (.inl rfl) (wdC x) 0 (Upd.refl _ V6);have bF:=hB6.out.trans (us.below (fun q _ e=>by omega) hB6.out.size);have HE:=aI2 bF (World.rangeAt_setCells_same V6 g10 0 (wdC x) (by simpa using hth));clear kz us bF zg;refine aE hd 22 ?_;clear hd;intro hd;refine aF rfl rfl (fun K hK=>?_);refine wp_store_mid 168 _ _ rfl g10 0 (wdC x).toArray rfl rfl hth hsz2 h1c ?_;have hS:=SR.out _ HE.out.1;refine hK _ _ hS ?_;clear hK K hth;(try simp only[Act.put,gA,gS,gZ,sA,sZ,sS])
    refine aC 23 rfl hd hS ?_;clear hd;intro hd;refine bD (by kernel_rfl) ?_;clear hd hS;dsimp only [cE]
    go_wp2;go_meet
    case rel=>exact⟨_,rfl,rfl,HE⟩
  ·refine aF rfl rfl (fun K hK=>?_);go_simp;refine hK _ _ hS ?_;clear hK K;(try simp only[Act.put,gA,gS,gZ,sA,sZ,sS])
   refine cD hd 8 21 ?_ ?_<;>(clear hd;intro hd)
   ·refine aF rfl rfl (fun K hK=>?_);go_simp;refine hK _ _ hS ?_;clear hK K;(try simp only[Act.put,gA,gS,gZ,sA,sZ,sS])
    refine cD hd 17 21 ?_ ?_<;>(clear hd;intro hd)
    ·refine aF rfl rfl (fun K hK=>?_);go_simp;refine(cU V0 x hx side hs64).mono ?_;rintro e V7 ⟨rfl,b5⟩;rw[hfit];have hB7:=hIz (tHn hB0.out b5);have hS7:=SR.out _ hB7.out;refine hK _ _ hS7 ?_;clear hK K b5;(try simp only[Act.put,gA,gS,gZ,sA,sZ,sS])
     have hS:=hS7;refine aC 18 rfl hd hS ?_;clear hd;intro hd;refine aC 19 rfl hd hS ?_;clear hd;intro hd;refine aC 20 rfl hd hS ?_;clear hd;intro hd;refine aE hd 21 ?_;clear hd;intro hd;refine aF rfl rfl (fun K hK=>?_);go_simp;have hB8:=hIz (show Below W1.heap.size W1 (V7.alloc (.cells Z64 168)) from hB7.out.alloc hB7.out.size _);have hG8:=aI2 (Blk.new V7 168 Z64) hB7.out.size;have hS8:=SR.out _ hB8.out;refine hK _ _ hS8 ?_;clear hK K;(try simp only[Act.put,gA,gS,gZ,sA,sZ,sS])
     generalize hgg:V7.heap.size=g10 at hG8;generalize V7.alloc (.cells Z64 168)=V8 at hB8 hG8 hS8 ⊢;(try simp only[hgg])
     have kz:=bB.mp (hG8.out).1;have hth:V8.there g10 0 (wdC x).toArray.size:=by have:=bU kz;simpa[bJ,bG,hx.len] using this
     have zg:=(hG8.out).2;have us:=Upd.setCells (F:=fun q=>q=g10) (b:=g10) (.inl rfl) (wdC x) 0 (Upd.refl _ V8);have bF:=hB8.out.trans (us.below (fun q _ e=>by omega) hB8.out.size);have HE:=aI2 bF (World.rangeAt_setCells_same V8 g10 0 (wdC x) (by simpa using hth));clear kz us bF zg;refine aE hd 22 ?_;clear hd;intro hd;refine aF rfl rfl (fun K hK=>?_);refine wp_store_mid 168 _ _ rfl g10 0 (wdC x).toArray rfl rfl hth hsz2 h1c ?_;have hS:=SR.out _ HE.out.1;refine hK _ _ hS ?_;clear hK K hth;(try simp only[Act.put,gA,gS,gZ,sA,sZ,sS])
     refine aC 23 rfl hd hS ?_;clear hd;intro hd;refine bD (by kernel_rfl) ?_;clear hd hS;dsimp only [cE]
     go_wp2;go_meet
     case rel=>exact⟨_,rfl,rfl,HE⟩
    ·refine aF rfl rfl (fun K hK=>?_);go_simp;have hB9:=hIz (show Below W1.heap.size W1 (V0.alloc (.cells Z64 168)) from hB0.out.alloc hB0.out.size _);have hG9:=aI2 (Blk.new V0 168 Z64) hB0.out.size;have hS9:=SR.out _ hB9.out;refine hK _ _ hS9 ?_;clear hK K;(try simp only[Act.put,gA,gS,gZ,sA,sZ,sS])
     generalize hgg:V0.heap.size=g10 at hG9;generalize V0.alloc (.cells Z64 168)=V9 at hB9 hG9 hS9 ⊢;(try simp only[hgg])
     refine aE hd 17 ?_;clear hd;intro hd;refine aF rfl rfl (fun K hK=>?_);go_simp;refine(cU V9 x hx side hs64).mono ?_;rintro e V10 ⟨rfl,b5⟩;rw[hfit];have hB10:=hIz (tHn hB9.out b5);have hS10:=SR.out _ hB10.out;have hG10:=aI2 ((hG9.out).1.upd (upF b5) id) (hG9.out).2;refine hK _ _ hS10 ?_;clear hK K b5;(try simp only[Act.put,gA,gS,gZ,sA,sZ,sS])
     have hS:=hS10;refine aC 18 rfl hd hS ?_;clear hd;intro hd;refine aC 19 rfl hd hS ?_;clear hd;intro hd;refine aC 20 rfl hd hS ?_;clear hd;intro hd;have kz:=bB.mp (hG10.out).1;have hth:V10.there g10 0 (wdC x).toArray.size:=by have:=bU kz;simpa[bJ,bG,hx.len] using this
     have zg:=(hG10.out).2;have us:=Upd.setCells (F:=fun q=>q=g10) (b:=g10) (.inl rfl) (wdC x) 0 (Upd.refl _ V10);have bF:=hB10.out.trans (us.below (fun q _ e=>by omega) hB10.out.size);have HE:=aI2 bF (World.rangeAt_setCells_same V10 g10 0 (wdC x) (by simpa using hth));clear kz us bF zg;refine aE hd 22 ?_;clear hd;intro hd;refine aF rfl rfl (fun K hK=>?_);refine wp_store_mid 168 _ _ rfl g10 0 (wdC x).toArray rfl rfl hth hsz2 h1c ?_;have hS:=SR.out _ HE.out.1;refine hK _ _ hS ?_;clear hK K hth;(try simp only[Act.put,gA,gS,gZ,sA,sZ,sS])
     refine aC 23 rfl hd hS ?_;clear hd;intro hd;refine bD (by kernel_rfl) ?_;clear hd hS;dsimp only [cE]
     go_wp2;go_meet
     case rel=>exact⟨_,rfl,rfl,HE⟩
   ·refine aF rfl rfl (fun K hK=>?_);go_simp;have hB11:=hIz (show Below W1.heap.size W1 (V0.alloc (.cells Z64 168)) from hB0.out.alloc hB0.out.size _);have hG11:=aI2 (Blk.new V0 168 Z64) hB0.out.size;have hS11:=SR.out _ hB11.out;refine hK _ _ hS11 ?_;clear hK K;(try simp only[Act.put,gA,gS,gZ,sA,sZ,sS])
    generalize hgg:V0.heap.size=g10 at hG11;generalize V0.alloc (.cells Z64 168)=V11 at hB11 hG11 hS11 ⊢;(try simp only[hgg])
    refine aE hd 8 ?_;clear hd;intro hd;refine aF rfl rfl (fun K hK=>?_);go_simp;refine hK _ _ hS11 ?_;clear hK K;(try simp only[Act.put,gA,gS,gZ,sA,sZ,sS])
    refine aE hd 17 ?_;clear hd;intro hd;refine aF rfl rfl (fun K hK=>?_);go_simp;refine(cU V11 x hx side hs64).mono ?_;rintro e V12 ⟨rfl,b5⟩;rw[hfit];have hB12:=hIz (tHn hB11.out b5);have hS12:=SR.out _ hB12.out;have hG12:=aI2 ((hG11.out).1.upd (upF b5) id) (hG11.out).2;refine hK _ _ hS12 ?_;clear hK K b5;(try simp only[Act.put,gA,gS,gZ,sA,sZ,sS])
    have hS:=hS12;refine aC 18 rfl hd hS ?_;clear hd;intro hd;refine aC 19 rfl hd hS ?_;clear hd;intro hd;refine aC 20 rfl hd hS ?_;clear hd;intro hd;have kz:=bB.mp (hG12.out).1;have hth:V12.there g10 0 (wdC x).toArray.size:=by have:=bU kz;simpa[bJ,bG,hx.len] using this
    have zg:=(hG12.out).2;have us:=Upd.setCells (F:=fun q=>q=g10) (b:=g10) (.inl rfl) (wdC x) 0 (Upd.refl _ V12);have bF:=hB12.out.trans (us.below (fun q _ e=>by omega) hB12.out.size);have HE:=aI2 bF (World.rangeAt_setCells_same V12 g10 0 (wdC x) (by simpa using hth));clear kz us bF zg;refine aE hd 22 ?_;clear hd;intro hd;refine aF rfl rfl (fun K hK=>?_);refine wp_store_mid 168 _ _ rfl g10 0 (wdC x).toArray rfl rfl hth hsz2 h1c ?_;have hS:=SR.out _ HE.out.1;refine hK _ _ hS ?_;clear hK K hth;(try simp only[Act.put,gA,gS,gZ,sA,sZ,sS])
    refine aC 23 rfl hd hS ?_;clear hd;intro hd;refine bD (by kernel_rfl) ?_;clear hd hS;dsimp only [cE]
    go_wp2;go_meet
    case rel=>exact⟨_,rfl,rfl,HE⟩
  ·refine aF rfl rfl (fun K hK=>?_);go_simp;have hB13:=hIz (show Below W1.heap.size W1 (V0.alloc (.cells Z64 168)) from hB0.out.alloc hB0.out.size _);have hG13:=aI2 (Blk.new V0 168 Z64) hB0.out.size;have hS13:=SR.out _ hB13.out;refine hK _ _ hS13 ?_;clear hK K;(try simp only[Act.put,gA,gS,gZ,sA,sZ,sS])
   generalize hgg:V0.heap.size=g10 at hG13;generalize V0.alloc (.cells Z64 168)=V13 at hB13 hG13 hS13 ⊢;(try simp only[hgg])
   refine cD hd 8 16 ?_ ?_<;>(clear hd;intro hd)
   ·refine aF rfl rfl (fun K hK=>?_);go_simp;refine hK _ _ hS13 ?_;clear hK K;(try simp only[Act.put,gA,gS,gZ,sA,sZ,sS])
    refine aE hd 16 ?_;clear hd;intro hd;refine aF rfl rfl (fun K hK=>?_);go_simp;refine hK _ _ hS13 ?_;clear hK K;(try simp only[Act.put,gA,gS,gZ,sA,sZ,sS])
    refine aE hd 17 ?_;clear hd;intro hd;refine aF rfl rfl (fun K hK=>?_);go_simp;refine(cU V13 x hx side hs64).mono ?_;rintro e V14 ⟨rfl,b5⟩;rw[hfit];have hB14:=hIz (tHn hB13.out b5);have hS14:=SR.out _ hB14.out;have hG14:=aI2 ((hG13.out).1.upd (upF b5) id) (hG13.out).2;refine hK _ _ hS14 ?_;clear hK K b5;(try simp only[Act.put,gA,gS,gZ,sA,sZ,sS])
    have hS:=hS14;refine aC 18 rfl hd hS ?_;clear hd;intro hd;refine aC 19 rfl hd hS ?_;clear hd;intro hd;refine aC 20 rfl hd hS ?_;clear hd;intro hd;have kz:=bB.mp (hG14.out).1;have hth:V14.there g10 0 (wdC x).toArray.size:=by have:=bU kz;simpa[bJ,bG,hx.len] using this
    have zg:=(hG14.out).2;have us:=Upd.setCells (F:=fun q=>q=g10) (b:=g10) (.inl rfl) (wdC x) 0 (Upd.refl _ V14);have bF:=hB14.out.trans (us.below (fun q _ e=>by omega) hB14.out.size);have HE:=aI2 bF (World.rangeAt_setCells_same V14 g10 0 (wdC x) (by simpa using hth));clear kz us bF zg;refine aE hd 22 ?_;clear hd;intro hd;refine aF rfl rfl (fun K hK=>?_);refine wp_store_mid 168 _ _ rfl g10 0 (wdC x).toArray rfl rfl hth hsz2 h1c ?_;have hS:=SR.out _ HE.out.1;refine hK _ _ hS ?_;clear hK K hth;(try simp only[Act.put,gA,gS,gZ,sA,sZ,sS])
    refine aC 23 rfl hd hS ?_;clear hd;intro hd;refine bD (by kernel_rfl) ?_;clear hd hS;dsimp only [cE]
    go_wp2;go_meet
    case rel=>exact⟨_,rfl,rfl,HE⟩
   ·refine aF rfl rfl (fun K hK=>?_);go_simp;refine hK _ _ hS13 ?_;clear hK K;(try simp only[Act.put,gA,gS,gZ,sA,sZ,sS])
    refine aE hd 8 ?_;clear hd;intro hd;refine aF rfl rfl (fun K hK=>?_);go_simp;refine hK _ _ hS13 ?_;clear hK K;(try simp only[Act.put,gA,gS,gZ,sA,sZ,sS])
    refine aE hd 17 ?_;clear hd;intro hd;refine aF rfl rfl (fun K hK=>?_);go_simp;refine(cU V13 x hx side hs64).mono ?_;rintro e V15 ⟨rfl,b5⟩;rw[hfit];have hB15:=hIz (tHn hB13.out b5);have hS15:=SR.out _ hB15.out;have hG15:=aI2 ((hG13.out).1.upd (upF b5) id) (hG13.out).2;refine hK _ _ hS15 ?_;clear hK K b5;(try simp only[Act.put,gA,gS,gZ,sA,sZ,sS])
    have hS:=hS15;refine aC 18 rfl hd hS ?_;clear hd;intro hd;refine aC 19 rfl hd hS ?_;clear hd;intro hd;refine aC 20 rfl hd hS ?_;clear hd;intro hd;have kz:=bB.mp (hG15.out).1;have hth:V15.there g10 0 (wdC x).toArray.size:=by have:=bU kz;simpa[bJ,bG,hx.len] using this
    have zg:=(hG15.out).2;have us:=Upd.setCells (F:=fun q=>q=g10) (b:=g10) (.inl rfl) (wdC x) 0 (Upd.refl _ V15);have bF:=hB15.out.trans (us.below (fun q _ e=>by omega) hB15.out.size);have HE:=aI2 bF (World.rangeAt_setCells_same V15 g10 0 (wdC x) (by simpa using hth));clear kz us bF zg;refine aE hd 22 ?_;clear hd;intro hd;refine aF rfl rfl (fun K hK=>?_);refine wp_store_mid 168 _ _ rfl g10 0 (wdC x).toArray rfl rfl hth hsz2 h1c ?_;have hS:=SR.out _ HE.out.1;refine hK _ _ hS ?_;clear hK K hth;(try simp only[Act.put,gA,gS,gZ,sA,sZ,sS])
    refine aC 23 rfl hd hS ?_;clear hd;intro hd;refine bD (by kernel_rfl) ?_;clear hd hS;dsimp only [cE]
    go_wp2;go_meet
    case rel=>exact⟨_,rfl,rfl,HE⟩
 case rest =>
  obtain⟨g10,rfl,rfl,hE⟩:=hcut;have hn:=LG wc hx hx;rw[decide_eq_true rfl] at hn;have r7:=(SR.out _ hE.out.1).1;have r10:=hE.out.2;have hcon:=xM wc F p side b (H.out.1.below hE.out.1) x hx;unfold wdV at hcon;go_wp2_with (first | (refine wpList_load_mid rfl 168 _ rfl g10 0 rfl (wdC x) (.array 64 166) r10 Tryz.underlying168 rfl hsz ?_) | (refine wpList_load_mid rfl 168 _ rfl w.heap.size 0 rfl (wdC x) (.array 64 166) r7 Tryz.underlying168 rfl hsz ?_) | fail);refine hcon.mono ?_;rintro e W6 ⟨rfl,hto⟩;have FIN:=hIz (QTo.after (tHn H.out.2.2 hE.out.1) hto);clear hto;go_wp2;refine bodyPost_ret (v:=.tuple #[.bool (decide (0<dF (List.zipWith aZ x (bX b)))),.int .i64 0]) (by simp[results,Tryz.f203,go_sem]) rfl ⟨rfl,FIN.out⟩
open Go.RowKit
def joinQ(b:Option (List Nat)):Option (List Nat)→Option (List Nat)
 | none=>b
 | some r=>joinO b r
def dR(b:Option (List Nat)):Option (List Nat)→Bool
 | none=>false
 | some r=>decide (0<dF (List.zipWith aZ r (bX b)))
theorem lZ{w:World}{g:Nat}{t:TypeId}{r:List Nat}(h:Blk w g t (plC r).toArray):w.rangeAt g 2 (wdC r):=fun j v hv=>by
 rw[h.cell (2+j),Nat.add_comm];simpa[plC] using hv
theorem jS(w:World)(F F':Nat→Prop)(p q side:Nat)(b b':Option (List Nat))(h:QuS w F p side b)(h':QuS w F' q side b') :
  Calls Tryz.prog 39 #[.pointer (some ⟨p,0,none⟩),.pointer (some ⟨q,0,none⟩)] w (fun e w'=>e=.returned (.tuple #[.bool (dR b b'),.int .i64 0])∧QTo w F p side (joinQ b b') w'):=by
 have hs1:1≤side:=by obtain⟨O,dep,cnt,m,last,L,pv,lv,hq,ok,-⟩:=h;exact ok.s1
 have qp:w.cell? ⟨p,0,none⟩=some (.int .i64 (side:Int)):=by obtain⟨O,dep,cnt,m,last,L,pv,lv,hq,ok,-⟩:=h;exact hq.blk.cell 0
 have qq:w.cell? ⟨q,0,none⟩=some (.int .i64 (side:Int)):=by obtain⟨O,dep,cnt,m,last,L,pv,lv,hq,ok,-⟩:=h';exact hq.blk.cell 0
 have his:=eX w p side hs1 qp;have his2:=eX w q side hs1 qq;have bN:=fun n=>(show Below w.heap.size w (w.drewN n) from⟨rfl,rfl,rfl,Nat.le_refl _,fun _ _=>rfl⟩)
 have hall:=fun n=>nS (w.drewN n) F' q side b' (h'.below (bN n))
 have hw':Hid (∀r,b'=some r→Wd r):=by obtain⟨O,dep,cnt,m,last,L,pv,lv,hq,ok,-⟩:=h';exact hIz (fun r e=>(ok.is r e).2.2.2.2)
 have hu0:=hIz bN;clear bN;have H:=hIz h;clear h h';go_enter Tryz.func39,Tryz.ntmps39;go_wp2_with fail;refine his.mono ?_;clear his;rintro e V1 ⟨rfl,hw1⟩;subst V1;go_wp2_with fail;refine his2.mono ?_;clear his2;rintro e V1 ⟨rfl,hw1⟩;subst V1;go_upto_region 3 with (fail);go_quiet (fail)
 go_wp2_with fail;refine(hall _).mono ?_;rintro e V1 ⟨hb1,hm⟩;have hu1:=hIz ((hu0.out _).trans (hb1.mono (hu0.out _).size));clear hb1 hu0 hall;cases b' with
 | none =>
  obtain rfl:=hm;have FIN:=hIz (show QTo w F p side (joinQ b none) V1 from⟨F,H.out.below hu1.out,Upd.of_below hu1.out F,fun k hk=>.inl hk⟩);go_wp2_with fail;refine wp_loop_rounds 1 ?_;rw[rounds_succ];go_wp2_with fail;refine bodyPost_ret (v:=.tuple #[.bool false,.int .i64 0]) (by simp[results,Tryz.f39,go_sem]) rfl ⟨rfl,FIN.out⟩
 | some r =>
  obtain⟨A,c,rfl,hm⟩:=hm;have hr:=hw'.out r rfl;have H1:=hIz hm;obtain⟨ga,cc,e,hob,-,-,-,hcell⟩:=aL hm.1 (by decide);injection e with e1 e2 e3;subst e1;subst e3;have rA:V1.rangeAt ga 0 (plC r):=fun j v hv=>by rw[Nat.zero_add];exact(hcell j v hv).1
  have hsz:=jP hr;have h1c:=jI r;have k2:=Blk.new V1 170 (plC r).toArray;have b2:Below V1.heap.size V1 (V1.alloc (.cells (plC r).toArray 170)):=bR.alloc (Nat.le_refl _) _;have HX:=aI2 k2 (tHn hu1.out b2);clear k2 b2 hcell hm e2 hob;go_upto_region 7 with (fail);refine wp_loop_rounds 2 ?_;rw[rounds_succ];go_upto_region 9 with (first | (refine wpList_load_mid rfl 170 _ rfl ga 0 rfl (plC r) (.struct _) rA Tryz.underlying170 rfl hsz ?_) | (refine bE rfl rfl 170 _ _ rfl rfl (plC r) ⟨_,by rw[fX hr];exact bW.choose_spec.1,bW.choose_spec.2⟩ rfl rfl hsz h1c ?_) | fail);clear rA hsz h1c;generalize hg2:V1.heap.size=g2 at HX ⊢;generalize V1.alloc (.cells (plC r).toArray 170)=V2 at HX ⊢;clear hg2;have r2:=lZ HX.out.1;have q0:V2.cell? ⟨g2,0,none⟩=some (.int .i64 0):=by rw[HX.out.1.cell 0];simp[plC]
  have q1:V2.cell? ⟨g2,1,none⟩=some (.int .i64 0):=by rw[HX.out.1.cell 1];simp[plC]
  have hsz:=bH hr;have hcon:=xM V2 F p side b (H.out.below HX.out.2) r hr;unfold wdV at hcon;go_wp2_with (first | (refine wpList_load_mid rfl 168 _ rfl g2 2 rfl (wdC r) (.array 64 166) r2 Tryz.underlying168 rfl hsz ?_) | fail);refine hcon.mono ?_;rintro e V3 ⟨rfl,hto⟩;have FIN:=hIz (show QTo w F p side (joinQ b (some r)) V3 from QTo.after HX.out.2 hto);clear hto hcon r2 q0 q1 hsz;cases hd:decide (0<dF (List.zipWith aZ r (bX b)))
  ·go_wp2;rw[rounds_succ];go_wp2;refine bodyPost_ret (v:=.tuple #[.bool false,.int .i64 0]) (by simp[results,Tryz.f39,go_sem]) rfl ⟨by rw[show dR b (some r)=false from hd],FIN.out⟩
  ·go_wp2;rw[rounds_succ];go_wp2;refine bodyPost_ret (v:=.tuple #[.bool true,.int .i64 0]) (by simp[results,Tryz.f39,go_sem]) rfl ⟨by rw[show dR b (some r)=true from hd],FIN.out⟩
open Go.RowKit
theorem AV(w:World)(F:Nat→Prop)(p side:Nat)(b:Option (List Nat))(h:QuS w F p side b)(hs2:side≤1024) :
  Calls Tryz.prog 141 #[.pointer (some ⟨p,0,none⟩),.int .i64 0,.int .i64 0] w (Sam w (.tuple #[wdV (bX b),.int .i64 0])):=by
 have k0:=Blk.new w 168 Z64;have u0:Below w.heap.size w (w.alloc (.cells Z64 168)):=bR.alloc (Nat.le_refl _) _;have hq0:=h.below u0;have H:=aI3 (bB.mp k0) u0 hq0;clear k0 u0 h hq0;unfold wdV;go_enter Tryz.func141,Tryz.ntmps141;go_upto_region 1 with (fail);generalize w.alloc (.cells Z64 168)=W0 at H ⊢;obtain⟨O,dep,cnt,m,last,L,pv,lv,hq,ok,-⟩:=H.out.2.2;have q0:W0.cell? ⟨p,0,none⟩=some (.int .i64 (side:Int)):=hq.blk.cell 0;have d1:=ok.d1;have d2:=ok.d2;have s1:=ok.s1;have hzz:(0:Int).tdiv 64=0:=by decide
 cases b with
 | none =>
  obtain⟨rfl,rfl,rfl,rfl⟩:=ok.no rfl;have hlf:=nR W0 O p side dep 0 0 0 [] pv lv hq (by omega) d2 (.inl ⟨rfl,rfl⟩);clear hq ok d1 d2;go_wp2_with fail;refine(eX W0 p side s1 q0).mono ?_;rintro e w' ⟨rfl,hw⟩;subst w';go_wp2_with fail;refine(sW W0 p side s1 hs2 q0).mono ?_;rintro e w' ⟨rfl,hw⟩;subst w';go_wp2_with fail;refine hlf.mono ?_;clear hlf;rintro e W1 ⟨rfl,b1⟩;have kB:=H.out.1.upd (upF b1) id;have hth:W1.there w.heap.size 0 (wdC aV).toArray.size:=by have:=bU kB;simpa[bJ,bG] using this
  have hsz:=bH cW;have hsz2:(Tryz.prog.info? 168).map (·.size)=some (wdC aV).toArray.size:=by simpa using hsz
  have h1c:(wdC aV).toArray.all (·.oneCell')=true:=all_oneCell_toArray (fK _);have HB:=hIz (tHn H.out.2.1 b1);have FIN:=hIz (show Below w.heap.size w (W1.setCells w.heap.size 0 (wdC aV))∧(W1.setCells w.heap.size 0 (wdC aV)).rangeAt w.heap.size 0 (wdC aV) from
   ⟨HB.out.trans ((Upd.setCells (F:=fun q=>q=w.heap.size) (.inl rfl) (wdC aV) 0 (Upd.refl _ W1)).below (fun q _ e=>by omega) HB.out.size),World.rangeAt_setCells_same _ _ _ _ (by simpa using hth)⟩)
  clear b1 q0 kB;go_upto_region 7 with (fail);go_wp2_with (first | (refine wpList_store_mid rfl 168 _ _ rfl w.heap.size 0 (wdC aV).toArray rfl rfl hth hsz2 h1c ?_) | fail);have hlv:=run_loadVar_mid (P:=Tryz.prog) _ w.heap.size 0 168 (wdC aV) (.array 64 166) FIN.out.2 Tryz.underlying168 rfl hsz;refine bodyPost_ret (v:=.tuple #[.agg (wdC aV).toArray,.int .i64 0]) (by simp[results,Tryz.f141,Act.put,asAddr,hlv,Result.andThen,Sem.run_bind]) rfl ⟨rfl,FIN.out.1⟩
 | some r =>
  obtain⟨hm,rfl,rfl,rfl,hr⟩:=ok.is r rfl;have hlf:=nR W0 O p side dep (dF r) m 1 [r] pv lv hq (by omega) d2 (.inr ⟨rfl,hm⟩);obtain⟨lg,lc,e,-,-,-,-,-⟩:=aL hq.rl (by simp);subst e;have SR:=hIz (show ∀W,Below W0.heap.size W0 W→W.cell? ⟨p,4,none⟩=some (.slice (some ⟨lg,0,none⟩) 1 lc)∧W.rangeAt lg 0 (wdC r) from fun W hb=>by
   have hi:=hq.upd (upF hb) (fun _ _=>id);refine⟨hi.blk.cell 4,fun j u hu=>?_⟩;obtain⟨g',c',e',-,-,-,-,hc'⟩:=aL hi.rl (by simp);injection e' with e';injection e' with e';injection e' with e';subst e';rw[Nat.zero_add];exact(hc' j u (by simpa[lfC] using hu)).1)
  have hsz:=bH hr;have hwd:=hr;clear hq ok d1 d2 hm hr;go_wp2_with fail;refine(eX W0 p side s1 q0).mono ?_;rintro e w' ⟨rfl,hw⟩;subst w';go_wp2_with fail;refine(sW W0 p side s1 hs2 q0).mono ?_;rintro e w' ⟨rfl,hw⟩;subst w';go_wp2_with fail;refine hlf.mono ?_;clear hlf;rintro e W1 ⟨rfl,b1⟩;obtain⟨q4,hrg⟩:=SR.out W1 b1;have kB:=H.out.1.upd (upF b1) id;have hth:W1.there w.heap.size 0 (wdC r).toArray.size:=by have:=bU kB;simpa[bJ,bG,hwd.len] using this
  have hsz2:(Tryz.prog.info? 168).map (·.size)=some (wdC r).toArray.size:=by simpa using hsz
  have h1c:(wdC r).toArray.all (·.oneCell')=true:=all_oneCell_toArray (fK _);have HB:=hIz (tHn H.out.2.1 b1);have FIN:=hIz (show Below w.heap.size w (W1.setCells w.heap.size 0 (wdC r))∧(W1.setCells w.heap.size 0 (wdC r)).rangeAt w.heap.size 0 (wdC r) from
   ⟨HB.out.trans ((Upd.setCells (F:=fun q=>q=w.heap.size) (.inl rfl) (wdC r) 0 (Upd.refl _ W1)).below (fun q _ e=>by omega) HB.out.size),World.rangeAt_setCells_same _ _ _ _ (by simpa using hth)⟩)
  clear b1 q0 kB SR;go_upto_region 8 with (fail);go_wp2_with (first | (refine wpList_load_mid rfl 168 _ rfl lg 0 rfl (wdC r) (.array 64 166) hrg Tryz.underlying168 rfl hsz ?_) | (refine wpList_store_mid rfl 168 _ _ rfl w.heap.size 0 (wdC r).toArray rfl rfl hth hsz2 h1c ?_) | fail);have hlv:=run_loadVar_mid (P:=Tryz.prog) _ w.heap.size 0 168 (wdC r) (.array 64 166) FIN.out.2 Tryz.underlying168 rfl hsz;refine bodyPost_ret (v:=.tuple #[.agg (wdC r).toArray,.int .i64 0]) (by simp[results,Tryz.f141,Act.put,asAddr,hlv,Result.andThen,Sem.run_bind]) rfl ⟨rfl,FIN.out.1⟩
open Go.RowKit
def iD{α:Type}(f:Nat→α)(j:Nat)(x:α):Nat→α:=fun k=>if k=j then x else f k
theorem cX{α:Type}(f:Nat→α)(j:Nat)(x:α):iD f j x j=x:=if_pos rfl
theorem bL{α:Type}(f:Nat→α){j k:Nat}(x:α)(h:k≠j):iD f j x k=f k:=if_neg h
theorem yY(f:Nat→Value)(n j:Nat)(x:Value):(kX f n).set j x=kX (iD f j x) n:=by
 apply List.ext_getElem?
 intro i;rw[List.getElem?_set];unfold kX iD;simp only[List.length_map,List.length_range,List.getElem?_map]
 by_cases hij:j=i
 ·subst hij;by_cases hj:j<n
  ·simp[hj]
  ·simp[hj]
 ·rw[if_neg hij];by_cases hi:i<n
  ·simp[hi,Ne.symm hij]
  ·simp[hi]
section
variable {w w':World} {O:Nat→Option Ro} {p r g j c:Nat} {N:List Txt} {U V:Nat→List Hp} {cnt:Int} {nv iv ov:Value} {fo fi:Nat→Value}
theorem GrI.setO(h:GrI w O p N U V cnt ⟨r,nv,.slice (some ⟨g,0,none⟩) N.length c,iv,fo,fi⟩)(hj:j<N.length){v:Value}{L:List Hp}(o:w'.ownsRow 0 145 2 v L.length (aR L))(u:Upd (fun k=>(fo j).ownBlock=some k) w w')
  (pl:∀k,v.ownBlock=some k→(fo j).ownBlock=some k∨w.heap.size≤k):jE w (fun k=>O k≠none) p N (iD U j L) V cnt (w'.setCell ⟨g,j,none⟩ v):=by
 have us:=(Upd.refl (fun k=>k=g) w').setCell (p:=⟨g,j,none⟩) (.inl rfl) v;have hg:O g=some .o:=h.oo g rfl;have fresh:∀k,w.heap.size≤k→O k=none:=fun k hk=>by
  cases e:O k with
  | none=>rfl
  | some t=>have:=h.lt k (by simp[e]);omega
 have hv:∀k,v.ownBlock=some k→O k=some (.oo j)∨O k=none∧w.heap.size≤k:=fun k hk=>by
  rcases pl k hk with h1|h1
  ·exact .inl (h.oU j k h1)
  ·exact .inr ⟨fresh k h1,h1⟩
 have keep:∀k t,O k=some t→(t=Ro.oo j→False)→(if v.ownBlock=some k then some (Ro.oo j) else O k)=some t:=fun k t e ht=>by
  rw[if_neg,e];intro hk;rcases hv k hk with h1|h1
  ·rw[h1] at e;injection e with e;exact ht e.symm
  ·rw[h1.1] at e;cases e
 have no:∀k t,O k=some t→(t=Ro.oo j→False)→(t=Ro.o→False)→¬(fo j).ownBlock=some k∧¬k=g:=fun k t e h1 h2 =>
  ⟨fun hk=>(by have:=h.oU j k hk;rw[e] at this;injection this with this;exact h1 this),fun hk=>(by rw[hk,hg] at e;injection e with e;exact h2 e.symm)⟩
 have no1:∀k t,O k=some t→(t=Ro.oo j→False)→¬(fo j).ownBlock=some k:=fun k t e h1 hk=>by
  have:=h.oU j k hk;rw[e] at this;injection this with this;exact h1 this
 have nvg:∀k,v.ownBlock=some k→¬k=g:=fun k hk e=>by
  subst e;rcases hv k hk with h1|h1
  ·rw[hg] at h1;cases h1
  ·rw[hg] at h1;cases h1.1
 have k2:=fun {x:Value} {base e size n:Nat} {xs:List Value} (hx:w.ownsRow base e size x n xs) (hr:∀k,x.ownBlock=some k→¬(fo j).ownBlock=some k∧¬k=g)=>aB (aB hx u fun k hk=>(hr k hk).1) us fun k hk=>(hr k hk).2
 have b:=no _ _ h.op nofun nofun;have bm:=no _ _ h.om nofun nofun;refine⟨_,⟨fun k=>if v.ownBlock=some k then some (Ro.oo j) else O k,⟨r,nv,.slice (some ⟨g,0,none⟩) N.length c,iv,iD fo j v,fi⟩,⟨(h.blk.upd u b.1).upd us b.2,(h.map.upd u bm.1).upd us bm.2,k2 h.rn fun k hk=>no _ _ (h.on k hk) nofun nofun,?_,k2 h.ri fun k hk=>no _ _ (h.oi k hk) nofun nofun,?_,fun i=>k2 (h.fi i) fun k hk=>no _ _ (h.oV i k hk) nofun nofun,
  keep _ _ h.op nofun,keep _ _ h.om nofun,fun k hk=>keep _ _ (h.on k hk) nofun,fun k hk=>keep _ _ (h.oo k hk) nofun,fun k hk=>keep _ _ (h.oi k hk) nofun,?_,fun i k hk=>keep _ _ (h.oV i k hk) nofun,?_,?_⟩,rfl⟩,?_,?_⟩
 ·have h1:=cJ (aB h.ro u fun k hk=>no1 _ _ (h.oo k hk) nofun) (i:=j) (by omega) v;rw[yY] at h1;exact h1
 ·intro i;by_cases e:i=j
  ·subst e;show World.ownsRow _ _ _ _ (iD fo i v i) (iD U i L i).length (aR (iD U i L i))
   rw[cX,cX];exact aB o us nvg
  ·show World.ownsRow _ _ _ _ (iD fo j v i) (iD U j L i).length (aR (iD U j L i))
   rw[bL _ _ e,bL _ _ e];exact k2 (h.fo i) fun k hk=>no _ _ (h.oU i k hk) (fun h=>by injection h with h;exact e h) nofun
 ·intro i k hk;by_cases e:i=j
  ·subst e;have hk:(iD fo i v i).ownBlock=some k:=hk;rw[cX] at hk;exact if_pos hk
  ·have hk:(iD fo j v i).ownBlock=some k:=hk;rw[bL _ _ e] at hk;exact keep _ _ (h.oU i k hk) (fun h=>by injection h with h;exact e h)
 ·intro k hk;(try dsimp only at hk)
  by_cases h1:v.ownBlock=some k
  ·exact Nat.lt_of_lt_of_le (o.lt k h1).2 us.size
  ·rw[if_neg h1] at hk;exact Nat.lt_of_lt_of_le (h.lt k hk) (Nat.le_trans u.size us.size)
 ·intro k hk;refine⟨?_,(h.out k hk).2⟩;show iD fo j v k=_
  rw[bL _ _ (by omega)];exact(h.out k hk).1
 ·exact(u.mono (fun k _ hk=>by rw[h.oU j k hk];nofun)).trans us (fun k hk=>.inl (by rw[hk,hg];nofun))
 ·intro k hk;(try dsimp only at hk ⊢)
  by_cases h1:v.ownBlock=some k
  ·rcases hv k h1 with h2|h2
   ·rw[h2];exact .inl nofun
   ·exact .inr h2.2
  ·rw[if_neg h1] at hk;exact .inl hk
theorem GrI.setI(h:GrI w O p N U V cnt ⟨r,nv,ov,.slice (some ⟨g,0,none⟩) N.length c,fo,fi⟩)(hj:j<N.length){v:Value}{L:List Hp}(o:w'.ownsRow 0 145 2 v L.length (aR L))(u:Upd (fun k=>(fi j).ownBlock=some k) w w')
  (pl:∀k,v.ownBlock=some k→(fi j).ownBlock=some k∨w.heap.size≤k):jE w (fun k=>O k≠none) p N U (iD V j L) cnt (w'.setCell ⟨g,j,none⟩ v):=by
 have us:=(Upd.refl (fun k=>k=g) w').setCell (p:=⟨g,j,none⟩) (.inl rfl) v;have hg:O g=some .i:=h.oi g rfl;have fresh:∀k,w.heap.size≤k→O k=none:=fun k hk=>by
  cases e:O k with
  | none=>rfl
  | some t=>have:=h.lt k (by simp[e]);omega
 have hv:∀k,v.ownBlock=some k→O k=some (.ii j)∨O k=none∧w.heap.size≤k:=fun k hk=>by
  rcases pl k hk with h1|h1
  ·exact .inl (h.oV j k h1)
  ·exact .inr ⟨fresh k h1,h1⟩
 have keep:∀k t,O k=some t→(t=Ro.ii j→False)→(if v.ownBlock=some k then some (Ro.ii j) else O k)=some t:=fun k t e ht=>by
  rw[if_neg,e];intro hk;rcases hv k hk with h1|h1
  ·rw[h1] at e;injection e with e;exact ht e.symm
  ·rw[h1.1] at e;cases e
 have no:∀k t,O k=some t→(t=Ro.ii j→False)→(t=Ro.i→False)→¬(fi j).ownBlock=some k∧¬k=g:=fun k t e h1 h2 =>
  ⟨fun hk=>(by have:=h.oV j k hk;rw[e] at this;injection this with this;exact h1 this),fun hk=>(by rw[hk,hg] at e;injection e with e;exact h2 e.symm)⟩
 have no1:∀k t,O k=some t→(t=Ro.ii j→False)→¬(fi j).ownBlock=some k:=fun k t e h1 hk=>by
  have:=h.oV j k hk;rw[e] at this;injection this with this;exact h1 this
 have nvg:∀k,v.ownBlock=some k→¬k=g:=fun k hk e=>by
  subst e;rcases hv k hk with h1|h1
  ·rw[hg] at h1;cases h1
  ·rw[hg] at h1;cases h1.1
 have k2:=fun {x:Value} {base e size n:Nat} {xs:List Value} (hx:w.ownsRow base e size x n xs) (hr:∀k,x.ownBlock=some k→¬(fi j).ownBlock=some k∧¬k=g)=>aB (aB hx u fun k hk=>(hr k hk).1) us fun k hk=>(hr k hk).2
 have b:=no _ _ h.op nofun nofun;have bm:=no _ _ h.om nofun nofun;refine⟨_,⟨fun k=>if v.ownBlock=some k then some (Ro.ii j) else O k,⟨r,nv,ov,.slice (some ⟨g,0,none⟩) N.length c,fo,iD fi j v⟩,⟨(h.blk.upd u b.1).upd us b.2,(h.map.upd u bm.1).upd us bm.2,k2 h.rn fun k hk=>no _ _ (h.on k hk) nofun nofun,k2 h.ro fun k hk=>no _ _ (h.oo k hk) nofun nofun,?_,fun i=>k2 (h.fo i) fun k hk=>no _ _ (h.oU i k hk) nofun nofun,?_,
  keep _ _ h.op nofun,keep _ _ h.om nofun,fun k hk=>keep _ _ (h.on k hk) nofun,fun k hk=>keep _ _ (h.oo k hk) nofun,fun k hk=>keep _ _ (h.oi k hk) nofun,fun i k hk=>keep _ _ (h.oU i k hk) nofun,?_,?_,?_⟩,rfl⟩,?_,?_⟩
 ·have h1:=cJ (aB h.ri u fun k hk=>no1 _ _ (h.oi k hk) nofun) (i:=j) (by omega) v;rw[yY] at h1;exact h1
 ·intro i;by_cases e:i=j
  ·subst e;show World.ownsRow _ _ _ _ (iD fi i v i) (iD V i L i).length (aR (iD V i L i))
   rw[cX,cX];exact aB o us nvg
  ·show World.ownsRow _ _ _ _ (iD fi j v i) (iD V j L i).length (aR (iD V j L i))
   rw[bL _ _ e,bL _ _ e];exact k2 (h.fi i) fun k hk=>no _ _ (h.oV i k hk) (fun h=>by injection h with h;exact e h) nofun
 ·intro i k hk;by_cases e:i=j
  ·subst e;have hk:(iD fi i v i).ownBlock=some k:=hk;rw[cX] at hk;exact if_pos hk
  ·have hk:(iD fi j v i).ownBlock=some k:=hk;rw[bL _ _ e] at hk;exact keep _ _ (h.oV i k hk) (fun h=>by injection h with h;exact e h)
 ·intro k hk;(try dsimp only at hk)
  by_cases h1:v.ownBlock=some k
  ·exact Nat.lt_of_lt_of_le (o.lt k h1).2 us.size
  ·rw[if_neg h1] at hk;exact Nat.lt_of_lt_of_le (h.lt k hk) (Nat.le_trans u.size us.size)
 ·intro k hk;refine⟨(h.out k hk).1,?_⟩;show iD fi j v k=_
  rw[bL _ _ (by omega)];exact(h.out k hk).2
 ·exact(u.mono (fun k _ hk=>by rw[h.oV j k hk];nofun)).trans us (fun k hk=>.inl (by rw[hk,hg];nofun))
 ·intro k hk;(try dsimp only at hk ⊢)
  by_cases h1:v.ownBlock=some k
  ·rcases hv k h1 with h2|h2
   ·rw[h2];exact .inl nofun
   ·exact .inr h2.2
  ·rw[if_neg h1] at hk;exact .inl hk
theorem GrI.setC{D:GrD}(h:GrI w O p N U V cnt D)(x:Int):jE w (fun k=>O k≠none) p N U V x (w.setCell ⟨p,4,none⟩ (.int .i64 x)):=by
 have us:=(Upd.refl (fun k=>k=p) w).setCell (p:=⟨p,4,none⟩) (.inl rfl) (.int .i64 x);have no:∀k t,O k=some t→(t=Ro.p→False)→¬k=p:=fun k t e ht hk=>by
  rw[hk,h.op] at e;injection e with e;exact ht e.symm
 exact⟨_,⟨O,D,⟨h.blk.set 4 _,h.map.upd us (no _ _ h.om nofun),aB h.rn us fun k hk=>no _ _ (h.on k hk) nofun,aB h.ro us fun k hk=>no _ _ (h.oo k hk) nofun,aB h.ri us fun k hk=>no _ _ (h.oi k hk) nofun,
  fun j=>aB (h.fo j) us fun k hk=>no _ _ (h.oU j k hk) nofun,fun j=>aB (h.fi j) us fun k hk=>no _ _ (h.oV j k hk) nofun,h.op,h.om,h.on,h.oo,h.oi,h.oU,h.oV,fun k hk=>Nat.lt_of_lt_of_le (h.lt k hk) us.size,h.out⟩,rfl⟩,
  us.mono (fun k _ hk=>by rw[hk,h.op];nofun),fun k hk=>.inl hk⟩
end
open Go.RowKit
theorem iN{w:World}{n:Nat}{v:Value}{f:Nat→Value}{t:TypeId}(h:w.ownsRow 0 t 1 v n (kX f n)){k:Nat}(hk:k<n) :
  ∃g c,v=.slice (some ⟨g,0,none⟩) n c∧v.ownBlock=some g∧w.cell? ⟨g,k,none⟩=some (f k)∧w.frozen? ⟨g,k,none⟩=false:=by
 obtain⟨g,c,e,e2,-,-,-,hc⟩:=aL h (Nat.lt_of_le_of_lt (Nat.zero_le _) hk);exact⟨g,c,e,e2,hc k _ (OX hk)⟩
def FK(N:List Txt)(U:Nat→List Hp)(x:Ed):Nat→List Hp:=iD U (eL N x.fr) (uO (U (eL N x.fr)) ⟨x.lb,eL N x.to⟩)
def FM(N:List Txt)(V:Nat→List Hp)(x:Ed):Nat→List Hp:=iD V (eL N x.to) (uO (V (eL N x.to)) ⟨x.lb,eL N x.fr⟩)
def SE(w:World)(F:Nat→Prop)(p:Nat)(N:List Txt)(U V:Nat→List Hp)(cnt:Int)(x:Ed)(e:Ending)(w':World):Prop:=
 e=.returned (.tuple #[])∧jE w F p (cI (cI N x.fr) x.to) (FK (cI (cI N x.fr) x.to) U x) (FM (cI (cI N x.fr) x.to) V x) (cnt+1) w'
theorem tB(N:List Txt)(s:Txt):(cI N s).length≤N.length+1:=by
 unfold cI;split
 ·omega
 ·simp
theorem yZ(w:World)(F:Nat→Prop)(p:Nat)(N:List Txt)(U V:Nat→List Hp)(cnt:Int)(x:Ed)(h:tW w F p N U V cnt)(hx:oD x)(hl:N.length≤900000)(hU:∀k,eO ltH (U k)∧(U k).length≤1000000)(hV:∀k,eO ltH (V k)∧(V k).length≤1000000)(hc:0≤cnt∧cnt≤1000000) :
  Calls Tryz.prog 63 #[.pointer (some ⟨p,0,none⟩),x.agg] w (SE w F p N U V cnt x):=by
 obtain⟨s0,s1,s2⟩:=x;have k0:=Blk.new w 23 #[.string s0,.string s1,.string s2];have u0:Below w.heap.size w (w.alloc (.cells #[.string s0,.string s1,.string s2] 23)):=bR.alloc (Nat.le_refl _) _;have HG:=aI6 (h.below u0) k0 u0 hU hV h.lt;clear h k0 u0 hU hV;unfold Ed.agg;dsimp only
 go_enter Tryz.func63,Tryz.ntmps63;go_upto_region 1 with (fail);generalize w.alloc (.cells #[.string s0,.string s1,.string s2] 23)=W0 at HG ⊢;have SR:=hIz (show ∀W,Upd F W0 W→W.cell? ⟨w.heap.size,0,none⟩=some (.string s0)∧W.cell? ⟨w.heap.size,2,none⟩=some (.string s2) from fun W hu=>by
  have kb:=HG.out.2.1.upd hu (fun e=>by have:=HG.out.2.2.2.2.2 _ e;omega);exact⟨kb.cell 0,kb.cell 2⟩)
 have hS:=SR.out W0.drew (Upd.refl _ _).drew;have HD:=hIz (HG.out.1.below (w':=W0.drew) bR.drew);have HU0:=hIz (show Upd F W0 W0.drew from(Upd.refl _ _).drew);refine aN (fun W=>W.cell? ⟨w.heap.size,0,none⟩=some (.string s0)∧W.cell? ⟨w.heap.size,2,none⟩=some (.string s2)) 10 [(0,true),(1,true),(2,true),(4,true),(5,true),(6,true),(3,false),(7,false),(8,true),(9,true)] hS ?_;generalize W0.drew=W1 at HD HU0 hS ⊢
 iterate 6 refine aD rfl ?_
 refine aK rfl rfl (fun K hK=>?_);go_simp;refine(sH W1 F p N U V cnt s0 HD.out hx.1 (by omega)).mono ?_;rintro e W2 ⟨rfl,F2,g2,u2,n2⟩;have H2:=aI3 g2 (HU0.out.trans u2 (fun _ h=>.inl h)) (show ∀k,F2 k→F k∨W0.heap.size≤k from fun k hk=>(n2 k hk).imp id fun h=>Nat.le_trans HU0.out.size h);clear g2 u2 n2;refine hK _ _ (fun _=>SR.out _ H2.out.2.1) ?_;clear hK K hS HD HU0;(try simp only[Act.put,gA,gS,gZ,sA,sZ,sS])
 refine aK rfl rfl (fun K hK=>?_);go_simp;refine(sH W2 F2 p (cI N s0) U V cnt s2 H2.out.1 hx.2.2 (by have:=tB N s0;omega)).mono ?_;rintro e W3 ⟨rfl,F3,g3,u3,n3⟩;have H3:=aI3 g3 (H2.out.2.1.trans u3 H2.out.2.2) (show ∀k,F3 k→F k∨W0.heap.size≤k from fun k hk=>by
  rcases n3 k hk with h|h
  ·exact H2.out.2.2 k h
  ·exact .inr (Nat.le_trans H2.out.2.1.size h))
 clear g3 u3 n3;refine hK _ _ (fun _=>SR.out _ H3.out.2.1) ?_;clear hK K H2;(try simp only[Act.put,gA,gS,gZ,sA,sZ,sS])
 have hS:=SR.out _ H3.out.2.1;refine aD rfl ?_;refine aD rfl ?_;refine aJ ?_;clear hS;have GX:=hIz (show ∀W,Upd F W0 W→W.cell? ⟨w.heap.size,1,none⟩=some (.string s1) from fun W hu=>by
  have kb:=HG.out.2.1.upd hu (fun e=>by have:=HG.out.2.2.2.2.2 _ e;omega);exact kb.cell 1)
 have hgx:=HG.out.2.1.lt;have hi0:eL (cI (cI N s0) s2) s0=eL N s0:=by rw[gM (dC.2 (.inr rfl)),yM]
 have hi2:eL (cI (cI N s0) s2) s2=eL (cI N s0) s2:=yM _ _;have hm0:eL N s0<(cI (cI N s0) s2).length:=by rw[← hi0];exact fW (dC.2 (.inl (dC.2 (.inr rfl))))
 have hm2:eL (cI N s0) s2<(cI (cI N s0) s2).length:=by rw[← hi2];exact fW (dC.2 (.inr rfl))
 obtain⟨i,hi⟩:∃u,eL N s0=u:=⟨_,rfl⟩;obtain⟨j,hj⟩:∃u,eL (cI N s0) s2=u:=⟨_,rfl⟩;have hNl:(cI (cI N s0) s2).length≤1000000:=by have:=tB N s0;have:=tB (cI N s0) s2;omega
 unfold SE;dsimp only
 obtain⟨M,hM⟩:∃u,cI (cI N s0) s2=u:=⟨_,rfl⟩;rw[hM] at hNl hi0 hi2 hm0 hm2 H3 ⊢;rw[hi] at hi0 hm0 ⊢;rw[hj] at hi2 hm2 ⊢;have HI:=aI3 hM hi0 hi2;clear hi hj hM hi0 hi2;-- out
 have H5:Hid (tW W3 F3 p M U V cnt∧Upd F W0 W3∧∀k,F3 k→F k∨W0.heap.size≤k):=H3;obtain⟨O,⟨r,nv,ov,iv,fo,fi⟩,hg,hFO⟩:=H5.out.1;obtain⟨g,c,e,eo,cu,fu⟩:=iN hg.ro hm0;dsimp only at e
 subst e;obtain⟨A,cA,eA,-,-⟩:=aH (hg.fo i);dsimp only at eA cu
 rw[eA] at cu;have own0:=hg.fo i;dsimp only at own0
 rw[eA] at own0;have hup:=HG.out.2.2.2.1 i;obtain⟨L,hL⟩:∃L,U i=L:=⟨_,rfl⟩;obtain⟨l,hl0⟩:∃l,L.length=l:=⟨_,rfl⟩;rw[hL] at hup own0 eA cu;have hcon:=DY W3.drew 0 A cA L ⟨s1,(j:Int)⟩ own0 hup.1 (Nat.zero_le _) (by omega);rw[hl0] at hcon eA cu;unfold Hp.agg at hcon;dsimp only at hcon
 have q2:W3.cell? ⟨p,2,none⟩=some (.slice (some ⟨g,0,none⟩) M.length c):=hg.blk.cell 2;have og:O g=some .o:=hg.oo g rfl;have npg:p≠g:=fun e=>by rw[← e,hg.op] at og;cases og
 have hgx5:∀k,O k≠none→¬k=w.heap.size:=fun k hk e=>by
  have h1:=H5.out.2.2 k (by rw[hFO];exact hk);rcases h1 with h1|h1
  ·have:=HG.out.2.2.2.2.2 _ h1;omega
  ·omega
 have STAY:=hIz (show ∀W,Upd (fun k=>(fo i).ownBlock=some k) W3 W→W.cell? ⟨p,2,none⟩=some (.slice (some ⟨g,0,none⟩) M.length c)∧W.cell? ⟨g,i,none⟩=some (.slice A l cA)∧W.cell? ⟨w.heap.size,1,none⟩=some (.string s1) from fun W hu=>by
  have no:∀k,(fo i).ownBlock=some k→O k=some (.oo i):=fun k hk=>hg.oU i k hk
  refine⟨(hg.blk.upd hu (fun e=>by have:=no p e;rw[hg.op] at this;cases this)).cell 2,?_,?_⟩
  ·rw[← cu];exact hu.cell (p:=⟨g,i,none⟩) (hg.lt g (by rw[og];nofun)) (fun e=>by have:=no g e;rw[og] at this;cases this)
  ·rw[← GX.out _ H5.out.2.1];exact hu.cell (p:=⟨w.heap.size,1,none⟩) (Nat.lt_of_lt_of_le hgx H5.out.2.1.size) (fun e=>hgx5 _ (by rw[no _ e];nofun) rfl))
 have FRO:=hIz (show ∀W,Upd (fun k=>(fo i).ownBlock=some k) W3 W→W.frozen? ⟨g,i,none⟩=false from fun W hu=>by
  have no:∀k,(fo i).ownBlock=some k→O k=some (.oo i):=fun k hk=>hg.oU i k hk
  exact(iN (aB hg.ro hu (fun k hk e=>by
   have h1:=no k e;rw[hg.oo k hk] at h1;cases h1)) hm0).elim fun g' h=>by
    obtain⟨c',e1,-,-,h4⟩:=h;injection e1 with e1;injection e1 with e1;injection e1 with e1;rw[e1];exact h4)
 have HGG:=aI5 hg hFO eA hL hl0;have hS:=STAY.out W3.drew (Upd.refl _ _).drew;clear hg hFO eA hL own0 hup og npg hgx5 q2 cu fu eo;have hml:(i:Int)<(M.length:Int):=by omega
 go_upto_region 2 with (fail);refine aN (fun W=>W.cell? ⟨p,2,none⟩=some (.slice (some ⟨g,0,none⟩) M.length c)∧W.cell? ⟨g,i,none⟩=some (.slice A l cA)∧W.cell? ⟨w.heap.size,1,none⟩=some (.string s1)) 18 [(0,true),(1,true),(2,true),(3,true),(4,true),(5,true),(6,true),(7,true),(8,true),(9,true),(10,true),(11,true),(12,true),(13,true),(14,true),(15,true),(16,false),(17,true),(18,false)] hS ?_;have HU5:=hIz (show Upd (fun _=>False) W3 W3.drew from(Upd.refl _ _).drew);generalize W3.drew=W4 at HU5 hS hcon ⊢
 iterate 16 refine aD rfl ?_
 refine aK rfl rfl (fun K hK=>?_);go_simp;refine hcon.mono ?_;clear hcon hS;rintro e W6 ⟨A6,c6,rfl,o6,u6,p6⟩;have u7:Upd (fun k=>(fo i).ownBlock=some k) W3 W6:=(HU5.out.mono (fun _ _ h=>h.elim)).trans u6 (fun k hk=>.inl (by rw[HGG.out.2.2.1];exact hk));have NX:=hIz (HGG.out.1.setO hm0 o6 u7 (fun k hk=>(p6 k hk).imp (fun h=>by show(fo i).ownBlock=some k;rw[HGG.out.2.2.1];exact h) (fun h=>Nat.le_trans HU5.out.size h)));have hS:=STAY.out _ u7;have r6:=hS.2.1;have f6:=FRO.out _ u7;clear u6 u7 o6 p6;refine hK _ _ (fun _=>hS) ?_;clear hK K;(try simp only[Act.put,gA,gS,gZ,sA,sZ,sS])
 refine aD rfl ?_;refine aK rfl rfl (fun K hK=>?_);go_simp;refine hK _ _ (fun h=>absurd rfl h) ?_;clear hK K hS r6 f6;(try simp only[Act.put,gA,gS,gZ,sA,sZ,sS])
 refine aJ ?_;generalize W6.setCell ⟨g,i,none⟩ _=W7 at NX ⊢;have H7:Hid (∃F9,tW W7 F9 p M (iD U i (uO (U i) ⟨s1,(j:Int)⟩)) V cnt∧Upd F W0 W7∧∀k,F9 k→F k∨W0.heap.size≤k):=by
  obtain⟨F9,g9,u9,n9⟩:=NX.out;refine hIz ⟨F9,by rw[HGG.out.2.2.2.1];exact g9,H5.out.2.1.trans u9 (fun k hk=>H5.out.2.2 k (by rw[HGG.out.2.1];exact hk)),fun k hk=>?_⟩;rcases n9 k hk with h|h
  ·exact H5.out.2.2 k (by rw[HGG.out.2.1];exact h)
  ·exact .inr (Nat.le_trans H5.out.2.1.size h)
 clear NX HGG STAY FRO HU5 H5 hml;clear H3;obtain⟨F7,hF7⟩:=H7.out;have H7b:=hIz hF7;clear hF7 H7;-- in
 have H5:Hid (tW W7 F7 p M (iD U i (uO (U i) ⟨s1,(j:Int)⟩)) V cnt∧Upd F W0 W7∧∀k,F7 k→F k∨W0.heap.size≤k):=H7b;obtain⟨O,⟨r,nv,ov,iv,fo,fi⟩,hg,hFO⟩:=H5.out.1;obtain⟨g,c,e,eo,cu,fu⟩:=iN hg.ri hm2;dsimp only at e
 subst e;obtain⟨A,cA,eA,-,-⟩:=aH (hg.fi j);dsimp only at eA cu
 rw[eA] at cu;have own0:=hg.fi j;dsimp only at own0
 rw[eA] at own0;have hup:=HG.out.2.2.2.2.1 j;obtain⟨L,hL⟩:∃L,V j=L:=⟨_,rfl⟩;obtain⟨l,hl0⟩:∃l,L.length=l:=⟨_,rfl⟩;rw[hL] at hup own0 eA cu;have hcon:=DY W7.drew 0 A cA L ⟨s1,(i:Int)⟩ own0 hup.1 (Nat.zero_le _) (by omega);rw[hl0] at hcon eA cu;unfold Hp.agg at hcon;dsimp only at hcon
 have q2:W7.cell? ⟨p,3,none⟩=some (.slice (some ⟨g,0,none⟩) M.length c):=hg.blk.cell 3;have og:O g=some .i:=hg.oi g rfl;have npg:p≠g:=fun e=>by rw[← e,hg.op] at og;cases og
 have hgx5:∀k,O k≠none→¬k=w.heap.size:=fun k hk e=>by
  have h1:=H5.out.2.2 k (by rw[hFO];exact hk);rcases h1 with h1|h1
  ·have:=HG.out.2.2.2.2.2 _ h1;omega
  ·omega
 have STAY:=hIz (show ∀W,Upd (fun k=>(fi j).ownBlock=some k) W7 W→W.cell? ⟨p,3,none⟩=some (.slice (some ⟨g,0,none⟩) M.length c)∧W.cell? ⟨g,j,none⟩=some (.slice A l cA)∧W.cell? ⟨w.heap.size,1,none⟩=some (.string s1) from fun W hu=>by
  have no:∀k,(fi j).ownBlock=some k→O k=some (.ii j):=fun k hk=>hg.oV j k hk
  refine⟨(hg.blk.upd hu (fun e=>by have:=no p e;rw[hg.op] at this;cases this)).cell 3,?_,?_⟩
  ·rw[← cu];exact hu.cell (p:=⟨g,j,none⟩) (hg.lt g (by rw[og];nofun)) (fun e=>by have:=no g e;rw[og] at this;cases this)
  ·rw[← GX.out _ H5.out.2.1];exact hu.cell (p:=⟨w.heap.size,1,none⟩) (Nat.lt_of_lt_of_le hgx H5.out.2.1.size) (fun e=>hgx5 _ (by rw[no _ e];nofun) rfl))
 have FRO:=hIz (show ∀W,Upd (fun k=>(fi j).ownBlock=some k) W7 W→W.frozen? ⟨g,j,none⟩=false from fun W hu=>by
  have no:∀k,(fi j).ownBlock=some k→O k=some (.ii j):=fun k hk=>hg.oV j k hk
  exact(iN (aB hg.ri hu (fun k hk e=>by
   have h1:=no k e;rw[hg.oi k hk] at h1;cases h1)) hm2).elim fun g' h=>by
    obtain⟨c',e1,-,-,h4⟩:=h;injection e1 with e1;injection e1 with e1;injection e1 with e1;rw[e1];exact h4)
 have HGG:=aI5 hg hFO eA hL hl0;have hS:=STAY.out W7.drew (Upd.refl _ _).drew;clear hg hFO eA hL own0 hup og npg hgx5 q2 cu fu eo;have hml:(j:Int)<(M.length:Int):=by omega
 go_upto_region 3 with (fail);refine aN (fun W=>W.cell? ⟨p,3,none⟩=some (.slice (some ⟨g,0,none⟩) M.length c)∧W.cell? ⟨g,j,none⟩=some (.slice A l cA)∧W.cell? ⟨w.heap.size,1,none⟩=some (.string s1)) 18 [(0,true),(1,true),(2,true),(3,true),(4,true),(5,true),(6,true),(7,true),(8,true),(9,true),(10,true),(11,true),(12,true),(13,true),(14,true),(15,true),(16,false),(17,true),(18,false)] hS ?_;have HU5:=hIz (show Upd (fun _=>False) W7 W7.drew from(Upd.refl _ _).drew);generalize W7.drew=W4 at HU5 hS hcon ⊢
 iterate 16 refine aD rfl ?_
 refine aK rfl rfl (fun K hK=>?_);go_simp;refine hcon.mono ?_;clear hcon hS;rintro e W6 ⟨A6,c6,rfl,o6,u6,p6⟩;have u7:Upd (fun k=>(fi j).ownBlock=some k) W7 W6:=(HU5.out.mono (fun _ _ h=>h.elim)).trans u6 (fun k hk=>.inl (by rw[HGG.out.2.2.1];exact hk));have NX:=hIz (HGG.out.1.setI hm2 o6 u7 (fun k hk=>(p6 k hk).imp (fun h=>by show(fi j).ownBlock=some k;rw[HGG.out.2.2.1];exact h) (fun h=>Nat.le_trans HU5.out.size h)));have hS:=STAY.out _ u7;have r6:=hS.2.1;have f6:=FRO.out _ u7;clear u6 u7 o6 p6;refine hK _ _ (fun _=>hS) ?_;clear hK K;(try simp only[Act.put,gA,gS,gZ,sA,sZ,sS])
 refine aD rfl ?_;refine aK rfl rfl (fun K hK=>?_);go_simp;refine hK _ _ (fun h=>absurd rfl h) ?_;clear hK K hS r6 f6;(try simp only[Act.put,gA,gS,gZ,sA,sZ,sS])
 refine aJ ?_;generalize W6.setCell ⟨g,j,none⟩ _=W9 at NX ⊢;have H9:Hid (∃F9,tW W9 F9 p M (iD U i (uO (U i) ⟨s1,(j:Int)⟩)) (iD V j (uO (V j) ⟨s1,(i:Int)⟩)) cnt∧Upd F W0 W9∧∀k,F9 k→F k∨W0.heap.size≤k):=by
  obtain⟨F9,g9,u9,n9⟩:=NX.out;refine hIz ⟨F9,by rw[HGG.out.2.2.2.1];exact g9,H5.out.2.1.trans u9 (fun k hk=>H5.out.2.2 k (by rw[HGG.out.2.1];exact hk)),fun k hk=>?_⟩;rcases n9 k hk with h|h
  ·exact H5.out.2.2 k (by rw[HGG.out.2.1];exact h)
  ·exact .inr (Nat.le_trans H5.out.2.1.size h)
 clear NX HGG STAY FRO HU5 H5 hml;clear H7b;obtain⟨F9,hF9⟩:=H9.out;obtain⟨O,D,hg,hFO⟩:=hF9.1;have q4:W9.cell? ⟨p,4,none⟩=some (.int .i64 cnt):=hg.blk.cell 4;have f4:W9.frozen? ⟨p,4,none⟩=false:=hg.blk.frozen 4;have hw:IntKind.i64.wrap (cnt+1)=cnt+1:=by rw[IntKind.wrap_i64];omega
 have NX:=hIz (hg.setC (cnt+1));have HF:=aI2 hF9 hFO;clear hF9 hFO hg H9;go_wp2;generalize W9.setCell ⟨p,4,none⟩ (.int .i64 (cnt+1))=WZ at NX ⊢;go_end0
 refine⟨rfl,?_⟩;unfold FK FM;dsimp only
 rw[HI.out.1,HI.out.2.1,HI.out.2.2];obtain⟨FZ,gz,uz,nz⟩:=NX.out;refine⟨FZ,gz,?_,?_⟩
 ·exact((Upd.of_below HG.out.2.2.1 F).trans HF.out.1.2.1 (fun k h=>.inl h)).trans uz (fun k hk=>(HF.out.1.2.2 k (by rw[HF.out.2];exact hk)).imp id fun h=>Nat.le_trans HG.out.2.2.1.size h)
 ·intro k hk;have hw0:=HG.out.2.2.1.size;rcases nz k hk with h|h
  ·exact(HF.out.1.2.2 k (by rw[HF.out.2];exact h)).imp id fun h=>Nat.le_trans hw0 h
  ·exact .inr (Nat.le_trans hw0 (Nat.le_trans HF.out.1.2.1.size h))
open Go.RowKit
def ofN(N:List Txt)(E:List Ed):List Txt:=if ofI N E=0 then gN N E else []
def ofE(N:List Txt)(E:List Ed):List Ed:=if ofI N E=0 then gE E else []
def OfQ(w:World)(N:List Txt)(E:List Ed)(e:Ending)(w':World):Prop:=
 ∃A c B d,e=.returned (.tuple #[dX A (ofN N E).length c B (ofE N E).length d,.int .i64 (ofI N E)])∧w'.ownsRow w.heap.size 9 1 (.slice A (ofN N E).length c) (ofN N E).length (aG (ofN N E))∧w'.ownsRow w.heap.size 23 3 (.slice B (ofE N E).length d) (ofE N E).length (aT (ofE N E))∧Below w.heap.size w w'
theorem OfQ.nil{w w':World}{N:List Txt}{E:List Ed}{z:Int}(h:ofI N E=z)(hz:z≠0)(hb:Below w.heap.size w w'):OfQ w N E (.returned (.tuple #[dX none 0 0 none 0 0,.int .i64 z])) w':=by
 subst h;unfold OfQ ofN ofE;rw[if_neg hz,if_neg hz];exact⟨none,0,none,0,rfl,World.ownsRow_nil _ _ _ _,World.ownsRow_nil _ _ _ _,hb⟩
theorem OfP.q{w w':World}{N:List Txt}{E:List Ed}{e:Ending}(h:OfP w N E e w'):OfQ w N E e w':=by
 rcases h with ⟨hn,rfl,hb⟩|⟨hn,⟨hc,A,c,B,d,rfl,o1,o2,hb⟩|⟨hc,rfl,hb⟩⟩
 ·exact OfQ.nil (by rw[ofI,if_pos hn]) (by decide) hb
 ·have h0:ofI N E=0:=by rw[ofI,if_neg (by rw[hn];simp),hc]
  unfold OfQ ofN ofE;rw[if_pos h0,if_pos h0,h0];exact⟨A,c,B,d,rfl,o1,o2,hb⟩
 ·exact OfQ.nil (by rw[ofI,if_neg (by rw[hn];simp)]) hc hb
theorem eU(w:World)(A:Option Addr)(c:Nat)(B:Option Addr)(d:Nat)(N:List Txt)(E:List Ed)(h:qL w A c B d N E)(hb:(N.length+E.length*2)*16≤140737488355328) :
  Calls Tryz.prog 101 #[.slice A N.length c,.slice B E.length d] w (OfQ w N E):=(OV w A c B d N E h hb).mono fun _ _ h=>h.q
open Go.RowKit
theorem eY{N:List Txt}{E:List Ed}(h:eJ N E=0):mO N E=true∧cV N E=true∧eG N E=0:=by
 unfold eJ at h;split at h
 ·cases h
 split at h
 ·cases h
 ·rename_i h1 h2
  exact⟨by simpa using h1,by simpa using h2,h⟩
theorem PK{N:List Txt}{E:List Ed}(h:eG N E=0):N.length≤32∧(lM ltT (lbs E)).length≤16∧E.length≤256∧(oH N E).length≤2048:=by
 unfold eG at h;split at h
 ·cases h
 split at h
 ·cases h
 split at h
 ·cases h
 split at h
 ·cases h
 ·omega
theorem gG{α:Type}[DecidableEq α]{lt:α→α→Bool}(hs:Sto lt){L M:List α}(hu:upB lt M=true)(hm:∀x,x∈M↔x∈L):lM lt L=M:=
 (iS.is hs ⟨fR hs hu,hm⟩).symm
open Go.RowKit
theorem bT{w:World}{base e size n:Nat}{v:Value}{xs:List Value}(h:w.ownsRow base e size v n xs):∃A c,v=.slice A n c∧n≤c∧bO w A xs:=by
 obtain⟨A,c,rfl,hc,-⟩:=aH h;exact⟨A,c,rfl,hc,bO.of_own h⟩
open Go.RowKit
def FO(N:List Txt)(k:Nat)(h:Hp):Ed:=⟨(N[k]?).getD ByteArray.empty,h.lb,(N[h.nd.toNat]?).getD ByteArray.empty⟩
def eH(N:List Txt)(U:Nat→List Hp)(k:Nat):List Ed:=(List.range k).flatMap fun i=>(U i).map (FO N i)
theorem kJ(N:List Txt)(U:Nat→List Hp)(k:Nat):eH N U (k+1)=eH N U k++(U k).map (FO N k):=by simp[eH,List.range_succ]
theorem iR(w:World)(p r:Nat)(q1:w.cell? ⟨p,1,none⟩=some (.map (some r))):Calls Tryz.prog 72 #[.pointer (some ⟨p,0,none⟩)] w (nE w (.bool true)):=by
 have hq:∀W,(binOp .neq 128 (.map (some r)) (.map none)).run Tryz.prog W=.ok (.bool true) W:=fun W=>by
  have:=run_neq_map_nil (P:=Tryz.prog) W 128 9 3 (some r) Tryz.underlying128;simpa using this
 go_enter Tryz.func72,Tryz.ntmps72;go_wp2;go_ret;exact⟨rfl,rfl⟩
def SG(w:World)(N:List Txt)(E:List Ed)(e:Ending)(w':World):Prop:=
 ∃A c B d,e=.returned (dX A (ofN N E).length c B (ofE N E).length d)∧w'.ownsRow w.heap.size 9 1 (.slice A (ofN N E).length c) (ofN N E).length (aG (ofN N E))∧w'.ownsRow w.heap.size 23 3 (.slice B (ofE N E).length d) (ofE N E).length (aT (ofE N E))∧Below w.heap.size w w'
theorem LH(w:World)(F:Nat→Prop)(p:Nat)(N:List Txt)(U V:Nat→List Hp)(cnt:Int)(h:tW w F p N U V cnt)(hl:N.length≤1000000)(hb:∀k,(eH N U k).length≤1000000)(hn:∀k x,x∈U k→0≤x.nd∧x.nd.toNat<N.length)(hf:RB N (eH N U N.length)) :
  Calls Tryz.prog 54 #[.pointer (some ⟨p,0,none⟩)] w (SG w N (eH N U N.length)):=by
 have k0:=Blk.new w 52 #[.slice none 0 0,.slice none 0 0];have u0:Below w.heap.size w (w.alloc (.cells #[.slice none 0 0,.slice none 0 0] 52)):=bR.alloc (Nat.le_refl _) _;obtain⟨O,⟨r,nv,ov,iv,fo,fi⟩,hg,hFO⟩:=h.below u0;obtain⟨nA,nc,e1,hnc,-⟩:=aH hg.rn;obtain⟨oA,oc,e2,-,-⟩:=aH hg.ro;dsimp only at e1 e2
 subst e1;subst e2;obtain⟨n,hN⟩:∃n,N.length=n:=⟨_,rfl⟩;have H:=aI7 hg k0 u0 hb hn hf hN;have q0:(w.alloc (.cells #[.slice none 0 0,.slice none 0 0] 52)).cell? ⟨p,0,none⟩=some (.slice nA n nc):=by rw[← hN];exact hg.blk.cell 0
 have q1:(w.alloc (.cells #[.slice none 0 0,.slice none 0 0] 52)).cell? ⟨p,1,none⟩=some (.map (some r)):=hg.blk.cell 1;have q2:(w.alloc (.cells #[.slice none 0 0,.slice none 0 0] 52)).cell? ⟨p,2,none⟩=some (.slice oA n oc):=by rw[← hN];exact hg.blk.cell 2
 rw[hN] at hl hnc;clear h k0 u0 hg hFO hb hn hf hN;go_enter Tryz.func54,Tryz.ntmps54;go_upto_region 1 with (fail);generalize w.alloc (.cells #[.slice none 0 0,.slice none 0 0] 52)=W0 at H q0 q1 q2 ⊢;go_wp2_with fail;refine(iR W0 p r q1).mono ?_;rintro e w' ⟨rfl,hw⟩;subst w';go_wp2_with fail;clear q1 q2;go_loopw [3,19] (fun l i wr=>∃k:Nat,k≤n∧i=.int .i64 k∧Hid (Below W0.heap.size W0 wr)∧Hid (wr.ownsRow W0.heap.size 23 3 l (eH N U k).length (aT (eH N U k)))) (fun _ i _=>n-(intOf i).toNat)
 case atStart=>exact⟨0,Nat.zero_le _,rfl,hIz bR,hIz (World.ownsRow_nil _ _ _ _)⟩
 case round =>
  obtain⟨k,hk,rfl,hbw,ho⟩:=hrel;by_cases hlt:k<n
  ·have hltI:(k:Int)<(n:Int):=by omega
   have hkw:IntKind.i64.wrap ((k:Int)+1)=(k:Int)+1:=IntWalk.i64_in _ (by omega);have hltN:k<N.length:=by rw[H.out.2.2.2.2.2.2];exact hlt
   obtain⟨s0,hs0⟩:∃s,N[k]?=some s:=⟨N[k],gEz hltN⟩;have hg:=H.out.1.upd (upF hbw.out) (fun _ _=>id);obtain⟨og,oc',e,-,co,-⟩:=iN hg.ro hltN;dsimp only at e co
   injection e with e e1 e2;subst e;clear e1 e2;obtain⟨A,cA,eA,-,-⟩:=aH (hg.fo k);dsimp only at eA
   have hrow:=H.out.1.fo k;dsimp only at hrow
   rw[eA] at co hrow;obtain⟨m,hm⟩:∃m,(U k).length=m:=⟨_,rfl⟩;have hm1:(eH N U (k+1)).length≤1000000:=H.out.2.2.2.1 (k+1);rw[kJ,List.length_append,List.length_map,hm] at hm1;rw[hm] at co;have HM:=aI3 hm (bO.of_own hrow) hs0;clear hg eA hrow hm hs0;go_wp2_with fail;clear co;obtain⟨W5,hW5⟩:∃W,W=wr:=⟨_,rfl⟩;subst hW5;go_loopw [3,26] (fun l i wz=>∃j:Nat,j≤m∧i=.int .i64 j∧Hid (Below W0.heap.size W0 wz)∧Hid (wz.ownsRow W0.heap.size 23 3 l (eH N U k++((U k).take j).map (FO N k)).length (aT (eH N U k++((U k).take j).map (FO N k))))) (fun _ i _=>m-(intOf i).toNat)
   case atStart=>exact⟨0,Nat.zero_le _,rfl,hbw,hIz (by simpa using ho.out)⟩
   case round =>
    obtain⟨j,hj,rfl,hb0,hown⟩:=hrel;by_cases hjm:j<m
    ·have hjmI:(j:Int)<(m:Int):=by omega
     have hjw:IntKind.i64.wrap ((j:Int)+1)=(j:Int)+1:=IntWalk.i64_in _ (by omega);obtain⟨⟨lb,nd⟩,hx⟩:∃x,(U k)[j]?=some x:=⟨(U k)[j]'(by rw[HM.out.1];exact hjm),gEz _⟩;have hnd:=H.out.2.2.2.2.1 k _ (mG hx);dsimp only at hnd
     obtain⟨q,rfl⟩:=Int.eq_ofNat_of_zero_le hnd.1;have hqN:q<N.length:=by have:=hnd.2;omega
     have hqn:q<n:=by have:=H.out.2.2.2.2.2.2;omega
     obtain⟨s1,hs1⟩:∃s,N[q]?=some s:=⟨N[q],gEz hqN⟩;obtain⟨ab,ao,rfl,y0,y1⟩:=(HM.out.2.1.below hb0.out).hp hx;dsimp only at y0 y1
     have hg:=H.out.1.upd (upF hb0.out) (fun _ _=>id);obtain⟨ng,nc',eN,-,-,-,-,cN⟩:=aL hg.rn (by omega);dsimp only at eN
     injection eN with eN e1 e2;subst eN;clear e1 e2;have z0:wr.cell? ⟨p,0,none⟩=some (.slice (some ⟨ng,0,none⟩) n nc):=by rw[← H.out.2.2.2.2.2.2];exact hg.blk.cell 0
     have z1:wr.cell? ⟨ng,k,none⟩=some (.string s0):=(cN k (.string s0) (by simp[aG,HM.out.2.2])).1;have z2:wr.cell? ⟨ng,q,none⟩=some (.string s1):=(cN q (.string s1) (by simp[aG,hs1])).1;have kx:=Blk.new wr 145 #[.string lb,.int .i64 (q:Int)];have ux:Below wr.heap.size wr (wr.alloc (.cells #[.string lb,.int .i64 (q:Int)] 145)):=bR.alloc (Nat.le_refl _) _;have lp:=World.block_lt_of_cell? wr _ z0;have ln:=World.block_lt_of_cell? wr _ z1;have hgp:∀b,W0.heap.size≤b→ng≠b:=fun b hb e=>by
      have:=H.out.1.rn.lt ng rfl;omega
     have hpp:∀b,W0.heap.size≤b→p≠b:=fun b hb e=>by
      have:=H.out.1.blk.lt;omega
     have hl5:((eH N U k++((U k).take j).map (FO N k)).length+1)*48≤140737488355328:=by
      rw[List.length_append,List.length_map,List.length_take,HM.out.1];have:=Nat.min_le_left j m;omega
     have hed:FO N k ⟨lb,(q:Int)⟩=⟨s0,lb,s1⟩:=by
      unfold FO;simp[HM.out.2.2,hs1]
     have htk:eH N U k++((U k).take (j+1)).map (FO N k)=(eH N U k++((U k).take j).map (FO N k))++[⟨s0,lb,s1⟩]:=by
      rw[List.take_add_one,hx,← hed];simp
     have own5:=(hown.out.alloc (.cells #[.string lb,.int .i64 (q:Int)] 145));have HX:=aI6 kx ux own5 hl5 htk hown.out.lt;have SR:=hIz (show ∀W,Upd (fun b=>W0.heap.size≤b∧b<wr.heap.size) (wr.alloc (.cells #[.string lb,.int .i64 (q:Int)] 145)) W→W.cell? ⟨p,0,none⟩=some (.slice (some ⟨ng,0,none⟩) n nc)∧W.cell? ⟨ng,k,none⟩=some (.string s0)∧W.cell? ⟨ng,q,none⟩=some (.string s1)∧W.cell? ⟨wr.heap.size,0,none⟩=some (.string lb)∧W.cell? ⟨wr.heap.size,1,none⟩=some (.int .i64 (q:Int)) from fun W hu=>by
      have hz:(wr.alloc (.cells #[.string lb,.int .i64 (q:Int)] 145)).heap.size=wr.heap.size+1:=by simp
      have kk:=kx.upd hu (fun e=>by have:=e.2;omega);refine⟨?_,?_,?_,kk.cell 0,kk.cell 1⟩
      ·rw[hu.cell (p:=⟨p,0,none⟩) (by rw[hz];exact Nat.lt_succ_of_lt lp) (fun e=>hpp _ e.1 rfl),World.cell?_alloc_past _ p 0 lp];exact z0
      ·rw[hu.cell (p:=⟨ng,k,none⟩) (by rw[hz];exact Nat.lt_succ_of_lt ln) (fun e=>hgp _ e.1 rfl),World.cell?_alloc_past _ ng k ln];exact z1
      ·rw[hu.cell (p:=⟨ng,q,none⟩) (by rw[hz];exact Nat.lt_succ_of_lt ln) (fun e=>hgp _ e.1 rfl),World.cell?_alloc_past _ ng q ln];exact z2)
     have hS:=SR.out (wr.alloc (.cells #[.string lb,.int .i64 (q:Int)] 145)).drew (Upd.refl _ _).drew;clear kx ux own5 hl5 htk hed hg cN z0 z1 z2 hx hs1 lp ln hgp hpp hnd hown;go_upto_region 10 with (fail);generalize wr.alloc (.cells #[.string lb,.int .i64 (q:Int)] 145)=W6 at HX SR hS ⊢;clear y0 y1;refine aN (fun W=>W.cell? ⟨p,0,none⟩=some (.slice (some ⟨ng,0,none⟩) n nc)∧W.cell? ⟨ng,k,none⟩=some (.string s0)∧W.cell? ⟨ng,q,none⟩=some (.string s1)∧W.cell? ⟨wr.heap.size,0,none⟩=some (.string lb)∧W.cell? ⟨wr.heap.size,1,none⟩=some (.int .i64 (q:Int))) 22 [(0,true),(1,true),(2,true),(3,true),(4,true),(5,true),(6,true),(7,true),(8,true),(9,true),(10,true),(11,true),(12,true),(13,true),(14,true),(15,true),(16,true),(17,true),(18,true),(19,false),(20,false),(21,true)] hS ?_
     iterate 19 refine aD rfl ?_
     refine aK rfl rfl (fun K hK=>?_);go_simp;refine hK _ _ (fun _=>SR.out _ ((Upd.refl _ W6).drew.alloc (.cells #[.string s0,.string lb,.string s1] 23))) ?_;clear hK K hS;(try simp only[Act.put,gA,gS,gZ,sA,sZ,sS])
     obtain⟨v7,W7,happ,own7,up7,pl7⟩:=OO W6.drew W0.heap.size _ _ (aB HX.out.2.2.1 (Upd.refl (fun _=>False) W6).drew (fun _ _ h=>h)) ⟨s0,lb,s1⟩ HX.out.2.2.2.1 (by have:=HX.out.2.1.size;have:=hb0.out.size;exact Nat.le_trans hb0.out.size HX.out.2.1.size);dsimp only at happ
     have u67:Upd (fun b=>W0.heap.size≤b∧b<wr.heap.size) W6 W7:=((Upd.refl (fun _=>False) W6).drew.mono (fun _ _ h=>h.elim)).trans up7 (fun b hb=>.inl (HX.out.2.2.2.2.2 b hb));have b07:Below W0.heap.size W0 W7:=hb0.out.trans ((HX.out.2.1.mono hb0.out.size).trans (u67.below (fun b _ hb=>hb.1) (Nat.le_trans hb0.out.size HX.out.2.1.size)));have hS:=SR.out _ u67;have HF:=aI2 b07 own7;clear own7 up7 pl7 u67 b07;refine aK rfl rfl (fun K hK=>?_);refine bQ _ _ _ rfl rfl rfl happ ?_;refine hK _ _ (fun _=>hS) ?_;clear hK K happ;(try simp only[Act.put,gA,gS,gZ,sA,sZ,sS])
     refine aD rfl ?_;refine aJ ?_;clear hS;go_wp2;go_roundw
     case rel=>exact⟨j+1,by omega,by go_num,hIz HF.out.1,hIz (by rw[HX.out.2.2.2.2.1];exact HF.out.2)⟩
     case measure=>simp[intOf];omega
    ·obtain rfl:j=m:=by omega
     go_wp2;go_roundw
     case rel=>exact⟨k+1,by omega,by go_num,hb0,hIz (by
      have:=hown.out;rw[← HM.out.1,List.take_length] at this;rw[kJ];exact this)⟩
     case measure=>simp[intOf];omega
  ·obtain rfl:k=n:=by omega
   obtain⟨lA,lc,rfl,hlc,-⟩:=aH ho.out;have hg:=H.out.1.upd (upF hbw.out) (fun _ _=>id);have z0:wr.cell? ⟨p,0,none⟩=some (.slice nA k nc):=by rw[← H.out.2.2.2.2.2.2];exact hg.blk.cell 0
   have hl0:(eH N U k).length≤1000000:=H.out.2.2.2.1 k;have hfor:qL wr nA nc lA lc N (eH N U k):=⟨bO.of_own hg.rn,bO.of_own ho.out,by rw[H.out.2.2.2.2.2.2];exact hnc,hlc,by have:=H.out.2.2.2.2.2.1;rw[H.out.2.2.2.2.2.2] at this;exact this⟩;have hcon:=eU wr nA nc lA lc N (eH N U k) hfor (by rw[H.out.2.2.2.2.2.2];omega);rw[H.out.2.2.2.2.2.2] at hcon;clear hg hfor ho;go_wp2_with fail;refine hcon.mono ?_;clear hcon z0;rintro e W5 ⟨A5,c5,B5,d5,rfl,o1,o2,b5⟩;unfold dX;obtain⟨x1,hx1⟩:∃m,(ofN N (eH N U k)).length=m:=⟨_,rfl⟩;obtain⟨x2,hx2⟩:∃m,(ofE N (eH N U k)).length=m:=⟨_,rfl⟩;rw[hx1] at o1 ⊢;rw[hx2] at o2 ⊢;have b05:=tHn hbw.out b5;have k5:=(H.out.2.1.upd (upF b05) id).alloc (.cells #[.slice A5 x1 c5,.slice B5 x2 d5] 52);have k6:=Blk.new W5 52 #[.slice A5 x1 c5,.slice B5 x2 d5];have h0:w.heap.size<W5.heap.size:=by have:=H.out.2.1.lt;have:=b05.size;omega
   have r0:(W5.alloc (.cells #[.slice A5 x1 c5,.slice B5 x2 d5] 52)).cell? ⟨w.heap.size,0,none⟩=some (.slice none 0 0):=k5.cell 0;have r1:(W5.alloc (.cells #[.slice A5 x1 c5,.slice B5 x2 d5] 52)).cell? ⟨w.heap.size,1,none⟩=some (.slice none 0 0):=k5.cell 1;have f0:=k5.frozen 0;have f1:=k5.frozen 1;have x0:(W5.alloc (.cells #[.slice A5 x1 c5,.slice B5 x2 d5] 52)).cell? ⟨W5.heap.size,0,none⟩=some (.slice A5 x1 c5):=k6.cell 0;have x1':(W5.alloc (.cells #[.slice A5 x1 c5,.slice B5 x2 d5] 52)).cell? ⟨W5.heap.size,1,none⟩=some (.slice B5 x2 d5):=k6.cell 1;have kF:=(k5.set 0 (.slice A5 x1 c5)).set 1 (.slice B5 x2 d5);have uF:=((Upd.refl (fun q=>q=w.heap.size) (W5.alloc (.cells #[.slice A5 x1 c5,.slice B5 x2 d5] 52))).setCell (p:=⟨w.heap.size,0,none⟩) (.inl rfl) (.slice A5 x1 c5)).setCell (p:=⟨w.heap.size,1,none⟩) (.inl rfl) (.slice B5 x2 d5);have e0:=kF.cell 0;have e1:=kF.cell 1;simp only[List.setIfInBounds_toArray,List.set_cons_zero,List.set_cons_succ,List.getElem?_toArray,List.getElem?_cons_succ,List.getElem?_cons_zero] at e0 e1
   have bF:=(b5.alloc b5.size (.cells #[.slice A5 x1 c5,.slice B5 x2 d5] 52));have HO:=aI2 o1 o2;have FIN:=hIz (show SG w N (eH N U k) (.returned (.agg #[.slice A5 x1 c5,.slice B5 x2 d5])) (((W5.alloc (.cells #[.slice A5 x1 c5,.slice B5 x2 d5] 52)).setCell ⟨w.heap.size,0,none⟩ (.slice A5 x1 c5)).setCell ⟨w.heap.size,1,none⟩ (.slice B5 x2 d5)) from by
    have hw:w.heap.size≤wr.heap.size:=Nat.le_trans H.out.2.2.1.size hbw.out.size;have no:∀{v:Value} {e size m:Nat} {xs:List Value},W5.ownsRow wr.heap.size e size v m xs→(((W5.alloc (.cells #[.slice A5 x1 c5,.slice B5 x2 d5] 52)).setCell ⟨w.heap.size,0,none⟩ (.slice A5 x1 c5)).setCell ⟨w.heap.size,1,none⟩ (.slice B5 x2 d5)).ownsRow w.heap.size e size v m xs:=fun h=>by
     refine bC (aB (h.alloc _) uF (fun q hq e=>?_)) (fun q hq=>Nat.le_trans hw (h.lt q hq).1);have:=(h.lt q hq).1;have:=H.out.2.1.lt;have:=hbw.out.size;omega
    exact⟨A5,c5,B5,d5,by rw[hx1,hx2];rfl,by rw[hx1];exact no o1,by rw[hx2];exact no o2,H.out.2.2.1.trans ((hbw.out.mono H.out.2.2.1.size).trans ((bF.mono hw).trans (uF.below (fun q _ e=>Nat.le_of_eq e.symm) (Nat.le_trans hw bF.size))))⟩)
   clear k5 k6 kF uF bF o1 o2 hx1 hx2 b5 b05;go_upto_region 14 with (fail);generalize W5.alloc (.cells #[.slice A5 x1 c5,.slice B5 x2 d5] 52)=W6 at r0 r1 f0 f1 x0 x1' e0 e1 FIN ⊢;go_wp2;refine bodyPost_ret (v:=.agg #[.slice A5 x1 c5,.slice B5 x2 d5]) (by simp[results,Tryz.f54,go_sem,e0,e1]) rfl ?_;have hNk:=H.out.2.2.2.2.2.2;rw[hNk];exact FIN.out
end Go.Proofs.YtnokckdkaifibaaGreatDoor
