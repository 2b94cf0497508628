/- Blocks of bits: two blocks, word by word; Blocks of bits: Get; quad: the ways of a corner; Matrices of bits in memory, whose cells lie in the first block; New; Matrices of bits: is, in, Side, Len, leaf, Get; Matrices of bits: Get; Blocks of bits: Of, of one cell; Blocks of bits: two held against one another; Matrices of bits: their rows as they grow; Matrices of bits: grow, at the corner; Matrices of bits: grow, at the corner, without a leaf; Blocks of bits: how many cells an union has; a row of blocks written over (the plain law); Matrices of bits: or, at the corner; Matrices of bits: Set, at the corner. -/
import Derived.Laws.BitsAllLaws
import Derived.Test.YtddffnonlmfhdaaGreatDoorU07
import Derived.Test.YtddffnonlmfhdaaGreatDoorU05
import Derived.Test.YtddffnonlmfhdaaGreatDoorU06
import Derived.ChangeKeysEq
import Derived.Test.YtddffnonlmfhdaaGreatDoorU03
set_option linter.unusedVariables false
set_option linter.unusedSimpArgs false
set_option maxHeartbeats 16000000
set_option maxRecDepth 100000
namespace Go.Proofs.YtddffnonlmfhdaaGreatDoor
open Go.RowKit
def cF:List Nat:=List.replicate 64 0
def dK(x y:Nat):Nat:=x &&& (18446744073709551615-y)
def orN(x y:Nat):Nat:=x ||| y
def zE(f:Nat→Nat→Nat)(a b:List Nat)(k:Nat):List Nat:=(List.zipWith f a b).take k++a.drop k
theorem tP(f:Nat→Nat→Nat)(a b:List Nat):zE f a b 0=a:=by simp[zE]
theorem xJ{f:Nat→Nat→Nat}{a b:List Nat}(ha:a.length=64)(hb:b.length=64):zE f a b 64=List.zipWith f a b:=by
 unfold zE;rw[List.take_of_length_le (by rw[List.length_zipWith,ha,hb];decide),List.drop_of_length_le (by omega),List.append_nil]
theorem BS{f:Nat→Nat→Nat}{a b:List Nat}{k x:Nat}(hab:a.length=b.length)(h:a[k]?=some x):(zE f a b k)[k]?=some x:=by
 have hk:=(gO.1 h).1;unfold zE;have hl:((List.zipWith f a b).take k).length=k:=by rw[List.length_take,List.length_zipWith];omega
 rw[List.getElem?_append_right (by omega),hl,Nat.sub_self,List.getElem?_drop,Nat.add_zero,h]
theorem xK{f:Nat→Nat→Nat}{a b:List Nat}{k x y:Nat}(hab:a.length=b.length)(hx:a[k]?=some x)(hy:b[k]?=some y):(zE f a b k).set k (f x y)=zE f a b (k+1):=by
 obtain⟨hk,hxe⟩:=gO.1 hx;have hz:(List.zipWith f a b)[k]?=some (f x y):=by rw[List.getElem?_zipWith,hx,hy]
 have hl:((List.zipWith f a b).take k).length=k:=by rw[List.length_take,List.length_zipWith];omega
 unfold zE;rw[List.set_append_right _ _ (by omega),hl,Nat.sub_self,List.drop_eq_getElem_cons hk,List.set_cons_zero,List.take_add_one,hz,Option.toList_some,List.append_assoc,List.singleton_append]
theorem gM{W:World}{g:Nat}{t:TypeId}:Blk W g t Z64↔Blk W g t (wdC cF).toArray:=by
 have e:Z64=(wdC cF).toArray:=by kernel_rfl
 rw[e]
theorem kL{W:World}{g n:Nat}{t:TypeId}{cs:Array Value}(h:Blk W g t cs)(hn:n≤cs.size):W.there g 0 n:=fun i hi=>by
 have hlt:i<cs.size:=by omega
 rw[Nat.zero_add];exact⟨by rw[h.cell i,Array.getElem?_eq_getElem hlt];rfl,h.frozen i⟩
theorem pX(r:List Nat):∀v∈wdC r,v.oneCell'=true:=fun v hv=>by
 obtain⟨x,_,rfl⟩:=List.mem_map.1 hv;rfl
theorem BT(x y:Nat)(hx:x<18446744073709551616)(hy:y<18446744073709551616):bits .andNot .u64 (x:Int) (y:Int)=((dK x y:Nat):Int):=u64_andNot_nat x y hx hy
theorem vV{f:Nat→Nat→Nat}:∀{a b:List Nat} {z:Nat},z∈List.zipWith f a b→∃x∈a,∃y∈b,z=f x y
 | [],_,_,h=>by simp at h
 | _::_,[],_,h=>by simp at h
 | x::a,y::b,z,h=>by
  rw[List.zipWith_cons_cons,List.mem_cons] at h;rcases h with rfl|h
  ·exact⟨x,by simp,y,by simp,rfl⟩
  ·obtain⟨x',hx,y',hy,e⟩:=vV h;exact⟨x',by simp[hx],y',by simp[hy],e⟩
theorem BU{a b:List Nat}(ha:Wd a)(hb:Wd b):Wd (List.zipWith dK a b):=⟨by rw[List.length_zipWith,ha.len,hb.len];decide,fun z hz=>by
 obtain⟨x,hx,y,_,rfl⟩:=vV hz;exact Nat.lt_of_le_of_lt Nat.and_le_left (ha.fit x hx)⟩
theorem LS(x y:Nat)(hx:x<18446744073709551616)(hy:y<18446744073709551616):bits .or .u64 (x:Int) (y:Int)=((orN x y:Nat):Int):=bits_or_u64_nat x y hx hy
theorem NZ{a b:List Nat}(ha:Wd a)(hb:Wd b):Wd (List.zipWith orN a b):=⟨by rw[List.length_zipWith,ha.len,hb.len];decide,fun z hz=>by
 obtain⟨x,hx,y,hy,rfl⟩:=vV hz;exact Nat.or_lt_two_pow (n:=64) (ha.fit x hx) (hb.fit y hy)⟩
theorem vW(r:List Nat)(k x:Nat):(wdC r).toArray.setIfInBounds k (.int .u64 (x:Int))=(wdC (r.set k x)).toArray:=by
 simp[wdC,List.map_set]
theorem BY(w:World)(a b:List Nat)(ha:Wd a)(hb:Wd b):Calls Tryz.prog 146 #[wdV a,wdV b] w (Sam w (wdV (List.zipWith dK a b))):=by
 have k0:=((Blk.new w 168 (wdC a).toArray).alloc (.cells (wdC b).toArray 168)).alloc (.cells Z64 168);have k1:=(Blk.new (w.alloc (.cells (wdC a).toArray 168)) 168 (wdC b).toArray).alloc (.cells Z64 168);have k2:=Blk.new ((w.alloc (.cells (wdC a).toArray 168)).alloc (.cells (wdC b).toArray 168)) 168 Z64;simp only[World.size_alloc] at k1 k2
 have u0:Below w.heap.size w (((w.alloc (.cells (wdC a).toArray 168)).alloc (.cells (wdC b).toArray 168)).alloc (.cells Z64 168)):=by(repeat (first | exact Below.refl _ _ | apply Below.drew | refine Below.alloc ?_ (by first | exact Nat.le_refl _ | (simp;done) | (simp;omega)) _ | refine Below.setCell ?_ (by first | exact Nat.le_refl _ | (simp;done) | (simp;omega)) _))
 have H:=aI6 ha hb k0 k1 (gM.mp k2) u0;clear k0 k1 k2 u0 ha hb;unfold wdV;go_enter Tryz.func146,Tryz.ntmps146;go_upto_region 1 with (fail);generalize ((w.alloc (.cells (wdC a).toArray 168)).alloc (.cells (wdC b).toArray 168)).alloc (.cells Z64 168)=W0 at H ⊢;go_wp2_with fail;go_loopw [6] (fun i wr=>∃k:Nat,k≤64∧i=.int .i64 k∧Hid (Blk wr w.heap.size 168 (wdC (zE dK a b k)).toArray)∧Hid (Blk wr (w.heap.size+1) 168 (wdC b).toArray)∧Hid (Blk wr (w.heap.size+1+1) 168 (wdC cF).toArray)∧Hid (Below w.heap.size w wr)) (fun i _=>64-(intOf i).toNat)
 case atStart=>exact⟨0,Nat.zero_le _,rfl,hIz (by rw[tP];exact H.out.2.2.1),hIz H.out.2.2.2.1,hIz H.out.2.2.2.2.1,hIz H.out.2.2.2.2.2⟩
 case round =>
  obtain⟨k,hk,rfl,hA,hB,hC,hbw⟩:=hrel;have hab:a.length=b.length:=by rw[H.out.1.len,H.out.2.1.len]
  by_cases hlt:k<64
  ·have hltI:(k:Int)<(64:Int):=by omega
   have hkw:IntKind.i64.wrap ((k:Int)+1)=(k:Int)+1:=IntWalk.i64_in _ (by omega);obtain⟨x,hx⟩:∃x,a[k]?=some x:=⟨a[k]'(by rw[H.out.1.len];exact hlt),gEz _⟩;obtain⟨y,hy⟩:∃x,b[k]?=some x:=⟨b[k]'(by rw[H.out.2.1.len];exact hlt),gEz _⟩;have hop:=BT x y (H.out.1.fit x (mG hx)) (H.out.2.1.fit y (mG hy));have c0:wr.drew.cell? ⟨w.heap.size,k,none⟩=some (.int .u64 (x:Int)):=(hA.out.drew.cell k).trans (by simpa using jC (BS (f:=dK) hab hx));have c1:wr.drew.cell? ⟨w.heap.size+1,k,none⟩=some (.int .u64 (y:Int)):=(hB.out.drew.cell k).trans (by simpa using jC hy);have f0:wr.drew.frozen? ⟨w.heap.size,k,none⟩=false:=hA.out.drew.frozen k;have hS:wr.drew.cell? ⟨w.heap.size,k,none⟩=some (.int .u64 (x:Int))∧wr.drew.cell? ⟨w.heap.size+1,k,none⟩=some (.int .u64 (y:Int)):=⟨c0,c1⟩;have hb2:Upd (fun q=>q=w.heap.size) wr.drew (wr.drew.setCell ⟨w.heap.size,k,none⟩ (.int .u64 ((dK x y:Nat):Int))):=(Upd.refl (fun q=>q=w.heap.size) wr.drew).setCell (p:=⟨w.heap.size,k,none⟩) (.inl rfl) _;have HN:=hIz (show Blk (wr.drew.setCell ⟨w.heap.size,k,none⟩ (.int .u64 ((dK x y:Nat):Int))) w.heap.size 168 (wdC (zE dK a b (k+1))).toArray∧Blk (wr.drew.setCell ⟨w.heap.size,k,none⟩ (.int .u64 ((dK x y:Nat):Int))) (w.heap.size+1) 168 (wdC b).toArray∧Blk (wr.drew.setCell ⟨w.heap.size,k,none⟩ (.int .u64 ((dK x y:Nat):Int))) (w.heap.size+1+1) 168 (wdC cF).toArray∧Below w.heap.size w (wr.drew.setCell ⟨w.heap.size,k,none⟩ (.int .u64 ((dK x y:Nat):Int))) from by
    refine⟨?_,hB.out.drew.upd hb2 (by omega),hC.out.drew.upd hb2 (by omega),hbw.out.drew.trans (hb2.below (fun q _ e=>Nat.le_of_eq e.symm) hbw.out.size)⟩;have:=hA.out.drew.set k (.int .u64 ((dK x y:Nat):Int));rw[vW,xK hab hx hy] at this;exact this)
   clear hA hB hC hbw hb2 hx hy c1;generalize hq:(dK x y:Nat)=q at hop HN;clear hq;go_upto_region 4 with (fail);refine aE (fun W=>W.cell? ⟨w.heap.size,k,none⟩=some (.int .u64 (x:Int))∧W.cell? ⟨w.heap.size+1,k,none⟩=some (.int .u64 (y:Int))) 8 [(0,true),(1,true),(2,true),(3,true),(4,true),(5,true),(6,true),(7,true),(8,false)] hS ?_;generalize wr.drew=V0 at hS c0 f0 HN ⊢
   iterate 8 refine aB rfl ?_
   refine aN rfl rfl (fun K hK=>?_);go_simp;refine hK _ _ (fun h=>absurd rfl h) ?_;clear hK K hS c0 f0 hop;(try simp only[Act.put,gA,gS,gZ,sA,sZ,sS])
   refine aF ?_;generalize V0.setCell ⟨w.heap.size,k,none⟩ (.int .u64 (q:Int))=W1 at HN ⊢;go_wp2;go_roundw
   case rel=>exact⟨k+1,by omega,by go_num,hIz HN.out.1,hIz HN.out.2.1,hIz HN.out.2.2.1,hIz HN.out.2.2.2⟩
   case measure=>simp[intOf];omega
  ·obtain rfl:k=64:=by omega
   have hA2:=hA.out;rw[xJ H.out.1.len H.out.2.1.len] at hA2;have hz:Wd (List.zipWith dK a b):=BU H.out.1 H.out.2.1;have hrg:=fR hA2;have hsz:=fS hz;have hth:wr.there (w.heap.size+1+1) 0 (wdC (List.zipWith dK a b)).toArray.size:=kL hC.out (by simp[gD,hz.len,cF]);have hsz2:(Tryz.prog.info? 168).map (·.size)=some (wdC (List.zipWith dK a b)).toArray.size:=by simpa using hsz
   have h1c:(wdC (List.zipWith dK a b)).toArray.all (·.oneCell')=true:=all_oneCell_toArray (pX _);have FIN:=hIz (show Below w.heap.size w (wr.setCells (w.heap.size+1+1) 0 (wdC (List.zipWith dK a b)))∧(wr.setCells (w.heap.size+1+1) 0 (wdC (List.zipWith dK a b))).rangeAt (w.heap.size+1+1) 0 (wdC (List.zipWith dK a b)) from⟨hbw.out.trans ((Upd.setCells (F:=fun q=>q=w.heap.size+1+1) (.inl rfl) _ _ (Upd.refl _ _)).below (fun q _ e=>by omega) hbw.out.size),World.rangeAt_setCells_same _ _ _ _ (by simpa using hth)⟩);clear hA hB hC hbw hA2;go_upto_region 6 with (fail);go_wp2_with (first | (refine wpList_load_mid rfl 168 _ rfl w.heap.size 0 rfl (wdC (List.zipWith dK a b)) (.array 64 166) hrg Tryz.underlying168 rfl hsz ?_) | (refine wpList_store_mid rfl 168 _ _ rfl (w.heap.size+1+1) 0 (wdC (List.zipWith dK a b)).toArray rfl rfl hth hsz2 h1c ?_));have hlv:=run_loadVar_mid (P:=Tryz.prog) _ (w.heap.size+1+1) 0 168 (wdC (List.zipWith dK a b)) (.array 64 166) FIN.out.2 Tryz.underlying168 rfl hsz;refine bodyPost_ret (v:=.agg (wdC (List.zipWith dK a b)).toArray) (by simp[results,Tryz.f146,Act.put,asAddr,hlv,Result.andThen,Sem.run_bind]) rfl ⟨rfl,FIN.out.1⟩
theorem LU(w:World)(a b:List Nat)(ha:Wd a)(hb:Wd b):Calls Tryz.prog 147 #[wdV a,wdV b] w (Sam w (wdV (List.zipWith orN a b))):=by
 have k0:=((Blk.new w 168 (wdC a).toArray).alloc (.cells (wdC b).toArray 168)).alloc (.cells Z64 168);have k1:=(Blk.new (w.alloc (.cells (wdC a).toArray 168)) 168 (wdC b).toArray).alloc (.cells Z64 168);have k2:=Blk.new ((w.alloc (.cells (wdC a).toArray 168)).alloc (.cells (wdC b).toArray 168)) 168 Z64;simp only[World.size_alloc] at k1 k2
 have u0:Below w.heap.size w (((w.alloc (.cells (wdC a).toArray 168)).alloc (.cells (wdC b).toArray 168)).alloc (.cells Z64 168)):=by(repeat (first | exact Below.refl _ _ | apply Below.drew | refine Below.alloc ?_ (by first | exact Nat.le_refl _ | (simp;done) | (simp;omega)) _ | refine Below.setCell ?_ (by first | exact Nat.le_refl _ | (simp;done) | (simp;omega)) _))
 have H:=aI6 ha hb k0 k1 (gM.mp k2) u0;clear k0 k1 k2 u0 ha hb;unfold wdV;go_enter Tryz.func147,Tryz.ntmps147;go_upto_region 1 with (fail);generalize ((w.alloc (.cells (wdC a).toArray 168)).alloc (.cells (wdC b).toArray 168)).alloc (.cells Z64 168)=W0 at H ⊢;go_wp2_with fail;go_loopw [6] (fun i wr=>∃k:Nat,k≤64∧i=.int .i64 k∧Hid (Blk wr w.heap.size 168 (wdC (zE orN a b k)).toArray)∧Hid (Blk wr (w.heap.size+1) 168 (wdC b).toArray)∧Hid (Blk wr (w.heap.size+1+1) 168 (wdC cF).toArray)∧Hid (Below w.heap.size w wr)) (fun i _=>64-(intOf i).toNat)
 case atStart=>exact⟨0,Nat.zero_le _,rfl,hIz (by rw[tP];exact H.out.2.2.1),hIz H.out.2.2.2.1,hIz H.out.2.2.2.2.1,hIz H.out.2.2.2.2.2⟩
 case round =>
  obtain⟨k,hk,rfl,hA,hB,hC,hbw⟩:=hrel;have hab:a.length=b.length:=by rw[H.out.1.len,H.out.2.1.len]
  by_cases hlt:k<64
  ·have hltI:(k:Int)<(64:Int):=by omega
   have hkw:IntKind.i64.wrap ((k:Int)+1)=(k:Int)+1:=IntWalk.i64_in _ (by omega);obtain⟨x,hx⟩:∃x,a[k]?=some x:=⟨a[k]'(by rw[H.out.1.len];exact hlt),gEz _⟩;obtain⟨y,hy⟩:∃x,b[k]?=some x:=⟨b[k]'(by rw[H.out.2.1.len];exact hlt),gEz _⟩;have hop:=LS x y (H.out.1.fit x (mG hx)) (H.out.2.1.fit y (mG hy));have c0:wr.drew.cell? ⟨w.heap.size,k,none⟩=some (.int .u64 (x:Int)):=(hA.out.drew.cell k).trans (by simpa using jC (BS (f:=orN) hab hx));have c1:wr.drew.cell? ⟨w.heap.size+1,k,none⟩=some (.int .u64 (y:Int)):=(hB.out.drew.cell k).trans (by simpa using jC hy);have f0:wr.drew.frozen? ⟨w.heap.size,k,none⟩=false:=hA.out.drew.frozen k;have hS:wr.drew.cell? ⟨w.heap.size,k,none⟩=some (.int .u64 (x:Int))∧wr.drew.cell? ⟨w.heap.size+1,k,none⟩=some (.int .u64 (y:Int)):=⟨c0,c1⟩;have hb2:Upd (fun q=>q=w.heap.size) wr.drew (wr.drew.setCell ⟨w.heap.size,k,none⟩ (.int .u64 ((orN x y:Nat):Int))):=(Upd.refl (fun q=>q=w.heap.size) wr.drew).setCell (p:=⟨w.heap.size,k,none⟩) (.inl rfl) _;have HN:=hIz (show Blk (wr.drew.setCell ⟨w.heap.size,k,none⟩ (.int .u64 ((orN x y:Nat):Int))) w.heap.size 168 (wdC (zE orN a b (k+1))).toArray∧Blk (wr.drew.setCell ⟨w.heap.size,k,none⟩ (.int .u64 ((orN x y:Nat):Int))) (w.heap.size+1) 168 (wdC b).toArray∧Blk (wr.drew.setCell ⟨w.heap.size,k,none⟩ (.int .u64 ((orN x y:Nat):Int))) (w.heap.size+1+1) 168 (wdC cF).toArray∧Below w.heap.size w (wr.drew.setCell ⟨w.heap.size,k,none⟩ (.int .u64 ((orN x y:Nat):Int))) from by
    refine⟨?_,hB.out.drew.upd hb2 (by omega),hC.out.drew.upd hb2 (by omega),hbw.out.drew.trans (hb2.below (fun q _ e=>Nat.le_of_eq e.symm) hbw.out.size)⟩;have:=hA.out.drew.set k (.int .u64 ((orN x y:Nat):Int));rw[vW,xK hab hx hy] at this;exact this)
   clear hA hB hC hbw hb2 hx hy c1;generalize hq:(orN x y:Nat)=q at hop HN;clear hq;go_upto_region 4 with (fail);refine aE (fun W=>W.cell? ⟨w.heap.size,k,none⟩=some (.int .u64 (x:Int))∧W.cell? ⟨w.heap.size+1,k,none⟩=some (.int .u64 (y:Int))) 8 [(0,true),(1,true),(2,true),(3,true),(4,true),(5,true),(6,true),(7,true),(8,false)] hS ?_;generalize wr.drew=V0 at hS c0 f0 HN ⊢
   iterate 8 refine aB rfl ?_
   refine aN rfl rfl (fun K hK=>?_);go_simp;refine hK _ _ (fun h=>absurd rfl h) ?_;clear hK K hS c0 f0 hop;(try simp only[Act.put,gA,gS,gZ,sA,sZ,sS])
   refine aF ?_;generalize V0.setCell ⟨w.heap.size,k,none⟩ (.int .u64 (q:Int))=W1 at HN ⊢;go_wp2;go_roundw
   case rel=>exact⟨k+1,by omega,by go_num,hIz HN.out.1,hIz HN.out.2.1,hIz HN.out.2.2.1,hIz HN.out.2.2.2⟩
   case measure=>simp[intOf];omega
  ·obtain rfl:k=64:=by omega
   have hA2:=hA.out;rw[xJ H.out.1.len H.out.2.1.len] at hA2;have hz:Wd (List.zipWith orN a b):=NZ H.out.1 H.out.2.1;have hrg:=fR hA2;have hsz:=fS hz;have hth:wr.there (w.heap.size+1+1) 0 (wdC (List.zipWith orN a b)).toArray.size:=kL hC.out (by simp[gD,hz.len,cF]);have hsz2:(Tryz.prog.info? 168).map (·.size)=some (wdC (List.zipWith orN a b)).toArray.size:=by simpa using hsz
   have h1c:(wdC (List.zipWith orN a b)).toArray.all (·.oneCell')=true:=all_oneCell_toArray (pX _);have FIN:=hIz (show Below w.heap.size w (wr.setCells (w.heap.size+1+1) 0 (wdC (List.zipWith orN a b)))∧(wr.setCells (w.heap.size+1+1) 0 (wdC (List.zipWith orN a b))).rangeAt (w.heap.size+1+1) 0 (wdC (List.zipWith orN a b)) from⟨hbw.out.trans ((Upd.setCells (F:=fun q=>q=w.heap.size+1+1) (.inl rfl) _ _ (Upd.refl _ _)).below (fun q _ e=>by omega) hbw.out.size),World.rangeAt_setCells_same _ _ _ _ (by simpa using hth)⟩);clear hA hB hC hbw hA2;go_upto_region 6 with (fail);go_wp2_with (first | (refine wpList_load_mid rfl 168 _ rfl w.heap.size 0 rfl (wdC (List.zipWith orN a b)) (.array 64 166) hrg Tryz.underlying168 rfl hsz ?_) | (refine wpList_store_mid rfl 168 _ _ rfl (w.heap.size+1+1) 0 (wdC (List.zipWith orN a b)).toArray rfl rfl hth hsz2 h1c ?_));have hlv:=run_loadVar_mid (P:=Tryz.prog) _ (w.heap.size+1+1) 0 168 (wdC (List.zipWith orN a b)) (.array 64 166) FIN.out.2 Tryz.underlying168 rfl hsz;refine bodyPost_ret (v:=.agg (wdC (List.zipWith orN a b)).toArray) (by simp[results,Tryz.f147,Act.put,asAddr,hlv,Result.andThen,Sem.run_bind]) rfl ⟨rfl,FIN.out.1⟩
open Go.RowKit
theorem kO(n:Nat)(hn:n<64)(w:World):Calls Tryz.prog 143 #[.int .i64 (n:Int)] w (fun e w'=>e=.returned (.bool true)∧w'=w):=by
 have h0:(0:Int)≤(n:Int):=by omega
 have h1:(n:Int)<64:=by omega
 go_enter Tryz.func143,Tryz.ntmps143;go_wp2;go_ret;exact⟨rfl,rfl⟩
def pY(r:List Nat)(i j:Nat):Bool:=(r[i]?.getD 0).testBit j
theorem LV(x:Nat)(hx:x<18446744073709551616)(j:Nat):(bits .and .u64 ((x:Int) / 2 ^ j) 1==1)=x.testBit j:=by
 rw[show((x:Int) / 2 ^ j)=((x / 2 ^ j:Nat):Int) by push_cast;rfl];have hlt:x / 2 ^ j<18446744073709551616:=Nat.lt_of_le_of_lt (Nat.div_le_self _ _) hx;have h:=bits_and_u64_nat (x / 2 ^ j) 1 hlt (by decide);have e:((1:Nat):Int)=1:=rfl;rw[e] at h;rw[h,Nat.and_one_is_mod,Nat.testBit_eq_decide_div_mod_eq];by_cases hq:x / 2 ^ j % 2=1
 ·simp[hq]
 ·have:x / 2 ^ j % 2=0:=by omega
  simp[this]
theorem GQ(w:World)(r:List Nat)(hr:Wd r)(i j:Nat)(hi:i<64)(hj:j<64):Calls Tryz.prog 118 #[wdV r,.int .i64 (i:Int),.int .i64 (j:Int)] w (Sam w (.tuple #[.bool (pY r i j),.int .i64 0])):=by
 have k0:=Blk.new w 168 (wdC r).toArray;have u0:Below w.heap.size w (w.alloc (.cells (wdC r).toArray 168)):=bR.alloc (Nat.le_refl _) _;obtain⟨x,hx⟩:∃x,r[i]?=some x:=⟨r[i]'(by rw[hr.len];exact hi),gEz _⟩;have c0:(w.alloc (.cells (wdC r).toArray 168)).cell? ⟨w.heap.size,i,none⟩=some (.int .u64 (x:Int)):=(k0.cell i).trans (by simpa using jC hx);have hb:pY r i j=x.testBit j:=by unfold pY;rw[hx];rfl
 have ha:=LV x (hr.fit x (mG hx)) j;rw[hb,← ha];have H:=hIz u0;have hiI:(i:Int)<(64:Int):=by omega
 have hj0:¬((j:Int)<0):=by omega
 clear k0 u0 hx hr hb ha;unfold wdV;go_enter Tryz.func118,Tryz.ntmps118;go_upto_region 1 with (fail);generalize w.alloc (.cells (wdC r).toArray 168)=W0 at H c0 ⊢;go_wp2_with fail;refine(kO i hi W0).mono ?_;rintro e w' ⟨rfl,hw⟩;subst w';go_wp2_with fail;refine(kO j hj W0).mono ?_;rintro e w' ⟨rfl,hw⟩;subst w';go_wp2;refine bodyPost_ret (v:=.tuple #[.bool (bits .and .u64 ((x:Int) / 2 ^ j) 1==1),.int .i64 0]) (by simp[results,Tryz.f118,go_sem]) rfl ⟨rfl,H.out⟩
theorem oL(l:Nat)(hl:l≤10)(w:World):Calls Tryz.prog 155 #[.int .i64 0,.int .i64 0,.int .i64 (l:Int)] w (Sam w (.int .i64 0)):=by
 have h0:¬((l:Int)<0):=by omega
 have h1:bits .and .i64 0 1=0:=by decide +kernel
 have h2:wrap64 0=0:=by decide +kernel
 have h3:bits .or .i64 0 0=0:=by decide +kernel
 go_enter Tryz.func155,Tryz.ntmps155;go_upto_region 1 with (fail);go_quiet (fail)
 go_wp2;go_ret;exact⟨rfl,(Upd.refl (fun _=>False) w).drewN _ |>.below (fun _ _ h=>h.elim) (Nat.le_refl _)⟩
open Go.RowKit
def gR(x:Int):List Value:=[.int .i64 x,.int .i64 0,.int .i64 0,.int .i64 0]
def qsC(m:Nat)(last:Int):List Value:=((List.range m).flatMap fun (i:Nat)=>gR ((i:Int)+2))++gR last
def lfC(L:List (List Nat)):List Value:=L.flatMap wdC
inductive QRo
 | p | a | l
structure QuI(w:World)(O:Nat→Option QRo)(p:Nat)(side dep cnt:Nat)(m:Nat)(last:Int)(L:List (List Nat))(pv lv:Value):Prop where
 blk:Blk w p 179 #[.int .i64 (side:Int),.int .i64 (dep:Int),.int .i64 (cnt:Int),pv,lv]
 rp:w.ownsRow 0 225 4 pv (m+1) (qsC m last)
 rl:w.ownsRow 0 168 64 lv L.length (lfC L)
 op:O p=some .p
 oa:∀k,pv.ownBlock=some k→O k=some .a
 ol:∀k,lv.ownBlock=some k→O k=some .l
 lt:∀k,O k≠none→k<w.heap.size
structure OA(side dep cnt m:Nat)(last:Int)(L:List (List Nat))(b:Option (List Nat)):Prop where
 s1:1≤side
 s2:side≤1024
 d1:1≤dep
 d2:dep≤4
 no:b=none→m=0∧last=0∧L=[]∧cnt=0
 is:∀r,b=some r→m+1=dep∧last=1∧L=[r]∧cnt=jL r∧Wd r
def QuS(w:World)(F:Nat→Prop)(p side:Nat)(b:Option (List Nat)):Prop:=∃O dep cnt m last L pv lv,QuI w O p side dep cnt m last L pv lv∧OA side dep cnt m last L b∧F=fun k=>O k≠none
theorem QuI.upd{w w':World}{O:Nat→Option QRo}{p side dep cnt m:Nat}{last:Int}{L:List (List Nat)}{pv lv:Value}{G:Nat→Prop}(h:QuI w O p side dep cnt m last L pv lv)(hu:Upd G w w')(hd:∀k,O k≠none→¬G k):QuI w' O p side dep cnt m last L pv lv:=by
 have no:∀k t,O k=some t→¬G k:=fun k t e=>hd k (by simp[e])
 exact⟨h.blk.upd hu (no _ _ h.op),aA h.rp hu fun k hk=>no _ _ (h.oa k hk),aA h.rl hu fun k hk=>no _ _ (h.ol k hk),h.op,h.oa,h.ol,fun k hk=>Nat.lt_of_lt_of_le (h.lt k hk) hu.size⟩
theorem QuS.upd{w w':World}{F G:Nat→Prop}{p side:Nat}{b:Option (List Nat)}(h:QuS w F p side b)(hu:Upd G w w')(hd:∀k,F k→¬G k):QuS w' F p side b:=by
 obtain⟨O,dep,cnt,m,last,L,pv,lv,hs,ok,rfl⟩:=h;exact⟨O,dep,cnt,m,last,L,pv,lv,hs.upd hu hd,ok,rfl⟩
theorem QuS.below{w w':World}{F:Nat→Prop}{p side:Nat}{b:Option (List Nat)}(h:QuS w F p side b)(hb:Below w.heap.size w w'):QuS w' F p side b:=h.upd (upF hb) (fun _ _=>id)
theorem QuI.no{w:World}{O:Nat→Option QRo}{p side dep cnt m:Nat}{last:Int}{L:List (List Nat)}{pv lv:Value}(h:QuI w O p side dep cnt m last L pv lv):(∀k,pv.ownBlock=some k→¬k=p)∧(∀k,lv.ownBlock=some k→¬k=p)∧∀k,pv.ownBlock=some k→¬lv.ownBlock=some k:=
 ⟨fun k hk e=>(by have:=h.oa k hk;rw[e,h.op] at this;cases this),fun k hk e=>(by have:=h.ol k hk;rw[e,h.op] at this;cases this),fun k hk e=>by have:=h.oa k hk;rw[h.ol k e] at this;cases this⟩
theorem QuI.setD{w:World}{O:Nat→Option QRo}{p side dep cnt m:Nat}{last:Int}{L:List (List Nat)}{pv lv:Value}(h:QuI w O p side dep cnt m last L pv lv)(d':Nat):QuI (w.setCell ⟨p,1,none⟩ (.int .i64 (d':Int))) O p side d' cnt m last L pv lv:=by
 have us:=(Upd.refl (fun k=>k=p) w).setCell (p:=⟨p,1,none⟩) (.inl rfl) (.int .i64 (d':Int));exact⟨h.blk.set 1 _,aA h.rp us h.no.1,aA h.rl us h.no.2.1,h.op,h.oa,h.ol,fun k hk=>Nat.lt_of_lt_of_le (h.lt k hk) us.size⟩
theorem QuI.setC{w:World}{O:Nat→Option QRo}{p side dep cnt m:Nat}{last:Int}{L:List (List Nat)}{pv lv:Value}(h:QuI w O p side dep cnt m last L pv lv)(c':Nat):QuI (w.setCell ⟨p,2,none⟩ (.int .i64 (c':Int))) O p side dep c' m last L pv lv:=by
 have us:=(Upd.refl (fun k=>k=p) w).setCell (p:=⟨p,2,none⟩) (.inl rfl) (.int .i64 (c':Int));exact⟨h.blk.set 2 _,aA h.rp us h.no.1,aA h.rl us h.no.2.1,h.op,h.oa,h.ol,fun k hk=>Nat.lt_of_lt_of_le (h.lt k hk) us.size⟩
def jD(B p side:Nat)(b:Option (List Nat))(w':World):Prop:=∃F,QuS w' F p side b∧∀k,F k→B≤k
theorem GR(w:World)(side:Nat):QuI ((w.alloc (.cells #[.int .i64 0,.int .i64 0,.int .i64 0,.int .i64 0] 225)).alloc (.cells #[.int .i64 (side:Int),.int .i64 1,.int .i64 0,.slice (some ⟨w.heap.size,0,none⟩) 1 1,.slice none 0 0] 179)) (fun k=>if k=w.heap.size+1 then some QRo.p else if k=w.heap.size then some QRo.a else none) (w.heap.size+1) side 1 0 0 0 [] (.slice (some ⟨w.heap.size,0,none⟩) 1 1) (.slice none 0 0):=by
 have k1:=Blk.new (w.alloc (.cells #[.int .i64 0,.int .i64 0,.int .i64 0,.int .i64 0] 225)) 179 #[.int .i64 (side:Int),.int .i64 1,.int .i64 0,.slice (some ⟨w.heap.size,0,none⟩) 1 1,.slice none 0 0];have hz:(w.alloc (.cells #[.int .i64 0,.int .i64 0,.int .i64 0,.int .i64 0] 225)).heap.size=w.heap.size+1:=by simp
 rw[hz] at k1;refine⟨k1,?_,World.ownsRow_nil _ _ _ _,if_pos rfl,?_,?_,?_⟩
 ·have own:(w.alloc (.cells #[.int .i64 0,.int .i64 0,.int .i64 0,.int .i64 0] 225)).ownsRow 0 225 4 (.slice (some ⟨w.heap.size,0,none⟩) 1 1) (0+1) (qsC 0 0):=⟨rfl,.inr ⟨w.heap.size,1,#[.int .i64 0,.int .i64 0,.int .i64 0,.int .i64 0],rfl,Nat.zero_le _,heap_alloc_new w _,Nat.le_refl _,by decide,rfl,rfl⟩⟩;exact own.alloc _
 ·intro k hk;simp[Value.ownBlock] at hk
  subst hk;rw[if_neg (by omega),if_pos rfl]
 ·intro k hk;simp[Value.ownBlock] at hk
 ·intro k hk;simp only[World.size_alloc] at *
  split at hk
  ·omega
  split at hk
  ·omega
  ·exact absurd rfl hk
theorem tQ:(Tryz.prog.info? 225).map (fun i=>(i.zero,i.size,i.bytes))=some (some (.agg #[.int .i64 0,.int .i64 0,.int .i64 0,.int .i64 0]),4,32):=by kernel_rfl
theorem GS(w:World):(Instr.makeSlice 176 (.int .i64 1) (.int .i64 1)).run Tryz.prog w=.ok (.slice (some ⟨w.heap.size,0,none⟩) 1 1) (w.alloc (.cells #[.int .i64 0,.int .i64 0,.int .i64 0,.int .i64 0] 225)):=by
 obtain⟨i0,hi0,hz0,hz1,hz2⟩:=info_parts tQ;have hr:=run_make (P:=Tryz.prog) w 176 225 i0 _ Tryz.underlying176 hi0 hz0 .i64 .i64 1 1 (by omega) (Int.le_refl _) (by rw[hz2];omega) (by omega);rw[hz1] at hr;have e:madeCells (Value.agg #[.int .i64 0,.int .i64 0,.int .i64 0,.int .i64 0]).cells (Int.toNat 1*4)=#[.int .i64 0,.int .i64 0,.int .i64 0,.int .i64 0]:=by kernel_rfl
 rw[e] at hr;exact hr
def CA(w:World)(side:Nat)(e:Ending)(w':World):Prop:=∃p,e=.returned (.tuple #[.pointer (some ⟨p,0,none⟩),.int .i64 0])∧jD w.heap.size p side none w'∧Below w.heap.size w w'
theorem xL(w:World)(side:Nat)(h1:1≤side)(h2:side≤1024):Calls Tryz.prog 70 #[.int .i64 (side:Int)] w (CA w side):=by
 have hz:((w.alloc (.cells #[.int .i64 0,.int .i64 0,.int .i64 0,.int .i64 0] 225)).alloc (.cells #[.int .i64 (side:Int),.int .i64 1,.int .i64 0,.slice (some ⟨w.heap.size,0,none⟩) 1 1,.slice none 0 0] 179)).heap.size=w.heap.size+1+1:=by simp
 have u0:Below w.heap.size w ((w.alloc (.cells #[.int .i64 0,.int .i64 0,.int .i64 0,.int .i64 0] 225)).alloc (.cells #[.int .i64 (side:Int),.int .i64 1,.int .i64 0,.slice (some ⟨w.heap.size,0,none⟩) 1 1,.slice none 0 0] 179)):=by(repeat (first | exact Below.refl _ _ | apply Below.drew | refine Below.alloc ?_ (by first | exact Nat.le_refl _ | (simp;done) | (simp;omega)) _ | refine Below.setCell ?_ (by first | exact Nat.le_refl _ | (simp;done) | (simp;omega)) _))
 have H:=aI2 (GR w side) u0;have t1:¬((side:Int)<1):=by omega
 have t2:¬((1024:Int)<(side:Int)):=by omega
 clear u0 hz;go_enter Tryz.func70,Tryz.ntmps70;have hmk:=GS w;go_upto_region 4 with (fail);generalize (w.alloc (.cells #[.int .i64 0,.int .i64 0,.int .i64 0,.int .i64 0] 225)).alloc (.cells #[.int .i64 (side:Int),.int .i64 1,.int .i64 0,.slice (some ⟨w.heap.size,0,none⟩) 1 1,.slice none 0 0] 179)=W0 at H ⊢;clear hmk;go_loopw [] (fun wr=>∃d:Nat,1≤d∧d≤4∧Hid (QuI wr (fun k=>if k=w.heap.size+1 then some QRo.p else if k=w.heap.size then some QRo.a else none) (w.heap.size+1) side d 0 0 0 [] (.slice (some ⟨w.heap.size,0,none⟩) 1 1) (.slice none 0 0))∧Hid (Below w.heap.size w wr)) (fun wr=>4-(match wr.cell? ⟨w.heap.size+1,1,none⟩ with | some v=>(intOf v).toNat | none=>0))
 case atStart=>exact⟨1,Nat.le_refl _,by decide,hIz H.out.1,hIz H.out.2⟩
 case round =>
  obtain⟨d,hd1,hd4,hq,hbw⟩:=hrel;have hlo:∀k,(if k=w.heap.size+1 then some QRo.p else if k=w.heap.size then some QRo.a else none)≠none→w.heap.size≤k:=fun k hk=>by
   split at hk
   ·omega
   split at hk
   ·omega
   ·exact absurd rfl hk
  have hd:d=1∨d=2∨d=3∨d=4:=by omega
  rcases hd with rfl|rfl|rfl|rfl
  ·have q1:wr.cell? ⟨w.heap.size+1,1,none⟩=some (.int .i64 1):=hq.out.blk.cell 1;have f1:=hq.out.blk.frozen 1;have HN:=hIz (hq.out.setD 2);have HB:=hIz (hbw.out.trans (((Upd.refl (fun k=>k=w.heap.size+1) wr).setCell (p:=⟨w.heap.size+1,1,none⟩) (.inl rfl) (.int .i64 ((2:Nat):Int))).below (fun k _ e=>by omega) hbw.out.size));by_cases hlt:(128:Int)<(side:Int)
   ·go_wp2;go_roundw
    case rel=>exact⟨2,by decide,by decide,HN,HB⟩
    case measure =>
     have:=show(wr.setCell ⟨w.heap.size+1,1,none⟩ (.int .i64 2)).cell? ⟨w.heap.size+1,1,none⟩=some (.int .i64 2) from HN.out.blk.cell 1
     simp[q1,intOf,this]
   ·have FIN:=hIz (show CA w side (.returned (.tuple #[.pointer (some ⟨w.heap.size+1,0,none⟩),.int .i64 0])) wr from⟨_,rfl,⟨_,⟨_,_,_,_,_,_,_,_,hq.out,⟨h1,h2,by decide,by decide,fun _=>⟨rfl,rfl,rfl,rfl⟩,fun _ e=>by cases e⟩,rfl⟩,hlo⟩,hbw.out⟩);clear HN HB hq hbw;go_wp2;refine bodyPost_ret (v:=.tuple #[.pointer (some ⟨w.heap.size+1,0,none⟩),.int .i64 0]) (by simp[results,Tryz.f70,go_sem]) rfl FIN.out
  ·have q1:wr.cell? ⟨w.heap.size+1,1,none⟩=some (.int .i64 2):=hq.out.blk.cell 1;have f1:=hq.out.blk.frozen 1;have HN:=hIz (hq.out.setD 3);have HB:=hIz (hbw.out.trans (((Upd.refl (fun k=>k=w.heap.size+1) wr).setCell (p:=⟨w.heap.size+1,1,none⟩) (.inl rfl) (.int .i64 ((3:Nat):Int))).below (fun k _ e=>by omega) hbw.out.size));by_cases hlt:(256:Int)<(side:Int)
   ·go_wp2;go_roundw
    case rel=>exact⟨3,by decide,by decide,HN,HB⟩
    case measure =>
     have:=show(wr.setCell ⟨w.heap.size+1,1,none⟩ (.int .i64 3)).cell? ⟨w.heap.size+1,1,none⟩=some (.int .i64 3) from HN.out.blk.cell 1
     simp[q1,intOf,this]
   ·have FIN:=hIz (show CA w side (.returned (.tuple #[.pointer (some ⟨w.heap.size+1,0,none⟩),.int .i64 0])) wr from⟨_,rfl,⟨_,⟨_,_,_,_,_,_,_,_,hq.out,⟨h1,h2,by decide,by decide,fun _=>⟨rfl,rfl,rfl,rfl⟩,fun _ e=>by cases e⟩,rfl⟩,hlo⟩,hbw.out⟩);clear HN HB hq hbw;go_wp2;refine bodyPost_ret (v:=.tuple #[.pointer (some ⟨w.heap.size+1,0,none⟩),.int .i64 0]) (by simp[results,Tryz.f70,go_sem]) rfl FIN.out
  ·have q1:wr.cell? ⟨w.heap.size+1,1,none⟩=some (.int .i64 3):=hq.out.blk.cell 1;have f1:=hq.out.blk.frozen 1;have HN:=hIz (hq.out.setD 4);have HB:=hIz (hbw.out.trans (((Upd.refl (fun k=>k=w.heap.size+1) wr).setCell (p:=⟨w.heap.size+1,1,none⟩) (.inl rfl) (.int .i64 ((4:Nat):Int))).below (fun k _ e=>by omega) hbw.out.size));by_cases hlt:(512:Int)<(side:Int)
   ·go_wp2;go_roundw
    case rel=>exact⟨4,by decide,by decide,HN,HB⟩
    case measure =>
     have:=show(wr.setCell ⟨w.heap.size+1,1,none⟩ (.int .i64 4)).cell? ⟨w.heap.size+1,1,none⟩=some (.int .i64 4) from HN.out.blk.cell 1
     simp[q1,intOf,this]
   ·have FIN:=hIz (show CA w side (.returned (.tuple #[.pointer (some ⟨w.heap.size+1,0,none⟩),.int .i64 0])) wr from⟨_,rfl,⟨_,⟨_,_,_,_,_,_,_,_,hq.out,⟨h1,h2,by decide,by decide,fun _=>⟨rfl,rfl,rfl,rfl⟩,fun _ e=>by cases e⟩,rfl⟩,hlo⟩,hbw.out⟩);clear HN HB hq hbw;go_wp2;refine bodyPost_ret (v:=.tuple #[.pointer (some ⟨w.heap.size+1,0,none⟩),.int .i64 0]) (by simp[results,Tryz.f70,go_sem]) rfl FIN.out
  ·have q1:wr.cell? ⟨w.heap.size+1,1,none⟩=some (.int .i64 4):=hq.out.blk.cell 1;have FIN:=hIz (show CA w side (.returned (.tuple #[.pointer (some ⟨w.heap.size+1,0,none⟩),.int .i64 0])) wr from⟨_,rfl,⟨_,⟨_,_,_,_,_,_,_,_,hq.out,⟨h1,h2,by decide,by decide,fun _=>⟨rfl,rfl,rfl,rfl⟩,fun _ e=>by cases e⟩,rfl⟩,hlo⟩,hbw.out⟩);clear hq hbw;go_wp2;refine bodyPost_ret (v:=.tuple #[.pointer (some ⟨w.heap.size+1,0,none⟩),.int .i64 0]) (by simp[results,Tryz.f70,go_sem]) rfl FIN.out
open Go.RowKit
theorem CB{m k:Nat}{last:Int}(h:k<m):(qsC m last)[k*4]?=some (.int .i64 ((k:Int)+2)):=by
 have hl:((List.range m).flatMap fun (i:Nat)=>gR ((i:Int)+2)).length=m*4:=by rw[dS _ 4 (fun _=>rfl),List.length_range]
 unfold qsC;rw[List.getElem?_append_left (by omega)];have:=dR (fun (i:Nat)=>gR ((i:Int)+2)) 4 (fun _=>rfl) (List.range m) k 0 k (by simp[h]) (by decide);rw[Nat.add_zero] at this;rw[this];rfl
theorem gY{m:Nat}{last:Int}:(qsC m last)[m*4]?=some (.int .i64 last):=by
 have hl:((List.range m).flatMap fun (i:Nat)=>gR ((i:Int)+2)).length=m*4:=by rw[dS _ 4 (fun _=>rfl),List.length_range]
 unfold qsC;rw[List.getElem?_append_right (by omega),hl,Nat.sub_self];rfl
theorem lV(w:World)(p side:Nat)(hs:1≤side)(q0:w.cell? ⟨p,0,none⟩=some (.int .i64 (side:Int))):Calls Tryz.prog 115 #[.pointer (some ⟨p,0,none⟩)] w (eJ w (.bool true)):=by
 have h0:0<side:=by omega
 go_enter Tryz.func115,Tryz.ntmps115;go_wp2;go_ret;exact⟨rfl,rfl⟩
theorem rR(w:World)(p side i:Nat)(hs:i<side)(q0:w.cell? ⟨p,0,none⟩=some (.int .i64 (side:Int))):Calls Tryz.prog 116 #[.pointer (some ⟨p,0,none⟩),.int .i64 (i:Int)] w (eJ w (.bool true)):=by
 have h0:(0:Int)≤(i:Int):=by omega
 have h1:(i:Int)<(side:Int):=by omega
 go_enter Tryz.func116,Tryz.ntmps116;go_wp2;go_ret;exact⟨rfl,rfl⟩
theorem CC(w:World)(p side:Nat)(hs:1≤side)(q0:w.cell? ⟨p,0,none⟩=some (.int .i64 (side:Int))):Calls Tryz.prog 104 #[.pointer (some ⟨p,0,none⟩)] w (eJ w (.int .i64 (side:Int))):=by
 go_enter Tryz.func104,Tryz.ntmps104;go_wp2_with fail;refine(lV w p side hs q0).mono ?_;rintro e w' ⟨rfl,hw⟩;subst w';go_wp2;go_ret;exact⟨rfl,rfl⟩
theorem GU(w:World)(p side cnt:Nat)(hs:1≤side)(q0:w.cell? ⟨p,0,none⟩=some (.int .i64 (side:Int)))(q2:w.cell? ⟨p,2,none⟩=some (.int .i64 (cnt:Int))):Calls Tryz.prog 77 #[.pointer (some ⟨p,0,none⟩)] w (eJ w (.int .i64 (cnt:Int))):=by
 go_enter Tryz.func77,Tryz.ntmps77;go_wp2_with fail;refine(lV w p side hs q0).mono ?_;rintro e w' ⟨rfl,hw⟩;subst w';go_wp2;go_ret;exact⟨rfl,rfl⟩
theorem xM(w:World)(O:Nat→Option QRo)(p side dep cnt m:Nat)(last:Int)(L:List (List Nat))(pv lv:Value)(h:QuI w O p side dep cnt m last L pv lv)(hd:m<dep)(hd4:dep≤4)(hl:last=0∧m=0∨last=1∧m+1=dep) :
  Calls Tryz.prog 117 #[.pointer (some ⟨p,0,none⟩),.int .i64 0,.int .i64 0] w (Sam w (.int .i64 last)):=by
 have q1:w.cell? ⟨p,1,none⟩=some (.int .i64 (dep:Int)):=h.blk.cell 1;obtain⟨pg,pc,e,-,-,-,-,hc⟩:=bC h.rp (by omega);subst e;have SR:=hIz (show ∀W,Below w.heap.size w W→∀k,k≤m→W.cell? ⟨p,3,none⟩=some (.slice (some ⟨pg,0,none⟩) (m+1) pc)∧W.cell? ⟨pg,k*4,none⟩=some (.int .i64 (if k<m then (k:Int)+2 else last)) from fun W hb k hk=>by
  have hi:=h.upd (upF hb) (fun _ _=>id);refine⟨hi.blk.cell 3,?_⟩;have hcc:=(bC hi.rp (by omega));obtain⟨g',c',e',-,-,-,-,hc'⟩:=hcc;injection e' with e';injection e' with e';injection e' with e';subst e';by_cases hkm:k<m
  ·rw[if_pos hkm];exact(hc' _ _ (CB hkm)).1
  ·obtain rfl:k=m:=by omega
   rw[if_neg hkm];exact(hc' _ _ gY).1)
 obtain⟨n,hn⟩:∃n,m+1=n:=⟨_,rfl⟩;rw[hn] at SR;have hw1:IntKind.i64.wrap ((dep:Int)-1)=(dep:Int)-1:=by rw[IntKind.wrap_i64];omega
 clear h hc;go_enter Tryz.func117,Tryz.ntmps117;go_wp2_with fail;clear q1;go_loopw [7,8] (fun a l wr=>∃k:Nat,k≤m∧a=.int .i64 k∧l=.int .i64 ((dep:Int)-1-k)∧Hid (Below w.heap.size w wr)) (fun _ l _=>(intOf l+1).toNat)
 case atStart=>exact⟨0,Nat.zero_le _,rfl,by simp,hIz bR⟩
 case round =>
  obtain⟨k,hk,rfl,rfl,hb⟩:=hrel;obtain⟨l,hl0⟩:∃l:Nat,(dep:Int)-1-(k:Int)=(l:Int):=⟨dep-1-k,by omega⟩;rw[hl0];have hl10:l≤10:=by omega
  have hge:(0:Int)≤(l:Int):=by omega
  have hkn:(k:Int)<(n:Int):=by omega
  have hS:=SR.out wr.drew hb.out.drew k hk;have hwy:=oL l hl10 wr.drew;have HB:=hIz hb.out.drew;clear hb;go_upto_region 5 with (fail);refine aE (fun W=>W.cell? ⟨p,3,none⟩=some (.slice (some ⟨pg,0,none⟩) n pc)∧W.cell? ⟨pg,k*4,none⟩=some (.int .i64 (if k<m then (k:Int)+2 else last))) 13 [(0,true),(1,true),(2,true),(3,true),(4,true),(5,true),(6,true),(7,true),(9,true),(8,false),(10,true),(11,true),(12,true)] hS ?_;generalize wr.drew=V0 at hS hwy HB ⊢
  iterate 9 refine aB rfl ?_
  refine aN rfl rfl (fun K hK=>?_);go_simp;refine hwy.mono ?_;clear hwy;rintro e V1 ⟨rfl,b1⟩;have HB1:=hIz (tHn HB.out b1);have hS:=SR.out V1 HB1.out k hk;refine hK _ _ (fun _=>hS) ?_;clear hK K b1;(try simp only[Act.put,gA,gS,gZ,sA,sZ,sS])
  iterate 3 refine aB rfl ?_
  refine aF ?_;clear hS;by_cases hkm:k<m
  ·rw[if_pos hkm];have z0:((k:Int)+2==0)=false:=by simp;omega
   have z1:((l:Int)==0)=false:=by
    have:l≠0:=by omega
    simpa using this
   have w0:IntKind.i64.wrap ((k:Int)+1)=(k:Int)+1:=IntWalk.i64_in _ (by omega);have w1:IntKind.i64.wrap ((l:Int)-1)=(l:Int)-1:=by rw[IntKind.wrap_i64];omega
   go_wp2;go_roundw
   case rel=>exact⟨k+1,by omega,by go_num,by congr 1;omega,HB1⟩
   case measure=>simp[intOf] <;> omega
  ·rw[if_neg hkm];rcases hl with ⟨rfl,hm⟩|⟨rfl,hm⟩
   ·go_wp2;go_ret;exact⟨rfl,HB1.out⟩
   ·obtain rfl:l=0:=by omega
    go_wp2;go_ret;exact⟨rfl,HB1.out⟩
open Go.RowKit
def zF:Option (List Nat)→Nat→Nat→Bool
 | none,_,_=>false
 | some r,i,j=>pY r i j
theorem GV(w:World)(F:Nat→Prop)(p side:Nat)(b:Option (List Nat))(h:QuS w F p side b)(i j:Nat)(hi:i<side)(hj:j<side)(hi6:i<64)(hj6:j<64) :
  Calls Tryz.prog 73 #[.pointer (some ⟨p,0,none⟩),.int .i64 (i:Int),.int .i64 (j:Int)] w (Sam w (.tuple #[.bool (zF b i j),.int .i64 0])):=by
 obtain⟨O,dep,cnt,m,last,L,pv,lv,hq,ok,-⟩:=h;have q0:w.cell? ⟨p,0,none⟩=some (.int .i64 (side:Int)):=hq.blk.cell 0;have d1:=ok.d1;have d2:=ok.d2;have s1:=ok.s1;have qi:(i:Int).tdiv 64=0:=by rw[Int.tdiv_eq_ediv_of_nonneg (by omega)];omega
 have qj:(j:Int).tdiv 64=0:=by rw[Int.tdiv_eq_ediv_of_nonneg (by omega)];omega
 have ri:(i:Int).tmod 64=i:=by rw[Int.tmod_eq_emod_of_nonneg (by omega)];omega
 have rj:(j:Int).tmod 64=j:=by rw[Int.tmod_eq_emod_of_nonneg (by omega)];omega
 cases b with
 | none =>
  obtain⟨rfl,rfl,rfl,rfl⟩:=ok.no rfl;have hlf:=xM w O p side dep 0 0 0 [] pv lv hq (by omega) d2 (.inl ⟨rfl,rfl⟩);clear hq ok d1 d2;go_enter Tryz.func73,Tryz.ntmps73;go_wp2_with fail;refine(lV w p side s1 q0).mono ?_;rintro e w' ⟨rfl,hw⟩;subst w';go_wp2_with fail;refine(rR w p side i hi q0).mono ?_;rintro e w' ⟨rfl,hw⟩;subst w';go_wp2_with fail;refine(rR w p side j hj q0).mono ?_;rintro e w' ⟨rfl,hw⟩;subst w';go_wp2_with fail;refine hlf.mono ?_;clear hlf;rintro e W1 ⟨rfl,b1⟩;have FIN:=hIz b1;clear b1 q0;go_wp2;refine bodyPost_ret (v:=.tuple #[.bool false,.int .i64 0]) (by simp[results,Tryz.f73,go_sem]) rfl ⟨rfl,FIN.out⟩
 | some r =>
  obtain⟨hm,rfl,rfl,rfl,hr⟩:=ok.is r rfl;have hlf:=xM w O p side dep (jL r) m 1 [r] pv lv hq (by omega) d2 (.inr ⟨rfl,hm⟩);obtain⟨lg,lc,e,-,-,-,-,-⟩:=bC hq.rl (by simp);subst e;have SR:=hIz (show ∀W,Below w.heap.size w W→W.cell? ⟨p,4,none⟩=some (.slice (some ⟨lg,0,none⟩) 1 lc)∧W.rangeAt lg 0 (wdC r) from fun W hb=>by
   have hi:=hq.upd (upF hb) (fun _ _=>id);refine⟨hi.blk.cell 4,fun j u hu=>?_⟩;obtain⟨g',c',e',-,-,-,-,hc'⟩:=bC hi.rl (by simp);injection e' with e';injection e' with e';injection e' with e';subst e';rw[Nat.zero_add];exact(hc' j u (by simpa[lfC] using hu)).1)
  have HR:=hIz hr;have hsz:=fS hr;clear hq ok d1 d2 hm hr;go_enter Tryz.func73,Tryz.ntmps73;go_wp2_with fail;refine(lV w p side s1 q0).mono ?_;rintro e w' ⟨rfl,hw⟩;subst w';go_wp2_with fail;refine(rR w p side i hi q0).mono ?_;rintro e w' ⟨rfl,hw⟩;subst w';go_wp2_with fail;refine(rR w p side j hj q0).mono ?_;rintro e w' ⟨rfl,hw⟩;subst w';go_wp2_with fail;refine hlf.mono ?_;clear hlf;rintro e W1 ⟨rfl,b1⟩;have HB1:=hIz b1;obtain⟨q4,hrg⟩:=SR.out W1 b1;have hcon:=GQ W1 r HR.out i j hi6 hj6;clear b1 q0;unfold wdV at hcon;go_upto_region 8 with (fail);go_wp2_with (first | (refine wpList_load_mid rfl 168 _ rfl lg 0 rfl (wdC r) (.array 64 166) hrg Tryz.underlying168 rfl hsz ?_) | fail);refine hcon.mono ?_;clear hcon q4 hrg SR hsz;rintro e W2 ⟨rfl,b2⟩;have FIN:=hIz (tHn HB1.out b2);clear b2;go_wp2;refine bodyPost_ret (v:=.tuple #[.bool (pY r i j),.int .i64 0]) (by simp[results,Tryz.f73,go_sem]) rfl ⟨rfl,FIN.out⟩
open Go.RowKit
def kP(i j:Nat):List Nat:=cF.set i (2 ^ j)
theorem gP:cF.length=64:=by simp[cF]
theorem kQ:Wd cF:=⟨gP,fun x hx=>by
 unfold cF at hx;rw[List.eq_of_mem_replicate hx];decide⟩
theorem iM{i:Nat}(hi:i<64):cF[i]?=some 0:=by unfold cF;rw[List.getElem?_replicate,if_pos hi]
theorem CD{j:Nat}(hj:j<64):2 ^ j<18446744073709551616:=Nat.pow_lt_pow_right (a:=2) (by decide) hj
theorem CE{i j:Nat}(hj:j<64):Wd (kP i j):=⟨by simp[kP,gP],fun x hx=>by
 rcases List.mem_or_eq_of_mem_set hx with h|rfl
 ·exact kQ.fit x h
 ·exact CD hj⟩
theorem LW(w:World)(g0 i j:Nat)(hi:i<64)(hj:j<64)(hr:Blk w g0 83 #[.int .i64 (i:Int),.int .i64 (j:Int)]):Calls Tryz.prog 105 #[.slice (some ⟨g0,0,none⟩) 1 1] w (Sam w (.tuple #[wdV (kP i j),.int .i64 0])):=by
 have k0:=(Blk.new w 168 Z64).alloc (.cells Z64 168);have k1:=Blk.new (w.alloc (.cells Z64 168)) 168 Z64;simp only[World.size_alloc] at k1
 have u0:Below w.heap.size w ((w.alloc (.cells Z64 168)).alloc (.cells Z64 168)):=by(repeat (first | exact Below.refl _ _ | apply Below.drew | refine Below.alloc ?_ (by first | exact Nat.le_refl _ | (simp;done) | (simp;omega)) _ | refine Below.setCell ?_ (by first | exact Nat.le_refl _ | (simp;done) | (simp;omega)) _))
 have H:=aI4 (hr.upd (upF u0) id) (gM.mp k0) (gM.mp k1) u0;have hg0:=hr.lt;clear k0 k1 u0 hr;go_enter Tryz.func105,Tryz.ntmps105;go_upto_region 2 with (fail);generalize (w.alloc (.cells Z64 168)).alloc (.cells Z64 168)=W0 at H ⊢;go_wp2_with fail;go_loopw [9] (fun t wr=>∃k:Nat,k≤1∧t=.int .i64 k∧Hid (Blk wr g0 83 #[.int .i64 (i:Int),.int .i64 (j:Int)])∧Hid (Blk wr w.heap.size 168 (wdC cF).toArray)∧Hid (Blk wr (w.heap.size+1) 168 (wdC (if k=0 then cF else kP i j)).toArray)∧Hid (Below w.heap.size w wr)) (fun t _=>1-(intOf t).toNat)
 case atStart=>exact⟨0,Nat.zero_le _,rfl,hIz H.out.1,hIz H.out.2.1,hIz H.out.2.2.1,hIz H.out.2.2.2⟩
 case round =>
  obtain⟨k,hk,rfl,hC,hZ,hB,hbw⟩:=hrel;by_cases hlt:k<1
  ·obtain rfl:k=0:=by omega
   have q0:wr.cell? ⟨g0,0,none⟩=some (.int .i64 (i:Int)):=hC.out.cell 0;have q1:wr.cell? ⟨g0,1,none⟩=some (.int .i64 (j:Int)):=hC.out.cell 1;have k5:=Blk.new wr 83 #[.int .i64 (i:Int),.int .i64 (j:Int)];have b5:Below wr.heap.size wr (wr.alloc (.cells #[.int .i64 (i:Int),.int .i64 (j:Int)] 83)):=bR.alloc (Nat.le_refl _) _;have H5:=aI5 k5 (hC.out.alloc (.cells #[.int .i64 (i:Int),.int .i64 (j:Int)] 83)) (hZ.out.alloc (.cells #[.int .i64 (i:Int),.int .i64 (j:Int)] 83)) (hB.out.alloc (.cells #[.int .i64 (i:Int),.int .i64 (j:Int)] 83)) (tHn hbw.out b5);have hlw:w.heap.size+1<wr.heap.size:=hB.out.lt;clear k5 b5 hC hZ hB hbw;go_upto_region 5 with (fail);generalize wr.alloc (.cells #[.int .i64 (i:Int),.int .i64 (j:Int)] 83)=W5 at H5 ⊢;clear q0 q1;have q0:W5.cell? ⟨wr.heap.size,0,none⟩=some (.int .i64 (i:Int)):=H5.out.1.cell 0;have q1:W5.cell? ⟨wr.heap.size,1,none⟩=some (.int .i64 (j:Int)):=H5.out.1.cell 1;go_wp2_with fail;refine(kO i hi W5).mono ?_;rintro e w' ⟨rfl,hw⟩;subst w';go_wp2_with fail;refine(kO j hj W5).mono ?_;rintro e w' ⟨rfl,hw⟩;subst w';go_upto_region 7 with (fail);have kB:Blk W5 (w.heap.size+1) 168 (wdC cF).toArray:=H5.out.2.2.2.1;have c3:W5.drew.cell? ⟨w.heap.size+1,i,none⟩=some (.int .u64 0):=(kB.drew.cell i).trans (by simpa using jC (iM hi));have f3:W5.drew.frozen? ⟨w.heap.size+1,i,none⟩=false:=kB.drew.frozen i;have hS:W5.drew.cell? ⟨wr.heap.size,0,none⟩=some (.int .i64 (i:Int))∧W5.drew.cell? ⟨wr.heap.size,1,none⟩=some (.int .i64 (j:Int))∧W5.drew.cell? ⟨w.heap.size+1,i,none⟩=some (.int .u64 0):=⟨q0,q1,c3⟩
   have hiI:(i:Int)<(64:Int):=by omega
   have hj0:¬((j:Int)<0):=by omega
   have HK:=hIz kB;clear q0 q1 kB;obtain⟨q,hq⟩:∃q:Nat,2 ^ j=q:=⟨_,rfl⟩;have hq64:q<18446744073709551616:=by rw[← hq];exact CD hj
   have hqi:((q:Nat):Int)=(2:Int) ^ j:=by rw[← hq,Int.natCast_pow];rfl
   have hwp:IntKind.u64.wrap ((2:Int) ^ j)=(q:Int):=by
    rw[← hqi,IntKind.wrap_u64];omega
   have hor:=bits_or_u64_nat 0 q (by decide) hq64;rw[Nat.zero_or] at hor;have hor:bits .or .u64 0 (q:Int)=(q:Int):=hor;clear hqi hq64;have HQ:=hIz hq;clear hq;refine aE (fun W=>W.cell? ⟨wr.heap.size,0,none⟩=some (.int .i64 (i:Int))∧W.cell? ⟨wr.heap.size,1,none⟩=some (.int .i64 (j:Int))∧W.cell? ⟨w.heap.size+1,i,none⟩=some (.int .u64 0)) 9 [(0,true),(1,true),(2,true),(3,true),(4,true),(5,true),(6,true),(7,true),(8,true),(9,false)] hS ?_
   iterate 9 refine aB rfl ?_
   refine aN rfl rfl (fun K hK=>?_);obtain⟨z0,z1,z2⟩:=hS;go_simp;refine hK _ _ (fun h=>absurd rfl h) ?_;clear hK K z0 z1 z2 f3 c3;(try simp only[Act.put,gA,gS,gZ,sA,sZ,sS])
   refine aF ?_;have us:Upd (fun k=>k=w.heap.size+1) W5 ((W5.setCell ⟨w.heap.size+1,i,none⟩ (.int .u64 (q:Int))).drew):=((Upd.refl (fun k=>k=w.heap.size+1) W5).setCell (p:=⟨w.heap.size+1,i,none⟩) (.inl rfl) _).drew;have HN:=hIz (show Blk ((W5.setCell ⟨w.heap.size+1,i,none⟩ (.int .u64 (q:Int))).drew) g0 83 #[.int .i64 (i:Int),.int .i64 (j:Int)]∧Blk ((W5.setCell ⟨w.heap.size+1,i,none⟩ (.int .u64 (q:Int))).drew) w.heap.size 168 (wdC cF).toArray∧Blk ((W5.setCell ⟨w.heap.size+1,i,none⟩ (.int .u64 (q:Int))).drew) (w.heap.size+1) 168 (wdC (kP i j)).toArray∧Below w.heap.size w ((W5.setCell ⟨w.heap.size+1,i,none⟩ (.int .u64 (q:Int))).drew) from by
    refine⟨H5.out.2.1.upd us (by omega),H5.out.2.2.1.upd us (by omega),?_,H5.out.2.2.2.2.trans (us.below (fun k _ e=>by omega) (by have:=H5.out.2.2.2.2.size;exact this))⟩;have:=(HK.out.set i (.int .u64 (q:Int))).drew;rw[vW] at this;unfold kP;rw[HQ.out];exact this)
   clear us H5 HK;generalize (W5.setCell ⟨w.heap.size+1,i,none⟩ (.int .u64 (q:Int))).drew=W6 at HN ⊢;go_wp2;go_roundw
   case rel=>exact⟨1,by decide,by go_num,hIz HN.out.1,hIz HN.out.2.1,hIz HN.out.2.2.1,hIz HN.out.2.2.2⟩
   case measure=>simp[intOf]
  ·obtain rfl:k=1:=by omega
   have hB2:Blk wr (w.heap.size+1) 168 (wdC (kP i j)).toArray:=hB.out;have hz:=CE (i:=i) hj;obtain⟨r,hrr⟩:∃r,kP i j=r:=⟨_,rfl⟩;rw[hrr] at hB2 hz;have HRR:=hIz hrr;clear hrr;have hrg:=fR hB2;have hsz:=fS hz;have hth:wr.there w.heap.size 0 (wdC r).toArray.size:=kL hZ.out (by simp[gD,hz.len,cF]);have hsz2:(Tryz.prog.info? 168).map (·.size)=some (wdC r).toArray.size:=by simpa using hsz
   have h1c:(wdC r).toArray.all (·.oneCell')=true:=all_oneCell_toArray (pX _);have FIN:=hIz (show Below w.heap.size w (wr.setCells w.heap.size 0 (wdC r))∧(wr.setCells w.heap.size 0 (wdC r)).rangeAt w.heap.size 0 (wdC r) from⟨hbw.out.trans ((Upd.setCells (F:=fun q=>q=w.heap.size) (.inl rfl) _ _ (Upd.refl _ _)).below (fun q _ e=>by omega) hbw.out.size),World.rangeAt_setCells_same _ _ _ _ (by simpa using hth)⟩);clear hC hZ hB hbw hB2;unfold wdV;go_upto_region 9 with (fail);go_wp2_with (first | (refine wpList_load_mid rfl 168 _ rfl (w.heap.size+1) 0 rfl (wdC r) (.array 64 166) hrg Tryz.underlying168 rfl hsz ?_) | (refine wpList_store_mid rfl 168 _ _ rfl w.heap.size 0 (wdC r).toArray rfl rfl hth hsz2 h1c ?_));have hlv:=run_loadVar_mid (P:=Tryz.prog) _ w.heap.size 0 168 (wdC r) (.array 64 166) FIN.out.2 Tryz.underlying168 rfl hsz;refine bodyPost_ret (v:=.tuple #[.agg (wdC r).toArray,.int .i64 0]) (by simp[results,Tryz.f105,Act.put,asAddr,hlv,Result.andThen,Sem.run_bind]) rfl ⟨by rw[HRR.out];rfl,FIN.out.1⟩
open Go.RowKit
theorem CF(W:World){r:List Nat}{i x:Nat}(h:r[i]?=some x):(part 166 (wdC r).toArray (i*1)).run Tryz.prog W=.ok (.int .u64 (x:Int)) W:=by
 have h2:=jC h;simp[part,isAgg,run_underlying Tryz.underlying166,h2]
theorem pZ(W:World)(d:Nat){r s:List Nat}(hr:r.length=64)(hs:s.length=64):∀(is:List Nat),(∀i∈is,i<64)→(Op.eqItems (d+1) 166 1 (wdC r).toArray (wdC s).toArray is).run Tryz.prog W=.ok (decide (∀i∈is,r[i]?=s[i]?)) W
 | [],_=>by simp[Op.eqItems]
 | i::is,hi=>by
  have hi0:=hi i (by simp);obtain⟨x,hx⟩:∃x,r[i]?=some x:=⟨r[i]'(by omega),gEz _⟩;obtain⟨y,hy⟩:∃x,s[i]?=some x:=⟨s[i]'(by omega),gEz _⟩;have h9:=run_equalIn_int (P:=Tryz.prog) W d 166 .u64 .u64 (x:Int) (y:Int) Tryz.underlying166;have ih:=pZ W d hr hs is (fun j hj=>hi j (by simp[hj]));simp only[Op.eqItems,Sem.run_bind,CF W hx,CF W hy,Result.andThen_ok,h9]
  by_cases hxy:x=y
  ·subst hxy;simp only[beq_self_eq_true,Bool.not_true,Bool.false_eq_true,if_false]
   rw[ih];simp[hx,hy]
  ·have:((x:Int)==(y:Int))=false:=beq_eq_false_iff_ne.2 (fun e=>hxy (by omega));rw[this];simp[hx,hy,hxy]
theorem OB{r s:List Nat}(hr:r.length=64)(hs:s.length=64):decide (∀i∈List.range 64,r[i]?=s[i]?)=decide (r=s):=by
 rw[Bool.eq_iff_iff,decide_eq_true_iff,decide_eq_true_iff];constructor
 ·intro h;apply List.ext_getElem?
  intro i;by_cases hi:i<64
  ·exact h i (List.mem_range.2 hi)
  ·rw[List.getElem?_eq_none (by omega),List.getElem?_eq_none (by omega)]
 ·rintro rfl i _;rfl
theorem GW:(Tryz.prog.info? 166).isSome=true:=by kernel_rfl
theorem CH:Tryz.prog.cellsOf 166=1:=by kernel_rfl
theorem LX(W:World){r s:List Nat}(hr:Wd r)(hs:Wd s):(binOp .eql 168 (.agg (wdC r).toArray) (.agg (wdC s).toArray)).run Tryz.prog W=.ok (.bool (decide (r=s))) W:=by
 obtain⟨i0,hi0⟩:=Option.isSome_iff_exists.1 GW;have e:(Op.equal 168 (.agg (wdC r).toArray) (.agg (wdC s).toArray)).run Tryz.prog W=.ok (decide (r=s)) W:=by
  show(Op.equalIn (9999+1) _ _ _).run _ _=_
  rw[run_equalIn_array (P:=Tryz.prog) W 9999 _ _ Tryz.underlying168 hi0,CH];rw[pZ W 9998 hr.len hs.len _ (fun i hi=>List.mem_range.1 hi),OB hr.len hs.len]
 simp only[binOp]
 simp[e]
open Go.RowKit
structure QuX(w:World)(O:Nat→Option QRo)(p side dep cnt np:Nat)(xs:List Value)(nl:Nat)(ls:List Value)(pv lv:Value):Prop where
 blk:Blk w p 179 #[.int .i64 (side:Int),.int .i64 (dep:Int),.int .i64 (cnt:Int),pv,lv]
 rp:w.ownsRow 0 225 4 pv np xs
 rl:w.ownsRow 0 168 64 lv nl ls
 op:O p=some .p
 oa:∀k,pv.ownBlock=some k→O k=some .a
 ol:∀k,lv.ownBlock=some k→O k=some .l
 lt:∀k,O k≠none→k<w.heap.size
theorem QuI.x{w:World}{O:Nat→Option QRo}{p side dep cnt m:Nat}{last:Int}{L:List (List Nat)}{pv lv:Value}(h:QuI w O p side dep cnt m last L pv lv):QuX w O p side dep cnt (m+1) (qsC m last) L.length (lfC L) pv lv:=⟨h.blk,h.rp,h.rl,h.op,h.oa,h.ol,h.lt⟩
theorem QuX.i{w:World}{O:Nat→Option QRo}{p side dep cnt m:Nat}{last:Int}{L:List (List Nat)}{pv lv:Value}(h:QuX w O p side dep cnt (m+1) (qsC m last) L.length (lfC L) pv lv):QuI w O p side dep cnt m last L pv lv:=⟨h.blk,h.rp,h.rl,h.op,h.oa,h.ol,h.lt⟩
theorem QuX.upd{w w':World}{O:Nat→Option QRo}{p side dep cnt np nl:Nat}{xs ls:List Value}{pv lv:Value}{G:Nat→Prop}(h:QuX w O p side dep cnt np xs nl ls pv lv)(hu:Upd G w w')(hd:∀k,O k≠none→¬G k):QuX w' O p side dep cnt np xs nl ls pv lv:=by
 have no:∀k t,O k=some t→¬G k:=fun k t e=>hd k (by simp[e])
 exact⟨h.blk.upd hu (no _ _ h.op),aA h.rp hu fun k hk=>no _ _ (h.oa k hk),aA h.rl hu fun k hk=>no _ _ (h.ol k hk),h.op,h.oa,h.ol,fun k hk=>Nat.lt_of_lt_of_le (h.lt k hk) hu.size⟩
theorem QuX.below{w w':World}{O:Nat→Option QRo}{p side dep cnt np nl:Nat}{xs ls:List Value}{pv lv:Value}(h:QuX w O p side dep cnt np xs nl ls pv lv)(hb:Below w.heap.size w w'):QuX w' O p side dep cnt np xs nl ls pv lv:=h.upd (upF hb) (fun _ _=>id)
theorem vX(m:Nat)(last:Int):(qsC m last).length=(m+1)*4:=by
 unfold qsC;rw[List.length_append,dS _ 4 (fun _=>rfl),List.length_range];show m*4+4=_
 omega
theorem GY(m:Nat):(qsC m 0++gR 0).set (m*4) (.int .i64 ((m:Int)+2))=qsC (m+1) 0:=by
 have hl:((List.range m).flatMap fun (i:Nat)=>gR ((i:Int)+2)).length=m*4:=by rw[dS _ 4 (fun _=>rfl),List.length_range]
 unfold qsC;rw[List.append_assoc,List.set_append_right _ _ (by omega),hl,Nat.sub_self,List.range_succ,List.flatMap_append,List.flatMap_cons,List.flatMap_nil,List.append_nil,List.append_assoc];rfl
theorem LY(m:Nat):(qsC m 0).set (m*4) (.int .i64 1)=qsC m 1:=by
 have hl:((List.range m).flatMap fun (i:Nat)=>gR ((i:Int)+2)).length=m*4:=by rw[dS _ 4 (fun _=>rfl),List.length_range]
 unfold qsC;rw[List.set_append_right _ _ (by omega),hl,Nat.sub_self];rfl
theorem QuX.pushP{w w1:World}{O:Nat→Option QRo}{p side dep cnt np nl:Nat}{xs ls:List Value}{pv lv:Value}(h:QuX w O p side dep cnt np xs nl ls pv lv){nv:Value}{n':Nat}{ys:List Value}(own:w1.ownsRow 0 225 4 nv n' ys)(u:Upd (fun k=>pv.ownBlock=some k) w w1)
  (pl:∀k,nv.ownBlock=some k→pv.ownBlock=some k∨w.heap.size≤k):∃O',QuX (w1.setCell ⟨p,3,none⟩ nv) O' p side dep cnt n' ys nl ls nv lv∧(∀k,O' k≠none→O k≠none∨w.heap.size≤k)∧Upd (fun k=>O k≠none) w (w1.setCell ⟨p,3,none⟩ nv):=by
 have us:=(Upd.refl (fun k=>k=p) w1).setCell (p:=⟨p,3,none⟩) (.inl rfl) nv;have fresh:∀k,w.heap.size≤k→O k=none:=fun k hk=>by
  cases e:O k with
  | none=>rfl
  | some t=>have:=h.lt k (by simp[e]);omega
 have hn:∀k,nv.ownBlock=some k→O k=some .a∨O k=none:=fun k hk=>by
  rcases pl k hk with h1|h1
  ·exact .inl (h.oa k h1)
  ·exact .inr (fresh k h1)
 have keep:∀k t,O k=some t→(t=QRo.a→False)→(if nv.ownBlock=some k then some QRo.a else O k)=some t:=fun k t e ht=>by
  rw[if_neg,e];intro hk;rcases hn k hk with h1|h1
  ·rw[h1] at e;injection e with e;exact ht e.symm
  ·rw[h1] at e;cases e
 have bp:¬pv.ownBlock=some p:=fun e=>by have:=h.oa _ e;rw[h.op] at this;cases this
 have np':∀k,nv.ownBlock=some k→¬k=p:=fun k hk e=>by
  subst e;rcases hn k hk with h1|h1
  ·rw[h.op] at h1;cases h1
  ·rw[h.op] at h1;cases h1
 refine⟨fun k=>if nv.ownBlock=some k then some QRo.a else O k,?_,fun k hk=>?_,?_⟩
 ·constructor
  case blk=>exact(h.blk.upd u bp).set 3 nv
  case rp=>exact aA own us np'
  case rl=>exact aA (aA h.rl u fun k hk e=>(by have:=h.ol k hk;rw[h.oa k e] at this;cases this)) us fun k hk e=>(by have:=h.ol k hk;rw[e,h.op] at this;cases this)
  case op=>exact keep _ _ h.op nofun
  case oa=>exact fun k hk=>if_pos hk
  case ol=>exact fun k hk=>keep _ _ (h.ol k hk) nofun
  case lt =>
   intro k hk;(try dsimp only at hk)
   by_cases h1:nv.ownBlock=some k
   ·exact Nat.lt_of_lt_of_le (own.lt k h1).2 us.size
   ·rw[if_neg h1] at hk;exact Nat.lt_of_lt_of_le (h.lt k hk) (Nat.le_trans u.size us.size)
 ·(try dsimp only at hk)
  by_cases h1:nv.ownBlock=some k
  ·rcases pl k h1 with h2|h2
   ·exact .inl (by rw[h.oa k h2];nofun)
   ·exact .inr h2
  ·rw[if_neg h1] at hk;exact .inl hk
 ·exact(u.mono (fun k _ hk=>by rw[h.oa k hk];nofun)).trans us (fun k hk=>.inl (by rw[hk,h.op];nofun))
theorem QuX.pushL{w w1:World}{O:Nat→Option QRo}{p side dep cnt np nl:Nat}{xs ls:List Value}{pv lv:Value}(h:QuX w O p side dep cnt np xs nl ls pv lv){nv:Value}{n':Nat}{ys:List Value}(own:w1.ownsRow 0 168 64 nv n' ys)(u:Upd (fun k=>lv.ownBlock=some k) w w1)
  (pl:∀k,nv.ownBlock=some k→lv.ownBlock=some k∨w.heap.size≤k):∃O',QuX (w1.setCell ⟨p,4,none⟩ nv) O' p side dep cnt np xs n' ys pv nv∧(∀k,O' k≠none→O k≠none∨w.heap.size≤k)∧Upd (fun k=>O k≠none) w (w1.setCell ⟨p,4,none⟩ nv):=by
 have us:=(Upd.refl (fun k=>k=p) w1).setCell (p:=⟨p,4,none⟩) (.inl rfl) nv;have fresh:∀k,w.heap.size≤k→O k=none:=fun k hk=>by
  cases e:O k with
  | none=>rfl
  | some t=>have:=h.lt k (by simp[e]);omega
 have hn:∀k,nv.ownBlock=some k→O k=some .l∨O k=none:=fun k hk=>by
  rcases pl k hk with h1|h1
  ·exact .inl (h.ol k h1)
  ·exact .inr (fresh k h1)
 have keep:∀k t,O k=some t→(t=QRo.l→False)→(if nv.ownBlock=some k then some QRo.l else O k)=some t:=fun k t e ht=>by
  rw[if_neg,e];intro hk;rcases hn k hk with h1|h1
  ·rw[h1] at e;injection e with e;exact ht e.symm
  ·rw[h1] at e;cases e
 have bp:¬lv.ownBlock=some p:=fun e=>by have:=h.ol _ e;rw[h.op] at this;cases this
 have np':∀k,nv.ownBlock=some k→¬k=p:=fun k hk e=>by
  subst e;rcases hn k hk with h1|h1
  ·rw[h.op] at h1;cases h1
  ·rw[h.op] at h1;cases h1
 refine⟨fun k=>if nv.ownBlock=some k then some QRo.l else O k,?_,fun k hk=>?_,?_⟩
 ·constructor
  case blk=>exact(h.blk.upd u bp).set 4 nv
  case rl=>exact aA own us np'
  case rp=>exact aA (aA h.rp u fun k hk e=>(by have:=h.oa k hk;rw[h.ol k e] at this;cases this)) us fun k hk e=>(by have:=h.oa k hk;rw[e,h.op] at this;cases this)
  case op=>exact keep _ _ h.op nofun
  case ol=>exact fun k hk=>if_pos hk
  case oa=>exact fun k hk=>keep _ _ (h.oa k hk) nofun
  case lt =>
   intro k hk;(try dsimp only at hk)
   by_cases h1:nv.ownBlock=some k
   ·exact Nat.lt_of_lt_of_le (own.lt k h1).2 us.size
   ·rw[if_neg h1] at hk;exact Nat.lt_of_lt_of_le (h.lt k hk) (Nat.le_trans u.size us.size)
 ·(try dsimp only at hk)
  by_cases h1:nv.ownBlock=some k
  ·rcases pl k h1 with h2|h2
   ·exact .inl (by rw[h.ol k h2];nofun)
   ·exact .inr h2
  ·rw[if_neg h1] at hk;exact .inl hk
 ·exact(u.mono (fun k _ hk=>by rw[h.ol k hk];nofun)).trans us (fun k hk=>.inl (by rw[hk,h.op];nofun))
theorem QuX.setP{w:World}{O:Nat→Option QRo}{p side dep cnt np nl g cap:Nat}{xs ls:List Value}{lv:Value}(h:QuX w O p side dep cnt np xs nl ls (.slice (some ⟨g,0,none⟩) np cap) lv){i:Nat}(hi:i<np*4)(u:Value) :
  QuX (w.setCell ⟨g,i,none⟩ u) O p side dep cnt np (xs.set i u) nl ls (.slice (some ⟨g,0,none⟩) np cap) lv∧Upd (fun k=>O k≠none) w (w.setCell ⟨g,i,none⟩ u):=by
 have us:=(Upd.refl (fun k=>k=g) w).setCell (p:=⟨g,i,none⟩) (.inl rfl) u;have hg:O g=some .a:=h.oa g rfl;refine⟨?_,us.mono (fun k _ e=>by rw[e,hg];nofun)⟩;constructor
 case blk=>exact h.blk.upd us (fun e=>by have:=hg;rw[← e,h.op] at this;cases this)
 case rp=>exact bL h.rp hi u
 case rl=>exact aA h.rl us fun k hk e=>(by have:=h.ol k hk;rw[e,hg] at this;cases this)
 case op=>exact h.op
 case oa=>exact h.oa
 case ol=>exact h.ol
 case lt=>exact fun k hk=>Nat.lt_of_lt_of_le (h.lt k hk) us.size
open Go.RowKit
def CI(w:World)(O:Nat→Option QRo)(p side dep cnt:Nat)(r:List Nat)(e:Ending)(w':World):Prop:=
 e=.returned (.int .i64 0)∧∃O' pv' lv',QuI w' O' p side dep cnt (dep-1) 1 [r] pv' lv'∧Upd (fun k=>O k≠none) w w'∧∀k,O' k≠none→O k≠none∨w.heap.size≤k
theorem QuX.cellP{w:World}{O:Nat→Option QRo}{p side dep cnt np nl pg pc:Nat}{xs ls:List Value}{lv:Value}(h:QuX w O p side dep cnt np xs nl ls (.slice (some ⟨pg,0,none⟩) np pc) lv)(hn:0<np){i:Nat}{v:Value}(hi:xs[i]?=some v):w.cell? ⟨pg,i,none⟩=some v∧w.frozen? ⟨pg,i,none⟩=false:=by
 obtain⟨g',c',e',-,-,-,-,hc'⟩:=bC h.rp hn;injection e' with e';injection e' with e';injection e' with e';subst e';exact hc' i v hi
theorem CJ(w:World)(O:Nat→Option QRo)(p side dep cnt m:Nat)(r:List Nat)(pv lv:Value)(h:QuI w O p side dep cnt m 1 [r] pv lv)(hd:m+1=dep)(hd4:dep≤4) :
  Calls Tryz.prog 144 #[.pointer (some ⟨p,0,none⟩),.int .i64 0,.int .i64 0] w (CI w O p side dep cnt r):=by
 have hx:=h.x;have q1:w.cell? ⟨p,1,none⟩=some (.int .i64 (dep:Int)):=h.blk.cell 1;obtain⟨pg,pc,e,-,-,-,-,-⟩:=bC h.rp (by omega);subst e;have SR:=hIz (show ∀W,Below w.heap.size w W→∀k,k≤m→W.cell? ⟨p,3,none⟩=some (.slice (some ⟨pg,0,none⟩) (m+1) pc)∧W.cell? ⟨pg,k*4,none⟩=some (.int .i64 (if k<m then (k:Int)+2 else 1)) from fun W hb k hk=>by
  have hi:=hx.below hb;refine⟨hi.blk.cell 3,?_⟩;by_cases hkm:k<m
  ·rw[if_pos hkm];exact(hi.cellP (by omega) (CB hkm)).1
  ·obtain rfl:k=m:=by omega
   rw[if_neg hkm];exact(hi.cellP (by omega) gY).1)
 have HP:=hIz (show ∀W,Below w.heap.size w W→CI w O p side dep cnt r (.returned (.int .i64 0)) W from fun W hb=>⟨rfl,O,_,_,by
  have hm:dep-1=m:=by omega
  rw[hm];exact(hx.below hb).i,Upd.of_below hb _,fun _ hk=>.inl hk⟩)
 obtain⟨n,hn⟩:∃n,m+1=n:=⟨_,rfl⟩;rw[hn] at SR;have hw1:IntKind.i64.wrap ((dep:Int)-1)=(dep:Int)-1:=by rw[IntKind.wrap_i64];omega
 have hdm:(dep:Int)-1=(m:Int):=by omega
 rw[hdm] at hw1;have hw1:IntKind.i64.wrap ((dep:Int)-1)=(m:Int):=by rw[hdm];exact hw1
 clear h hx;go_enter Tryz.func144,Tryz.ntmps144;go_wp2_with fail;clear q1;go_loopw [7,8] (fun a l wr=>∃k:Nat,k≤m∧a=.int .i64 k∧l=.int .i64 ((m:Int)-k)∧Hid (Below w.heap.size w wr)) (fun _ l _=>(intOf l).toNat)
 case atStart=>exact⟨0,Nat.zero_le _,rfl,by simp,hIz bR⟩
 case round =>
  obtain⟨k,hk,rfl,rfl,hb⟩:=hrel;obtain⟨l,hl0⟩:∃l:Nat,(m:Int)-(k:Int)=(l:Int):=⟨m-k,by omega⟩;rw[hl0];have hl10:l≤10:=by omega
  have hkn:(k:Int)<(n:Int):=by omega
  have hwy:=oL l hl10 wr;by_cases hlt:k<m
  ·have hlp:0<l:=by omega
   go_wp2_with fail;refine hwy.mono ?_;clear hwy;rintro e V1 ⟨rfl,b1⟩;have HB1:=hIz (tHn hb.out b1);obtain⟨q3,qk⟩:=SR.out V1 HB1.out k hk;rw[if_pos hlt] at qk;have z0:((k:Int)+2==0)=false:=by simp;omega
   have w0:IntKind.i64.wrap ((k:Int)+1)=(k:Int)+1:=IntWalk.i64_in _ (by omega);have w1:IntKind.i64.wrap ((l:Int)-1)=(l:Int)-1:=by rw[IntKind.wrap_i64];omega
   clear b1 hb;go_wp2;go_roundw
   case rel=>exact⟨k+1,by omega,by go_num,by congr 1;omega,HB1⟩
   case measure=>simp[intOf] <;> omega
  ·obtain rfl:k=m:=by omega
   obtain rfl:l=0:=by omega
   clear hwy;go_wp2_with fail;refine(oL 0 (by decide) wr).mono ?_;rintro e V1 ⟨rfl,b1⟩;have HB1:=hIz (tHn hb.out b1);obtain⟨q3,qk⟩:=SR.out V1 HB1.out k hk;rw[if_neg hlt] at qk;clear b1 hb;have FIN:=hIz (HP.out V1 HB1.out);go_wp2;go_ret;exact FIN.out
open Go.RowKit
theorem GZ:(Tryz.prog.info? 168).map (fun i=>(i.zero,i.size,i.bytes))=some (some (.agg Z64),64,512):=by kernel_rfl
theorem HJ(x:Int):∀u∈gR x,u.oneCell'=true:=fun u hu=>by
 simp only[gR,List.mem_cons,List.not_mem_nil,or_false] at hu
 rcases hu with rfl|rfl|rfl|rfl <;> rfl
theorem OC:(Z64:Array Value)=(wdC cF).toArray:=by kernel_rfl
theorem grow_empty(w:World)(O:Nat→Option QRo)(p side dep cnt:Nat)(pv lv:Value)(h:QuI w O p side dep cnt 0 0 [] pv lv)(hd:1≤dep)(hd4:dep≤4) :
  Calls Tryz.prog 144 #[.pointer (some ⟨p,0,none⟩),.int .i64 0,.int .i64 0] w (CI w O p side dep cnt cF):=by
 obtain⟨m,hm⟩:∃m,dep=m+1:=⟨dep-1,by omega⟩;subst hm;have q1:w.cell? ⟨p,1,none⟩=some (.int .i64 ((m+1:Nat):Int)):=h.blk.cell 1;have H0:=hIz h.x;have hw1:IntKind.i64.wrap (((m+1:Nat):Int)-1)=(m:Int):=by rw[IntKind.wrap_i64];omega
 generalize ((m+1:Nat):Int)=dI at q1 hw1;clear h;go_enter Tryz.func144,Tryz.ntmps144;go_wp2_with fail;clear q1;go_loopw [7,8] (fun a l wr=>∃k:Nat,k≤m∧a=.int .i64 k∧l=.int .i64 ((m:Int)-k)∧Hid (∃O1 pv1 lv1,QuX wr O1 p side (m+1) cnt (k+1) (qsC k 0) 0 [] pv1 lv1∧Upd (fun b=>O b≠none) w wr∧∀b,O1 b≠none→O b≠none∨w.heap.size≤b)) (fun _ l _=>(intOf l).toNat)
 case atStart=>exact⟨0,Nat.zero_le _,rfl,by simp,hIz ⟨O,pv,lv,H0.out,Upd.refl _ _,fun _ h=>.inl h⟩⟩
 case round =>
  obtain⟨k,hk,rfl,rfl,hq⟩:=hrel;obtain⟨l,hl0⟩:∃l:Nat,(m:Int)-(k:Int)=(l:Int):=⟨m-k,by omega⟩;rw[hl0];have hl10:l≤10:=by omega
  have hwy:=oL l hl10 wr;obtain⟨O1,pv1,lv1,hx1,hu1,hn1⟩:=hq.out;obtain⟨pg,pc,e,-,hpc,-,-,-⟩:=bC hx1.rp (by omega);subst e;have HX1:=aI3 hx1 hu1 hn1;obtain⟨n,hn⟩:∃n,k+1=n:=⟨_,rfl⟩;have hkn:(k:Int)<(n:Int):=by omega
  clear hq hx1 hu1 hn1;by_cases hlt:k<m
  ·have hlp:0<l:=by omega
   go_wp2_with fail;refine hwy.mono ?_;clear hwy;rintro e V1 ⟨rfl,b1⟩;have hx2:=HX1.out.1.below b1;have hu2:Upd (fun b=>O b≠none) w V1:=HX1.out.2.1.trans (upF b1) (fun _ h=>h.elim);have hsz:wr.heap.size≤V1.heap.size:=b1.size;have q3:V1.cell? ⟨p,3,none⟩=some (.slice (some ⟨pg,0,none⟩) n pc):=by rw[← hn];exact hx2.blk.cell 3
   have qk:V1.cell? ⟨pg,k*4,none⟩=some (.int .i64 0):=(hx2.cellP (by omega) gY).1;have f3:=hx2.blk.frozen 3;obtain⟨v2,W2,happ,own2,u2,p2⟩:=eV V1 0 176 225 4 32 _ Tryz.underlying176 tQ rfl (by decide) (.slice (some ⟨pg,0,none⟩) (k+1) pc) (k+1) _ hx2.rp (gR 0) 1 rfl (HJ 0) (by omega) (by unfold maxLen;omega) (Nat.zero_le _);obtain⟨A2,c2,rfl,-,-⟩:=aG own2;obtain⟨O2,hx3,hn3,hu3⟩:=hx2.pushP own2 u2 p2;have kb2:Blk W2 p 179 #[.int .i64 (side:Int),.int .i64 ((m+1:Nat):Int),.int .i64 (cnt:Int),.slice (some ⟨pg,0,none⟩) (k+1) pc,lv1]:=hx2.blk.upd u2 (fun e=>by have:=hx2.oa _ e;rw[hx2.op] at this;cases this);have r3:W2.cell? ⟨p,3,none⟩=some (.slice (some ⟨pg,0,none⟩) n pc):=by rw[← hn];exact kb2.cell 3
   have g3:W2.frozen? ⟨p,3,none⟩=false:=kb2.frozen 3;rw[hn] at happ;have HX3:=hIz (show QuX (W2.setCell ⟨p,3,none⟩ (.slice A2 (k+1+1) c2)) O2 p side (m+1) cnt (k+1+1) (qsC k 0++gR 0) 0 [] (.slice A2 (k+1+1) c2) lv1∧Upd (fun b=>O b≠none) w (W2.setCell ⟨p,3,none⟩ (.slice A2 (k+1+1) c2))∧∀b,O2 b≠none→O b≠none∨w.heap.size≤b from
    ⟨hx3,hu2.trans hu3 (fun b hb=>HX1.out.2.2 b hb),fun b hb=>by
     rcases hn3 b hb with h1|h1
     ·exact HX1.out.2.2 b h1
     ·have:=hu2.size;exact .inr (by omega)⟩)
   obtain⟨n2,hn2⟩:∃n2,k+1+1=n2:=⟨_,rfl⟩;rw[hn2] at HX3;have hn2':n+1=n2:=by omega
   rw[hn2'] at happ;have hfour:(gR 0).toArray=#[.int .i64 0,.int .i64 0,.int .i64 0,.int .i64 0]:=rfl;rw[hfour] at happ;clear hx2 hu2 own2 u2 p2 hx3 hn3 hu3 kb2 hfour f3;go_upto_region 8 with (first | (at_builtin;refine wpList_append_run rfl _ _ _ rfl rfl rfl happ ?_) | fail);generalize W2.setCell ⟨p,3,none⟩ (.slice A2 n2 c2)=W3 at HX3 ⊢;clear q3 qk r3 g3 happ;obtain⟨hx3,hu3,hn3⟩:=HX3.out;obtain⟨pg2,pc2,e2,-,-,-,-,-⟩:=bC hx3.rp (by omega);injection e2 with e2 e3 e4;subst e2;subst e4;clear e3;have hk4:(qsC k 0++gR 0)[k*4]?=some (.int .i64 0):=by rw[List.getElem?_append_left (by rw[vX];omega)];exact gY
   have c0:=hx3.cellP (by omega) hk4;have q3:W3.drew.cell? ⟨p,3,none⟩=some (.slice (some ⟨pg2,0,none⟩) n2 c2):=hx3.blk.cell 3;have qk:W3.drew.cell? ⟨pg2,k*4,none⟩=some (.int .i64 0):=c0.1;have fk:W3.drew.frozen? ⟨pg2,k*4,none⟩=false:=c0.2;obtain⟨hx4,hu4⟩:=hx3.setP (i:=k*4) (by omega) (.int .i64 ((k:Int)+2));have hst:=GY k;have hx4':QuX (W3.setCell ⟨pg2,k*4,none⟩ (.int .i64 ((k:Int)+2))).drew O2 p side (m+1) cnt (k+1+1) (qsC (k+1) 0) 0 [] (.slice (some ⟨pg2,0,none⟩) n2 c2) lv1:=by
    rw[hst] at hx4;rw[hn2];exact hx4.below bR.drew
   have HX4:=hIz (show QuX (W3.setCell ⟨pg2,k*4,none⟩ (.int .i64 ((k:Int)+2))).drew O2 p side (m+1) cnt (k+1+1) (qsC (k+1) 0) 0 [] (.slice (some ⟨pg2,0,none⟩) n2 c2) lv1∧Upd (fun b=>O b≠none) w (W3.setCell ⟨pg2,k*4,none⟩ (.int .i64 ((k:Int)+2))).drew∧∀b,O2 b≠none→O b≠none∨w.heap.size≤b from⟨hx4',(hu3.trans hu4 (fun b hb=>hn3 b hb)).drew,hn3⟩);have hn2I:=hIz (show((n2:Nat):Int)=(k:Int)+2 by omega);have hkn2:(k:Int)<(n2:Int):=by omega
   clear hx3 hu3 hn3 hx4 hu4 hst hx4' c0 hk4 HX3 hn2 hn2';refine aO (fun W=>W.cell? ⟨p,3,none⟩=some (.slice (some ⟨pg2,0,none⟩) n2 c2)) 13 [(0,true),(1,true),(2,true),(3,true),(4,true),(5,true),(6,true),(7,true),(8,true),(9,true),(10,true),(11,true),(12,true),(13,false)] (by kernel_rfl) (by kernel_rfl) (fun _ _ d _ _ h=>by cases d <;> exact h) q3 ?_
   iterate 13 refine aB rfl ?_
   refine aN rfl rfl (fun K hK=>?_);go_simp;rw[hn2I.out];refine hK _ _ (fun h=>absurd rfl h) ?_;clear hK K q3 qk fk;(try simp only[Act.put,gA,gS,gZ,sA,sZ,sS])
   refine aF ?_;generalize (W3.setCell ⟨pg2,k*4,none⟩ (.int .i64 ((k:Int)+2))).drew=W5 at HX4 ⊢;have q5:W5.cell? ⟨p,3,none⟩=some (.slice (some ⟨pg2,0,none⟩) n2 c2):=HX4.out.1.blk.cell 3;have q6:W5.cell? ⟨pg2,k*4,none⟩=some (.int .i64 ((k:Int)+2)):=by
    have h5:=HX4.out.1;have hn3:k+1+1=n2:=by have:=hn2I.out;omega
    rw[hn3] at h5;exact(h5.cellP (by omega) (CB (by omega))).1
   have w0:IntKind.i64.wrap ((k:Int)+1)=(k:Int)+1:=IntWalk.i64_in _ (by omega);have w1:IntKind.i64.wrap ((l:Int)-1)=(l:Int)-1:=by rw[IntKind.wrap_i64];omega
   go_wp2;go_roundw
   case rel=>exact⟨k+1,by omega,by go_num,by congr 1;omega,hIz ⟨O2,_,lv1,HX4.out.1,HX4.out.2.1,HX4.out.2.2⟩⟩
   case measure=>simp[intOf] <;> omega
  ·obtain rfl:k=m:=by omega
   obtain rfl:l=0:=by omega
   clear hwy;go_wp2_with fail;refine(oL 0 (by decide) wr).mono ?_;rintro e V1 ⟨rfl,b1⟩;have hx2:=HX1.out.1.below b1;have hu2:Upd (fun b=>O b≠none) w V1:=HX1.out.2.1.trans (upF b1) (fun _ h=>h.elim);have hsz:wr.heap.size≤V1.heap.size:=b1.size;have q3:V1.cell? ⟨p,3,none⟩=some (.slice (some ⟨pg,0,none⟩) n pc):=by rw[← hn];exact hx2.blk.cell 3
   have qk:V1.cell? ⟨pg,k*4,none⟩=some (.int .i64 0):=(hx2.cellP (by omega) gY).1;obtain⟨A1,c1,rfl,-,-⟩:=aG hx2.rl;have q4:V1.cell? ⟨p,4,none⟩=some (.slice A1 0 c1):=hx2.blk.cell 4;obtain⟨v2,W2,happ,own2,u2,p2⟩:=eV V1 0 177 168 64 512 _ Tryz.underlying177 GZ rfl (by decide) (.slice A1 0 c1) 0 _ hx2.rl (wdC cF) 1 (by simp[gD,gP]) (pX _) (by decide) (by decide) (Nat.zero_le _);rw[List.nil_append,Nat.zero_add] at own2;obtain⟨A2,c2,rfl,-,-⟩:=aG own2;obtain⟨O2,hx3,hn3,hu3⟩:=hx2.pushL own2 u2 p2;have kb2:Blk W2 p 179 #[.int .i64 (side:Int),.int .i64 ((k+1:Nat):Int),.int .i64 (cnt:Int),.slice (some ⟨pg,0,none⟩) (k+1) pc,.slice A1 0 c1]:=hx2.blk.upd u2 (fun e=>by have:=hx2.ol _ e;rw[hx2.op] at this;cases this);have r4:W2.cell? ⟨p,4,none⟩=some (.slice A1 0 c1):=kb2.cell 4;have g4:W2.frozen? ⟨p,4,none⟩=false:=kb2.frozen 4;rw[← OC] at happ;have HX3:=aI3 hx3 (hu2.trans hu3 (fun b hb=>HX1.out.2.2 b hb)) (show ∀b,O2 b≠none→O b≠none∨w.heap.size≤b from fun b hb=>by
     rcases hn3 b hb with h1|h1
     ·exact HX1.out.2.2 b h1
     ·have:=hu2.size;exact .inr (by omega))
   clear hx2 hu2 own2 u2 p2 hx3 hn3 hu3 kb2;go_upto_region 13 with (first | (at_builtin;refine wpList_append_run rfl _ _ _ rfl rfl rfl happ ?_) | fail);generalize W2.setCell ⟨p,4,none⟩ (.slice A2 1 c2)=W3 at HX3 ⊢;clear q3 qk q4 r4 g4 happ;obtain⟨hx3,hu3,hn3⟩:=HX3.out;have c0:=hx3.cellP (by omega) (gY (m:=k) (last:=0));have q3:W3.drew.cell? ⟨p,3,none⟩=some (.slice (some ⟨pg,0,none⟩) n pc):=by rw[← hn];exact hx3.blk.cell 3
   have q4:W3.drew.cell? ⟨p,4,none⟩=some (.slice A2 1 c2):=hx3.blk.cell 4;have qk:W3.drew.cell? ⟨pg,k*4,none⟩=some (.int .i64 0):=c0.1;have fk:W3.drew.frozen? ⟨pg,k*4,none⟩=false:=c0.2;obtain⟨hx4,hu4⟩:=hx3.setP (i:=k*4) (by omega) (.int .i64 1);rw[LY] at hx4;have HX4:=aI3 (hx4.below (show Below _ _ (W3.setCell ⟨pg,k*4,none⟩ (.int .i64 1)).drew from bR.drew)) ((hu3.trans hu4 (fun b hb=>hn3 b hb)).drew) hn3;have hS:W3.drew.cell? ⟨p,3,none⟩=some (.slice (some ⟨pg,0,none⟩) n pc)∧W3.drew.cell? ⟨p,4,none⟩=some (.slice A2 1 c2):=⟨q3,q4⟩;clear hx3 hu3 hn3 hx4 hu4 c0 HX3 q3 q4;refine aE (fun W=>W.cell? ⟨p,3,none⟩=some (.slice (some ⟨pg,0,none⟩) n pc)∧W.cell? ⟨p,4,none⟩=some (.slice A2 1 c2)) 13 [(0,true),(1,true),(2,true),(3,true),(4,true),(5,true),(6,true),(7,true),(8,true),(9,true),(10,true),(11,true),(12,true),(13,false)] hS ?_
   iterate 13 refine aB rfl ?_
   refine aN rfl rfl (fun K hK=>?_);go_simp;refine hK _ _ (fun h=>absurd rfl h) ?_;clear hK K hS qk fk;(try simp only[Act.put,gA,gS,gZ,sA,sZ,sS])
   refine aF ?_;generalize (W3.setCell ⟨pg,k*4,none⟩ (.int .i64 1)).drew=W5 at HX4 ⊢;have q5:W5.cell? ⟨p,3,none⟩=some (.slice (some ⟨pg,0,none⟩) n pc):=by rw[← hn];exact HX4.out.1.blk.cell 3
   have q6:W5.cell? ⟨pg,k*4,none⟩=some (.int .i64 1):=(HX4.out.1.cellP (by omega) gY).1;have FIN:=hIz (show CI w O p side (k+1) cnt cF (.returned (.int .i64 0)) W5 from⟨rfl,O2,_,_,by
    have h5:=HX4.out.1;have e:wdC cF=lfC [cF]:=by simp[lfC]
    rw[e] at h5;exact h5.i,HX4.out.2.1,HX4.out.2.2⟩)
   clear HX4;go_wp2;go_ret
   first | exact FIN.out | (rw[← hn];exact FIN.out)
open Go.RowKit
theorem rS(y:Nat):y % 2=(y.testBit 0).toNat:=by
 rw[Nat.testBit_zero];rcases Nat.mod_two_eq_zero_or_one y with h|h <;> simp[h]
theorem JX:∀(k o x n:Nat),(∀i,i<k→n.testBit i=!o.testBit i)→pcN k (o ||| x)=pcN k o+pcN k (x &&& n)
 | 0,_,_,_,_=>rfl
 | k+1,o,x,n,h=>by
  have ih:=JX k (o / 2) (x / 2) (n / 2) (fun i hi=>by
   have:=h (i+1) (by omega);rwa [Nat.testBit_succ,Nat.testBit_succ] at this)
  have h0:=h 0 (by omega);have e1:(o ||| x) / 2=o / 2 ||| x / 2:=Nat.or_div_two;have e2:(x &&& n) / 2=x / 2 &&& n / 2:=Nat.and_div_two;have m1:(o ||| x) % 2=o % 2+(x &&& n) % 2:=by
   rw[rS (o ||| x),rS o,rS (x &&& n),Nat.testBit_or,Nat.testBit_and,h0];cases o.testBit 0 <;> cases x.testBit 0 <;> rfl
  rw[pcN,pcN,pcN,e1,e2,ih,m1];omega
theorem LZ(o x:Nat)(ho:o<18446744073709551616):pcN 64 (orN o x)=pcN 64 o+pcN 64 (dK x o):=by
 refine JX 64 o x _ (fun i hi=>?_);have h:=Nat.testBit_two_pow_sub_succ (x:=o) (n:=64) ho i;have e:2 ^ 64-(o+1)=18446744073709551615-o:=by omega
 rw[e] at h;rw[h];simp[hi]
theorem CK:∀{o x:List Nat},(∀y∈o,y<18446744073709551616)→o.length=x.length→jL (List.zipWith orN o x)=jL o+jL (List.zipWith dK x o)
 | [],[],_,_=>rfl
 | [],_::_,_,h=>by simp at h
 | _::_,[],_,h=>by simp at h
 | a::o,b::x,hf,h=>by
  have ih:=CK (o:=o) (x:=x) (fun y hy=>hf y (by simp[hy])) (by simpa using h);have hp:=LZ a b (hf a (by simp));unfold jL at *;simp only[List.zipWith_cons_cons,List.map_cons,List.sum_cons]
  omega
theorem zG{w:World}{base e size n g cap:Nat}{xs ys:List Value}(h:w.ownsRow base e size (.slice (some ⟨g,0,none⟩) n cap) n xs)(hy:ys.length=n*size) :
  (w.setCells g 0 ys).ownsRow base e size (.slice (some ⟨g,0,none⟩) n cap) n ys:=by
 rcases h.2 with ⟨hv,-⟩|⟨g',cap',cur,hv,hb,hg,h1,h2,h3,h4⟩
 ·cases hv
 injection hv with hv _ hv3;injection hv with hv;injection hv with hv _ _;subst hv;subst hv3;have hle:n*size≤cap*size:=Nat.mul_le_mul_right _ h1;obtain⟨c',e1,e2,e3⟩:=dH g ys 0 w cur e hg (by omega);refine⟨hy,.inr ⟨g,cap,c',rfl,hb,e1,h1,h2,by rw[e2];exact h3,?_⟩⟩;rw[e3,List.take_zero,List.nil_append,← hy,List.take_left]
theorem QuX.setLeaf{w:World}{O:Nat→Option QRo}{p side dep cnt np g cap:Nat}{xs ls ys:List Value}{pv:Value}(h:QuX w O p side dep cnt np xs 1 ls pv (.slice (some ⟨g,0,none⟩) 1 cap))(hy:ys.length=64) :
  QuX (w.setCells g 0 ys) O p side dep cnt np xs 1 ys pv (.slice (some ⟨g,0,none⟩) 1 cap)∧Upd (fun k=>O k≠none) w (w.setCells g 0 ys):=by
 have us:=Upd.setCells (F:=fun k=>k=g) (a:=w) (b:=g) (.inl rfl) ys 0 (Upd.refl _ w);have hg:O g=some .l:=h.ol g rfl;refine⟨?_,us.mono (fun k _ e=>by rw[e,hg];nofun)⟩;constructor
 case blk=>exact h.blk.upd us (fun e=>by have:=hg;rw[← e,h.op] at this;cases this)
 case rl=>exact zG h.rl (by rw[hy])
 case rp=>exact aA h.rp us fun k hk e=>(by have:=h.oa k hk;rw[e,hg] at this;cases this)
 case op=>exact h.op
 case oa=>exact h.oa
 case ol=>exact h.ol
 case lt=>exact fun k hk=>Nat.lt_of_lt_of_le (h.lt k hk) us.size
open Go.RowKit
section
variable {P:Program} {ops:Array Oper} {Q:Exit→Act→World→Prop} {S:World→Prop} {n:Nat}
theorem kR{i:Nat}{r:List (Nat × Bool)}{a:Act}{w:World}{oi:Oper}(hi:ops[i]?=some oi)(hw:Region.wanted oi (yielded ops a.tmps)=true)(ty:TypeId)(x:Operand)(ho:oi.op=.load ty x)(b o:Nat)(hx:a.eval x=.pointer (some ⟨b,o,none⟩))(cs:List Value)(d:TypeDesc)(hS:∀w,S w→w.rangeAt b o cs)
  (hu:P.underlying ty=some d) (hd:d.isRow=true) (hz:(P.info? ty).map (·.size)=some cs.length) (h:fH P ops Q S n r (a.put oi.dst (.agg cs.toArray)) w):fH P ops Q S n ((i,true)::r) a w:=
 ⟨_,oi,hi,yieldsIf_load_mid hw ty x ho b o hx cs d hS hu hd hz,h⟩
end
def QTo(w:World)(F:Nat→Prop)(p side:Nat)(b:Option (List Nat))(w':World):Prop:=∃F',QuS w' F' p side b∧Upd F w w'∧∀k,F' k→F k∨w.heap.size≤k
def pI(b:Option (List Nat)):List Nat:=b.getD cF
theorem vY{side dep cnt m:Nat}{last:Int}{L:List (List Nat)}{b:Option (List Nat)}(ok:OA side dep cnt m last L b):Wd (pI b):=by
 cases b with
 | none=>exact kQ
 | some r=>exact(ok.is r rfl).2.2.2.2
theorem tR:jL cF=0:=by decide +kernel
theorem xN{side dep cnt m:Nat}{last:Int}{L:List (List Nat)}{b:Option (List Nat)}(ok:OA side dep cnt m last L b):cnt=jL (pI b):=by
 cases b with
 | none=>rw[(ok.no rfl).2.2.2];exact tR.symm
 | some r=>exact(ok.is r rfl).2.2.2.1
theorem IA(w:World)(O:Nat→Option QRo)(p side dep cnt m:Nat)(last:Int)(L:List (List Nat))(pv lv:Value)(b:Option (List Nat))(h:QuI w O p side dep cnt m last L pv lv)(ok:OA side dep cnt m last L b) :
  Calls Tryz.prog 144 #[.pointer (some ⟨p,0,none⟩),.int .i64 0,.int .i64 0] w (CI w O p side dep cnt (pI b)):=by
 cases b with
 | none =>
  obtain⟨rfl,rfl,rfl,-⟩:=ok.no rfl;exact grow_empty w O p side dep cnt pv lv h ok.d1 ok.d2
 | some r =>
  obtain⟨hm,rfl,rfl,-,-⟩:=ok.is r rfl;exact CJ w O p side dep cnt m r pv lv h hm ok.d2
theorem MA(w:World)(F:Nat→Prop)(p side:Nat)(b:Option (List Nat))(h:QuS w F p side b)(x:List Nat)(hx:Wd x)(hne:x≠cF) :
  Calls Tryz.prog 106 #[.pointer (some ⟨p,0,none⟩),.int .i64 0,.int .i64 0,wdV x] w (fun e w'=>e=.returned (.bool (decide (0<jL (List.zipWith dK x (pI b)))))∧QTo w F p side (some (List.zipWith orN (pI b) x)) w'):=by
 obtain⟨O,dep,cnt,m,last,L,pv,lv,hq,ok,rfl⟩:=h;have k0:=Blk.new w 168 (wdC x).toArray;have u0:Below w.heap.size w (w.alloc (.cells (wdC x).toArray 168)):=bR.alloc (Nat.le_refl _) _;have hq0:=hq.upd (upF u0) (fun _ _=>id);have hgrow:=IA _ O p side dep cnt m last L pv lv b hq0 ok;have hwo:=vY ok;have hcnt:=xN ok;have hrg:=fR k0;have hsz:=fS hx;have hcl:=CK hwo.fit (hwo.len.trans hx.len.symm);have hlb:=rQ (List.zipWith orN (pI b) x);rw[List.length_zipWith,hwo.len,hx.len] at hlb;obtain⟨o,ho⟩:∃o,pI b=o:=⟨_,rfl⟩;rw[ho] at hgrow hwo hcnt hcl hlb ⊢;have heq:∀W,(binOp .eql 168 (.agg (wdC x).toArray) (.agg Z64)).run Tryz.prog W=.ok (.bool false) W:=fun W=>by
  have h2:=LX W hx kQ;rw[decide_eq_false hne,← OC] at h2;exact h2
 have HK:=aI7 k0 u0 ok hx hwo hcnt hcl;have hOw:∀k,O k≠none→k<w.heap.size:=hq.lt;have HO:=hIz hOw;clear hq hq0 ok k0 u0 hne hx hwo hcnt hcl ho hOw;unfold wdV;go_enter Tryz.func106,Tryz.ntmps106;go_upto_region 1 with (fail);generalize w.alloc (.cells (wdC x).toArray 168)=W0 at HK hgrow hrg ⊢;go_wp2_with (first | (refine wpList_load_mid rfl 168 _ rfl w.heap.size 0 rfl (wdC x) (.array 64 166) hrg Tryz.underlying168 rfl hsz ?_) | fail);refine hgrow.mono ?_;clear hgrow hrg heq;rintro e W1 ⟨rfl,O1,pv1,lv1,hi1,hu1,hn1⟩;have hx1:=hi1.x;obtain⟨lg,lc,e1,-,-,-,-,-⟩:=bC hx1.rl (by simp);subst e1;have hgx:¬O w.heap.size≠none:=fun e=>by have:=HO.out _ e;omega
 have hbx:=HK.out.1.upd hu1 hgx;have H1:=aI4 hx1 hu1 hn1 hbx;have SR:=hIz (show ∀W,Below W1.heap.size W1 W→(fun W=>W.cell? ⟨p,4,none⟩=some (.slice (some ⟨lg,0,none⟩) 1 lc)∧W.rangeAt w.heap.size 0 (wdC x)∧W.rangeAt lg 0 (wdC o)) W from fun W hb=>by
  have hi:=hx1.below hb;refine⟨hi.blk.cell 4,fR (hbx.upd (upF hb) id),fun j u hj=>?_⟩;obtain⟨g',c',e',-,-,-,-,hc'⟩:=bC hi.rl (by simp);injection e' with e';injection e' with e';injection e' with e';subst e';rw[Nat.zero_add];exact(hc' j u (by simpa[lfC] using hj)).1)
 have hS:=SR.out W1.drew (Below.refl _ W1).drew;have hszo:=fS HK.out.2.2.2.2.1;clear hi1 hx1 hu1 hn1 hbx hgx;go_upto_region 4 with (fail);have B0:=hIz (show Below W1.heap.size W1 W1.drew from bR.drew);refine aE (fun W=>W.cell? ⟨p,4,none⟩=some (.slice (some ⟨lg,0,none⟩) 1 lc)∧W.rangeAt w.heap.size 0 (wdC x)∧W.rangeAt lg 0 (wdC o)) 11 [(0,true),(1,true),(2,true),(3,true),(4,true),(5,true),(6,true),(7,true),(8,false),(9,false),(10,true)] hS ?_;generalize W1.drew=V0 at B0 hS ⊢;(refine kR rfl (by first | with_reducible rfl | kernel_rfl) 168 _ rfl w.heap.size 0 rfl (wdC x) (.array 64 166) (fun _ h=>h.2.1) Tryz.underlying168 rfl hsz ?_;(try simp only[Act.put,gA,gS,gZ,sA,sZ,sS]))
 iterate 6 refine aB rfl ?_
 (refine kR rfl (by first | with_reducible rfl | kernel_rfl) 168 _ rfl lg 0 rfl (wdC o) (.array 64 166) (fun _ h=>h.2.2) Tryz.underlying168 rfl hszo ?_;(try simp only[Act.put,gA,gS,gZ,sA,sZ,sS]))
 refine aN rfl rfl (fun K hK=>?_);have hcon:=BY V0 x o HK.out.2.2.2.1 HK.out.2.2.2.2.1;unfold wdV at hcon;go_simp;refine hcon.mono ?_;clear hcon;rintro e V1 ⟨rfl,b1⟩;have B1:=hIz (tHn B0.out b1);refine hK _ _ (fun _=>SR.out _ B1.out) ?_;clear hK K hS b1;(try simp only[Act.put,gA,gS,gZ,sA,sZ,sS])
 refine aN rfl rfl (fun K hK=>?_);have hcon:=GP V1 (List.zipWith dK x o) (BU HK.out.2.2.2.1 HK.out.2.2.2.2.1);unfold wdV at hcon;go_simp;refine hcon.mono ?_;clear hcon;rintro e V2 ⟨rfl,b2⟩;have B2:=hIz (tHn B1.out b2);have hS:=SR.out _ B2.out;refine hK _ _ (fun _=>hS) ?_;clear hK K b2;(try simp only[Act.put,gA,gS,gZ,sA,sZ,sS])
 refine aB rfl ?_;refine aF ?_;clear hS;go_upto_region 5 with (fail);have B3:=hIz (show Below W1.heap.size W1 V2.drew from B2.out.drew);have hS:=SR.out _ B3.out;have hnw:Wd (List.zipWith orN o x):=NZ HK.out.2.2.2.2.1 HK.out.2.2.2.1;refine aE (fun W=>W.cell? ⟨p,4,none⟩=some (.slice (some ⟨lg,0,none⟩) 1 lc)∧W.rangeAt w.heap.size 0 (wdC x)∧W.rangeAt lg 0 (wdC o)) 15 [(0,true),(1,true),(2,true),(3,true),(4,true),(5,true),(6,true),(7,true),(8,true),(9,true),(10,true),(11,true),(12,true),(13,false),(14,true),(15,false)] hS ?_;generalize V2.drew=V3 at B3 hS ⊢
 iterate 11 refine aB rfl ?_
 (refine kR rfl (by first | with_reducible rfl | kernel_rfl) 168 _ rfl lg 0 rfl (wdC o) (.array 64 166) (fun _ h=>h.2.2) Tryz.underlying168 rfl hszo ?_;(try simp only[Act.put,gA,gS,gZ,sA,sZ,sS]))
 (refine kR rfl (by first | with_reducible rfl | kernel_rfl) 168 _ rfl w.heap.size 0 rfl (wdC x) (.array 64 166) (fun _ h=>h.2.1) Tryz.underlying168 rfl hsz ?_;(try simp only[Act.put,gA,gS,gZ,sA,sZ,sS]))
 refine aN rfl rfl (fun K hK=>?_);have hcon:=LU V3 o x HK.out.2.2.2.2.1 HK.out.2.2.2.1;unfold wdV at hcon;go_simp;refine hcon.mono ?_;clear hcon;rintro e V4 ⟨rfl,b4⟩;have B4:=hIz (tHn B3.out b4);have hS:=SR.out _ B4.out;refine hK _ _ (fun _=>hS) ?_;clear hK K b4;(try simp only[Act.put,gA,gS,gZ,sA,sZ,sS])
 refine aB rfl ?_;have hx4:=H1.out.1.below B4.out;have hth:V4.there lg 0 (wdC (List.zipWith orN o x)).toArray.size:=fun i hi=>by
  obtain⟨g',c',e',-,-,-,-,hc'⟩:=bC hx4.rl (by simp);injection e' with e';injection e' with e';injection e' with e';subst e';have hi:i<64:=by simpa[gD,hnw.len] using hi
  obtain⟨y,hy⟩:∃y,o[i]?=some y:=⟨o[i]'(by rw[HK.out.2.2.2.2.1.len];exact hi),gEz _⟩;have:=hc' i _ (by simpa[lfC] using jC hy);rw[Nat.zero_add];exact⟨by rw[this.1];rfl,this.2⟩
 have hsz2:(Tryz.prog.info? 168).map (·.size)=some (wdC (List.zipWith orN o x)).toArray.size:=by simpa using fS hnw
 have h1c:(wdC (List.zipWith orN o x)).toArray.all (·.oneCell')=true:=all_oneCell_toArray (pX _);obtain⟨hx5,hu5⟩:=hx4.setLeaf (ys:=wdC (List.zipWith orN o x)) (by rw[gD,hnw.len]);have H5:=aI2 hx5 hu5;have HN:=hIz hnw;refine aN rfl rfl (fun K hK=>?_);refine wp_store_mid 168 _ _ rfl lg 0 (wdC (List.zipWith orN o x)).toArray rfl rfl hth hsz2 h1c ?_;refine hK _ _ (fun h=>absurd rfl h) ?_;clear hK K hS hth hsz2 h1c hx4 hx5 hu5 hnw;(try simp only[Act.put,gA,gS,gZ,sA,sZ,sS])
 refine aF ?_;generalize V4.setCells lg 0 (wdC (List.zipWith orN o x))=W5 at H5 ⊢;have q2:W5.cell? ⟨p,2,none⟩=some (.int .i64 (cnt:Int)):=H5.out.1.blk.cell 2;have f2:W5.frozen? ⟨p,2,none⟩=false:=H5.out.1.blk.frozen 2;have hc1:=HK.out.2.2.2.2.2.1;have hc2:=HK.out.2.2.2.2.2.2;obtain⟨more,hmo⟩:∃q,jL (List.zipWith dK x o)=q:=⟨_,rfl⟩;obtain⟨all,hal⟩:∃q,jL (List.zipWith orN o x)=q:=⟨_,rfl⟩;have HMO:=hIz hmo;rw[hmo,hal] at hc2;rw[hal] at hlb;rw[hmo];have hlb':all≤4096:=by simpa using hlb
 have hcm:cnt+more=all:=by omega
 have hadd:IntKind.i64.wrap ((cnt:Int)+(more:Int))=(all:Int):=by rw[IntKind.wrap_i64];omega
 have us:=(Upd.refl (fun k=>k=p) W5).setCell (p:=⟨p,2,none⟩) (.inl rfl) (.int .i64 (all:Int));have FIN:=hIz (show QTo w (fun k=>O k≠none) p side (some (List.zipWith orN o x)) (W5.setCell ⟨p,2,none⟩ (.int .i64 (all:Int))) from by
  have h5:=H5.out.1;have e:wdC (List.zipWith orN o x)=lfC [List.zipWith orN o x]:=by simp[lfC]
  rw[e] at h5;have h6:=(QuX.i (L:=[List.zipWith orN o x]) h5).setC all;have ok:=HK.out.2.2.1;refine⟨_,⟨O1,dep,all,dep-1,1,_,pv1,_,h6,⟨ok.s1,ok.s2,ok.d1,ok.d2,fun e=>(by cases e),fun r e=>?_⟩,rfl⟩,?_,fun k hk=>?_⟩
  ·injection e with e;subst e;exact⟨by have:=ok.d1;omega,rfl,rfl,hal.symm,HN.out⟩
  ·have u1:=(Upd.of_below HK.out.2.1 (fun k=>O k≠none)).trans H1.out.2.1 (fun k h=>.inl h);have u2:=u1.trans (upF B4.out) (fun _ h=>h.elim);have hn:∀k,O1 k≠none→O k≠none∨w.heap.size≤k:=fun k hk=>by
    rcases H1.out.2.2.1 k hk with h|h
    ·exact .inl h
    ·exact .inr (Nat.le_trans HK.out.2.1.size h)
   exact(u2.trans H5.out.2 hn).trans us (fun k hk=>hn k (by rw[hk,H5.out.1.op];nofun))
  ·rcases H1.out.2.2.1 k hk with h|h
   ·exact .inl h
   ·exact .inr (Nat.le_trans HK.out.2.1.size h))
 clear us hc1 hc2 hlb hlb' hmo hal hcm SR;go_wp2;go_ret;exact⟨by rw[HMO.out];rfl,FIN.out⟩
open Go.RowKit
theorem CL:∀(k x j:Nat),j<k→x.testBit j=true→0<pcN k x
 | 0,_,_,h,_=>absurd h (Nat.not_lt_zero _)
 | k+1,x,0,_,hb=>by
  have:=rS x;rw[hb] at this;unfold pcN;have h1:x % 2=1:=this;omega
 | k+1,x,j+1,h,hb=>by
  rw[Nat.testBit_succ] at hb;have:=CL k (x / 2) j (by omega) hb;unfold pcN;omega
theorem xO:∀{L:List Nat} {x:Nat},x∈L→pcN 64 x≤jL L
 | y::L,x,h=>by
  unfold jL;rw[List.map_cons,List.sum_cons];rcases List.mem_cons.1 h with rfl|h
  ·omega
  ·have:=xO h;unfold jL at this;omega
theorem vZ{i j:Nat}(hi:i<64):(kP i j)[i]?=some (2 ^ j):=by
 unfold kP;rw[List.getElem?_set,if_pos rfl,if_pos (by rw[gP];exact hi)]
theorem MB{i j:Nat}(hi:i<64):kP i j≠cF:=fun e=>by
 have h:=vZ (i:=i) (j:=j) hi;rw[e,iM hi] at h;injection h with h;have:=Nat.two_pow_pos j;omega
theorem IB{o:List Nat}(ho:Wd o){i j:Nat}(hi:i<64)(hj:j<64)(hb:pY o i j=false):0<jL (List.zipWith dK (kP i j) o):=by
 obtain⟨x,hx⟩:∃x,o[i]?=some x:=⟨o[i]'(by rw[ho.len];exact hi),gEz _⟩;have hz:(List.zipWith dK (kP i j) o)[i]?=some (dK (2 ^ j) x):=by rw[List.getElem?_zipWith,vZ hi,hx]
 have hxf:=ho.fit x (mG hx);have hbx:x.testBit j=false:=by unfold pY at hb;rw[hx] at hb;exact hb
 have hp:=CL 64 (dK (2 ^ j) x) j hj (by
  unfold dK;have h:=Nat.testBit_two_pow_sub_succ (x:=x) (n:=64) hxf j;have e:2 ^ 64-(x+1)=18446744073709551615-x:=by omega
  rw[e] at h;rw[Nat.testBit_and,h,hbx,Nat.testBit_two_pow_self];simp[hj])
 exact Nat.lt_of_lt_of_le hp (xO (mG hz))
def setO(b:Option (List Nat))(i j:Nat):Option (List Nat):=if zF b i j=true then b else some (List.zipWith orN (pI b) (kP i j))
theorem MC{b:Option (List Nat)}{i j:Nat}(hi:i<64)(h:zF b i j=false):pY (pI b) i j=false:=by
 cases b with
 | none =>
  unfold pY pI;rw[Option.getD_none,iM hi];simp
 | some r=>exact h
theorem QTo.after{w w1 w':World}{F:Nat→Prop}{p side:Nat}{b:Option (List Nat)}(hb:Below w.heap.size w w1)(h:QTo w1 F p side b w'):QTo w F p side b w':=by
 obtain⟨F',g,u,n⟩:=h;exact⟨F',g,(Upd.of_below hb F).trans u (fun _ h=>.inl h),fun k hk=>(n k hk).imp id fun h=>Nat.le_trans hb.size h⟩
theorem xP(w:World)(F:Nat→Prop)(p side:Nat)(b:Option (List Nat))(h:QuS w F p side b)(i j:Nat)(hi:i<side)(hj:j<side)(hi6:i<64)(hj6:j<64) :
  Calls Tryz.prog 62 #[.pointer (some ⟨p,0,none⟩),.int .i64 (i:Int),.int .i64 (j:Int)] w (fun e w'=>e=.returned (.tuple #[.bool (!zF b i j),.int .i64 0])∧QTo w F p side (setO b i j) w'):=by
 have hget:=GV w F p side b h i j hi hj hi6 hj6;have ri:(i:Int).tmod 64=i:=by rw[Int.tmod_eq_emod_of_nonneg (by omega)];omega
 have rj:(j:Int).tmod 64=j:=by rw[Int.tmod_eq_emod_of_nonneg (by omega)];omega
 have qi:(i:Int).tdiv 64=0:=by rw[Int.tdiv_eq_ediv_of_nonneg (by omega)];omega
 have qj:(j:Int).tdiv 64=0:=by rw[Int.tdiv_eq_ediv_of_nonneg (by omega)];omega
 have HH:=hIz h;have hold:∃O dep cnt m last L pv lv,QuI w O p side dep cnt m last L pv lv∧OA side dep cnt m last L b:=by
  obtain⟨O,dep,cnt,m,last,L,pv,lv,hq,ok,-⟩:=h;exact⟨O,dep,cnt,m,last,L,pv,lv,hq,ok⟩
 obtain⟨_,_,_,_,_,_,_,_,-,ok⟩:=hold;have hwo:=vY ok;clear h ok;cases hb:zF b i j with
 | true =>
  rw[hb] at hget;have e1:setO b i j=b:=by unfold setO;rw[if_pos hb]
  rw[e1];clear e1 hb hwo ri rj qi qj;go_enter Tryz.func62,Tryz.ntmps62;go_wp2_with fail;refine hget.mono ?_;clear hget;rintro e W1 ⟨rfl,b1⟩;have FIN:=hIz (show QTo w F p side b W1 from⟨F,HH.out.below b1,Upd.of_below b1 F,fun _ h=>.inl h⟩);clear b1;go_wp2;refine bodyPost_ret (v:=.tuple #[.bool false,.int .i64 0]) (by simp[results,Tryz.f62,go_sem]) rfl ⟨rfl,FIN.out⟩
 | false =>
  rw[hb] at hget;have e1:setO b i j=some (List.zipWith orN (pI b) (kP i j)):=by unfold setO;rw[hb];rfl
  rw[e1];have hpos:=IB hwo hi6 hj6 (MC hi6 hb);have HP:=hIz (decide_eq_true hpos);clear e1 hb hwo hpos;go_enter Tryz.func62,Tryz.ntmps62;go_wp2_with fail;refine hget.mono ?_;clear hget;rintro e W1 ⟨rfl,b1⟩;have k2:=Blk.new W1 83 #[.int .i64 (i:Int),.int .i64 (j:Int)];have u2:Below W1.heap.size W1 (W1.alloc (.cells #[.int .i64 (i:Int),.int .i64 (j:Int)] 83)):=bR.alloc (Nat.le_refl _) _;have hof:=LW _ W1.heap.size i j hi6 hj6 k2;have HB2:=hIz (tHn b1 u2);unfold wdV at hof;clear k2 u2 b1;go_wp2_with fail;refine hof.mono ?_;clear hof;rintro e V2 ⟨rfl,b2⟩;have HB3:=hIz (tHn HB2.out b2);clear b2;have hone:=CE (i:=i) hj6;have k4:=Blk.new V2 168 Z64;have hth:(V2.alloc (.cells Z64 168)).there V2.heap.size 0 (wdC (kP i j)).toArray.size:=kL (gM.mp k4) (by simp[gD,hone.len,gP]);have hsz:=fS hone;have hsz2:(Tryz.prog.info? 168).map (·.size)=some (wdC (kP i j)).toArray.size:=by simpa using hsz
  have h1c:(wdC (kP i j)).toArray.all (·.oneCell')=true:=all_oneCell_toArray (pX _);have hrg:=World.rangeAt_setCells_same (V2.alloc (.cells Z64 168)) V2.heap.size 0 (wdC (kP i j)) (by simpa using hth);have u4:Below V2.heap.size V2 ((V2.alloc (.cells Z64 168)).setCells V2.heap.size 0 (wdC (kP i j))):=by
   have ua:Below V2.heap.size V2 (V2.alloc (.cells Z64 168)):=bR.alloc (Nat.le_refl _) _;exact ua.trans ((Upd.setCells (F:=fun k=>k=V2.heap.size) (a:=V2.alloc (.cells Z64 168)) (.inl rfl) _ _ (Upd.refl _ _)).below (fun k _ e=>Nat.le_of_eq e.symm) ua.size)
  have HB4:=hIz (tHn HB3.out u4);have hone2:=hIz hone;clear k4 u4 hone;go_upto_region 5 with (first | (refine wpList_store_mid rfl 168 _ _ rfl V2.heap.size 0 (wdC (kP i j)).toArray rfl rfl hth hsz2 h1c ?_) | fail);generalize (V2.alloc (.cells Z64 168)).setCells V2.heap.size 0 (wdC (kP i j))=W5 at hrg HB4 ⊢;clear hth hsz2 h1c;have hor:=MA W5 F p side b (HH.out.below HB4.out) (kP i j) hone2.out (MB hi6);rw[HP.out] at hor;unfold wdV at hor;go_wp2_with (first | (refine wpList_load_mid rfl 168 _ rfl V2.heap.size 0 rfl (wdC (kP i j)) (.array 64 166) hrg Tryz.underlying168 rfl hsz ?_) | fail);refine hor.mono ?_;clear hor hrg hsz;rintro e W6 ⟨rfl,hto⟩;have FIN:=hIz (QTo.after HB4.out hto);clear hto;go_wp2;refine bodyPost_ret (v:=.tuple #[.bool true,.int .i64 0]) (by simp[results,Tryz.f62,go_sem]) rfl ⟨rfl,FIN.out⟩
end Go.Proofs.YtddffnonlmfhdaaGreatDoor
