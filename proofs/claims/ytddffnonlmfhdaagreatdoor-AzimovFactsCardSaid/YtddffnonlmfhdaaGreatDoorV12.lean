/- azimov: fill's loops, plain; azimov: fill; azimov: Check; azimov: there; a closure that takes a matrix more; azimov: New; azimov: is, Has, Len; azimov: Len; Pairs where it refuses. -/
import Derived.Test.YtddffnonlmfhdaaGreatDoorV11
import Derived.Deep.LoopGhost
import Derived.Laws.OwnMore
import Derived.Deep.CutRange
set_option linter.unusedVariables false
set_option linter.unusedSimpArgs false
set_option maxHeartbeats 16000000
set_option maxRecDepth 100000
namespace Go.Proofs.YtddffnonlmfhdaaGreatDoor
open Go.RowKit Go.Shelf
def pM(k:Nat)(v:Pv):Bool:=match v.pr.body with
 | [s,t]=>s.at_==(k:Int)||t.at_==(k:Int)
 | _=>false
def iI(PV:List Pv)(t k:Nat):List Pv:=(PV.take t).filter (pM k)
theorem IS(PV:List Pv):iI PV 0=fun _=>[]:=by funext k;simp[iI]
theorem pN{PV:List Pv}{t:Nat}{v:Pv}(h:PV[t]?=some v)(k:Nat):iI PV (t+1) k=if pM k v=true then iI PV t k++[v] else iI PV t k:=by
 unfold iI;rw[List.take_add_one,h,Option.toList_some,List.filter_append];split
 ·rename_i e;rw[List.filter_cons_of_pos e];simp
 ·rename_i e;rw[List.filter_cons_of_neg e];simp
theorem AS(PV:List Pv)(t k:Nat):(iI PV t k).length≤PV.length:=Nat.le_trans (List.length_filter_le ..) (List.length_take_le' ..)
theorem AT{PV:List Pv}{t k:Nat}{v:Pv}(h:v∈iI PV t k):v∈PV∧pM k v=true:=by
 obtain⟨h1,h2⟩:=List.mem_filter.1 h;exact⟨List.mem_of_mem_take h1,h2⟩
theorem wJ{k:Nat}{v:Pv}(h:pM k v=true):∃s t,v.pr.body=[s,t]∧(s.at_=(k:Int)∨t.at_=(k:Int)):=by
 unfold pM at h;split at h
 ·rename_i s t e
  exact⟨s,t,e,by simpa using h⟩
 ·cases h
theorem pP{k:Nat}{v:Pv}{s t:Sy}(e:v.pr.body=[s,t]):pM k v=(s.at_==(k:Int)||t.at_==(k:Int)):=by
 unfold pM;rw[e]
structure UL(nts nl:Nat)(v:Pv):Prop where
 g:VS nts v.pr
 few:v.pr.body.length≤2
 one:∀s,v.pr.body=[s]→0≤s.at_∧s.at_<(nl:Int)
theorem RQ{nts nl:Nat}{v:Pv}(h:aT v.pr nts nl=true):UL nts nl v:=by
 obtain⟨⟨hd,bd⟩,A,c⟩:=v;unfold aT at h;simp only[Bool.and_eq_true,decide_eq_true_eq] at h
 obtain⟨⟨h0,h1⟩,h2⟩:=h;refine⟨⟨h0,h1,fun s t e=>?_⟩,?_,fun s e=>?_⟩
 ·have e:bd=[s,t]:=e;subst e;simp only[dQ,Bool.and_eq_true,decide_eq_true_eq] at h2
  exact⟨h2.1.2,h2.2.2⟩
 ·show bd.length≤2
  split at h2
  ·exact Nat.zero_le _
  ·simp
  ·simp
  ·cases h2
 ·have e:bd=[s]:=e;subst e;simp only[dQ,Bool.and_eq_true,decide_eq_true_eq] at h2
  exact h2.2
theorem qD.lt{P:List Pr}{El:Int→Nat→Nat→Prop}{n:Nat}(hEl:∀k i j,El k i j→i<n∧j<n){a:Int}{i j:Nat}(d:qD P El n a i j):i<n∧j<n:=by
 induction d with
 | eps _ h=>exact⟨h,h⟩
 | one _ h=>exact hEl _ _ _ h
 | two _ _ _ i1 i2=>exact⟨i1.1,i2.2⟩
theorem FiI.fit{P:List Pr}{El:Int→Nat→Nat→Prop}{n nts:Nat}{B:dA}{L:List Int}{D:Pr→Prop}(h:FiI P El n nts B L D)(hEl:∀k i j,El k i j→i<n∧j<n){b c:Nat}(hb:b<nts)(hc:c<nts):∀x y,B b=some x→B c=some y→cT (mP x y) n=mP x y:=fun x y hx hy=>by
 have wx:=h.wd b x hx;have wy:=h.wd c y hy;refine AL (mQ x wy) (fun i j hij=>?_);have hi:=(mR (mQ x wy) hij).1;rw[GS wx wy hi] at hij;obtain⟨k,_,h1,h2⟩:=hij;have d1:=(h.sound b hb i k (by rw[hx];exact h1)).lt hEl;have d2:=(h.sound c hc k j (by rw[hy];exact h2)).lt hEl;exact⟨d1.1,d2.2⟩
def D1(PV:List Pv)(t:Nat)(q:Pr):Prop:=(∃v∈PV.take t,v.pr=q)∧∀s t,q.body≠[s,t]
def Lp1(PV:List Pv)(El:Int→Nat→Nat→Prop)(n nts t:Nat)(B:dA)(L:List Int):Prop:=
 FiI (PV.map (·.pr)) El n nts B L (D1 PV t)∧∀k,k<nts→∀i j,cV (B k) i j=true→(k:Int)∈L
theorem Lp1.begin(PV:List Pv)(El:Int→Nat→Nat→Prop)(n nts:Nat):Lp1 PV El n nts 0 (fun _=>none) []:=
 ⟨⟨fun _ r e=>(by cases e),fun k _ i j h=>(by cases h),fun p _ hd _=>(by obtain⟨⟨v,hv,-⟩,-⟩:=hd;simp at hv),fun x hx=>(by cases hx),List.nodup_nil⟩,fun k _ i j h=>(by cases h)⟩
theorem Lp1.one{PV:List Pv}{El:Int→Nat→Nat→Prop}{n nts nl t:Nat}{B:dA}{L L':List Int}(h:Lp1 PV El n nts t B L){v:Pv}(hv:PV[t]?=some v)(hok:∀v∈PV,UL nts nl v)(hn:n≤64)(hEl:∀k i j,El k i j→i<n∧j<n){m:Option (List Nat)}(hg:tL El n v.pr m)
  (hL:if dY (B v.pr.head.toNat) m=true then RM L L' v.pr.head else L'=L):Lp1 PV El n nts (t+1) (upM B v.pr.head.toNat (joinQ (B v.pr.head.toNat) m)) L'∧iI PV (t+1)=iI PV t:=by
 have hvm:=mG hv;have hbd:∀s t,v.pr.body≠[s,t]:=fun s t e=>by
  have:=hg.2;rw[e] at this;exact this
 have h1:=h.1.first (List.mem_map.2 ⟨v,hvm,rfl⟩) (fun q hq=>by obtain⟨v',h1,rfl⟩:=List.mem_map.1 hq;exact(hok v' h1).g) hn hEl hg hL;refine⟨⟨h1.all (fun q _ hd=>?_),fun k hk i j hb=>?_⟩,?_⟩
 ·obtain⟨⟨v',hv',e⟩,h2⟩:=hd;rw[List.take_add_one,hv,Option.toList_some,List.mem_append,List.mem_singleton] at hv';rcases hv' with hv' | rfl
  ·exact .inl ⟨⟨v',hv',e⟩,h2⟩
  ·exact .inr e.symm
 ·have a0:=(hok v hvm).g.h0;have hw:=h.1.wd k;have hsub:∀x∈L,x∈L':=fun x hx=>by
   split at hL
   ·exact(hL.mem x).2 (.inl hx)
   ·rw[hL];exact hx
  by_cases e:k=v.pr.head.toNat
  ·subst e;rw[iF] at hb;have hi:=kW (hw.joinQ hg.1) hb;rw[fL hw hg.1 hi,Bool.or_eq_true] at hb;cases hm:dY (B v.pr.head.toNat) m with
   | true =>
    rw[if_pos hm] at hL;rw[Int.toNat_of_nonneg a0];exact(hL.mem _).2 (.inr rfl)
   | false =>
    rcases hb with hb|hb
    ·exact hsub _ (h.2 _ hk i j hb)
    ·exact hsub _ (h.2 _ hk i j (pJ hw hg.1 hm hb))
  ·rw[lU B _ e] at hb;exact hsub _ (h.2 k hk i j hb)
 ·funext k
  rw[pN hv,if_neg];intro e;obtain⟨s,t,e2,-⟩:=wJ e;exact hbd s t e2
theorem Lp1.two{PV:List Pv}{El:Int→Nat→Nat→Prop}{n nts t:Nat}{B:dA}{L:List Int}(h:Lp1 PV El n nts t B L){v:Pv}(hv:PV[t]?=some v){b c:Sy}(hb:v.pr.body=[b,c]):Lp1 PV El n nts (t+1) B L:=
 ⟨h.1.all (fun q _ hd=>by
  obtain⟨⟨v',hv',e⟩,h2⟩:=hd;rw[List.take_add_one,hv,Option.toList_some,List.mem_append,List.mem_singleton] at hv';rcases hv' with hv' | rfl
  ·exact⟨⟨v',hv',e⟩,h2⟩
  ·exact absurd hb (by rw[e];exact h2 b c)),h.2⟩
theorem RR{PV:List Pv}{t:Nat}{v:Pv}(hv:PV[t]?=some v){la lb:Bool}{b c:Nat}(hb:v.pr.body=[⟨la,b⟩,⟨lb,c⟩])(hbc:b≠c) :
  (fun q=>if q=c then (fun q=>if q=b then iI PV t b++[v] else iI PV t q) c++[v] else (fun q=>if q=b then iI PV t b++[v] else iI PV t q) q)=iI PV (t+1):=by
 funext q
 rw[pN hv,pP hb];dsimp only
 by_cases e1:q=c
 ·subst e1;rw[if_pos rfl,if_neg (fun e=>hbc e.symm)];simp
 ·rw[if_neg e1];by_cases e2:q=b
  ·subst e2;simp
  ·rw[if_neg e2,if_neg];simp
   omega
theorem ND{PV:List Pv}{t:Nat}{v:Pv}(hv:PV[t]?=some v){la lb:Bool}{b:Nat}(hb:v.pr.body=[⟨la,b⟩,⟨lb,b⟩]):(fun q=>if q=b then iI PV t b++[v] else iI PV t q)=iI PV (t+1):=by
 funext q
 rw[pN hv,pP hb];by_cases e2:q=b
 ·subst e2;simp
 ·rw[if_neg e2,if_neg];simp
  omega
theorem Lp1.end_{PV:List Pv}{El:Int→Nat→Nat→Prop}{n nts nl:Nat}{B:dA}{L:List Int}(h:Lp1 PV El n nts PV.length B L)(hok:∀v∈PV,UL nts nl v):FiI (PV.map (·.pr)) El n nts B L (fun _=>True):=
 h.1.begin (fun p hp hb=>by
  obtain⟨v,hv,rfl⟩:=List.mem_map.1 hp;exact⟨⟨v,by rw[List.take_length];exact hv,rfl⟩,hb⟩) (fun q hq=>by obtain⟨v',h1,rfl⟩:=List.mem_map.1 hq;exact(hok v' h1).g) h.2
def D3(U:List Pv)(x:Int)(t:Nat)(q:Pr):Prop:=¬pL q [x]∨∃v∈U.take t,v.pr=q
def Lp3(PV:List Pv)(El:Int→Nat→Nat→Prop)(n nts k t:Nat)(B:dA)(L:List Int)(N:Nat):Prop:=
 FiI (PV.map (·.pr)) El n nts B L (D3 (iI PV PV.length k) (k:Int) t)∧2*yL B nts+L.length<N
theorem Lp3.begin{PV:List Pv}{El:Int→Nat→Nat→Prop}{n nts k N:Nat}{B:dA}{L L':List Int}(h:FiI (PV.map (·.pr)) El n nts B L (fun _=>True))(hN:2*yL B nts+L.length≤N)(hL:L.Perm ((k:Int)::L')):Lp3 PV El n nts k 0 B L' N:=
 ⟨(h.pop hL).all (fun p _ hd=>by
  rcases hd with hd|⟨v,hv,-⟩
  ·exact hd
  ·simp at hv),by have:=hL.length_eq;simp at this;omega⟩
theorem Lp3.step{PV:List Pv}{El:Int→Nat→Nat→Prop}{n nts nl k t N:Nat}{B:dA}{L L':List Int}(h:Lp3 PV El n nts k t B L N)(hok:∀v∈PV,UL nts nl v){v:Pv}(hv:(iI PV PV.length k)[t]?=some v){s r:Sy}(hb:v.pr.body=[s,r])
  (hL:if dY (B v.pr.head.toNat) (mulO (B s.at_.toNat) (B r.at_.toNat))=true then RM L L' v.pr.head else L'=L):Lp3 PV El n nts k (t+1) (upM B v.pr.head.toNat (joinQ (B v.pr.head.toNat) (mulO (B s.at_.toNat) (B r.at_.toNat)))) L' N:=by
 have hvm:=(AT (mG hv)).1;obtain⟨h1,h2⟩:=h.1.next (List.mem_map.2 ⟨v,hvm,rfl⟩) (fun q hq=>by obtain⟨v',h1,rfl⟩:=List.mem_map.1 hq;exact(hok v' h1).g) hb hL;refine⟨h1.all (fun q _ hd=>?_),Nat.lt_of_le_of_lt h2 h.2⟩;rcases hd with hd|⟨v',hv',e⟩
 ·exact .inl (.inl hd)
 ·rw[List.take_add_one,hv,Option.toList_some,List.mem_append,List.mem_singleton] at hv';rcases hv' with hv' | rfl
  ·exact .inl (.inr ⟨v',hv',e⟩)
  ·exact .inr e.symm
theorem Lp3.end_{PV:List Pv}{El:Int→Nat→Nat→Prop}{n nts k N:Nat}{B:dA}{L:List Int}(h:Lp3 PV El n nts k (iI PV PV.length k).length B L N):FiI (PV.map (·.pr)) El n nts B L (fun _=>True):=
 h.1.all (fun p hp _=>by
  by_cases hn:pL p [(k:Int)]
  ·obtain⟨v,hv,rfl⟩:=List.mem_map.1 hp;refine .inr ⟨v,?_,rfl⟩;rw[List.take_length];unfold iI;rw[List.take_length];obtain⟨s,t,e,hst⟩:=hn;refine List.mem_filter.2 ⟨hv,?_⟩;rw[pP e];simp only[List.mem_singleton] at hst
   simpa using hst
  ·exact .inl hn)
open Go.RowKit Go.Shelf
theorem RS(nts:Nat):madeCells (Value.bool false).cells (((nts:Int)).toNat*1)=(mkC nts []).toArray:=by
 apply Array.toList_inj.1
 rw[Int.toNat_natCast,Nat.mul_one,show(Value.bool false).cells=#[Value.bool false] from rfl,toList_madeCells_one];apply List.ext_getElem?
 intro i;by_cases h:i<nts
 ·simp[mkC,h]
 ·simp[mkC,h]
theorem RT(nts:Nat):madeCells (Value.slice none 0 0).cells (((nts:Int)).toNat*1)=(uvC (fun _=>.slice none 0 0) nts).toArray:=by
 apply Array.toList_inj.1
 rw[Int.toNat_natCast,Nat.mul_one,show(Value.slice none 0 0).cells=#[Value.slice none 0 0] from rfl,toList_madeCells_one];apply List.ext_getElem?
 intro i;by_cases h:i<nts
 ·simp[uvC,h]
 ·simp[uvC,h]
theorem UM(k:Int)(T:TypeId)(w:World):(Instr.typeAssert (.iface 3 (.int .i64 k)) T 3 false).run Tryz.prog w=.ok (.int .i64 k) w:=by kernel_rfl
theorem rD:(Tryz.prog.info? 4).map (fun i=>(i.zero,i.size,i.bytes))=some (some (.bool false),1,1):=by kernel_rfl
theorem CT:(Tryz.prog.info? 48).map (fun i=>(i.zero,i.size,i.bytes))=some (some (.slice none 0 0),1,24):=by kernel_rfl
theorem NE(w:World)(nts:Nat)(h:nts≤512):(Instr.makeSlice 73 (.int .i64 (nts:Int)) (.int .i64 (nts:Int))).run Tryz.prog w=.ok (.slice (some ⟨w.heap.size,0,none⟩) nts nts) (w.alloc (.cells (mkC nts []).toArray 4)):=by
 obtain⟨i0,hi0,hz0,hz1,hz2⟩:=info_parts rD;have hr:=run_make (P:=Tryz.prog) w 73 4 i0 _ Tryz.underlying73 hi0 hz0 .i64 .i64 (nts:Int) (nts:Int) (by omega) (Int.le_refl _) (by rw[hz2];omega) (by omega);rw[hz1,RS,Int.toNat_natCast] at hr;exact hr
theorem RU(w:World)(nts:Nat)(h:nts≤512):(Instr.makeSlice 184 (.int .i64 (nts:Int)) (.int .i64 (nts:Int))).run Tryz.prog w=.ok (.slice (some ⟨w.heap.size,0,none⟩) nts nts) (w.alloc (.cells (uvC (fun _=>.slice none 0 0) nts).toArray 48)):=by
 obtain⟨i0,hi0,hz0,hz1,hz2⟩:=info_parts CT;have hr:=run_make (P:=Tryz.prog) w 184 48 i0 _ Tryz.underlying184 hi0 hz0 .i64 .i64 (nts:Int) (nts:Int) (by omega) (Int.le_refl _) (by rw[hz2];omega) (by omega);rw[hz1,RT,Int.toNat_natCast] at hr;exact hr
def VT(w:World)(nts:Nat)(cs:Array Value):World:=
 (((w.alloc (.cells cs 50)).alloc (.cells (mkC nts []).toArray 4)).alloc (.cells #[.slice none 0 0,.slice (some ⟨w.heap.size+1,0,none⟩) nts nts] 183)).alloc (.cells (uvC (fun _=>.slice none 0 0) nts).toArray 48)
theorem IT{w:World}{F:Nat→Prop}{p n nts:Nat}{B:dA}(cs:Array Value)(h:ClS w F p n n nts B):kI w (VT w nts cs) F p n nts (w.heap.size+2) (w.heap.size+1) (w.heap.size+3) NoX B [] (fun _=>[]):=by
 unfold VT;have e1:(w.alloc (.cells cs 50)).heap.size=w.heap.size+1:=by simp
 have e2:((w.alloc (.cells cs 50)).alloc (.cells (mkC nts []).toArray 4)).heap.size=w.heap.size+2:=by simp
 have e3:(((w.alloc (.cells cs 50)).alloc (.cells (mkC nts []).toArray 4)).alloc (.cells #[.slice none 0 0,.slice (some ⟨w.heap.size+1,0,none⟩) nts nts] 183)).heap.size=w.heap.size+3:=by simp
 have km:=((Blk.new (w.alloc (.cells cs 50)) 4 (mkC nts []).toArray).alloc (.cells #[.slice none 0 0,.slice (some ⟨w.heap.size+1,0,none⟩) nts nts] 183)).alloc (.cells (uvC (fun _=>.slice none 0 0) nts).toArray 48);have kp:=(Blk.new ((w.alloc (.cells cs 50)).alloc (.cells (mkC nts []).toArray 4)) 183 #[.slice none 0 0,.slice (some ⟨w.heap.size+1,0,none⟩) nts nts]).alloc (.cells (uvC (fun _=>.slice none 0 0) nts).toArray 48);have ku:=Blk.new (((w.alloc (.cells cs 50)).alloc (.cells (mkC nts []).toArray 4)).alloc (.cells #[.slice none 0 0,.slice (some ⟨w.heap.size+1,0,none⟩) nts nts] 183)) 48 (uvC (fun _=>.slice none 0 0) nts).toArray;rw[e1] at km;rw[e2] at kp;rw[e3] at ku;have hb:Below w.heap.size w ((((w.alloc (.cells cs 50)).alloc (.cells (mkC nts []).toArray 4)).alloc (.cells #[.slice none 0 0,.slice (some ⟨w.heap.size+1,0,none⟩) nts nts] 183)).alloc (.cells (uvC (fun _=>.slice none 0 0) nts).toArray 48)):=by(repeat (first | exact Below.refl _ _ | apply Below.drew | refine Below.alloc ?_ (by first | exact Nat.le_refl _ | (simp;done) | (simp;omega)) _ | refine Below.setCell ?_ (by first | exact Nat.le_refl _ | (simp;done) | (simp;omega)) _))
 have e4:((((w.alloc (.cells cs 50)).alloc (.cells (mkC nts []).toArray 4)).alloc (.cells #[.slice none 0 0,.slice (some ⟨w.heap.size+1,0,none⟩) nts nts] 183)).alloc (.cells (uvC (fun _=>.slice none 0 0) nts).toArray 48)).heap.size=w.heap.size+4:=by simp
 generalize (((w.alloc (.cells cs 50)).alloc (.cells (mkC nts []).toArray 4)).alloc (.cells #[.slice none 0 0,.slice (some ⟨w.heap.size+1,0,none⟩) nts nts] 183)).alloc (.cells (uvC (fun _=>.slice none 0 0) nts).toArray 48)=V at km kp ku hb e4 ⊢;have no:∀k,(Value.slice none 0 0).ownBlock=some k→False:=fun k e=>by simp[Value.ownBlock] at e
 have hF:=h.lt;refine⟨F,.slice none 0 0,fun q=>if q=w.heap.size+3 then some none else none,fun _=>.slice none 0 0,h.below hb,⟨⟨kp,World.ownsRow_nil _ _ _ _⟩,km,fun k e=>(no k e).elim,fun k e=>(no k e).elim,by omega,fun x hx=>(by cases hx),List.nodup_nil⟩,⟨ku,fun k _=>World.ownsRow_nil _ _ _ _,if_pos rfl,fun k _ q e=>(no q e).elim,fun q hq=>?_⟩,(Upd.of_below hb F),fun k hk=>.inl hk,fun k hk=>?_,fun k hk=>?_,fun k hk e=>?_,fun k hk=>?_,fun k hk=>?_,?_,?_,?_,?_⟩
 ·by_cases e:q=w.heap.size+3
  ·omega
  ·rw[if_neg e] at hq;exact absurd rfl hq
 ·rcases hk with e|e|e
  ·omega
  ·omega
  ·exact(no k e).elim
 ·by_cases e:k=w.heap.size+3
  ·omega
  ·rw[if_neg e] at hk;exact absurd rfl hk
 ·have:=hF k hk;rcases e with e|e|e
  ·omega
  ·omega
  ·exact(no k e).elim
 ·have:=hF k hk;exact if_neg (by omega)
 ·rcases hk with e|e|e
  ·exact if_neg (by omega)
  ·exact if_neg (by omega)
  ·exact(no k e).elim
 all_goals exact fun k hk=>hk.elim
theorem kI.base{W0 w V:World}{F X:Nat→Prop}{p n nts pw pm u:Nat}{B:dA}{L:List Int}{Q:Nat→List Pv}(h:kI w V F p n nts pw pm u X B L Q)(hb:Below W0.heap.size W0 w)(hF:∀k,F k→W0.heap.size≤k):Below W0.heap.size W0 V:=by
 obtain⟨FC,lv,U,uv,h⟩:=h;exact hb.trans (h.up.below (fun i _ hi=>hF i hi) hb.size)
structure WO(W0:World)(PA:Option Addr)(PV:List Pv)(LA:Option Addr)(labels:List Txt)(Fg:Nat→Prop)(pg:Nat)(G:Gr)(n nts:Nat):Prop where
 pv:PvR W0 PA PV
 lab:aU W0 LA (aE labels)
 gr:GrS W0 Fg pg G
 ok:GOk G
 hn:G.N.length=n
 n1:1≤n
 tab:jC W0
 htab:1<W0.heap.size
 sh:∀v∈PV,UL nts labels.length v
 nts1:1≤nts
 nts5:nts≤512
 few:PV.length≤8192
def UN(w:World)(F:Nat→Prop)(p n nts:Nat)(PV:List Pv)(labels:List Txt)(G:Gr)(w':World):Prop:=
 ∃B:dA,(∀k,k<nts→∀i j,cV (B k) i j=true↔qD (PV.map (·.pr)) (ElG G labels) n (k:Int) i j)∧(∀k,WdO (B k))∧xG w F p n n nts B w'
def RV(w:World)(F:Nat→Prop)(p n nts pw pm u:Nat)(PV:List Pv)(El:Int→Nat→Nat→Prop)(t:Nat)(V:World):Prop:=
 ∃B L,kI w V F p n nts pw pm u NoX B L (iI PV t)∧Lp1 PV El n nts t B L
theorem NF(W0 w:World)(hb0:Below W0.heap.size W0 w)(F:Nat→Prop)(hF:∀k,F k→W0.heap.size≤k)(p n nts:Nat)(h:ClS w F p n n nts (fun _=>none))(PA:Option Addr)(pc:Nat)(PV:List Pv)(LA:Option Addr)(cl:Nat)(labels:List Txt)
  (Fg:Nat→Prop) (pg:Nat) (G:Gr) (hin:WO W0 PA PV LA labels Fg pg G n nts) :
  Calls Tryz.prog 71 #[.pointer (some ⟨p,0,none⟩),.agg #[.int .i64 (nts:Int),.slice PA PV.length pc],.slice LA labels.length cl,.pointer (some ⟨pg,0,none⟩)] w (fun e w'=>e=.returned (.tuple #[])∧UN w F p n nts PV labels G w'):=by
 have hFM:kI w (VT w nts #[.int .i64 (nts:Int),.slice PA PV.length pc]) F p n nts (w.heap.size+1+1) (w.heap.size+1) (w.heap.size+1+1+1) NoX (fun _=>none) [] (fun _=>[]):=IT #[.int .i64 (nts:Int),.slice PA PV.length pc] h;have k0:=Blk.new w 50 #[.int .i64 (nts:Int),.slice PA PV.length pc];have q0:(w.alloc (.cells #[.int .i64 (nts:Int),.slice PA PV.length pc] 50)).cell? ⟨w.heap.size,0,none⟩=some (.int .i64 (nts:Int)):=k0.cell 0;have hm1:=NE (w.alloc (.cells #[.int .i64 (nts:Int),.slice PA PV.length pc] 50)) nts hin.nts5;have k2:=(k0.alloc (.cells (mkC nts []).toArray 4)).alloc (.cells #[.slice none 0 0,.slice (some ⟨w.heap.size+1,0,none⟩) nts nts] 183);have k3:=k2.alloc (.cells (uvC (fun _=>.slice none 0 0) nts).toArray 48);have q02:=k2.cell 0;have q03:=k3.cell 1;simp only[List.getElem?_toArray,List.getElem?_cons_zero,List.getElem?_cons_succ] at q02 q03
 have hm2:=RU (((w.alloc (.cells #[.int .i64 (nts:Int),.slice PA PV.length pc] 50)).alloc (.cells (mkC nts []).toArray 4)).alloc (.cells #[.slice none 0 0,.slice (some ⟨w.heap.size+1,0,none⟩) nts nts] 183)) nts hin.nts5;have q5:=hin.nts5;have q8:=hin.few;have q1:=hin.nts1;have HI:=aI3 hin hb0 hF;obtain⟨m,hm⟩:∃m,PV.length=m:=⟨_,rfl⟩;rw[hm] at hFM q0 hm1 q8 hm2 q02 q03 ⊢;have HF:=hIz hFM;have HM:=hIz hm;clear hFM h hin hb0 hF k0 k2 k3 hm;unfold VT at HF;have q1n:1≤n:=HI.out.1.n1;have HN64:=hIz (show n≤64 from by have:=HI.out.1.ok.few;have:=HI.out.1.hn;omega);have HEL:=hIz (show ∀k i j,ElG G labels k i j→i<n∧j<n from fun k i j h=>by have:=h.lt;rwa [HI.out.1.hn] at this);go_enter Tryz.func71,Tryz.ntmps71;go_upto_region 3 with (fail);clear hm1 hm2 q0 q02;generalize (((w.alloc (.cells #[.int .i64 (nts:Int),.slice PA m pc] 50)).alloc (.cells (mkC nts []).toArray 4)).alloc (.cells #[.slice none 0 0,.slice (some ⟨w.heap.size+1,0,none⟩) nts nts] 183)).alloc (.cells (uvC (fun _=>.slice none 0 0) nts).toArray 48)=W4 at HF q03 ⊢;generalize w.heap.size+1+1+1=u at HF ⊢;generalize w.heap.size+1+1=pw at HF ⊢;generalize w.heap.size+1=pm at HF ⊢;generalize w.heap.size=z at q03 ⊢;go_wp2;clear q03;go_loopw [27] (fun i wr=>∃t:Nat,t≤m∧i=.int .i64 (t:Int)∧Hid (RV w F p n nts pw pm u PV (ElG G labels) t wr)) (fun i _=>m-(intOf i).toNat)
 case atStart=>exact⟨0,Nat.zero_le _,rfl,hIz ⟨_,_,by rw[IS];exact HF.out,Lp1.begin PV _ n nts⟩⟩
 case round =>
  obtain⟨t,ht,rfl,hq⟩:=hrel;clear HF;by_cases hlt:t<m
  ·clear ht;-- ROUND1
   have hltI:(t:Int)<(m:Int):=by omega
   obtain⟨B,L,hM,hL1⟩:=hq.out;have hB:=hM.base HI.out.2.1 HI.out.2.2;obtain⟨v,hv⟩:∃v,PV[t]?=some v:=⟨_,gEz (by rw[HM.out];exact hlt)⟩;have hvm:=mG hv;have hok:=HI.out.1.sh v hvm;obtain⟨pb,po,rfl,c0,c1⟩:=(HI.out.1.pv.1.below3 hB).pv hv;have hrow:=(HI.out.1.pv.2 v hvm).below3 hB;obtain⟨⟨hd,bd⟩,bA,bc⟩:=v;dsimp only at c0 c1 hrow
   obtain⟨a,rfl⟩:∃a:Nat,hd=(a:Int):=⟨hd.toNat,by have:=hok.g.h0;dsimp only at this;omega⟩;have ha:a<nts:=by have:=hok.g.h1;dsimp only at this;omega
   have haI:(a:Int)<(nts:Int):=by omega
   rcases bd with _|⟨s,_|⟨r,_|⟨y,bd⟩⟩⟩
   ·have c1:wr.cell? ⟨pb,po+t*2+1,none⟩=some (.slice bA 0 bc):=c1;have kb:=Blk.new wr 71 #[.int .i64 (a:Int),.slice bA 0 bc];have b1:Below wr.heap.size wr (wr.alloc (.cells #[.int .i64 (a:Int),.slice bA 0 bc] 71)):=bR.alloc (Nat.le_refl _) _;obtain⟨FC,hcl,hturn⟩:=(hM.box (.cells #[.int .i64 (a:Int),.slice bA 0 bc] 71)).turn;have hcon:=CQ (wr.alloc (.cells #[.int .i64 (a:Int),.slice bA 0 bc] 71)) FC p n nts B hcl a bA bc ha q1n HN64.out (ElG G labels) (.slice LA labels.length cl) (.pointer (some ⟨pg,0,none⟩));have e0:(wr.alloc (.cells #[.int .i64 (a:Int),.slice bA 0 bc] 71)).cell? ⟨wr.heap.size,0,none⟩=some (.int .i64 (a:Int)):=kb.cell 0;have e1:(wr.alloc (.cells #[.int .i64 (a:Int),.slice bA 0 bc] 71)).cell? ⟨wr.heap.size,1,none⟩=some (.slice bA 0 bc):=kb.cell 1;have HT:=aI6 hturn e0 e1 hL1 hv hq.out;clear hM hL1 hv hvm hok hrow kb b1 hcl hturn hB hq;go_wp2_with fail;refine hcon.mono ?_;clear hcon e0 e1 c0 c1;rintro e V2 ⟨mm,hg,he,hto⟩;obtain⟨hM2,-,hX2⟩:=HT.out.1 _ V2 hto;have c20:V2.cell? ⟨wr.heap.size,0,none⟩=some (.int .i64 (a:Int)):=(hX2 _ 0 rfl).trans HT.out.2.1;have c21:V2.cell? ⟨wr.heap.size,1,none⟩=some (.slice bA 0 bc):=(hX2 _ 1 rfl).trans HT.out.2.2.1;have HG:=hIz hg;cases hmo:dY (B ((a:Int)).toNat) mm
    ·rw[show(⟨(a:Int),[]⟩:Pr).head=(a:Int) from rfl,hmo] at he;subst he;have FIN:=hIz (show RV w F p n nts pw pm u PV (ElG G labels) (t+1) V2 from by
      have hl:=HT.out.2.2.2.1.one HT.out.2.2.2.2.1 HI.out.1.sh HN64.out HEL.out HG.out (L':=L) (by
       rw[if_neg (by rw[show(⟨⟨(a:Int),[]⟩,bA,bc⟩:Pv).pr.head=(a:Int) from rfl,hmo];exact nofun)])
      exact⟨_,L,by rw[hl.2];exact hM2.bare,hl.1⟩)
     clear hM2 hX2 hto hg hmo;go_wp2;go_roundw
     case rel=>exact⟨t+1,by omega,by go_num,FIN⟩
     case measure=>simp[intOf];omega
    ·rw[show(⟨(a:Int),[]⟩:Pr).head=(a:Int) from rfl,hmo] at he;subst he;obtain⟨lv,hwk,hwork⟩:=hM2.work;have hput:=tO V2 pw pm nts lv L hwk q5 a ha;have HW:=aI3 hwork hmo c21;clear hM2 hX2 hto hg hmo hwk hwork c21;go_wp2_with fail;refine hput.mono ?_;clear hput;rintro e V3 ⟨rfl,hwt⟩;obtain⟨⟨L',hPu,hM3⟩,-,hX3⟩:=HW.out.1 _ _ hwt;have c31:V3.cell? ⟨wr.heap.size,1,none⟩=some (.slice bA 0 bc):=(hX3 _ 1 rfl).trans HW.out.2.2;have FIN:=hIz (show RV w F p n nts pw pm u PV (ElG G labels) (t+1) V3 from by
      have hl:=HT.out.2.2.2.1.one HT.out.2.2.2.2.1 HI.out.1.sh HN64.out HEL.out HG.out (L':=L') (by
       rw[if_pos (by rw[show(⟨⟨(a:Int),[]⟩,bA,bc⟩:Pv).pr.head=(a:Int) from rfl];exact HW.out.2.1)];exact hPu)
      exact⟨_,L',by rw[hl.2];exact hM3.bare,hl.1⟩)
     clear hPu hM3 hX3 hwt;go_wp2;go_roundw
     case rel=>exact⟨t+1,by omega,by go_num,FIN⟩
     case measure=>simp[intOf];omega
   ·have c1:wr.cell? ⟨pb,po+t*2+1,none⟩=some (.slice bA 1 bc):=c1;have kb:=Blk.new wr 71 #[.int .i64 (a:Int),.slice bA 1 bc];have b1:Below wr.heap.size wr (wr.alloc (.cells #[.int .i64 (a:Int),.slice bA 1 bc] 71)):=bR.alloc (Nat.le_refl _) _;obtain⟨FC,hcl,hturn⟩:=(hM.box (.cells #[.int .i64 (a:Int),.slice bA 1 bc] 71)).turn;have hs:=hok.one s rfl;obtain⟨slab,sat⟩:=s;dsimp only at hs
    obtain⟨sk,rfl⟩:∃sk:Nat,sat=(sk:Int):=⟨sat.toNat,by omega⟩;obtain⟨lb,hlb⟩:∃lb,labels[sk]?=some lb:=⟨_,gEz (by omega)⟩;have hB1:=tHn hB b1;have hcon:=CS (wr.alloc (.cells #[.int .i64 (a:Int),.slice bA 1 bc] 71)) FC p n nts B hcl a sk slab bA bc (hrow.below3 b1) ha q1n HN64.out LA cl labels (HI.out.1.lab.below3 hB1) lb hlb Fg pg G (HI.out.1.gr.below hB1) HI.out.1.ok HI.out.1.hn;clear hs hB1 hlb;have e0:(wr.alloc (.cells #[.int .i64 (a:Int),.slice bA 1 bc] 71)).cell? ⟨wr.heap.size,0,none⟩=some (.int .i64 (a:Int)):=kb.cell 0;have e1:(wr.alloc (.cells #[.int .i64 (a:Int),.slice bA 1 bc] 71)).cell? ⟨wr.heap.size,1,none⟩=some (.slice bA 1 bc):=kb.cell 1;have HT:=aI6 hturn e0 e1 hL1 hv hq.out;clear hM hL1 hv hvm hok hrow kb b1 hcl hturn hB hq;go_wp2_with fail;refine hcon.mono ?_;clear hcon e0 e1 c0 c1;rintro e V2 ⟨mm,hg,he,hto⟩;obtain⟨hM2,-,hX2⟩:=HT.out.1 _ V2 hto;have c20:V2.cell? ⟨wr.heap.size,0,none⟩=some (.int .i64 (a:Int)):=(hX2 _ 0 rfl).trans HT.out.2.1;have c21:V2.cell? ⟨wr.heap.size,1,none⟩=some (.slice bA 1 bc):=(hX2 _ 1 rfl).trans HT.out.2.2.1;have HG:=hIz hg;cases hmo:dY (B ((a:Int)).toNat) mm
    ·rw[show(⟨(a:Int),[⟨slab,(sk:Int)⟩]⟩:Pr).head=(a:Int) from rfl,hmo] at he;subst he;have FIN:=hIz (show RV w F p n nts pw pm u PV (ElG G labels) (t+1) V2 from by
      have hl:=HT.out.2.2.2.1.one HT.out.2.2.2.2.1 HI.out.1.sh HN64.out HEL.out HG.out (L':=L) (by
       rw[if_neg (by rw[show(⟨⟨(a:Int),[⟨slab,(sk:Int)⟩]⟩,bA,bc⟩:Pv).pr.head=(a:Int) from rfl,hmo];exact nofun)])
      exact⟨_,L,by rw[hl.2];exact hM2.bare,hl.1⟩)
     clear hM2 hX2 hto hg hmo;go_wp2;go_roundw
     case rel=>exact⟨t+1,by omega,by go_num,FIN⟩
     case measure=>simp[intOf];omega
    ·rw[show(⟨(a:Int),[⟨slab,(sk:Int)⟩]⟩:Pr).head=(a:Int) from rfl,hmo] at he;subst he;obtain⟨lv,hwk,hwork⟩:=hM2.work;have hput:=tO V2 pw pm nts lv L hwk q5 a ha;have HW:=aI3 hwork hmo c21;clear hM2 hX2 hto hg hmo hwk hwork c21;go_wp2_with fail;refine hput.mono ?_;clear hput;rintro e V3 ⟨rfl,hwt⟩;obtain⟨⟨L',hPu,hM3⟩,-,hX3⟩:=HW.out.1 _ _ hwt;have c31:V3.cell? ⟨wr.heap.size,1,none⟩=some (.slice bA 1 bc):=(hX3 _ 1 rfl).trans HW.out.2.2;have FIN:=hIz (show RV w F p n nts pw pm u PV (ElG G labels) (t+1) V3 from by
      have hl:=HT.out.2.2.2.1.one HT.out.2.2.2.2.1 HI.out.1.sh HN64.out HEL.out HG.out (L':=L') (by
       rw[if_pos (by rw[show(⟨⟨(a:Int),[⟨slab,(sk:Int)⟩]⟩,bA,bc⟩:Pv).pr.head=(a:Int) from rfl];exact HW.out.2.1)];exact hPu)
      exact⟨_,L',by rw[hl.2];exact hM3.bare,hl.1⟩)
     clear hPu hM3 hX3 hwt;go_wp2;go_roundw
     case rel=>exact⟨t+1,by omega,by go_num,FIN⟩
     case measure=>simp[intOf];omega
   ·have c1:wr.cell? ⟨pb,po+t*2+1,none⟩=some (.slice bA 2 bc):=c1;have hg2:=hok.g.two s r rfl;obtain⟨la,sb⟩:=s;obtain⟨lb,sc⟩:=r;dsimp only at hg2
    obtain⟨b,rfl⟩:∃b:Nat,sb=(b:Int):=⟨sb.toNat,by omega⟩;obtain⟨c,rfl⟩:∃c:Nat,sc=(c:Int):=⟨sc.toNat,by omega⟩;have hqb:b<nts:=by omega
    have hqc:c<nts:=by omega
    have hbI:(b:Int)<(nts:Int):=by omega
    have hcI:(c:Int)<(nts:Int):=by omega
    obtain⟨gb,go,rfl,-⟩:=hrow 0 (.bool la) rfl;have kb:=Blk.new wr 71 #[.int .i64 (a:Int),.slice (some ⟨gb,go,none⟩) 2 bc];have hcon:=CR (wr.alloc (.cells #[.int .i64 (a:Int),.slice (some ⟨gb,go,none⟩) 2 bc] 71)) p (a:Int) (some ⟨gb,go,none⟩) 2 bc (Nat.le_refl _) (.slice LA labels.length cl) (.pointer (some ⟨pg,0,none⟩));have e0:(wr.alloc (.cells #[.int .i64 (a:Int),.slice (some ⟨gb,go,none⟩) 2 bc] 71)).cell? ⟨wr.heap.size,0,none⟩=some (.int .i64 (a:Int)):=kb.cell 0;have e1:(wr.alloc (.cells #[.int .i64 (a:Int),.slice (some ⟨gb,go,none⟩) 2 bc] 71)).cell? ⟨wr.heap.size,1,none⟩=some (.slice (some ⟨gb,go,none⟩) 2 bc):=kb.cell 1;have HT:=aI4 (hM.box (.cells #[.int .i64 (a:Int),.slice (some ⟨gb,go,none⟩) 2 bc] 71)) kb hL1 hv;have HQ:=hIz (show ∀W,Below W0.heap.size W0 W→W.cell? ⟨gb,go+1,none⟩=some (.int .i64 (b:Int))∧W.cell? ⟨gb,go+3,none⟩=some (.int .i64 (c:Int)) from fun W hW=>by
     have hr2:=(HI.out.1.pv.2 _ hvm).below3 hW;obtain⟨b',o',e,d1⟩:=hr2 1 (.int .i64 (b:Int)) rfl;injection e with e;injection e with e1 e2;subst e1;subst e2;obtain⟨b',o',e,d3⟩:=hr2 3 (.int .i64 (c:Int)) rfl;injection e with e;injection e with e1 e2;subst e1;subst e2;exact⟨d1,d3⟩)
    have hlen9:∀k,(iI PV t k).length≤8192:=fun k=>by have:=AS PV t k;have:=HM.out;omega
    have HLEN:=hIz hlen9;clear hM hL1 hv hvm hok hrow kb hB hq hg2 hlen9;go_wp2_with fail;refine hcon.mono ?_;clear hcon e0 e1 c0 c1;rintro e V2 ⟨rfl,hb2⟩;have k2:=HT.out.2.1.upd (upF hb2) id;have hM2:=HT.out.1.below hb2;have H2:=hIz (show kI w V2 F p n nts pw pm u (fun k=>k=wr.heap.size) B L (iI PV t)∧V2.cell? ⟨wr.heap.size,0,none⟩=some (.int .i64 (a:Int))∧V2.cell? ⟨wr.heap.size,1,none⟩=some (.slice (some ⟨gb,go,none⟩) 2 bc)∧V2.cell? ⟨gb,go+1,none⟩=some (.int .i64 (b:Int))∧V2.cell? ⟨gb,go+3,none⟩=some (.int .i64 (c:Int)) from⟨hM2,k2.cell 0,k2.cell 1,HQ.out V2 (hM2.base HI.out.2.1 HI.out.2.2)⟩);clear hM2;have c21:V2.cell? ⟨wr.heap.size,1,none⟩=some (.slice (some ⟨gb,go,none⟩) 2 bc):=k2.cell 1;clear k2 hb2;generalize wr.heap.size=z1 at H2 c21 ⊢;have hMd:=H2.out.1.below (V':=V2.drew) (bR.drew);obtain⟨A1,c1,A2,c2,W2,qu,happ,qu2,fu2,hu2,hX2,hMn,hXn⟩:=hMd.push (k:=b) hqb ⟨⟨(a:Int),[⟨la,(b:Int)⟩,⟨lb,(c:Int)⟩]⟩,some ⟨gb,go,none⟩,bc⟩ (by have:=HLEN.out b;omega);have HNEW:=aI3 hMn ((hXn z1 0 rfl).trans H2.out.2.1) ((hXn z1 1 rfl).trans H2.out.2.2.1);obtain⟨n1,hn1⟩:∃n1,(iI PV t b).length=n1:=⟨_,rfl⟩;rw[hn1] at qu happ qu2 HNEW;have hS:(fun X:World=>X.cell? ⟨z1,0,none⟩=some (.int .i64 (a:Int))∧X.cell? ⟨z1,1,none⟩=some (.slice (some ⟨gb,go,none⟩) 2 bc)∧X.cell? ⟨gb,go+1,none⟩=some (.int .i64 (b:Int))∧X.cell? ⟨u,b,none⟩=some (.slice A1 n1 c1)) V2.drew:=⟨H2.out.2.1,H2.out.2.2.1,H2.out.2.2.2.1,qu⟩;replace happ:(Builtin.append_ #[48,48] 48 #[.slice A1 n1 c1,.slice (some ⟨V2.drew.heap.size,0,none⟩) 1 1]).run Tryz.prog (V2.drew.alloc (.cells #[.int .i64 (a:Int),.slice (some ⟨gb,go,none⟩) 2 bc] 71))=.ok (.slice A2 (n1+1) c2) W2:=happ
    have hSW:(fun X:World=>X.cell? ⟨z1,0,none⟩=some (.int .i64 (a:Int))∧X.cell? ⟨z1,1,none⟩=some (.slice (some ⟨gb,go,none⟩) 2 bc)∧X.cell? ⟨gb,go+1,none⟩=some (.int .i64 (b:Int))∧X.cell? ⟨u,b,none⟩=some (.slice A1 n1 c1)) W2:=by
     have hb9:=((H2.out.1.base HI.out.2.1 HI.out.2.2).drew).trans (hu2.below (fun i _ hi=>Nat.le_trans HI.out.2.1.size hi) ((H2.out.1.base HI.out.2.1 HI.out.2.2).drew).size);exact⟨(hX2 z1 0 rfl).trans H2.out.2.1,(hX2 z1 1 rfl).trans H2.out.2.2.1,(HQ.out W2 hb9).1,qu2⟩
    have hSA:(fun X:World=>X.cell? ⟨z1,0,none⟩=some (.int .i64 (a:Int))∧X.cell? ⟨z1,1,none⟩=some (.slice (some ⟨gb,go,none⟩) 2 bc)∧X.cell? ⟨gb,go+1,none⟩=some (.int .i64 (b:Int))∧X.cell? ⟨u,b,none⟩=some (.slice A1 n1 c1)) (V2.drew.alloc (.cells #[.int .i64 (a:Int),.slice (some ⟨gb,go,none⟩) 2 bc] 71)):=by
     have hb9:Below V2.drew.heap.size V2.drew (V2.drew.alloc (.cells #[.int .i64 (a:Int),.slice (some ⟨gb,go,none⟩) 2 bc] 71)):=bR.alloc (Nat.le_refl _) _;exact⟨bQ hb9 hS.1,bQ hb9 hS.2.1,bQ hb9 hS.2.2.1,bQ hb9 hS.2.2.2⟩
    clear hMd hMn hXn qu hn1 hu2 hX2;obtain⟨n2,hn2⟩:∃n2,n1+1=n2:=⟨_,rfl⟩;rw[hn2] at happ HNEW;clear hn2;go_upto_region 9 with (fail);refine bL (fun X:World=>X.cell? ⟨z1,0,none⟩=some (.int .i64 (a:Int))∧X.cell? ⟨z1,1,none⟩=some (.slice (some ⟨gb,go,none⟩) 2 bc)∧X.cell? ⟨gb,go+1,none⟩=some (.int .i64 (b:Int))∧X.cell? ⟨u,b,none⟩=some (.slice A1 n1 c1)) (aM 18) (by kernel_rfl) ?_;generalize V2.drew=VD at happ hS hSA ⊢;intro hd;(refine aB 0 rfl hd hS ?_;clear hd;intro hd;(try simp only[Act.put,gA,gZ,sA,sZ,sS]))
    refine aB 1 rfl hd hS ?_;clear hd;intro hd;refine aB 2 rfl hd hS ?_;clear hd;intro hd;refine aB 3 rfl hd hS ?_;clear hd;intro hd;refine aB 4 rfl hd hS ?_;clear hd;intro hd;refine aB 5 rfl hd hS ?_;clear hd;intro hd;refine aB 6 rfl hd hS ?_;clear hd;intro hd;refine aB 7 rfl hd hS ?_;clear hd;intro hd;refine aB 8 rfl hd hS ?_;clear hd;intro hd;refine aB 9 rfl hd hS ?_;clear hd;intro hd;refine aB 10 rfl hd hS ?_;clear hd;intro hd;refine aB 11 rfl hd hS ?_;clear hd;intro hd;refine aB 12 rfl hd hS ?_;clear hd;intro hd;refine aB 13 rfl hd hS ?_;clear hd;intro hd;refine aB 14 rfl hd hS ?_;clear hd;intro hd;clear hS;refine aO hd 15 ?_;clear hd;intro hd;refine aV (S:=(fun X:World=>X.cell? ⟨z1,0,none⟩=some (.int .i64 (a:Int))∧X.cell? ⟨z1,1,none⟩=some (.slice (some ⟨gb,go,none⟩) 2 bc)∧X.cell? ⟨gb,go+1,none⟩=some (.int .i64 (b:Int))∧X.cell? ⟨u,b,none⟩=some (.slice A1 n1 c1))) (late:=aM 18) rfl rfl (fun K hK=>?_);go_simp;refine hK _ _ (fun _ _=>hSA) ?_;clear hK K;(try simp only[Act.put,gA,gS,gZ,sA,sZ,sS])
    refine aO hd 16 ?_;clear hd;intro hd;refine aV (S:=(fun X:World=>X.cell? ⟨z1,0,none⟩=some (.int .i64 (a:Int))∧X.cell? ⟨z1,1,none⟩=some (.slice (some ⟨gb,go,none⟩) 2 bc)∧X.cell? ⟨gb,go+1,none⟩=some (.int .i64 (b:Int))∧X.cell? ⟨u,b,none⟩=some (.slice A1 n1 c1))) (late:=aM 18) rfl rfl (fun K hK=>?_);refine bX _ _ _ rfl rfl rfl happ ?_;refine hK _ _ (fun _ _=>hSW) ?_;clear hK K happ;(try simp only[Act.put,gA,gS,gZ,sA,sZ,sS])
    have hS:=hSW;refine aB 17 rfl hd hS ?_;clear hd;intro hd;clear hS;refine aO hd 18 ?_;clear hd;intro hd;refine aV (S:=(fun X:World=>X.cell? ⟨z1,0,none⟩=some (.int .i64 (a:Int))∧X.cell? ⟨z1,1,none⟩=some (.slice (some ⟨gb,go,none⟩) 2 bc)∧X.cell? ⟨gb,go+1,none⟩=some (.int .i64 (b:Int))∧X.cell? ⟨u,b,none⟩=some (.slice A1 n1 c1))) (late:=aM 18) rfl rfl (fun K hK=>?_);go_simp;refine hK _ _ (fun h _=>absurd h (by decide)) ?_;clear hK K;(try simp only[Act.put,gA,gS,gZ,sA,sZ,sS])
    refine dB (by kernel_rfl) ?_;clear qu2 fu2 hSA hSW;generalize W2.setCell ⟨u,b,none⟩ (.slice A2 n2 c2)=W3 at HNEW ⊢;clear c21;have H3:=aI4 HNEW.out.1 HNEW.out.2.1 HNEW.out.2.2 (HQ.out W3 (HNEW.out.1.base HI.out.2.1 HI.out.2.2));clear HNEW;go_upto_region 10 with (fail);have d1:=H3.out.2.2.1;have d2:=H3.out.2.2.2.1;have d3:=H3.out.2.2.2.2;have hbd:=hIz (show ∀n,Below W3.heap.size W3 (W3.drewN n) from fun n=>⟨rfl,rfl,rfl,Nat.le_refl _,fun _ _=>rfl⟩);by_cases hbc:b=c
    ·subst hbc;go_quiet (fail)
     clear d1 d2 d3;have FIN:=hIz (show RV w F p n nts pw pm u PV (ElG G labels) (t+1) (W3.drewN nq) from by
      have hM3:=H3.out.1.below (hbd.out nq);rw[ND HT.out.2.2.2 rfl] at hM3;exact⟨B,L,hM3.bare,HT.out.2.2.1.two HT.out.2.2.2 rfl⟩)
     clear H3;go_wp2;go_roundw
     case rel=>exact⟨t+1,by omega,by go_num,FIN⟩
     case measure=>simp[intOf];omega
    ·have hbn:((c:Int) != (b:Int))=true:=by simp;omega
     go_quiet (fail)
     clear d1 d2 d3 hbn;obtain⟨Q1,hQ1⟩:∃Q1,(fun q=>if q=b then iI PV t b++[⟨⟨(a:Int),[⟨la,(b:Int)⟩,⟨lb,(c:Int)⟩]⟩,some ⟨gb,go,none⟩,bc⟩] else iI PV t q)=Q1:=⟨_,rfl⟩;have hQc:(Q1 c).length≤1000000:=by
      rw[← hQ1];dsimp only
      rw[if_neg (fun e=>hbc e.symm)];have:=HLEN.out c;omega
     have H4:=hIz (show kI w (W3.drewN nq) F p n nts pw pm u (fun k=>k=z1) B L Q1∧(W3.drewN nq).cell? ⟨z1,0,none⟩=some (.int .i64 (a:Int))∧(W3.drewN nq).cell? ⟨z1,1,none⟩=some (.slice (some ⟨gb,go,none⟩) 2 bc)∧(W3.drewN nq).cell? ⟨gb,go+1,none⟩=some (.int .i64 (b:Int))∧(W3.drewN nq).cell? ⟨gb,go+3,none⟩=some (.int .i64 (c:Int)) from⟨by rw[← hQ1];exact H3.out.1.below (hbd.out nq),H3.out.2⟩);have HQ1:=hIz hQ1;clear H3 hQ1 hbd;generalize W3.drewN nq=W4 at H4 ⊢;have hMd:=H4.out.1.below (V':=W4.drew) (bR.drew);obtain⟨A1,c1,A2,c2,W2,qu,happ,qu2,fu2,hu2,hX2,hMn,hXn⟩:=hMd.push (k:=c) hqc ⟨⟨(a:Int),[⟨la,(b:Int)⟩,⟨lb,(c:Int)⟩]⟩,some ⟨gb,go,none⟩,bc⟩ (hQc);have HNEW:=aI3 hMn ((hXn z1 0 rfl).trans H4.out.2.1) ((hXn z1 1 rfl).trans H4.out.2.2.1);obtain⟨n1,hn1⟩:∃n1,(Q1 c).length=n1:=⟨_,rfl⟩;rw[hn1] at qu happ qu2 HNEW;have hS:(fun X:World=>X.cell? ⟨z1,0,none⟩=some (.int .i64 (a:Int))∧X.cell? ⟨z1,1,none⟩=some (.slice (some ⟨gb,go,none⟩) 2 bc)∧X.cell? ⟨gb,go+3,none⟩=some (.int .i64 (c:Int))∧X.cell? ⟨u,c,none⟩=some (.slice A1 n1 c1)) W4.drew:=⟨H4.out.2.1,H4.out.2.2.1,H4.out.2.2.2.2,qu⟩;replace happ:(Builtin.append_ #[48,48] 48 #[.slice A1 n1 c1,.slice (some ⟨W4.drew.heap.size,0,none⟩) 1 1]).run Tryz.prog (W4.drew.alloc (.cells #[.int .i64 (a:Int),.slice (some ⟨gb,go,none⟩) 2 bc] 71))=.ok (.slice A2 (n1+1) c2) W2:=happ
     have hSW:(fun X:World=>X.cell? ⟨z1,0,none⟩=some (.int .i64 (a:Int))∧X.cell? ⟨z1,1,none⟩=some (.slice (some ⟨gb,go,none⟩) 2 bc)∧X.cell? ⟨gb,go+3,none⟩=some (.int .i64 (c:Int))∧X.cell? ⟨u,c,none⟩=some (.slice A1 n1 c1)) W2:=by
      have hb9:=((H4.out.1.base HI.out.2.1 HI.out.2.2).drew).trans (hu2.below (fun i _ hi=>Nat.le_trans HI.out.2.1.size hi) ((H4.out.1.base HI.out.2.1 HI.out.2.2).drew).size);exact⟨(hX2 z1 0 rfl).trans H4.out.2.1,(hX2 z1 1 rfl).trans H4.out.2.2.1,(HQ.out W2 hb9).2,qu2⟩
     have hSA:(fun X:World=>X.cell? ⟨z1,0,none⟩=some (.int .i64 (a:Int))∧X.cell? ⟨z1,1,none⟩=some (.slice (some ⟨gb,go,none⟩) 2 bc)∧X.cell? ⟨gb,go+3,none⟩=some (.int .i64 (c:Int))∧X.cell? ⟨u,c,none⟩=some (.slice A1 n1 c1)) (W4.drew.alloc (.cells #[.int .i64 (a:Int),.slice (some ⟨gb,go,none⟩) 2 bc] 71)):=by
      have hb9:Below W4.drew.heap.size W4.drew (W4.drew.alloc (.cells #[.int .i64 (a:Int),.slice (some ⟨gb,go,none⟩) 2 bc] 71)):=bR.alloc (Nat.le_refl _) _;exact⟨bQ hb9 hS.1,bQ hb9 hS.2.1,bQ hb9 hS.2.2.1,bQ hb9 hS.2.2.2⟩
     clear hMd hMn hXn qu hn1 hu2 hX2;obtain⟨n2,hn2⟩:∃n2,n1+1=n2:=⟨_,rfl⟩;rw[hn2] at happ HNEW;clear hn2;go_upto_region 11 with (fail);refine bL (fun X:World=>X.cell? ⟨z1,0,none⟩=some (.int .i64 (a:Int))∧X.cell? ⟨z1,1,none⟩=some (.slice (some ⟨gb,go,none⟩) 2 bc)∧X.cell? ⟨gb,go+3,none⟩=some (.int .i64 (c:Int))∧X.cell? ⟨u,c,none⟩=some (.slice A1 n1 c1)) (aM 18) (by kernel_rfl) ?_;generalize W4.drew=VD at happ hS hSA ⊢;intro hd;(refine aB 0 rfl hd hS ?_;clear hd;intro hd;(try simp only[Act.put,gA,gZ,sA,sZ,sS]))
     refine aB 1 rfl hd hS ?_;clear hd;intro hd;refine aB 2 rfl hd hS ?_;clear hd;intro hd;refine aB 3 rfl hd hS ?_;clear hd;intro hd;refine aB 4 rfl hd hS ?_;clear hd;intro hd;refine aB 5 rfl hd hS ?_;clear hd;intro hd;refine aB 6 rfl hd hS ?_;clear hd;intro hd;refine aB 7 rfl hd hS ?_;clear hd;intro hd;refine aB 8 rfl hd hS ?_;clear hd;intro hd;refine aB 9 rfl hd hS ?_;clear hd;intro hd;refine aB 10 rfl hd hS ?_;clear hd;intro hd;refine aB 11 rfl hd hS ?_;clear hd;intro hd;refine aB 12 rfl hd hS ?_;clear hd;intro hd;refine aB 13 rfl hd hS ?_;clear hd;intro hd;refine aB 14 rfl hd hS ?_;clear hd;intro hd;clear hS;refine aO hd 15 ?_;clear hd;intro hd;refine aV (S:=(fun X:World=>X.cell? ⟨z1,0,none⟩=some (.int .i64 (a:Int))∧X.cell? ⟨z1,1,none⟩=some (.slice (some ⟨gb,go,none⟩) 2 bc)∧X.cell? ⟨gb,go+3,none⟩=some (.int .i64 (c:Int))∧X.cell? ⟨u,c,none⟩=some (.slice A1 n1 c1))) (late:=aM 18) rfl rfl (fun K hK=>?_);go_simp;refine hK _ _ (fun _ _=>hSA) ?_;clear hK K;(try simp only[Act.put,gA,gS,gZ,sA,sZ,sS])
     refine aO hd 16 ?_;clear hd;intro hd;refine aV (S:=(fun X:World=>X.cell? ⟨z1,0,none⟩=some (.int .i64 (a:Int))∧X.cell? ⟨z1,1,none⟩=some (.slice (some ⟨gb,go,none⟩) 2 bc)∧X.cell? ⟨gb,go+3,none⟩=some (.int .i64 (c:Int))∧X.cell? ⟨u,c,none⟩=some (.slice A1 n1 c1))) (late:=aM 18) rfl rfl (fun K hK=>?_);refine bX _ _ _ rfl rfl rfl happ ?_;refine hK _ _ (fun _ _=>hSW) ?_;clear hK K happ;(try simp only[Act.put,gA,gS,gZ,sA,sZ,sS])
     have hS:=hSW;refine aB 17 rfl hd hS ?_;clear hd;intro hd;clear hS;refine aO hd 18 ?_;clear hd;intro hd;refine aV (S:=(fun X:World=>X.cell? ⟨z1,0,none⟩=some (.int .i64 (a:Int))∧X.cell? ⟨z1,1,none⟩=some (.slice (some ⟨gb,go,none⟩) 2 bc)∧X.cell? ⟨gb,go+3,none⟩=some (.int .i64 (c:Int))∧X.cell? ⟨u,c,none⟩=some (.slice A1 n1 c1))) (late:=aM 18) rfl rfl (fun K hK=>?_);go_simp;refine hK _ _ (fun h _=>absurd h (by decide)) ?_;clear hK K;(try simp only[Act.put,gA,gS,gZ,sA,sZ,sS])
     refine dB (by kernel_rfl) ?_;clear qu2 fu2 hSA hSW;generalize W2.setCell ⟨u,c,none⟩ (.slice A2 n2 c2)=W5 at HNEW ⊢;have FIN:=hIz (show RV w F p n nts pw pm u PV (ElG G labels) (t+1) W5 from by
      have hM5:=HNEW.out.1;rw[← HQ1.out,RR HT.out.2.2.2 rfl hbc] at hM5;exact⟨B,L,hM5.bare,HT.out.2.2.1.two HT.out.2.2.2 rfl⟩)
     clear HNEW;go_wp2;go_roundw
     case rel=>exact⟨t+1,by omega,by go_num,FIN⟩
     case measure=>simp[intOf];omega
   ·exfalso
    have:=hok.few;simp at this
   -- REST
  ·obtain rfl:t=m:=by omega
   obtain⟨B0,L0,hM0,hL10⟩:=hq.out;have hE0:FiI (PV.map (·.pr)) (ElG G labels) n nts B0 L0 (fun _=>True):=(show Lp1 PV (ElG G labels) n nts PV.length B0 L0 from by rw[HM.out];exact hL10).end_ HI.out.1.sh;have hM0:kI w wr F p n nts pw pm u NoX B0 L0 (iI PV PV.length):=by rw[HM.out];exact hM0
   have H0:=hIz (show ∃B L,kI w wr F p n nts pw pm u NoX B L (iI PV PV.length)∧FiI (PV.map (·.pr)) (ElG G labels) n nts B L (fun _=>True)∧2*yL B nts+L.length≤2*yL B0 nts+L0.length from⟨B0,L0,hM0,hE0,Nat.le_refl _⟩);generalize 2*yL B0 nts+L0.length=N0 at H0;clear hq hM0 hL10 hE0;go_wp2;go_loopg [] N0 (fun k wr=>Hid (∃B L,kI w wr F p n nts pw pm u NoX B L (iI PV PV.length)∧FiI (PV.map (·.pr)) (ElG G labels) n nts B L (fun _=>True)∧2*yL B nts+L.length≤k))
   case atStart=>exact H0
   case round =>
    clear H0;obtain⟨B,L,hM,hFi,hle⟩:=hrel.out;obtain⟨lv,hwk,hwork⟩:=hM.work;have hlen:=pK wr pw lv _ L hwk.ch;have hL5:=hwk.len;by_cases hL0:0<L.length
    ·have hpop:=NB wr pw lv _ L hwk.ch hwk.np (by omega) hL0;obtain⟨nl,hnl⟩:∃nl,L.length=nl:=⟨_,rfl⟩;rw[hnl] at hlen;have hlI:(0:Int)<(nl:Int):=by omega
     have HW:=aI4 hwork hwk hFi hle;clear hM hwork hwk hFi hle hrel hL5 hL0 hnl;go_wp2_with fail;refine hlen.mono ?_;clear hlen;rintro e VL ⟨rfl,hw⟩;subst VL;unfold chV at hpop;go_wp2_with fail;refine hpop.mono ?_;clear hpop;rintro e V1 ⟨x,rfl,htt⟩;obtain⟨k,rfl,hk,q1,⟨bb,qm⟩,fm,hwt⟩:=HW.out.2.1.pop htt;obtain⟨⟨L',hPm,hM2⟩,-,-⟩:=HW.out.1 _ _ hwt;have hkI:(k:Int)<(nts:Int):=by omega
     have h3:=Lp3.begin HW.out.2.2.1 HW.out.2.2.2 hPm;obtain⟨A,c,qu,-,-⟩:=hM2.use hk;have H3:=aI3 hM2 h3 qu;clear hM2 h3 htt hwt hPm HW;have hta:=fun T=>UM (k:Int) T V1
     go_upto_region 17 with (fail);clear q1 qm fm hta;generalize V1.setCell ⟨pm,k,none⟩ (.bool false)=V2 at H3 qu ⊢;obtain⟨ml,hml⟩:∃ml,(iI PV PV.length k).length=ml:=⟨_,rfl⟩;rw[hml] at qu;have HML:=hIz hml;have hm8:ml≤8192:=by have:=AS PV PV.length k;have:=HM.out;omega
     clear hml;go_wp2;clear qu;go_loopw [112] (fun i wz=>∃t:Nat,t≤ml∧i=.int .i64 (t:Int)∧Hid (∃B L,kI w wz F p n nts pw pm u NoX B L (iI PV PV.length)∧Lp3 PV (ElG G labels) n nts k t B L gk∧wz.cell? ⟨u,k,none⟩=some (.slice A (iI PV PV.length k).length c))) (fun i _=>ml-(intOf i).toNat)
     case atStart=>exact⟨0,Nat.zero_le _,rfl,hIz ⟨B,L',H3.out⟩⟩
     case round =>
      obtain⟨t,ht,rfl,hq⟩:=hrel;clear H3;by_cases hlt:t<ml
      ·have htI:(t:Int)<(ml:Int):=by omega
       obtain⟨B,L,hM,h3,hu⟩:=hq.out;obtain⟨v,hv⟩:∃v,(iI PV PV.length k)[t]?=some v:=⟨_,gEz (by rw[HML.out];exact hlt)⟩;obtain⟨hvm,hnm⟩:=AT (mG hv);obtain⟨⟨la,sb⟩,⟨lb,sc⟩,hbd,-⟩:=wJ hnm;have hok:=HI.out.1.sh v hvm;have hB:=hM.base HI.out.2.1 HI.out.2.2;obtain⟨A',c',hu',-,hrw⟩:=hM.use hk;rw[hu] at hu';injection hu' with hu';injection hu' with hA' _ hc';subst hA';subst hc';obtain⟨pb,po,rfl,c0,c1⟩:=hrw.pv hv;have hg2:=hok.g.two _ _ hbd;have hg0:=hok.g.h0;have hg1:=hok.g.h1;have hrow:=(HI.out.1.pv.2 _ hvm).below3 hB;obtain⟨⟨hd,bd⟩,bA,bc⟩:=v;dsimp only at hbd hg0 hg1 hg2 hrow c0 c1
       subst hbd;obtain⟨qa,rfl⟩:∃b:Nat,hd=(b:Int):=⟨hd.toNat,by omega⟩;obtain⟨qb,rfl⟩:∃b:Nat,sb=(b:Int):=⟨sb.toNat,by omega⟩;obtain⟨qc,rfl⟩:∃c:Nat,sc=(c:Int):=⟨sc.toNat,by omega⟩;have ha:qa<nts:=by omega
       have hb:qb<nts:=by omega
       have hc:qc<nts:=by omega
       have c1:wr.cell? ⟨pb,po+t*2+1,none⟩=some (.slice bA 2 bc):=c1;have kb:=Blk.new wr 71 #[.int .i64 (qa:Int),.slice bA 2 bc];have b1:Below wr.heap.size wr (wr.alloc (.cells #[.int .i64 (qa:Int),.slice bA 2 bc] 71)):=bR.alloc (Nat.le_refl _) _;have hB1:=tHn hB b1;obtain⟨FC,hcl,hturn⟩:=(hM.box (.cells #[.int .i64 (qa:Int),.slice bA 2 bc] 71)).turn;have hcon:=NC (wr.alloc (.cells #[.int .i64 (qa:Int),.slice bA 2 bc] 71)) FC p n n nts B hcl qa qb qc la lb bA bc (hrow.below3 b1) ha hb hc q5 HN64.out (HI.out.1.tab.upd (upF hB1) HI.out.1.htab id) (Nat.lt_of_lt_of_le HI.out.1.htab hB1.size) (h3.1.fit HEL.out hb hc);have e0:(wr.alloc (.cells #[.int .i64 (qa:Int),.slice bA 2 bc] 71)).cell? ⟨wr.heap.size,0,none⟩=some (.int .i64 (qa:Int)):=kb.cell 0;have e1:(wr.alloc (.cells #[.int .i64 (qa:Int),.slice bA 2 bc] 71)).cell? ⟨wr.heap.size,1,none⟩=some (.slice bA 2 bc):=kb.cell 1;have HT:=aI5 hturn e0 (bQ b1 hu) h3 hv;clear hM h3 hu hv hvm hnm hok hB hrw hg2 hg0 hg1 hrow kb b1 hB1 hcl hturn hq;go_wp2_with fail;refine hcon.mono ?_;clear hcon e0 e1 c0 c1;rintro e V3 ⟨he,hto⟩;obtain⟨hM3,hu3,hX3⟩:=HT.out.1 _ V3 hto;have c30:V3.cell? ⟨wr.heap.size,0,none⟩=some (.int .i64 (qa:Int)):=(hX3 _ 0 rfl).trans HT.out.2.1;cases hmo:dY (B qa) (mulO (B qb) (B qc))
       ·rw[hmo] at he;subst he;have FIN:=hIz (show ∃B L,kI w V3 F p n nts pw pm u NoX B L (iI PV PV.length)∧Lp3 PV (ElG G labels) n nts k (t+1) B L gk∧V3.cell? ⟨u,k,none⟩=some (.slice (some ⟨pb,po,none⟩) (iI PV PV.length k).length c) from by
         have hs:=HT.out.2.2.2.1.step HI.out.1.sh HT.out.2.2.2.2 rfl (L':=L) (by
          dsimp only
          rw[Int.toNat_natCast,Int.toNat_natCast,Int.toNat_natCast,if_neg (by rw[hmo];exact nofun)])
         dsimp only at hs
         rw[Int.toNat_natCast,Int.toNat_natCast,Int.toNat_natCast] at hs;exact⟨_,L,hM3.bare,hs,(hu3 k).trans HT.out.2.2.1⟩)
        clear hM3 hu3 hX3 hto hmo c30;go_wp2;go_roundw
        case rel=>exact⟨t+1,by omega,by go_num,FIN⟩
        case measure=>simp[intOf];omega
       ·rw[hmo] at he;subst he;obtain⟨lv,hwk,hwork⟩:=hM3.work;have hput:=tO V3 pw pm nts lv L hwk q5 qa ha;have HW:=aI3 hwork hmo (fun o=>(hu3 o));clear hM3 hu3 hX3 hto hmo hwk hwork;go_wp2_with fail;refine hput.mono ?_;clear hput c30;rintro e V4 ⟨rfl,hwt⟩;obtain⟨⟨L',hPu,hM4⟩,hu4,-⟩:=HW.out.1 _ _ hwt;have FIN:=hIz (show ∃B L,kI w V4 F p n nts pw pm u NoX B L (iI PV PV.length)∧Lp3 PV (ElG G labels) n nts k (t+1) B L gk∧V4.cell? ⟨u,k,none⟩=some (.slice (some ⟨pb,po,none⟩) (iI PV PV.length k).length c) from by
         have hs:=HT.out.2.2.2.1.step HI.out.1.sh HT.out.2.2.2.2 rfl (L':=L') (by
          dsimp only
          rw[Int.toNat_natCast,Int.toNat_natCast,Int.toNat_natCast,if_pos HW.out.2.1];exact hPu)
         dsimp only at hs
         rw[Int.toNat_natCast,Int.toNat_natCast,Int.toNat_natCast] at hs;exact⟨_,L',hM4.bare,hs,(hu4 k).trans ((HW.out.2.2 k).trans HT.out.2.2.1)⟩)
        clear hM4 hu4 hPu hwt;go_wp2;go_roundw
        case rel=>exact⟨t+1,by omega,by go_num,FIN⟩
        case measure=>simp[intOf];omega
      ·obtain rfl:t=ml:=by omega
       obtain⟨B3,L3,hM3,hl3,-⟩:=hq.out;have H4:=hIz (show ∃B L,kI w wr F p n nts pw pm u NoX B L (iI PV PV.length)∧FiI (PV.map (·.pr)) (ElG G labels) n nts B L (fun _=>True)∧2*yL B nts+L.length≤2*yL B3 nts+L3.length from⟨B3,L3,hM3,(show Lp3 PV (ElG G labels) n nts k (iI PV PV.length k).length B3 L3 gk from by rw[HML.out];exact hl3).end_,Nat.le_refl _⟩);have hlt3:=hl3.2;generalize 2*yL B3 nts+L3.length=g3 at H4 hlt3;clear hM3 hl3 hq;go_wp2;go_roundg g3
       case rel=>exact H4
       case measure=>omega
    ·have hnil:L=[]:=List.eq_nil_of_length_eq_zero (by omega);subst hnil;have FIN:=hIz (show UN w F p n nts PV labels G wr from by
      obtain⟨FC,lv,U,uv,hs⟩:=hM;exact⟨B,fun k hk i j=>hFi.done hk,hFi.wd,FC,hs.cl,hs.up,hs.c1⟩)
     clear hM hwork hwk hFi hle hrel hL5 hL0;have hlen:Calls Tryz.prog 113 #[.pointer (some ⟨pw,0,none⟩)] wr (kK wr (.int .i64 0)):=hlen;go_wp2_with fail;refine hlen.mono ?_;clear hlen;rintro e VL ⟨rfl,hw⟩;subst VL;go_wp2;exact bodyPost_end (results_none rfl _ _ _) rfl ⟨rfl,FIN.out⟩
open Go.RowKit Go.Shelf
def cO(nts:Int)(PV:List Pv)(labels:List Txt):Int:=
 if 16<labels.length∨nts<1∨512<nts∨8192<PV.length then 2 else if upB ltT labels=true∧∀v∈PV,aT v.pr nts labels.length=true then 0 else 2
theorem rF(w:World)(nts:Int)(PA:Option Addr)(pc:Nat)(PV:List Pv)(hP:PvR w PA PV)(LA:Option Addr)(cl:Nat)(labels:List Txt)(hlab:aU w LA (aE labels)) :
  Calls Tryz.prog 26 #[.agg #[.int .i64 nts,.slice PA PV.length pc],.slice LA labels.length cl] w (Sam w (.int .i64 (cO nts PV labels))):=by
 obtain⟨m,hm⟩:∃m,PV.length=m:=⟨_,rfl⟩;obtain⟨l,hl⟩:∃l,labels.length=l:=⟨_,rfl⟩;have b1:Below w.heap.size w (w.alloc (.cells #[.int .i64 nts,.slice PA m pc] 50)):=bR.alloc (Nat.le_refl _) _;have k1:=Blk.new w 50 #[.int .i64 nts,.slice PA m pc];have q0:(w.alloc (.cells #[.int .i64 nts,.slice PA m pc] 50)).cell? ⟨w.heap.size,0,none⟩=some (.int .i64 nts):=k1.cell 0;have q1:(w.alloc (.cells #[.int .i64 nts,.slice PA m pc] 50)).cell? ⟨w.heap.size,1,none⟩=some (.slice PA m pc):=k1.cell 1;have hv:cO nts PV labels=if 16<l∨nts<1∨512<nts∨8192<m then 2 else if upB ltT labels=true∧∀v∈PV,aT v.pr nts l=true then 0 else 2:=by
  unfold cO;rw[hm,hl]
 rw[hm,hl];have HM:=aI2 hm hl;have H:=aI4 b1 k1 hP hlab;have HV:=hIz hv;clear b1 k1 hP hlab hm hl hv;by_cases h1:16<l
 ·have FIN:=hIz (show cO nts PV labels=2 from by rw[HV.out,if_pos (.inl h1)]);have h1I:(16:Int)<(l:Int):=by omega
  go_enter Tryz.func26,Tryz.ntmps26;go_wp2;go_ret;exact⟨by rw[FIN.out];rfl,H.out.1⟩
 ·have h1I:¬(16:Int)<(l:Int):=by omega
  by_cases h2:nts<1
  ·have FIN:=hIz (show cO nts PV labels=2 from by rw[HV.out,if_pos (.inr (.inl h2))]);go_enter Tryz.func26,Tryz.ntmps26;go_wp2;go_ret;exact⟨by rw[FIN.out];rfl,H.out.1⟩
  ·by_cases h3:512<nts
   ·have FIN:=hIz (show cO nts PV labels=2 from by rw[HV.out,if_pos (.inr (.inr (.inl h3)))]);go_enter Tryz.func26,Tryz.ntmps26;go_wp2;go_ret;exact⟨by rw[FIN.out];rfl,H.out.1⟩
   ·by_cases h4:8192<m
    ·have FIN:=hIz (show cO nts PV labels=2 from by rw[HV.out,if_pos (.inr (.inr (.inr h4)))]);have h4I:(8192:Int)<(m:Int):=by omega
     go_enter Tryz.func26,Tryz.ntmps26;go_wp2;go_ret;exact⟨by rw[FIN.out];rfl,H.out.1⟩
    ·have h4I:¬(8192:Int)<(m:Int):=by omega
     have HV2:=hIz (show cO nts PV labels=if upB ltT labels=true∧∀v∈PV,aT v.pr nts l=true then 0 else 2 from by rw[HV.out,if_neg (by omega)]);clear HV;go_enter Tryz.func26,Tryz.ntmps26;go_wp2;generalize w.alloc (.cells #[.int .i64 nts,.slice PA m pc] 50)=W1 at H q0 q1 ⊢;clear q0 q1;go_loopw [5] (fun i wr=>∃k:Nat,(k≤l∧i=.int .i64 ((k:Int)+1))∧Hid (Below W1.heap.size W1 wr)∧Hid (∀j,j<k→∀a b,labels[j]?=some a→labels[j+1]?=some b→ltT a b=true)) (fun i _=>l+1-(intOf i).toNat)
     case atStart=>exact⟨0,⟨Nat.zero_le _,rfl⟩,hIz bR,hIz (fun j hj=>by omega)⟩
     case round =>
      obtain⟨k,⟨hk,rfl⟩,hb,hall⟩:=hrel;by_cases hlt:k+1<l
      ·have hkw:IntKind.i64.wrap (k:Int)=(k:Int):=IntWalk.i64_in _ (by omega);have hkw1:IntKind.i64.wrap ((k:Int)+1-1)=(k:Int):=by rw[IntWalk.i64_in _ (by omega)];omega
       have hkw2:IntKind.i64.wrap ((k:Int)+1+1)=(k:Int)+1+1:=IntWalk.i64_in _ (by omega);have hltI:(k:Int)+1<(l:Int):=by omega
       have hltI2:(k:Int)<(l:Int):=by omega
       have ht:((k:Int)+1).toNat=k+1:=by omega
       have hn0:(0:Int)≤(k:Int)+1:=by omega
       have h0:=(H.out.2.2.2.below3 H.out.1).below3 (hb.out);obtain⟨x,hx⟩:∃x,labels[k]?=some x:=⟨_,gEz (by rw[HM.out.2];omega)⟩;obtain⟨y,hy⟩:∃y,labels[k+1]?=some y:=⟨_,gEz (by rw[HM.out.2];omega)⟩;obtain⟨ab,ao,rfl,x0⟩:=h0.txt hx;obtain⟨_,_,e1,y0⟩:=h0.txt hy;injection e1 with e1;injection e1 with e1 e2;subst e1;subst e2;have HXY:=aI2 hx hy;clear h0 hx hy;go_upto_region 6 with (fail);refine aW (fun w'=>w'.cell? ⟨ab,ao+k,none⟩=some (.string x)∧w'.cell? ⟨ab,ao+(k+1),none⟩=some (.string y)) 11 [(0,true),(1,true),(2,true),(3,true),(4,true),(5,true),(6,true),(7,true),(8,true),(9,false),(10,true)] (by kernel_rfl) (by kernel_rfl) (fun _ _ d _ _ h=>by cases d <;> exact h) ⟨x0,y0⟩ ?_
       iterate 9 refine aC rfl ?_
       refine aN rfl rfl (fun K hK=>?_);go_simp;refine(eG x y _).mono ?_;rintro e w2 ⟨rfl,rfl⟩;have b2:Below wr.heap.size wr wr.drew:=bR.drew;have hcmp:=jG x y;obtain⟨v,hv⟩:∃v,kZ x y=v:=⟨_,rfl⟩;rw[hv] at hcmp ⊢;clear hv;refine hK _ _ (fun _=>⟨x0,y0⟩) ?_;clear hK K;(try simp only[Act.put,gA,gS,gZ,sA,sZ,sS])
       have HB:=hIz (tHn hb.out b2);have HC:=hIz hcmp;clear hcmp b2;by_cases hv:v<0
       ·have hv1:decide (0≤v)=false:=by simpa using hv
        have hlt2:ltT x y=true:=by rw[← HC.out];simpa using hv
        have HL:=hIz hlt2;clear hlt2;refine aC rfl ?_;refine aG ?_;go_wp2;go_roundw
        case rel=>exact⟨k+1,⟨by omega,by go_num⟩,HB,hIz (fun j hj a b ha hb=>by
         rcases Nat.lt_succ_iff_lt_or_eq.1 hj with h|rfl
         ·exact hall.out j h a b ha hb
         ·rw[HXY.out.1] at ha;rw[HXY.out.2] at hb;injection ha with ha;injection hb with hb;subst ha;subst hb;exact HL.out)⟩
        case measure=>simp[intOf];omega
       ·have hv1:decide (0≤v)=true:=by simpa using hv
        have hlt2:ltT x y=false:=by rw[← HC.out];simpa using hv
        have FIN:=hIz (show cO nts PV labels=2 from by
         rw[HV2.out,if_neg];intro h;rw[jX HXY.out.1 HXY.out.2 hlt2] at h;cases h.1)
        clear hlt2;refine aC rfl ?_;refine aG ?_;go_wp2;go_ret;exact⟨by rw[FIN.out];rfl,tHn H.out.1 HB.out⟩
      ·have hgeI:(l:Int)≤(k:Int)+1:=by omega
       have HUP:=hIz (show upB ltT labels=true from(jI labels).2 (fun i a b ha hb'=>by
        have:=(gO.1 hb').1;have:=HM.out.2;exact hall.out i (by omega) a b ha hb'))
       have k2:=H.out.2.1.upd (upF hb.out) id;have q0:wr.cell? ⟨w.heap.size,0,none⟩=some (.int .i64 nts):=k2.cell 0;have q1:wr.cell? ⟨w.heap.size,1,none⟩=some (.slice PA m pc):=k2.cell 1;have HB0:=hIz hb.out;clear k2 hall hb;go_wp2;generalize wr=W2 at HB0 q0 q1 ⊢;clear q1;go_loopw [47] (fun i wz=>∃t:Nat,t≤m∧i=.int .i64 (t:Int)∧Hid (Below W2.heap.size W2 wz)∧Hid (∀j,j<t→∀v,PV[j]?=some v→aT v.pr nts l=true)) (fun i _=>m-(intOf i).toNat)
       case atStart=>exact⟨0,Nat.zero_le _,rfl,hIz bR,hIz (fun j hj=>by omega)⟩
       case round =>
        obtain⟨t,ht,rfl,hb,hall⟩:=hrel;have bw:=H.out.1.trans ((tHn HB0.out hb.out).mono H.out.1.size);clear q0;by_cases hlt2:t<m
        ·have htI:(t:Int)<(m:Int):=by omega
         obtain⟨v,hv⟩:∃v,PV[t]?=some v:=⟨_,gEz (by rw[HM.out.1];omega)⟩;have hp:=H.out.2.2.1.below bw;obtain⟨pb,po,rfl,c0,c1⟩:=hp.1.pv hv;have hrow:=hp.2 v (mG hv);have q0:wr.cell? ⟨w.heap.size,0,none⟩=some (.int .i64 nts):=(H.out.2.1.upd (Upd.of_below (tHn HB0.out hb.out) (fun _=>False)) id).cell 0;have b1:Below wr.heap.size wr (wr.alloc (.cells #[.int .i64 v.pr.head,.slice v.adr v.pr.body.length v.cap] 71)):=bR.alloc (Nat.le_refl _) _;have kb:=Blk.new wr 71 #[.int .i64 v.pr.head,.slice v.adr v.pr.body.length v.cap];have e0:(wr.alloc (.cells #[.int .i64 v.pr.head,.slice v.adr v.pr.body.length v.cap] 71)).cell? ⟨wr.heap.size,0,none⟩=some (.int .i64 v.pr.head):=kb.cell 0;have e1:(wr.alloc (.cells #[.int .i64 v.pr.head,.slice v.adr v.pr.body.length v.cap] 71)).cell? ⟨wr.heap.size,1,none⟩=some (.slice v.adr v.pr.body.length v.cap):=kb.cell 1;have q01:=bQ b1 q0;have hcon:=IF (wr.alloc (.cells #[.int .i64 v.pr.head,.slice v.adr v.pr.body.length v.cap] 71)) v.pr v.adr v.cap (hrow.below3 b1) nts (l:Int);have HX:=aI3 hv b1 bw;clear hv hp hrow b1 kb bw q0;generalize v.pr.body.length=vl at *;go_wp2_with fail;refine hcon.mono ?_;clear hcon c0 c1 e0 e1 q01;rintro e V2 ⟨he,b2⟩;have HB5:=hIz (tHn HX.out.2.1 b2);cases hsh:aT v.pr nts (l:Int)
         ·rw[hsh] at he;subst he;have FIN:=hIz (show cO nts PV labels=2 from by
           rw[HV2.out,if_neg];intro h;rw[h.2 v (mG HX.out.1)] at hsh;cases hsh)
          clear b2 hsh;go_wp2;go_ret;exact⟨by rw[FIN.out];rfl,tHn HX.out.2.2 HB5.out⟩
         ·rw[hsh] at he;subst he;have FIN:=aI2 (tHn hb.out HB5.out) hsh;clear b2 hsh;go_wp2;go_roundw
          case rel=>exact⟨t+1,by omega,by go_num,hIz FIN.out.1,hIz (fun j hj v' hv'=>by
           rcases Nat.lt_succ_iff_lt_or_eq.1 hj with h|rfl
           ·exact hall.out j h v' hv'
           ·rw[HX.out.1] at hv';obtain rfl:=Option.some.inj hv';exact FIN.out.2)⟩
          case measure=>simp[intOf];omega
        ·have FIN:=hIz (show cO nts PV labels=0 from by
          exact(HV2.out).trans (if_pos ⟨HUP.out,fun v hv=>by
             obtain⟨j,hj⟩:=List.getElem?_of_mem hv;have:=(gO.1 hj).1;have:=HM.out.1;exact hall.out j (by omega) v hj⟩))
         have HBW:=hIz bw;clear bw hall hb;go_wp2;go_ret;exact⟨by rw[FIN.out];rfl,HBW.out⟩
open Go.RowKit Go.Shelf
theorem IU(w:World)(Fg:Nat→Prop)(pg:Nat)(G:Gr)(h:GrS w Fg pg G)(ok:GOk G)(h1:G.N.length≤1):Calls Tryz.prog 69 #[.pointer (some ⟨pg,0,none⟩)] w (Sam w (.bool true)):=by
 have hcon:=wH w Fg pg G h ok ByteArray.empty 1 h1 (Nat.le_refl _) (by omega);clear h ok h1;go_enter Tryz.func69,Tryz.ntmps69;go_wp2_with fail;refine hcon.mono ?_;clear hcon;rintro e W1 ⟨q,b,rfl,-,hb,-⟩;have HB:=hIz hb;clear hb;go_wp2;go_ret;exact⟨rfl,HB.out⟩
theorem NG:(Tryz.prog.info? 121).map (fun i=>(i.zero,i.size,i.bytes))=some (some (.pointer none),1,8):=by kernel_rfl
def upA(ad:Nat→Nat)(t q:Nat):Nat→Nat:=fun k=>if k=t then q else ad k
theorem NH(ad:Nat→Nat)(t q:Nat):ptC ad t++[.pointer (some ⟨q,0,none⟩)]=ptC (upA ad t q) (t+1):=by
 unfold ptC;rw[List.range_succ,List.map_append];congr 1
 ·refine List.map_congr_left (fun k hk=>?_);have:=List.mem_range.1 hk;simp only[upA]
  rw[if_neg (by omega)]
 ·simp[upA]
open Classical in
set_option maxRecDepth 20000 in
theorem ClS.grow{w:World}{F Fq:Nat→Prop}{p side nodes t q:Nat}(h:ClS w F p side nodes t (fun _=>none))(hq:QuS w Fq q side none)(hd:∀k,Fq k→¬F k)(ht:t≤512) :
  ∃A c A' c' W2,w.cell? ⟨p,1,none⟩=some (.slice A t c)∧(Builtin.append_ #[136,136] 136 #[.slice A t c,.slice (some ⟨w.heap.size,0,none⟩) 1 1]).run Tryz.prog (w.alloc (.cells #[.pointer (some ⟨q,0,none⟩)] 121))=.ok (.slice A' (t+1) c') W2 ∧
   W2.cell? ⟨p,1,none⟩=some (.slice A t c)∧W2.frozen? ⟨p,1,none⟩=false∧(∃F',ClS (W2.setCell ⟨p,1,none⟩ (.slice A' (t+1) c')) F' p side nodes (t+1) (fun _=>none)∧∀k,F' k→F k∨Fq k∨w.heap.size≤k)∧Upd F w (W2.setCell ⟨p,1,none⟩ (.slice A' (t+1) c')):=by
 obtain⟨O,pv,ad,hi,rfl⟩:=h;obtain⟨A,c,rfl,-,-⟩:=aK hi.rows;obtain⟨v2,W2,happ,own2,u2,p2⟩:=dJ w 0 136 121 1 8 _ Tryz.underlying136 NG rfl (by decide) (.slice A t c) t (ptC ad t) hi.rows [.pointer (some ⟨q,0,none⟩)] 1 rfl (fun x hx=>by rw[List.mem_singleton.1 hx];rfl) (by omega) (by unfold maxLen;omega) (Nat.zero_le _);obtain⟨A',c',rfl,-,-⟩:=aK own2;have hrow:∀k,(Value.slice A t c).ownBlock=some k→O k=some .row:=hi.orow;have hb2:=hi.blk.upd u2 (fun e=>by have:=hrow _ e;rw[hi.op] at this;cases this);have u3:Upd (fun k=>(Value.slice A t c).ownBlock=some k∨k=p) w (W2.setCell ⟨p,1,none⟩ (.slice A' (t+1) c')):=(u2.mono (fun _ _ e=>.inl e)).setCell (p:=⟨p,1,none⟩) (.inl (.inr rfl)) _;have hUF:∀k,((Value.slice A t c).ownBlock=some k∨k=p)→O k≠none:=fun k hk=>hk.elim (fun e=>by rw[hrow k e];exact nofun) (fun e=>by rw[e,hi.op];exact nofun)
 have hnp:∀k,(Value.slice A' (t+1) c').ownBlock=some k→¬k=p:=fun k hk e=>by
  subst e;rcases p2 k hk with h1|h1
  ·have:=hrow k h1;rw[hi.op] at this;cases this
  ·have:=hi.blk.lt;omega
 have hlt2:=own2.lt;have hqlt:=hq.lt;refine⟨A,c,A',c',W2,hi.blk.cell 1,happ,hb2.cell 1,hb2.frozen 1,⟨_,⟨fun k=>if k<w.heap.size then (if O k≠none then O k else if Fq k then some (.mat t) else none) else if (Value.slice A' (t+1) c').ownBlock=some k then some .row else none,.slice A' (t+1) c',upA ad t q,⟨hb2.set 1 _,?_,?_,?_,?_,?_⟩,rfl⟩,?_⟩,u3.mono (fun k _ hk=>hUF k hk)⟩
 ·rw[← NH];exact aA own2 ((Upd.refl (fun k=>k=p) W2).setCell (p:=⟨p,1,none⟩) (.inl rfl) (.slice A' (t+1) c')) hnp
 ·show(if p<w.heap.size then (if O p≠none then O p else _) else _)=_
  rw[if_pos hi.blk.lt,if_pos (by rw[hi.op];exact nofun)];exact hi.op
 ·intro k hk;show(if k<w.heap.size then (if O k≠none then O k else _) else _)=_
  rcases p2 k hk with h1|h1
  ·rw[if_pos (hi.lt k (by rw[hrow k h1];exact nofun)),if_pos (by rw[hrow k h1];exact nofun)];exact hrow k h1
  ·rw[if_neg (by omega),if_pos hk]
 ·intro k hk;by_cases e:k=t
  ·subst e;refine⟨Fq,?_,fun x hx=>?_⟩
   ·show QuS _ Fq (if k=k then q else ad k) side none
    rw[if_pos rfl];exact hq.upd u3 (fun x hx e=>hd x hx (hUF x e))
   ·show(if x<w.heap.size then (if O x≠none then O x else if Fq x then some (CRo.mat k) else none) else _)=_
    have hox:O x=none:=Classical.byContradiction (fun e=>hd x hx e);rw[if_pos (hqlt x hx),if_neg (fun e=>e hox),if_pos hx]
  ·obtain⟨Fk,h1,h2⟩:=hi.mats k (by omega);refine⟨Fk,?_,fun x hx=>?_⟩
   ·show QuS _ Fk (if k=t then q else ad k) side none
    rw[if_neg e];exact h1.upd u3 (fun x hx e'=>by
     have e3:=h2 x hx;rcases e' with e' | e'
     ·rw[hrow x e'] at e3;cases e3
     ·rw[e',hi.op] at e3;cases e3)
   ·show(if x<w.heap.size then (if O x≠none then O x else _) else _)=_
    rw[if_pos (h1.lt x hx),if_pos (by rw[h2 x hx];exact nofun)];exact h2 x hx
 ·intro k hk;have hz:=u3.size;by_cases hl:k<w.heap.size
  ·omega
  ·have hk:(if k<w.heap.size then _ else if (Value.slice A' (t+1) c').ownBlock=some k then some CRo.row else none)≠none:=hk;rw[if_neg hl] at hk;by_cases e:(Value.slice A' (t+1) c').ownBlock=some k
   ·have:=(hlt2 k e).2;simpa[World.setCell] using this
   ·rw[if_neg e] at hk;exact absurd rfl hk
 ·intro k hk;by_cases hl:k<w.heap.size
  ·have hk:(if k<w.heap.size then (if O k≠none then O k else if Fq k then some (CRo.mat t) else none) else _)≠none:=hk;rw[if_pos hl] at hk;by_cases e:O k≠none
   ·exact .inl e
   ·rw[if_neg e] at hk;by_cases e2:Fq k
    ·exact .inr (.inl e2)
    ·rw[if_neg e2] at hk;exact absurd rfl hk
  ·exact .inr (.inr (by omega))
open Go.RowKit Go.Shelf
def PB(w:World)(nts:Int)(PV:List Pv)(labels:List Txt)(G:Gr)(e:Ending)(w':World):Prop:=
 (cO nts PV labels=2∧e=.returned (.tuple #[.pointer none,.int .i64 2])∧Below w.heap.size w w') ∨
 (cO nts PV labels=0∧∃(p:Nat) (F:Nat→Prop) (B:dA),e=.returned (.tuple #[.pointer (some ⟨p,0,none⟩),.int .i64 0])∧ClS w' F p (max 1 G.N.length) G.N.length nts.toNat B∧(∀k,F k→w.heap.size≤k)∧Below w.heap.size w w' ∧
  (∀k,k<nts.toNat→∀i j,cV (B k) i j=true↔qD (PV.map (·.pr)) (ElG G labels) G.N.length (k:Int) i j)∧∀k,WdO (B k))
theorem rG(nts:Int)(PV:List Pv)(labels:List Txt):cO nts PV labels=2∨(cO nts PV labels=0∧labels.length≤16∧1≤nts∧nts≤512∧PV.length≤8192∧upB ltT labels=true∧∀v∈PV,aT v.pr nts labels.length=true):=by
 unfold cO;by_cases h:16<labels.length∨nts<1∨512<nts∨8192<PV.length
 ·exact .inl (if_pos h)
 ·rw[if_neg h];by_cases h2:upB ltT labels=true∧∀v∈PV,aT v.pr nts labels.length=true
  ·rw[if_pos h2];exact .inr ⟨rfl,by omega,by omega,by omega,by omega,h2⟩
  ·exact .inl (if_neg h2)
theorem NI(w:World)(side n:Nat):ClS (w.alloc (.cells #[.int .i64 (n:Int),.slice none 0 0] 138)) (fun k=>k=w.heap.size) w.heap.size side n 0 (fun _=>none):=by
 refine⟨fun k=>if k=w.heap.size then some .x else none,.slice none 0 0,fun _=>0,⟨Blk.new w _ _,World.ownsRow_nil _ _ _ _,if_pos rfl,fun k hk=>by simp[Value.ownBlock] at hk,fun k hk=>by omega,fun q hq=>?_⟩,?_⟩
 ·by_cases e:q=w.heap.size
  ·subst e;simp
  ·rw[if_neg e] at hq;exact absurd rfl hq
 ·funext k
  by_cases e:k=w.heap.size
  ·simp[e]
  ·simp[e]
def WP(V:World)(p side n t:Nat)(wr:World):Prop:=∃F,ClS wr F p side n t (fun _=>none)∧(∀k,F k→V.heap.size≤k)∧Below V.heap.size V wr
theorem tP(w:World)(nts:Int)(PA:Option Addr)(pc:Nat)(PV:List Pv)(hP:PvR w PA PV)(LA:Option Addr)(cl:Nat)(labels:List Txt)(hlab:aU w LA (aE labels))
  (Fg:Nat→Prop) (pg:Nat) (G:Gr) (hG:GrS w Fg pg G) (ok:GOk G) (hT:jC w) (htab:1<w.heap.size) :
  Calls Tryz.prog 17 #[.agg #[.int .i64 nts,.slice PA PV.length pc],.slice LA labels.length cl,.pointer (some ⟨pg,0,none⟩)] w (PB w nts PV labels G):=by
 have b1:Below w.heap.size w (w.alloc (.cells #[.int .i64 nts,.slice PA PV.length pc] 50)):=bR.alloc (Nat.le_refl _) _;have k1:=Blk.new w 50 #[.int .i64 nts,.slice PA PV.length pc];have hlen:=UH _ Fg pg G (hG.below b1);obtain⟨n,hn⟩:∃n,G.N.length=n:=⟨_,rfl⟩;have hn32:n≤32:=by have:=ok.few;omega
 have H:=aI9 b1 k1 hP hlab hG ok hT htab hn;have HN0:=hIz (show PB w nts PV labels G=fun e w'=>(cO nts PV labels=2∧e=.returned (.tuple #[.pointer none,.int .i64 2])∧Below w.heap.size w w') ∨
  (cO nts PV labels=0∧∃(p:Nat) (F:Nat→Prop) (B:dA),e=.returned (.tuple #[.pointer (some ⟨p,0,none⟩),.int .i64 0])∧ClS w' F p (max 1 n) n nts.toNat B∧(∀k,F k→w.heap.size≤k)∧Below w.heap.size w w' ∧
  (∀k,k<nts.toNat→∀i j,cV (B k) i j=true↔qD (PV.map (·.pr)) (ElG G labels) n (k:Int) i j)∧∀k,WdO (B k)) from by subst hn;rfl)
 rw[hn] at hlen;have hthere:=fun V (hV:Below w.heap.size w V) (h0:n≤1)=>IU V Fg pg G (hG.below hV) ok (by omega)
 have HTH:=hIz hthere;have hcheck:=fun V (hV:Below w.heap.size w V)=>rF V nts PA pc PV (hP.below hV) LA cl labels (hlab.below3 hV)
 have HCK:=hIz hcheck;clear b1 k1 hP hlab hG ok hT htab hn hthere hcheck;obtain⟨m,hm⟩:∃m,PV.length=m:=⟨_,rfl⟩;obtain⟨l,hl⟩:∃l,labels.length=l:=⟨_,rfl⟩;rw[hm] at H HCK hlen ⊢;rw[hl] at HCK ⊢;have HM:=aI2 hm hl;clear hm hl;go_enter Tryz.func17,Tryz.ntmps17;go_wp2_with fail;refine hlen.mono ?_;clear hlen;rintro e V1 ⟨rfl,hb1⟩;have hbw1:=tHn H.out.1 hb1;have k1:=H.out.2.1.upd (upF hb1) id;have H1:=aI2 hbw1 k1;clear hbw1 k1 hb1;go_upto_region 2 with (fail);go_cut [29] from 19 (fun s29 wc=>s29=.bool false∧Hid (Below V1.heap.size V1 wc))
 case first =>
  by_cases hn0:n=0
  ·have hz:((n:Int)==0)=true:=by simp;omega
   have hth:=HTH.out V1 H1.out.1 (by omega);clear hn0;go_wp2_with fail;refine hth.mono ?_;clear hth hz;rintro e V2 ⟨rfl,hb2⟩;have HB:=hIz hb2;clear hb2;go_wp2;go_meet
   case rel=>exact⟨rfl,HB⟩
  ·have hz:((n:Int)==0)=false:=by simp;omega
   clear hn0;go_wp2;go_meet
   case rel=>exact⟨rfl,hIz bR⟩
 case rest =>
  obtain⟨rfl,hc⟩:=hcut;have hbc:=tHn H1.out.1 hc.out;have kc:=H1.out.2.upd (upF hc.out) id;have c0:wc.cell? ⟨w.heap.size,0,none⟩=some (.int .i64 nts):=kc.cell 0;have c1:wc.cell? ⟨w.heap.size,1,none⟩=some (.slice PA m pc):=kc.cell 1;have hck:=HCK.out wc hbc;have H2:=aI2 hbc kc;clear hbc kc hc H1;rcases rG nts PV labels with h2|⟨h0,hok⟩
  ·rw[h2] at hck;have HA:=hIz h2;clear h2;go_wp2_with fail;refine hck.mono ?_;clear hck;rintro e V3 ⟨rfl,hb3⟩;have FIN:=hIz (show PB w nts PV labels G (.returned (.tuple #[.pointer none,.int .i64 2])) V3 from .inl ⟨HA.out,rfl,tHn H2.out.1 hb3⟩);clear hb3;go_wp2;refine bodyPost_ret (v:=.tuple #[.pointer none,.int .i64 2]) (by simp[results,Tryz.f17,go_sem]) rfl FIN.out
  ·rw[h0] at hck;obtain⟨hl16,hn1,hn5,hp8,hup,hsh⟩:=hok;obtain⟨t5,rfl⟩:∃t5:Nat,nts=(t5:Int):=⟨nts.toNat,by omega⟩;have HA:=aI3 h0 hup hsh;clear h0 hup hsh;obtain⟨side,hside⟩:∃side,max 1 n=side:=⟨_,rfl⟩;have hmx:max (1:Int) (n:Int)=(side:Int):=by omega
   have hs1:1≤side:=by omega
   have hs32:side≤32:=by omega
   have HSD:=hIz hside;clear hside;go_wp2_with fail;refine hck.mono ?_;clear hck;rintro e V3 ⟨rfl,hb3⟩;have hbw3:=tHn H2.out.1 hb3;have k3:=H2.out.2.upd (upF hb3) id;have hcl:=NI V3 side n;have b4:Below V3.heap.size V3 (V3.alloc (.cells #[.int .i64 (n:Int),.slice none 0 0] 138)):=bR.alloc (Nat.le_refl _) _;have c0:(V3.alloc (.cells #[.int .i64 (n:Int),.slice none 0 0] 138)).cell? ⟨w.heap.size,0,none⟩=some (.int .i64 (t5:Int)):=(k3.alloc _).cell 0;have H3:=aI3 hbw3 k3 (show WP V3 V3.heap.size side n 0 (V3.alloc (.cells #[.int .i64 (n:Int),.slice none 0 0] 138)) from⟨_,hcl,fun k hk=>Nat.le_of_eq hk.symm,b4⟩);clear hbw3 k3 hcl b4 hb3;go_upto_region 8 with (fail);generalize V3.alloc (.cells #[.int .i64 (n:Int),.slice none 0 0] 138)=W4 at H3 c0 ⊢;go_wp2;clear c0;go_loopw [41] (fun i wr=>∃t:Nat,t≤t5∧i=.int .i64 (t:Int)∧Hid (WP V3 V3.heap.size side n t wr)) (fun i _=>t5-(intOf i).toNat)
   case atStart=>exact⟨0,Nat.zero_le _,rfl,hIz H3.out.2.2⟩
   case round =>
    obtain⟨t,ht,rfl,hq⟩:=hrel;by_cases hlt:t<t5
    ·have htI:(t:Int)<(t5:Int):=by omega
     obtain⟨F,hcl,hF,hbV⟩:=hq.out;have hnew:=nM wr side hs1 (by omega);have HC:=aI3 hcl hF hbV;clear hcl hF hbV hq;go_wp2_with fail;refine hnew.mono ?_;clear hnew;rintro e V5 ⟨q,rfl,⟨Fq,hqs,hFq⟩,hb5⟩;obtain⟨A,c,A',c',W6,qa,happ,qa2,fa2,⟨F',hcl',hF'⟩,hu'⟩:=ClS.grow (HC.out.1.below hb5) hqs (fun k hk hf=>by have:=hFq k hk;have:=HC.out.1.lt k hf;omega) (by omega);have b6:Below V5.heap.size V5 (V5.alloc (.cells #[.pointer (some ⟨q,0,none⟩)] 121)):=bR.alloc (Nat.le_refl _) _;have FIN:=hIz (show WP V3 V3.heap.size side n (t+1) (W6.setCell ⟨V3.heap.size,1,none⟩ (.slice A' (t+1) c')) from by
      refine⟨F',hcl',fun k hk=>?_,?_⟩
      ·rcases hF' k hk with h|h|h
       ·exact HC.out.2.1 k h
       ·exact Nat.le_trans HC.out.2.2.size (hFq k h)
       ·exact Nat.le_trans (Nat.le_trans HC.out.2.2.size hb5.size) h
      ·have hb35:=tHn HC.out.2.2 hb5;exact hb35.trans (hu'.below (fun k _ hk=>HC.out.2.1 k hk) hb35.size))
     obtain⟨t1,ht1⟩:∃t1,t+1=t1:=⟨_,rfl⟩;rw[ht1] at happ FIN;have HT1:=hIz ht1;clear hqs hFq hcl' hF' hu' hb5 b6 ht1;go_wp2_with (at_builtin;refine wpList_append_run rfl _ _ _ rfl rfl rfl happ ?_);generalize W6.setCell ⟨V3.heap.size,1,none⟩ (.slice A' t1 c')=W7 at FIN ⊢;go_roundw
     case rel=>exact⟨t1,by have:=HT1.out;omega,by rw[← HT1.out];go_num,FIN⟩
     case measure=>simp[intOf];omega
    ·obtain rfl:t=t5:=by omega
     obtain⟨F,hcl,hF,hbV⟩:=hq.out;clear hq;have kz:=H3.out.2.1.upd (upF hbV) id;have z0:wr.cell? ⟨w.heap.size,0,none⟩=some (.int .i64 (t:Int)):=kz.cell 0;have z1:wr.cell? ⟨w.heap.size,1,none⟩=some (.slice PA m pc):=kz.cell 1;by_cases hn0:n=0
     ·have hnI:¬(0:Int)<(n:Int):=by omega
      have FIN:=hIz (show PB w (t:Int) PV labels G (.returned (.tuple #[.pointer (some ⟨V3.heap.size,0,none⟩),.int .i64 0])) wr from by
       rw[HN0.out];refine .inr ⟨HA.out.1,V3.heap.size,F,fun _=>none,rfl,?_,fun k hk=>Nat.le_trans H3.out.1.size (hF k hk),tHn H3.out.1 hbV,fun k _ i j=>⟨fun h=>(by cases h),fun d=>?_⟩,fun k r e=>(by cases e)⟩
       ·rw[HSD.out,Int.toNat_natCast];exact hcl
       ·have:=d.lt (fun k i j h=>by have:=h.lt;rwa [H.out.2.2.2.2.2.2.2.2] at this);omega)
      clear hcl hF hbV kz hn0;go_wp2;refine bodyPost_ret (v:=.tuple #[.pointer (some ⟨V3.heap.size,0,none⟩),.int .i64 0]) (by simp[results,Tryz.f17,go_sem]) rfl FIN.out
     ·have hnI:(0:Int)<(n:Int):=by omega
      have hsn:side=n:=by have:=HSD.out;omega
      have hfil:=NF V3 wr hbV F hF V3.heap.size n t (by rw[hsn] at hcl;exact hcl) PA pc PV LA cl labels Fg pg G
       ⟨H.out.2.2.1.below H3.out.1,H.out.2.2.2.1.below3 H3.out.1,H.out.2.2.2.2.1.below H3.out.1,H.out.2.2.2.2.2.1,H.out.2.2.2.2.2.2.2.2,by omega,H.out.2.2.2.2.2.2.1.upd (Upd.of_below H3.out.1 (fun _=>False)) H.out.2.2.2.2.2.2.2.1 id,Nat.lt_of_lt_of_le H.out.2.2.2.2.2.2.2.1 H3.out.1.size,fun v hv=>RQ (HA.out.2.2 v hv),by omega,by omega,hp8⟩
      rw[HM.out.1,HM.out.2] at hfil;have HE:=aI3 hF hbV hsn;clear hcl hF hbV kz hsn;go_wp2_with fail;refine hfil.mono ?_;clear hfil;rintro e V9 ⟨rfl,B,hbit,hwd,F9,hcl9,hu9,hF9⟩;have FIN:=hIz (show PB w (t:Int) PV labels G (.returned (.tuple #[.pointer (some ⟨V3.heap.size,0,none⟩),.int .i64 0])) V9 from by
       rw[HN0.out];have hb9:Below V3.heap.size V3 V9:=HE.out.2.1.trans (hu9.below (fun k _ hk=>HE.out.1 k hk) HE.out.2.1.size);refine .inr ⟨HA.out.1,V3.heap.size,F9,B,rfl,?_,fun k hk=>?_,tHn H3.out.1 hb9,hbit,hwd⟩
       ·rw[HSD.out,Int.toNat_natCast,HE.out.2.2];exact hcl9
       ·rcases hF9 k hk with h|h
        ·exact Nat.le_trans H3.out.1.size (HE.out.1 k h)
        ·exact Nat.le_trans (Nat.le_trans H3.out.1.size HE.out.2.1.size) h)
      clear hbit hwd hcl9 hu9 hF9;go_wp2;refine bodyPost_ret (v:=.tuple #[.pointer (some ⟨V3.heap.size,0,none⟩),.int .i64 0]) (by simp[results,Tryz.f17,go_sem]) rfl FIN.out
open Go.RowKit Go.Shelf
theorem pQ(w:World)(p g nts c:Nat)(q1:w.cell? ⟨p,1,none⟩=some (.slice (some ⟨g,0,none⟩) nts c)):Calls Tryz.prog 72 #[.pointer (some ⟨p,0,none⟩)] w (kK w (.bool true)):=by
 have qT:∀(w:World) (a:Option Addr) (n c n' c':Nat),(binOp .neq 136 (.slice a n c) (.slice none n' c')).run Tryz.prog w=.ok (.bool (!a.isNone)) w:=fun w a n c n' c'=>run_neq_slice_nil_any w _ _ a n c n' c' Tryz.underlying136
 go_enter Tryz.func72,Tryz.ntmps72;go_wp2;go_ret;exact⟨rfl,rfl⟩
def AU(n nts:Nat)(B:dA)(k i j:Int):Value:=
 if 0≤k∧k<(nts:Int)∧0≤i∧i<(n:Int)∧0≤j∧j<(n:Int) then .tuple #[.bool (cV (B k.toNat) i.toNat j.toNat),.int .i64 0] else .tuple #[.bool false,.int .i64 4]
theorem tQ(w:World)(F:Nat→Prop)(p side n nts:Nat)(B:dA)(h:ClS w F p side n nts B)(hn1:1≤nts)(hns:n≤side)(h64:side≤64)(k i j:Int) :
  Calls Tryz.prog 18 #[.pointer (some ⟨p,0,none⟩),.agg #[.int .i64 k,.int .i64 i,.int .i64 j]] w (Sam w (AU n nts B k i j)):=by
 obtain⟨O,pv,ad,hi,rfl⟩:=h;obtain⟨g,gc,rfl,-,-,-,-,-⟩:=aL hi.rows (by omega);have b1:Below w.heap.size w (w.alloc (.cells #[.int .i64 k,.int .i64 i,.int .i64 j] 52)):=bR.alloc (Nat.le_refl _) _;have k1:=Blk.new w 52 #[.int .i64 k,.int .i64 i,.int .i64 j];have hi1:=hi.upd (upF b1) (fun _ _=>id);have his:=pQ (w.alloc (.cells #[.int .i64 k,.int .i64 i,.int .i64 j] 52)) p g nts gc (hi1.blk.cell 1);have H:=aI3 b1 hi1 k1;have f0:(w.alloc (.cells #[.int .i64 k,.int .i64 i,.int .i64 j] 52)).cell? ⟨w.heap.size,0,none⟩=some (.int .i64 k):=k1.cell 0;have f1:(w.alloc (.cells #[.int .i64 k,.int .i64 i,.int .i64 j] 52)).cell? ⟨w.heap.size,1,none⟩=some (.int .i64 i):=k1.cell 1;have f2:(w.alloc (.cells #[.int .i64 k,.int .i64 i,.int .i64 j] 52)).cell? ⟨w.heap.size,2,none⟩=some (.int .i64 j):=k1.cell 2;have q0:(w.alloc (.cells #[.int .i64 k,.int .i64 i,.int .i64 j] 52)).cell? ⟨p,0,none⟩=some (.int .i64 (n:Int)):=hi1.blk.cell 0;have q1:(w.alloc (.cells #[.int .i64 k,.int .i64 i,.int .i64 j] 52)).cell? ⟨p,1,none⟩=some (.slice (some ⟨g,0,none⟩) nts gc):=hi1.blk.cell 1;clear hi b1 hi1 k1;go_enter Tryz.func18,Tryz.ntmps18;go_wp2_with fail;refine his.mono ?_;clear his;rintro e V ⟨rfl,hw⟩;subst V;go_upto_region 3 with (fail);generalize w.alloc (.cells #[.int .i64 k,.int .i64 i,.int .i64 j] 52)=W1 at H f0 f1 f2 q0 q1 ⊢;have hbd:=hIz (show ∀n,Below W1.heap.size W1 (W1.drewN n) from fun n=>⟨rfl,rfl,rfl,Nat.le_refl _,fun _ _=>rfl⟩);generalize w.heap.size=z at f0 f1 f2 ⊢;by_cases h0:k<0
 ·have FIN:=hIz (show AU n nts B k i j=.tuple #[.bool false,.int .i64 4] from if_neg (by omega));go_quiet (fail)
  go_wp2;refine bodyPost_ret (v:=.tuple #[.bool false,.int .i64 4]) (by simp[results,Tryz.f18,go_sem]) rfl ⟨by rw[FIN.out],H.out.1.trans ((hbd.out _).mono H.out.1.size)⟩
 ·have _g0:=h0;by_cases h1:(nts:Int)≤k
  ·have FIN:=hIz (show AU n nts B k i j=.tuple #[.bool false,.int .i64 4] from if_neg (by omega));go_quiet (fail)
   go_wp2;refine bodyPost_ret (v:=.tuple #[.bool false,.int .i64 4]) (by simp[results,Tryz.f18,go_sem]) rfl ⟨by rw[FIN.out],H.out.1.trans ((hbd.out _).mono H.out.1.size)⟩
  ·have _g1:=h1;by_cases h2:i<0
   ·have FIN:=hIz (show AU n nts B k i j=.tuple #[.bool false,.int .i64 4] from if_neg (by omega));go_quiet (fail)
    go_wp2;refine bodyPost_ret (v:=.tuple #[.bool false,.int .i64 4]) (by simp[results,Tryz.f18,go_sem]) rfl ⟨by rw[FIN.out],H.out.1.trans ((hbd.out _).mono H.out.1.size)⟩
   ·have _g2:=h2;by_cases h3:(n:Int)≤i
    ·have FIN:=hIz (show AU n nts B k i j=.tuple #[.bool false,.int .i64 4] from if_neg (by omega));go_quiet (fail)
     go_wp2;refine bodyPost_ret (v:=.tuple #[.bool false,.int .i64 4]) (by simp[results,Tryz.f18,go_sem]) rfl ⟨by rw[FIN.out],H.out.1.trans ((hbd.out _).mono H.out.1.size)⟩
    ·have _g3:=h3;by_cases h4:j<0
     ·have FIN:=hIz (show AU n nts B k i j=.tuple #[.bool false,.int .i64 4] from if_neg (by omega));go_quiet (fail)
      go_wp2;refine bodyPost_ret (v:=.tuple #[.bool false,.int .i64 4]) (by simp[results,Tryz.f18,go_sem]) rfl ⟨by rw[FIN.out],H.out.1.trans ((hbd.out _).mono H.out.1.size)⟩
     ·have _g4:=h4;by_cases h5:(n:Int)≤j
      ·have FIN:=hIz (show AU n nts B k i j=.tuple #[.bool false,.int .i64 4] from if_neg (by omega));go_quiet (fail)
       go_wp2;refine bodyPost_ret (v:=.tuple #[.bool false,.int .i64 4]) (by simp[results,Tryz.f18,go_sem]) rfl ⟨by rw[FIN.out],H.out.1.trans ((hbd.out _).mono H.out.1.size)⟩
      ·have _g5:=h5;obtain⟨a,rfl⟩:∃a:Nat,k=(a:Int):=⟨k.toNat,by omega⟩;obtain⟨x,rfl⟩:∃x:Nat,i=(x:Int):=⟨i.toNat,by omega⟩;obtain⟨y,rfl⟩:∃y:Nat,j=(y:Int):=⟨j.toNat,by omega⟩;have FIN:=hIz (show AU n nts B (a:Int) (x:Int) (y:Int)=.tuple #[.bool (cV (B a) x y),.int .i64 0] from by
        unfold AU;rw[if_pos (by omega),Int.toNat_natCast,Int.toNat_natCast,Int.toNat_natCast])
       go_quiet (fail)
       have haN:a<nts:=by omega
       have haI:(a:Int)<(nts:Int):=by omega
       go_upto_region 5 with (fail);clear q0;have hb1:=hbd.out nq;have hS:(fun X:World=>X.cell? ⟨p,1,none⟩=some (.slice (some ⟨g,0,none⟩) nts gc)∧X.cell? ⟨z,0,none⟩=some (.int .i64 (a:Int))∧X.cell? ⟨z,1,none⟩=some (.int .i64 (x:Int))∧X.cell? ⟨z,2,none⟩=some (.int .i64 (y:Int))∧X.cell? ⟨g,a,none⟩=some (.pointer (some ⟨ad a,0,none⟩))) (W1.drewN nq).drew:=by
        have hi2:=H.out.2.1.upd (Upd.of_below hb1.drew (fun _=>False)) (fun _ _=>id);obtain⟨g',c',e,-,-,-,-,hg⟩:=aL hi2.rows (by omega);injection e with e;injection e with e;injection e with e;subst e;exact⟨q1,f0,f1,f2,(hg a _ (kO (by omega))).1⟩
       have HB2:=hIz hb1.drew;clear hb1 f0 f1 f2 q1;refine bL (fun X:World=>X.cell? ⟨p,1,none⟩=some (.slice (some ⟨g,0,none⟩) nts gc)∧X.cell? ⟨z,0,none⟩=some (.int .i64 (a:Int))∧X.cell? ⟨z,1,none⟩=some (.int .i64 (x:Int))∧X.cell? ⟨z,2,none⟩=some (.int .i64 (y:Int))∧X.cell? ⟨g,a,none⟩=some (.pointer (some ⟨ad a,0,none⟩))) (aM 12) (by kernel_rfl) ?_;generalize (W1.drewN nq).drew=W2 at HB2 hS ⊢;intro hd;(refine aB 0 rfl hd hS ?_;clear hd;intro hd;(try simp only[Act.put,gA,gZ,sA,sZ,sS]))
       refine aB 1 rfl hd hS ?_;clear hd;intro hd;refine aB 2 rfl hd hS ?_;clear hd;intro hd;refine aB 3 rfl hd hS ?_;clear hd;intro hd;refine aB 4 rfl hd hS ?_;clear hd;intro hd;refine aB 5 rfl hd hS ?_;clear hd;intro hd;refine aB 6 rfl hd hS ?_;clear hd;intro hd;refine aB 7 rfl hd hS ?_;clear hd;intro hd;refine aB 8 rfl hd hS ?_;clear hd;intro hd;refine aB 9 rfl hd hS ?_;clear hd;intro hd;refine aB 10 rfl hd hS ?_;clear hd;intro hd;refine aB 11 rfl hd hS ?_;clear hd;intro hd;have hcon:Hid (Calls Tryz.prog 73 #[.pointer (some ⟨ad a,0,none⟩),.int .i64 (x:Int),.int .i64 (y:Int)] W2 (Sam W2 (.tuple #[.bool (cV (B a) x y),.int .i64 0]))):=hIz (by
        obtain⟨Fa,a1,-⟩:=(H.out.2.1.upd (upF HB2.out) (fun _ _=>id)).mats a (by omega);exact AB W2 Fa (ad a) side (B a) a1 x y (by omega) (by omega) (by omega) (by omega))
       clear hS;refine aO hd 12 ?_;clear hd;intro hd;refine aV (S:=(fun X:World=>X.cell? ⟨p,1,none⟩=some (.slice (some ⟨g,0,none⟩) nts gc)∧X.cell? ⟨z,0,none⟩=some (.int .i64 (a:Int))∧X.cell? ⟨z,1,none⟩=some (.int .i64 (x:Int))∧X.cell? ⟨z,2,none⟩=some (.int .i64 (y:Int))∧X.cell? ⟨g,a,none⟩=some (.pointer (some ⟨ad a,0,none⟩)))) (late:=aM 12) rfl rfl (fun K hK=>?_);go_simp;refine hcon.out.mono ?_;clear hcon;rintro e W3 ⟨rfl,hb3⟩;have HB3:=hIz (H.out.1.trans ((tHn HB2.out hb3).mono H.out.1.size));clear hb3;refine hK _ _ (fun h _=>absurd h (by decide)) ?_;clear hK K;(try simp only[Act.put,gA,gS,gZ,sA,sZ,sS])
       (refine aR (i:=13) (v:=?_) rfl (by kernel_rfl) hd (fun _ _ d _ _ h=>by cases d <;> exact h) (by first | with_reducible rfl | kernel_rfl) ?_ ?_;rotate_left;(focus (intro wS;go_simp;(try with_reducible rfl);done));clear hd;intro hd;(try simp only[Act.put,gA,gS,gZ,sA,sZ,sS]))
       (refine aR (i:=14) (v:=?_) rfl (by kernel_rfl) hd (fun _ _ d _ _ h=>by cases d <;> exact h) (by first | with_reducible rfl | kernel_rfl) ?_ ?_;rotate_left;(focus (intro wS;go_simp;(try with_reducible rfl);done));clear hd;intro hd;(try simp only[Act.put,gA,gS,gZ,sA,sZ,sS]))
       (refine aR (i:=15) (v:=?_) rfl (by kernel_rfl) hd (fun _ _ d _ _ h=>by cases d <;> exact h) (by first | with_reducible rfl | kernel_rfl) ?_ ?_;rotate_left;(focus (intro wS;go_simp;(try with_reducible rfl);done));clear hd;intro hd;(try simp only[Act.put,gA,gS,gZ,sA,sZ,sS]))
       (refine aR (i:=16) (v:=?_) rfl (by kernel_rfl) hd (fun _ _ d _ _ h=>by cases d <;> exact h) (by first | with_reducible rfl | kernel_rfl) ?_ ?_;rotate_left;(focus (intro wS;go_simp;(try with_reducible rfl);done));clear hd;intro hd;(try simp only[Act.put,gA,gS,gZ,sA,sZ,sS]))
       refine dB (by kernel_rfl) ?_;go_wp2;refine bodyPost_ret (v:=.tuple #[.bool (cV (B a) x y),.int .i64 0]) (by simp[results,Tryz.f18,go_sem]) rfl ⟨by rw[FIN.out],HB3.out⟩
open Go.RowKit Go.Shelf
theorem QuS.len{w:World}{F:Nat→Prop}{p side:Nat}{b:Option (List Nat)}(h:QuS w F p side b):w.cell? ⟨p,2,none⟩=some (.int .i64 ((dG (dD b):Nat):Int))∧dG (dD b)≤4096:=by
 obtain⟨O,dep,cnt,m,last,L,pv,lv,hq,ok,-⟩:=h;have:=AD ok;subst this;exact⟨hq.blk.cell 2,fM (kT ok)⟩
def CU(B:dA)(t:Nat):Nat:=yJ (fun k=>dG (dD (B k))) t
theorem nP(w:World)(F:Nat→Prop)(p side n nts:Nat)(B:dA)(h:ClS w F p side n nts B)(hn1:1≤nts)(hn5:nts≤512)(hs1:1≤side) :
  Calls Tryz.prog 21 #[.pointer (some ⟨p,0,none⟩)] w (Sam w (.int .i64 ((CU B nts:Nat):Int))):=by
 obtain⟨O,pv,ad,hi,rfl⟩:=h;obtain⟨g,gc,rfl,-,-,-,-,hg⟩:=aL hi.rows (by omega);have his:=pQ w p g nts gc (hi.blk.cell 1);have q1:w.cell? ⟨p,1,none⟩=some (.slice (some ⟨g,0,none⟩) nts gc):=hi.blk.cell 1;have hcell:=fun k (hk:k<nts)=>(hg k _ (kO hk)).1
 have H:=aI2 hi hcell;clear hi hg hcell;go_enter Tryz.func21,Tryz.ntmps21;go_wp2_with fail;refine his.mono ?_;clear his;rintro e V ⟨rfl,hw⟩;subst V;go_wp2;clear q1;go_loopw [3,13] (fun s i wr=>∃t:Nat,t≤nts∧i=.int .i64 (t:Int)∧s=.int .i64 ((CU B t:Nat):Int)∧wr=w∧CU B t≤t*4096) (fun _ i _=>nts-(intOf i).toNat)
 case atStart=>exact⟨0,Nat.zero_le _,rfl,rfl,rfl,Nat.le_refl _⟩
 case round =>
  obtain⟨t,ht,rfl,rfl,hw,hle⟩:=hrel;subst wr;by_cases hlt:t<nts
  ·have htI:(t:Int)<(nts:Int):=by omega
   obtain⟨Fk,hq,-⟩:=H.out.1.mats t hlt;have hcon:=LR w (ad t) side (dG (dD (B t))) hs1 hq.side.2 hq.len.1;have hl4:=hq.len.2;have q1:=H.out.2 t hlt;have hsum:CU B (t+1)=CU B t+dG (dD (B t)):=rfl;have hle2:CU B (t+1)≤(t+1)*4096:=by omega
   have FS:=hIz hsum;have hlB:CU B t≤2097152:=by omega
   clear hq hsum hle;generalize dG (dD (B t))=x at hcon hl4 FS;go_wp2_with fail;refine hcon.mono ?_;clear hcon q1;rintro e V ⟨rfl,hw⟩;subst V;obtain⟨y,hy⟩:∃y,CU B t=y:=⟨_,rfl⟩;rw[hy] at FS hlB ⊢;clear hy;go_wp2;go_roundw
   case rel=>exact⟨t+1,by omega,by go_num,by rw[FS.out];go_num,trivial,hle2⟩
   case measure=>simp[intOf];omega
  ·obtain rfl:t=nts:=by omega
   go_wp2;go_ret;exact⟨rfl,Below.refl _ _⟩
end Go.Proofs.YtddffnonlmfhdaaGreatDoor
