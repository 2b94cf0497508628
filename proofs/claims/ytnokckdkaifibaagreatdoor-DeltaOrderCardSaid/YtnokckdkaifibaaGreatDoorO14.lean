/- delta: a list of matrices in memory; The library's contracts laid at this program: which function, which type bears which number; delta: facts in their order. (Written by mkDlF.py.); delta: a list of matrices that hold nothing (none); delta: the closure's own parts; nodes: what a production of nothing gives at new nodes; delta: next. (Written by mkDlJ.py.); delta: a grammar copied (own). (Written by mkDlK.py.); azimov: New; azimov: is, Has, Len; azimov: Len; Pairs where it refuses; delta: a closure in memory; is, Graph, Len. -/
import Derived.Test.YtnokckdkaifibaaGreatDoorO13
import Derived.Shelf.SlSortCmp.WholeK
import Derived.Shelf.SlSortCmp.NoneTotal
import Derived.Test.YtnokckdkaifibaaGreatDoorProg
import Derived.Test.YtnokckdkaifibaaGreatDoorO03
import Derived.Test.YtnokckdkaifibaaGreatDoorO04
import Derived.Deep.CutRange
set_option linter.unusedVariables false
set_option linter.unusedSimpArgs false
set_option maxHeartbeats 16000000
set_option maxRecDepth 100000
namespace Go.Proofs.YtnokckdkaifibaaGreatDoor
open Go.RowKit Go.Shelf
theorem GZ{r o:List Nat}(hr:Wd r)(ho:Wd o){i j:Nat}(hi:i<64)(hj:j<64):fE (List.zipWith aZ r o) i j=(fE r i j&&!fE o i j):=by
 obtain⟨x,hx⟩:∃x,r[i]?=some x:=⟨_,gEz (by rw[hr.len];exact hi)⟩;obtain⟨y,hy⟩:∃y,o[i]?=some y:=⟨_,gEz (by rw[ho.len];exact hi)⟩;have hz:(List.zipWith aZ r o)[i]?=some (aZ x y):=by rw[List.getElem?_zipWith,hx,hy]
 unfold fE;rw[hz,hx,hy];exact zD (ho.fit y (mG hy)) hj
theorem WdO.lessQ{b c:Option (List Nat)}(hb:WdO b)(hc:WdO c):WdO (lessQ b c):=by
 cases b with
 | none=>exact fun r e=>by cases e
 | some r=>exact WdO.joinO (b:=none) (fun r e=>by cases e) (mQ (hb r rfl) hc.old)
theorem mI{b c:Option (List Nat)}(hb:WdO b)(hc:WdO c):zJ b c (lessQ b c):=by
 refine⟨hb.lessQ hc,fun i j=>?_⟩;have key:∀i j,i<64→j<64→(aY (Go.Proofs.YtnokckdkaifibaaGreatDoor.lessQ b c) i j=true↔aY b i j=true∧aY c i j=false):=fun i j hi hj=>by
  cases b with
  | none=>exact⟨fun h=>(by cases h),fun h=>(by cases h.1)⟩
  | some r =>
   show aY (joinO none (List.zipWith aZ r (bX c))) i j=true↔fE r i j=true∧_
   rw[mC (b:=none) cW (mQ (hb r rfl) hc.old) hi,GZ (hb r rfl) hc.old hi hj,kK c hi];show(false||_)=true↔_
   rw[Bool.false_or,Bool.and_eq_true,Bool.not_eq_true']
 constructor
 ·intro h;exact(key i j (cM (hb.lessQ hc) h) (fP (hb.lessQ hc) h)).1 h
 ·intro h;exact(key i j (cM hb h.1) (fP hb h.1)).2 h

theorem QJ(ad:Nat→Nat)(n a q:Nat):(ptC ad n).set a (.pointer (some ⟨q,0,none⟩))=ptC (fun k=>if k=a then q else ad k) n:=by
 apply List.ext_getElem?
 intro i;rw[List.getElem?_set];by_cases e:a=i
 ·subst e;rw[if_pos rfl];by_cases hi:a<n
  ·rw[if_pos (by simpa[ptC] using hi),gH hi,if_pos rfl]
  ·rw[if_neg (by simpa[ptC] using hi),List.getElem?_eq_none (by simp[ptC];omega)]
 ·rw[if_neg e];by_cases hi:i<n
  ·rw[gH hi,gH hi,if_neg (fun h=>e h.symm)]
  ·rw[List.getElem?_eq_none (by simp[ptC];omega),List.getElem?_eq_none (by simp[ptC];omega)]
inductive MRo
 | row | mat (k:Nat)
structure MtI(w:World)(O:Nat→Option MRo)(pv:Value)(side n:Nat)(ad:Nat→Nat)(B:aX):Prop where
 rows:w.ownsRow 0 97 1 pv n (ptC ad n)
 orow:∀k,pv.ownBlock=some k→O k=some .row
 mats:∀k,k<n→∃F,QuS w F (ad k) side (B k)∧∀q,F q→O q=some (.mat k)
 lt:∀q,O q≠none→q<w.heap.size
def MtS(w:World)(F:Nat→Prop)(pv:Value)(side n:Nat)(B:aX):Prop:=∃O ad,MtI w O pv side n ad B∧F=fun q=>O q≠none
theorem MtI.upd{w w':World}{O:Nat→Option MRo}{pv:Value}{side n:Nat}{ad:Nat→Nat}{B:aX}{G:Nat→Prop}(h:MtI w O pv side n ad B)(hu:Upd G w w')(hd:∀q,O q≠none→¬G q):MtI w' O pv side n ad B:=by
 have no:∀k t,O k=some t→¬G k:=fun k t e=>hd k (by simp[e])
 exact⟨aB h.rows hu fun k hk=>no _ _ (h.orow k hk),h.orow,fun k hk=>by
  obtain⟨F,h1,h2⟩:=h.mats k hk;exact⟨F,h1.upd hu (fun q hq=>no _ _ (h2 q hq)),h2⟩,fun q hq=>Nat.lt_of_lt_of_le (h.lt q hq) hu.size⟩
theorem MtS.upd{w w':World}{F G:Nat→Prop}{pv:Value}{side n:Nat}{B:aX}(h:MtS w F pv side n B)(hu:Upd G w w')(hd:∀k,F k→¬G k):MtS w' F pv side n B:=by
 obtain⟨O,ad,hi,rfl⟩:=h;exact⟨O,ad,hi.upd hu hd,rfl⟩
theorem MtS.below{w w':World}{F:Nat→Prop}{pv:Value}{side n:Nat}{B:aX}(h:MtS w F pv side n B)(hb:Below w.heap.size w w'):MtS w' F pv side n B:=h.upd (upF hb) (fun _ _=>id)
theorem MtS.lt{w:World}{F:Nat→Prop}{pv:Value}{side n:Nat}{B:aX}(h:MtS w F pv side n B):∀k,F k→k<w.heap.size:=by
 obtain⟨O,ad,hi,rfl⟩:=h;exact hi.lt
theorem MtS.form{w:World}{F:Nat→Prop}{pv:Value}{side n:Nat}{B:aX}(h:MtS w F pv side n B):∃A c,pv=.slice A n c:=by
 obtain⟨O,ad,hi,rfl⟩:=h;obtain⟨A,c,e,-,-⟩:=aH hi.rows;exact⟨A,c,e⟩
theorem MtS.at_{w:World}{F:Nat→Prop}{pv:Value}{side n:Nat}{B:aX}(h:MtS w F pv side n B){k:Nat}(hk:k<n) :
  ∃g c q Fq,pv=.slice (some ⟨g,0,none⟩) n c∧w.cell? ⟨g,k,none⟩=some (.pointer (some ⟨q,0,none⟩))∧w.frozen? ⟨g,k,none⟩=false∧QuS w Fq q side (B k)∧(∀x,Fq x→F x)∧¬Fq g∧F g:=by
 obtain⟨O,ad,hi,rfl⟩:=h;obtain⟨g,c,rfl,hob,-,-,-,hc⟩:=aL hi.rows (by omega);obtain⟨Fq,h1,h2⟩:=hi.mats k hk;have hg:=hi.orow g rfl;refine⟨g,c,ad k,Fq,rfl,(hc k _ (gH hk)).1,(hc k _ (gH hk)).2,h1,fun x hx=>?_,fun e=>?_,?_⟩
 ·show O x≠none
  rw[h2 x hx];exact nofun
 ·have:=h2 g e;rw[hg] at this;cases this
 ·show O g≠none
  rw[hg];exact nofun
def qC(w:World)(F:Nat→Prop)(pv:Value)(side n:Nat)(B:aX)(w':World):Prop:=∃F',MtS w' F' pv side n B∧Upd F w w'∧∀k,F' k→F k∨w.heap.size≤k
theorem qC.after{w w1 w':World}{F:Nat→Prop}{pv:Value}{side n:Nat}{B:aX}(hb:Below w.heap.size w w1)(h:qC w1 F pv side n B w'):qC w F pv side n B w':=by
 obtain⟨F',h1,h2,h3⟩:=h;exact⟨F',h1,(Upd.of_below hb F).trans h2 (fun _ h=>.inl h),fun k hk=>(h3 k hk).imp id (fun h=>Nat.le_trans hb.size h)⟩
theorem MtS.turn{w:World}{F:Nat→Prop}{pv:Value}{side n:Nat}{B:aX}(h:MtS w F pv side n B){a:Nat}(ha:a<n) :
  ∃g c q Fq,pv=.slice (some ⟨g,0,none⟩) n c∧w.cell? ⟨g,a,none⟩=some (.pointer (some ⟨q,0,none⟩))∧QuS w Fq q side (B a)∧(∀x,Fq x→F x)∧∀(m:Option (List Nat)) (w':World),QTo w Fq q side m w'→qC w F pv side n (upM B a m) w':=by
 obtain⟨O,ad,hi,rfl⟩:=h;obtain⟨g,c,rfl,hob,-,-,-,hc⟩:=aL hi.rows (by omega);obtain⟨Fa,hqa,hFa⟩:=hi.mats a ha;have ho:∀q,Fa q→O q≠none:=fun q hq e=>by rw[hFa q hq] at e;cases e
 refine⟨g,c,ad a,Fa,rfl,(hc a _ (gH ha)).1,hqa,ho,fun m w' ht=>?_⟩;obtain⟨F',hq,hu,hn⟩:=ht;have hlt:=hq.lt;refine⟨_,⟨fun q=>if q<w.heap.size then O q else if q<w'.heap.size then some (.mat a) else none,ad,⟨?_,?_,?_,?_⟩,rfl⟩,hu.mono (fun q _ hq=>ho q hq),fun k hk=>?_⟩
 ·exact aB hi.rows hu (fun k hk e=>by have:=hFa _ e;rw[hi.orow k hk] at this;cases this)
 ·intro k hk;show(if k<w.heap.size then O k else _)=_
  have:=hi.orow k hk;rw[if_pos (hi.lt k (by rw[this];exact nofun))];exact this
 ·intro k hk;by_cases e:k=a
  ·subst e;rw[cP];refine⟨F',hq,fun q hf=>?_⟩;show(if q<w.heap.size then O q else if q<w'.heap.size then some (.mat k) else none)=_
   by_cases hl:q<w.heap.size
   ·rw[if_pos hl];rcases hn q hf with h1|h1
    ·exact hFa q h1
    ·omega
   ·rw[if_neg hl,if_pos (hlt q hf)]
  ·rw[dD B m e];obtain⟨F,h1,h2⟩:=hi.mats k hk;refine⟨F,h1.upd hu (fun q hf hf'=>?_),fun q hf=>?_⟩
   ·have e1:=h2 q hf;rw[hFa q hf'] at e1;injection e1 with e1;injection e1 with e1;exact e e1.symm
   ·show(if q<w.heap.size then O q else _)=_
    rw[if_pos (h1.lt q hf)];exact h2 q hf
 ·intro q hq;by_cases hl:q<w.heap.size
  ·exact Nat.lt_of_lt_of_le hl hu.size
  ·by_cases hl2:q<w'.heap.size
   ·exact hl2
   ·rw[if_neg hl,if_neg hl2] at hq;exact absurd rfl hq
 ·by_cases hl:k<w.heap.size
  ·have hk:(if k<w.heap.size then O k else _)≠none:=hk;rw[if_pos hl] at hk;exact .inl hk
  ·exact .inr (by omega)
open Classical in
/-- Another matrix in the a-th place. -/
theorem MtS.put{w:World}{F Fq:Nat→Prop}{pv:Value}{side n:Nat}{B:aX}(h:MtS w F pv side n B){a q:Nat}(ha:a<n){m:Option (List Nat)}(hq:QuS w Fq q side m)(hd:∀k,Fq k→¬F k) :
  ∃g c v0,pv=.slice (some ⟨g,0,none⟩) n c∧w.cell? ⟨g,a,none⟩=some v0∧w.frozen? ⟨g,a,none⟩=false∧F g∧∃F',MtS (w.setCell ⟨g,a,none⟩ (.pointer (some ⟨q,0,none⟩))) F' pv side n (upM B a m)∧∀k,F' k→F k∨Fq k:=by
 obtain⟨O,ad,hi,rfl⟩:=h;obtain⟨g,c,rfl,hob,-,-,-,hc⟩:=aL hi.rows (by omega);have hg:=hi.orow g rfl;have hus:=(Upd.refl (fun k=>k=g) w).setCell (p:=⟨g,a,none⟩) (.inl rfl) (.pointer (some ⟨q,0,none⟩));have hnq:¬Fq g:=fun e=>hd g e (by show O g≠none;rw[hg];exact nofun)
 refine⟨g,c,_,rfl,(hc a _ (gH ha)).1,(hc a _ (gH ha)).2,by show O g≠none;rw[hg];exact nofun,_,⟨fun x=>if O x=some (.mat a) then none else if O x≠none then O x else if Fq x then some (.mat a) else none,fun k=>if k=a then q else ad k,⟨?_,?_,?_,?_⟩,rfl⟩,?_⟩
 ·rw[← QJ];exact cJ hi.rows (by omega) _
 ·intro k hk;have e:=hi.orow k hk;show(if O k=some (.mat a) then none else if O k≠none then O k else _)=_
  rw[if_neg (by rw[e];exact nofun),if_pos (by rw[e];exact nofun)];exact e
 ·intro k hk;by_cases e:k=a
  ·subst e;rw[cP];refine⟨Fq,?_,fun x hx=>?_⟩
   ·show QuS _ Fq (if k=k then q else ad k) side m
    rw[if_pos rfl];exact hq.upd hus (fun x hx e=>hnq (e ▸ hx))
   ·have hox:O x=none:=Classical.byContradiction (fun e=>hd x hx e);show(if O x=some (.mat k) then none else if O x≠none then O x else if Fq x then some (MRo.mat k) else none)=_
    rw[if_neg (by rw[hox];exact nofun),if_neg (fun e=>e hox),if_pos hx]
  ·rw[dD B m e];obtain⟨Fk,h1,h2⟩:=hi.mats k hk;refine⟨Fk,?_,fun x hx=>?_⟩
   ·show QuS _ Fk (if k=a then q else ad k) side (B k)
    rw[if_neg e];exact h1.upd hus (fun x hx e'=>by
     have e3:=h2 x hx;rw[e',hg] at e3;cases e3)
   ·have e3:=h2 x hx;show(if O x=some (.mat a) then none else if O x≠none then O x else _)=_
    rw[if_neg (by rw[e3];exact fun h=>e (by injection h with h;injection h)),if_pos (by rw[e3];exact nofun)];exact e3
 ·intro x hx;have hx:(if O x=some (.mat a) then none else if O x≠none then O x else if Fq x then some (MRo.mat a) else none)≠none:=hx;show x<(w.setCell _ _).heap.size
  have hz:(w.setCell ⟨g,a,none⟩ (.pointer (some ⟨q,0,none⟩))).heap.size=w.heap.size:=by simp
  rw[hz];by_cases e1:O x=some (.mat a)
  ·exact hi.lt x (by rw[e1];exact nofun)
  ·rw[if_neg e1] at hx;by_cases e2:O x≠none
   ·exact hi.lt x e2
   ·rw[if_neg e2] at hx;by_cases e3:Fq x
    ·exact hq.lt x e3
    ·rw[if_neg e3] at hx;exact absurd rfl hx
 ·intro x hx;have hx:(if O x=some (.mat a) then none else if O x≠none then O x else if Fq x then some (MRo.mat a) else none)≠none:=hx;by_cases e1:O x=some (.mat a)
  ·rw[if_pos e1] at hx;exact absurd rfl hx
  ·rw[if_neg e1] at hx;by_cases e2:O x≠none
   ·exact .inl e2
   ·rw[if_neg e2] at hx;by_cases e3:Fq x
    ·exact .inr e3
    ·rw[if_neg e3] at hx;exact absurd rfl hx
open Classical in
/-- One more matrix. -/
theorem MtS.grow{w:World}{F Fq:Nat→Prop}{pv:Value}{side t q:Nat}{B:aX}{m:Option (List Nat)}(h:MtS w F pv side t B)(hq:QuS w Fq q side m)(hd:∀k,Fq k→¬F k)(ht:t≤512) :
  ∃A' c' W2,(Builtin.append_ #[90,90] 90 #[pv,.slice (some ⟨w.heap.size,0,none⟩) 1 1]).run Tryz.prog (w.alloc (.cells #[.pointer (some ⟨q,0,none⟩)] 97))=.ok (.slice A' (t+1) c') W2 ∧
   (∃F',MtS W2 F' (.slice A' (t+1) c') side (t+1) (upM B t m)∧∀k,F' k→F k∨Fq k∨w.heap.size≤k)∧Upd F w W2:=by
 obtain⟨O,ad,hi,rfl⟩:=h;obtain⟨A,c,rfl,-,-⟩:=aH hi.rows;obtain⟨v2,W2,happ,own2,u2,p2⟩:=dB w 0 90 97 1 8 _ Tryz.underlying90 zH rfl (by decide) (.slice A t c) t (ptC ad t) hi.rows [.pointer (some ⟨q,0,none⟩)] 1 rfl (fun x hx=>by rw[List.mem_singleton.1 hx];rfl) (by omega) (by unfold maxLen;omega) (Nat.zero_le _);obtain⟨A',c',rfl,-,-⟩:=aH own2;have hrow:∀k,(Value.slice A t c).ownBlock=some k→O k=some .row:=hi.orow;have hUF:∀k,((Value.slice A t c).ownBlock=some k)→O k≠none:=fun k hk=>by rw[hrow k hk];exact nofun
 have hlt2:=own2.lt;have hqlt:=hq.lt;refine⟨A',c',W2,happ,⟨_,⟨fun k=>if k<w.heap.size then (if O k≠none then O k else if Fq k then some (.mat t) else none) else if (Value.slice A' (t+1) c').ownBlock=some k then some .row else none,upA ad t q,⟨?_,?_,?_,?_⟩,rfl⟩,?_⟩,u2.mono (fun k _ hk=>hUF k hk)⟩
 ·rw[← zI];exact own2
 ·intro k hk;show(if k<w.heap.size then (if O k≠none then O k else _) else _)=_
  rcases p2 k hk with h1|h1
  ·rw[if_pos (hi.lt k (by rw[hrow k h1];exact nofun)),if_pos (by rw[hrow k h1];exact nofun)];exact hrow k h1
  ·rw[if_neg (by omega),if_pos hk]
 ·intro k hk;by_cases e:k=t
  ·subst e;rw[cP];refine⟨Fq,?_,fun x hx=>?_⟩
   ·show QuS _ Fq (if k=k then q else ad k) side m
    rw[if_pos rfl];exact hq.upd u2 (fun x hx e=>hd x hx (hUF x e))
   ·show(if x<w.heap.size then (if O x≠none then O x else if Fq x then some (MRo.mat k) else none) else _)=_
    have hox:O x=none:=Classical.byContradiction (fun e=>hd x hx e);rw[if_pos (hqlt x hx),if_neg (fun e=>e hox),if_pos hx]
  ·rw[dD B m e];obtain⟨Fk,h1,h2⟩:=hi.mats k (by omega);refine⟨Fk,?_,fun x hx=>?_⟩
   ·show QuS _ Fk (if k=t then q else ad k) side (B k)
    rw[if_neg e];exact h1.upd u2 (fun x hx e'=>by
     have e3:=h2 x hx;rw[hrow x e'] at e3;cases e3)
   ·show(if x<w.heap.size then (if O x≠none then O x else _) else _)=_
    rw[if_pos (h1.lt x hx),if_pos (by rw[h2 x hx];exact nofun)];exact h2 x hx
 ·intro k hk;have hz:=u2.size;by_cases hl:k<w.heap.size
  ·omega
  ·have hk:(if k<w.heap.size then _ else if (Value.slice A' (t+1) c').ownBlock=some k then some MRo.row else none)≠none:=hk;rw[if_neg hl] at hk;by_cases e:(Value.slice A' (t+1) c').ownBlock=some k
   ·exact(hlt2 k e).2
   ·rw[if_neg e] at hk;exact absurd rfl hk
 ·intro k hk;by_cases hl:k<w.heap.size
  ·have hk:(if k<w.heap.size then (if O k≠none then O k else if Fq k then some (MRo.mat t) else none) else _)≠none:=hk;rw[if_pos hl] at hk;by_cases e:O k≠none
   ·exact .inl e
   ·rw[if_neg e] at hk;by_cases e2:Fq k
    ·exact .inr (.inl e2)
    ·rw[if_neg e2] at hk;exact absurd rfl hk
  ·exact .inr (.inr (by omega))
theorem MtS.nil(w:World)(side:Nat)(B:aX):MtS w (fun _=>False) (.slice none 0 0) side 0 B:=by
 refine⟨fun _=>none,fun _=>0,⟨World.ownsRow_nil _ _ _ _,fun k hk=>by simp[Value.ownBlock] at hk,fun k hk=>by omega,fun q hq=>absurd rfl hq⟩,?_⟩;funext k
 simp
open Go.Shelf
def HJ:Go.Shelf.Ren:=⟨fun | 0=>0 | 1=>1 | 2=>2 | 6=>95 | 11=>98 | 14=>143 | 15=>144 | 18=>145 | 20=>176 | 21=>177 | 22=>178 | 23=>179 | 24=>180 | 25=>181 | 26=>182 | 27=>183 | 28=>184 | 29=>185 | 46=>218 | 47=>219 | 48=>220 | 49=>221 | 50=>222 | 57=>236 | 60=>280 | 61=>281 | 62=>282 | 63=>283 | 64=>284 | 65=>285 | 66=>286 | 67=>287 | 68=>288 | 69=>289 | 70=>290 | 71=>291 | 72=>292 | 73=>294 | 74=>295 | 75=>303 | n=>n,fun | 0=>0 | 1=>1 | 2=>2 | 3=>3 | 4=>4 | 5=>5 | 6=>6 | 7=>7 | 8=>8 | 9=>9 | 10=>10 | 11=>11 | 12=>12 | 13=>13 | 14=>14 | 15=>15 | 16=>16 | 17=>17 | 18=>18 | 19=>19 | 20=>20 | 21=>21 | 22=>35 | 23=>174 | 24=>25 | 25=>177 | 27=>189 | 29=>176 | 37=>219 | 38=>220 | 39=>197 | 40=>120 | 42=>198 | 44=>250 | 45=>251 | 46=>252 | 47=>253 | 48=>254 | 49=>255 | 50=>141 | 51=>256 | 52=>257 | 53=>258 | 54=>247 | 55=>166 | 66=>292 | 67=>293 | 68=>294 | 69=>295 | 70=>296 | 71=>297 | 76=>308 | 77=>94 | 78=>309 | 81=>270 | 82=>341 | 83=>342 | 84=>343 | 85=>344 | 86=>345 | 87=>58 | 88=>346 | 89=>347 | 90=>348 | 91=>302 | 92=>349 | 93=>350 | 94=>351 | 95=>352 | 96=>318 | n=>n,fun n=>n⟩
theorem SU:SlLaysF0.n6 Tryz.prog HJ:={
 mixed:=(by kernel_rfl)
 f6:=⟨Tryz.f95.name,by decide,Tryz.func95.trans (congrArg some (by kernel_rfl))⟩
 f14:=⟨Tryz.f143.name,by decide,Tryz.func143.trans (congrArg some (by kernel_rfl))⟩
 f15:=Tryz.func144.trans (congrArg some (by kernel_rfl))
 f20:=⟨Tryz.f176.name,by decide,Tryz.func176.trans (congrArg some (by kernel_rfl))⟩
 f21:=⟨Tryz.f177.name,by decide,Tryz.func177.trans (congrArg some (by kernel_rfl))⟩
 f22:=⟨Tryz.f178.name,by decide,Tryz.func178.trans (congrArg some (by kernel_rfl))⟩
 f23:=⟨Tryz.f179.name,by decide,Tryz.func179.trans (congrArg some (by kernel_rfl))⟩
 f24:=⟨Tryz.f180.name,by decide,Tryz.func180.trans (congrArg some (by kernel_rfl))⟩
 f25:=⟨Tryz.f181.name,by decide,Tryz.func181.trans (congrArg some (by kernel_rfl))⟩
 f26:=⟨Tryz.f182.name,by decide,Tryz.func182.trans (congrArg some (by kernel_rfl))⟩
 f27:=⟨Tryz.f183.name,by decide,Tryz.func183.trans (congrArg some (by kernel_rfl))⟩
 f28:=Tryz.func184.trans (congrArg some (by kernel_rfl))
 f29:=Tryz.func185.trans (congrArg some (by kernel_rfl))
 f46:=⟨Tryz.f218.name,by decide,Tryz.func218.trans (congrArg some (by kernel_rfl))⟩
 f47:=Tryz.func219.trans (congrArg some (by kernel_rfl))
 f48:=Tryz.func220.trans (congrArg some (by kernel_rfl))
 f49:=⟨Tryz.f221.name,by decide,Tryz.func221.trans (congrArg some (by kernel_rfl))⟩
 f50:=⟨Tryz.f222.name,by decide,Tryz.func222.trans (congrArg some (by kernel_rfl))⟩
 f57:=⟨Tryz.f236.name,by decide,Tryz.func236.trans (congrArg some (by kernel_rfl))⟩
 t0:=Tryz.underlying0
 a0:=Tryz.isAgg0
 z0:=Tryz.sizeOf0
 v0:=Tryz.zeroValue0
 t3:=Tryz.underlying3
 a3:=Tryz.isAgg3
 z3:=Tryz.sizeOf3
 v3:=Tryz.zeroValue3
 t4:=Tryz.underlying4
 a4:=Tryz.isAgg4
 z4:=Tryz.sizeOf4
 v4:=Tryz.zeroValue4
 t5:=Tryz.underlying5
 a5:=Tryz.isAgg5
 z5:=Tryz.sizeOf5
 v5:=Tryz.zeroValue5
 t9:=Tryz.underlying9
 a9:=Tryz.isAgg9
 z9:=Tryz.sizeOf9
 v9:=Tryz.zeroValue9
 t22:=Tryz.underlying35
 a22:=Tryz.isAgg35
 z22:=Tryz.sizeOf35
 v22:=Tryz.zeroValue35
 t25:=Tryz.underlying177
 a25:=Tryz.isAgg177
 z25:=Tryz.sizeOf177
 v25:=Tryz.zeroValue177
 t39:=Tryz.underlying197
 a39:=Tryz.isAgg197
 z39:=Tryz.sizeOf197
 v39:=Tryz.zeroValue197
 t45:=Tryz.underlying251
 a45:=Tryz.isAgg251
 z45:=Tryz.sizeOf251
 v45:=Tryz.zeroValue251
 t46:=Tryz.underlying252
 a46:=Tryz.isAgg252
 z46:=Tryz.sizeOf252
 v46:=Tryz.zeroValue252
 t50:=Tryz.underlying141
 a50:=Tryz.isAgg141
 z50:=Tryz.sizeOf141
 v50:=Tryz.zeroValue141
 t53:=Tryz.underlying258
 a53:=Tryz.isAgg258
 z53:=Tryz.sizeOf258
 v53:=Tryz.zeroValue258
 t55:=Tryz.underlying166
 a55:=Tryz.isAgg166
 z55:=Tryz.sizeOf166
 v55:=Tryz.zeroValue166
 t66:=Tryz.underlying292
 a66:=Tryz.isAgg292
 z66:=Tryz.sizeOf292
 v66:=Tryz.zeroValue292
 t70:=Tryz.underlying296
 a70:=Tryz.isAgg296
 z70:=Tryz.sizeOf296
 v70:=Tryz.zeroValue296
 t76:=Tryz.underlying308
 a76:=Tryz.isAgg308
 z76:=Tryz.sizeOf308
 v76:=Tryz.zeroValue308
 t77:=Tryz.underlying94
 a77:=Tryz.isAgg94
 z77:=Tryz.sizeOf94
 v77:=Tryz.zeroValue94 }
open Go.RowKit Go.Sort Go.Shelf
def MD(x y:Nat × Nat × Nat):Int:=or3 (tV (x.1:Int) (y.1:Int)) (tV (x.2.1:Int) (y.2.1:Int)) (tV (x.2.2:Int) (y.2.2:Int))
theorem IA(x y:Nat × Nat × Nat):decide (MD x y<0)=GY x y:=by
 unfold GY;refine decide_eq_decide.2 ?_;obtain⟨a0,a1,a2⟩:=x;obtain⟨b0,b1,b2⟩:=y;unfold MD or3 tV ltF ltC;dsimp only
 repeat' split
 all_goals omega
theorem ME:SWO (ltOf MD):=by
 have h:∀x y,ltOf MD x y=GY x y:=fun x y=>IA x y
 refine⟨fun x=>by rw[h];exact SS.irr x,fun x y z a b=>by rw[h] at *;exact SS.tr x y z a b,fun x y z a b=>?_⟩;rw[h] at *;cases e:GY x z
 ·rfl
 ·cases e2:GY z y
  ·rw[SS.tri _ _ b e2] at a;rw[a] at e;cases e
  ·have:=SS.tr _ _ _ e e2;rw[a] at this;cases this
theorem BP(x y:Nat × Nat × Nat)(w:World):Calls Tryz.prog 96 #[.agg (faC x).toArray,.agg (faC y).toArray] w (TL w (.int .i64 (MD x y))):=by
 obtain⟨a0,a1,a2⟩:=x;obtain⟨b0,b1,b2⟩:=y;unfold MD faC;dsimp only
 obtain⟨v0,e0⟩:∃v,tV (a0:Int) (b0:Int)=v:=⟨_,rfl⟩;obtain⟨v1,e1⟩:∃v,tV (a1:Int) (b1:Int)=v:=⟨_,rfl⟩;obtain⟨v2,e2⟩:∃v,tV (a2:Int) (b2:Int)=v:=⟨_,rfl⟩;have H0:=fun W=>nO (a0:Int) (b0:Int) W
 have H1:=fun W=>nO (a1:Int) (b1:Int) W
 have H2:=fun W=>nO (a2:Int) (b2:Int) W
 rw[e0] at H0 ⊢;rw[e1] at H1 ⊢;rw[e2] at H2 ⊢;clear e0 e1 e2;have k0:=(Blk.new w 25 #[.int .i64 (a0:Int),.int .i64 (a1:Int),.int .i64 (a2:Int)]).alloc (.cells #[.int .i64 (b0:Int),.int .i64 (b1:Int),.int .i64 (b2:Int)] 25);have k1:=Blk.new (w.alloc (.cells #[.int .i64 (a0:Int),.int .i64 (a1:Int),.int .i64 (a2:Int)] 25)) 25 #[.int .i64 (b0:Int),.int .i64 (b1:Int),.int .i64 (b2:Int)];simp only[World.size_alloc] at k1
 have HK:=aI2 k0 k1;have hg:∀o,Sort.grow (w.drewN 1) #[.cells #[.int .i64 (a0:Int),.int .i64 (a1:Int),.int .i64 (a2:Int)] 25,.cells #[.int .i64 (b0:Int),.int .i64 (b1:Int),.int .i64 (b2:Int)] 25,o]=((w.alloc (.cells #[.int .i64 (a0:Int),.int .i64 (a1:Int),.int .i64 (a2:Int)] 25)).alloc (.cells #[.int .i64 (b0:Int),.int .i64 (b1:Int),.int .i64 (b2:Int)] 25)).drew.alloc o:=fun o=>by
  rw[Sort.alloc_eq_grow,Sort.alloc_eq_grow,Sort.alloc_eq_grow,Sort.grow_grow,Sort.drew_grow,Sort.grow_grow];rfl
 have HG:=hIz hg;clear k0 k1 hg;go_enter Tryz.func96,Tryz.ntmps96;go_upto_region 1 with (fail);generalize (w.alloc (.cells #[.int .i64 (a0:Int),.int .i64 (a1:Int),.int .i64 (a2:Int)] 25)).alloc (.cells #[.int .i64 (b0:Int),.int .i64 (b1:Int),.int .i64 (b2:Int)] 25)=W0 at HK HG ⊢;have c00:W0.cell? ⟨w.heap.size,0,none⟩=some (.int .i64 (a0:Int)):=HK.out.1.cell 0;have c01:W0.cell? ⟨w.heap.size,1,none⟩=some (.int .i64 (a1:Int)):=HK.out.1.cell 1;have c02:W0.cell? ⟨w.heap.size,2,none⟩=some (.int .i64 (a2:Int)):=HK.out.1.cell 2;have c10:W0.cell? ⟨w.heap.size+1,0,none⟩=some (.int .i64 (b0:Int)):=HK.out.2.cell 0;have c11:W0.cell? ⟨w.heap.size+1,1,none⟩=some (.int .i64 (b1:Int)):=HK.out.2.cell 1;have c12:W0.cell? ⟨w.heap.size+1,2,none⟩=some (.int .i64 (b2:Int)):=HK.out.2.cell 2;refine aP (fun w'=>w'.cell? ⟨w.heap.size,0,none⟩=some (.int .i64 (a0:Int))∧w'.cell? ⟨w.heap.size,1,none⟩=some (.int .i64 (a1:Int))∧w'.cell? ⟨w.heap.size,2,none⟩=some (.int .i64 (a2:Int))∧w'.cell? ⟨w.heap.size+1,0,none⟩=some (.int .i64 (b0:Int))∧w'.cell? ⟨w.heap.size+1,1,none⟩=some (.int .i64 (b1:Int))∧w'.cell? ⟨w.heap.size+1,2,none⟩=some (.int .i64 (b2:Int))) 18
  [(0,true),(1,true),(2,true),(3,true),(5,true),(6,true),(7,true),(8,true),(10,true),(11,true),(12,true),(13,true),(4,false),(9,false),(14,false),(15,false),(16,false),(17,true)] (by kernel_rfl) (by kernel_rfl) (fun _ _ d _ _ h=>by cases d <;> exact h) ⟨c00,c01,c02,c10,c11,c12⟩ ?_
 iterate 12 refine aD rfl ?_
 refine aK rfl rfl (fun K hK=>?_);go_simp;refine(H0 _).mono ?_;rintro e w1 ⟨rfl,rfl⟩;refine hK _ _ (fun _=>⟨c00,c01,c02,c10,c11,c12⟩) ?_;clear hK K;(try simp only[Act.put,gA,gS,gZ,sA,sZ,sS])
 refine aK rfl rfl (fun K hK=>?_);go_simp;refine(H1 _).mono ?_;rintro e w1 ⟨rfl,rfl⟩;refine hK _ _ (fun _=>⟨c00,c01,c02,c10,c11,c12⟩) ?_;clear hK K;(try simp only[Act.put,gA,gS,gZ,sA,sZ,sS])
 refine aK rfl rfl (fun K hK=>?_);go_simp;refine(H2 _).mono ?_;rintro e w1 ⟨rfl,rfl⟩;refine hK _ _ (fun _=>⟨c00,c01,c02,c10,c11,c12⟩) ?_;clear hK K;(try simp only[Act.put,gA,gS,gZ,sA,sZ,sS])
 have bA:Below W0.heap.size W0 (W0.drew.alloc (.cells #[.int .i64 v0,.int .i64 v1,.int .i64 v2] 3)):=by(repeat (first | exact Below.refl _ _ | apply Below.drew | refine Below.alloc ?_ (by first | exact Nat.le_refl _ | (simp;done) | (simp;omega)) _ | refine Below.setCell ?_ (by first | exact Nat.le_refl _ | (simp;done) | (simp;omega)) _))
 have up:∀w',Below W0.heap.size W0 w'→w'.cell? ⟨w.heap.size,0,none⟩=some (.int .i64 (a0:Int))∧w'.cell? ⟨w.heap.size,1,none⟩=some (.int .i64 (a1:Int))∧w'.cell? ⟨w.heap.size,2,none⟩=some (.int .i64 (a2:Int))∧w'.cell? ⟨w.heap.size+1,0,none⟩=some (.int .i64 (b0:Int))∧w'.cell? ⟨w.heap.size+1,1,none⟩=some (.int .i64 (b1:Int))∧w'.cell? ⟨w.heap.size+1,2,none⟩=some (.int .i64 (b2:Int)):=fun w' hb=>by
  have u:=Upd.of_below hb (fun _=>False);have h1:=HK.out.1.upd u id;have h2:=HK.out.2.upd u id;exact⟨h1.cell 0,h1.cell 1,h1.cell 2,h2.cell 0,h2.cell 1,h2.cell 2⟩
 have SA:=hIz (up _ bA);have kA:=Blk.new W0.drew 3 #[.int .i64 v0,.int .i64 v1,.int .i64 v2];have HA:=hIz (CY _ _ v0 v1 v2 kA);clear up bA kA;refine aK rfl rfl (fun K hK=>?_);go_simp;refine hK _ _ (fun _=>SA.out) ?_;clear hK K;(try simp only[Act.put,gA,gS,gZ,sA,sZ,sS])
 refine aK rfl rfl (fun K hK=>?_);go_simp;refine HA.out.mono ?_;rintro e w1 ⟨rfl,rfl⟩;refine hK _ _ (fun _=>SA.out) ?_;clear hK K;(try simp only[Act.put,gA,gS,gZ,sA,sZ,sS])
 refine aD rfl ?_;refine aJ ?_;go_wp2;go_ret;exact⟨rfl,1,_,(HG.out _).symm⟩
theorem vZ(d:Array (Nat × Nat × Nat)):(flatK faC 3 d).toList=cR d.toList:=by
 apply List.ext_getElem?
 intro j;by_cases hj:j<d.size*3
 ·have hi:j / 3<d.size:=Nat.div_lt_of_lt_mul (by omega);have hm:j % 3<3:=Nat.mod_lt _ (by decide);have hjd:j / 3*3+j % 3=j:=by omega
  have h2:=dN faC 3 (fun _=>rfl) d.toList (j / 3) (j % 3) d[j / 3]! (by rw[Array.getElem?_toList,getElem!_pos d _ hi,Array.getElem?_eq_getElem hi]) hm;rw[hjd] at h2;show _=(d.toList.flatMap faC)[j]?
  rw[h2];have h3:=get_flatK faC 3 d j hj;have h4:j<(flatK faC 3 d).size:=by rw[size_flatK];exact hj
  rw[Array.getElem?_toList,Array.getElem?_eq_getElem h4,← getElem!_pos (flatK faC 3 d) j h4,h3];have h5:j % 3<(faC d[j / 3]!).length:=hm;rw[gEz h5,getElem!_pos (faC d[j / 3]!) _ h5]
 ·rw[List.getElem?_eq_none (by rw[Array.length_toList,size_flatK];omega),List.getElem?_eq_none (by rw[xU,Array.length_toList];omega)]
theorem BQ(w:World)(base g cap:Nat)(L:List (Nat × Nat × Nat))(h:w.ownsRow base 25 3 (.slice (some ⟨g,0,none⟩) L.length cap) L.length (cR L))(hl:L.length≤140737488355328) :
  Calls Tryz.prog 95 #[.slice (some ⟨g,0,none⟩) L.length cap,.func (.func 96) #[] #[]] w fun e w'=>e=.returned (.tuple #[])∧∃d:Array (Nat × Nat × Nat),oM GY L d∧w'.ownsRow base 25 3 (.slice (some ⟨g,0,none⟩) L.length cap) L.length (cR d.toList)∧Upd (fun q=>q=g) w w':=by
 have eg:∀args w,(callFunc 96 args).run Tryz.prog w=.ok (.enter 96 args) w:=enters_of Tryz.func96 (by kernel_rfl) rfl;have hcmp:CmpLays Tryz.prog 96 #[] faC 3 MD g 0 L.toArray.size w:=fun m os dk _ x y=>(BP x y _).mono fun e w' hh=>hh
 have hHo:w.ownsRow base 25 3 (.slice (some ⟨g,0,none⟩) L.length cap) L.length ((flatK faC 3 L.toArray).toList.map id):=by rw[List.map_id,vZ];exact h
 have hH:HoldsK faC 3 w g 0 L.toArray:=jB hHo;have hg:=(h.lt g rfl).2;have hcon:=AnyQ.slices_SortFunc SU 3 (fun w=>Tryz.isAgg25 w) (fun w=>Tryz.sizeOf25 w) faC (fun _=>rfl) (fun x v hv=>by simp[faC] at hv;rcases hv with rfl | rfl | rfl <;> rfl) MD ME 96 #[] g 0 cap L.toArray w eg hcmp hH hg (by simp;omega);change Calls Tryz.prog 95 _ _ _ at hcon
 rw[show L.toArray.size=L.length from by simp] at hcon;refine hcon.mono ?_;rintro e w' ⟨rfl,d',n,os,hp,hs,rfl⟩;have hlt:ltOf MD=GY:=by funext x y;exact IA x y
 rw[hlt] at hs;have ho:=oM.of (L:=L) (by simpa using hp) (by simpa using hs);have key:=oK (enc:=id) (m:=n) (os:=os) h (flatK faC 3 d') (by rw[size_flatK,ho.n]);rw[List.map_id,vZ] at key;exact⟨rfl,d',ho,key.1,key.2⟩
open Go.RowKit Go.Shelf
def SW(w:World)(side n:Nat)(B:aX)(e:Ending)(w':World):Prop:=∃v F,e=.returned v∧MtS w' F v side n B∧(∀k,F k→w.heap.size≤k)∧Below w.heap.size w w'
abbrev noM:aX:=fun _=>none
theorem MF(t:Nat):upM noM t none=noM:=by
 funext k
 unfold upM;split <;> rfl
theorem mJ(w:World)(nts:Nat)(hn:nts≤512):Calls Tryz.prog 35 #[.int .i64 (nts:Int)] w (SW w 32 nts noM):=by
 go_enter Tryz.func35,Tryz.ntmps35;go_wp2;go_loopw [3,7] (fun l i wr=>∃t:Nat,t≤nts∧i=.int .i64 (t:Int)∧Hid (∃F,MtS wr F l 32 t noM∧(∀k,F k→w.heap.size≤k)∧Below w.heap.size w wr)) (fun _ i _=>nts-(intOf i).toNat)
 case atStart=>exact⟨0,Nat.zero_le _,rfl,hIz ⟨_,MtS.nil w 32 _,fun _ h=>h.elim,Below.refl _ _⟩⟩
 case round =>
  obtain⟨t,ht,rfl,hq⟩:=hrel;obtain⟨F,hm,hF,hbw⟩:=hq.out;obtain⟨A,c,rfl⟩:=hm.form;by_cases hlt:t<nts
  ·have htI:(t:Int)<(nts:Int):=by omega
   have hnew:=kG wr 32 (by decide) (by decide);have HC:=aI3 hm hF hbw;clear hm hF hbw hq;go_wp2_with fail;refine hnew.mono ?_;clear hnew;rintro e V5 ⟨q,rfl,⟨Fq,hqs,hFq⟩,hb5⟩;obtain⟨A',c',W6,happ,⟨F',hm',hF'⟩,hu'⟩:=MtS.grow (HC.out.1.below hb5) hqs (fun k hk hf=>by have:=hFq k hk;have:=HC.out.1.lt k hf;omega) (by omega);rw[MF] at hm';obtain⟨t1,ht1⟩:∃t1,t+1=t1:=⟨_,rfl⟩;rw[ht1] at happ hm';have hbV:=tHn HC.out.2.2 hb5;have FIN:=hIz (show ∃F,MtS W6 F (.slice A' t1 c') 32 t1 noM∧(∀k,F k→w.heap.size≤k)∧Below w.heap.size w W6 from
    ⟨F',hm',fun k hk=>by
     rcases hF' k hk with h|h|h
     ·exact HC.out.2.1 k h
     ·exact Nat.le_trans HC.out.2.2.size (hFq k h)
     ·exact Nat.le_trans hbV.size h,hbV.trans (hu'.below (fun k _ hk=>HC.out.2.1 k hk) hbV.size)⟩)
   have hkw:IntKind.i64.wrap ((t:Int)+1)=(t:Int)+1:=IntWalk.i64_in _ (by omega);have HT1:=hIz ht1;clear hqs hFq hm' hF' hu' hb5 hbV ht1;go_wp2_with (at_builtin;refine wpList_append_run rfl _ _ _ rfl rfl rfl happ ?_);go_roundw
   case rel=>exact⟨t1,by have:=HT1.out;omega,by rw[← HT1.out];go_num,FIN⟩
   case measure=>have:=HT1.out;simp[intOf];omega
  ·obtain rfl:t=nts:=by omega
   have FIN:=hIz (show SW w 32 t noM (.returned (.slice A t c)) wr from⟨_,F,rfl,hm,hF,hbw⟩);clear hm hF hbw hq;go_wp2;go_ret;exact FIN.out
open Go.RowKit Go.Shelf
structure DcP(w:World)(K:Nat→Prop)(p nts:Nat)(PA:Option Addr)(pc:Nat)(PV:List Pv)(LA:Option Addr)(cl:Nat)(labels:List Txt)(pg:Nat)(mv:Value):Prop where
 blk:Blk w p 93 #[.int .i64 (nts:Int),.slice PA PV.length pc,.slice LA labels.length cl,.pointer (some ⟨pg,0,none⟩),mv]
 pv:PvR w PA PV
 lab:bO w LA (aG labels)
 kp:K p
 kpv:∀b o x,PA=some ⟨b,o,x⟩→K b
 kbd:∀v∈PV,∀b o x,v.adr=some ⟨b,o,x⟩→K b
 klab:∀b o x,LA=some ⟨b,o,x⟩→K b
theorem DcP.upd{w w':World}{K G:Nat→Prop}{p nts:Nat}{PA:Option Addr}{pc:Nat}{PV:List Pv}{LA:Option Addr}{cl:Nat}{labels:List Txt}{pg:Nat}{mv:Value}(h:DcP w K p nts PA pc PV LA cl labels pg mv)(hu:Upd G w w')(hd:∀k,K k→¬G k):DcP w' K p nts PA pc PV LA cl labels pg mv:=
 ⟨h.blk.upd hu (hd _ h.kp),⟨h.pv.1.upd hu (fun b o x e=>hd b (h.kpv b o x e)),fun v hv=>(h.pv.2 v hv).upd hu (fun b o x e=>hd b (h.kbd v hv b o x e))⟩,h.lab.upd hu (fun b o x e=>hd b (h.klab b o x e)),h.kp,h.kpv,h.kbd,h.klab⟩
theorem DcP.below{w w':World}{K:Nat→Prop}{p nts:Nat}{PA:Option Addr}{pc:Nat}{PV:List Pv}{LA:Option Addr}{cl:Nat}{labels:List Txt}{pg:Nat}{mv:Value}(h:DcP w K p nts PA pc PV LA cl labels pg mv)(hb:Below w.heap.size w w'):DcP w' K p nts PA pc PV LA cl labels pg mv:=h.upd (upF hb) (fun _ _=>id)
theorem qC.trans{w W w':World}{F F1:Nat→Prop}{pv:Value}{side n:Nat}{B:aX}(hu:Upd F w W)(hF:∀k,F1 k→F k∨w.heap.size≤k)(h:qC W F1 pv side n B w'):qC w F pv side n B w':=by
 obtain⟨F',h1,h2,h3⟩:=h;exact⟨F',h1,hu.trans h2 (fun k hk=>hF k hk),fun k hk=>(h3 k hk).elim (hF k) (fun h=>.inr (Nat.le_trans hu.size h))⟩

theorem IB{b:Option (List Nat)}(hb:WdO b)(i j:Nat)(hj:j<64):WdO (setO b i j):=by
 unfold setO;split
 ·exact hb
 ·intro r e;obtain rfl:=Option.some.inj e;exact zC hb.old (sJ hj)
theorem IC{b:Option (List Nat)}(hb:WdO b){i j:Nat}(hi:i<64)(hj:j<64)(i' j':Nat):aY (setO b i j) i' j'=true↔aY b i' j'=true∨(i'=i∧j'=j):=by
 constructor
 ·intro h;have:=cM (IB hb i j hj) h;rw[xN hb.old hi this,Bool.or_eq_true,decide_eq_true_iff] at h;exact h
 ·intro h;have hi':i'<64:=h.elim (cM hb) (fun e=>by omega);rw[xN hb.old hi hi',Bool.or_eq_true,decide_eq_true_iff];exact h
def NdB(PV:List Pv)(f t:Nat)(B B':aX)(q u:Nat):Prop:=(∀k,WdO (B' k))∧∀k i j,aY (B' k) i j=true↔aY (B k) i j=true∨(i=j∧f≤i∧∃m x,PV[m]?=some x∧x.pr.body=[]∧x.pr.head.toNat=k∧((m<q∧i<t)∨(m=q∧i<u)))
theorem NdB.start{PV:List Pv}{f t:Nat}{B:aX}(h:∀k,WdO (B k)):NdB PV f t B B 0 f:=⟨h,fun k i j=>by
 constructor
 ·exact .inl
 ·rintro (h|⟨_,h1,m,x,_,_,_,h2⟩)
  ·exact h
  ·omega⟩
theorem NdB.step{PV:List Pv}{f t:Nat}{B B':aX}{q u:Nat}(h:NdB PV f t B B' q u){x:Pv}(hx:PV[q]?=some x)(hb:x.pr.body=[])(hf:f≤u)(hu:u<64):NdB PV f t B (upM B' x.pr.head.toNat (setO (B' x.pr.head.toNat) u u)) q (u+1):=by
 refine⟨fun k=>?_,fun k i j=>?_⟩
 ·by_cases e:k=x.pr.head.toNat
  ·subst e;rw[cP];exact IB (h.1 _) u u hu
  ·rw[dD B' _ e];exact h.1 k
 ·by_cases e:k=x.pr.head.toNat
  ·subst e;rw[cP,IC (h.1 _) hu hu,h.2];constructor
   ·rintro ((h1|⟨h1,h2,m,y,h3,h4,h5,h6⟩)|⟨rfl,rfl⟩)
    ·exact .inl h1
    ·exact .inr ⟨h1,h2,m,y,h3,h4,h5,by omega⟩
    ·exact .inr ⟨rfl,hf,q,x,hx,hb,rfl,.inr ⟨rfl,by omega⟩⟩
   ·rintro (h1|⟨h1,h2,m,y,h3,h4,h5,h6⟩)
    ·exact .inl (.inl h1)
    ·by_cases e:i=u
     ·exact .inr ⟨e,by omega⟩
     ·exact .inl (.inr ⟨h1,h2,m,y,h3,h4,h5,by omega⟩)
  ·rw[dD B' _ e,h.2];constructor
   ·rintro (h1|⟨h1,h2,m,y,h3,h4,h5,h6⟩)
    ·exact .inl h1
    ·exact .inr ⟨h1,h2,m,y,h3,h4,h5,by omega⟩
   ·rintro (h1|⟨h1,h2,m,y,h3,h4,h5,h6⟩)
    ·exact .inl h1
    ·refine .inr ⟨h1,h2,m,y,h3,h4,h5,?_⟩;rcases h6 with h6|⟨rfl,h6⟩
     ·exact .inl h6
     ·rw[hx] at h3;obtain rfl:=Option.some.inj h3;exact(e h5.symm).elim
theorem NdB.skip{PV:List Pv}{f t:Nat}{B B':aX}{q u:Nat}(h:NdB PV f t B B' q u){x:Pv}(hx:PV[q]?=some x)(hb:x.pr.body≠[]∨u=t):NdB PV f t B B' (q+1) f:=by
 refine⟨h.1,fun k i j=>?_⟩;rw[h.2];constructor
 ·rintro (h1|⟨h1,h2,m,y,h3,h4,h5,h6⟩)
  ·exact .inl h1
  ·refine .inr ⟨h1,h2,m,y,h3,h4,h5,?_⟩;rcases h6 with h6|⟨rfl,h6⟩
   ·exact .inl ⟨by omega,h6.2⟩
   ·rw[hx] at h3;obtain rfl:=Option.some.inj h3;rcases hb with hb|hb
    ·exact(hb h4).elim
    ·exact .inl ⟨by omega,by omega⟩
 ·rintro (h1|⟨h1,h2,m,y,h3,h4,h5,h6⟩)
  ·exact .inl h1
  ·refine .inr ⟨h1,h2,m,y,h3,h4,h5,?_⟩;rcases h6 with h6|h6
   ·by_cases e:m<q
    ·exact .inl ⟨e,h6.2⟩
    ·obtain rfl:m=q:=by omega
     rw[hx] at h3;obtain rfl:=Option.some.inj h3;rcases hb with hb|hb
     ·exact(hb h4).elim
     ·exact .inr ⟨rfl,by omega⟩
   ·omega
def NdI(w:World)(F:Nat→Prop)(v:Value)(nts:Nat)(PV:List Pv)(f t:Nat)(B:aX)(q u:Nat)(W:World):Prop:=∃B',qC w F v 32 nts B' W∧NdB PV f t B B' q u
theorem rE(w:World)(K F:Nat→Prop)(p nts pc cl pg:Nat)(PA LA:Option Addr)(PV:List Pv)(labels:List Txt)(mv:Value)(hP:DcP w K p nts PA pc PV LA cl labels pg mv)(v:Value)(B:aX)(hF:MtS w F v 32 nts B)(hd:∀k,F k→¬K k)
  (hg:∀x∈PV,xS nts x.pr) (hw:∀k,WdO (B k)) (f t:Nat) (ht:t≤32) (hft:f≤t) (hm:PV.length≤140737488355328) :
  Calls Tryz.prog 37 #[.pointer (some ⟨p,0,none⟩),v,.int .i64 (f:Int),.int .i64 (t:Int)] w (fun e w'=>e=.returned (.tuple #[])∧NdI w F v nts PV f t B PV.length f w'):=by
 obtain⟨A,c,rfl⟩:=hF.form;have q1:w.cell? ⟨p,1,none⟩=some (.slice PA PV.length pc):=hP.blk.cell 1;have H:=aI5 hP hF hd hg hw;clear hP hF hd hg hw;obtain⟨m,hmm⟩:∃m,PV.length=m:=⟨_,rfl⟩;rw[hmm] at q1 hm ⊢;have HM:=hIz hmm;clear hmm;go_enter Tryz.func37,Tryz.ntmps37;go_wp2;go_loopw [17] (fun i wr=>∃q:Nat,q≤m∧i=.int .i64 (q:Int)∧Hid (NdI w F (.slice A nts c) nts PV f t B q f wr)) (fun i _=>m-(intOf i).toNat)
 case atStart=>exact⟨0,Nat.zero_le _,rfl,hIz ⟨B,⟨F,H.out.2.1,Upd.refl _ _,fun _ h=>.inl h⟩,NdB.start H.out.2.2.2.2⟩⟩
 case round =>
  obtain⟨q,hq,rfl,hi⟩:=hrel;clear q1;by_cases hlt:q<m
  ·have hltI:(q:Int)<(m:Int):=by omega
   obtain⟨B1,⟨F1,hm1,hu1,hF1⟩,hB1⟩:=hi.out;obtain⟨x,hx⟩:∃x,PV[q]?=some x:=⟨_,gEz (by rw[HM.out];omega)⟩;have hc1:=H.out.1.upd hu1 (fun k hk hf=>H.out.2.2.1 k hf hk);obtain⟨pb,po,rfl,c0,c1⟩:=hc1.pv.1.pv hx;have hgx:=H.out.2.2.2.1 x (mG hx);obtain⟨a,ha⟩:∃a:Nat,x.pr.head=(a:Int):=⟨x.pr.head.toNat,(Int.toNat_of_nonneg hgx.h0).symm⟩;have han:a<nts:=by have:=hgx.h1;omega
   rw[ha] at c0;have b1:Below wr.heap.size wr (wr.alloc (.cells #[.int .i64 (a:Int),.slice x.adr x.pr.body.length x.cap] 76)):=bR.alloc (Nat.le_refl _) _;have kb:=Blk.new wr 76 #[.int .i64 (a:Int),.slice x.adr x.pr.body.length x.cap];have HX:=aI8 hx ha (hm1.below b1) (hu1.trans (upF b1) (fun _ h=>h.elim)) hF1 hB1 kb (fun (k:Nat) (hk:F1 k)=>hm1.lt k hk);clear hx ha hm1 hu1 hF1 hB1 hc1 hgx b1 kb hi;obtain⟨vl,hvl⟩:∃vl,x.pr.body.length=vl:=⟨_,rfl⟩;rw[hvl] at c1 HX;have HVL:=hIz hvl;clear hvl;go_upto_region 3 with (fail);generalize hz:wr.heap.size=z at HX ⊢;generalize wr.alloc (.cells #[.int .i64 (a:Int),.slice x.adr vl x.cap] 76)=V at HX ⊢;clear c0 c1 hz;go_wp2;go_loopw [10] (fun i W=>∃u:Nat,(f≤u∧u≤t∧(0<vl→u=f))∧i=.int .i64 (u:Int)∧Hid (∃B2,qC V F1 (.slice A nts c) 32 nts B2 W∧NdB PV f t B B2 q u)) (fun i _=>t-(intOf i).toNat)
   case atStart=>exact⟨f,⟨Nat.le_refl _,hft,fun _=>rfl⟩,rfl,hIz ⟨B1,⟨F1,HX.out.2.2.1,Upd.refl _ _,fun _ h=>.inl h⟩,HX.out.2.2.2.2.2.1⟩⟩
   case round =>
    obtain⟨u,hu,rfl,hj⟩:=hrel;obtain⟨B2,⟨F2,hm2,hu2,hF2⟩,hB2⟩:=hj.out;have kb2:=HX.out.2.2.2.2.2.2.1.upd hu2 (fun e=>by have:=HX.out.2.2.2.2.2.2.2 _ e;omega);have e0:wr.cell? ⟨z,0,none⟩=some (.int .i64 (a:Int)):=kb2.cell 0;have e1:wr.cell? ⟨z,1,none⟩=some (.slice x.adr vl x.cap):=kb2.cell 1;have hta:x.pr.head.toNat=a:=by rw[HX.out.2.1];exact Int.toNat_natCast a
    by_cases hut:u<t
    ·have hutI:(u:Int)<(t:Int):=by omega
     by_cases h0:vl=0
     ·have h0I:((vl:Int)==0)=true:=by simp;omega
      have HV0:=hIz h0;have hnil:x.pr.body=[]:=List.eq_nil_of_length_eq_zero (HVL.out.trans h0);obtain⟨g,c',q',Fq,e,cg,hqs,-,hstep⟩:=hm2.turn han;injection e with e _ e3;subst e;subst e3;have hset:=sO wr Fq q' 32 (B2 a) hqs u u (by omega) (by omega) (by omega) (by omega);have hbs:=hB2.step HX.out.1 hnil hu.1 (by omega);rw[hta] at hbs;have HS:=aI5 hstep hu2 hF2 hbs hu;have hkw:IntKind.i64.wrap ((u:Int)+1)=(u:Int)+1:=IntWalk.i64_in _ (by omega);have hanI:(a:Int)<(nts:Int):=by omega
      clear hstep hu2 hF2 hbs hqs hm2 hB2 kb2 hj hta hnil h0;go_wp2_with fail;refine hset.mono ?_;clear hset;rintro e W3 ⟨rfl,hto⟩;have FIN:=hIz (show ∃B2,qC V F1 (.slice (some ⟨g,0,none⟩) nts c) 32 nts B2 W3∧NdB PV f t B B2 q (u+1) from⟨_,qC.trans HS.out.2.1 HS.out.2.2.1 (HS.out.1 _ W3 hto),HS.out.2.2.2.1⟩);clear hto;go_wp2;go_roundw
      case rel=>exact⟨u+1,⟨by omega,by omega,fun h=>by have:=HV0.out;omega⟩,by go_num,FIN⟩
      case measure=>simp[intOf];omega
     ·have h0I:((vl:Int)==0)=false:=by simp;omega
      have FIN:=hIz (show NdI w F (.slice A nts c) nts PV f t B (q+1) f wr from⟨B2,qC.trans HX.out.2.2.2.1 HX.out.2.2.2.2.1 ⟨F2,hm2,hu2,hF2⟩,hB2.skip HX.out.1 (.inl (fun e=>h0 (by rw[← HVL.out,e];rfl)))⟩);have hkw:IntKind.i64.wrap ((q:Int)+1)=(q:Int)+1:=IntWalk.i64_in _ (by omega);clear hm2 hu2 hF2 hB2 kb2 hj hta;go_wp2;go_roundw
      case rel=>exact⟨q+1,by omega,by go_num,FIN⟩
      case measure=>simp[intOf];omega
    ·obtain rfl:u=t:=by omega
     have hutI:¬(u:Int)<(u:Int):=by omega
     have FIN:=hIz (show NdI w F (.slice A nts c) nts PV f u B (q+1) f wr from⟨B2,qC.trans HX.out.2.2.2.1 HX.out.2.2.2.2.1 ⟨F2,hm2,hu2,hF2⟩,hB2.skip HX.out.1 (.inr rfl)⟩);have hkw:IntKind.i64.wrap ((q:Int)+1)=(q:Int)+1:=IntWalk.i64_in _ (by omega);clear hm2 hu2 hF2 hB2 kb2 hj hta e0 e1;go_wp2;go_roundw
     case rel=>exact⟨q+1,by omega,by go_num,FIN⟩
     case measure=>simp[intOf];omega
  ·obtain rfl:q=m:=by omega
   have FIN:=hIz hi.out;clear hi;go_wp2;(try simp only[Exit.inBlock,Exit.then])
   exact bodyPost_end (results_none rfl _ _ _) rfl ⟨rfl,FIN.out⟩
open Go.RowKit Go.Shelf
def InC(b:Option (List Nat))(side:Nat):Prop:=∀i j,aY b i j=true→i<side∧j<side
theorem NR{a b:Option (List Nat)}{side:Nat}(ha:WdO a)(hb:WdO b)(fa:InC a side)(fb:InC b side):∀x y,a=some x→b=some y→cS (lY x y) side=lY x y:=fun x y hx hy=>by
 have wx:=ha x hx;have wy:=hb y hy;refine tA (jR x wy) (fun i j hij=>?_);have hi:=(kZ (jR x wy) hij).1;rw[xL wx wy hi] at hij;obtain⟨k,_,h1,h2⟩:=hij;exact⟨(fa i k (by rw[hx];exact h1)).1,(fb k j (by rw[hy];exact h2)).2⟩
theorem ID{a b:Option (List Nat)}(ha:WdO a)(hb:WdO b)(i j:Nat):aY (mulO a b) i j=true↔∃u,aY a i u=true∧aY b u j=true:=by
 constructor
 ·intro h;rw[tI ha hb (cM (ha.mulO hb) h)] at h;obtain⟨u,-,h1,h2⟩:=h;exact⟨u,h1,h2⟩
 ·rintro⟨u,h1,h2⟩;rw[tI ha hb (cM ha h1)];exact⟨u,fP ha h1,h1,h2⟩
def NxB(PV:List Pv)(N T B:aX)(q:Nat):Prop:=(∀k,WdO (B k))∧∀k i j,aY (B k) i j=true↔∃m x s t,PV[m]?=some x∧m<q∧x.pr.body=[s,t]∧x.pr.head.toNat=k∧∃u,(aY (N s.at_.toNat) i u=true∧aY (T t.at_.toNat) u j=true)∨(aY (T s.at_.toNat) i u=true∧aY (N t.at_.toNat) u j=true)
theorem NxB.start(PV:List Pv)(N T:aX):NxB PV N T noM 0:=⟨fun k r e=>(by cases e),fun k i j=>by
 constructor
 ·intro h;cases h
 ·rintro⟨m,_,_,_,_,h,_⟩;omega⟩
theorem NxB.skip{PV:List Pv}{N T B:aX}{q:Nat}(h:NxB PV N T B q){x:Pv}(hx:PV[q]?=some x)(hb:x.pr.body.length≠2):NxB PV N T B (q+1):=⟨h.1,fun k i j=>by
 rw[h.2];constructor
 ·rintro⟨m,y,s,t,h1,h2,h3⟩;exact⟨m,y,s,t,h1,by omega,h3⟩
 ·rintro⟨m,y,s,t,h1,h2,h3,h4⟩;by_cases e:m=q
  ·subst e;rw[hx] at h1;obtain rfl:=Option.some.inj h1;exact(hb (by rw[h3];rfl)).elim
  ·exact⟨m,y,s,t,h1,by omega,h3,h4⟩⟩
theorem NxB.step{PV:List Pv}{N T B:aX}{q:Nat}(h:NxB PV N T B q)(hN:∀k,WdO (N k))(hT:∀k,WdO (T k)){x:Pv}(hx:PV[q]?=some x){s t:Sy}(hb:x.pr.body=[s,t]){a:Nat}(ha:x.pr.head.toNat=a) :
  NxB PV N T (upM (upM B a (joinQ (B a) (mulO (N s.at_.toNat) (T t.at_.toNat)))) a (joinQ (joinQ (B a) (mulO (N s.at_.toNat) (T t.at_.toNat))) (mulO (T s.at_.toNat) (N t.at_.toNat)))) (q+1):=by
 have w1:=(hN s.at_.toNat).mulO (hT t.at_.toNat);have w2:=(hT s.at_.toNat).mulO (hN t.at_.toNat);have wj:=(h.1 a).joinQ w1;refine⟨fun k=>?_,fun k i j=>?_⟩
 ·by_cases e:k=a
  ·subst e;rw[cP];exact wj.joinQ w2
  ·rw[dD _ _ e,dD _ _ e];exact h.1 k
 ·by_cases e:k=a
  ·subst e;rw[cP,(kQ.joinQ wj w2).2,(kQ.joinQ (h.1 k) w1).2,h.2,ID (hN _) (hT _),ID (hT _) (hN _)];constructor
   ·rintro ((⟨m,y,s',t',h1,h2,h3⟩|⟨u,hu⟩)|⟨u,hu⟩)
    ·exact⟨m,y,s',t',h1,by omega,h3⟩
    ·exact⟨q,x,s,t,hx,by omega,hb,ha,u,.inl hu⟩
    ·exact⟨q,x,s,t,hx,by omega,hb,ha,u,.inr hu⟩
   ·rintro⟨m,y,s',t',h1,h2,h3,h4,u,h5⟩;by_cases e:m=q
    ·subst e;rw[hx] at h1;obtain rfl:=Option.some.inj h1;rw[hb] at h3;injection h3 with e1 e2;injection e2 with e2;subst e1;subst e2;rcases h5 with h5|h5
     ·exact .inl (.inr ⟨u,h5⟩)
     ·exact .inr ⟨u,h5⟩
    ·exact .inl (.inl ⟨m,y,s',t',h1,by omega,h3,h4,u,h5⟩)
  ·rw[dD _ _ e,dD _ _ e,h.2];constructor
   ·rintro⟨m,y,s',t',h1,h2,h3⟩;exact⟨m,y,s',t',h1,by omega,h3⟩
   ·rintro⟨m,y,s',t',h1,h2,h3,h4,h5⟩;by_cases e2:m=q
    ·subst e2;rw[hx] at h1;obtain rfl:=Option.some.inj h1;exact(e (h4.symm.trans ha)).elim
    ·exact⟨m,y,s',t',h1,by omega,h3,h4,h5⟩
structure NxH(w:World)(K FT FN:Nat→Prop)(p nts pc cl pg:Nat)(PA LA:Option Addr)(PV:List Pv)(labels:List Txt)(mv vn:Value)(T N:aX):Prop where
 hP:DcP w K p nts PA pc PV LA cl labels pg mv
 hT:MtS w FT mv 32 nts T
 hN:MtS w FN vn 32 nts N
 hg:∀x∈PV,xS nts x.pr
 hTw:∀k,WdO (T k)
 hNw:∀k,WdO (N k)
 hTf:∀k,k<nts→InC (T k) 32
 hNf:∀k,k<nts→InC (N k) 32
 tab:gI w
 htab:1<w.heap.size
theorem NxH.below{w w':World}{K FT FN:Nat→Prop}{p nts pc cl pg:Nat}{PA LA:Option Addr}{PV:List Pv}{labels:List Txt}{mv vn:Value}{T N:aX}(h:NxH w K FT FN p nts pc cl pg PA LA PV labels mv vn T N)(hb:Below w.heap.size w w'):NxH w' K FT FN p nts pc cl pg PA LA PV labels mv vn T N:=
 ⟨h.hP.below hb,h.hT.below hb,h.hN.below hb,h.hg,h.hTw,h.hNw,h.hTf,h.hNf,h.tab.upd (upF hb) h.htab id,Nat.lt_of_lt_of_le h.htab hb.size⟩
def NxI(w:World)(nts:Nat)(PV:List Pv)(N T:aX)(v:Value)(q:Nat)(W:World):Prop:=∃B F,MtS W F v 32 nts B∧(∀k,F k→w.heap.size≤k)∧Below w.heap.size w W∧NxB PV N T B q
theorem IE(w:World)(K FT FN:Nat→Prop)(p nts pc cl pg:Nat)(PA LA:Option Addr)(PV:List Pv)(labels:List Txt)(mv vn:Value)(T N:aX)(h:NxH w K FT FN p nts pc cl pg PA LA PV labels mv vn T N)(hn5:nts≤512)(hm:PV.length≤140737488355328) :
  Calls Tryz.prog 94 #[.pointer (some ⟨p,0,none⟩),vn] w (fun e w'=>∃v,e=.returned v∧NxI w nts PV N T v PV.length w'):=by
 have q0:w.cell? ⟨p,0,none⟩=some (.int .i64 (nts:Int)):=h.hP.blk.cell 0;have hno:=mJ w nts hn5;have H:=hIz h;clear h;obtain⟨m,hmm⟩:∃m,PV.length=m:=⟨_,rfl⟩;rw[hmm] at hm ⊢;have HM:=hIz hmm;clear hmm;go_enter Tryz.func94,Tryz.ntmps94;go_wp2_with fail;refine hno.mono ?_;clear hno;rintro e W1 ⟨vo,F1,rfl,hm1,hF1,hb1⟩;obtain⟨Ao,co,rfl⟩:=hm1.form;have q1:W1.cell? ⟨p,1,none⟩=some (.slice PA m pc):=by rw[← HM.out];exact(H.out.hP.below hb1).blk.cell 1
 have H1:=hIz (show NxI w nts PV N T (.slice Ao nts co) 0 W1 from⟨noM,F1,hm1,hF1,hb1,NxB.start PV N T⟩);clear hm1 hF1 hb1 q0;go_wp2;clear q1;go_loopw [23] (fun i wr=>∃q:Nat,q≤m∧i=.int .i64 (q:Int)∧Hid (NxI w nts PV N T (.slice Ao nts co) q wr)) (fun i _=>m-(intOf i).toNat)
 case atStart=>exact⟨0,Nat.zero_le _,rfl,H1⟩
 case round =>
  obtain⟨q,hq,rfl,hi⟩:=hrel;clear H1;by_cases hlt:q<m
  ·have hltI:(q:Int)<(m:Int):=by omega
   obtain⟨B1,Fo,hmo,hFo,hbw,hB1⟩:=hi.out;obtain⟨x,hx⟩:∃x,PV[q]?=some x:=⟨_,gEz (by rw[HM.out];omega)⟩;have hxm:=mG hx;have hh:=H.out.below hbw;obtain⟨pb,po,rfl,c0,c1⟩:=hh.hP.pv.1.pv hx;have hgx:=hh.hg x hxm;obtain⟨a,ha⟩:∃a:Nat,x.pr.head=(a:Int):=⟨x.pr.head.toNat,(Int.toNat_of_nonneg hgx.h0).symm⟩;have han:a<nts:=by have:=hgx.h1;omega
   rw[ha] at c0;have hta:x.pr.head.toNat=a:=by rw[ha];exact Int.toNat_natCast a
   have b1:Below wr.heap.size wr (wr.alloc (.cells #[.int .i64 (a:Int),.slice x.adr x.pr.body.length x.cap] 76)):=bR.alloc (Nat.le_refl _) _;have kb:=Blk.new wr 76 #[.int .i64 (a:Int),.slice x.adr x.pr.body.length x.cap];by_cases h2:x.pr.body.length=2
   ·obtain⟨s,t,hst⟩:∃s t,x.pr.body=[s,t]:=by
     match hbody:x.pr.body,h2 with
     | [s,t],_=>exact⟨s,t,rfl⟩
    have hrow:=hh.hP.pv.2 x hxm;rw[hst] at hrow;obtain⟨⟨s0,s1⟩,t0,t1⟩:=hgx.two s t hst;obtain⟨la,b⟩:=s;obtain⟨lb,c⟩:=t;dsimp only at s0 s1 t0 t1
    obtain⟨b,rfl⟩:∃b':Nat,b=(b':Int):=⟨b.toNat,(Int.toNat_of_nonneg s0).symm⟩;obtain⟨c,rfl⟩:∃c':Nat,c=(c':Int):=⟨c.toNat,(Int.toNat_of_nonneg t0).symm⟩;have hbn:b<nts:=by omega
    have hcn:c<nts:=by omega
    rw[h2] at c1 b1 kb;obtain⟨gb,gof,hadr,-⟩:=hrow 0 (.bool la) rfl;rw[hadr] at hrow c1 b1 kb;have hst2:=hB1.step hh.hNw hh.hTw hx hst hta;simp only[Int.toNat_natCast] at hst2
    have HX:=aI8 (hmo.below b1) hFo (tHn hbw b1) kb (hrow.below3 b1) (hh.below b1) hst2 (fun (k:Nat) (hk:Fo k)=>hmo.lt k hk);clear hx hxm hh hgx ha hta b1 kb h2 hst hrow s0 s1 t0 t1 hadr hst2 hmo hFo hbw hB1 hi;go_upto_region 6 with (fail);generalize hz:wr.heap.size=z at HX ⊢;generalize wr.alloc (.cells #[.int .i64 (a:Int),.slice (some ⟨gb,gof,none⟩) 2 x.cap] 76)=V at HX ⊢;clear c0 c1 hz;have SR:=hIz (show ∀W,Below V.heap.size V W→W.cell? ⟨z,0,none⟩=some (.int .i64 (a:Int))∧W.cell? ⟨z,1,none⟩=some (.slice (some ⟨gb,gof,none⟩) 2 x.cap)∧W.cell? ⟨gb,gof+1,none⟩=some (.int .i64 (b:Int))∧W.cell? ⟨gb,gof+3,none⟩=some (.int .i64 (c:Int)) from fun W hb=>by
     have k2:=HX.out.2.2.2.1.upd (upF hb) id;have hr2:=HX.out.2.2.2.2.1.below3 hb;obtain⟨b',o',e,c1⟩:=hr2 1 (.int .i64 (b:Int)) rfl;injection e with e;injection e with e1 e2;subst e1;subst e2;obtain⟨b',o',e,c3⟩:=hr2 3 (.int .i64 (c:Int)) rfl;injection e with e;injection e with e1 e2;subst e1;subst e2;exact⟨k2.cell 0,k2.cell 1,c1,c3⟩)
    obtain⟨z0,z1,d1,d3⟩:=SR.out V bR;go_upto_region 7 with (fail);clear z0 z1 d1 d3;obtain⟨z0,z1,d1,d3⟩:=SR.out V.drew bR.drew;refine aP (fun W:World=>W.cell? ⟨z,1,none⟩=some (.slice (some ⟨gb,gof,none⟩) 2 x.cap)∧W.cell? ⟨gb,gof+1,none⟩=some (.int .i64 (b:Int))∧W.cell? ⟨gb,gof+3,none⟩=some (.int .i64 (c:Int))) 12 [(0,true),(1,true),(2,true),(3,true),(4,true),(5,true),(6,true),(7,true),(8,true),(9,true),(10,true),(11,true)] (by kernel_rfl) (by kernel_rfl) (fun _ _ d _ _ h=>by cases d <;> exact h) ⟨z1,d1,d3⟩ ?_
    iterate 12 refine aD rfl ?_
    refine aJ ?_;have hb2:Below V.heap.size V V.drew.drew:=bR.drew.drew;have HB2:=hIz hb2;go_upto_region 8 with (fail);clear z0 z1 d1 d3;have hh2:=HX.out.2.2.2.2.2.1.below hb2;obtain⟨go,co',qo,Fqo,e,co1,hqo,hsub,hstep⟩:=(HX.out.1.below hb2).turn han;injection e with e _ e3;subst e;subst e3;obtain⟨gN,cN,qN,FqN,eN,cN1,-,hqN,-,-,-⟩:=hh2.hN.at_ hbn;obtain⟨gT,cT,qT,FqT,eT,cT1,-,hqT,-,-,-⟩:=hh2.hT.at_ hcn;subst eN;subst eT;have cp:V.drew.drew.cell? ⟨p,4,none⟩=some (.slice (some ⟨gT,0,none⟩) nts cT):=hh2.hP.blk.cell 4;have z0:=(SR.out V.drew.drew hb2).1;have hcon:=pJ V.drew.drew Fqo FqN FqT qo qN qT 32 (B1 a) (N b) (T c) hqo hqN hqT (by decide) hh2.tab hh2.htab (NR (hh2.hNw b) (hh2.hTw c) (hh2.hNf b hbn) (hh2.hTf c hcn));have hanI:(a:Int)<(nts:Int):=by omega
    have hbnI:(b:Int)<(nts:Int):=by omega
    have hcnI:(c:Int)<(nts:Int):=by omega
    have H8:=aI2 hstep hsub;clear hh2 hqo hqN hqT hstep hsub hb2;refine aP (fun W:World=>W.cell? ⟨z,0,none⟩=some (.int .i64 (a:Int))∧W.cell? ⟨p,4,none⟩=some (.slice (some ⟨gT,0,none⟩) nts cT)∧W.cell? ⟨go,a,none⟩=some (.pointer (some ⟨qo,0,none⟩))∧W.cell? ⟨gN,b,none⟩=some (.pointer (some ⟨qN,0,none⟩))∧W.cell? ⟨gT,c,none⟩=some (.pointer (some ⟨qT,0,none⟩))) 17 [(0,true),(1,true),(2,true),(3,true),(4,true),(5,true),(6,true),(7,true),(8,true),(9,true),(10,true),(11,true),(12,true),(13,true),(14,true),(15,true),(16,true),(17,false)] (by kernel_rfl) (by kernel_rfl) (fun _ _ d _ _ h=>by cases d <;> exact h) ⟨z0,cp,co1,cN1,cT1⟩ ?_;generalize V.drew.drew=V2 at HB2 H8 hcon z0 cp co1 cN1 cT1 ⊢
    iterate 17 refine aD rfl ?_
    refine aK rfl rfl (fun K hK=>?_);go_simp;refine hcon.mono ?_;clear hcon;rintro e W3 ⟨rfl,hto⟩;refine hK _ _ (fun h=>absurd rfl h) ?_;clear hK K z0 cp co1 cN1 cT1;(try simp only[Act.put,gA,gS,gZ,sA,sZ,sS])
    refine aJ ?_;have hmt:=H8.out.1 _ W3 hto;have hu3:Upd Fqo V2 W3:=hto.choose_spec.2.1;clear hto;obtain⟨Fo3,hm3,hu3',hF3⟩:=hmt;have hFo3:∀k,Fo3 k→w.heap.size≤k:=fun k hk=>(hF3 k hk).elim (HX.out.2.1 k) (fun h=>Nat.le_trans (tHn HX.out.2.2.1 HB2.out).size h)
    have hbw2:=tHn HX.out.2.2.1 HB2.out;have hbw3:Below w.heap.size w W3:=hbw2.trans (hu3'.below (fun k _ hk=>HX.out.2.1 k hk) hbw2.size);have kz:=(HX.out.2.2.2.1.upd (upF HB2.out) id).upd hu3' (fun e=>Nat.lt_irrefl _ (HX.out.2.2.2.2.2.2.2 z e));have H9:=aI4 hm3 hFo3 hbw3 kz;clear hm3 hu3 hu3' hF3 hFo3 hbw2 hbw3 kz H8;go_upto_region 9 with (fail);have hbd:Below W3.heap.size W3 W3.drew:=bR.drew;have hh2:=H.out.below (tHn H9.out.2.2.1 hbd);obtain⟨go2,co2,qo,Fqo,e,co1,hqo,hsub,hstep⟩:=(H9.out.1.below hbd).turn han;injection e with e _ e3;injection e with e;injection e with e;subst e;subst e3;obtain⟨gN2,cN2,qN,FqN,eN,cN1,-,hqN,-,-,-⟩:=hh2.hN.at_ hcn;obtain⟨gT2,cT2,qT,FqT,eT,cT1,-,hqT,-,-,-⟩:=hh2.hT.at_ hbn;injection eN with eN _ _;injection eN with eN;injection eN with eN;subst eN;injection eT with eT _ _;injection eT with eT;injection eT with eT;subst eT;have cp:W3.drew.cell? ⟨p,4,none⟩=some (.slice (some ⟨gT,0,none⟩) nts cT):=hh2.hP.blk.cell 4;have z0:W3.drew.cell? ⟨z,0,none⟩=some (.int .i64 (a:Int)):=H9.out.2.2.2.cell 0;have hcon:=pJ W3.drew Fqo FqT FqN qo qT qN 32 (upM B1 a (joinQ (B1 a) (mulO (N b) (T c))) a) (T b) (N c) hqo hqT hqN (by decide) hh2.tab hh2.htab (NR (hh2.hTw b) (hh2.hNw c) (hh2.hTf b hbn) (hh2.hNf c hcn));have hst2:=HX.out.2.2.2.2.2.2.1;rw[cP] at hcon;have hstep2:∀W',QTo W3.drew Fqo qo 32 (joinQ (joinQ (B1 a) (mulO (N b) (T c))) (mulO (T b) (N c))) W'→qC W3.drew Fo3 (.slice (some ⟨go,0,none⟩) nts co) 32 nts (upM (upM B1 a (joinQ (B1 a) (mulO (N b) (T c)))) a (joinQ (joinQ (B1 a) (mulO (N b) (T c))) (mulO (T b) (N c)))) W':=fun W' h=>hstep _ W' h
    have H8:=aI3 hstep2 hst2 hbd;clear hh2 hqo hqN hqT hstep hstep2 hst2 hsub hbd;refine aP (fun W:World=>W.cell? ⟨z,0,none⟩=some (.int .i64 (a:Int))∧W.cell? ⟨p,4,none⟩=some (.slice (some ⟨gT,0,none⟩) nts cT)∧W.cell? ⟨go,a,none⟩=some (.pointer (some ⟨qo,0,none⟩))∧W.cell? ⟨gT,b,none⟩=some (.pointer (some ⟨qT,0,none⟩))∧W.cell? ⟨gN,c,none⟩=some (.pointer (some ⟨qN,0,none⟩))) 17 [(0,true),(1,true),(2,true),(3,true),(4,true),(5,true),(6,true),(7,true),(8,true),(9,true),(10,true),(11,true),(12,true),(13,true),(14,true),(15,true),(16,true),(17,false)] (by kernel_rfl) (by kernel_rfl) (fun _ _ d _ _ h=>by cases d <;> exact h) ⟨z0,cp,co1,cT1,cN1⟩ ?_
    iterate 17 refine aD rfl ?_
    refine aK rfl rfl (fun K hK=>?_);go_simp;refine hcon.mono ?_;clear hcon;rintro e W5 ⟨rfl,hto⟩;refine hK _ _ (fun h=>absurd rfl h) ?_;clear hK K z0 cp co1 cN1 cT1;(try simp only[Act.put,gA,gS,gZ,sA,sZ,sS])
    refine aJ ?_;have FIN:=hIz (show NxI w nts PV N T (.slice (some ⟨go,0,none⟩) nts co) (q+1) W5 from by
     obtain⟨F5,hm5,hu5,hF5⟩:=H8.out.1 W5 hto;have hbw3:=tHn H9.out.2.2.1 H8.out.2.2;exact⟨_,F5,hm5,fun k hk=>(hF5 k hk).elim (H9.out.2.1 k) (fun h=>Nat.le_trans hbw3.size h),hbw3.trans (hu5.below (fun k _ hk=>H9.out.2.1 k hk) hbw3.size),H8.out.2.1⟩)
    have hkw:IntKind.i64.wrap ((q:Int)+1)=(q:Int)+1:=IntWalk.i64_in _ (by omega);clear hto;go_wp2;go_roundw
    case rel=>exact⟨_,_,_,_,⟨q+1,by omega,by go_num,FIN⟩,rfl,rfl,rfl,rfl⟩
    case measure=>simp[intOf];omega
   ·have hc2:((x.pr.body.length:Int)==2)=false:=by simp;omega
    have FIN:=hIz (show NxI w nts PV N T (.slice Ao nts co) (q+1) (wr.alloc (.cells #[.int .i64 (a:Int),.slice x.adr x.pr.body.length x.cap] 76)) from⟨B1,Fo,hmo.below b1,hFo,tHn hbw b1,hB1.skip hx h2⟩);have e1:(wr.alloc (.cells #[.int .i64 (a:Int),.slice x.adr x.pr.body.length x.cap] 76)).cell? ⟨wr.heap.size,1,none⟩=some (.slice x.adr x.pr.body.length x.cap):=kb.cell 1;have hkw:IntKind.i64.wrap ((q:Int)+1)=(q:Int)+1:=IntWalk.i64_in _ (by omega);clear hx hxm hh hgx ha hta b1 kb h2 hmo hFo hbw hB1 hi;generalize x.pr.body.length=vl at *;go_wp2;go_roundw
    case rel=>exact⟨q+1,by omega,by go_num,FIN⟩
    case measure=>simp[intOf];omega
  ·obtain rfl:q=m:=by omega
   have FIN:=hIz hi.out;clear hi;go_wp2;go_ret;exact⟨_,rfl,FIN.out⟩
open Go.RowKit Go.Shelf
theorem SX(l:List Pv):∀u∈cQ l,u.oneCell'=true:=by
 intro u hu;obtain⟨v,-,hu⟩:=List.mem_flatMap.1 hu;simp[Pv.cells] at hu
 rcases hu with rfl|rfl <;> rfl
structure OrO(W:World)(B0 g:Nat)(nts:Int)(L:List Pv)(n:Nat)(A:Option Addr)(c:Nat):Prop where
 b:Blk W g 32 #[.int .i64 nts,.slice A n c]
 own:W.ownsRow B0 76 2 (.slice A n c) n (cQ L)
 ne:(Value.slice A n c).ownBlock≠some g
 len:L.length=n
 g0:B0≤g
theorem OrO.below{W V:World}{B0 g n c:Nat}{nts:Int}{L:List Pv}{A:Option Addr}(h:OrO W B0 g nts L n A c)(hb:Below W.heap.size W V):OrO V B0 g nts L n A c:=
 ⟨h.b.upd (upF hb) id,aB h.own (upF hb) (fun _ _=>id),h.ne,h.len,h.g0⟩
theorem pS(l:List Sy):(dM l).length=l.length*2:=eC _ 2 (fun _=>rfl) l
theorem SY(l:List Sy):∀u∈dM l,u.oneCell'=true:=by
 intro u hu;obtain⟨v,-,hu⟩:=List.mem_flatMap.1 hu;simp[Sy.cells] at hu
 rcases hu with rfl|rfl <;> rfl
theorem MG:(Tryz.prog.info? 101).map (fun i=>(i.zero,i.size,i.bytes))=some (some (.agg #[.bool false,.int .i64 0]),2,16):=by kernel_rfl
structure OwM(W0 W:World)(nts:Int)(PV:List Pv)(L:List Pv)(t:Nat)(A:Option Addr)(c:Nat):Prop where
 o:OrO W W0.heap.size W0.heap.size nts L t A c
 pr:L.map (·.pr)=((PV.take t).map (·.pr))
 bd:∀v∈L,bO W v.adr (dM v.pr.body)∧∀b o s,v.adr=some ⟨b,o,s⟩→b<W.heap.size∧b≠W0.heap.size∧(Value.slice A t c).ownBlock≠some b
 lo:∀v∈L,∀b o s,v.adr=some ⟨b,o,s⟩→W0.heap.size≤b
 bl:Below W0.heap.size W0 W
theorem OwM.below{W0 W V:World}{nts:Int}{PV L:List Pv}{t c:Nat}{A:Option Addr}(h:OwM W0 W nts PV L t A c)(hb:Below W.heap.size W V):OwM W0 V nts PV L t A c:=
 ⟨h.o.below hb,h.pr,fun v hv=>⟨(h.bd v hv).1.below3 hb,fun b o s e=>⟨Nat.lt_of_lt_of_le ((h.bd v hv).2 b o s e).1 hb.size,((h.bd v hv).2 b o s e).2⟩⟩,h.lo,tHn h.bl hb⟩
theorem OwM.push{W0 W:World}{nts:Int}{PV L:List Pv}{t c:Nat}{A:Option Addr}(h:OwM W0 W nts PV L t A c){y:Pv}(hy:PV[t]?=some y)(v:Pv)(hv:v.pr=y.pr)(ha:∀b o s,v.adr=some ⟨b,o,s⟩→b≠W0.heap.size∧(Value.slice A t c).ownBlock≠some b)
  (hvr:bO W v.adr (dM v.pr.body)) (hlt:∀b o s,v.adr=some ⟨b,o,s⟩→b<W.heap.size) (hlo:∀b o s,v.adr=some ⟨b,o,s⟩→W0.heap.size≤b) (R:Option Addr) (d:Nat) (hr:bO W R (cQ [v])) (hl:(t+1)*32≤140737488355328) :
  ∃A' c' W1,(Builtin.append_ #[30,30] 30 #[.slice A t c,.slice R 1 d]).run Tryz.prog W=.ok (.slice A' (t+1) c') W1∧Blk W1 W0.heap.size 32 #[.int .i64 nts,.slice A t c]∧Upd (fun q=>(Value.slice A t c).ownBlock=some q) W W1 ∧
   OwM W0 (W1.setCell ⟨W0.heap.size,1,none⟩ (.slice A' (t+1) c')) nts PV (L++[v]) (t+1) A' c':=by
 obtain⟨A',c',W1,happ,own',up,pl⟩:=cK W W0.heap.size 30 76 2 32 _ Tryz.underlying30 vX rfl (by decide) (by decide) A t c _ h.o.own R 1 d (cQ [v]) hr rfl (SX [v]) hl h.bl.size;have kb:=h.o.b.upd up h.o.ne;have hne':(Value.slice A' (t+1) c').ownBlock≠some W0.heap.size:=by
  intro e;rcases pl _ e with h1|h1
  ·exact h.o.ne h1
  ·have:=h.o.b.lt;omega
 have us:Upd (fun q=>q=W0.heap.size) W1 (W1.setCell ⟨W0.heap.size,1,none⟩ (.slice A' (t+1) c')):=(Upd.refl (fun q=>q=W0.heap.size) W1).setCell (p:=⟨W0.heap.size,1,none⟩) (.inl rfl) _;have ua:=(up.mono (F':=fun q=>q=W0.heap.size∨(Value.slice A t c).ownBlock=some q) (fun i _ h=>.inr h)).trans us (fun i h=>.inl (.inl h));have hb1:Below W0.heap.size W W1:=up.below (fun q _ hq=>(h.o.own.lt q hq).1) h.bl.size;have keep:∀z:Pv,bO W z.adr (dM z.pr.body)→(∀b o s,z.adr=some ⟨b,o,s⟩→b<W.heap.size∧b≠W0.heap.size∧(Value.slice A t c).ownBlock≠some b) →
   bO (W1.setCell ⟨W0.heap.size,1,none⟩ (.slice A' (t+1) c')) z.adr (dM z.pr.body)∧∀b o s,z.adr=some ⟨b,o,s⟩→b<(W1.setCell ⟨W0.heap.size,1,none⟩ (.slice A' (t+1) c')).heap.size∧b≠W0.heap.size∧(Value.slice A' (t+1) c').ownBlock≠some b:=fun z h1 h2=>by
  refine⟨h1.upd ua (fun b o s e hf=>?_),fun b o s e=>⟨Nat.lt_of_lt_of_le (h2 b o s e).1 ua.size,(h2 b o s e).2.1,fun ho=>?_⟩⟩
  ·rcases hf with hf|hf
   ·exact(h2 b o s e).2.1 hf
   ·exact(h2 b o s e).2.2 hf
  ·rcases pl b ho with h3|h3
   ·exact(h2 b o s e).2.2 h3
   ·have:=(h2 b o s e).1;omega
 refine⟨A',c',W1,happ,kb,up,⟨⟨kb.set 1 _,?_,hne',by rw[List.length_append,h.o.len];rfl,h.o.g0⟩,?_,fun z hz=>?_,fun z hz=>(List.mem_append.1 hz).elim (h.lo z) (fun hz=>by rw[List.mem_singleton] at hz;subst hz;exact hlo),h.bl.trans (hb1.setCell (Nat.le_refl _) _)⟩⟩
 ·have:=aB own' us (fun k hk e=>hne' (by rw[hk,e]));rw[show cQ (L++[v])=cQ L++cQ [v] by simp[cQ]];exact this
 ·rw[List.map_append,h.pr,List.take_add_one,hy,Option.toList_some,List.map_append,List.map_cons,List.map_nil,List.map_cons,List.map_nil,hv]
 ·rcases List.mem_append.1 hz with hz|hz
  ·exact keep z (h.bd z hz).1 (h.bd z hz).2
  ·rw[List.mem_singleton] at hz;subst hz;exact keep z hvr (fun b o s e=>⟨hlt b o s e,ha b o s e⟩)
def SZ(w:World)(L:List Sy)(e:Ending)(w':World):Prop:=∃v,e=.returned v∧w'.ownsRow w.heap.size 101 2 v L.length (dM L)∧Below w.heap.size w w'
theorem MH(w:World)(A:Option Addr)(c:Nat)(L:List Sy)(h:bO w A (dM L))(hl:L.length*24≤140737488355328) :
  Calls Tryz.prog 87 #[.slice A L.length c] w (SZ w L):=by
 have heq:=fun (A:Option Addr) (n c n' c':Nat) (w:World)=>Lib.run_eql_slice_nil (P:=Tryz.prog) w 74 101 A n c n' c' Tryz.underlying74
 rcases A with _|⟨gb,go,sp⟩
 ·have hL:L=[]:=by
   cases L with
   | nil=>rfl
   | cons s L=>obtain⟨b,o,e,-⟩:=h 0 (.bool s.lab) rfl;cases e
  subst hL;clear h hl;go_enter Tryz.func87,Tryz.ntmps87;go_wp2;go_ret;exact⟨_,rfl,World.ownsRow_nil _ _ _ _,Below.refl _ _⟩
 ·obtain⟨i0,hi0,hz0,hz1,hz2⟩:=info_parts MG;have b1:Below w.heap.size w (w.alloc (.cells #[] 101)):=bR.alloc (Nat.le_refl _) _;have hr:=(h.below b1).reads (pS L) (by decide);have own:(w.alloc (.cells #[] 101)).ownsRow w.heap.size 101 2 (.slice (some ⟨w.heap.size,0,none⟩) 0 0) 0 []:=⟨rfl,.inr ⟨w.heap.size,0,#[],rfl,Nat.le_refl _,heap_alloc_new w _,Nat.le_refl _,by decide,rfl,rfl⟩⟩;obtain⟨v',w',happ,own',gr,-,-⟩:=run_append_own_at (P:=Tryz.prog) (w.alloc (.cells #[] 101)) w.heap.size 74 74 101 i0 _ 2 16 Tryz.underlying74 hi0 hz0 hz1 hz2 rfl (by decide) (.slice (some ⟨w.heap.size,0,none⟩) 0 0) 0 [] own ⟨gb,go,sp⟩ L.length c (dM L) (pS L) (hr.2.2 _ rfl) (SY L) (by unfold maxLen;omega) (by omega) (by simp);have fin:SZ w L (.returned v') w':=⟨v',rfl,by simpa using own',b1.grown gr (by simp) (fun k hk=>by simp[Value.ownBlock] at hk;omega)⟩;have FIN:=hIz fin;clear fin own own' gr hr b1 hi0 hz0 hz1 hz2 h;go_enter Tryz.func87,Tryz.ntmps87;go_wp2_with (at_builtin;refine wpList_append_run rfl _ _ _ rfl rfl rfl happ ?_);go_ret;exact FIN.out

def VK(w:World)(nts:Int)(PV:List Pv)(e:Ending)(w':World):Prop:=∃(L:List Pv) (A:Option Addr) (c:Nat),e=.returned (.agg #[.int .i64 nts,.slice A L.length c])∧L.map (·.pr)=PV.map (·.pr)∧PvR w' A L∧(∀b o s,A=some ⟨b,o,s⟩→w.heap.size≤b∧b<w'.heap.size)∧(∀v∈L,∀b o s,v.adr=some ⟨b,o,s⟩→w.heap.size≤b∧b<w'.heap.size)∧Below w.heap.size w w'
theorem QK(w:World)(nts:Int)(PA:Option Addr)(pc:Nat)(PV:List Pv)(hP:PvR w PA PV)(hm:PV.length≤100000)(hbd:∀v∈PV,v.pr.body.length≤100000) :
  Calls Tryz.prog 32 #[.agg #[.int .i64 nts,.slice PA PV.length pc]] w (VK w nts PV):=by
 obtain⟨m,hmm⟩:∃m,PV.length=m:=⟨_,rfl⟩;rw[hmm] at hm ⊢;have b1:Below w.heap.size w ((w.alloc (.cells #[.int .i64 nts,.slice PA m pc] 32)).alloc (.cells #[.int .i64 0,.slice none 0 0] 32)):=by(repeat (first | exact Below.refl _ _ | apply Below.drew | refine Below.alloc ?_ (by first | exact Nat.le_refl _ | (simp;done) | (simp;omega)) _ | refine Below.setCell ?_ (by first | exact Nat.le_refl _ | (simp;done) | (simp;omega)) _))
 have k1:=(Blk.new w 32 #[.int .i64 nts,.slice PA m pc]).alloc (.cells #[.int .i64 0,.slice none 0 0] 32);have k2:=Blk.new (w.alloc (.cells #[.int .i64 nts,.slice PA m pc] 32)) 32 #[.int .i64 0,.slice none 0 0];simp only[World.size_alloc] at k2
 have hz:((w.alloc (.cells #[.int .i64 nts,.slice PA m pc] 32)).alloc (.cells #[.int .i64 0,.slice none 0 0] 32)).heap.size=w.heap.size+2:=by simp
 have H:=aI6 b1 k1 k2 (hP.below b1) hmm hbd;clear b1 k1 k2 hP hmm hbd;go_enter Tryz.func32,Tryz.ntmps32;go_upto_region 1 with (fail);generalize hzz:w.heap.size=z at H hz ⊢;generalize (w.alloc (.cells #[.int .i64 nts,.slice PA m pc] 32)).alloc (.cells #[.int .i64 0,.slice none 0 0] 32)=W0 at H hz ⊢;have q0:W0.cell? ⟨z,0,none⟩=some (.int .i64 nts):=H.out.2.1.cell 0;have q1:W0.cell? ⟨z,1,none⟩=some (.slice PA m pc):=H.out.2.1.cell 1;have b3:Below W0.heap.size W0 (W0.alloc (.cells #[.int .i64 nts,.slice none 0 0] 32)):=bR.alloc (Nat.le_refl _) _;have o3:OwM W0 (W0.alloc (.cells #[.int .i64 nts,.slice none 0 0] 32)) nts PV [] 0 none 0:=
  ⟨⟨Blk.new W0 _ _,World.ownsRow_nil _ _ _ _,by simp[Value.ownBlock],rfl,Nat.le_refl _⟩,rfl,fun v hv=>(by cases hv),fun v hv=>(by cases hv),b3⟩
 have q01:(W0.alloc (.cells #[.int .i64 nts,.slice none 0 0] 32)).cell? ⟨z,1,none⟩=some (.slice PA m pc):=(b3.cell (p:=⟨z,1,none⟩) H.out.2.1.lt).trans q1;have HO:=hIz o3;clear o3 b3 q1;go_upto_region 2 with (fail);generalize W0.alloc (.cells #[.int .i64 nts,.slice none 0 0] 32)=W1 at HO q01 ⊢;clear q0;go_wp2;clear q01;have HZ:=hIz hz;clear hz;go_loopw [12] (fun i wr=>∃(t:Nat) (L:List Pv) (A:Option Addr) (c:Nat),t≤m∧i=.int .i64 (t:Int)∧Hid (OwM W0 wr nts PV L t A c)) (fun i _=>m-(intOf i).toNat)
 case atStart=>exact⟨0,[],none,0,Nat.zero_le _,rfl,HO⟩
 case round =>
  obtain⟨t,L,A,c,ht,rfl,hq⟩:=hrel;clear HO;by_cases hlt:t<m
  ·have hltI:(t:Int)<(m:Int):=by omega
   obtain⟨x,hx⟩:∃x,PV[t]?=some x:=⟨_,gEz (by rw[H.out.2.2.2.2.1];omega)⟩;have hxm:=mG hx;have hP:=H.out.2.2.2.1.below hq.out.bl;obtain⟨pb,po,rfl,c0,c1⟩:=hP.1.pv hx;have hrow:=hP.2 x hxm;have hbl:=H.out.2.2.2.2.2 x hxm;have b1:Below wr.heap.size wr (wr.alloc (.cells #[.int .i64 x.pr.head,.slice x.adr x.pr.body.length x.cap] 76)):=bR.alloc (Nat.le_refl _) _;have kb:=Blk.new wr 76 #[.int .i64 x.pr.head,.slice x.adr x.pr.body.length x.cap];have hne5:∀q,(Value.slice A t c).ownBlock=some q→q<wr.heap.size:=fun q hq'=>(hq.out.o.own.lt q hq').2
   obtain⟨vl,hvl⟩:∃vl,x.pr.body.length=vl:=⟨_,rfl⟩;have hcl:=MH (wr.alloc (.cells #[.int .i64 x.pr.head,.slice x.adr x.pr.body.length x.cap] 76)).drew x.adr x.cap x.pr.body ((hrow.below3 b1).below3 bR.drew) (by omega);rw[hvl] at c1 b1 kb hcl hbl;have HX:=aI5 hx (hq.out.below b1) kb hne5 hvl;clear hx hxm hP hrow b1 kb hne5 hvl hbl;go_upto_region 5 with (fail);generalize hz5:wr.heap.size=z5 at HX ⊢;generalize wr.alloc (.cells #[.int .i64 x.pr.head,.slice x.adr vl x.cap] 76)=V at HX hcl ⊢;clear c0 c1 hz5;have SR:=hIz (show ∀W,Upd (fun b=>(Value.slice A t c).ownBlock=some b) V W→W.cell? ⟨z+2,1,none⟩=some (.slice A t c)∧W.cell? ⟨z5,0,none⟩=some (.int .i64 x.pr.head)∧W.cell? ⟨z5,1,none⟩=some (.slice x.adr vl x.cap) from fun W hu=>by
    have k3:=HX.out.2.1.o.b.upd hu (fun e=>HX.out.2.1.o.ne e);have k5:=HX.out.2.2.1.upd hu (fun e=>by have:=HX.out.2.2.2.1 _ e;omega);exact⟨by have:=k3.cell 1;rw[HZ.out] at this;exact this,k5.cell 0,k5.cell 1⟩)
   have hS:=SR.out V.drew (Upd.refl _ _).drew;refine aN (fun W:World=>W.cell? ⟨z+2,1,none⟩=some (.slice A t c)∧W.cell? ⟨z5,0,none⟩=some (.int .i64 x.pr.head)∧W.cell? ⟨z5,1,none⟩=some (.slice x.adr vl x.cap)) 11 [(0,true),(1,true),(2,true),(3,true),(4,true),(5,true),(6,false),(7,true),(8,false),(9,false),(10,true),(11,false)] hS ?_;have B1:=hIz (show Below V.heap.size V V.drew from bR.drew);generalize V.drew=V1 at hS hcl B1 ⊢
   iterate 6 refine aD rfl ?_
   refine aK rfl rfl (fun K hK=>?_);go_simp;refine hcl.mono ?_;clear hcl;rintro e V2 ⟨v,rfl,ov2,bv⟩;rw[HX.out.2.2.2.2] at ov2;obtain⟨vA,vc,rfl,-,-⟩:=aH ov2;have B2:=hIz (tHn B1.out bv);have HV:=aI2 ov2 B1.out.size;clear ov2 bv B1;have hS2:=SR.out _ (Upd.of_below B2.out _);refine hK _ _ (fun _=>hS2) ?_;clear hK K hS;have hS:=hS2;clear hS2;(try simp only[Act.put,gA,gS,gZ,sA,sZ,sS])
   refine aD rfl ?_;refine aK rfl rfl (fun K hK=>?_);go_simp;have B3:=hIz (B2.out.alloc B2.out.size (.cells #[.int .i64 x.pr.head,.slice vA vl vc] 76));have hnew:=Blk.new V2 76 #[.int .i64 x.pr.head,.slice vA vl vc];have HV3:=hIz (HV.out.1.alloc (.cells #[.int .i64 x.pr.head,.slice vA vl vc] 76));refine hK _ _ (fun _=>SR.out _ (Upd.of_below B3.out _)) ?_;clear hK K hS;(try simp only[Act.put,gA,gS,gZ,sA,sZ,sS])
   generalize V2.alloc (.cells #[.int .i64 x.pr.head,.slice vA vl vc] 76)=V3 at B3 hnew HV3 ⊢;obtain⟨A',c',V4,happ,kb4,up4,hO4⟩:=(HX.out.2.1.below B3.out).push HX.out.1 ⟨x.pr,vA,vc⟩ rfl
    (fun b o s e=>by
     subst e;have h1:=(HV3.out.lt b rfl).1;have h2:=HV.out.2;have h3:=HX.out.2.1.o.b.lt;exact⟨by omega,fun e=>by have:=(HX.out.2.1.o.own.lt b e).2;omega⟩)
    (bO.of_own HV3.out) (fun b o s e=>by subst e;exact(HV3.out.lt b rfl).2)
    (fun b o s e=>by
     subst e;have h1:=(HV3.out.lt b rfl).1;have h2:=HV.out.2;have h3:=HX.out.2.1.o.b.lt;omega) (some ⟨V2.heap.size,0,none⟩) 1
    (fun j u hu=>⟨V2.heap.size,0,rfl,by rw[hnew.cell,Nat.zero_add];simpa[cQ,Pv.cells,HX.out.2.2.2.2] using hu⟩) (by omega)
   have hS:=SR.out V4 ((Upd.of_below B3.out _).trans up4 (fun _ h=>.inl h));obtain⟨t1,ht1⟩:∃t1,t+1=t1:=⟨_,rfl⟩;rw[ht1] at happ hO4;rw[HZ.out] at hO4;have HO4:=hIz hO4;have f0:V4.frozen? ⟨z+2,1,none⟩=false:=by have:=kb4.frozen 1;rw[HZ.out] at this;exact this
   have HT1:=hIz ht1;have hkw:IntKind.i64.wrap ((t:Int)+1)=(t:Int)+1:=IntWalk.i64_in _ (by omega);clear hO4 kb4 up4 hnew ht1;refine aK rfl rfl (fun K hK=>?_);refine bQ _ _ _ rfl rfl rfl happ ?_;refine hK _ _ (fun _=>hS) ?_;clear hK K happ;(try simp only[Act.put,gA,gS,gZ,sA,sZ,sS])
   refine aD rfl ?_;refine aK rfl rfl (fun K hK=>?_);obtain⟨r0,r1,r2⟩:=hS;go_simp;refine hK _ _ (fun h=>absurd rfl h) ?_;clear hK K r0 r1 r2 f0 SR HX HV HV3 B2 B3;(try simp only[Act.put,gA,gS,gZ,sA,sZ,sS])
   refine aJ ?_;generalize V4.setCell ⟨z+2,1,none⟩ (.slice A' t1 c')=V5 at HO4 ⊢;go_wp2;go_roundw
   case rel=>exact⟨t1,L++[⟨x.pr,vA,vc⟩],A',c',by have:=HT1.out;omega,by rw[← HT1.out];go_num,HO4⟩
   case measure=>have:=HT1.out;simp[intOf];omega
  ·obtain rfl:t=m:=by omega
   have r0:wr.cell? ⟨z+2,0,none⟩=some (.int .i64 nts):=by have:=hq.out.o.b.cell 0;rw[HZ.out] at this;exact this
   have r1:wr.cell? ⟨z+2,1,none⟩=some (.slice A t c):=by have:=hq.out.o.b.cell 1;rw[HZ.out] at this;exact this
   have k2:=H.out.2.2.1.upd (Upd.of_below hq.out.bl (fun _=>False)) id;have d0:wr.cell? ⟨z+1,0,none⟩=some (.int .i64 0):=k2.cell 0;have d1:wr.cell? ⟨z+1,1,none⟩=some (.slice none 0 0):=k2.cell 1;have g0:=k2.frozen 0;have g1:=k2.frozen 1;have hb2:=(k2.set 0 (.int .i64 nts)).set 1 (.slice A t c);have us:Upd (fun k=>k=z+1) wr ((wr.setCell ⟨z+1,0,none⟩ (.int .i64 nts)).setCell ⟨z+1,1,none⟩ (.slice A t c)):=((Upd.refl (fun k=>k=z+1) wr).setCell (p:=⟨z+1,0,none⟩) (.inl rfl) _).setCell (p:=⟨z+1,1,none⟩) (.inl rfl) _;have FIN:=hIz (show VK w nts PV (.returned (.agg #[.int .i64 nts,.slice A t c])) ((wr.setCell ⟨z+1,0,none⟩ (.int .i64 nts)).setCell ⟨z+1,1,none⟩ (.slice A t c)) from by
    have hl:=hq.out.o.len;have hz2:=HZ.out;have hA:∀b o s,A=some ⟨b,o,s⟩→z+2≤b:=fun b o s e=>by subst e;have:=(hq.out.o.own.lt b rfl).1;omega
    have hbl:∀v∈L,∀b o s,v.adr=some ⟨b,o,s⟩→z+2≤b:=fun v hv b o s e=>by have:=hq.out.lo v hv b o s e;omega
    refine⟨L,A,c,by rw[hl],?_,⟨(bO.of_own hq.out.o.own).upd us (fun b o s e h=>by have:=hA b o s e;omega),fun v hv=>((hq.out.bd v hv).1).upd us (fun b o s e h=>by have:=hbl v hv b o s e;omega)⟩,fun b o s e=>⟨by have:=hA b o s e;omega,by subst e;exact Nat.lt_of_lt_of_le (hq.out.o.own.lt b rfl).2 us.size⟩,fun v hv b o s e=>⟨by have:=hbl v hv b o s e;omega,Nat.lt_of_lt_of_le ((hq.out.bd v hv).2 b o s e).1 us.size⟩,?_⟩
    ·rw[hq.out.pr,List.take_of_length_le (by rw[H.out.2.2.2.2.1];exact Nat.le_refl _)]
    ·rw[hzz];have h1:Below z w wr:=H.out.1.trans (hq.out.bl.mono (by omega));exact h1.trans (us.below (fun k _ e=>by omega) (by have:=h1.size;omega)))
   have hrg:((wr.setCell ⟨z+1,0,none⟩ (.int .i64 nts)).setCell ⟨z+1,1,none⟩ (.slice A t c)).rangeAt (z+1) 0 [.int .i64 nts,.slice A t c]:=fun j v hv=>by
    rw[hb2.cell (0+j),Nat.zero_add];match j,hv with
    | 0,hv=>simpa using hv
    | 1,hv=>simpa using hv
    | j+2,hv=>simp at hv
   have hlv:=run_loadVar_mid (P:=Tryz.prog) _ (z+1) 0 32 [.int .i64 nts,.slice A t c] (.struct _) hrg Tryz.underlying32 rfl (by kernel_rfl);clear k2 hb2 us hrg;go_wp2;refine bodyPost_ret (v:=.agg #[.int .i64 nts,.slice A t c]) (by simp[results,Tryz.f32,Act.put,asAddr,hlv,Result.andThen,Sem.run_bind]) rfl FIN.out
open Go.RowKit Go.Shelf
def TA(w:World)(nts:Int)(PV:List Pv)(labels:List Txt)(G:Gr)(e:Ending)(w':World):Prop:=
 (eV nts PV labels=2∧e=.returned (.tuple #[.pointer none,.int .i64 2])∧Below w.heap.size w w') ∨
 (eV nts PV labels=0∧∃(p:Nat) (F:Nat→Prop) (B:aX),e=.returned (.tuple #[.pointer (some ⟨p,0,none⟩),.int .i64 0])∧ClS w' F p (max 1 G.N.length) G.N.length nts.toNat B∧(∀k,F k→w.heap.size≤k)∧Below w.heap.size w w' ∧
  (∀k,k<nts.toNat→∀i j,aY (B k) i j=true↔gR (PV.map (·.pr)) (ElG G labels) G.N.length (k:Int) i j)∧∀k,WdO (B k))
theorem mY(nts:Int)(PV:List Pv)(labels:List Txt):eV nts PV labels=2∨(eV nts PV labels=0∧labels.length≤16∧1≤nts∧nts≤512∧PV.length≤8192∧upB ltT labels=true∧∀v∈PV,cC v.pr nts labels.length=true):=by
 unfold eV;by_cases h:16<labels.length∨nts<1∨512<nts∨8192<PV.length
 ·exact .inl (if_pos h)
 ·rw[if_neg h];by_cases h2:upB ltT labels=true∧∀v∈PV,cC v.pr nts labels.length=true
  ·rw[if_pos h2];exact .inr ⟨rfl,by omega,by omega,by omega,by omega,h2⟩
  ·exact .inl (if_neg h2)
theorem MI(w:World)(side n:Nat):ClS (w.alloc (.cells #[.int .i64 (n:Int),.slice none 0 0] 138)) (fun k=>k=w.heap.size) w.heap.size side n 0 (fun _=>none):=by
 refine⟨fun k=>if k=w.heap.size then some .x else none,.slice none 0 0,fun _=>0,⟨Blk.new w _ _,World.ownsRow_nil _ _ _ _,if_pos rfl,fun k hk=>by simp[Value.ownBlock] at hk,fun k hk=>by omega,fun q hq=>?_⟩,?_⟩
 ·by_cases e:q=w.heap.size
  ·subst e;simp
  ·rw[if_neg e] at hq;exact absurd rfl hq
 ·funext k
  by_cases e:k=w.heap.size
  ·simp[e]
  ·simp[e]
def UK(V:World)(p side n t:Nat)(wr:World):Prop:=∃F,ClS wr F p side n t (fun _=>none)∧(∀k,F k→V.heap.size≤k)∧Below V.heap.size V wr
theorem MJ(w:World)(nts:Int)(PA:Option Addr)(pc:Nat)(PV:List Pv)(hP:PvR w PA PV)(LA:Option Addr)(cl:Nat)(labels:List Txt)(hlab:bO w LA (aG labels))
  (Fg:Nat→Prop) (pg:Nat) (G:Gr) (hG:GrS w Fg pg G) (ok:GOk G) (hT:gI w) (htab:1<w.heap.size) :
  Calls Tryz.prog 21 #[.agg #[.int .i64 nts,.slice PA PV.length pc],.slice LA labels.length cl,.pointer (some ⟨pg,0,none⟩)] w (TA w nts PV labels G):=by
 have b1:Below w.heap.size w (w.alloc (.cells #[.int .i64 nts,.slice PA PV.length pc] 32)):=bR.alloc (Nat.le_refl _) _;have k1:=Blk.new w 32 #[.int .i64 nts,.slice PA PV.length pc];have hlen:=vO _ Fg pg G (hG.below b1);obtain⟨n,hn⟩:∃n,G.N.length=n:=⟨_,rfl⟩;have hn32:n≤32:=by have:=ok.few;omega
 have H:=aI9 b1 k1 hP hlab hG ok hT htab hn;have HN0:=hIz (show TA w nts PV labels G=fun e w'=>(eV nts PV labels=2∧e=.returned (.tuple #[.pointer none,.int .i64 2])∧Below w.heap.size w w') ∨
  (eV nts PV labels=0∧∃(p:Nat) (F:Nat→Prop) (B:aX),e=.returned (.tuple #[.pointer (some ⟨p,0,none⟩),.int .i64 0])∧ClS w' F p (max 1 n) n nts.toNat B∧(∀k,F k→w.heap.size≤k)∧Below w.heap.size w w' ∧
  (∀k,k<nts.toNat→∀i j,aY (B k) i j=true↔gR (PV.map (·.pr)) (ElG G labels) n (k:Int) i j)∧∀k,WdO (B k)) from by subst hn;rfl)
 rw[hn] at hlen;have hthere:=fun V (hV:Below w.heap.size w V) (h0:n≤1)=>GR V Fg pg G (hG.below hV) ok (by omega)
 have HTH:=hIz hthere;have hcheck:=fun V (hV:Below w.heap.size w V)=>BM V nts PA pc PV (hP.below hV) LA cl labels (hlab.below3 hV)
 have HCK:=hIz hcheck;clear b1 k1 hP hlab hG ok hT htab hn hthere hcheck;obtain⟨m,hm⟩:∃m,PV.length=m:=⟨_,rfl⟩;obtain⟨l,hl⟩:∃l,labels.length=l:=⟨_,rfl⟩;rw[hm] at H HCK hlen ⊢;rw[hl] at HCK ⊢;have HM:=aI2 hm hl;clear hm hl;go_enter Tryz.func21,Tryz.ntmps21;go_wp2_with fail;refine hlen.mono ?_;clear hlen;rintro e V1 ⟨rfl,hb1⟩;have hbw1:=tHn H.out.1 hb1;have k1:=H.out.2.1.upd (upF hb1) id;have H1:=aI2 hbw1 k1;clear hbw1 k1 hb1;go_upto_region 2 with (fail);go_cut [29] from 19 (fun s29 wc=>s29=.bool false∧Hid (Below V1.heap.size V1 wc))
 case first =>
  by_cases hn0:n=0
  ·have hz:((n:Int)==0)=true:=by simp;omega
   have hth:=HTH.out V1 H1.out.1 (by omega);clear hn0;go_wp2_with fail;refine hth.mono ?_;clear hth hz;rintro e V2 ⟨rfl,hb2⟩;have HB:=hIz hb2;clear hb2;go_wp2;go_meet
   case rel=>exact⟨rfl,HB⟩
  ·have hz:((n:Int)==0)=false:=by simp;omega
   clear hn0;go_wp2;go_meet
   case rel=>exact⟨rfl,hIz bR⟩
 case rest =>
  obtain⟨rfl,hc⟩:=hcut;have hbc:=tHn H1.out.1 hc.out;have kc:=H1.out.2.upd (upF hc.out) id;have c0:wc.cell? ⟨w.heap.size,0,none⟩=some (.int .i64 nts):=kc.cell 0;have c1:wc.cell? ⟨w.heap.size,1,none⟩=some (.slice PA m pc):=kc.cell 1;have hck:=HCK.out wc hbc;have H2:=aI2 hbc kc;clear hbc kc hc H1;rcases mY nts PV labels with h2|⟨h0,hok⟩
  ·rw[h2] at hck;have HA:=hIz h2;clear h2;go_wp2_with fail;refine hck.mono ?_;clear hck;rintro e V3 ⟨rfl,hb3⟩;have FIN:=hIz (show TA w nts PV labels G (.returned (.tuple #[.pointer none,.int .i64 2])) V3 from .inl ⟨HA.out,rfl,tHn H2.out.1 hb3⟩);clear hb3;go_wp2;refine bodyPost_ret (v:=.tuple #[.pointer none,.int .i64 2]) (by simp[results,Tryz.f21,go_sem]) rfl FIN.out
  ·rw[h0] at hck;obtain⟨hl16,hn1,hn5,hp8,hup,hsh⟩:=hok;obtain⟨t5,rfl⟩:∃t5:Nat,nts=(t5:Int):=⟨nts.toNat,by omega⟩;have HA:=aI3 h0 hup hsh;clear h0 hup hsh;obtain⟨side,hside⟩:∃side,max 1 n=side:=⟨_,rfl⟩;have hmx:max (1:Int) (n:Int)=(side:Int):=by omega
   have hs1:1≤side:=by omega
   have hs32:side≤32:=by omega
   have HSD:=hIz hside;clear hside;go_wp2_with fail;refine hck.mono ?_;clear hck;rintro e V3 ⟨rfl,hb3⟩;have hbw3:=tHn H2.out.1 hb3;have k3:=H2.out.2.upd (upF hb3) id;have hcl:=MI V3 side n;have b4:Below V3.heap.size V3 (V3.alloc (.cells #[.int .i64 (n:Int),.slice none 0 0] 138)):=bR.alloc (Nat.le_refl _) _;have c0:(V3.alloc (.cells #[.int .i64 (n:Int),.slice none 0 0] 138)).cell? ⟨w.heap.size,0,none⟩=some (.int .i64 (t5:Int)):=(k3.alloc _).cell 0;have H3:=aI3 hbw3 k3 (show UK V3 V3.heap.size side n 0 (V3.alloc (.cells #[.int .i64 (n:Int),.slice none 0 0] 138)) from⟨_,hcl,fun k hk=>Nat.le_of_eq hk.symm,b4⟩);clear hbw3 k3 hcl b4 hb3;go_upto_region 8 with (fail);generalize V3.alloc (.cells #[.int .i64 (n:Int),.slice none 0 0] 138)=W4 at H3 c0 ⊢;go_wp2;clear c0;go_loopw [41] (fun i wr=>∃t:Nat,t≤t5∧i=.int .i64 (t:Int)∧Hid (UK V3 V3.heap.size side n t wr)) (fun i _=>t5-(intOf i).toNat)
   case atStart=>exact⟨0,Nat.zero_le _,rfl,hIz H3.out.2.2⟩
   case round =>
    obtain⟨t,ht,rfl,hq⟩:=hrel;by_cases hlt:t<t5
    ·have htI:(t:Int)<(t5:Int):=by omega
     obtain⟨F,hcl,hF,hbV⟩:=hq.out;have hnew:=kG wr side hs1 (by omega);have HC:=aI3 hcl hF hbV;clear hcl hF hbV hq;go_wp2_with fail;refine hnew.mono ?_;clear hnew;rintro e V5 ⟨q,rfl,⟨Fq,hqs,hFq⟩,hb5⟩;obtain⟨A,c,A',c',W6,qa,happ,qa2,fa2,⟨F',hcl',hF'⟩,hu'⟩:=ClS.grow (HC.out.1.below hb5) hqs (fun k hk hf=>by have:=hFq k hk;have:=HC.out.1.lt k hf;omega) (by omega);have b6:Below V5.heap.size V5 (V5.alloc (.cells #[.pointer (some ⟨q,0,none⟩)] 97)):=bR.alloc (Nat.le_refl _) _;have FIN:=hIz (show UK V3 V3.heap.size side n (t+1) (W6.setCell ⟨V3.heap.size,1,none⟩ (.slice A' (t+1) c')) from by
      refine⟨F',hcl',fun k hk=>?_,?_⟩
      ·rcases hF' k hk with h|h|h
       ·exact HC.out.2.1 k h
       ·exact Nat.le_trans HC.out.2.2.size (hFq k h)
       ·exact Nat.le_trans (Nat.le_trans HC.out.2.2.size hb5.size) h
      ·have hb35:=tHn HC.out.2.2 hb5;exact hb35.trans (hu'.below (fun k _ hk=>HC.out.2.1 k hk) hb35.size))
     obtain⟨t1,ht1⟩:∃t1,t+1=t1:=⟨_,rfl⟩;rw[ht1] at happ FIN;have HT1:=hIz ht1;clear hqs hFq hcl' hF' hu' hb5 b6 ht1;go_wp2_with (at_builtin;refine wpList_append_run rfl _ _ _ rfl rfl rfl happ ?_);generalize W6.setCell ⟨V3.heap.size,1,none⟩ (.slice A' t1 c')=W7 at FIN ⊢;go_roundw
     case rel=>exact⟨t1,by have:=HT1.out;omega,by rw[← HT1.out];go_num,FIN⟩
     case measure=>simp[intOf];omega
    ·obtain rfl:t=t5:=by omega
     obtain⟨F,hcl,hF,hbV⟩:=hq.out;clear hq;have kz:=H3.out.2.1.upd (upF hbV) id;have z0:wr.cell? ⟨w.heap.size,0,none⟩=some (.int .i64 (t:Int)):=kz.cell 0;have z1:wr.cell? ⟨w.heap.size,1,none⟩=some (.slice PA m pc):=kz.cell 1;by_cases hn0:n=0
     ·have hnI:¬(0:Int)<(n:Int):=by omega
      have FIN:=hIz (show TA w (t:Int) PV labels G (.returned (.tuple #[.pointer (some ⟨V3.heap.size,0,none⟩),.int .i64 0])) wr from by
       rw[HN0.out];refine .inr ⟨HA.out.1,V3.heap.size,F,fun _=>none,rfl,?_,fun k hk=>Nat.le_trans H3.out.1.size (hF k hk),tHn H3.out.1 hbV,fun k _ i j=>⟨fun h=>(by cases h),fun d=>?_⟩,fun k r e=>(by cases e)⟩
       ·rw[HSD.out,Int.toNat_natCast];exact hcl
       ·have:=d.lt (fun k i j h=>by have:=h.lt;rwa [H.out.2.2.2.2.2.2.2.2] at this);omega)
      clear hcl hF hbV kz hn0;go_wp2;refine bodyPost_ret (v:=.tuple #[.pointer (some ⟨V3.heap.size,0,none⟩),.int .i64 0]) (by simp[results,Tryz.f21,go_sem]) rfl FIN.out
     ·have hnI:(0:Int)<(n:Int):=by omega
      have hsn:side=n:=by have:=HSD.out;omega
      have hfil:=MB V3 wr hbV F hF V3.heap.size n t (by rw[hsn] at hcl;exact hcl) PA pc PV LA cl labels Fg pg G
       ⟨H.out.2.2.1.below H3.out.1,H.out.2.2.2.1.below3 H3.out.1,H.out.2.2.2.2.1.below H3.out.1,H.out.2.2.2.2.2.1,H.out.2.2.2.2.2.2.2.2,by omega,H.out.2.2.2.2.2.2.1.upd (Upd.of_below H3.out.1 (fun _=>False)) H.out.2.2.2.2.2.2.2.1 id,Nat.lt_of_lt_of_le H.out.2.2.2.2.2.2.2.1 H3.out.1.size,fun v hv=>GP (HA.out.2.2 v hv),by omega,by omega,hp8⟩
      rw[HM.out.1,HM.out.2] at hfil;have HE:=aI3 hF hbV hsn;clear hcl hF hbV kz hsn;go_wp2_with fail;refine hfil.mono ?_;clear hfil;rintro e V9 ⟨rfl,B,hbit,hwd,F9,hcl9,hu9,hF9⟩;have FIN:=hIz (show TA w (t:Int) PV labels G (.returned (.tuple #[.pointer (some ⟨V3.heap.size,0,none⟩),.int .i64 0])) V9 from by
       rw[HN0.out];have hb9:Below V3.heap.size V3 V9:=HE.out.2.1.trans (hu9.below (fun k _ hk=>HE.out.1 k hk) HE.out.2.1.size);refine .inr ⟨HA.out.1,V3.heap.size,F9,B,rfl,?_,fun k hk=>?_,tHn H3.out.1 hb9,hbit,hwd⟩
       ·rw[HSD.out,Int.toNat_natCast,HE.out.2.2];exact hcl9
       ·rcases hF9 k hk with h|h
        ·exact Nat.le_trans H3.out.1.size (HE.out.1 k h)
        ·exact Nat.le_trans (Nat.le_trans H3.out.1.size HE.out.2.1.size) h)
      clear hbit hwd hcl9 hu9 hF9;go_wp2;refine bodyPost_ret (v:=.tuple #[.pointer (some ⟨V3.heap.size,0,none⟩),.int .i64 0]) (by simp[results,Tryz.f21,go_sem]) rfl FIN.out
open Go.RowKit Go.Shelf
def IF(n nts:Nat)(B:aX)(k i j:Int):Value:=
 if 0≤k∧k<(nts:Int)∧0≤i∧i<(n:Int)∧0≤j∧j<(n:Int) then .tuple #[.bool (aY (B k.toNat) i.toNat j.toNat),.int .i64 0] else .tuple #[.bool false,.int .i64 4]
open Go.RowKit Go.Shelf
theorem QuS.len{w:World}{F:Nat→Prop}{p side:Nat}{b:Option (List Nat)}(h:QuS w F p side b):w.cell? ⟨p,2,none⟩=some (.int .i64 ((dF (bX b):Nat):Int))∧dF (bX b)≤4096:=by
 obtain⟨O,dep,cnt,m,last,L,pv,lv,hq,ok,-⟩:=h;have:=yP ok;subst this;exact⟨hq.blk.cell 2,gW (jH ok)⟩
def zK(B:aX)(t:Nat):Nat:=xP (fun k=>dF (bX (B k))) t
open Go.RowKit Go.Shelf
structure DcI(w:World)(K Fg FT:Nat→Prop)(p nts pc cl pg:Nat)(PA LA:Option Addr)(PV:List Pv)(labels:List Txt)(mv:Value)(G:Gr)(T:aX):Prop where
 cp:DcP w K p nts PA pc PV LA cl labels pg mv
 gr:GrS w Fg pg G
 mt:MtS w FT mv 32 nts T
 kg:∀k,K k→¬Fg k
 kt:∀k,K k→¬FT k
 gt:∀k,Fg k→¬FT k
 klt:∀k,K k→k<w.heap.size
theorem GrS.flt{w:World}{F:Nat→Prop}{p:Nat}{G:Gr}(h:GrS w F p G):∀k,F k→k<w.heap.size:=by
 obtain⟨U,V,⟨O,D,hg,rfl⟩,-⟩:=h;exact hg.lt
section
variable {w w':World} {K Fg FT:Nat→Prop} {p nts pc cl pg:Nat} {PA LA:Option Addr} {PV:List Pv} {labels:List Txt} {mv:Value} {G:Gr} {T:aX}
theorem DcI.upd{R:Nat→Prop}(h:DcI w K Fg FT p nts pc cl pg PA LA PV labels mv G T)(hu:Upd R w w')(hd:∀k,K k∨Fg k∨FT k→¬R k):DcI w' K Fg FT p nts pc cl pg PA LA PV labels mv G T:=
 ⟨h.cp.upd hu (fun k hk=>hd k (.inl hk)),h.gr.upd hu (fun k hk=>hd k (.inr (.inl hk))),h.mt.upd hu (fun k hk=>hd k (.inr (.inr hk))),h.kg,h.kt,h.gt,fun k hk=>Nat.lt_of_lt_of_le (h.klt k hk) hu.size⟩
theorem DcI.below(h:DcI w K Fg FT p nts pc cl pg PA LA PV labels mv G T)(hb:Below w.heap.size w w'):DcI w' K Fg FT p nts pc cl pg PA LA PV labels mv G T:=h.upd (upF hb) (fun _ _=>id)
end
def DcS(w:World)(F:Nat→Prop)(p nts:Nat)(P:List Pr)(labels:List Txt)(G:Gr)(T:aX):Prop:=∃K Fg FT pc cl pg PA LA PV mv,DcI w K Fg FT p nts pc cl pg PA LA PV labels mv G T∧PV.map (·.pr)=P∧F=fun k=>K k∨Fg k∨FT k
theorem DcS.upd{w w':World}{F R:Nat→Prop}{p nts:Nat}{P:List Pr}{labels:List Txt}{G:Gr}{T:aX}(h:DcS w F p nts P labels G T)(hu:Upd R w w')(hd:∀k,F k→¬R k):DcS w' F p nts P labels G T:=by
 obtain⟨K,Fg,FT,pc,cl,pg,PA,LA,PV,mv,h,hp,rfl⟩:=h;exact⟨K,Fg,FT,pc,cl,pg,PA,LA,PV,mv,h.upd hu hd,hp,rfl⟩
theorem DcS.below{w w':World}{F:Nat→Prop}{p nts:Nat}{P:List Pr}{labels:List Txt}{G:Gr}{T:aX}(h:DcS w F p nts P labels G T)(hb:Below w.heap.size w w'):DcS w' F p nts P labels G T:=h.upd (upF hb) (fun _ _=>id)
theorem pU(w:World)(p pg:Nat)(q3:w.cell? ⟨p,3,none⟩=some (.pointer (some ⟨pg,0,none⟩))):Calls Tryz.prog 41 #[.pointer (some ⟨p,0,none⟩)] w (nE w (.bool true)):=by
 go_enter Tryz.func41,Tryz.ntmps41;go_wp2;go_ret;exact⟨rfl,rfl⟩
theorem rF(w:World)(F:Nat→Prop)(p nts:Nat)(P:List Pr)(labels:List Txt)(G:Gr)(T:aX)(h:DcS w F p nts P labels G T)(ok:GOk G):Calls Tryz.prog 17 #[.pointer (some ⟨p,0,none⟩)] w (FP w G id):=by
 obtain⟨K,Fg,FT,pc,cl,pg,PA,LA,PV,mv,hi,-,-⟩:=h;have q3:w.cell? ⟨p,3,none⟩=some (.pointer (some ⟨pg,0,none⟩)):=hi.cp.blk.cell 3;have his:=pU w p pg q3;have hcp:=FW w Fg pg G hi.gr ok;clear hi;go_enter Tryz.func17,Tryz.ntmps17;go_wp2_with fail;refine his.mono ?_;clear his;rintro e V ⟨rfl,hw⟩;subst V;go_wp2_with fail;refine hcp.mono ?_;clear hcp q3;rintro e V ⟨q,rfl,hq⟩;have HQ:=hIz hq;clear hq;go_wp2;go_ret;exact⟨q,rfl,HQ.out⟩
theorem tN(w:World)(F:Nat→Prop)(p nts:Nat)(P:List Pr)(labels:List Txt)(G:Gr)(T:aX)(h:DcS w F p nts P labels G T)(hn1:1≤nts)(hn5:nts≤512) :
  Calls Tryz.prog 18 #[.pointer (some ⟨p,0,none⟩)] w (Sam w (.int .i64 ((zK T nts:Nat):Int))):=by
 obtain⟨K,Fg,FT,pc,cl,pg,PA,LA,PV,mv,hd,-,-⟩:=h;obtain⟨O,ad,hi,-⟩:=hd.mt;obtain⟨g,gc,rfl,-,-,-,-,hg⟩:=aL hi.rows (by omega);have q3:w.cell? ⟨p,3,none⟩=some (.pointer (some ⟨pg,0,none⟩)):=hd.cp.blk.cell 3;have q1:w.cell? ⟨p,4,none⟩=some (.slice (some ⟨g,0,none⟩) nts gc):=hd.cp.blk.cell 4;have his:=pU w p pg q3;have hcell:=fun k (hk:k<nts)=>(hg k _ (gH hk)).1
 have H:=aI2 hi hcell;clear hi hg hcell hd q3;go_enter Tryz.func18,Tryz.ntmps18;go_wp2_with fail;refine his.mono ?_;clear his;rintro e V ⟨rfl,hw⟩;subst V;go_wp2;clear q1;go_loopw [3,13] (fun s i wr=>∃t:Nat,t≤nts∧i=.int .i64 (t:Int)∧s=.int .i64 ((zK T t:Nat):Int)∧wr=w∧zK T t≤t*4096) (fun _ i _=>nts-(intOf i).toNat)
 case atStart=>exact⟨0,Nat.zero_le _,rfl,rfl,rfl,Nat.le_refl _⟩
 case round =>
  obtain⟨t,ht,rfl,rfl,hw,hle⟩:=hrel;subst wr;by_cases hlt:t<nts
  ·have htI:(t:Int)<(nts:Int):=by omega
   obtain⟨Fk,hq,-⟩:=H.out.1.mats t hlt;have hcon:=KR w (ad t) 32 (dF (bX (T t))) (by decide) hq.side.2 hq.len.1;have hl4:=hq.len.2;have q1:=H.out.2 t hlt;have hsum:zK T (t+1)=zK T t+dF (bX (T t)):=rfl;have hle2:zK T (t+1)≤(t+1)*4096:=by omega
   have FS:=hIz hsum;have hlB:zK T t≤2097152:=by omega
   clear hq hsum hle;generalize dF (bX (T t))=x at hcon hl4 FS;go_wp2_with fail;refine hcon.mono ?_;clear hcon q1;rintro e V ⟨rfl,hw⟩;subst V;obtain⟨y,hy⟩:∃y,zK T t=y:=⟨_,rfl⟩;rw[hy] at FS hlB ⊢;clear hy;go_wp2;go_roundw
   case rel=>exact⟨t+1,by omega,by go_num,by rw[FS.out];go_num,trivial,hle2⟩
   case measure=>simp[intOf];omega
  ·obtain rfl:t=nts:=by omega
   go_wp2;go_ret;exact⟨rfl,Below.refl _ _⟩
end Go.Proofs.YtnokckdkaifibaaGreatDoor
