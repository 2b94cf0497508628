/- The document's answer of layer 16: a name, a label, an edge ahead of another one, a text among a rising list; The document's answer of layer 16: two rising lists of texts as one; Two rising lists as one: the set of both (plain); The document's answer of layer 16: texts, rising, each once; Rows: what stands at a place; texts added; The document's answer of layer 16: labels, lone nodes, the text; The document's answer of layer 16: are all named? Is it in its form?; The document's answer of layer 16: what is too many; Check; layer 25's laws: lengths: what there is of an ask; far: a length as it is told; more edges: plain laws. -/
import Derived.Test.YteffnejneoocgaaGreatDoorF02
import Derived.Test.YteffnejneoocgaaGreatDoorF11
import Derived.Test.YteffnejneoocgaaGreatDoorF15
import Derived.Test.YteffnejneoocgaaGreatDoorF03
import Derived.Test.YteffnejneoocgaaGreatDoorF04
import Derived.Test.YteffnejneoocgaaGreatDoorF01
import Derived.Test.YteffnejneoocgaaGreatDoorF08
set_option linter.unusedVariables false
set_option linter.unusedSimpArgs false
set_option maxHeartbeats 16000000
set_option maxRecDepth 100000
namespace Go.Proofs.YteffnejneoocgaaGreatDoor
open Go.RowKit
theorem mO(n:Nat)(w:World):Calls Tryz.prog 80 #[.int .u8 (n:Int)] w (gB w (.bool (zE n))):=by
 have key:∀b,zE n=b→Calls Tryz.prog 80 #[.int .u8 (n:Int)] w (gB w (.bool b)):=by
  intro b hb;have HB:=hIz hb;clear hb;go_enter Tryz.func80,Tryz.ntmps80;go_wp2
  all_goals
   go_ret;refine⟨iG ?_,rfl⟩;rw[← HB.out,Bool.eq_iff_iff];simp[zE]
   try omega
 exact key _ rfl

theorem fZ(s:Txt)(w:World)(hs:s.size≤9223372036854775807):Calls Tryz.prog 49 #[.string s] w (gB w (.bool (dE s))):=by
 obtain⟨b,hb⟩:∃b,dE s=b:=⟨_,rfl⟩;rw[hb];have HB0:=hIz hb;clear hb;go_enter Tryz.func49,Tryz.ntmps49;go_wp2_with fail;go_loop [3] (fun i=>∃k:Nat,k≤s.size∧i=.int .i64 k∧Hid (∀j (hj:j<s.size),j<k→zE s[j].toNat=true)) (fun i=>s.size-(intOf i).toNat)
 case atStart=>exact⟨0,Nat.zero_le _,rfl,hIz (fun j _ hj=>by omega)⟩
 case round =>
  obtain⟨k,hk,rfl,hall⟩:=hrel;by_cases hlt:k<s.size
  ·cases hb:zE s[k].toNat with
   | true =>
    have HB:=hIz hb;go_wp2_with fail;refine(mO _ _).mono ?_;rintro e w' ⟨rfl,rfl⟩;go_wp2;go_round
    case rel=>exact⟨k+1,by omega,by go_num,hIz (fun j hj h=>by
     rcases Nat.lt_succ_iff_lt_or_eq.1 h with h|rfl
     ·exact hall.out j hj h
     ·exact HB.out)⟩
    case measure=>simp[intOf];omega
   | false =>
    have HB:=hIz hb;go_wp2_with fail;refine(mO _ _).mono ?_;rintro e w' ⟨rfl,rfl⟩;go_wp2;go_ret;exact⟨iG (by rw[← HB0.out,xP hlt HB.out]),rfl⟩
  ·obtain rfl:k=s.size:=by omega
   by_cases hl:1≤s.size∧s.size≤16
   ·have h1:(1:Int)≤(s.size:Int):=by omega
    have h2:(s.size:Int)≤16:=by omega
    have HL:=hIz hl;clear hl;go_wp2;go_ret;exact⟨iG (by rw[← HB0.out,tC HL.out (fun j hj=>hall.out j hj hj)]),rfl⟩
   ·have HL:=hIz (pT hl);by_cases h1:(1:Int)≤(s.size:Int)
    ·have h2:¬((s.size:Int)≤16):=by omega
     clear hl;go_wp2;go_ret;exact⟨iG (by rw[← HB0.out,HL.out]),rfl⟩
    ·clear hl;go_wp2;go_ret;exact⟨iG (by rw[← HB0.out,HL.out]),rfl⟩

theorem mP(s:Txt)(w:World)(hs:s.size≤9223372036854775807):Calls Tryz.prog 26 #[.string s] w (gB w (.bool (fS s))):=by
 have key:∀b,fS s=b→Calls Tryz.prog 26 #[.string s] w (gB w (.bool b)):=by
  intro b hb;cases hn:dE s with
  | false =>
   have e:b=false:=by rw[← hb,fS,hn,Bool.false_and]
   subst e;have hcon:=fZ s w hs;rw[hn] at hcon;clear hb hn;go_enter Tryz.func26,Tryz.ntmps26;go_wp2_with fail;refine hcon.mono ?_;rintro e w' ⟨rfl,rfl⟩;go_wp2;go_ret;exact⟨rfl,rfl⟩
  | true =>
   have h1:0<s.size:=by
    unfold dE at hn;simp at hn
    omega
   have hb':decide (97≤(s[0].toNat:Int)∧(s[0].toNat:Int)≤122)=b:=by
    rw[← hb,fS,hn,Bool.true_and,BP h1];exact decide_eq_decide.2 (by omega)
   have hcon:=fZ s w hs;rw[hn] at hcon;have HB:=hIz hb';have h2:(0:Int)<(s.size:Int):=by omega
   clear hb hn hb';go_enter Tryz.func26,Tryz.ntmps26;go_wp2_with fail;refine hcon.mono ?_;rintro e w' ⟨rfl,rfl⟩;go_wp2
   all_goals
    go_ret;refine⟨iG ?_,rfl⟩;rw[← HB.out,Bool.eq_iff_iff];simp
    try omega
 exact key _ rfl

theorem SO(x y:Ed):ltE x y=if x.fr=y.fr then (if x.lb=y.lb then ltT x.to y.to else ltT x.lb y.lb) else ltT x.fr y.fr:=rfl
theorem AW(x y:Ed)(w:World):Calls Tryz.prog 94 #[x.agg,y.agg] w (Sam w (.bool (ltE x y))):=by
 obtain⟨a0,a1,a2⟩:=x;obtain⟨b0,b1,b2⟩:=y;rw[SO];dsimp only
 obtain⟨v0,e0⟩:∃v,ltT a0 b0=v:=⟨_,rfl⟩;obtain⟨v1,e1⟩:∃v,ltT a1 b1=v:=⟨_,rfl⟩;obtain⟨v2,e2⟩:∃v,ltT a2 b2=v:=⟨_,rfl⟩;rw[e0,e1,e2];unfold ltT at e0 e1 e2;obtain⟨r,hr⟩:∃r,(if a0=b0 then (if a1=b1 then v2 else v1) else v0)=r:=⟨_,rfl⟩;rw[hr];have HR:=hIz hr;clear hr;have k0:=(Blk.new w 88 #[.string a0,.string a1,.string a2]).alloc (.cells #[.string b0,.string b1,.string b2] 88);have k1:=Blk.new (w.alloc (.cells #[.string a0,.string a1,.string a2] 88)) 88 #[.string b0,.string b1,.string b2];simp only[World.size_alloc] at k1
 have bb:Below w.heap.size w ((w.alloc (.cells #[.string a0,.string a1,.string a2] 88)).alloc (.cells #[.string b0,.string b1,.string b2] 88)):=by(repeat (first | exact Below.refl _ _ | apply Below.drew | refine Below.alloc ?_ (by first | exact Nat.le_refl _ | (simp;done) | (simp;omega)) _ | refine Below.setCell ?_ (by first | exact Nat.le_refl _ | (simp;done) | (simp;omega)) _))
 have HK:=aI3 k0 k1 bb;clear k0 k1 bb;unfold Ed.agg;go_enter Tryz.func94,Tryz.ntmps94;go_upto_region 1 with (fail);generalize (w.alloc (.cells #[.string a0,.string a1,.string a2] 88)).alloc (.cells #[.string b0,.string b1,.string b2] 88)=W0 at HK ⊢;have c00:W0.cell? ⟨w.heap.size,0,none⟩=some (.string a0):=HK.out.1.cell 0;have c01:W0.cell? ⟨w.heap.size,1,none⟩=some (.string a1):=HK.out.1.cell 1;have c02:W0.cell? ⟨w.heap.size,2,none⟩=some (.string a2):=HK.out.1.cell 2;have c10:W0.cell? ⟨w.heap.size+1,0,none⟩=some (.string b0):=HK.out.2.1.cell 0;have c11:W0.cell? ⟨w.heap.size+1,1,none⟩=some (.string b1):=HK.out.2.1.cell 1;have c12:W0.cell? ⟨w.heap.size+1,2,none⟩=some (.string b2):=HK.out.2.1.cell 2;go_wp2
 all_goals
  go_ret;refine⟨iG ?_,HK.out.2.2⟩;rw[← HR.out];simp only[txt_beq] at *
  simp_all

theorem vH(w:World)(A:Option Addr)(c:Nat)(N:List Txt)(s:Txt)(h:aX w A (aE N))(hup:cT ltT N)(hl:N.length*16≤140737488355328) :
  Calls Tryz.prog 95 #[.slice A N.length c,.string s] w (gB w (.bool (inB s N))):=by
 obtain⟨b,hb⟩:∃b,inB s N=b:=⟨_,rfl⟩;rw[hb];obtain⟨n,hn⟩:∃n,N.length=n:=⟨_,rfl⟩;rw[hn] at hl ⊢;have H:=aI4 h hup hb hn;clear h hup hb hn;go_enter Tryz.func95,Tryz.ntmps95;go_wp2_with fail;go_loop [5,6,7] (fun lo hi _=>∃i j:Nat,i≤j∧j≤n∧lo=.int .i64 i∧hi=.int .i64 j∧Hid ((∀k x,k<i→N[k]?=some x→ltT x s=true)∧∀k x,j≤k→N[k]?=some x→ltT x s=false)) (fun lo hi _=>(intOf hi).toNat-(intOf lo).toNat)
 case atStart=>exact⟨0,n,Nat.zero_le _,Nat.le_refl _,rfl,rfl,hIz ⟨fun k x hk=>by omega,fun k x hk hx=>by have:=(gO.1 hx).1;have:=H.out.2.2.2;omega⟩⟩
 case round =>
  obtain⟨i,j,hij,hjn,rfl,rfl,hs⟩:=hrel;by_cases hlt:i<j
  ·have hltI:(i:Int)<(j:Int):=by omega
   have hw1:IntKind.i64.wrap ((i:Int)+(j:Int))=(i:Int)+(j:Int):=IntWalk.i64_in _ (by omega);obtain⟨k,hk⟩:∃k,(i+j) / 2=k:=⟨_,rfl⟩;have hq:((i:Int)+(j:Int)).tdiv 2=(k:Int):=by
    rw[Int.tdiv_eq_ediv_of_nonneg (by omega),← hk];omega
   have hkj:k<j:=by omega
   have hik:i≤k:=by omega
   have hkn:k<n:=by omega
   have hw2:IntKind.i64.wrap ((k:Int)+1)=(k:Int)+1:=IntWalk.i64_in _ (by omega);have hw3:IntKind.i64.wrap (k:Int)=(k:Int):=IntWalk.i64_in _ (by omega);obtain⟨x,hx⟩:∃x,N[k]?=some x:=⟨N[k]'(by rw[H.out.2.2.2];exact hkn),gEz _⟩;obtain⟨ab,ao,rfl,x0⟩:=H.out.1.txt hx;cases hlx:ltT x s with
   | true =>
    have HX:=aI2 hx hlx;unfold ltT at hlx;clear hx hk;go_wp2;go_round
    case rel=>exact⟨k+1,j,by omega,hjn,by go_num,rfl,hIz ⟨fun k' x' hk' hx'=>by
      rcases Nat.lt_succ_iff_lt_or_eq.1 hk' with h|rfl
      ·have hr:ltT x' x=true:=(List.pairwise_iff_getElem.1 H.out.2.1) k' k (gO.1 hx').1 (gO.1 HX.out.1).1 h |> fun h=>by
        rw[(gO.1 hx').2,(gO.1 HX.out.1).2] at h;exact h
       exact fJ.tr _ _ _ hr HX.out.2
      ·rw[HX.out.1] at hx';injection hx' with e;rw[← e];exact HX.out.2,hs.out.2⟩⟩
    case measure=>simp[intOf];omega
   | false =>
    have HX:=aI2 hx hlx;unfold ltT at hlx;clear hx hk;go_wp2;go_round
    case rel=>exact⟨i,k,hik,by omega,rfl,rfl,hIz ⟨hs.out.1,fun k' x' hk' hx'=>by
      rcases Nat.lt_or_eq_of_le hk' with h|rfl
      ·have hr:ltT x x'=true:=(List.pairwise_iff_getElem.1 H.out.2.1) k k' (gO.1 HX.out.1).1 (gO.1 hx').1 h |> fun h=>by
        rw[(gO.1 hx').2,(gO.1 HX.out.1).2] at h;exact h
       cases e:ltT x' s
       ·rfl
       ·have:=fJ.tr _ _ _ hr e;rw[HX.out.2] at this;cases this
      ·rw[HX.out.1] at hx';injection hx' with e;rw[← e];exact HX.out.2⟩⟩
    case measure=>simp[intOf];omega
  ·obtain rfl:i=j:=by omega
   by_cases hin:i<n
   ·have hinI:(i:Int)<(n:Int):=by omega
    obtain⟨x,hx⟩:∃x,N[i]?=some x:=⟨N[i]'(by rw[H.out.2.2.2];exact hin),gEz _⟩;obtain⟨ab,ao,rfl,x0⟩:=H.out.1.txt hx;have key:b=decide (x=s):=by
     rw[← H.out.2.2.1,Bool.eq_iff_iff,bC,decide_eq_true_iff];constructor
     ·intro hm;obtain⟨k,hk,e⟩:=List.getElem_of_mem hm;have hk':N[k]?=some s:=by rw[gEz hk,e]
      rcases Nat.lt_trichotomy k i with h|rfl|h
      ·have:=hs.out.1 k s h hk';rw[fJ.irr] at this;cases this
      ·rw[hx] at hk';injection hk'
      ·have h1:=hs.out.2 i x (Nat.le_refl _) hx;have hr:ltT x s=true:=(List.pairwise_iff_getElem.1 H.out.2.1) i k (gO.1 hx).1 hk h |> fun h=>by
        rw[(gO.1 hx).2,e] at h;exact h
       rw[h1] at hr;cases hr
     ·rintro rfl;exact mG hx
    have HK:=hIz key;clear key hx;go_wp2
    all_goals
     go_ret;refine⟨iG ?_,rfl⟩;rw[HK.out];exact txt_beq _ _
   ·obtain rfl:i=n:=by omega
    have key:b=false:=by
     cases b with
     | false=>rfl
     | true =>
      obtain⟨k,hk,e⟩:=List.getElem_of_mem (bC.1 H.out.2.2.1);have:=hs.out.1 k s (by have:=H.out.2.2.2;omega) (by rw[gEz hk,e]);rw[fJ.irr] at this;cases this
    have HK:=hIz key;clear key;go_wp2
    all_goals
     go_ret;exact⟨iG HK.out.symm,rfl⟩
open Go.RowKit
theorem GF(W2:World)(A1:Option Addr)(c1:Nat)(A2:Option Addr)(c2:Nat)(P Q:List Txt)(hA:aX W2 A1 (aE P))(hB:aX W2 A2 (aE Q))(hl:(P.length+Q.length)*16≤140737488355328) :
  Calls Tryz.prog 163 #[.slice A1 P.length c1,.slice A2 Q.length c2] W2 (pK W2 (mrg ltT P Q)):=by
 obtain⟨n,hn⟩:∃n,P.length=n:=⟨_,rfl⟩;obtain⟨m,hm⟩:∃m,Q.length=m:=⟨_,rfl⟩;rw[hn,hm] at hl ⊢;have HR:=aI2 hA hB;have HL:=aI2 hn hm;clear hA hB hn hm;go_enter Tryz.func163,Tryz.ntmps163;go_wp2_with fail;go_loopw [5,6,7] (fun v i j wr=>∃(p q:Nat) (L:List Txt),p≤n∧q≤m∧i=.int .i64 p∧j=.int .i64 q∧L.length≤p+q∧Hid (L++mrg ltT (P.drop p) (Q.drop q)=mrg ltT P Q)∧Hid (Below W2.heap.size W2 wr)∧Hid (wr.ownsRow W2.heap.size 9 1 v L.length (aE L))) (fun _ i j _=>(n-(intOf i).toNat)+(m-(intOf j).toNat))
 case atStart=>exact⟨0,0,[],Nat.zero_le _,Nat.zero_le _,rfl,rfl,Nat.le_refl _,hIz (by simp),hIz bR,hIz (World.ownsRow_nil _ _ _ _)⟩
 case round =>
  obtain⟨p,q,L,hp,hq,rfl,rfl,hL,hI,hbw,how⟩:=hrel;have hpw:IntKind.i64.wrap ((p:Int)+1)=(p:Int)+1:=IntWalk.i64_in _ (by omega);have hqw:IntKind.i64.wrap ((q:Int)+1)=(q:Int)+1:=IntWalk.i64_in _ (by omega);by_cases hpn:p<n
  ·have hpI:(p:Int)<(n:Int):=by omega
   obtain⟨x,hx⟩:∃z,P[p]?=some z:=⟨P[p]'(by rw[HL.out.1];assumption),gEz _⟩;obtain⟨ab,ao,rfl,xa⟩:=(HR.out.1.below hbw.out).txt hx;by_cases hqm:q<m
   ·have hqI:(q:Int)<(m:Int):=by omega
    have hqne:((q:Int)==(m:Int))=false:=by simp;omega
    obtain⟨y,hy⟩:∃z,Q[q]?=some z:=⟨Q[q]'(by rw[HL.out.2];assumption),gEz _⟩;obtain⟨bb,bo,rfl,ya⟩:=(HR.out.2.below hbw.out).txt hy;obtain⟨v0,hv⟩:∃b,ltT x y=b:=⟨_,rfl⟩;have HV:=hIz hv;have hv2:Op.bytesLess (ByteArray.toList x) (ByteArray.toList y)=v0:=hv;clear hv;have hS:wr.drew.cell? ⟨ab,ao+p,none⟩=some (.string x)∧wr.drew.cell? ⟨bb,bo+q,none⟩=some (.string y):=⟨xa,ya⟩;go_upto_region 4 with (fail);refine aF (fun w'=>w'.cell? ⟨ab,ao+p,none⟩=some (.string x)∧w'.cell? ⟨bb,bo+q,none⟩=some (.string y)) 21 [(0,true),(1,true),(2,true),(3,true),(4,true),(5,true),(6,true),(7,true),(8,true),(9,true),(10,true),(11,true),(12,true),(13,true),(14,true),(15,true),(16,true),(17,true),(18,true),(19,true),(20,true)] hS ?_
    iterate 18 refine aC rfl ?_
    cases v0 with
    | true =>
     iterate 3 refine aC rfl ?_
     refine aG ?_;clear hS;obtain⟨W5,hW5⟩:∃W,W=wr.drew:=⟨_,rfl⟩;have bW5:Below wr.heap.size wr W5:=by rw[hW5];exact bR.drew
     rw[← hW5];have xa5:=(bW5.cell (World.block_lt_of_cell? _ _ xa)).trans xa;have ya5:=(bW5.cell (World.block_lt_of_cell? _ _ ya)).trans ya;have own5:=aB how.out (upF bW5) (fun _ _ h=>h);have bb5:=tHn hbw.out bW5;obtain⟨v6,w6,happ,own6,b6⟩:=gD W5 W2.heap.size _ L own5 x (by omega) bb5.size;have HN:=aI2 (bb5.trans (b6.1.below (fun k _ e=>b6.2 k e) bb5.size)) own6;have HI:=hIz (show(L++[x])++mrg ltT (P.drop (p+1)) (Q.drop (q))=mrg ltT P Q by
      rw[← hI.out,vF hx (.inr ⟨_,hy,HV.out⟩)];simp)
     clear hI hx hy own6 own5 bb5 b6 hW5 bW5;clear xa ya;clear ya5;go_wp2_with (at_builtin;refine wpList_append_run rfl _ _ _ rfl rfl rfl happ ?_);go_roundw
     case rel=>exact⟨p+1,q,L++[x],by omega,by omega,by go_num,by go_num,by simp;omega,HI,hIz HN.out.1,hIz HN.out.2⟩
     case measure=>simp[intOf];omega
    | false =>
     iterate 3 refine aC rfl ?_
     refine aG ?_;clear hS;obtain⟨W5,hW5⟩:∃W,W=wr.drew:=⟨_,rfl⟩;have bW5:Below wr.heap.size wr W5:=by rw[hW5];exact bR.drew
     rw[← hW5];have xa5:=(bW5.cell (World.block_lt_of_cell? _ _ xa)).trans xa;have ya5:=(bW5.cell (World.block_lt_of_cell? _ _ ya)).trans ya;have own5:=aB how.out (upF bW5) (fun _ _ h=>h);have bb5:=tHn hbw.out bW5;by_cases he:x=y
     ·have heq:(ByteArray.toList x==ByteArray.toList y)=true:=by rw[txt_beq,decide_eq_true he]
      have HE:=hIz he;clear he;have hS:W5.drew.cell? ⟨ab,ao+p,none⟩=some (.string x)∧W5.drew.cell? ⟨bb,bo+q,none⟩=some (.string y):=⟨xa5,ya5⟩;go_upto_region 7 with (fail);refine aF (fun w'=>w'.cell? ⟨ab,ao+p,none⟩=some (.string x)∧w'.cell? ⟨bb,bo+q,none⟩=some (.string y)) 15 [(0,true),(1,true),(2,true),(3,true),(4,true),(5,true),(6,true),(7,true),(8,true),(9,true),(10,true),(11,true),(12,true),(13,true),(14,true)] hS ?_
      iterate 15 refine aC rfl ?_
      refine aG ?_;clear hS;obtain⟨W6,hW6⟩:∃W,W=W5.drew:=⟨_,rfl⟩;have bW6:Below W5.heap.size W5 W6:=by rw[hW6];exact bR.drew
      rw[← hW6];have ya7:=(bW6.cell (World.block_lt_of_cell? _ _ ya5)).trans ya5;have own7:=aB own5 (upF bW6) (fun _ _ h=>h);have bb7:=tHn bb5 bW6;obtain⟨v6,w6,happ,own6,b6⟩:=gD W6 W2.heap.size _ L own7 y (by omega) bb7.size;have HN:=aI2 (bb7.trans (b6.1.below (fun k _ e=>b6.2 k e) bb7.size)) own6;have HI:=hIz (show(L++[y])++mrg ltT (P.drop (p+1)) (Q.drop (q+1))=mrg ltT P Q by
       rw[← hI.out,LW fJ (by rw[← HE.out];exact hx) hy];simp)
      clear hI hx hy own6 own5 bb5 own7 bb7 hW6 bW6 heq b6 hW5 bW5;clear xa ya;clear xa5 ya5;go_wp2_with (at_builtin;refine wpList_append_run rfl _ _ _ rfl rfl rfl happ ?_);go_roundw
      case rel=>exact⟨p+1,q+1,L++[y],by omega,by omega,by go_num,by go_num,by simp;omega,HI,hIz HN.out.1,hIz HN.out.2⟩
      case measure=>simp[intOf];omega
     ·have heq:(ByteArray.toList x==ByteArray.toList y)=false:=by rw[txt_beq,decide_eq_false he]
      have HE:=hIz he;clear he;have hS:W5.drew.cell? ⟨ab,ao+p,none⟩=some (.string x)∧W5.drew.cell? ⟨bb,bo+q,none⟩=some (.string y):=⟨xa5,ya5⟩;go_upto_region 7 with (fail);refine aF (fun w'=>w'.cell? ⟨ab,ao+p,none⟩=some (.string x)∧w'.cell? ⟨bb,bo+q,none⟩=some (.string y)) 15 [(0,true),(1,true),(2,true),(3,true),(4,true),(5,true),(6,true),(7,true),(8,true),(9,true),(10,true),(11,true),(12,true),(13,true),(14,true)] hS ?_
      iterate 15 refine aC rfl ?_
      refine aG ?_;clear hS;obtain⟨W6,hW6⟩:∃W,W=W5.drew:=⟨_,rfl⟩;have bW6:Below W5.heap.size W5 W6:=by rw[hW6];exact bR.drew
      rw[← hW6];have ya7:=(bW6.cell (World.block_lt_of_cell? _ _ ya5)).trans ya5;have own7:=aB own5 (upF bW6) (fun _ _ h=>h);have bb7:=tHn bb5 bW6;obtain⟨v6,w6,happ,own6,b6⟩:=gD W6 W2.heap.size _ L own7 y (by omega) bb7.size;have HN:=aI2 (bb7.trans (b6.1.below (fun k _ e=>b6.2 k e) bb7.size)) own6;have HI:=hIz (show(L++[y])++mrg ltT (P.drop (p)) (Q.drop (q+1))=mrg ltT P Q by
       rw[← hI.out,vG hy (.inr ⟨_,hx,HV.out,HE.out⟩)];simp)
      clear hI hx hy own6 own5 bb5 own7 bb7 hW6 bW6 heq b6 hW5 bW5;clear xa ya;clear xa5 ya5;go_wp2_with (at_builtin;refine wpList_append_run rfl _ _ _ rfl rfl rfl happ ?_);go_roundw
      case rel=>exact⟨p,q+1,L++[y],by omega,by omega,by go_num,by go_num,by simp;omega,HI,hIz HN.out.1,hIz HN.out.2⟩
      case measure=>simp[intOf];omega
   ·obtain rfl:q=m:=by omega
    have hqe:((q:Int)==(q:Int))=true:=by simp
    have hS:wr.drew.cell? ⟨ab,ao+p,none⟩=some (.string x):=xa;go_upto_region 4 with (fail);refine aF (fun w'=>w'.cell? ⟨ab,ao+p,none⟩=some (.string x)) 21 [(0,true),(1,true),(2,true),(3,true),(4,true),(5,true),(6,true),(7,true),(8,true),(9,true),(10,true),(11,true),(12,true),(13,true),(14,true),(15,true),(16,true),(17,true),(18,true),(19,true),(20,true)] hS ?_
    iterate 5 refine aC rfl ?_
    iterate 13 (refine eX rfl (by kernel_rfl) ?_;(try simp only[Act.put,gA,gS,gZ,sA,sZ,sS]))
    (refine eX rfl (by kernel_rfl) ?_;(try simp only[Act.put,gA,gS,gZ,sA,sZ,sS]))
    (refine eX rfl (by kernel_rfl) ?_;(try simp only[Act.put,gA,gS,gZ,sA,sZ,sS]))
    refine aC rfl ?_;refine aG ?_;clear hS;obtain⟨W5,hW5⟩:∃W,W=wr.drew:=⟨_,rfl⟩;have bW5:Below wr.heap.size wr W5:=by rw[hW5];exact bR.drew
    rw[← hW5];have xa5:=(bW5.cell (World.block_lt_of_cell? _ _ xa)).trans xa;have own5:=aB how.out (upF bW5) (fun _ _ h=>h);have bb5:=tHn hbw.out bW5;obtain⟨v6,w6,happ,own6,b6⟩:=gD W5 W2.heap.size _ L own5 x (by omega) bb5.size;have HN:=aI2 (bb5.trans (b6.1.below (fun k _ e=>b6.2 k e) bb5.size)) own6;have HI:=hIz (show(L++[x])++mrg ltT (P.drop (p+1)) (Q.drop (q))=mrg ltT P Q by
     rw[← hI.out,vF hx (.inl (by rw[HL.out.2];exact Nat.le_refl _))];simp)
    clear hI hx own6 own5 bb5 hW5 bW5 b6;clear xa;go_wp2_with (at_builtin;refine wpList_append_run rfl _ _ _ rfl rfl rfl happ ?_);go_roundw
    case rel=>exact⟨p+1,q,L++[x],by omega,by omega,by go_num,by go_num,by simp;omega,HI,hIz HN.out.1,hIz HN.out.2⟩
    case measure=>simp[intOf];omega
  ·obtain rfl:p=n:=by omega
   by_cases hqm:q<m
   ·have hqI:(q:Int)<(m:Int):=by omega
    have hqne:((q:Int)==(m:Int))=false:=by simp;omega
    obtain⟨y,hy⟩:∃z,Q[q]?=some z:=⟨Q[q]'(by rw[HL.out.2];assumption),gEz _⟩;obtain⟨bb,bo,rfl,ya⟩:=(HR.out.2.below hbw.out).txt hy;have hS:wr.drew.cell? ⟨bb,bo+q,none⟩=some (.string y):=ya;go_upto_region 4 with (fail);refine aF (fun w'=>w'.cell? ⟨bb,bo+q,none⟩=some (.string y)) 21 [(0,true),(1,true),(2,true),(3,true),(4,true),(5,true),(6,true),(7,true),(8,true),(9,true),(10,true),(11,true),(12,true),(13,true),(14,true),(15,true),(16,true),(17,true),(18,true),(19,true),(20,true)] hS ?_
    iterate 10 refine aC rfl ?_
    iterate 8 (refine eX rfl (by kernel_rfl) ?_;(try simp only[Act.put,gA,gS,gZ,sA,sZ,sS]))
    (refine eX rfl (by kernel_rfl) ?_;(try simp only[Act.put,gA,gS,gZ,sA,sZ,sS]))
    refine aC rfl ?_;refine aC rfl ?_;refine aG ?_;clear hS;obtain⟨W5,hW5⟩:∃W,W=wr.drew:=⟨_,rfl⟩;have bW5:Below wr.heap.size wr W5:=by rw[hW5];exact bR.drew
    rw[← hW5];have ya5:=(bW5.cell (World.block_lt_of_cell? _ _ ya)).trans ya;have own5:=aB how.out (upF bW5) (fun _ _ h=>h);have bb5:=tHn hbw.out bW5;have hS:W5.drew.cell? ⟨bb,bo+q,none⟩=some (.string y):=ya5;go_upto_region 7 with (fail);refine aF (fun w'=>w'.cell? ⟨bb,bo+q,none⟩=some (.string y)) 15 [(0,true),(1,true),(2,true),(3,true),(4,true),(5,true),(6,true),(7,true),(8,true),(9,true),(10,true),(11,true),(12,true),(13,true),(14,true)] hS ?_
    iterate 5 refine aC rfl ?_
    iterate 9 (refine eX rfl (by kernel_rfl) ?_;(try simp only[Act.put,gA,gS,gZ,sA,sZ,sS]))
    refine aC rfl ?_;refine aG ?_;clear hS;obtain⟨W6,hW6⟩:∃W,W=W5.drew:=⟨_,rfl⟩;have bW6:Below W5.heap.size W5 W6:=by rw[hW6];exact bR.drew
    rw[← hW6];have yy:=True.intro;have ya7:=(bW6.cell (World.block_lt_of_cell? _ _ ya5)).trans ya5;have own7:=aB own5 (upF bW6) (fun _ _ h=>h);have bb7:=tHn bb5 bW6;obtain⟨v6,w6,happ,own6,b6⟩:=gD W6 W2.heap.size _ L own7 y (by omega) bb7.size;have HN:=aI2 (bb7.trans (b6.1.below (fun k _ e=>b6.2 k e) bb7.size)) own6;have HI:=hIz (show(L++[y])++mrg ltT (P.drop (p)) (Q.drop (q+1))=mrg ltT P Q by
     rw[← hI.out,vG hy (.inl (by rw[HL.out.1];exact Nat.le_refl _))];simp)
    clear hI hy own6 own5 bb5 own7 bb7 hW5 bW5 hW6 bW6 yy b6;clear ya;clear ya5;go_wp2_with (at_builtin;refine wpList_append_run rfl _ _ _ rfl rfl rfl happ ?_);go_roundw
    case rel=>exact⟨p,q+1,L++[y],by omega,by omega,by go_num,by go_num,by simp;omega,HI,hIz HN.out.1,hIz HN.out.2⟩
    case measure=>simp[intOf];omega
   ·obtain rfl:q=m:=by omega
    obtain⟨A9,c9,rfl,-,-⟩:=aK how.out;have FIN:=hIz (show pK W2 (mrg ltT P Q) (.returned (.slice A9 L.length c9)) wr from⟨_,rfl,by
     have hI:=hI.out;rw[QD (by rw[HL.out.1];exact Nat.le_refl _) (by rw[HL.out.2];exact Nat.le_refl _),List.append_nil] at hI;rw[← hI];exact how.out,hbw.out⟩)
    clear hI how;go_wp2;go_ret;exact FIN.out
open Go.RowKit
section
variable {α:Type} [DecidableEq α] {lt:α→α→Bool}
theorem QE(hs:Sto lt)(A B:List α):mrg lt (eD lt A) (eD lt B)=eD lt (A++B):=by
 obtain⟨a1,a2⟩:=bM hs A;obtain⟨b1,b2⟩:=bM hs B;obtain⟨r,m,-⟩:=nH hs _ (eD lt A) (eD lt B) (Nat.le_refl _) a1 b1;exact gG.is hs ⟨r,fun z=>by rw[m,List.mem_append,a2,b2]⟩
theorem pF(_hs:Sto lt):∀(L:List α),(eD lt L).length≤L.length:=fun L=>by
 have h:∀(l:List α),(cpt l).length≤l.length:=by
  intro l;induction l using cpt.induct with
  | case1=>simp[cpt]
  | case2=>simp[cpt]
  | case3=>simp_all [cpt];omega
  | case4=>simp_all [cpt]
 have:=h (L.mergeSort fun x y=>!lt y x);rwa [List.length_mergeSort] at this
theorem xA(hs:Sto lt){L:List α}(h:L.length<2):eD lt L=L:=by
 refine(gG.is hs (gG.self ?_)).symm;match L,h with
 | [],_=>exact List.Pairwise.nil
 | [x],_=>exact List.pairwise_singleton _ _
theorem AX(hs:Sto lt)(L:List α)(k:Nat):mrg lt (eD lt (L.take k)) (eD lt (L.drop k))=eD lt L:=by rw[QE hs,List.take_append_drop]
end
open Go.RowKit
theorem LX(w:World)(e size:Nat):(w.alloc (.cells #[] e)).ownsRow w.heap.size e size (.slice (some ⟨w.heap.size,0,none⟩) 0 0) 0 []:=
 ⟨by simp,.inr ⟨w.heap.size,0,#[],rfl,Nat.le_refl _,heap_alloc_new w _,Nat.le_refl _,Nat.zero_le _,by simp,by simp⟩⟩
theorem mE{w:World}{base e size n:Nat}{v:Value}{xs:List Value}(h:w.ownsRow base e size v n xs):∃A c,v=.slice A n c∧n≤c∧aX w A xs:=by
 obtain⟨A,c,rfl,hc,-⟩:=aK h;exact⟨A,c,rfl,hc,aX.of_own h⟩

theorem aX.take_txt{w:World}{A:Option Addr}{N:List Txt}(h:aX w A (aE N))(k:Nat):aX w A (aE (N.take k)):=fun j u hj=>by
 refine h j u ?_;rw[aE,List.map_take,List.getElem?_take] at hj;split at hj
 ·exact hj
 ·cases hj
theorem aX.drop_txt{w:World}{ab ao:Nat}{N:List Txt}(h:aX w (some ⟨ab,ao,none⟩) (aE N))(k:Nat):aX w (some ⟨ab,ao+k,none⟩) (aE (N.drop k)):=fun j u hj=>by
 rw[aE,List.map_drop,List.getElem?_drop] at hj;obtain⟨b,o,e,x⟩:=h (k+j) u hj;injection e with e;injection e with e1 e2;subst e1;subst e2;exact⟨ab,ao+k,rfl,by rw[Nat.add_assoc];exact x⟩
theorem pG(w:World)(A:Option Addr)(c:Nat)(N:List Txt)(h2:N.length<2)(h:aX w A (aE N)):Calls Tryz.prog 133 #[.slice A N.length c] w (pK w (eD ltT N)):=by
 rw[xA fJ h2];obtain⟨n,hn⟩:∃n,N.length=n:=⟨_,rfl⟩;rw[hn] at h2 ⊢;have b0:Below w.heap.size w (w.alloc (.cells #[] 9)):=bR.alloc (Nat.le_refl _) _;obtain⟨B6,c6,w6,happ,own6,b6⟩:=gK (w.alloc (.cells #[] 9)) w.heap.size 25 9 1 16 _ Tryz.underlying25 cH rfl (by decide) (by decide) (some ⟨w.heap.size,0,none⟩) 0 0 [] (LX w _ 1) A n c (aE N) (h.below b0) (by rw[fC,hn]) (qV N) (by omega) (by simp);rw[Nat.zero_add] at happ own6;rw[List.nil_append] at own6;have HN:=hIz (show pK w N (.returned (.slice B6 n c6)) w6 from⟨_,rfl,by rw[hn];exact own6,b0.trans b6⟩);have hI:(n:Int)<2:=by omega
 clear own6 b6 b0 h hn;go_enter Tryz.func133,Tryz.ntmps133;go_wp2_with (at_builtin;refine wpList_append_run rfl _ _ _ rfl rfl rfl happ ?_);go_ret;exact HN.out
theorem vI:∀(k:Nat) (w:World) (A:Option Addr) (c:Nat) (N:List Txt),N.length≤k→aX w A (aE N)→N.length≤c→N.length*16≤140737488355328 →
  Calls Tryz.prog 133 #[.slice A N.length c] w (pK w (eD ltT N)):=by
 intro k;induction k with
 | zero=>exact fun w A c N hk h _ _=>pG w A c N (by omega) h
 | succ k ih =>
  intro w A c N hk h hc hl;by_cases h2:N.length<2
  ·exact pG w A c N h2 h
  obtain⟨x,hx⟩:∃x,N[0]?=some x:=⟨N[0]'(by omega),gEz _⟩;obtain⟨ab,ao,rfl,-⟩:=h.txt hx;obtain⟨n,hn⟩:∃n,N.length=n:=⟨_,rfl⟩;obtain⟨q,hq⟩:∃q,n / 2=q:=⟨_,rfl⟩;rw[hn] at hk hc hl h2 ⊢;have hq1:1≤q:=by omega
  have hqn:q<n:=by omega
  have hqI:(n:Int).tdiv 2=(q:Int):=by
   rw[Int.tdiv_eq_ediv_of_nonneg (by omega),← hq];omega
  have hq2:q≤n:=by omega
  have hqc:q≤c:=by omega
  have hqw:IntKind.i64.wrap (q:Int)=(q:Int):=IntWalk.i64_in _ (by omega);have hcq:¬(c=q):=by omega
  have lt:(N.take q).length=q:=by rw[List.length_take,hn];omega
  have ld:(N.drop q).length=n-q:=by rw[List.length_drop,hn]
  have c1:∀W,Below w.heap.size w W→Calls Tryz.prog 133 #[.slice (some ⟨ab,ao,none⟩) q c] W (pK W (eD ltT (N.take q))):=fun W hb=>by
   have:=ih W (some ⟨ab,ao,none⟩) c (N.take q) (by omega) ((h.below hb).take_txt q) (by omega) (by omega);rwa [lt] at this
  have c2:∀W,Below w.heap.size w W→Calls Tryz.prog 133 #[.slice (some ⟨ab,ao+q,none⟩) (n-q) (c-q)] W (pK W (eD ltT (N.drop q))):=fun W hb=>by
   have:=ih W (some ⟨ab,ao+q,none⟩) (c-q) (N.drop q) (by omega) ((h.below hb).drop_txt q) (by omega) (by omega);rwa [ld] at this
  have l1:=pF fJ (N.take q);have l2:=pF fJ (N.drop q);rw[lt] at l1;rw[ld] at l2;have H:=aI5 c1 c2 l1 l2 hn;have h2I:¬((n:Int)<2):=by omega
  clear c1 c2 l1 l2 hn ih h hx lt ld hq x;go_enter Tryz.func133,Tryz.ntmps133;go_upto_region 3 with (fail);refine aT (fun _=>True) 14 [(0,true),(1,true),(2,true),(3,true),(4,true),(6,true),(7,true),(8,true),(9,true),(10,true),(5,false),(11,false),(12,false),(13,true)] (by kernel_rfl) (by kernel_rfl) (fun _ _ d _ _ h=>by cases d <;> exact h) trivial ?_
  iterate 10 refine aC rfl ?_
  refine aM rfl rfl (fun K hK=>?_);go_simp;refine(H.out.1 w.drew bR.drew).mono ?_;rintro e w1 ⟨v1,rfl,own1,b1⟩;have bb1:Below w.heap.size w w1:=(Below.refl w.heap.size w).drew.trans b1;have HB1:=hIz bb1;have HO1:=hIz own1;refine hK _ _ (fun _=>trivial) ?_;clear hK K own1 b1 bb1;(try simp only[Act.put,gA,gS,gZ,sA,sZ,sS])
  refine aM rfl rfl (fun K hK=>?_);go_simp;refine(H.out.2.1 w1 HB1.out).mono ?_;rintro e w2 ⟨v2,rfl,own2,b2⟩;obtain⟨A1,c1,rfl,hc1,r1⟩:=mE HO1.out;obtain⟨A2,c2,rfl,hc2,r2⟩:=mE own2;have HR:=aI3 (r1.below b2) r2 (tHn HB1.out b2);refine hK _ _ (fun _=>trivial) ?_;clear hK K own2 b2 r1 r2;(try simp only[Act.put,gA,gS,gZ,sA,sZ,sS])
  refine aM rfl rfl (fun K hK=>?_);go_simp;refine(GF w2 A1 c1 A2 c2 _ _ HR.out.1 HR.out.2.1 (by have:=H.out.2.2.1;have:=H.out.2.2.2.1;omega)).mono ?_;rw[AX fJ];rintro e w3 ⟨v3,rfl,own3,b3⟩;have FIN:=hIz (show pK w (eD ltT N) (.returned v3) w3 from⟨v3,rfl,bQ own3 (fun q hq=>by have:=(own3.lt q hq).1;have:=HR.out.2.2.size;omega),tHn HR.out.2.2 b3⟩);refine hK _ _ (fun _=>trivial) ?_;clear hK K own3 b3;(try simp only[Act.put,gA,gS,gZ,sA,sZ,sS])
  refine aC rfl ?_;refine aG ?_;go_wp2;go_ret;exact FIN.out
open Go.RowKit
theorem jP(a b:Txt)(h:a.size+b.size≤100000):∀w,(Op.stringOp .add a b).run Tryz.prog w=.ok (.string (a++b)) w:=fun w=>run_string_add_sum w a b (by omega)
theorem aX.txt_at{w:World}{b o:Nat}{N:List Txt}(h:aX w (some ⟨b,o,none⟩) (aE N)){k:Nat}{s:Txt}(hk:N[k]?=some s):w.cell? ⟨b,o+k,none⟩=some (.string s):=by
 obtain⟨b',o',e,x⟩:=h.txt hk;injection e with e;injection e with e1 e2;subst e1;subst e2;exact x
theorem aX.ed_at{w:World}{b o:Nat}{E:List Ed}(h:aX w (some ⟨b,o,none⟩) (aR E)){k:Nat}{x:Ed}(hk:E[k]?=some x):w.cell? ⟨b,o+k*3,none⟩=some (.string x.fr)∧w.cell? ⟨b,o+k*3+1,none⟩=some (.string x.lb)∧w.cell? ⟨b,o+k*3+2,none⟩=some (.string x.to):=by
 obtain⟨b',o',e,x1,x2,x3⟩:=h.ed hk;injection e with e;injection e with e1 e2;subst e1;subst e2;exact⟨x1,x2,x3⟩
open Go.RowKit
theorem sQ(w:World)(B:Option Addr)(d:Nat)(E:List Ed)(h:aX w B (aR E))(hl:E.length*48≤140737488355328) :
  Calls Tryz.prog 96 #[.slice B E.length d] w (pK w (eD ltT (lbs E))):=by
 obtain⟨m,hm⟩:∃m,E.length=m:=⟨_,rfl⟩;rw[hm] at hl ⊢;have H:=aI2 h hm;clear h hm;go_enter Tryz.func96,Tryz.ntmps96;go_wp2_with fail;go_loopw [3,4] (fun v i wr=>∃k:Nat,k≤m∧i=.int .i64 k∧Hid (Below w.heap.size w wr)∧Hid (wr.ownsRow w.heap.size 9 1 v k (aE (lbs (E.take k))))) (fun _ i _=>m-(intOf i).toNat)
 case atStart=>exact⟨0,Nat.zero_le _,rfl,hIz bR,hIz (by simpa[lbs,aE] using World.ownsRow_nil w w.heap.size 9 1)⟩
 case round =>
  obtain⟨k,hk,rfl,hbw,how⟩:=hrel;by_cases hlt:k<m
  ·have hltI:(k:Int)<(m:Int):=by omega
   have hkw:IntKind.i64.wrap ((k:Int)+1)=(k:Int)+1:=IntWalk.i64_in _ (by omega);obtain⟨⟨s0,s1,s2⟩,hx⟩:∃x,E[k]?=some x:=⟨E[k]'(by rw[H.out.2];exact hlt),gEz _⟩;obtain⟨ab,ao,rfl,x0,x1,x2⟩:=(H.out.1.below hbw.out).ed hx;dsimp only at x0 x1 x2
   have hlk:(lbs (E.take k)).length=k:=by rw[jC,List.length_take,H.out.2];omega
   obtain⟨v6,w6,happ,own6,b6⟩:=gD wr w.heap.size _ (lbs (E.take k)) (by rw[hlk];exact how.out) s1 (by rw[hlk];omega) hbw.out.size;have hst:=xR hx;dsimp only at hst
   have hlk1:(lbs (E.take (k+1))).length=k+1:=by rw[hst,List.length_append,hlk,List.length_singleton]
   rw[← hst,hlk1] at own6;have HN:=aI2 (hbw.out.trans (b6.1.below (fun k _ e=>b6.2 k e) hbw.out.size)) own6;clear own6 b6 hst hlk hlk1 hx;go_wp2_with (at_builtin;refine wpList_append_run rfl _ _ _ rfl rfl rfl happ ?_);go_roundw
   case rel=>exact⟨k+1,by omega,by go_num,hIz HN.out.1,hIz HN.out.2⟩
   case measure=>simp[intOf];omega
  ·obtain rfl:k=m:=by omega
   obtain⟨A5,c5,rfl,hc5,r5⟩:=mE how.out;rw[List.take_of_length_le (by rw[H.out.2];exact Nat.le_refl _)] at r5;have hcon:=vI k wr A5 c5 (lbs E) (by rw[jC,H.out.2];exact Nat.le_refl _) r5 (by rw[jC,H.out.2];exact hc5) (by rw[jC,H.out.2];omega);rw[jC,H.out.2] at hcon;have HC:=hIz hcon;have HB:=hIz hbw.out;clear hcon r5 hc5 how hbw;go_wp2_with fail;refine HC.out.mono ?_;intro e w9 hN;have hN':=hN.base HB.out;obtain⟨v,rfl,-⟩:=hN;have FIN:=hIz hN';clear hN';go_wp2;go_ret;exact FIN.out

theorem QF{E:List Ed}(s:Txt):inB s (eD ltT (E.flatMap iS))=inB s (dV E E.length):=by
 rw[Bool.eq_iff_iff,bC,bC,(bM fJ _).mem,List.mem_flatMap,lQ];constructor
 ·rintro⟨x,hx,h⟩;obtain⟨i,hi,e⟩:=List.getElem_of_mem hx;refine⟨i,x,hi,by rw[gEz hi,e],?_⟩;simpa[iS] using h
 ·rintro⟨i,x,_,hx,h⟩;exact⟨x,mG hx,by simpa[iS] using h⟩
theorem pH(E:List Ed):(E.flatMap iS).length=E.length*2:=dL iS 2 (fun _=>rfl) E
theorem xB(w:World)(A:Option Addr)(c:Nat)(B:Option Addr)(d:Nat)(N:List Txt)(E:List Ed)(h:lN w A c B d N E) :
  Calls Tryz.prog 134 #[cP A N.length c B E.length d] w (pK w (cB N E)):=by
 have k0:=Blk.new w 28 #[.slice A N.length c,.slice B E.length d];have u0:Below w.heap.size w (w.alloc (.cells #[.slice A N.length c,.slice B E.length d] 28)):=bR.alloc (Nat.le_refl _) _;have hn47:N.length*16≤140737488355328:=h.fit.n;have hm47:E.length*48≤140737488355328:=h.fit.e;have H:=aI3 (h.below u0) k0 u0;clear h k0 u0;obtain⟨n,hn⟩:∃n,N.length=n:=⟨_,rfl⟩;obtain⟨m,hm⟩:∃n,E.length=n:=⟨_,rfl⟩;rw[hn,hm] at H;rw[hn] at hn47;rw[hm] at hm47;rw[hn,hm];have HL:=aI2 hn hm;clear hn hm;unfold cP;go_enter Tryz.func134,Tryz.ntmps134;go_upto_region 1 with (fail);generalize w.alloc (.cells #[.slice A n c,.slice B m d] 28)=W0 at H ⊢;have UP:=hIz (show ∀W,Below W0.heap.size W0 W→Blk W w.heap.size 28 #[.slice A n c,.slice B m d]∧lN W A c B d N E∧Below w.heap.size w W from fun W hb=>⟨H.out.2.1.upd (upF hb) id,H.out.1.below hb,tHn H.out.2.2 hb⟩);go_wp2_with fail;go_loopw [3,4] (fun v i wr=>∃k:Nat,k≤m∧i=.int .i64 k∧Hid (Below W0.heap.size W0 wr)∧Hid (wr.ownsRow W0.heap.size 9 1 v ((E.take k).flatMap iS).length (aE ((E.take k).flatMap iS)))) (fun _ i _=>m-(intOf i).toNat)
 case atStart=>exact⟨0,Nat.zero_le _,rfl,hIz bR,hIz (World.ownsRow_nil _ _ _ _)⟩
 case round =>
  obtain⟨k,hk,rfl,hbw,how⟩:=hrel;have q1:wr.cell? ⟨w.heap.size,1,none⟩=some (.slice B m d):=(UP.out _ hbw.out).1.cell 1;by_cases hlt:k<m
  ·have hltI:(k:Int)<(m:Int):=by omega
   have hkw:IntKind.i64.wrap ((k:Int)+1)=(k:Int)+1:=IntWalk.i64_in _ (by omega);obtain⟨⟨s0,s1,s2⟩,hx⟩:∃x,E[k]?=some x:=⟨E[k]'(by rw[HL.out.2];exact hlt),gEz _⟩;obtain⟨ab,ao,rfl,x0,x1,x2⟩:=(UP.out _ hbw.out).2.1.re.ed hx;dsimp only at x0 x1 x2
   have hlk:=pH (E.take k);rw[List.length_take,HL.out.2,Nat.min_eq_left (by omega)] at hlk;obtain⟨v6,w6,happ,own6,b6⟩:=xU wr.drew W0.heap.size _ ((E.take k).flatMap iS) how.out s0 s2 (by omega) hbw.out.size;have hst:(E.take (k+1)).flatMap iS=(E.take k).flatMap iS++[s0,s2]:=by rw[dB hx,List.flatMap_append];rfl
   rw[← hst] at own6;have b06:=hbw.out.drew.trans b6;have HN:=aI2 b06 own6;have SR:=hIz (show ∀W,Below W0.heap.size W0 W→W.cell? ⟨w.heap.size,1,none⟩=some (.slice (some ⟨ab,ao,none⟩) m d)∧W.cell? ⟨ab,ao+k*3,none⟩=some (.string s0)∧W.cell? ⟨ab,ao+k*3+2,none⟩=some (.string s2) from fun W hb=>by
    obtain⟨y0,y1,y2⟩:=(UP.out _ hb).2.1.re.ed_at hx;exact⟨(UP.out _ hb).1.cell 1,y0,y2⟩)
   have hS:=SR.out _ hbw.out.drew;have HBW:=hIz hbw.out;clear own6 b6 b06 hst hlk hx;go_upto_region 5 with (fail);refine aF (fun W=>W.cell? ⟨w.heap.size,1,none⟩=some (.slice (some ⟨ab,ao,none⟩) m d)∧W.cell? ⟨ab,ao+k*3,none⟩=some (.string s0)∧W.cell? ⟨ab,ao+k*3+2,none⟩=some (.string s2)) 16 [(0,true),(1,true),(2,true),(3,true),(4,true),(5,true),(6,true),(7,true),(8,true),(9,true),(10,true),(11,true),(12,true),(13,false),(14,false),(15,true)] hS ?_
   iterate 13 refine aC rfl ?_
   refine aM rfl rfl (fun K hK=>?_);go_simp;refine hK _ _ (fun _=>SR.out _ (HBW.out.drew.alloc HBW.out.size _)) ?_;clear hK K;(try simp only[Act.put,gA,gS,gZ,sA,sZ,sS])
   refine aM rfl rfl (fun K hK=>?_);refine bX _ _ _ rfl rfl rfl happ ?_;refine hK _ _ (fun _=>SR.out _ HN.out.1) ?_;clear hK K happ;(try simp only[Act.put,gA,gS,gZ,sA,sZ,sS])
   refine aC rfl ?_;refine aG ?_;clear hS q1 x0 x1 x2;go_wp2;go_roundw
   case rel=>exact⟨k+1,by omega,by go_num,hIz HN.out.1,hIz HN.out.2⟩
   case measure=>simp[intOf];omega
  ·obtain rfl:k=m:=by omega
   obtain⟨W2,hW2⟩:∃W,W=wr:=⟨_,rfl⟩;subst hW2;obtain⟨L,hL⟩:∃L,(E.take k).flatMap iS=L:=⟨_,rfl⟩;have ho:=how.out;rw[hL] at ho;rw[List.take_of_length_le (by rw[HL.out.2];exact Nat.le_refl _)] at hL;have hLl:L.length=k*2:=by rw[← hL,pH,HL.out.2]
   obtain⟨l2,hl2⟩:∃l,L.length=l:=⟨_,rfl⟩;rw[hl2] at ho;obtain⟨A5,c5,rfl,hc5,r5⟩:=mE ho;have hcon:=vI l2 W2 A5 c5 L (by omega) r5 (by omega) (by omega);rw[hl2] at hcon;have HC:=aI2 hcon hL;have HB:=hIz hbw.out;have HL3:=hIz (show l2=k*2 by omega);clear hcon r5 hc5 how hbw ho hL hlt hLl hl2;go_wp2_with fail;refine HC.out.1.mono ?_;rintro e W3 ⟨v3,rfl,own3,b3⟩;obtain⟨P,hP⟩:∃P,eD ltT L=P:=⟨_,rfl⟩;rw[hP] at own3;obtain⟨p,hp⟩:∃p,P.length=p:=⟨_,rfl⟩;rw[hp] at own3;obtain⟨A6,c6,rfl,hc6,r6⟩:=mE own3;have hup:cT ltT P:=by rw[← hP];exact(bM fJ L).up
   have hin:∀s,inB s P=inB s (dV E E.length):=fun s=>by rw[← hP,← HC.out.2];exact QF s
   have hpl:p≤l2:=by
    have h1:=pF fJ L;rw[hP,hp] at h1;have h2:L.length=k*2:=by rw[← HC.out.2,pH,HL.out.2]
    have h3:=HL3.out;omega
   have HAM:=hIz (show ∀(W:World) (s:Txt),Below W3.heap.size W3 W→Calls Tryz.prog 95 #[.slice A6 p c6,.string s] W (gB W (.bool (inB s (dV E E.length)))) from fun W s hb=>by
    have:=vH W A6 c6 P s (r6.below hb) hup (by rw[hp];have:=HL3.out;omega);rw[hin,hp] at this;exact this)
   have HB3:=hIz (tHn HB.out b3);have hz3:W0.heap.size≤W3.heap.size:=HB3.out.size;clear own3 b3 r6 hc6 hup hin hP hp HC;go_wp2_with fail;clear q1;go_loopw [5,6,7] (fun v i _ wr=>∃q:Nat,q≤n∧i=.int .i64 q∧Hid (Below W3.heap.size W3 wr)∧Hid (wr.ownsRow W3.heap.size 9 1 v (dW N E q).length (aE (dW N E q)))) (fun _ i _ _=>n-(intOf i).toNat)
   case atStart=>exact⟨0,Nat.zero_le _,rfl,hIz bR,hIz (World.ownsRow_nil _ _ _ _)⟩
   case round =>
    obtain⟨q,hq,rfl,hbw,how⟩:=hrel;have b0:=HB3.out.trans (hbw.out.mono hz3);have q0:wr.cell? ⟨w.heap.size,0,none⟩=some (.slice A n c):=(UP.out _ b0).1.cell 0;by_cases hlt:q<n
    ·have hltI:(q:Int)<(n:Int):=by omega
     have hkw:IntKind.i64.wrap ((q:Int)+1)=(q:Int)+1:=IntWalk.i64_in _ (by omega);obtain⟨x,hx⟩:∃x,N[q]?=some x:=⟨N[q]'(by rw[HL.out.1];exact hlt),gEz _⟩;obtain⟨ab,ao,rfl,x0⟩:=(UP.out _ b0).2.1.rn.txt hx;have hle:=tI N E q;cases hb:inB x (dV E E.length) with
     | true =>
      have hst:=nL hx hb;have ham:=HAM.out wr x hbw.out;rw[hb] at ham;have HN:=hIz (show wr.ownsRow W3.heap.size 9 1 _ (dW N E (q+1)).length (aE (dW N E (q+1))) by rw[hst];exact how.out);have HM:=hIz ham;clear ham hst hb hx b0;go_wp2_with fail;refine HM.out.mono ?_;rintro e w' ⟨rfl,hw⟩;subst w';go_wp2;go_roundw
      case rel=>exact⟨q+1,by omega,by go_num,hbw,HN⟩
      case measure=>simp[intOf];omega
     | false =>
      have hst:=pW hx hb;have ham:=HAM.out wr x hbw.out;rw[hb] at ham;obtain⟨v6,w6,happ,own6,b6⟩:=gD wr W3.heap.size _ (dW N E q) how.out x (by omega) hbw.out.size;rw[← hst] at own6;have HN:=aI2 (hbw.out.trans (b6.1.below (fun k _ e=>b6.2 k e) hbw.out.size)) own6;have HM:=hIz ham;clear ham hst hb hx b0 own6 b6;go_wp2_with fail;refine HM.out.mono ?_;rintro e w' ⟨rfl,hw⟩;subst w';go_wp2_with (at_builtin;refine wpList_append_run rfl _ _ _ rfl rfl rfl happ ?_);go_roundw
      case rel=>exact⟨q+1,by omega,by go_num,hIz HN.out.1,hIz HN.out.2⟩
      case measure=>simp[intOf];omega
    ·obtain rfl:q=n:=by omega
     obtain⟨A9,c9,rfl,-,-⟩:=aK how.out;have ho:=how.out;have e1:dW N E q=cB N E:=by rw[← HL.out.1];exact pX N E
     rw[e1] at ho;have bw:=(UP.out _ b0).2.2;have FIN:=hIz (show pK w (cB N E) (.returned (.slice A9 (cB N E).length c9)) wr from⟨_,by rfl,by rw[e1] at *;exact bQ ho (fun q hq=>by have:=(ho.lt q hq).1;have:=H.out.2.2.size;omega),bw⟩);rw[e1];clear ho e1 bw b0 how;go_wp2;go_ret;exact FIN.out

theorem xC(w:World)(A:Option Addr)(c:Nat)(B:Option Addr)(d:Nat)(N:List Txt)(E:List Ed)(h:lN w A c B d N E)(hs:kE N E)(hN:N.length≤32)(hE:E.length≤256) :
  Calls Tryz.prog 97 #[cP A N.length c B E.length d] w (Sam w (.string ⟨(mQ N E).toArray⟩)):=by
 have k0:=Blk.new w 28 #[.slice A N.length c,.slice B E.length d];have u0:Below w.heap.size w (w.alloc (.cells #[.slice A N.length c,.slice B E.length d] 28)):=bR.alloc (Nat.le_refl _) _;have hlo:=fun (W:World) (h:lN W A c B d N E)=>xB W A c B d N E h
 have H:=aI4 (h.below u0) k0 u0 hs;clear h k0 u0 hs;obtain⟨n,hn⟩:∃n,N.length=n:=⟨_,rfl⟩;obtain⟨m,hm⟩:∃n,E.length=n:=⟨_,rfl⟩;rw[hn,hm] at hlo;rw[hn,hm] at H;rw[hn] at hN;rw[hm] at hE;rw[hn,hm];have HL:=aI2 hn hm;have HLO:=hIz hlo;clear hn hm hlo;unfold cP at HLO ⊢;go_enter Tryz.func97,Tryz.ntmps97;go_upto_region 1 with (fail);generalize w.alloc (.cells #[.slice A n c,.slice B m d] 28)=W0 at H ⊢;have UP:=hIz (show ∀W,Below W0.heap.size W0 W→Blk W w.heap.size 28 #[.slice A n c,.slice B m d]∧lN W A c B d N E∧Below w.heap.size w W from fun W hb=>⟨H.out.2.1.upd (upF hb) id,H.out.1.below hb,tHn H.out.2.2.1 hb⟩);have q0:W0.cell? ⟨w.heap.size,0,none⟩=some (.slice A n c):=H.out.2.1.cell 0;have q1:W0.cell? ⟨w.heap.size,1,none⟩=some (.slice B m d):=H.out.2.1.cell 1;go_wp2_with fail;refine(HLO.out W0 H.out.1).mono ?_;rintro e W1 ⟨v,rfl,own1,b1⟩;obtain⟨l,hl⟩:∃l,(cB N E).length=l:=⟨_,rfl⟩;rw[hl] at own1;obtain⟨A1,c1,rfl,hc1,r1⟩:=mE own1;have hl32:l≤32:=by have:=tK N E;have:=HL.out.1;omega
 have H1:=aI3 r1 b1 hl;clear own1 r1 hl q0 q1 hc1 b1;go_wp2_with fail;go_loopw [3,5] (fun s i wr=>∃(k:Nat) (T:Txt),k≤l∧i=.int .i64 k∧s=.string T∧wr=W1∧Hid (T.data.toList=((cB N E).take k).flatMap eC)) (fun _ i _=>l-(intOf i).toNat)
 case atStart=>exact⟨0,⟨#[]⟩,Nat.zero_le _,rfl,rfl,rfl,hIz rfl⟩
 case round =>
  obtain⟨k,T,hk,rfl,rfl,hwr,hT⟩:=hrel;subst wr;have hTs:T.size≤32*19:=by
   have h1:=kL (f:=eC) (c:=19) (l:=(cB N E).take k) (fun x hx=>mW (H.out.2.2.2.n x (gI (List.mem_of_mem_take hx))));rw[← hT.out,tJ] at h1;have h3:((cB N E).take k).length≤k:=by rw[List.length_take];omega
   have:=Nat.mul_le_mul_right 19 h3;omega
  by_cases hlt:k<l
  ·have hltI:(k:Int)<(l:Int):=by omega
   have hkw:IntKind.i64.wrap ((k:Int)+1)=(k:Int)+1:=IntWalk.i64_in _ (by omega);obtain⟨x,hx⟩:∃x,(cB N E)[k]?=some x:=⟨(cB N E)[k]'(by rw[H1.out.2.2];exact hlt),gEz _⟩;obtain⟨ab,ao,rfl,x0⟩:=H1.out.1.txt hx;have hx16:x.size≤16:=H.out.2.2.2.n x (gI (mG hx));have a1:=jP T x (by omega);obtain⟨T1,hT1⟩:∃t,T++x=t:=⟨_,rfl⟩;rw[hT1] at a1;have hs1:T1.size≤32*19+16:=by rw[← hT1,dM];omega
   have a2:=jP T1 ⟨#[32,59,10]⟩ (by show T1.size+3≤100000;omega);obtain⟨T2,hT2⟩:∃t,T1++⟨#[32,59,10]⟩=t:=⟨_,rfl⟩;rw[hT2] at a2;have HT2:=hIz (show T2.data.toList=((cB N E).take (k+1)).flatMap eC by
    rw[dB hx,← hT2,← hT1,cQ,cQ,hT.out,List.flatMap_append,List.append_assoc];congr 1
    simp[eC,MO])
   clear hs1 hT1 hT2 hx hx16 hTs;go_wp2;go_roundw
   case rel=>exact⟨k+1,T2,by omega,by go_num,rfl,by first | rfl | trivial,HT2⟩
   case measure=>simp[intOf];omega
  ·obtain rfl:k=l:=by omega
   obtain⟨S1,hS1⟩:∃S,S=T:=⟨_,rfl⟩;subst hS1;have hT2:=hT.out;rw[List.take_of_length_le (by rw[H1.out.2.2];exact Nat.le_refl _)] at hT2;have HT:=hIz hT2;have q1:W1.cell? ⟨w.heap.size,1,none⟩=some (.slice B m d):=(UP.out _ H1.out.2.1).1.cell 1;have hz1:W0.heap.size≤W1.heap.size:=H1.out.2.1.size;clear hT hT2 hlt;go_wp2_with fail;clear q1;go_loopw [3,6] (fun s i wr=>∃(j:Nat) (T:Txt),j≤m∧i=.int .i64 j∧s=.string T∧Hid (Below W1.heap.size W1 wr)∧Hid (T.data.toList=(cB N E).flatMap eC++(E.take j).flatMap iH)) (fun _ i _=>m-(intOf i).toNat)
   case atStart=>exact⟨0,S1,Nat.zero_le _,rfl,rfl,hIz bR,hIz (by simpa using HT.out)⟩
   case round =>
    obtain⟨j,T,hj,rfl,rfl,hbw,hT⟩:=hrel;have b0:=H1.out.2.1.trans (hbw.out.mono hz1);have q1:wr.cell? ⟨w.heap.size,1,none⟩=some (.slice B m d):=(UP.out _ b0).1.cell 1;by_cases hlt:j<m
    ·have hltI:(j:Int)<(m:Int):=by omega
     have hkw:IntKind.i64.wrap ((j:Int)+1)=(j:Int)+1:=IntWalk.i64_in _ (by omega);have hT17:T.size≤32*19+256*53:=by
      have h1:=kL (f:=eC) (c:=19) (l:=cB N E) (fun x hx=>mW (H.out.2.2.2.n x (gI hx)));have h2:=kL (f:=iH) (c:=53) (l:=E.take j) (fun x hx=>xQ (H.out.2.2.2.e x (List.mem_of_mem_take hx)));have h3:(E.take j).length*53≤256*53:=Nat.mul_le_mul_right _ (by rw[List.length_take];omega);have h4:=congrArg List.length hT.out;rw[tJ,List.length_append] at h4;have h5:=H1.out.2.2;have h6:(cB N E).length*19≤32*19:=Nat.mul_le_mul_right _ (by omega);omega
     obtain⟨⟨s0,s1,s2⟩,hx⟩:∃x,E[j]?=some x:=⟨E[j]'(by rw[HL.out.2];exact hlt),gEz _⟩;obtain⟨ab,ao,rfl,x0,x1,x2⟩:=(UP.out _ b0).2.1.re.ed hx;dsimp only at x0 x1 x2
     have hx16:=H.out.2.2.2.e _ (mG hx);dsimp only at hx16
     have a1:=jP T s0 (by omega);obtain⟨T1,hT1⟩:∃t,T++s0=t:=⟨_,rfl⟩;rw[hT1] at a1;have hs1':T1.size≤32*19+256*53+16:=by rw[← hT1,dM];omega
     have a2:=jP T1 ⟨#[32]⟩ (by show T1.size+1≤100000;omega);obtain⟨T2,hT2⟩:∃t,T1++⟨#[32]⟩=t:=⟨_,rfl⟩;rw[hT2] at a2;have hs2':T2.size≤32*19+256*53+17:=by rw[← hT2,dM];show T1.size+1≤_;omega
     have a3:=jP T2 s1 (by omega);obtain⟨T3,hT3⟩:∃t,T2++s1=t:=⟨_,rfl⟩;rw[hT3] at a3;have hs3':T3.size≤32*19+256*53+33:=by rw[← hT3,dM];omega
     have a4:=jP T3 ⟨#[32]⟩ (by show T3.size+1≤100000;omega);obtain⟨T4,hT4⟩:∃t,T3++⟨#[32]⟩=t:=⟨_,rfl⟩;rw[hT4] at a4;have hs4':T4.size≤32*19+256*53+34:=by rw[← hT4,dM];show T3.size+1≤_;omega
     have a5:=jP T4 s2 (by omega);obtain⟨T5,hT5⟩:∃t,T4++s2=t:=⟨_,rfl⟩;rw[hT5] at a5;have hs5':T5.size≤32*19+256*53+50:=by rw[← hT5,dM];omega
     have a6:=jP T5 ⟨#[32,59,10]⟩ (by show T5.size+3≤100000;omega);obtain⟨T6,hT6⟩:∃t,T5++⟨#[32,59,10]⟩=t:=⟨_,rfl⟩;rw[hT6] at a6;have HT6:=hIz (show T6.data.toList=(cB N E).flatMap eC++(E.take (j+1)).flatMap iH by
      rw[dB hx,← hT6,← hT5,← hT4,← hT3,← hT2,← hT1,cQ,cQ,cQ,cQ,cQ,cQ,hT.out,List.flatMap_append];simp[iH,MO])
     clear hs1' hs2' hs3' hs4' hs5' hT17 hx16 hT1 hT2 hT3 hT4 hT5 hT6;have kx:=Blk.new wr 88 #[.string s0,.string s1,.string s2];have bx:Below W1.heap.size W1 (wr.alloc (.cells #[.string s0,.string s1,.string s2] 88)):=hbw.out.alloc hbw.out.size _;have HX:=aI2 kx bx;clear kx bx hx b0;go_upto_region 11 with (fail);generalize wr.alloc (.cells #[.string s0,.string s1,.string s2] 88)=W5 at HX ⊢;clear x0 x1 x2 q1;have x0:W5.cell? ⟨wr.heap.size,0,none⟩=some (.string s0):=HX.out.1.cell 0;have x1:W5.cell? ⟨wr.heap.size,1,none⟩=some (.string s1):=HX.out.1.cell 1;have x2:W5.cell? ⟨wr.heap.size,2,none⟩=some (.string s2):=HX.out.1.cell 2;go_wp2;go_roundw
     case rel=>exact⟨j+1,T6,by omega,by go_num,rfl,hIz HX.out.2,HT6⟩
     case measure=>simp[intOf];omega
    ·obtain rfl:j=m:=by omega
     have ht:=hT.out;rw[List.take_of_length_le (by rw[HL.out.2];exact Nat.le_refl _)] at ht;have e:(⟨(mQ N E).toArray⟩:Txt)=T:=nK (by rw[ht];rfl);have FIN:=aI2 e (UP.out _ b0).2.2;clear ht e b0 hT;go_wp2;go_ret;exact⟨by rw[FIN.out.1];rfl,FIN.out.2⟩
open Go.RowKit
theorem vJ(w:World)(A:Option Addr)(c:Nat)(B:Option Addr)(d:Nat)(N:List Txt)(E:List Ed)(h:lN w A c B d N E) :
  Calls Tryz.prog 61 #[.slice A N.length c,.slice B E.length d] w (Sam w (.bool (bT N E))):=by
 have hn:N.length≤140737488355328:=by have:=h.fit.n;omega
 have hd:E.length≤140737488355328:=by have:=h.fit.e;omega
 have HA:=aI2 h.fit.tn h.fit.te;have H:=aI3 h h (Below.refl w.heap.size w);clear h;obtain⟨W0,hW0⟩:∃W,W=w:=⟨_,rfl⟩;subst hW0;go_enter Tryz.func61,Tryz.ntmps61;go_wp2_with fail;go_loop [5] (fun i=>∃k:Nat,k≤N.length∧i=.int .i64 k∧Hid (∀j,j<k→∀x,N[j]?=some x→dE x=true)) (fun i=>N.length-(intOf i).toNat)
 case atStart=>exact⟨0,Nat.zero_le _,rfl,hIz (fun j hj=>by omega)⟩
 case round =>
  obtain⟨k,hk,rfl,hall⟩:=hrel;by_cases hlt:k<N.length
  ·have hltI:(k:Int)<(N.length:Int):=by omega
   have hkw:IntKind.i64.wrap ((k:Int)+1)=(k:Int)+1:=IntWalk.i64_in _ (by omega);obtain⟨x,hx⟩:∃x,N[k]?=some x:=⟨N[k],gEz _⟩;obtain⟨ab,ao,rfl,x0⟩:=H.out.1.rn.txt hx;have hcon:=fun w=>fZ x w (HA.out.1 x (mG hx))
   obtain⟨b,hb⟩:∃b,dE x=b:=⟨_,rfl⟩;rw[hb] at hcon;have HX:=aI2 hx hb;clear hx hb;cases b
   ·go_wp2_with fail;refine(hcon _).mono ?_;rintro e w' ⟨rfl,rfl⟩;go_wp2;go_ret;refine⟨iG ?_,H.out.2.2⟩;rw[bT,aW HX.out.1 HX.out.2,Bool.false_and]
   ·go_wp2_with fail;refine(hcon _).mono ?_;rintro e w' ⟨rfl,rfl⟩;go_wp2;go_round
    case rel=>exact⟨k+1,by omega,by go_num,hIz (fun j hj y hy=>by
     rcases Nat.lt_succ_iff_lt_or_eq.1 hj with h|rfl
     ·exact hall.out j h y hy
     ·rw[HX.out.1] at hy;injection hy with hy;rw[← hy];exact HX.out.2)⟩
    case measure=>simp[intOf];omega
  ·obtain rfl:k=N.length:=by omega
   have hN:N.all dE=true:=eS (fun j x hx=>hall.out j (gO.1 hx).1 x hx);have HN:=hIz hN;clear hN hall hk hlt;go_wp2_with fail;go_loopw [7] (fun i wr=>∃k:Nat,k≤E.length∧i=.int .i64 k∧Hid (Below W0.heap.size W0 wr)∧Hid (∀j,j<k→∀x,E[j]?=some x→dQ x=true)) (fun i _=>E.length-(intOf i).toNat)
   case atStart=>exact⟨0,Nat.zero_le _,rfl,hIz bR,hIz (fun j hj=>by omega)⟩
   case round =>
    obtain⟨k,hk,rfl,hb,hall⟩:=hrel;by_cases hlt:k<E.length
    ·have hltI:(k:Int)<(E.length:Int):=by omega
     have hkw:IntKind.i64.wrap ((k:Int)+1)=(k:Int)+1:=IntWalk.i64_in _ (by omega);obtain⟨⟨s0,s1,s2⟩,hx⟩:∃x,E[k]?=some x:=⟨E[k],gEz _⟩;obtain⟨ab,ao,rfl,x0,x1,x2⟩:=(H.out.1.below hb.out).re.ed hx;dsimp only at x0 x1 x2
     have hok:=HA.out.2 _ (mG hx);have c0:=fun w=>fZ s0 w hok.1
     have c1:=fun w=>mP s1 w hok.2.1
     have c2:=fun w=>fZ s2 w hok.2.2
     obtain⟨v0,e0⟩:∃b,dE s0=b:=⟨_,rfl⟩;obtain⟨v1,e1⟩:∃b,fS s1=b:=⟨_,rfl⟩;obtain⟨v2,e2⟩:∃b,dE s2=b:=⟨_,rfl⟩;rw[e0] at c0;rw[e1] at c1;rw[e2] at c2;have hv:dQ ⟨s0,s1,s2⟩=(v0&&(v1&&v2)):=by rw[dQ,e0,e1,e2]
     have kx:=Blk.new wr 88 #[.string s0,.string s1,.string s2];have bx:Below wr.heap.size wr (wr.alloc (.cells #[.string s0,.string s1,.string s2] 88)):=bR.alloc (Nat.le_refl _) _;have HX:=aI4 hx hv kx (tHn hb.out bx);clear hx hok e0 e1 e2 hv kx bx;go_upto_region 11 with (fail);generalize wr.alloc (.cells #[.string s0,.string s1,.string s2] 88)=W1 at HX ⊢;clear x0 x1 x2;have x0:W1.cell? ⟨wr.heap.size,0,none⟩=some (.string s0):=HX.out.2.2.1.cell 0;have x1:W1.cell? ⟨wr.heap.size,1,none⟩=some (.string s1):=HX.out.2.2.1.cell 1;have x2:W1.cell? ⟨wr.heap.size,2,none⟩=some (.string s2):=HX.out.2.2.1.cell 2;go_wp2_with fail;refine(c0 _).mono ?_;rintro e w' ⟨rfl,rfl⟩;cases v0
     ·go_wp2;go_ret;refine⟨iG ?_,tHn H.out.2.2 HX.out.2.2.2⟩;rw[bT,aW (p:=dQ) HX.out.1 HX.out.2.1,Bool.and_false]
     ·go_wp2_with fail;refine(c1 _).mono ?_;rintro e w' ⟨rfl,rfl⟩;cases v1
      ·go_wp2;go_ret;refine⟨iG ?_,tHn H.out.2.2 HX.out.2.2.2⟩;rw[bT,aW (p:=dQ) HX.out.1 HX.out.2.1,Bool.and_false]
      ·go_wp2_with fail;refine(c2 _).mono ?_;rintro e w' ⟨rfl,rfl⟩;cases v2
       ·go_wp2;go_ret;refine⟨iG ?_,tHn H.out.2.2 HX.out.2.2.2⟩;rw[bT,aW (p:=dQ) HX.out.1 HX.out.2.1,Bool.and_false]
       ·go_wp2;go_roundw
        case rel=>exact⟨k+1,by omega,by go_num,hIz HX.out.2.2.2,hIz (fun j hj y hy=>by
         rcases Nat.lt_succ_iff_lt_or_eq.1 hj with h|rfl
         ·exact hall.out j h y hy
         ·rw[HX.out.1] at hy;injection hy with hy;rw[← hy];exact HX.out.2.1)⟩
        case measure=>simp[intOf];omega
    ·obtain rfl:k=E.length:=by omega
     go_wp2;go_ret;refine⟨iG ?_,tHn H.out.2.2 hb.out⟩;rw[bT,HN.out,Bool.true_and];exact(eS (fun j x hx=>hall.out j (gO.1 hx).1 x hx)).symm


theorem xD(w:World)(A:Option Addr)(c:Nat)(B:Option Addr)(d:Nat)(N:List Txt)(E:List Ed)(h:lN w A c B d N E) :
  Calls Tryz.prog 60 #[cP A N.length c B E.length d] w (Sam w (.bool (fV N E))):=by
 have k0:=Blk.new w 28 #[.slice A N.length c,.slice B E.length d];have u0:Below w.heap.size w (w.alloc (.cells #[.slice A N.length c,.slice B E.length d] 28)):=bR.alloc (Nat.le_refl _) _;have hn:N.length*16≤140737488355328:=h.fit.n;have hd:E.length≤140737488355328:=by have:=h.fit.e;omega
 have H:=aI3 (h.below u0) k0 u0;clear h k0 u0;obtain⟨n,hn1⟩:∃n,N.length=n:=⟨_,rfl⟩;obtain⟨m,hm1⟩:∃n,E.length=n:=⟨_,rfl⟩;rw[hn1,hm1] at H;rw[hn1] at hn;rw[hm1] at hd;rw[hn1,hm1];have HL:=aI2 hn1 hm1;clear hn1 hm1;unfold cP;go_enter Tryz.func60,Tryz.ntmps60;go_upto_region 1 with (fail);generalize w.alloc (.cells #[.slice A n c,.slice B m d] 28)=W0 at H ⊢;have q0:W0.cell? ⟨w.heap.size,0,none⟩=some (.slice A n c):=H.out.2.1.cell 0;go_wp2_with fail;go_loopw [3] (fun i wr=>∃k:Nat,1≤k∧(k≤n∨k=1)∧i=.int .i64 k∧Hid (Below W0.heap.size W0 wr)∧Hid (∀j,j+1<k→∀a b,N[j]?=some a→N[j+1]?=some b→ltT a b=true)) (fun i _=>n-(intOf i).toNat)
 case atStart=>exact⟨1,Nat.le_refl _,.inr rfl,rfl,hIz bR,hIz (fun j hj=>by omega)⟩
 case round =>
  obtain⟨k,hk1,hk,rfl,hbw,hall⟩:=hrel;have q0:wr.cell? ⟨w.heap.size,0,none⟩=some (.slice A n c):=(H.out.2.1.upd (upF hbw.out) id).cell 0;by_cases hlt:k<n
  ·have hltI:(k:Int)<(n:Int):=by omega
   have hkw:IntKind.i64.wrap ((k:Int)+1)=(k:Int)+1:=IntWalk.i64_in _ (by omega);obtain⟨k',rfl⟩:∃k',k=k'+1:=⟨k-1,by omega⟩;have hkm:IntKind.i64.wrap (k':Int)=(k':Int):=IntWalk.i64_in _ (by omega);have h0k:(0:Int)≤(k':Int)+1:=by omega
   obtain⟨x,hx⟩:∃x,N[k']?=some x:=⟨N[k']'(by rw[HL.out.1];omega),gEz _⟩;obtain⟨y,hy⟩:∃y,N[k'+1]?=some y:=⟨N[k'+1]'(by rw[HL.out.1];omega),gEz _⟩;have h0:=H.out.1.rn.below hbw.out;obtain⟨ab,ao,rfl,x0⟩:=h0.txt hx;have y0:=h0.txt_at hy;have HXY:=aI2 hx hy;have hk2:(k':Int)<(n:Int):=by omega
   clear h0 hx hy;have S:∀w',Below wr.heap.size wr w'→w'.cell? ⟨w.heap.size,0,none⟩=some (.slice (some ⟨ab,ao,none⟩) n c)∧w'.cell? ⟨ab,ao+k',none⟩=some (.string x)∧w'.cell? ⟨ab,ao+(k'+1),none⟩=some (.string y):=fun w' hb=>⟨(hb.cell (World.block_lt_of_cell? _ _ q0)).trans q0,(hb.cell (World.block_lt_of_cell? _ _ x0)).trans x0,(hb.cell (World.block_lt_of_cell? _ _ y0)).trans y0⟩
   have hS:=S wr.drew bR.drew;clear S;cases hl:ltT x y with
   | true =>
    have hl2:Op.bytesLess (ByteArray.toList x) (ByteArray.toList y)=true:=hl;have HLT:=hIz hl;clear hl;go_upto_region 4 with (fail);refine aF (fun w'=>w'.cell? ⟨w.heap.size,0,none⟩=some (.slice (some ⟨ab,ao,none⟩) n c)∧w'.cell? ⟨ab,ao+k',none⟩=some (.string x)∧w'.cell? ⟨ab,ao+(k'+1),none⟩=some (.string y)) 12 [(0,true),(1,true),(2,true),(3,true),(4,true),(5,true),(6,true),(7,true),(8,true),(9,true),(10,true),(11,true)] hS ?_
    iterate 12 refine aC rfl ?_
    refine aG ?_;go_wp2;go_roundw
    case rel=>exact⟨k'+1+1,by omega,.inl (by omega),by go_num,hIz hbw.out.drew,hIz (fun j hj a b ha hb=>by
     rcases Nat.lt_succ_iff_lt_or_eq.1 (Nat.lt_of_succ_lt_succ hj) with h|rfl
     ·exact hall.out j (by omega) a b ha hb
     ·rw[HXY.out.1] at ha;rw[HXY.out.2] at hb;injection ha with ha;injection hb with hb;rw[← ha,← hb];exact HLT.out)⟩
    case measure=>simp[intOf];omega
   | false =>
    have hl2:Op.bytesLess (ByteArray.toList x) (ByteArray.toList y)=false:=hl;have HLT:=hIz hl;clear hl;go_upto_region 4 with (fail);refine aF (fun w'=>w'.cell? ⟨w.heap.size,0,none⟩=some (.slice (some ⟨ab,ao,none⟩) n c)∧w'.cell? ⟨ab,ao+k',none⟩=some (.string x)∧w'.cell? ⟨ab,ao+(k'+1),none⟩=some (.string y)) 12 [(0,true),(1,true),(2,true),(3,true),(4,true),(5,true),(6,true),(7,true),(8,true),(9,true),(10,true),(11,true)] hS ?_
    iterate 12 refine aC rfl ?_
    refine aG ?_;go_wp2;go_ret;refine⟨iG ?_,tHn H.out.2.2 hbw.out.drew⟩;rw[fV,jT HXY.out.1 HXY.out.2 HLT.out,Bool.false_and]
  ·have hup:upB ltT N=true:=(iZ N).2 (fun i a b ha hb=>hall.out i (by have:=(gO.1 hb).1;have:=HL.out.1;omega) a b ha hb);have hltI:¬((k:Int)<(n:Int)):=by omega
   obtain⟨W2,hW2⟩:∃W,W=wr:=⟨_,rfl⟩;subst hW2;have HUP:=aI3 hup (eR fJ hup) hbw.out;clear hup hall hlt;have q1:W2.cell? ⟨w.heap.size,1,none⟩=some (.slice B m d):=(H.out.2.1.upd (upF hbw.out) id).cell 1;go_wp2_with fail;clear q0 q1 hltI;go_loopw [4] (fun i wr=>∃k:Nat,k≤m∧i=.int .i64 k∧Hid (Below W0.heap.size W0 wr)∧Hid (∀j,j<k→∀a,E[j]?=some a→fK N a=true∧∀b,0<j→E[j-1]?=some b→ltE b a=true)) (fun i _=>m-(intOf i).toNat)
   case atStart=>exact⟨0,Nat.zero_le _,rfl,hIz HUP.out.2.2,hIz (fun j hj=>by omega)⟩
   case round =>
    obtain⟨k,hk,rfl,hb,hall⟩:=hrel;have K:=H.out.2.1.upd (upF hb.out) id;have q0:wr.cell? ⟨w.heap.size,0,none⟩=some (.slice A n c):=K.cell 0;have q1:wr.cell? ⟨w.heap.size,1,none⟩=some (.slice B m d):=K.cell 1;clear K;by_cases hlt:k<m
    ·have hltI:(k:Int)<(m:Int):=by omega
     have hkw:IntKind.i64.wrap ((k:Int)+1)=(k:Int)+1:=IntWalk.i64_in _ (by omega);obtain⟨⟨y1,y2,y3⟩,hy⟩:∃x,E[k]?=some x:=⟨E[k]'(by rw[HL.out.2];exact hlt),gEz _⟩;have h0:=H.out.1.re.below hb.out;obtain⟨ab,ao,rfl,b0,b1,b2⟩:=h0.ed hy;dsimp only at b0 b1 b2
     have HY:=hIz hy;have HAM:=hIz (show ∀(W:World) (s:Txt),Below W0.heap.size W0 W→Calls Tryz.prog 95 #[.slice A n c,.string s] W (gB W (.bool (inB s N))) from fun W s hb=>by
      have:=vH W A c N s (H.out.1.rn.below hb) HUP.out.2.1 (by rw[HL.out.1];exact hn);rwa [HL.out.1] at this)
     have hend:fK N ⟨y1,y2,y3⟩=(inB y1 N&&inB y3 N):=rfl;obtain⟨e1,he1⟩:∃b,inB y1 N=b:=⟨_,rfl⟩;obtain⟨e2,he2⟩:∃b,inB y3 N=b:=⟨_,rfl⟩;rw[he1,he2] at hend;have HE:=aI3 he1 he2 hend;have SR:=hIz (show ∀W,Below wr.heap.size wr W→W.cell? ⟨w.heap.size,0,none⟩=some (.slice A n c)∧W.cell? ⟨w.heap.size,1,none⟩=some (.slice (some ⟨ab,ao,none⟩) m d)∧W.cell? ⟨ab,ao+k*3,none⟩=some (.string y1)∧W.cell? ⟨ab,ao+k*3+1,none⟩=some (.string y2)∧W.cell? ⟨ab,ao+k*3+2,none⟩=some (.string y3) from fun W h=>by
      have g:∀{p:Addr} {u:Value},wr.cell? p=some u→W.cell? p=some u:=fun {p u} h2=>(h.cell (World.block_lt_of_cell? wr _ h2)).trans h2
      exact⟨g q0,g q1,g b0,g b1,g b2⟩)
     clear hend he1 he2 hy h0;by_cases hk0:k=0
     ·subst hk0;have hz:¬((0:Int)<((0:Nat):Int)):=by omega
      have hS:=SR.out wr.drew bR.drew;go_upto_region 9 with (fail);refine aF (fun w'=>w'.cell? ⟨w.heap.size,0,none⟩=some (.slice A n c)∧w'.cell? ⟨w.heap.size,1,none⟩=some (.slice (some ⟨ab,ao,none⟩) m d)∧w'.cell? ⟨ab,ao,none⟩=some (.string y1)∧w'.cell? ⟨ab,ao+1,none⟩=some (.string y2)∧w'.cell? ⟨ab,ao+2,none⟩=some (.string y3)) 17 [(0,true),(1,true),(2,true),(3,true),(4,true),(5,true),(6,true),(7,true),(8,true),(9,true),(10,true),(11,true),(12,true),(13,true),(14,false),(15,true),(16,true)] hS ?_
      iterate 3 refine aC rfl ?_
      iterate 11 (refine eX rfl (by kernel_rfl) ?_;(try simp only[Act.put,gA,gS,gZ,sA,sZ,sS]))
      (refine sX rfl (by kernel_rfl) (by first | assumption | trivial | exact UP.out _ H5.out) ?_;(try simp only[Act.put,gA,gS,gZ,sA,sZ,sS]))
      (refine eX rfl (by kernel_rfl) ?_;(try simp only[Act.put,gA,gS,gZ,sA,sZ,sS]))
      refine aC rfl ?_;refine aG ?_;obtain⟨W5,hW5⟩:∃W,W=wr.drew:=⟨_,rfl⟩;have HB5:=hIz (show Below wr.heap.size wr W5 by rw[hW5];exact bR.drew);rw[← hW5] at hS ⊢;clear hW5 hS q0 q1 b0 b1 b2;have hk00:∀b,0<(0:Nat)→E[0-1]?=some b→ltE b ⟨y1,y2,y3⟩=true:=fun b h=>by omega
      have HLT:=hIz hk00;clear hk00 hz;have hbw5:=tHn hb.out HB5.out;have HB6:=hIz hbw5;have hS:=SR.out W5.drew HB5.out.drew;clear hbw5;go_upto_region 11 with (fail);refine aF (fun w'=>w'.cell? ⟨w.heap.size,0,none⟩=some (.slice A n c)∧w'.cell? ⟨w.heap.size,1,none⟩=some (.slice (some ⟨ab,ao,none⟩) m d)∧w'.cell? ⟨ab,ao,none⟩=some (.string y1)∧w'.cell? ⟨ab,ao+1,none⟩=some (.string y2)∧w'.cell? ⟨ab,ao+2,none⟩=some (.string y3)) 20 [(0,true),(1,true),(2,true),(3,true),(4,true),(5,true),(6,true),(7,true),(9,true),(10,true),(11,true),(12,true),(13,true),(14,true),(15,true),(16,true),(8,false),(17,false),(18,true),(19,true)] hS ?_
      iterate 16 refine aC rfl ?_
      refine aM rfl rfl (fun K hK=>?_);go_simp;refine(HAM.out W5.drew y1 HB6.out.drew).mono ?_;rintro e w' ⟨rfl,hw⟩;subst w';rw[HE.out.1];refine hK _ _ (fun _=>hS) ?_;clear hK K;(try simp only[Act.put,gA,gS,gZ,sA,sZ,sS])
      refine aM rfl rfl (fun K hK=>?_);go_simp;refine(HAM.out W5.drew y3 HB6.out.drew).mono ?_;rintro e w' ⟨rfl,hw⟩;subst w';rw[HE.out.2.1];refine hK _ _ (fun _=>hS) ?_;clear hK K;(try simp only[Act.put,gA,gS,gZ,sA,sZ,sS])
      refine aC rfl ?_;refine aC rfl ?_;refine aG ?_;clear hS;have HB7:=hIz HB6.out.drew;cases e1 with
      | false =>
       go_wp2;go_ret;refine⟨iG ?_,tHn H.out.2.2 HB7.out⟩;rw[fV,aW (p:=fK N) HY.out HE.out.2.2,Bool.and_false,Bool.and_false]
      | true =>
       cases e2 with
       | false =>
        go_wp2;go_ret;refine⟨iG ?_,tHn H.out.2.2 HB7.out⟩;rw[fV,aW (p:=fK N) HY.out HE.out.2.2,Bool.and_false,Bool.and_false]
       | true =>
        go_wp2;go_roundw
        case rel=>exact⟨0+1,by omega,by go_num,HB7,hIz (fun j hj a ha=>by
         rcases Nat.lt_succ_iff_lt_or_eq.1 hj with h|rfl
         ·exact hall.out j h a ha
         ·rw[HY.out] at ha;injection ha with ha;rw[← ha];exact⟨HE.out.2.2,HLT.out⟩)⟩
        case measure=>simp[intOf];omega
     ·obtain⟨k',rfl⟩:∃k',k=k'+1:=⟨k-1,by omega⟩;have hz:(0:Int)<((k'+1:Nat):Int):=by omega
      have hkm:IntKind.i64.wrap (k':Int)=(k':Int):=IntWalk.i64_in _ (by omega);have h0k:(0:Int)≤(k':Int)+1:=by omega
      have hk2:(k':Int)<(m:Int):=by omega
      obtain⟨⟨x1,x2,x3⟩,hx⟩:∃x,E[k']?=some x:=⟨E[k']'(by rw[HL.out.2];omega),gEz _⟩;obtain⟨a0,a1,a2⟩:=(H.out.1.re.below hb.out).ed_at hx;dsimp only at a0 a1 a2
      have hbf:=fun W=>AW ⟨x1,x2,x3⟩ ⟨y1,y2,y3⟩ W
      obtain⟨v,hv⟩:∃b,ltE ⟨x1,x2,x3⟩ ⟨y1,y2,y3⟩=b:=⟨_,rfl⟩;rw[hv] at hbf;unfold Ed.agg at hbf;dsimp only at hbf
      have HV:=aI2 hx hv;have HBF:=hIz hbf;have SX:=hIz (show ∀W,Below wr.heap.size wr W→(fun w'=>w'.cell? ⟨w.heap.size,1,none⟩=some (.slice (some ⟨ab,ao,none⟩) m d)∧w'.cell? ⟨ab,ao+(k'+1)*3,none⟩=some (.string y1)∧w'.cell? ⟨ab,ao+(k'+1)*3+1,none⟩=some (.string y2)∧w'.cell? ⟨ab,ao+(k'+1)*3+2,none⟩=some (.string y3)∧w'.cell? ⟨ab,ao+k'*3,none⟩=some (.string x1)∧w'.cell? ⟨ab,ao+k'*3+1,none⟩=some (.string x2)∧w'.cell? ⟨ab,ao+k'*3+2,none⟩=some (.string x3)) W from fun W h=>by
       have g:∀{p:Addr} {u:Value},wr.cell? p=some u→W.cell? p=some u:=fun {p u} h2=>(h.cell (World.block_lt_of_cell? wr _ h2)).trans h2
       exact⟨g q1,g b0,g b1,g b2,g a0,g a1,g a2⟩)
      have hS:=SX.out wr.drew bR.drew;clear hx hv hk0 hbf;go_upto_region 9 with (fail);refine aF (fun w'=>w'.cell? ⟨w.heap.size,1,none⟩=some (.slice (some ⟨ab,ao,none⟩) m d)∧w'.cell? ⟨ab,ao+(k'+1)*3,none⟩=some (.string y1)∧w'.cell? ⟨ab,ao+(k'+1)*3+1,none⟩=some (.string y2)∧w'.cell? ⟨ab,ao+(k'+1)*3+2,none⟩=some (.string y3)∧w'.cell? ⟨ab,ao+k'*3,none⟩=some (.string x1)∧w'.cell? ⟨ab,ao+k'*3+1,none⟩=some (.string x2)∧w'.cell? ⟨ab,ao+k'*3+2,none⟩=some (.string x3)) 17 [(0,true),(1,true),(2,true),(3,true),(4,true),(5,true),(6,true),(7,true),(8,true),(9,true),(10,true),(11,true),(12,true),(13,true),(14,false),(15,true),(16,true)] hS ?_
      iterate 14 refine aC rfl ?_
      (refine BL rfl (by first | with_reducible rfl | kernel_rfl) (fun K hK=>?_);go_simp)
      refine(HBF.out wr.drew).mono ?_;rintro e W5 ⟨rfl,b5⟩;have HB5:=hIz (show Below wr.heap.size wr W5 from(Below.refl wr.heap.size wr).drew.trans b5);refine hK _ _ (fun _=>SX.out _ HB5.out) ?_;clear hK K hS q0 q1 b0 b1 b2 a0 a1 a2 b5;(try simp only[Act.put,gA,gS,gZ,sA,sZ,sS])
      cases v with
      | false =>
       refine aC rfl ?_;refine aC rfl ?_;refine aG ?_;go_wp2;go_ret;refine⟨iG ?_,H.out.2.2.trans ((tHn hb.out HB5.out).mono H.out.2.2.size)⟩;rw[fV,jT HV.out.1 HY.out HV.out.2,Bool.false_and,Bool.and_false]
      | true =>
       refine aC rfl ?_;refine aC rfl ?_;refine aG ?_;have HLT:=hIz (show ∀b,0<k'+1→E[k'+1-1]?=some b→ltE b ⟨y1,y2,y3⟩=true from fun b _ h=>by
        rw[Nat.add_sub_cancel,HV.out.1] at h;injection h with h;rw[← h];exact HV.out.2)
       clear hz hkm hk2;have hbw5:=tHn hb.out HB5.out;have HB6:=hIz hbw5;have hS:=SR.out W5.drew HB5.out.drew;clear hbw5;go_upto_region 11 with (fail);refine aF (fun w'=>w'.cell? ⟨w.heap.size,0,none⟩=some (.slice A n c)∧w'.cell? ⟨w.heap.size,1,none⟩=some (.slice (some ⟨ab,ao,none⟩) m d)∧w'.cell? ⟨ab,ao+(k'+1)*3,none⟩=some (.string y1)∧w'.cell? ⟨ab,ao+(k'+1)*3+1,none⟩=some (.string y2)∧w'.cell? ⟨ab,ao+(k'+1)*3+2,none⟩=some (.string y3)) 20 [(0,true),(1,true),(2,true),(3,true),(4,true),(5,true),(6,true),(7,true),(9,true),(10,true),(11,true),(12,true),(13,true),(14,true),(15,true),(16,true),(8,false),(17,false),(18,true),(19,true)] hS ?_
       iterate 16 refine aC rfl ?_
       refine aM rfl rfl (fun K hK=>?_);go_simp;refine(HAM.out W5.drew y1 HB6.out.drew).mono ?_;rintro e w' ⟨rfl,hw⟩;subst w';rw[HE.out.1];refine hK _ _ (fun _=>hS) ?_;clear hK K;(try simp only[Act.put,gA,gS,gZ,sA,sZ,sS])
       refine aM rfl rfl (fun K hK=>?_);go_simp;refine(HAM.out W5.drew y3 HB6.out.drew).mono ?_;rintro e w' ⟨rfl,hw⟩;subst w';rw[HE.out.2.1];refine hK _ _ (fun _=>hS) ?_;clear hK K;(try simp only[Act.put,gA,gS,gZ,sA,sZ,sS])
       refine aC rfl ?_;refine aC rfl ?_;refine aG ?_;clear hS;have HB7:=hIz HB6.out.drew;cases e1 with
       | false =>
        go_wp2;go_ret;refine⟨iG ?_,tHn H.out.2.2 HB7.out⟩;rw[fV,aW (p:=fK N) HY.out HE.out.2.2,Bool.and_false,Bool.and_false]
       | true =>
        cases e2 with
        | false =>
         go_wp2;go_ret;refine⟨iG ?_,tHn H.out.2.2 HB7.out⟩;rw[fV,aW (p:=fK N) HY.out HE.out.2.2,Bool.and_false,Bool.and_false]
        | true =>
         go_wp2;go_roundw
         case rel=>exact⟨(k'+1)+1,by omega,by go_num,HB7,hIz (fun j hj a ha=>by
          rcases Nat.lt_succ_iff_lt_or_eq.1 hj with h|rfl
          ·exact hall.out j h a ha
          ·rw[HY.out] at ha;injection ha with ha;rw[← ha];exact⟨HE.out.2.2,HLT.out⟩)⟩
         case measure=>simp[intOf];omega
    ·obtain rfl:k=m:=by omega
     have hue:upB ltE E=true:=(iZ E).2 (fun i a b ha hb'=>by
      have h1:=(gO.1 hb').1;exact(hall.out (i+1) (by have:=HL.out.2;omega) b hb').2 a (by omega) (by rw[Nat.add_sub_cancel];exact ha))
     have hal:E.all (fK N)=true:=eS (fun j x hx=>(hall.out j (by have:=(gO.1 hx).1;have:=HL.out.2;omega) x hx).1);have HF:=hIz (show fV N E=true by rw[fV,HUP.out.1,hue,hal];rfl);clear hue hal hall;go_wp2;go_ret;exact⟨iG HF.out.symm,tHn H.out.2.2 hb.out⟩
open Go.RowKit
theorem xE(w:World)(A:Option Addr)(c:Nat)(B:Option Addr)(d:Nat)(N:List Txt)(E:List Ed)(h:lN w A c B d N E)(hs:kE N E) :
  Calls Tryz.prog 62 #[cP A N.length c B E.length d] w (Sam w (.int .i64 (cG N E))):=by
 have k0:=Blk.new w 28 #[.slice A N.length c,.slice B E.length d];have u0:Below w.heap.size w (w.alloc (.cells #[.slice A N.length c,.slice B E.length d] 28)):=bR.alloc (Nat.le_refl _) _;have H:=aI4 (h.below u0) k0 u0 hs;clear h k0 u0 hs;unfold cP;go_enter Tryz.func62,Tryz.ntmps62;go_upto_region 1 with (fail);generalize w.alloc (.cells #[.slice A N.length c,.slice B E.length d] 28)=W0 at H ⊢;have q0:W0.cell? ⟨w.heap.size,0,none⟩=some (.slice A N.length c):=H.out.2.1.cell 0;have q1:W0.cell? ⟨w.heap.size,1,none⟩=some (.slice B E.length d):=H.out.2.1.cell 1;by_cases h1:32<N.length
 ·have h1I:(32:Int)<(N.length:Int):=by omega
  have HX:=hIz (show(260:Int)=cG N E by rw[cG,if_pos h1]);clear h1;go_wp2;go_ret;exact⟨vP HX.out,H.out.2.2.1⟩
 have h1I:¬(32:Int)<(N.length:Int):=by omega
 go_wp2_with fail;refine(sQ W0 B d E H.out.1.re H.out.1.fit.e).mono ?_;rintro e w1 ⟨v,rfl,own1,b1⟩;obtain⟨M,hM⟩:∃M,eD ltT (lbs E)=M:=⟨_,rfl⟩;rw[hM] at own1;obtain⟨A1,c1,rfl,-,-⟩:=aK own1;have eM:=hM.symm;have hlen:=True.intro;have k1:=H.out.2.1.upd (upF b1) id;have H1:=aI3 (H.out.1.below b1) k1 (tHn H.out.2.2.1 b1);have hME:M.length=(eD ltT (lbs E)).length:=by rw[← eM]
 clear own1 b1 q0 q1 k1 hM eM;have q0:w1.cell? ⟨w.heap.size,0,none⟩=some (.slice A N.length c):=H1.out.2.1.cell 0;have q1:w1.cell? ⟨w.heap.size,1,none⟩=some (.slice B E.length d):=H1.out.2.1.cell 1;obtain⟨k,hk⟩:∃k,M.length=k:=⟨_,rfl⟩;rw[hk] at hME ⊢;have HM:=hIz hME;by_cases h2:16<k
 ·have h2I:(16:Int)<(k:Int):=by omega
  have HX:=hIz (show(261:Int)=cG N E by rw[cG,if_neg h1,if_pos (by rw[← HM.out];exact h2)]);clear h2 h1 hk hME hlen;go_wp2;go_ret;exact⟨vP HX.out,H1.out.2.2⟩
 have h2I:¬(16:Int)<(k:Int):=by omega
 by_cases h3:256<E.length
 ·have h3I:(256:Int)<(E.length:Int):=by omega
  have HX:=hIz (show(262:Int)=cG N E by rw[cG,if_neg h1,if_neg (by rw[← HM.out];exact h2),if_pos h3]);clear h2 h1 h3 hk hME hlen;go_wp2;go_ret;exact⟨vP HX.out,H1.out.2.2⟩
 have h3I:¬(256:Int)<(E.length:Int):=by omega
 have HH:=aI3 h1 h2 h3;clear h1 h2 h3 hk hME hlen;go_wp2_with fail;refine(xC w1 A c B d N E H1.out.1 H.out.2.2.2 (by have:=HH.out.1;omega) (by have:=HH.out.2.2;omega)).mono ?_;rintro e w2 ⟨rfl,b2⟩;have HB:=hIz (tHn H1.out.2.2 b2);clear b2 q0 q1;obtain⟨t,ht⟩:∃t:Txt,(⟨(mQ N E).toArray⟩:Txt)=t:=⟨_,rfl⟩;have hts:t.size=(mQ N E).length:=by rw[← ht];simp[ByteArray.size]
 rw[ht];by_cases h4:2048<t.size
 ·have h4I:(2048:Int)<(t.size:Int):=by omega
  have HX:=hIz (show(174:Int)=cG N E by rw[cG,if_neg HH.out.1,if_neg (by rw[← HM.out];exact HH.out.2.1),if_neg HH.out.2.2,if_pos (by omega)]);clear h4 ht hts;go_wp2;go_ret;exact⟨vP HX.out,HB.out⟩
 ·have h4I:¬(2048:Int)<(t.size:Int):=by omega
  have HX:=hIz (show(0:Int)=cG N E by rw[cG,if_neg HH.out.1,if_neg (by rw[← HM.out];exact HH.out.2.1),if_neg HH.out.2.2,if_neg (by omega)]);clear h4 ht hts;go_wp2;go_ret;exact⟨vP HX.out,HB.out⟩

theorem vK(w:World)(A:Option Addr)(c:Nat)(B:Option Addr)(d:Nat)(N:List Txt)(E:List Ed)(h:lN w A c B d N E) :
  Calls Tryz.prog 30 #[cP A N.length c B E.length d] w (Sam w (.int .i64 (cK N E))):=by
 have k0:=Blk.new w 28 #[.slice A N.length c,.slice B E.length d];have u0:Below w.heap.size w (w.alloc (.cells #[.slice A N.length c,.slice B E.length d] 28)):=bR.alloc (Nat.le_refl _) _;have H:=aI3 (h.below u0) k0 u0;clear h k0 u0;obtain⟨b0,hb0⟩:∃b,fV N E=b:=⟨_,rfl⟩;obtain⟨b1,hb1⟩:∃b,bT N E=b:=⟨_,rfl⟩;have HB:=aI2 hb0 hb1;clear hb0 hb1;unfold cP;go_enter Tryz.func30,Tryz.ntmps30;go_upto_region 1 with (fail);generalize w.alloc (.cells #[.slice A N.length c,.slice B E.length d] 28)=W0 at H ⊢;have q0:W0.cell? ⟨w.heap.size,0,none⟩=some (.slice A N.length c):=H.out.2.1.cell 0;have q1:W0.cell? ⟨w.heap.size,1,none⟩=some (.slice B E.length d):=H.out.2.1.cell 1;go_wp2_with fail;refine(xD W0 A c B d N E H.out.1).mono ?_;rintro e w1 ⟨rfl,u1⟩;rw[HB.out.1];have k1:=H.out.2.1.upd (upF u1) id;have H1:=aI3 (H.out.1.below u1) k1 (tHn H.out.2.2 u1);clear u1 q0 q1 k1;have q0:w1.cell? ⟨w.heap.size,0,none⟩=some (.slice A N.length c):=H1.out.2.1.cell 0;have q1:w1.cell? ⟨w.heap.size,1,none⟩=some (.slice B E.length d):=H1.out.2.1.cell 1;cases b0
 ·go_wp2;go_ret;exact⟨vP (by rw[cK,if_pos HB.out.1]),H1.out.2.2⟩
 go_wp2_with fail;refine(vJ w1 A c B d N E H1.out.1).mono ?_;rintro e w2 ⟨rfl,u2⟩;rw[HB.out.2];have k2:=H1.out.2.1.upd (upF u2) id;have H2:=aI3 (H1.out.1.below u2) k2 (tHn H1.out.2.2 u2);clear u2 q0 q1 k2;have q0:w2.cell? ⟨w.heap.size,0,none⟩=some (.slice A N.length c):=H2.out.2.1.cell 0;have q1:w2.cell? ⟨w.heap.size,1,none⟩=some (.slice B E.length d):=H2.out.2.1.cell 1;cases b1
 ·go_wp2;go_ret;exact⟨vP (by rw[cK,if_neg (by rw[HB.out.1];simp),if_pos HB.out.2]),H2.out.2.2⟩
 go_wp2_with fail;refine(xE w2 A c B d N E H2.out.1 (kE.of HB.out.2)).mono ?_;rintro e w3 ⟨rfl,u3⟩;have FIN:=hIz (tHn H2.out.2.2 u3);have HE:=hIz (show cG N E=cK N E by rw[cK,if_neg (by rw[HB.out.1];simp),if_neg (by rw[HB.out.2];simp)]);clear u3 q0 q1;go_wp2;go_ret;exact⟨vP HE.out,FIN.out⟩
open Go.RowKit Go.Shelf
theorem LY{N:List Txt}{E:List Ed}(h:cK N E=0):GOk ⟨N,E⟩:=by
 have hf:=nB (jX h).1;exact⟨hf.1.nodup fJ,hf.2.1.nodup sR,hf.2.2,(OP h (fun _=>Iff.rfl) (fun _=>Iff.rfl)).1⟩
def TD(w:World)(nts:Int)(PV:List Pv)(labels:List Txt)(N:List Txt)(E:List Ed)(e:Ending)(w':World):Prop:=
 ((cK N E≠0∨eW nts PV labels≠0)∧e=.returned (.tuple #[.pointer none,.bool false,.bool true])∧Below w.heap.size w w') ∨
 (cK N E=0∧eW nts PV labels=0∧∃(z:Nat) (F:Nat→Prop) (B:eG) (K:List Ln),e=.returned (.tuple #[.pointer (some ⟨z,0,none⟩),.bool true,.bool true])∧FLS w' F z N.length nts.toNat B K∧(∀k,F k→w.heap.size≤k)∧Below w.heap.size w w' ∧
  (∀k,k<nts.toNat→∀i j,dX (B k) i j=true↔qK (PV.map (·.pr)) (ElG ⟨N,E⟩ labels) N.length (k:Int) i j)∧(∀k,WdO (B k))∧TB (PV.map (·.pr)) (ElG ⟨N,E⟩ labels) N.length nts.toNat K∧K.Pairwise ltN)
def BK(nts:Int)(PA:Option Addr)(m pc:Nat)(LA:Option Addr)(l cl:Nat)(A:Option Addr)(n c:Nat)(B:Option Addr)(e d:Nat)(f0 f1 f2:Int):Array Value:=
 #[.int .i64 nts,.slice PA m pc,.slice LA l cl,.slice A n c,.slice B e d,.int .i64 f0,.int .i64 f1,.int .i64 f2]
structure LZ(w:World)(PA:Option Addr)(PV:List Pv)(LA:Option Addr)(labels:List Txt)(A:Option Addr)(c:Nat)(B:Option Addr)(d:Nat)(N:List Txt)(E:List Ed):Prop where
 pv:PvR w PA PV
 lab:aX w LA (aE labels)
 ed:lN w A c B d N E
 tab:qF w
 tlt:1<w.heap.size
 pl:PV.length≤1000000000000000
 bl:∀v∈PV,v.pr.body.length≤1000000000000000
 ll:labels.length≤1000000000000000
 lt:∀s∈labels,fH s
theorem LZ.below{w w':World}{PA:Option Addr}{PV:List Pv}{LA:Option Addr}{labels:List Txt}{A:Option Addr}{c:Nat}{B:Option Addr}{d:Nat}{N:List Txt}{E:List Ed}(h:LZ w PA PV LA labels A c B d N E)(hb:Below w.heap.size w w'):LZ w' PA PV LA labels A c B d N E:=
 ⟨h.pv.below hb,h.lab.below3 hb,h.ed.below hb,h.tab.upd (upF hb) h.tlt id,Nat.lt_of_lt_of_le h.tlt hb.size,h.pl,h.bl,h.ll,h.lt⟩
theorem vL(w:World)(nts:Int)(PA:Option Addr)(pc:Nat)(PV:List Pv)(LA:Option Addr)(cl:Nat)(labels:List Txt)(A:Option Addr)(c:Nat)(B:Option Addr)(d:Nat)(N:List Txt)(E:List Ed)(h:LZ w PA PV LA labels A c B d N E)(f0 f1 f2:Int) :
  Calls Tryz.prog 8 #[.agg (BK nts PA PV.length pc LA labels.length cl A N.length c B E.length d f0 f1 f2)] w (TD w nts PV labels N E):=by
 have b1:Below w.heap.size w (w.alloc (.cells (BK nts PA PV.length pc LA labels.length cl A N.length c B E.length d f0 f1 f2) 32)):=bR.alloc (Nat.le_refl _) _;have k1:=Blk.new w 32 (BK nts PA PV.length pc LA labels.length cl A N.length c B E.length d f0 f1 f2);obtain⟨m,hm⟩:∃m,PV.length=m:=⟨_,rfl⟩;obtain⟨l,hl⟩:∃l,labels.length=l:=⟨_,rfl⟩;obtain⟨n,hn⟩:∃n,N.length=n:=⟨_,rfl⟩;obtain⟨ne,hne⟩:∃n,E.length=n:=⟨_,rfl⟩;have HR:=hIz (show ∀X,Below w.heap.size w X→LZ X PA PV LA labels A c B d N E from fun X hX=>h.below hX);have hof:=EF _ A c B d N E (h.ed.below b1);have HM:=aI4 hm hl hn hne;rw[hm,hl,hn,hne] at b1 k1 ⊢;rw[hn,hne] at hof;rw[hm,hl] at hof;have HB:=hIz b1;have HK:=hIz k1;have c3:(w.alloc (.cells (BK nts PA m pc LA l cl A n c B ne d f0 f1 f2) 32)).cell? ⟨w.heap.size,3,none⟩=some (.slice A n c):=k1.cell 3;have c4:(w.alloc (.cells (BK nts PA m pc LA l cl A n c B ne d f0 f1 f2) 32)).cell? ⟨w.heap.size,4,none⟩=some (.slice B ne d):=k1.cell 4;clear b1 k1 hm hl hn hne h;unfold BK at hof HB HK c3 c4 ⊢;unfold cP at hof;go_enter Tryz.func8,Tryz.ntmps8;go_wp2_with fail;refine hof.mono ?_;clear hof c3 c4;generalize w.alloc (.cells #[.int .i64 nts,.slice PA m pc,.slice LA l cl,.slice A n c,.slice B ne d,.int .i64 f0,.int .i64 f1,.int .i64 f2] 32)=W1 at HB HK ⊢;rintro e W2 hg;have hb2:Below W1.heap.size W1 W2:=by
  rcases hg with ⟨-,-,hb⟩|⟨-,p,-,-,hb⟩ <;> exact hb
 have HB2:=hIz (show Below w.heap.size w W2 from tHn HB.out hb2);have hk2:=HK.out.upd (upF hb2) id;obtain⟨s0,hs0⟩:∃s,w.heap.size=s:=⟨_,rfl⟩;have HS:=hIz hs0;obtain⟨ci,hci⟩:∃x,cK N E=x:=⟨_,rfl⟩;have hhead:=fun V=>GB V
 have hchk:=fun V (hV:Below w.heap.size w V)=>vK V A c B d N E (HR.out V hV).ed
 rw[hci,HM.out.2.2.1,HM.out.2.2.2] at hchk;unfold cP at hchk;have HCK:=hIz hchk;have HCI:=hIz hci;have HK2:=hIz (show ∀V,Below W2.heap.size W2 V→Blk V s0 32 #[.int .i64 nts,.slice PA m pc,.slice LA l cl,.slice A n c,.slice B ne d,.int .i64 f0,.int .i64 f1,.int .i64 f2] from fun V hV=>by rw[← hs0];exact hk2.upd (upF hV) id);clear hchk hk2 hb2 HK;have hg':(ci≠0∧e=.returned (.tuple #[.pointer none,.int .i64 ci]))∨(ci=0∧∃pg Fg,e=.returned (.tuple #[.pointer (some ⟨pg,0,none⟩),.int .i64 0])∧GrS W2 Fg pg ⟨N,E⟩):=by
  rcases hg with ⟨h0,rfl,-⟩|⟨h0,p,rfl,⟨Fg,hF,-⟩,-⟩
  ·exact .inl ⟨by rw[← hci];exact h0,by rw[hci]⟩
  ·exact .inr ⟨by rw[← hci];exact h0,p,Fg,rfl,hF⟩
 clear hg hci;have HH:=hIz hhead;clear hhead;rw[hs0];clear hs0;rcases hg' with ⟨h0,rfl⟩|⟨rfl,pg,Fg,rfl,hG⟩
 ·have hci1:(ci==0)=false:=by simpa using h0
  go_wp2_with fail;refine(HH.out W2).mono ?_;rintro e W3 ⟨rfl,hb3⟩;have HB3:=hIz (show Below w.heap.size w W3 from tHn HB2.out hb3);have hk3:=HK2.out W3 hb3;have c3:W3.cell? ⟨s0,3,none⟩=some (.slice A n c):=hk3.cell 3;have c4:W3.cell? ⟨s0,4,none⟩=some (.slice B ne d):=hk3.cell 4;have HB23:=hIz hb3;clear hk3 hb3;go_wp2_with fail;refine(HCK.out W3 HB3.out).mono ?_;clear c3 c4;rintro e W4 ⟨rfl,hb4⟩;have HB4:=hIz (show Below w.heap.size w W4 from tHn HB3.out hb4);have HB24:=hIz (show Below W2.heap.size W2 W4 from tHn HB23.out hb4);have hk4:=HK2.out W4 HB24.out;have c0:W4.cell? ⟨s0,0,none⟩=some (.int .i64 nts):=hk4.cell 0;have c1:W4.cell? ⟨s0,1,none⟩=some (.slice PA m pc):=hk4.cell 1;have c2:W4.cell? ⟨s0,2,none⟩=some (.slice LA l cl):=hk4.cell 2;clear hk4 hb4;have hnew:=zA W4 (.int .i64 nts) (.slice PA m pc) (.slice LA l cl);go_wp2_with fail;refine hnew.mono ?_;clear hnew c0 c1 c2;rintro e W5 ⟨rfl,hb5⟩;have FIN:=hIz (show TD w nts PV labels N E (.returned (.tuple #[.pointer none,.bool false,.bool true])) W5 from .inl ⟨.inl (by rw[HCI.out];exact h0),rfl,tHn HB4.out hb5⟩);clear hb5;go_wp2;refine bodyPost_ret (v:=.tuple #[.pointer none,.bool false,.bool true]) (by simp[results,Tryz.f8,go_sem]) rfl FIN.out
 ·have HG:=hIz hG;clear hG;go_wp2_with fail;refine(HH.out W2).mono ?_;rintro e W3 ⟨rfl,hb3⟩;have HB3:=hIz (show Below w.heap.size w W3 from tHn HB2.out hb3);have hk3:=HK2.out W3 hb3;have c3:W3.cell? ⟨s0,3,none⟩=some (.slice A n c):=hk3.cell 3;have c4:W3.cell? ⟨s0,4,none⟩=some (.slice B ne d):=hk3.cell 4;have HB23:=hIz hb3;clear hk3 hb3;go_wp2_with fail;refine(HCK.out W3 HB3.out).mono ?_;clear c3 c4;rintro e W4 ⟨rfl,hb4⟩;have HB4:=hIz (show Below w.heap.size w W4 from tHn HB3.out hb4);have HB24:=hIz (show Below W2.heap.size W2 W4 from tHn HB23.out hb4);have hk4:=HK2.out W4 HB24.out;have c0:W4.cell? ⟨s0,0,none⟩=some (.int .i64 nts):=hk4.cell 0;have c1:W4.cell? ⟨s0,1,none⟩=some (.slice PA m pc):=hk4.cell 1;have c2:W4.cell? ⟨s0,2,none⟩=some (.slice LA l cl):=hk4.cell 2;clear hk4 hb4;have hA4:=HR.out W4 HB4.out;have hnew:=yY W4 nts PA pc PV hA4.pv LA cl labels hA4.lab Fg pg ⟨N,E⟩ (HG.out.below HB24.out) (LY HCI.out) hA4.tab hA4.tlt;rw[HM.out.1,HM.out.2.1] at hnew;have hck:=fun V (hV:Below w.heap.size w V)=>GE V nts PA pc PV (HR.out V hV).pv (HR.out V hV).pl (HR.out V hV).bl LA cl labels (HR.out V hV).lab (HR.out V hV).ll
  rw[HM.out.1,HM.out.2.1] at hck;obtain⟨z,hz⟩:∃z,eW nts PV labels=z:=⟨_,rfl⟩;rw[hz] at hck;have HC2:=aI2 hck hz;clear hA4 hck;go_wp2_with fail;refine hnew.mono ?_;clear hnew c0 c1 c2;rintro e W5 hq;have hb5:Below W4.heap.size W4 W5:=by
   rcases hq with ⟨-,-,hb⟩|⟨-,_,_,_,_,-,-,-,hb,-⟩ <;> exact hb
  have HB5:=hIz (show Below w.heap.size w W5 from tHn HB4.out hb5);have hk5:=HK2.out W5 (tHn HB24.out hb5);have c0:W5.cell? ⟨s0,0,none⟩=some (.int .i64 nts):=hk5.cell 0;have c1:W5.cell? ⟨s0,1,none⟩=some (.slice PA m pc):=hk5.cell 1;have c2:W5.cell? ⟨s0,2,none⟩=some (.slice LA l cl):=hk5.cell 2;clear hk5 hb5;rcases hq with ⟨h2,rfl,-⟩|⟨h2,zl,F,Bm,K,rfl,hF,hfr,-,hbits,hwd,hls,hpw⟩
  ·rw[hz] at h2;subst h2;go_wp2_with fail;refine(HC2.out.1 W5 HB5.out).mono ?_;clear c0 c1 c2;rintro e W6 ⟨rfl,hb6⟩;have FIN:=hIz (show TD w nts PV labels N E (.returned (.tuple #[.pointer none,.bool false,.bool true])) W6 from .inl ⟨.inr (by rw[hz];decide),rfl,tHn HB5.out hb6⟩);clear hb6 hz;go_wp2;refine bodyPost_ret (v:=.tuple #[.pointer none,.bool false,.bool true]) (by simp[results,Tryz.f8,go_sem]) rfl FIN.out
  ·rw[hz] at h2;subst h2;have HF:=aI6 hF hfr hbits hwd hls hpw;have HZZ:=hIz hz;clear hF hfr hbits hwd hls hpw hz;go_wp2_with fail;refine(HC2.out.1 W5 HB5.out).mono ?_;clear c0 c1 c2;rintro e W6 ⟨rfl,hb6⟩;have FIN:=hIz (show TD w nts PV labels N E (.returned (.tuple #[.pointer (some ⟨zl,0,none⟩),.bool true,.bool true])) W6 from .inr ⟨HCI.out,HZZ.out,zl,F,Bm,K,rfl,HF.out.1.below hb6,fun k hk=>Nat.le_trans HB4.out.size (HF.out.2.1 k hk),tHn HB5.out hb6,HF.out.2.2⟩);clear hb6;go_wp2;refine bodyPost_ret (v:=.tuple #[.pointer (some ⟨zl,0,none⟩),.bool true,.bool true]) (by simp[results,Tryz.f8,go_sem]) rfl FIN.out
open Go.RowKit Go.Shelf
section
variable {P:List Pr} {El El':Int→Nat→Nat→Prop} {n:Nat}
def GH(P:List Pr)(El:Int→Nat→Nat→Prop)(n:Nat)(f:Fc)(v:Int):Prop:=
 (v = -1∧∀m,¬oO P El n (f.1:Int) f.2.1 f.2.2 m)∨(∃m:Nat,mM P El n f m∧m≤64∧v=(m:Int))∨(v=65∧∃m:Nat,mM P El n f m∧64<m)
theorem MA{f:Fc}:∀{m:Nat},oO P El n (f.1:Int) f.2.1 f.2.2 m→∃k,mM P El n f k∧k≤m:=by
 intro m;induction m using Nat.strongRecOn with
 | _ m ih =>
  intro d;by_cases h:∃k,k<m∧oO P El n (f.1:Int) f.2.1 f.2.2 k
  ·obtain⟨k,hk,dk⟩:=h;obtain⟨q,hq,hl⟩:=ih k hk dk;exact⟨q,hq,by omega⟩
  ·refine⟨m,⟨d,fun m' d'=>?_⟩,Nat.le_refl _⟩;rcases Nat.lt_or_ge m' m with e|e
   ·exact absurd ⟨m',e,d'⟩ h
   ·exact e
theorem mM.uniq{f:Fc}{a b:Nat}(h:mM P El n f a)(k:mM P El n f b):a=b:=Nat.le_antisymm (h.2 _ k.1) (k.2 _ h.1)
theorem GH.ge{f:Fc}{x:Int}(h:GH P El n f x):-1≤x∧x≤65:=by
 rcases h with ⟨rfl,-⟩|⟨m,-,hm,rfl⟩|⟨rfl,-⟩ <;> omega
theorem GH.le{f:Fc}{x:Int}{m:Nat}(h:GH P El n f x)(d:oO P El n (f.1:Int) f.2.1 f.2.2 m):0≤x∧x≤(m:Int):=by
 rcases h with ⟨rfl,h⟩|⟨k,h,hk,rfl⟩|⟨rfl,k,h,hk⟩
 ·exact absurd d (h _)
 ·have:=h.2 _ d;omega
 ·have:=h.2 _ d;omega
theorem GH.der{f:Fc}{x:Int}(h:GH P El n f x)(h0:0≤x):∃m:Nat,mM P El n f m∧x=min (m:Int) 65:=by
 rcases h with ⟨rfl,h⟩|⟨k,h,hk,rfl⟩|⟨rfl,k,h,hk⟩
 ·omega
 ·exact⟨k,h,by omega⟩
 ·exact⟨k,h,by omega⟩
theorem GH.more(hE:∀k i j,El k i j→El' k i j){f:Fc}{x y:Int}(h:GH P El n f x)(k:GH P El' n f y)(h0:0≤x):0≤y∧y≤x:=by
 obtain⟨m,hm,e⟩:=h.der h0;have h1:=k.le (hm.1.mono hE);have:=k.ge;omega
theorem MZ{nts:Nat}{B:eG}{K:List Ln}(hb:∀k,k<nts→∀i j,dX (B k) i j=true↔qK P El n (k:Int) i j)(hl:TB P El n nts K){a i j:Nat}(ha:a<nts)(hi:i<n)(hj:j<n):GH P El n (a,i,j) (knV n nts B K (a:Int) (i:Int) (j:Int)):=by
 have hr:inR n nts (a:Int) (i:Int) (j:Int):=⟨by omega,by omega,by omega,by omega,by omega,by omega⟩;unfold knV;have ha2:yZ n nts B (a:Int) (i:Int) (j:Int)=if dX (B a) i j=true then 0 else 350:=by
  unfold yZ;rw[if_pos hr];rfl
 rw[ha2];show GH P El n (a,i,j) (if (if dX (B a) i j=true then (0:Int) else 350)=0 then (match look K (a,i,j) with | some m=>(m:Int) | none=>65) else -1)
 by_cases hbit:dX (B a) i j=true
 ·rw[if_pos hbit,if_pos rfl];obtain⟨m,d⟩:=((hb a ha i j).1 hbit).len;obtain⟨k,hk,-⟩:=MA (f:=(a,i,j)) d;rcases Nat.lt_or_ge 64 k with h|h
  ·refine .inr (.inr ⟨?_,k,hk,h⟩);have:look K (a,i,j)=none:=gW.2 (fun x hx e=>by
    have h1:=(hl.iff x).1 hx;rw[e] at h1;have:=h1.2.2.2.1.uniq hk;omega)
   rw[this]
  ·refine .inr (.inl ⟨k,hk,h,?_⟩);have:look K (a,i,j)=some k:=(jZ hl.nd).2 ((hl.iff ((a,i,j),k)).2 ⟨ha,hi,hj,hk,h⟩);rw[this]
 ·rw[if_neg hbit,if_neg (by decide)];refine .inl ⟨rfl,fun m d=>hbit ((hb a ha i j).2 d.der)⟩
end
theorem vM{G:Gr}{x:Ed}(hf:x.fr∈G.N)(ht:x.to∈G.N):(aU G x).1.N=G.N∧∀y∈G.X,y∈(aU G x).1.X:=by
 unfold aU;split
 ·exact⟨rfl,fun _ h=>h⟩
 ·split
  ·refine⟨?_,fun _ h=>List.mem_append_left _ h⟩;show dN (dN G.N x.fr) x.to=G.N
   rw[sC hf,sC ht]
  ·exact⟨rfl,fun _ h=>h⟩
theorem ElG.more{G G':Gr}{labels:List Txt}(hN:G'.N=G.N)(hX:∀y∈G.X,y∈G'.X)(k:Int)(i j:Nat)(h:ElG G labels k i j):ElG G' labels k i j:=by
 obtain⟨lb,h1,x,hx,h2,h3,h4⟩:=h;exact⟨lb,h1,x,hX x hx,h2,by rw[hN];exact h3,by rw[hN];exact h4⟩
end Go.Proofs.YteffnejneoocgaaGreatDoor
