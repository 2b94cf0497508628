/- container/heap over the work list: up, down, Push, Pop; the list is permuted; container/heap's Push and Pop over the work list; put; azimov: the work list with its marks; put; azimov: the closure in memory; next; Graphs: Matrix; azimov: the first facts of a production. (Written by mkAzW.py.); azimov: the first facts of a production of one label; azimov: the memory of fill: the closure, the work list, the uses; azimov: fill's loops, plain. -/
import Derived.Test.YtnokckdkaifibaaGreatDoorO11
import Derived.Test.YtnokckdkaifibaaGreatDoorO10
set_option linter.unusedVariables false
set_option linter.unusedSimpArgs false
set_option maxHeartbeats 16000000
set_option maxRecDepth 100000
namespace Go.Proofs.YtnokckdkaifibaaGreatDoor
open Go.RowKit Go.Shelf
def chV(p:Nat):Value:=.iface 188 (.pointer (some ⟨p,0,none⟩))
theorem SJ(p n : Nat)(w : World) : (method (n + 1) 188 (.pointer (some ⟨p, 0, none⟩)) "Len").run Tryz.prog w = .ok (115, .pointer (some ⟨p, 0, none⟩)) w := by kernel_rfl
theorem vT(p n : Nat)(w : World) : (method (n + 1) 188 (.pointer (some ⟨p, 0, none⟩)) "Less").run Tryz.prog w = .ok (297, .pointer (some ⟨p, 0, none⟩)) w := by kernel_rfl
theorem vU(p n : Nat)(w : World) : (method (n + 1) 188 (.pointer (some ⟨p, 0, none⟩)) "Swap").run Tryz.prog w = .ok (300, .pointer (some ⟨p, 0, none⟩)) w := by kernel_rfl
theorem SK(p n : Nat)(w : World) : (method (n + 1) 188 (.pointer (some ⟨p, 0, none⟩)) "Push").run Tryz.prog w = .ok (299, .pointer (some ⟨p, 0, none⟩)) w := by kernel_rfl
theorem UH(p n : Nat)(w : World) : (method (n + 1) 188 (.pointer (some ⟨p, 0, none⟩)) "Pop").run Tryz.prog w = .ok (298, .pointer (some ⟨p, 0, none⟩)) w := by kernel_rfl
theorem ChS.upd{w w':World}{p:Nat}{lv mv:Value}{L:List Int}{F:Nat→Prop}(h:ChS w p lv mv L)(hu:Upd F w w')(hp:¬F p)(hl:∀k,lv.ownBlock=some k→¬F k):ChS w' p lv mv L:=⟨h.1.upd hu hp,aB h.2 hu hl⟩
theorem ChS.below{w w':World}{p:Nat}{lv mv:Value}{L:List Int}(h:ChS w p lv mv L)(hb:Below w.heap.size w w'):ChS w' p lv mv L:=h.upd (upF hb) id (fun _ _=>id)
def vV(w:World)(p:Nat)(lv mv:Value)(L:List Int)(w':World):Prop:=∃L',L'.Perm L∧ChS w' p lv mv L'∧Upd (fun k=>lv.ownBlock=some k) w w'
theorem QB(w:World)(p:Nat)(lv mv:Value)(L:List Int)(h:ChS w p lv mv L)(hne:∀k,lv.ownBlock=some k→¬k=p)(hl:L.length≤1000000)(j:Nat)(hj:j<L.length) :
  Calls Tryz.prog 204 #[chV p,.int .i64 (j:Int)] w (fun e w'=>e=.returned (.tuple #[])∧vV w p lv mv L w'):=by
 obtain⟨n,hn⟩:∃n,L.length=n:=⟨_,rfl⟩;have H:=aI3 h hne hn;rw[hn] at hl hj;clear h hne hn;unfold chV;go_enter Tryz.func204,Tryz.ntmps204;go_wp2;go_loopw [1,4] (fun jv _ wr=>∃(k:Nat) (L1:List Int),k<n∧jv=.int .i64 (k:Int)∧Hid (L1.Perm L∧ChS wr p lv mv L1∧Upd (fun k=>lv.ownBlock=some k) w wr)) (fun jv _ _=>(intOf jv).toNat)
 case atStart=>exact⟨j,L,hj,rfl,hIz ⟨List.Perm.refl _,H.out.1,Upd.refl _ _⟩⟩
 case round =>
  obtain⟨k,L1,hk,rfl,hq⟩:=hrel;have hlen:Hid (L1.length=n):=hIz (by rw[hq.out.1.length_eq];exact H.out.2.2);by_cases h0:k=0
  ·subst h0;have FIN:=hIz (show vV w p lv mv L wr from⟨L1,hq.out⟩);clear hq hlen;have e1:IntKind.i64.wrap (((0:Nat):Int)-1) = -1:=by decide
   go_wp2;exact bodyPost_end (results_none rfl _ _ _) rfl ⟨rfl,FIN.out⟩
  ·obtain⟨q,hqd⟩:∃q,(k-1) / 2=q:=⟨_,rfl⟩;have e1:IntKind.i64.wrap ((k:Int)-1)=(k:Int)-1:=IntWalk.i64_in _ (by omega);have e2:((k:Int)-1).tdiv 2=(q:Int):=by
    rw[Int.tdiv_eq_ediv_of_nonneg (by omega)];omega
   have e4:((k:Int)-1) / 2=(q:Int):=by omega
   have e3:(((q:Int))==(k:Int))=false:=by simp;omega
   have hqk:q<k:=by omega
   clear hqd;obtain⟨x,hx⟩:∃x,L1[k]?=some x:=⟨_,gEz (by rw[hlen.out];exact hk)⟩;obtain⟨y,hy⟩:∃y,L1[q]?=some y:=⟨_,gEz (by rw[hlen.out];omega)⟩;have hle:=gU wr p lv mv L1 hq.out.2.1 k q x y hx hy;have hm1:=fun n=>vT p n wr
   have HX:=aI2 hx hy;clear hx hy;go_wp2_with fail;refine hle.mono ?_;clear hle hm1;rintro e V ⟨rfl,hb⟩;have H1:=aI2 (hq.out.2.1.below hb) (hq.out.2.2.trans (upF hb) (fun _ h=>h.elim));have hz:=hb.size;clear hb;by_cases hlt:x<y
   ·have hsw:=gY V p lv mv L1 H1.out.1 H.out.2.1 q k y x HX.out.2 HX.out.1;have hm1:=fun n=>vU p n V
    go_wp2_with fail;refine hsw.mono ?_;clear hsw hm1;rintro e V2 ⟨rfl,hs,hu⟩;have H2:=hIz (show(iV L1 q k y x).Perm L∧ChS V2 p lv mv (iV L1 q k y x)∧Upd (fun k=>lv.ownBlock=some k) w V2 from⟨(gX HX.out.2 HX.out.1).trans hq.out.1,hs,H1.out.2.trans hu (fun _ h=>.inl h)⟩);clear hs hu;go_wp2;go_roundw
    case rel=>exact⟨q,iV L1 q k y x,by omega,rfl,H2⟩
    case measure=>simp[intOf];omega
   ·have FIN:=hIz (show vV w p lv mv L V from⟨L1,hq.out.1,H1.out⟩);have hd:decide (x<y)=false:=by simpa using hlt
    have hle':y≤x:=by omega
    go_wp2;exact bodyPost_end (results_none rfl _ _ _) rfl ⟨rfl,FIN.out⟩
theorem GK(w:World)(p:Nat)(lv mv:Value)(L:List Int)(h:ChS w p lv mv L)(hne:∀k,lv.ownBlock=some k→¬k=p)(hl:L.length≤1000000)(m:Nat)(hm:m<L.length) :
  Calls Tryz.prog 162 #[chV p,.int .i64 0,.int .i64 (m:Int)] w (fun e w'=>(∃b,e=.returned (.bool b))∧vV w p lv mv L w'):=by
 obtain⟨n,hn⟩:∃n,L.length=n:=⟨_,rfl⟩;have H:=aI3 h hne hn;rw[hn] at hl hm;clear h hne hn;unfold chV;go_enter Tryz.func162,Tryz.ntmps162;go_wp2;go_loopw [7] (fun iv wr=>∃(k:Nat) (L1:List Int),k≤n∧iv=.int .i64 (k:Int)∧Hid (L1.Perm L∧ChS wr p lv mv L1∧Upd (fun k=>lv.ownBlock=some k) w wr)) (fun iv _=>n-(intOf iv).toNat)
 case atStart=>exact⟨0,L,by omega,rfl,hIz ⟨List.Perm.refl _,H.out.1,Upd.refl _ _⟩⟩
 case round =>
  obtain⟨k,L1,hk,rfl,hq⟩:=hrel;have hlen:Hid (L1.length=n):=hIz (by rw[hq.out.1.length_eq];exact H.out.2.2);have e1:IntKind.i64.wrap (2*(k:Int))=2*(k:Int):=IntWalk.i64_in _ (by omega);have e2:IntKind.i64.wrap (2*(k:Int)+1)=2*(k:Int)+1:=IntWalk.i64_in _ (by omega);by_cases h0:2*k+1<m
  ·have h0':2*(k:Int)+1<(m:Int):=by omega
   obtain⟨j1,hj1⟩:∃j1,2*k+1=j1:=⟨_,rfl⟩;have e3:2*(k:Int)+1=(j1:Int):=by omega
   have e4:IntKind.i64.wrap ((j1:Int)+1)=(j1:Int)+1:=IntWalk.i64_in _ (by omega);have hkn:k<n:=by omega
   obtain⟨x,hx⟩:∃x,L1[k]?=some x:=⟨_,gEz (by rw[hlen.out];omega)⟩;obtain⟨xj1,hj1x⟩:∃x,L1[j1]?=some x:=⟨_,gEz (by rw[hlen.out];omega)⟩;have hkj:k<j1:=by omega
   have hjm:(j1:Int)<(m:Int):=by omega
   have hjm2:j1<m:=by omega
   have hj0:¬((j1:Int)<0):=by omega
   have H0:=hIz (show ChS wr p lv mv L1∧Upd (fun k=>lv.ownBlock=some k) w wr from hq.out.2);clear hj1 h0 h0';by_cases h2:j1+1<m
   ·obtain⟨j2,hj2⟩:∃j2,j1+1=j2:=⟨_,rfl⟩;have e5:(j1:Int)+1=(j2:Int):=by omega
    have h2':(j2:Int)<(m:Int):=by omega
    have h2m:j2<m:=by omega
    have hkj2:k<j2:=by omega
    clear hj2 h2;obtain⟨xj2,hj2x⟩:∃x,L1[j2]?=some x:=⟨_,gEz (by rw[hlen.out];omega)⟩;have hle:=gU wr p lv mv L1 hq.out.2.1 j2 j1 xj2 xj1 hj2x hj1x;have hm1:=fun n=>vT p n wr
    have HY:=aI3 hx hj1x hj2x;clear hx hj1x hj2x;go_wp2_with fail;refine hle.mono ?_;clear hle hm1;rintro e W0 ⟨rfl,hb⟩;have H1:=aI2 (H0.out.1.below hb) (H0.out.2.trans (upF hb) (fun _ h=>h.elim));clear hb;by_cases hl2:xj2<xj1
    ·have hx:=HY.out.1;have hj2:=HY.out.2.2;have hle:=gU W0 p lv mv L1 H1.out.1 j2 k xj2 x hj2 hx;have hm1:=fun n=>vT p n W0
     have HX:=aI2 hj2 hx;clear hj2 hx;go_wp2_with fail;refine hle.mono ?_;clear hle hm1;rintro e W1 ⟨rfl,hb⟩;have H5:=aI2 (H1.out.1.below hb) (H1.out.2.trans (upF hb) (fun _ h=>h.elim));clear hb;by_cases hlt:xj2<x
     ·have hsw:=gY W1 p lv mv L1 H5.out.1 H.out.2.1 k j2 x xj2 HX.out.2 HX.out.1;have hm1:=fun n=>vU p n W1
      go_wp2_with fail;refine hsw.mono ?_;clear hsw hm1;rintro e V9 ⟨rfl,hs,hu⟩;have H6:=hIz (show(iV L1 k j2 x xj2).Perm L∧ChS V9 p lv mv (iV L1 k j2 x xj2)∧Upd (fun k=>lv.ownBlock=some k) w V9 from⟨(gX HX.out.2 HX.out.1).trans hq.out.1,hs,H5.out.2.trans hu (fun _ h=>.inl h)⟩);clear hs hu;go_wp2;go_roundw
      case rel=>exact⟨j2,iV L1 k j2 x xj2,by omega,rfl,H6⟩
      case measure=>simp[intOf];omega
     ·have FIN:=hIz (show vV w p lv mv L W1 from⟨L1,hq.out.1,H5.out⟩);have hd:decide (xj2<x)=false:=by simpa using hlt
      have hle':x≤xj2:=by omega
      clear hq hlen H5;go_wp2;go_ret;exact⟨⟨_,rfl⟩,FIN.out⟩
    ·have hx:=HY.out.1;have hj1:=HY.out.2.1;have hd2:decide (xj2<xj1)=false:=by simpa using hl2
     have hle2:xj1≤xj2:=by omega
     have hle:=gU W0 p lv mv L1 H1.out.1 j1 k xj1 x hj1 hx;have hm1:=fun n=>vT p n W0
     have HX:=aI2 hj1 hx;clear hj1 hx;go_wp2_with fail;refine hle.mono ?_;clear hle hm1;rintro e W1 ⟨rfl,hb⟩;have H5:=aI2 (H1.out.1.below hb) (H1.out.2.trans (upF hb) (fun _ h=>h.elim));clear hb;by_cases hlt:xj1<x
     ·have hsw:=gY W1 p lv mv L1 H5.out.1 H.out.2.1 k j1 x xj1 HX.out.2 HX.out.1;have hm1:=fun n=>vU p n W1
      go_wp2_with fail;refine hsw.mono ?_;clear hsw hm1;rintro e V9 ⟨rfl,hs,hu⟩;have H6:=hIz (show(iV L1 k j1 x xj1).Perm L∧ChS V9 p lv mv (iV L1 k j1 x xj1)∧Upd (fun k=>lv.ownBlock=some k) w V9 from⟨(gX HX.out.2 HX.out.1).trans hq.out.1,hs,H5.out.2.trans hu (fun _ h=>.inl h)⟩);clear hs hu;go_wp2;go_roundw
      case rel=>exact⟨j1,iV L1 k j1 x xj1,by omega,rfl,H6⟩
      case measure=>simp[intOf];omega
     ·have FIN:=hIz (show vV w p lv mv L W1 from⟨L1,hq.out.1,H5.out⟩);have hd:decide (xj1<x)=false:=by simpa using hlt
      have hle':x≤xj1:=by omega
      clear hq hlen H5;go_wp2;go_ret;exact⟨⟨_,rfl⟩,FIN.out⟩
   ·have h2':(m:Int)≤(j1:Int)+1:=by omega
    have h2n:¬((j1:Int)+1<(m:Int)):=by omega
    have hj1:=hj1x;clear hj1x;have hle:=gU wr p lv mv L1 H0.out.1 j1 k xj1 x hj1 hx;have hm1:=fun n=>vT p n wr
    have HX:=aI2 hj1 hx;clear hj1 hx;go_wp2_with fail;refine hle.mono ?_;clear hle hm1;rintro e W1 ⟨rfl,hb⟩;have H5:=aI2 (H0.out.1.below hb) (H0.out.2.trans (upF hb) (fun _ h=>h.elim));clear hb;by_cases hlt:xj1<x
    ·have hsw:=gY W1 p lv mv L1 H5.out.1 H.out.2.1 k j1 x xj1 HX.out.2 HX.out.1;have hm1:=fun n=>vU p n W1
     go_wp2_with fail;refine hsw.mono ?_;clear hsw hm1;rintro e V9 ⟨rfl,hs,hu⟩;have H6:=hIz (show(iV L1 k j1 x xj1).Perm L∧ChS V9 p lv mv (iV L1 k j1 x xj1)∧Upd (fun k=>lv.ownBlock=some k) w V9 from⟨(gX HX.out.2 HX.out.1).trans hq.out.1,hs,H5.out.2.trans hu (fun _ h=>.inl h)⟩);clear hs hu;go_wp2;go_roundw
     case rel=>exact⟨j1,iV L1 k j1 x xj1,by omega,rfl,H6⟩
     case measure=>simp[intOf];omega
    ·have FIN:=hIz (show vV w p lv mv L W1 from⟨L1,hq.out.1,H5.out⟩);have hd:decide (xj1<x)=false:=by simpa using hlt
     have hle':x≤xj1:=by omega
     clear hq hlen H5;go_wp2;go_ret;exact⟨⟨_,rfl⟩,FIN.out⟩
  ·have h0':(m:Int)≤2*(k:Int)+1:=by omega
   have FIN:=hIz (show vV w p lv mv L wr from⟨L1,hq.out⟩);clear hq hlen;go_wp2;go_ret;exact⟨⟨_,rfl⟩,FIN.out⟩
open Go.RowKit Go.Shelf
theorem ChT.after{w w1 w':World}{p:Nat}{lv mv:Value}{C:List Int→Prop}(h:ChT w1 p lv mv C w')(hb:Upd (fun k=>k=p∨lv.ownBlock=some k) w w1):ChT w p lv mv C w':=by
 obtain⟨lv',L',h1,h2,h3,h4,h5⟩:=h;exact⟨lv',L',h1,h2,hb.trans h3 (fun k hk=>.inl hk),fun k hk=>(h4 k hk).imp id (fun h=>Nat.le_trans hb.size h),h5⟩
theorem GL(w:World)(p:Nat)(lv mv:Value)(L:List Int)(h:ChS w p lv mv L)(hne:∀k,lv.ownBlock=some k→¬k=p)(hl:L.length≤999999)(x:Int) :
  Calls Tryz.prog 161 #[chV p,.iface 3 (.int .i64 x)] w (fun e w'=>e=.returned (.tuple #[])∧ChT w p lv mv (fun L'=>L'.Perm (x::L)) w'):=by
 have hpu:=BE w p lv mv L h hne (by omega) x;have hm1:=fun n=>SK p n w
 have HL:=hIz hl;clear h hne hl;unfold chV;go_enter Tryz.func161,Tryz.ntmps161;go_wp2_with fail;refine hpu.mono ?_;clear hpu hm1;rintro e W1 ⟨rfl,lv1,L1,h1,hL1,hu1,ho1,hn1⟩;obtain⟨n,hn⟩:∃n,L.length=n:=⟨_,rfl⟩;have hl2:L1.length=n+1:=by rw[hL1,List.length_append,hn];rfl
 have hlen:=pK W1 p lv1 mv _ h1;rw[hl2] at hlen;have hm1:=fun n=>SJ p n W1
 have hn9:n≤999999:=by have:=HL.out;omega
 have hup:=QB W1 p lv1 mv _ h1 hn1 (by omega) n (by omega);unfold chV at hup;have H1:=aI4 hu1 ho1 hn1 hL1;clear h1 hu1 ho1 hn1 hL1 hl2 hn HL;go_wp2_with fail;refine hlen.mono ?_;clear hlen hm1;rintro e W2 ⟨rfl,hw⟩;subst W2;have e1:IntKind.i64.wrap (((n+1:Nat):Int)-1)=(n:Int):=by
  rw[IntWalk.i64_in (((n+1:Nat):Int)-1) (by omega)];omega
 go_wp2_with fail;refine hup.mono ?_;clear hup;rintro e W3 ⟨rfl,L3,hp3,hs3,hu3⟩;have FIN:=hIz (show ChT w p lv mv (fun L'=>L'.Perm (x::L)) W3 from⟨lv1,L3,hs3,hp3.trans (by rw[H1.out.2.2.2];exact List.perm_append_singleton x L),H1.out.1.trans hu3 (fun k hk=>(H1.out.2.1 k hk).imp (fun h=>.inr h) id),H1.out.2.1,H1.out.2.2.1⟩);clear hp3 hs3 hu3;go_wp2;exact bodyPost_end (results_none rfl _ _ _) rfl ⟨rfl,FIN.out⟩
def SL(w:World)(p:Nat)(lv mv:Value)(L:List Int)(e:Ending)(w':World):Prop:=∃x,e=.returned (.iface 3 (.int .i64 x))∧ChT w p lv mv (fun L'=>L.Perm (x::L')) w'
theorem LW(w:World)(p:Nat)(lv mv:Value)(L:List Int)(h:ChS w p lv mv L)(hne:∀k,lv.ownBlock=some k→¬k=p)(hl:L.length≤999999)(h0:0<L.length) :
  Calls Tryz.prog 116 #[chV p] w (SL w p lv mv L):=by
 have hlen:=pK w p lv mv L h;have hm1:=fun n=>SJ p n w
 obtain⟨n,hn⟩:∃n,L.length=n+1:=⟨L.length-1,by omega⟩;have hnl:n≤999999:=by omega
 have H:=aI3 h hne hn;rw[hn] at hlen;clear h hne hl h0 hn;unfold chV;go_enter Tryz.func116,Tryz.ntmps116;go_wp2_with fail;refine hlen.mono ?_;clear hlen hm1;rintro e W2 ⟨rfl,hw⟩;subst W2;have e1:IntKind.i64.wrap (((n+1:Nat):Int)-1)=(n:Int):=by
  rw[IntWalk.i64_in (((n+1:Nat):Int)-1) (by omega)];omega
 obtain⟨a,ha⟩:∃x,L[0]?=some x:=⟨_,gEz (by rw[H.out.2.2];omega)⟩;obtain⟨b,hb⟩:∃x,L[n]?=some x:=⟨_,gEz (by rw[H.out.2.2];omega)⟩;have hsw:=gY w p lv mv L H.out.1 H.out.2.1 0 n a b ha hb;have hperm:=hIz (gX ha hb);have hm1:=fun n=>vU p n w
 clear ha hb;go_wp2_with fail;refine hsw.mono ?_;clear hsw hm1;rintro e W3 ⟨rfl,hs3,hu3⟩;have hdn:=GK W3 p lv mv _ hs3 H.out.2.1 (by rw[mF,H.out.2.2];omega) n (by rw[mF,H.out.2.2];omega);unfold chV at hdn;have H3:=hIz (hu3.mono (F':=fun k=>k=p∨lv.ownBlock=some k) (fun k _ h=>.inr h));clear hs3 hu3;go_wp2_with fail;refine hdn.mono ?_;clear hdn;rintro e W4 ⟨⟨bb,rfl⟩,L4,hp4,hs4,hu4⟩;have hL4:L4.length=n+1:=by rw[hp4.length_eq,mF,H.out.2.2]
 have hne4:L4≠[]:=fun e=>by rw[e] at hL4;cases hL4
 have hpp:=GJ W4 p lv mv L4 hs4 H.out.2.1 (by omega) L4.dropLast (L4.getLast hne4) (List.dropLast_concat_getLast hne4).symm;have H4:=aI2 (show L.Perm (L4.getLast hne4::L4.dropLast) from by
  refine(hp4.trans hperm.out).symm.trans ?_;have:=(List.perm_append_singleton (L4.getLast hne4) L4.dropLast);rwa [List.dropLast_concat_getLast hne4] at this) (H3.out.trans hu4 (fun k hk=>.inl (.inr hk)))
 generalize L4.getLast hne4=x at hpp H4;generalize L4.dropLast=L5 at hpp H4;have hm1:=fun n=>UH p n W4
 clear hp4 hs4 hu4 hL4 hne4;go_wp2_with fail;refine hpp.mono ?_;clear hpp hm1;rintro e W5 ⟨rfl,ht⟩;have FIN:=hIz (show SL w p lv mv L (.returned (.iface 3 (.int .i64 x))) W5 from⟨x,rfl,by
  obtain⟨lv',L',h1,h2,h3⟩:=ht.after H4.out.2;exact⟨lv',L',h1,by rw[h2];exact H4.out.1,h3⟩⟩)
 clear ht;go_wp2;go_ret;exact FIN.out
open Go.RowKit Go.Shelf
def mkC(nts:Nat)(L:List Int):List Value:=(List.range nts).map (fun (k:Nat)=>Value.bool (decide ((k:Int)∈L)))
theorem vW{nts k:Nat}{L:List Int}(h:k<nts):(mkC nts L)[k]?=some (.bool (decide ((k:Int)∈L))):=by simp[mkC,h]
theorem GM{nts k:Nat}{L L':List Int}(b:Bool)(h:∀y:Int,y≠(k:Int)→(y∈L'↔y∈L))(hk:decide ((k:Int)∈L')=b):(mkC nts L).set k (.bool b)=mkC nts L':=by
 apply List.ext_getElem?
 intro i;rw[List.getElem?_set];by_cases hi:k=i
 ·subst hi;rw[if_pos rfl];by_cases hl:k<nts
  ·rw[if_pos (by simpa[mkC] using hl),vW hl,hk]
  ·rw[if_neg (by simpa[mkC] using hl)];simp[mkC,hl]
 ·rw[if_neg hi];by_cases hl:i<nts
  ·rw[vW hl,vW hl,decide_eq_decide.2 (h (i:Int) (by omega))]
  ·simp[mkC,hl]
theorem QC:∀(nts:Nat) (L:List Int),L.Nodup→(∀x∈L,0≤x∧x<(nts:Int))→L.length≤nts
 | 0,L,_,h=>by
  cases L with
  | nil=>exact Nat.le_refl _
  | cons x l=>have:=h x (List.mem_cons_self ..);omega
 | n+1,L,hn,h=>by
  by_cases hm:(n:Int)∈L
  ·have h1:=QC n (L.erase (n:Int)) (hn.erase _) (fun x hx=>by
    have h2:=(hn.mem_erase_iff).1 hx;have:=h x h2.2;have:x≠(n:Int):=h2.1;omega)
   have h2:=List.length_erase_of_mem hm;have h3:0<L.length:=List.length_pos_of_mem hm;omega
  ·have:=QC n L hn (fun x hx=>by
    have h2:=h x hx;have:x≠(n:Int):=fun e=>hm (e ▸ hx)
    omega)
   omega
structure WkI(w:World)(p m nts:Nat)(lv:Value)(L:List Int):Prop where
 ch:ChS w p lv (.slice (some ⟨m,0,none⟩) nts nts) L
 mks:Blk w m 4 (mkC nts L).toArray
 np:∀k,lv.ownBlock=some k→¬k=p
 nm:∀k,lv.ownBlock=some k→¬k=m
 ne:¬m=p
 inL:∀x∈L,0≤x∧x<(nts:Int)
 nd:L.Nodup
theorem WkI.len{w:World}{p m nts:Nat}{lv:Value}{L:List Int}(h:WkI w p m nts lv L):L.length≤nts:=QC nts L h.nd h.inL
theorem WkI.upd{w w':World}{p m nts:Nat}{lv:Value}{L:List Int}{F:Nat→Prop}(h:WkI w p m nts lv L)(hu:Upd F w w')(hp:¬F p)(hm:¬F m)(hl:∀k,lv.ownBlock=some k→¬F k):WkI w' p m nts lv L:=
 ⟨h.ch.upd hu hp hl,h.mks.upd hu hm,h.np,h.nm,h.ne,h.inL,h.nd⟩
def WkF(p m:Nat)(lv:Value)(k:Nat):Prop:=k=p∨k=m∨lv.ownBlock=some k
def WkT(w:World)(p m nts:Nat)(lv:Value)(C:List Int→Prop)(w':World):Prop:=
 ∃lv' L',WkI w' p m nts lv' L'∧C L'∧Upd (WkF p m lv) w w'∧∀k,lv'.ownBlock=some k→lv.ownBlock=some k∨w.heap.size≤k
theorem tL(w:World)(p m nts:Nat)(lv:Value)(L:List Int)(h:WkI w p m nts lv L)(hnt:nts≤512)(k:Nat)(hk:k<nts) :
  Calls Tryz.prog 113 #[.pointer (some ⟨p,0,none⟩),.int .i64 (k:Int)] w (fun e w'=>e=.returned (.tuple #[])∧WkT w p m nts lv (fun L'=>QA L L' (k:Int)) w'):=by
 have q1:w.cell? ⟨p,1,none⟩=some (.slice (some ⟨m,0,none⟩) nts nts):=h.ch.1.cell 1;have qm:w.cell? ⟨m,k,none⟩=some (.bool (decide ((k:Int)∈L))):=by rw[h.mks.cell k];simpa using vW hk
 have fm:w.frozen? ⟨m,k,none⟩=false:=h.mks.frozen k;have hkI:(k:Int)<(nts:Int):=by omega
 by_cases hin:(k:Int)∈L
 ·rw[decide_eq_true hin] at qm;have FIN:=hIz (show WkT w p m nts lv (fun L'=>QA L L' (k:Int)) w from⟨lv,L,h,⟨fun y=>⟨.inl,fun hy=>hy.elim id (fun e=>e ▸ hin)⟩,h.nd,by omega⟩,Upd.refl _ _,fun _ hk=>.inl hk⟩);clear h hin;go_enter Tryz.func113,Tryz.ntmps113;go_wp2;exact bodyPost_end (results_none rfl _ _ _) rfl ⟨rfl,FIN.out⟩
 ·rw[decide_eq_false hin] at qm;have us:=(Upd.refl (fun q=>q=m) w).setCell (p:=⟨m,k,none⟩) (.inl rfl) (.bool true);have hc1:=h.ch.upd us (fun e=>h.ne e.symm) h.nm;have hlen:=h.len;have hpu:=GL _ p lv _ L hc1 h.np (by omega) (k:Int);have hmk:Blk (w.setCell ⟨m,k,none⟩ (.bool true)) m 4 ((mkC nts L).toArray.setIfInBounds k (.bool true)):=h.mks.set k (.bool true);have H:=aI4 h us hmk hin;unfold chV at hpu;clear h us hc1 hmk hin;go_enter Tryz.func113,Tryz.ntmps113;go_wp2_with fail;refine hpu.mono ?_;clear hpu;rintro e W1 ⟨rfl,lv1,L1,h1,hp1,hu1,ho1,hn1⟩;have FIN:=hIz (show WkT w p m nts lv (fun L'=>QA L L' (k:Int)) W1 from by
   have h0:=H.out.1;have hz:=H.out.2.1.size;have hmem:∀y,y∈L1↔y=(k:Int)∨y∈L:=fun y=>by rw[hp1.mem_iff,List.mem_cons]
   have hmk2:=H.out.2.2.1.upd hu1 (fun e=>e.elim (fun e=>h0.ne e) (fun e=>h0.nm _ e rfl));have ems:(mkC nts L).toArray.setIfInBounds k (.bool true)=(mkC nts L1).toArray:=by
    rw[List.setIfInBounds_toArray,GM true (L':=L1) (fun y hy=>by rw[hmem];exact⟨fun h=>h.resolve_left hy,.inr⟩) (decide_eq_true ((hmem _).2 (.inl rfl)))]
   rw[ems] at hmk2;refine⟨lv1,L1,⟨h1,hmk2,hn1,fun q hq e=>?_,h0.ne,fun x hx=>?_,hp1.nodup_iff.2 (List.nodup_cons.2 ⟨H.out.2.2.2,h0.nd⟩)⟩,⟨fun y=>by rw[hmem];exact or_comm,hp1.nodup_iff.2 (List.nodup_cons.2 ⟨H.out.2.2.2,h0.nd⟩),by rw[hp1.length_eq];exact Nat.le_refl _⟩,?_,fun q hq=>(ho1 q hq).imp id (fun h=>Nat.le_trans hz h)⟩
   ·rcases ho1 q hq with h2|h2
    ·exact h0.nm q h2 e
    ·have:=h0.mks.lt;subst e;omega
   ·rcases (hmem x).1 hx with h2|h2
    ·subst h2;exact⟨by omega,hkI⟩
    ·exact h0.inL x h2
   ·exact(H.out.2.1.mono (F':=WkF p m lv) (fun q _ e=>.inr (.inl e))).trans hu1 (fun q hq=>.inl (hq.imp id .inr)))
  clear h1 hp1 hu1 ho1 hn1;go_wp2;exact bodyPost_end (results_none rfl _ _ _) rfl ⟨rfl,FIN.out⟩
open Go.RowKit Go.Shelf
inductive CRo
 | x | row | mat (k:Nat)
def ptC(ad:Nat→Nat)(nts:Nat):List Value:=(List.range nts).map (fun (k:Nat)=>Value.pointer (some ⟨ad k,0,none⟩))
theorem gH{ad:Nat→Nat}{nts k:Nat}(h:k<nts):(ptC ad nts)[k]?=some (.pointer (some ⟨ad k,0,none⟩)):=by simp[ptC,h]
structure ClI(w:World)(O:Nat→Option CRo)(p side nodes nts:Nat)(pv:Value)(ad:Nat→Nat)(B:aX):Prop where
 blk:Blk w p 138 #[.int .i64 (nodes:Int),pv]
 rows:w.ownsRow 0 97 1 pv nts (ptC ad nts)
 op:O p=some .x
 orow:∀k,pv.ownBlock=some k→O k=some .row
 mats:∀k,k<nts→∃F,QuS w F (ad k) side (B k)∧∀q,F q→O q=some (.mat k)
 lt:∀q,O q≠none→q<w.heap.size
def ClS(w:World)(F:Nat→Prop)(p side nodes nts:Nat)(B:aX):Prop:=∃O pv ad,ClI w O p side nodes nts pv ad B∧F=fun q=>O q≠none
theorem ClI.upd{w w':World}{O:Nat→Option CRo}{p side nodes nts:Nat}{pv:Value}{ad:Nat→Nat}{B:aX}{G:Nat→Prop}(h:ClI w O p side nodes nts pv ad B)(hu:Upd G w w')(hd:∀q,O q≠none→¬G q):ClI w' O p side nodes nts pv ad B:=by
 have no:∀k t,O k=some t→¬G k:=fun k t e=>hd k (by simp[e])
 exact⟨h.blk.upd hu (no _ _ h.op),aB h.rows hu fun k hk=>no _ _ (h.orow k hk),h.op,h.orow,fun k hk=>by
  obtain⟨F,h1,h2⟩:=h.mats k hk;exact⟨F,h1.upd hu (fun q hq=>no _ _ (h2 q hq)),h2⟩,fun q hq=>Nat.lt_of_lt_of_le (h.lt q hq) hu.size⟩
theorem ClS.upd{w w':World}{F G:Nat→Prop}{p side nodes nts:Nat}{B:aX}(h:ClS w F p side nodes nts B)(hu:Upd G w w')(hd:∀k,F k→¬G k):ClS w' F p side nodes nts B:=by
 obtain⟨O,pv,ad,hi,rfl⟩:=h;exact⟨O,pv,ad,hi.upd hu hd,rfl⟩
theorem ClS.below{w w':World}{F:Nat→Prop}{p side nodes nts:Nat}{B:aX}(h:ClS w F p side nodes nts B)(hb:Below w.heap.size w w'):ClS w' F p side nodes nts B:=h.upd (upF hb) (fun _ _=>id)
theorem ClS.lt{w:World}{F:Nat→Prop}{p side nodes nts:Nat}{B:aX}(h:ClS w F p side nodes nts B):∀k,F k→k<w.heap.size:=by
 obtain⟨O,pv,ad,hi,rfl⟩:=h;exact hi.lt
def wH(w:World)(F:Nat→Prop)(p side nodes nts:Nat)(B:aX)(w':World):Prop:=∃F',ClS w' F' p side nodes nts B∧Upd F w w'∧∀k,F' k→F k∨w.heap.size≤k
theorem wH.after{w w1 w':World}{F:Nat→Prop}{p side nodes nts:Nat}{B:aX}(hb:Below w.heap.size w w1)(h:wH w1 F p side nodes nts B w'):wH w F p side nodes nts B w':=by
 obtain⟨F',h1,h2,h3⟩:=h;exact⟨F',h1,(Upd.of_below hb F).trans h2 (fun _ h=>.inl h),fun k hk=>(h3 k hk).imp id (fun h=>Nat.le_trans hb.size h)⟩
theorem ClI.turn{w w':World}{O:Nat→Option CRo}{p side nodes nts:Nat}{pv:Value}{ad:Nat→Nat}{B:aX}(h:ClI w O p side nodes nts pv ad B){a:Nat}{Fa:Nat→Prop}{m:Option (List Nat)}(hFa:∀q,Fa q→O q=some (.mat a))(ht:QTo w Fa (ad a) side m w') :
  wH w (fun q=>O q≠none) p side nodes nts (upM B a m) w':=by
 obtain⟨F',hq,hu,hn⟩:=ht;have ho:∀q,Fa q→O q≠none:=fun q hq e=>by rw[hFa q hq] at e;cases e
 have hlt:=hq.lt;refine⟨_,⟨fun q=>if q<w.heap.size then O q else if q<w'.heap.size then some (.mat a) else none,pv,ad,⟨?_,?_,?_,?_,?_,?_⟩,rfl⟩,hu.mono (fun q _ hq=>ho q hq),fun k hk=>?_⟩
 ·exact h.blk.upd hu (fun e=>by have:=hFa _ e;rw[h.op] at this;cases this)
 ·exact aB h.rows hu (fun k hk e=>by have:=hFa _ e;rw[h.orow k hk] at this;cases this)
 ·show(if p<w.heap.size then O p else _)=_
  rw[if_pos h.blk.lt];exact h.op
 ·intro k hk;show(if k<w.heap.size then O k else _)=_
  have:=h.orow k hk;rw[if_pos (h.lt k (by rw[this];exact nofun))];exact this
 ·intro k hk;by_cases e:k=a
  ·subst e;rw[cP];refine⟨F',hq,fun q hf=>?_⟩;show(if q<w.heap.size then O q else if q<w'.heap.size then some (.mat k) else none)=_
   by_cases hl:q<w.heap.size
   ·rw[if_pos hl];rcases hn q hf with h1|h1
    ·exact hFa q h1
    ·omega
   ·rw[if_neg hl,if_pos (hlt q hf)]
  ·rw[dD B m e];obtain⟨F,h1,h2⟩:=h.mats k hk;refine⟨F,h1.upd hu (fun q hf hf'=>?_),fun q hf=>?_⟩
   ·have e1:=h2 q hf;rw[hFa q hf'] at e1;injection e1 with e1;injection e1 with e1;exact e e1.symm
   ·show(if q<w.heap.size then O q else _)=_
    rw[if_pos (h1.lt q hf)];exact h2 q hf
 ·intro q hq;by_cases hl:q<w.heap.size
  ·exact Nat.lt_of_lt_of_le hl hu.size
  ·by_cases hl2:q<w'.heap.size
   ·exact hl2
   ·rw[if_neg hl,if_neg hl2] at hq;exact absurd rfl hq
 ·by_cases hl:k<w.heap.size
  ·have hk:(if k<w.heap.size then O k else _)≠none:=hk;rw[if_pos hl] at hk;exact .inl hk
  ·exact .inr (by omega)
theorem LX(w:World)(F:Nat→Prop)(p side nodes nts:Nat)(B:aX)(h:ClS w F p side nodes nts B)(a b c:Nat)(la lb:Bool)(A:Option Addr)(cap:Nat)(hr:bO w A (dM [⟨la,b⟩,⟨lb,c⟩]))
  (ha:a<nts) (hb:b<nts) (hc:c<nts) (hnt:nts≤512) (hs64:side≤64) (hT:gI w) (htab:1<w.heap.size)
  (hfit:∀x y,B b=some x→B c=some y→cS (lY x y) side=lY x y) :
  Calls Tryz.prog 114 #[.pointer (some ⟨p,0,none⟩),.agg #[.int .i64 (a:Int),.slice A 2 cap]] w (fun e w'=>e=.returned (.bool (dR (B a) (mulO (B b) (B c))))∧wH w F p side nodes nts (upM B a (joinQ (B a) (mulO (B b) (B c)))) w'):=by
 obtain⟨O,pv,ad,hi,rfl⟩:=h;obtain⟨g,gc,rfl,-,-,-,-,-⟩:=aL hi.rows (by omega);obtain⟨gb,go,rfl,-⟩:=hr 0 (.bool la) rfl;have b1:Below w.heap.size w (w.alloc (.cells #[.int .i64 (a:Int),.slice (some ⟨gb,go,none⟩) 2 cap] 76)):=bR.alloc (Nat.le_refl _) _;have k1:=Blk.new w 76 #[.int .i64 (a:Int),.slice (some ⟨gb,go,none⟩) 2 cap];have hi1:=hi.upd (upF b1) (fun _ _=>id);have hr1:=hr.below3 b1;have SF:∀W,Below (w.alloc (.cells #[.int .i64 (a:Int),.slice (some ⟨gb,go,none⟩) 2 cap] 76)).heap.size (w.alloc (.cells #[.int .i64 (a:Int),.slice (some ⟨gb,go,none⟩) 2 cap] 76)) W →
   W.cell? ⟨p,1,none⟩=some (.slice (some ⟨g,0,none⟩) nts gc)∧W.cell? ⟨w.heap.size,0,none⟩=some (.int .i64 (a:Int))∧W.cell? ⟨w.heap.size,1,none⟩=some (.slice (some ⟨gb,go,none⟩) 2 cap) ∧
   W.cell? ⟨gb,go+1,none⟩=some (.int .i64 (b:Int))∧W.cell? ⟨gb,go+3,none⟩=some (.int .i64 (c:Int))∧W.cell? ⟨g,a,none⟩=some (.pointer (some ⟨ad a,0,none⟩))∧W.cell? ⟨g,b,none⟩=some (.pointer (some ⟨ad b,0,none⟩))∧W.cell? ⟨g,c,none⟩=some (.pointer (some ⟨ad c,0,none⟩)):=fun W hW=>by
  have hi2:=hi1.upd (upF hW) (fun _ _=>id);have k2:=k1.upd (upF hW) id;have hr2:=hr1.below3 hW;obtain⟨g',c',e,-,-,-,-,hg⟩:=aL hi2.rows (by omega);injection e with e;injection e with e;injection e with e;subst e;obtain⟨b',o',e,c1⟩:=hr2 1 (.int .i64 (b:Int)) rfl;injection e with e;injection e with e1 e2;subst e1;subst e2;obtain⟨b',o',e,c3⟩:=hr2 3 (.int .i64 (c:Int)) rfl;injection e with e;injection e with e1 e2;subst e1;subst e2;exact⟨hi2.blk.cell 1,k2.cell 0,k2.cell 1,c1,c3,(hg a _ (gH ha)).1,(hg b _ (gH hb)).1,(hg c _ (gH hc)).1⟩
 have HX:=aI5 hi1 b1 (hT.upd (upF b1) htab id) (Nat.lt_of_lt_of_le htab b1.size) hfit;have HS:=hIz SF;have haI:(a:Int)<(nts:Int):=by omega
 have hbI:(b:Int)<(nts:Int):=by omega
 have hcI:(c:Int)<(nts:Int):=by omega
 clear hi hr b1 k1 hi1 hr1 SF hT htab hfit;go_enter Tryz.func114,Tryz.ntmps114;go_upto_region 1 with (fail);generalize w.alloc (.cells #[.int .i64 (a:Int),.slice (some ⟨gb,go,none⟩) 2 cap] 76)=W1 at HX HS ⊢;generalize w.heap.size=z at HS ⊢;have HB:=hIz (show Below W1.heap.size W1 W1.drew from bR.drew);have hS:=HS.out W1.drew HB.out;refine bS (fun W:World=>W.cell? ⟨p,1,none⟩=some (.slice (some ⟨g,0,none⟩) nts gc)∧W.cell? ⟨z,0,none⟩=some (.int .i64 (a:Int))∧W.cell? ⟨z,1,none⟩=some (.slice (some ⟨gb,go,none⟩) 2 cap) ∧
   W.cell? ⟨gb,go+1,none⟩=some (.int .i64 (b:Int))∧W.cell? ⟨gb,go+3,none⟩=some (.int .i64 (c:Int))∧W.cell? ⟨g,a,none⟩=some (.pointer (some ⟨ad a,0,none⟩))∧W.cell? ⟨g,b,none⟩=some (.pointer (some ⟨ad b,0,none⟩))∧W.cell? ⟨g,c,none⟩=some (.pointer (some ⟨ad c,0,none⟩))) (aO 30) (by kernel_rfl) ?_
 generalize W1.drew=W2 at HB hS ⊢;intro hd;(refine aA 0 rfl hd hS ?_;clear hd;intro hd;(try simp only[Act.put,gA,gZ,sA,sZ,sS]))
 refine aA 1 rfl hd hS ?_;clear hd;intro hd;refine aA 2 rfl hd hS ?_;clear hd;intro hd;refine aA 3 rfl hd hS ?_;clear hd;intro hd;refine aA 4 rfl hd hS ?_;clear hd;intro hd;refine aA 5 rfl hd hS ?_;clear hd;intro hd;refine aA 6 rfl hd hS ?_;clear hd;intro hd;refine aA 7 rfl hd hS ?_;clear hd;intro hd;refine aA 8 rfl hd hS ?_;clear hd;intro hd;refine aA 9 rfl hd hS ?_;clear hd;intro hd;refine aA 10 rfl hd hS ?_;clear hd;intro hd;refine aA 11 rfl hd hS ?_;clear hd;intro hd;refine aA 12 rfl hd hS ?_;clear hd;intro hd;refine aA 13 rfl hd hS ?_;clear hd;intro hd;refine aA 14 rfl hd hS ?_;clear hd;intro hd;refine aA 15 rfl hd hS ?_;clear hd;intro hd;refine aA 16 rfl hd hS ?_;clear hd;intro hd;refine aA 17 rfl hd hS ?_;clear hd;intro hd;refine aA 18 rfl hd hS ?_;clear hd;intro hd;refine aA 19 rfl hd hS ?_;clear hd;intro hd;refine aA 20 rfl hd hS ?_;clear hd;intro hd;refine aA 21 rfl hd hS ?_;clear hd;intro hd;refine aA 22 rfl hd hS ?_;clear hd;intro hd;refine aA 23 rfl hd hS ?_;clear hd;intro hd;refine aA 24 rfl hd hS ?_;clear hd;intro hd;refine aA 25 rfl hd hS ?_;clear hd;intro hd;refine aA 26 rfl hd hS ?_;clear hd;intro hd;refine aA 27 rfl hd hS ?_;clear hd;intro hd;refine aA 28 rfl hd hS ?_;clear hd;intro hd;refine aA 29 rfl hd hS ?_;clear hd;intro hd;have hint:Hid (∃Fa Fb Fc,QuS W2 Fa (ad a) side (B a)∧QuS W2 Fb (ad b) side (B b)∧QuS W2 Fc (ad c) side (B c)∧(∀q,Fa q→O q=some (.mat a))∧gI W2∧1<W2.heap.size∧ClI W2 O p side nodes nts (.slice (some ⟨g,0,none⟩) nts gc) ad B):=hIz (by
  have hi2:=HX.out.1.upd (upF HB.out) (fun _ _=>id);obtain⟨Fa,a1,a2⟩:=hi2.mats a ha;obtain⟨Fb,b1,-⟩:=hi2.mats b hb;obtain⟨Fc,c1,-⟩:=hi2.mats c hc;exact⟨Fa,Fb,Fc,a1,b1,c1,a2,HX.out.2.2.1.upd (upF HB.out) HX.out.2.2.2.1 id,Nat.lt_of_lt_of_le HX.out.2.2.2.1 HB.out.size,hi2⟩)
 obtain⟨Fa,Fb,Fc,a1,b1,c1,a2,t1,t2,i2⟩:=hint.out;have hcon:=pJ W2 Fa Fb Fc (ad a) (ad b) (ad c) side (B a) (B b) (B c) a1 b1 c1 hs64 t1 t2 HX.out.2.2.2.2;have HI:=aI2 i2 a2;clear a1 b1 c1 t1 t2 i2 a2 hint hS;refine aQ hd 30 ?_;clear hd;intro hd;refine aW (S:=(fun W:World=>W.cell? ⟨p,1,none⟩=some (.slice (some ⟨g,0,none⟩) nts gc)∧W.cell? ⟨z,0,none⟩=some (.int .i64 (a:Int))∧W.cell? ⟨z,1,none⟩=some (.slice (some ⟨gb,go,none⟩) 2 cap) ∧
   W.cell? ⟨gb,go+1,none⟩=some (.int .i64 (b:Int))∧W.cell? ⟨gb,go+3,none⟩=some (.int .i64 (c:Int))∧W.cell? ⟨g,a,none⟩=some (.pointer (some ⟨ad a,0,none⟩))∧W.cell? ⟨g,b,none⟩=some (.pointer (some ⟨ad b,0,none⟩))∧W.cell? ⟨g,c,none⟩=some (.pointer (some ⟨ad c,0,none⟩)))) (late:=aO 30) rfl rfl (fun K hK=>?_)
 go_simp;refine hcon.mono ?_;clear hcon;rintro e W3 ⟨rfl,hto⟩;have FIN:=hIz (show wH w (fun q=>O q≠none) p side nodes nts (upM B a (joinQ (B a) (mulO (B b) (B c)))) W3 from(wH.after (tHn HX.out.2.1 HB.out) (HI.out.1.turn HI.out.2 hto)));clear hto;refine hK _ _ (fun h _=>absurd h (by decide)) ?_;clear hK K;(try simp only[Act.put,gA,gS,gZ,sA,sZ,sS])
 (refine aU (i:=31) (v:=?_) rfl (by kernel_rfl) hd (fun _ _ d _ _ h=>by cases d <;> exact h) (by first | with_reducible rfl | kernel_rfl) ?_ ?_;rotate_left;(focus (intro wS;go_simp;(try with_reducible rfl);done));clear hd;intro hd;(try simp only[Act.put,gA,gS,gZ,sA,sZ,sS]))
 (refine aU (i:=32) (v:=?_) rfl (by kernel_rfl) hd (fun _ _ d _ _ h=>by cases d <;> exact h) (by first | with_reducible rfl | kernel_rfl) ?_ ?_;rotate_left;(focus (intro wS;go_simp;(try with_reducible rfl);done));clear hd;intro hd;(try simp only[Act.put,gA,gS,gZ,sA,sZ,sS]))
 (refine aU (i:=33) (v:=?_) rfl (by kernel_rfl) hd (fun _ _ d _ _ h=>by cases d <;> exact h) (by first | with_reducible rfl | kernel_rfl) ?_ ?_;rotate_left;(focus (intro wS;go_simp;(try with_reducible rfl);done));clear hd;intro hd;(try simp only[Act.put,gA,gS,gZ,sA,sZ,sS]))
 (refine aU (i:=34) (v:=?_) rfl (by kernel_rfl) hd (fun _ _ d _ _ h=>by cases d <;> exact h) (by first | with_reducible rfl | kernel_rfl) ?_ ?_;rotate_left;(focus (intro wS;go_simp;(try with_reducible rfl);done));clear hd;intro hd;(try simp only[Act.put,gA,gS,gZ,sA,sZ,sS]))
 (refine aU (i:=35) (v:=?_) rfl (by kernel_rfl) hd (fun _ _ d _ _ h=>by cases d <;> exact h) (by first | with_reducible rfl | kernel_rfl) ?_ ?_;rotate_left;(focus (intro wS;go_simp;(try with_reducible rfl);done));clear hd;intro hd;(try simp only[Act.put,gA,gS,gZ,sA,sZ,sS]))
 refine dK (by kernel_rfl) ?_;go_wp2;go_ret;exact⟨rfl,FIN.out⟩
open Go.RowKit
theorem txt_beq(a b:Txt):(ByteArray.toList a==ByteArray.toList b)=decide (a=b):=by
 rw[Bool.eq_iff_iff,beq_iff_eq,decide_eq_true_iff,gC,gC];exact⟨rL,fun h=>by rw[h]⟩
def LY(G:Gr)(lb:Txt)(b:Option (List Nat)):Prop:=∀i j,i<64→j<64→(aY b i j=true↔∃x∈G.X,x.lb=lb∧G.N[i]?=some x.fr∧G.N[j]?=some x.to)
def kO(U:Nat→List Hp)(lb:Txt)(k t:Nat)(b:Option (List Nat)):Prop:=∀i j,i<64→j<64→(aY b i j=true↔(i<k∧∃h∈U i,h.lb=lb∧h.nd=(j:Int))∨(i=k∧∃h∈(U k).take t,h.lb=lb∧h.nd=(j:Int)))
theorem kO.all{G:Gr}{U V:Nat→List Hp}{lb:Txt}{b:Option (List Nat)}(h:kO U lb G.N.length 0 b)(ho:dS G.N G.X U V)(ok:GOk G):LY G lb b:=fun i j hi hj=>by
 rw[h i j hi hj];constructor
 ·rintro (⟨_,y,hy,h1,h2⟩|⟨_,y,hy,_⟩)
  ·obtain⟨x,hx,e1,rfl⟩:=(ho.um i y).1 hy;refine⟨x,hx,h1,e1,?_⟩;have h2:(eL G.N x.to:Int)=(j:Int):=h2;have:eL G.N x.to=j:=by omega
   rw[← this];exact dV (ok.ends x hx).2
  ·simp at hy
 ·rintro⟨x,hx,h1,h2,h3⟩;refine .inl ⟨(gO.1 h2).1,⟨x.lb,(eL G.N x.to:Int)⟩,(ho.um i _).2 ⟨x,hx,h2,rfl⟩,h1,?_⟩;show(eL G.N x.to:Int)=(j:Int)
  rw[jD ok.nd h3]
theorem kO.next{U:Nat→List Hp}{lb:Txt}{k:Nat}{b:Option (List Nat)}(h:kO U lb k (U k).length b):kO U lb (k+1) 0 b:=fun i j hi hj=>by
 rw[h i j hi hj,List.take_length];constructor
 ·rintro (⟨h1,h2⟩|⟨rfl,h2⟩)
  ·exact .inl ⟨by omega,h2⟩
  ·exact .inl ⟨by omega,h2⟩
 ·rintro (⟨h1,h2⟩|⟨_,y,hy,_⟩)
  ·by_cases e:i=k
   ·subst e;exact .inr ⟨rfl,h2⟩
   ·exact .inl ⟨by omega,h2⟩
  ·simp at hy
theorem kO.skip{U:Nat→List Hp}{lb:Txt}{k t:Nat}{b:Option (List Nat)}{y:Hp}(h:kO U lb k t b)(hy:(U k)[t]?=some y)(hn:y.lb≠lb):kO U lb k (t+1) b:=fun i j hi hj=>by
 rw[h i j hi hj,List.take_add_one,hy];simp only[Option.toList_some,List.mem_append,List.mem_singleton]
 constructor
 ·rintro (h1|⟨e,z,hz,h2⟩)
  ·exact .inl h1
  ·exact .inr ⟨e,z,.inl hz,h2⟩
 ·rintro (h1|⟨e,z,hz|rfl,h2⟩)
  ·exact .inl h1
  ·exact .inr ⟨e,z,hz,h2⟩
  ·exact absurd h2.1 hn
theorem kO.put{U:Nat→List Hp}{lb:Txt}{k t q:Nat}{b:Option (List Nat)}(h:kO U lb k t b)(hw:Wd (bX b))(hk:k<64)(hy:(U k)[t]?=some ⟨lb,(q:Int)⟩):kO U lb k (t+1) (setO b k q):=fun i j hi hj=>by
 rw[xN hw hk hi,Bool.or_eq_true,h i j hi hj,List.take_add_one,hy];simp only[Option.toList_some,List.mem_append,List.mem_singleton,decide_eq_true_eq]
 constructor
 ·rintro ((h1|⟨e,z,hz,h2⟩)|⟨rfl,rfl⟩)
  ·exact .inl h1
  ·exact .inr ⟨e,z,.inl hz,h2⟩
  ·exact .inr ⟨rfl,_,.inr rfl,rfl,rfl⟩
 ·rintro (h1|⟨e,z,hz|rfl,h2⟩)
  ·exact .inl (.inl h1)
  ·exact .inl (.inr ⟨e,z,hz,h2⟩)
  ·exact .inr ⟨e,by have:=h2.2;dsimp only at this;omega⟩
theorem kO.zero(U:Nat→List Hp)(lb:Txt):kO U lb 0 0 none:=fun i j _ _=>by
 constructor
 ·intro h;cases h
 ·rintro (⟨h,_⟩|⟨_,y,hy,_⟩)
  ·omega
  ·simp at hy
def VI(w:World)(G:Gr)(lb:Txt)(side:Nat)(e:Ending)(w':World):Prop:=∃q b,e=.returned (.tuple #[.pointer (some ⟨q,0,none⟩),.int .i64 0])∧fL w.heap.size q side b w'∧Below w.heap.size w w'∧LY G lb b
theorem pM(w:World)(F:Nat→Prop)(p:Nat)(G:Gr)(h:GrS w F p G)(ok:GOk G)(lb:Txt)(side:Nat)(hs:G.N.length≤side)(hs1:1≤side)(hs2:side≤1024) :
  Calls Tryz.prog 38 #[.pointer (some ⟨p,0,none⟩),.string lb,.int .i64 (side:Int)] w (VI w G lb side):=by
 obtain⟨U,V,⟨O,⟨r,nv,ov,iv,fo,fi⟩,hg,-⟩,ho⟩:=h;have hf:=ok.few;have q1:w.cell? ⟨p,1,none⟩=some (.map (some r)):=hg.blk.cell 1;obtain⟨nA,nc,e1,-,-⟩:=aH hg.rn;obtain⟨oA,oc,e2,-,-⟩:=aH hg.ro;dsimp only at e1 e2
 subst e1;subst e2;obtain⟨n,hn⟩:∃n,G.N.length=n:=⟨_,rfl⟩;have hn32:n≤32:=by omega
 rw[hn] at hs;have H:=aI4 hg ho ok hn;have hnew:=kG w side hs1 hs2;have hlt:¬(side<n):=by omega
 clear hg ho ok hn hf;go_enter Tryz.func38,Tryz.ntmps38;go_wp2_with fail;refine(iR w p r q1).mono ?_;rintro e w' ⟨rfl,hw⟩;subst w';go_wp2_with fail;refine hnew.mono ?_;clear hnew q1;rintro e W1 ⟨q,rfl,fr1,b1⟩;have HF1:=hIz fr1;have HB1:=hIz b1;have hg1:=H.out.1.upd (upF b1) (fun _ _=>id);have q0:W1.cell? ⟨p,0,none⟩=some (.slice nA n nc):=by rw[← H.out.2.2.2];exact hg1.blk.cell 0
 have q2:W1.cell? ⟨p,2,none⟩=some (.slice oA n oc):=by rw[← H.out.2.2.2];exact hg1.blk.cell 2
 clear fr1 b1 hg1;go_wp2_with fail;clear q0 q2;go_loopw [38] (fun i wr=>∃k:Nat,k≤n∧i=.int .i64 k∧Hid (∃b,fL w.heap.size q side b wr∧kO U lb k 0 b)∧Hid (Below w.heap.size w wr)) (fun i _=>n-(intOf i).toNat)
 case atStart=>exact⟨0,Nat.zero_le _,rfl,hIz ⟨none,HF1.out,kO.zero U lb⟩,HB1⟩
 case round =>
  obtain⟨k,hk,rfl,hq,hbw⟩:=hrel;by_cases hkn:k<n
  ·have hknI:(k:Int)<(n:Int):=by omega
   have hkw:IntKind.i64.wrap ((k:Int)+1)=(k:Int)+1:=IntWalk.i64_in _ (by omega);have hkN:k<G.N.length:=by rw[H.out.2.2.2];exact hkn
   have hg:=H.out.1.upd (upF hbw.out) (fun _ _=>id);obtain⟨og,oc',e,-,co,-⟩:=iN hg.ro hkN;dsimp only at e co
   injection e with e e1 e2;subst e;clear e1 e2;obtain⟨A,cA,eA,-,-⟩:=aH (hg.fo k);dsimp only at eA
   have hrow:=H.out.1.fo k;dsimp only at hrow
   rw[eA] at co hrow;obtain⟨m,hm⟩:∃m,(U k).length=m:=⟨_,rfl⟩;have hm256:m≤256:=by rw[← hm];exact Nat.le_trans (H.out.2.1.len k).1 H.out.2.2.1.few.2
   rw[hm] at co;have HM:=aI2 hm (bO.of_own hrow);clear hg eA hrow hm;go_wp2_with fail;clear co;generalize wr=W5 at hq hbw ⊢;go_loopw [45] (fun i wr=>∃t:Nat,t≤m∧i=.int .i64 t∧Hid (∃b,fL w.heap.size q side b wr∧kO U lb k t b)∧Hid (Below w.heap.size w wr)) (fun i _=>m-(intOf i).toNat)
   case atStart=>exact⟨0,Nat.zero_le _,rfl,hq,hbw⟩
   case round =>
    obtain⟨t,ht,rfl,hqt,hbt⟩:=hrel;by_cases htm:t<m
    ·have htmI:(t:Int)<(m:Int):=by omega
     have htw:IntKind.i64.wrap ((t:Int)+1)=(t:Int)+1:=IntWalk.i64_in _ (by omega);obtain⟨⟨s,nd⟩,hx⟩:∃x,(U k)[t]?=some x:=⟨(U k)[t]'(by rw[HM.out.1];exact htm),gEz _⟩;obtain⟨ed,hed,-,hnd⟩:=(H.out.2.1.um k _).1 (mG hx);injection hnd with hs0 hnd;clear hs0;have hqn:=fW (H.out.2.2.1.ends ed hed).2;rw[H.out.2.2.2] at hqn;generalize eL G.N ed.to=v at hnd hqn;subst hnd;clear hed;obtain⟨ab,ao,rfl,y0,y1⟩:=(HM.out.2.below hbt.out).hp hx;dsimp only at y0 y1
     have k6:=Blk.new wr 145 #[.string s,.int .i64 (v:Int)];have u6:Below wr.heap.size wr (wr.alloc (.cells #[.string s,.int .i64 (v:Int)] 145)):=bR.alloc (Nat.le_refl _) _;obtain⟨b,hb1,hb2⟩:=hqt.out;have H6:=aI5 k6 (hb1.below u6) hb2 (tHn hbt.out u6) hx;clear k6 u6 hb1 hb2 hqt hbt hx;go_upto_region 12 with (fail);generalize wr.alloc (.cells #[.string s,.int .i64 (v:Int)] 145)=W6 at H6 ⊢;clear y0 y1;have y0:W6.cell? ⟨wr.heap.size,0,none⟩=some (.string s):=H6.out.1.cell 0;have y1:W6.cell? ⟨wr.heap.size,1,none⟩=some (.int .i64 (v:Int)):=H6.out.1.cell 1;by_cases hsl:s=lb
     ·subst hsl;obtain⟨F6,g6,n6⟩:=H6.out.2.1;have hset:=sO W6 F6 q side b g6 k v (by omega) (by omega) (by omega) (by omega);have HW:=hIz g6.wd;have HN6:=hIz n6;clear g6 n6;go_wp2_with fail;refine hset.mono ?_;clear hset y0 y1;rintro e W7 ⟨rfl,hto⟩;have hst:=fL.step HN6.out H6.out.2.2.2.1.size hto;have HF:=hIz hst;clear hto hst;go_wp2;go_roundw
      case rel=>exact⟨t+1,by omega,by go_num,hIz ⟨_,HF.out.1,H6.out.2.2.1.put HW.out (by omega) H6.out.2.2.2.2⟩,hIz (H6.out.2.2.2.1.trans HF.out.2)⟩
      case measure=>simp[intOf];omega
     ·have hsb:(ByteArray.toList s==ByteArray.toList lb)=false:=by rw[txt_beq];exact decide_eq_false hsl
      go_wp2;go_roundw
      case rel=>exact⟨t+1,by omega,by go_num,hIz ⟨b,H6.out.2.1,H6.out.2.2.1.skip H6.out.2.2.2.2 hsl⟩,hIz H6.out.2.2.2.1⟩
      case measure=>simp[intOf];omega
    ·obtain rfl:t=m:=by omega
     go_wp2;go_roundw
     case rel=>exact⟨k+1,by omega,by go_num,hIz (by
      obtain⟨b,h1,h2⟩:=hqt.out;rw[← HM.out.1] at h2;exact⟨b,h1,h2.next⟩),hbt⟩
     case measure=>simp[intOf];omega
  ·obtain rfl:k=n:=by omega
   have FIN:=hIz (show VI w G lb side (.returned (.tuple #[.pointer (some ⟨q,0,none⟩),.int .i64 0])) wr from by
    obtain⟨b,h1,h2⟩:=hq.out;rw[← H.out.2.2.2] at h2;exact⟨q,b,rfl,h1,hbw.out,h2.all H.out.2.1 H.out.2.2.1⟩)
   clear hq hbw;go_wp2;refine bodyPost_ret (v:=.tuple #[.pointer (some ⟨q,0,none⟩),.int .i64 0]) (by simp[results,Tryz.f38,go_sem]) rfl FIN.out
open Go.RowKit Go.Shelf
def ElG(G:Gr)(labels:List Txt)(k:Int)(i j:Nat):Prop:=∃lb,labels[k.toNat]?=some lb∧∃x∈G.X,x.lb=lb∧G.N[i]?=some x.fr∧G.N[j]?=some x.to
theorem ElG.lt{G:Gr}{labels:List Txt}{k:Int}{i j:Nat}(h:ElG G labels k i j):i<G.N.length∧j<G.N.length:=by
 obtain⟨lb,-,x,-,-,h1,h2⟩:=h;exact⟨(gO.1 h1).1,(gO.1 h2).1⟩
theorem QuS.wdO{w:World}{F:Nat→Prop}{p side:Nat}{b:Option (List Nat)}(h:QuS w F p side b):WdO b:=by
 obtain⟨O,dep,cnt,m,last,L,pv,lv,hq,ok,-⟩:=h;exact fun r e=>(ok.is r e).2.2.2.2
theorem BF{El:Int→Nat→Nat→Prop}{n:Nat}(hn:n≤64){p:Pr}(hp:p.body=[]):tJ El n p (joinO none (cS lD n)):=by
 have hd:Wd lD:=jQ;have hc:=iM hd n;refine⟨WdO.joinO (b:=none) (fun r e=>by cases e) hc,?_⟩;rw[hp];intro i j hi;rw[mC (b:=none) cW hc hi,zB hi,LL hi];show(false||_)=true↔_
 simp only[Bool.false_or,Bool.and_eq_true,decide_eq_true_eq]
 constructor
 ·rintro⟨rfl,h1,-⟩;exact⟨rfl,h1⟩
 ·rintro⟨rfl,h1⟩;exact⟨rfl,h1,h1⟩
theorem GN{G:Gr}{labels:List Txt}{n:Nat}{p:Pr}{s:Sy}{lb:Txt}{m:Option (List Nat)}(hm:WdO m)(hp:p.body=[s])(hl:labels[s.at_.toNat]?=some lb)(h:LY G lb m):tJ (ElG G labels) n p m:=by
 refine⟨hm,?_⟩;rw[hp];intro i j hi hj;rw[h i j hi hj];constructor
 ·rintro⟨x,hx,e⟩;exact⟨lb,hl,x,hx,e⟩
 ·rintro⟨lb',hl',x,hx,e⟩;rw[hl] at hl';obtain rfl:=Option.some.inj hl';exact⟨x,hx,e⟩
def zE(w:World)(F:Nat→Prop)(p side nodes nts:Nat)(B:aX)(El:Int→Nat→Nat→Prop)(pr:Pr)(e:Ending)(w':World):Prop:=
 ∃m,tJ El nodes pr m∧e=.returned (.bool (dR (B pr.head.toNat) m))∧wH w F p side nodes nts (upM B pr.head.toNat (joinQ (B pr.head.toNat) m)) w'
theorem BG(w:World)(F:Nat→Prop)(p side nts:Nat)(B:aX)(h:ClS w F p side side nts B)(a:Nat)(A:Option Addr)(cap:Nat)(ha:a<nts)(hs1:1≤side)(hs64:side≤64)(El:Int→Nat→Nat→Prop)(lv gv:Value) :
  Calls Tryz.prog 112 #[.pointer (some ⟨p,0,none⟩),.agg #[.int .i64 (a:Int),.slice A 0 cap],lv,gv] w (zE w F p side side nts B El ⟨(a:Int),[]⟩):=by
 obtain⟨nodes,hnodes⟩:∃nodes,side=nodes:=⟨_,rfl⟩;have hnI:(1:Int)≤(nodes:Int):=by omega
 rw[show ClS w F p side side nts B=ClS w F p side nodes nts B by rw[← hnodes]] at h;have GG:=hIz (show ∀e w',(∃m,tJ El nodes ⟨(a:Int),[]⟩ m∧e=.returned (.bool (dR (B a) m))∧wH w F p side nodes nts (upM B a (joinQ (B a) m)) w')→zE w F p side side nts B El ⟨(a:Int),[]⟩ e w' from fun e w' h=>by
  subst hnodes;exact h)
 obtain⟨O,pv,ad,hi,rfl⟩:=h;obtain⟨g,gc,rfl,-,-,-,-,-⟩:=aL hi.rows (by omega);have b1:Below w.heap.size w (w.alloc (.cells #[.int .i64 (a:Int),.slice A 0 cap] 76)):=bR.alloc (Nat.le_refl _) _;have k1:=Blk.new w 76 #[.int .i64 (a:Int),.slice A 0 cap];have hi1:=hi.upd (upF b1) (fun _ _=>id);have SF:∀W,Below (w.alloc (.cells #[.int .i64 (a:Int),.slice A 0 cap] 76)).heap.size (w.alloc (.cells #[.int .i64 (a:Int),.slice A 0 cap] 76)) W →
   W.cell? ⟨p,1,none⟩=some (.slice (some ⟨g,0,none⟩) nts gc)∧W.cell? ⟨w.heap.size,0,none⟩=some (.int .i64 (a:Int))∧W.cell? ⟨g,a,none⟩=some (.pointer (some ⟨ad a,0,none⟩)):=fun W hW=>by
  have hi2:=hi1.upd (upF hW) (fun _ _=>id);have k2:=k1.upd (upF hW) id;obtain⟨g',c',e,-,-,-,-,hg⟩:=aL hi2.rows (by omega);injection e with e;injection e with e;injection e with e;subst e;exact⟨hi2.blk.cell 1,k2.cell 0,(hg a _ (gH ha)).1⟩
 have HX:=aI2 hi1 b1;have HS:=hIz SF;have haI:(a:Int)<(nts:Int):=by omega
 have qn:(w.alloc (.cells #[.int .i64 (a:Int),.slice A 0 cap] 76)).cell? ⟨p,0,none⟩=some (.int .i64 (nodes:Int)):=hi1.blk.cell 0;have qs:(w.alloc (.cells #[.int .i64 (a:Int),.slice A 0 cap] 76)).cell? ⟨w.heap.size,1,none⟩=some (.slice A 0 cap):=k1.cell 1;have hone:=LM (w.alloc (.cells #[.int .i64 (a:Int),.slice A 0 cap] 76)) nodes (by omega) (by omega);have HV:=hIz (BF (El:=El) (n:=nodes) (by omega) (p:=⟨(a:Int),[]⟩) rfl);have HN:=hIz hnodes;clear hi b1 k1 hi1 SF hnodes;go_enter Tryz.func112,Tryz.ntmps112;go_wp2_with fail;refine hone.mono ?_;clear hone;rintro e W2 ⟨q,rfl,hfr,b2⟩;rw[← HN.out] at hfr;have HQ:=hIz hfr;have HG:Hid (tJ El nodes ⟨(a:Int),[]⟩ (joinO none (cS lD side))):=hIz (by rw[HN.out];exact HV.out);generalize joinO none (cS lD side)=m at HQ HG;have B2:=hIz b2;clear hfr b2;generalize w.alloc (.cells #[.int .i64 (a:Int),.slice A 0 cap] 76)=W1 at HX HS B2 HQ qn qs ⊢;generalize w.heap.size=z at HS qs ⊢;go_upto_region 8 with (fail);have HB3:=hIz (show Below W2.heap.size W2 W2.drew from bR.drew);have hS:=HS.out W2.drew (tHn B2.out HB3.out);refine bS (fun W:World=>W.cell? ⟨p,1,none⟩=some (.slice (some ⟨g,0,none⟩) nts gc)∧W.cell? ⟨z,0,none⟩=some (.int .i64 (a:Int))∧W.cell? ⟨g,a,none⟩=some (.pointer (some ⟨ad a,0,none⟩))) (aO 9) (by kernel_rfl) ?_;generalize W2.drew=W3 at HB3 hS ⊢;intro hd;(refine aA 0 rfl hd hS ?_;clear hd;intro hd;(try simp only[Act.put,gA,gZ,sA,sZ,sS]))
 refine aA 1 rfl hd hS ?_;clear hd;intro hd;refine aA 2 rfl hd hS ?_;clear hd;intro hd;refine aA 3 rfl hd hS ?_;clear hd;intro hd;refine aA 4 rfl hd hS ?_;clear hd;intro hd;refine aA 5 rfl hd hS ?_;clear hd;intro hd;refine aA 6 rfl hd hS ?_;clear hd;intro hd;refine aA 7 rfl hd hS ?_;clear hd;intro hd;refine aA 8 rfl hd hS ?_;clear hd;intro hd;have hint:Hid (∃Fa Fm,QuS W3 Fa (ad a) side (B a)∧QuS W3 Fm q side m∧(∀q,Fa q→O q=some (.mat a))∧ClI W3 O p side nodes nts (.slice (some ⟨g,0,none⟩) nts gc) ad B):=hIz (by
  have hi3:=HX.out.1.upd (Upd.of_below (tHn B2.out HB3.out) (fun _=>False)) (fun _ _=>id);obtain⟨Fa,a1,a2⟩:=hi3.mats a ha;obtain⟨Fm,m1,-⟩:=HQ.out;exact⟨Fa,Fm,a1,m1.below HB3.out,a2,hi3⟩)
 obtain⟨Fa,Fm,a1,m1,a2,i3⟩:=hint.out;have hcon:=jS W3 Fa Fm (ad a) q side (B a) m a1 m1;have HI:=aI2 i3 a2;clear a1 m1 i3 a2 hint hS;refine aQ hd 9 ?_;clear hd;intro hd;refine aW (S:=(fun W:World=>W.cell? ⟨p,1,none⟩=some (.slice (some ⟨g,0,none⟩) nts gc)∧W.cell? ⟨z,0,none⟩=some (.int .i64 (a:Int))∧W.cell? ⟨g,a,none⟩=some (.pointer (some ⟨ad a,0,none⟩)))) (late:=aO 9) rfl rfl (fun K hK=>?_);go_simp;refine hcon.mono ?_;clear hcon;rintro e W4 ⟨rfl,hto⟩;have FIN:=hIz (show wH w (fun q=>O q≠none) p side nodes nts (upM B a (joinQ (B a) m)) W4 from(wH.after (HX.out.2.trans ((tHn B2.out HB3.out).mono HX.out.2.size)) (HI.out.1.turn HI.out.2 hto)));clear hto;refine hK _ _ (fun h _=>absurd h (by decide)) ?_;clear hK K;(try simp only[Act.put,gA,gS,gZ,sA,sZ,sS])
 (refine aU (i:=10) (v:=?_) rfl (by kernel_rfl) hd (fun _ _ d _ _ h=>by cases d <;> exact h) (by first | with_reducible rfl | kernel_rfl) ?_ ?_;rotate_left;(focus (intro wS;go_simp;(try with_reducible rfl);done));clear hd;intro hd;(try simp only[Act.put,gA,gS,gZ,sA,sZ,sS]))
 (refine aU (i:=11) (v:=?_) rfl (by kernel_rfl) hd (fun _ _ d _ _ h=>by cases d <;> exact h) (by first | with_reducible rfl | kernel_rfl) ?_ ?_;rotate_left;(focus (intro wS;go_simp;(try with_reducible rfl);done));clear hd;intro hd;(try simp only[Act.put,gA,gS,gZ,sA,sZ,sS]))
 (refine aU (i:=12) (v:=?_) rfl (by kernel_rfl) hd (fun _ _ d _ _ h=>by cases d <;> exact h) (by first | with_reducible rfl | kernel_rfl) ?_ ?_;rotate_left;(focus (intro wS;go_simp;(try with_reducible rfl);done));clear hd;intro hd;(try simp only[Act.put,gA,gS,gZ,sA,sZ,sS]))
 (refine aU (i:=13) (v:=?_) rfl (by kernel_rfl) hd (fun _ _ d _ _ h=>by cases d <;> exact h) (by first | with_reducible rfl | kernel_rfl) ?_ ?_;rotate_left;(focus (intro wS;go_simp;(try with_reducible rfl);done));clear hd;intro hd;(try simp only[Act.put,gA,gS,gZ,sA,sZ,sS]))
 (refine aU (i:=14) (v:=?_) rfl (by kernel_rfl) hd (fun _ _ d _ _ h=>by cases d <;> exact h) (by first | with_reducible rfl | kernel_rfl) ?_ ?_;rotate_left;(focus (intro wS;go_simp;(try with_reducible rfl);done));clear hd;intro hd;(try simp only[Act.put,gA,gS,gZ,sA,sZ,sS]))
 refine dK (by kernel_rfl) ?_;go_wp2;go_ret;exact GG.out _ _ ⟨m,HG.out,rfl,FIN.out⟩
theorem BH(w:World)(p:Nat)(hd:Int)(A:Option Addr)(len cap:Nat)(hl:2≤len)(lv gv:Value) :
  Calls Tryz.prog 112 #[.pointer (some ⟨p,0,none⟩),.agg #[.int .i64 hd,.slice A len cap],lv,gv] w (fun e w'=>e=.returned (.bool false)∧Below w.heap.size w w'):=by
 have b1:Below w.heap.size w (w.alloc (.cells #[.int .i64 hd,.slice A len cap] 76)):=bR.alloc (Nat.le_refl _) _;have k1:=Blk.new w 76 #[.int .i64 hd,.slice A len cap];have q1:(w.alloc (.cells #[.int .i64 hd,.slice A len cap] 76)).cell? ⟨w.heap.size,1,none⟩=some (.slice A len cap):=k1.cell 1;have z0:((len:Int)==0)=false:=by simp;omega
 have z1:((len:Int)==1)=false:=by simp;omega
 have H:=hIz b1;clear b1 k1;go_enter Tryz.func112,Tryz.ntmps112;go_wp2;go_ret;exact⟨rfl,H.out⟩
open Go.RowKit Go.Shelf
theorem BI(w:World)(F:Nat→Prop)(p side nts:Nat)(B:aX)(h:ClS w F p side side nts B)(a k:Nat)(lab:Bool)(A:Option Addr)(cap:Nat)(hr:bO w A (dM [⟨lab,k⟩]))(ha:a<nts)(hs1:1≤side)(hs64:side≤64)(LA:Option Addr)(cl:Nat)(labels:List Txt)(hlab:bO w LA (aG labels))(lb:Txt)(hk:labels[k]?=some lb)(Fg:Nat→Prop)(pg:Nat)(G:Gr)(hG:GrS w Fg pg G)(ok:GOk G)(hn:G.N.length=side) :
  Calls Tryz.prog 112 #[.pointer (some ⟨p,0,none⟩),.agg #[.int .i64 (a:Int),.slice A 1 cap],.slice LA labels.length cl,.pointer (some ⟨pg,0,none⟩)] w (zE w F p side side nts B (ElG G labels) ⟨(a:Int),[⟨lab,k⟩]⟩):=by
 obtain⟨nodes,hnodes⟩:∃nodes,side=nodes:=⟨_,rfl⟩;have hnI:(1:Int)≤(nodes:Int):=by omega
 rw[show ClS w F p side side nts B=ClS w F p side nodes nts B by rw[← hnodes]] at h;have GG:=hIz (show ∀e w',(∃m,tJ (ElG G labels) nodes ⟨(a:Int),[⟨lab,k⟩]⟩ m∧e=.returned (.bool (dR (B a) m))∧wH w F p side nodes nts (upM B a (joinQ (B a) m)) w')→zE w F p side side nts B (ElG G labels) ⟨(a:Int),[⟨lab,k⟩]⟩ e w' from fun e w' h=>by
  subst hnodes;exact h)
 obtain⟨O,pv,ad,hi,rfl⟩:=h;obtain⟨gb,go,rfl,-⟩:=hr 0 (.bool lab) rfl;obtain⟨lg,lo,rfl,-⟩:=hlab.txt hk;obtain⟨g,gc,rfl,-,-,-,-,-⟩:=aL hi.rows (by omega);have b1:Below w.heap.size w (w.alloc (.cells #[.int .i64 (a:Int),.slice (some ⟨gb,go,none⟩) 1 cap] 76)):=bR.alloc (Nat.le_refl _) _;have k1:=Blk.new w 76 #[.int .i64 (a:Int),.slice (some ⟨gb,go,none⟩) 1 cap];have hi1:=hi.upd (upF b1) (fun _ _=>id);have SF:∀W,Below (w.alloc (.cells #[.int .i64 (a:Int),.slice (some ⟨gb,go,none⟩) 1 cap] 76)).heap.size (w.alloc (.cells #[.int .i64 (a:Int),.slice (some ⟨gb,go,none⟩) 1 cap] 76)) W →
   W.cell? ⟨p,1,none⟩=some (.slice (some ⟨g,0,none⟩) nts gc)∧W.cell? ⟨w.heap.size,0,none⟩=some (.int .i64 (a:Int))∧W.cell? ⟨g,a,none⟩=some (.pointer (some ⟨ad a,0,none⟩)):=fun W hW=>by
  have hi2:=hi1.upd (upF hW) (fun _ _=>id);have k2:=k1.upd (upF hW) id;obtain⟨g',c',e,-,-,-,-,hg⟩:=aL hi2.rows (by omega);injection e with e;injection e with e;injection e with e;subst e;exact⟨hi2.blk.cell 1,k2.cell 0,(hg a _ (gH ha)).1⟩
 have HX:=aI2 hi1 b1;have HS:=hIz SF;have haI:(a:Int)<(nts:Int):=by omega
 have qn:(w.alloc (.cells #[.int .i64 (a:Int),.slice (some ⟨gb,go,none⟩) 1 cap] 76)).cell? ⟨p,0,none⟩=some (.int .i64 (nodes:Int)):=hi1.blk.cell 0;have qs:(w.alloc (.cells #[.int .i64 (a:Int),.slice (some ⟨gb,go,none⟩) 1 cap] 76)).cell? ⟨w.heap.size,1,none⟩=some (.slice (some ⟨gb,go,none⟩) 1 cap):=k1.cell 1;have hr1:=hr.below3 b1;have hl1:=hlab.below3 b1;have S7:=hIz (show ∀W,Below (w.alloc (.cells #[.int .i64 (a:Int),.slice (some ⟨gb,go,none⟩) 1 cap] 76)).heap.size (w.alloc (.cells #[.int .i64 (a:Int),.slice (some ⟨gb,go,none⟩) 1 cap] 76)) W →
   W.cell? ⟨w.heap.size,1,none⟩=some (.slice (some ⟨gb,go,none⟩) 1 cap)∧W.cell? ⟨gb,go+1,none⟩=some (.int .i64 (k:Int))∧W.cell? ⟨lg,lo+k,none⟩=some (.string lb)∧W.cell? ⟨p,0,none⟩=some (.int .i64 (nodes:Int)) from fun W hW=>by
  have hi2:=hi1.upd (upF hW) (fun _ _=>id);have k2:=k1.upd (upF hW) id;have hr2:=hr1.below3 hW;obtain⟨b',o',e,c1⟩:=hr2 1 (.int .i64 (k:Int)) rfl;injection e with e;injection e with e1 e2;subst e1;subst e2;obtain⟨b',o',e,c2⟩:=(hl1.below3 hW).txt hk;injection e with e;injection e with e1 e2;subst e1;subst e2;exact⟨k2.cell 1,c1,c2,hi2.blk.cell 0⟩)
 have HG0:=aI4 (hG.below b1) ok hn hk;have hkI:(k:Int)<(labels.length:Int):=by have:=(gO.1 hk).1;omega
 have hn64:nodes≤64:=by omega
 have HN:=hIz hnodes;clear hi b1 k1 hi1 SF hnodes hr hlab hG ok hn hk hr1 hl1;obtain⟨nl,hnl⟩:∃nl,labels.length=nl:=⟨_,rfl⟩;rw[hnl] at hkI ⊢;clear hnl;go_enter Tryz.func112,Tryz.ntmps112;go_upto_region 7 with (fail);generalize w.alloc (.cells #[.int .i64 (a:Int),.slice (some ⟨gb,go,none⟩) 1 cap] 76)=W1 at HX HS S7 HG0 qn qs ⊢;generalize w.heap.size=z at HS S7 qs ⊢;have HB1:=hIz (show Below W1.heap.size W1 W1.drew from bR.drew);have hS:=S7.out W1.drew HB1.out;refine bS (fun W:World=>W.cell? ⟨z,1,none⟩=some (.slice (some ⟨gb,go,none⟩) 1 cap)∧W.cell? ⟨gb,go+1,none⟩=some (.int .i64 (k:Int))∧W.cell? ⟨lg,lo+k,none⟩=some (.string lb)∧W.cell? ⟨p,0,none⟩=some (.int .i64 (nodes:Int))) (aO 13) (by kernel_rfl) ?_;generalize W1.drew=V1 at HB1 hS ⊢;intro hd;(refine aA 0 rfl hd hS ?_;clear hd;intro hd;(try simp only[Act.put,gA,gZ,sA,sZ,sS]))
 refine aA 1 rfl hd hS ?_;clear hd;intro hd;refine aA 2 rfl hd hS ?_;clear hd;intro hd;refine aA 3 rfl hd hS ?_;clear hd;intro hd;refine aA 4 rfl hd hS ?_;clear hd;intro hd;refine aA 5 rfl hd hS ?_;clear hd;intro hd;refine aA 6 rfl hd hS ?_;clear hd;intro hd;refine aA 7 rfl hd hS ?_;clear hd;intro hd;refine aA 8 rfl hd hS ?_;clear hd;intro hd;refine aA 9 rfl hd hS ?_;clear hd;intro hd;refine aA 10 rfl hd hS ?_;clear hd;intro hd;refine aA 11 rfl hd hS ?_;clear hd;intro hd;refine aA 12 rfl hd hS ?_;clear hd;intro hd;have hcon:=pM V1 Fg pg G (HG0.out.1.below HB1.out) HG0.out.2.1 lb nodes (by rw[HG0.out.2.2.1,HN.out];exact Nat.le_refl _) (by omega) (by omega);clear hS;refine aQ hd 13 ?_;clear hd;intro hd;refine aW (S:=(fun W:World=>W.cell? ⟨z,1,none⟩=some (.slice (some ⟨gb,go,none⟩) 1 cap)∧W.cell? ⟨gb,go+1,none⟩=some (.int .i64 (k:Int))∧W.cell? ⟨lg,lo+k,none⟩=some (.string lb)∧W.cell? ⟨p,0,none⟩=some (.int .i64 (nodes:Int)))) (late:=aO 13) rfl rfl (fun K hK=>?_);go_simp;refine hcon.mono ?_;clear hcon;rintro e W2 ⟨q,m,rfl,hfr,b2,hmat⟩;have HG:Hid (tJ (ElG G labels) nodes ⟨(a:Int),[⟨lab,k⟩]⟩ m):=hIz (by
  obtain⟨Fm,hq,-⟩:=hfr;exact GN hq.wdO rfl (by rw[Int.toNat_natCast];exact HG0.out.2.2.2) hmat)
 rw[← HN.out] at hfr;have HQ:=hIz hfr;have B2:=hIz (tHn HB1.out b2);clear hfr b2 hmat;refine hK _ _ (fun h _=>absurd h (by decide)) ?_;clear hK K;(try simp only[Act.put,gA,gS,gZ,sA,sZ,sS])
 (refine aU (i:=14) (v:=?_) rfl (by kernel_rfl) hd (fun _ _ d _ _ h=>by cases d <;> exact h) (by first | with_reducible rfl | kernel_rfl) ?_ ?_;rotate_left;(focus (intro wS;go_simp;(try with_reducible rfl);done));clear hd;intro hd;(try simp only[Act.put,gA,gS,gZ,sA,sZ,sS]))
 (refine aU (i:=15) (v:=?_) rfl (by kernel_rfl) hd (fun _ _ d _ _ h=>by cases d <;> exact h) (by first | with_reducible rfl | kernel_rfl) ?_ ?_;rotate_left;(focus (intro wS;go_simp;(try with_reducible rfl);done));clear hd;intro hd;(try simp only[Act.put,gA,gS,gZ,sA,sZ,sS]))
 (refine aU (i:=16) (v:=?_) rfl (by kernel_rfl) hd (fun _ _ d _ _ h=>by cases d <;> exact h) (by first | with_reducible rfl | kernel_rfl) ?_ ?_;rotate_left;(focus (intro wS;go_simp;(try with_reducible rfl);done));clear hd;intro hd;(try simp only[Act.put,gA,gS,gZ,sA,sZ,sS]))
 (refine aU (i:=17) (v:=?_) rfl (by kernel_rfl) hd (fun _ _ d _ _ h=>by cases d <;> exact h) (by first | with_reducible rfl | kernel_rfl) ?_ ?_;rotate_left;(focus (intro wS;go_simp;(try with_reducible rfl);done));clear hd;intro hd;(try simp only[Act.put,gA,gS,gZ,sA,sZ,sS]))
 refine dK (by kernel_rfl) ?_;go_upto_region 8 with (fail);have HB3:=hIz (show Below W2.heap.size W2 W2.drew from bR.drew);have hS:=HS.out W2.drew (tHn B2.out HB3.out);refine bS (fun W:World=>W.cell? ⟨p,1,none⟩=some (.slice (some ⟨g,0,none⟩) nts gc)∧W.cell? ⟨z,0,none⟩=some (.int .i64 (a:Int))∧W.cell? ⟨g,a,none⟩=some (.pointer (some ⟨ad a,0,none⟩))) (aO 9) (by kernel_rfl) ?_;generalize W2.drew=W3 at HB3 hS ⊢;intro hd;(refine aA 0 rfl hd hS ?_;clear hd;intro hd;(try simp only[Act.put,gA,gZ,sA,sZ,sS]))
 refine aA 1 rfl hd hS ?_;clear hd;intro hd;refine aA 2 rfl hd hS ?_;clear hd;intro hd;refine aA 3 rfl hd hS ?_;clear hd;intro hd;refine aA 4 rfl hd hS ?_;clear hd;intro hd;refine aA 5 rfl hd hS ?_;clear hd;intro hd;refine aA 6 rfl hd hS ?_;clear hd;intro hd;refine aA 7 rfl hd hS ?_;clear hd;intro hd;refine aA 8 rfl hd hS ?_;clear hd;intro hd;have hint:Hid (∃Fa Fm,QuS W3 Fa (ad a) side (B a)∧QuS W3 Fm q side m∧(∀q,Fa q→O q=some (.mat a))∧ClI W3 O p side nodes nts (.slice (some ⟨g,0,none⟩) nts gc) ad B):=hIz (by
  have hi3:=HX.out.1.upd (Upd.of_below (tHn B2.out HB3.out) (fun _=>False)) (fun _ _=>id);obtain⟨Fa,a1,a2⟩:=hi3.mats a ha;obtain⟨Fm,m1,-⟩:=HQ.out;exact⟨Fa,Fm,a1,m1.below HB3.out,a2,hi3⟩)
 obtain⟨Fa,Fm,a1,m1,a2,i3⟩:=hint.out;have hcon:=jS W3 Fa Fm (ad a) q side (B a) m a1 m1;have HI:=aI2 i3 a2;clear a1 m1 i3 a2 hint hS;refine aQ hd 9 ?_;clear hd;intro hd;refine aW (S:=(fun W:World=>W.cell? ⟨p,1,none⟩=some (.slice (some ⟨g,0,none⟩) nts gc)∧W.cell? ⟨z,0,none⟩=some (.int .i64 (a:Int))∧W.cell? ⟨g,a,none⟩=some (.pointer (some ⟨ad a,0,none⟩)))) (late:=aO 9) rfl rfl (fun K hK=>?_);go_simp;refine hcon.mono ?_;clear hcon;rintro e W4 ⟨rfl,hto⟩;have FIN:=hIz (show wH w (fun q=>O q≠none) p side nodes nts (upM B a (joinQ (B a) m)) W4 from(wH.after (HX.out.2.trans ((tHn B2.out HB3.out).mono HX.out.2.size)) (HI.out.1.turn HI.out.2 hto)));clear hto;refine hK _ _ (fun h _=>absurd h (by decide)) ?_;clear hK K;(try simp only[Act.put,gA,gS,gZ,sA,sZ,sS])
 (refine aU (i:=10) (v:=?_) rfl (by kernel_rfl) hd (fun _ _ d _ _ h=>by cases d <;> exact h) (by first | with_reducible rfl | kernel_rfl) ?_ ?_;rotate_left;(focus (intro wS;go_simp;(try with_reducible rfl);done));clear hd;intro hd;(try simp only[Act.put,gA,gS,gZ,sA,sZ,sS]))
 (refine aU (i:=11) (v:=?_) rfl (by kernel_rfl) hd (fun _ _ d _ _ h=>by cases d <;> exact h) (by first | with_reducible rfl | kernel_rfl) ?_ ?_;rotate_left;(focus (intro wS;go_simp;(try with_reducible rfl);done));clear hd;intro hd;(try simp only[Act.put,gA,gS,gZ,sA,sZ,sS]))
 (refine aU (i:=12) (v:=?_) rfl (by kernel_rfl) hd (fun _ _ d _ _ h=>by cases d <;> exact h) (by first | with_reducible rfl | kernel_rfl) ?_ ?_;rotate_left;(focus (intro wS;go_simp;(try with_reducible rfl);done));clear hd;intro hd;(try simp only[Act.put,gA,gS,gZ,sA,sZ,sS]))
 (refine aU (i:=13) (v:=?_) rfl (by kernel_rfl) hd (fun _ _ d _ _ h=>by cases d <;> exact h) (by first | with_reducible rfl | kernel_rfl) ?_ ?_;rotate_left;(focus (intro wS;go_simp;(try with_reducible rfl);done));clear hd;intro hd;(try simp only[Act.put,gA,gS,gZ,sA,sZ,sS]))
 (refine aU (i:=14) (v:=?_) rfl (by kernel_rfl) hd (fun _ _ d _ _ h=>by cases d <;> exact h) (by first | with_reducible rfl | kernel_rfl) ?_ ?_;rotate_left;(focus (intro wS;go_simp;(try with_reducible rfl);done));clear hd;intro hd;(try simp only[Act.put,gA,gS,gZ,sA,sZ,sS]))
 refine dK (by kernel_rfl) ?_;go_wp2;go_ret;exact GG.out _ _ ⟨m,HG.out,rfl,FIN.out⟩
open Go.RowKit Go.Shelf
structure Pv where
 pr:Pr
 adr:Option Addr
 cap:Nat
def Pv.cells(v:Pv):List Value:=[.int .i64 v.pr.head,.slice v.adr v.pr.body.length v.cap]
def cQ(l:List Pv):List Value:=l.flatMap Pv.cells
theorem xT(l:List Pv)(v:Pv):cQ (l++[v])=cQ l++v.cells:=by simp[cQ]
theorem rC{l:List Pv}{k:Nat}{v:Pv}(h:l[k]?=some v):(cQ l)[k*2]?=some (.int .i64 v.pr.head)∧(cQ l)[k*2+1]?=some (.slice v.adr v.pr.body.length v.cap):=
 ⟨dN Pv.cells 2 (fun _=>rfl) l k 0 v h (by omega),dN Pv.cells 2 (fun _=>rfl) l k 1 v h (by omega)⟩
theorem bO.pv{w:World}{A:Option Addr}{l:List Pv}(h:bO w A (cQ l)){k:Nat}{v:Pv}(hk:l[k]?=some v) :
  ∃b o,A=some ⟨b,o,none⟩∧w.cell? ⟨b,o+k*2,none⟩=some (.int .i64 v.pr.head)∧w.cell? ⟨b,o+k*2+1,none⟩=some (.slice v.adr v.pr.body.length v.cap):=by
 obtain⟨b,o,rfl,c0⟩:=h _ _ (rC hk).1;obtain⟨b',o',e,c1⟩:=h _ _ (rC hk).2;injection e with e;injection e with e1 e2;subst e1;subst e2;exact⟨b,o,rfl,c0,c1⟩
def PvR(w:World)(A:Option Addr)(l:List Pv):Prop:=bO w A (cQ l)∧∀v∈l,bO w v.adr (dM v.pr.body)
theorem PvR.below{w w':World}{A:Option Addr}{l:List Pv}(h:PvR w A l)(hb:Below w.heap.size w w'):PvR w' A l:=⟨h.1.below3 hb,fun v hv=>(h.2 v hv).below3 hb⟩

def uvC(uv:Nat→Value)(nts:Nat):List Value:=(List.range nts).map uv
theorem rD{uv:Nat→Value}{nts k:Nat}(h:k<nts):(uvC uv nts)[k]?=some (uv k):=by simp[uvC,h]
structure UsI(w:World)(U:Nat→Option (Option Nat))(u nts:Nat)(uv:Nat→Value)(Q:Nat→List Pv):Prop where
 blk:Blk w u 30 (uvC uv nts).toArray
 rows:∀k,k<nts→w.ownsRow 0 76 2 (uv k) (Q k).length (cQ (Q k))
 ou:U u=some none
 our:∀k,k<nts→∀q,(uv k).ownBlock=some q→U q=some (some k)
 lt:∀q,U q≠none→q<w.heap.size
theorem UsI.upd{w w':World}{U:Nat→Option (Option Nat)}{u nts:Nat}{uv:Nat→Value}{Q:Nat→List Pv}{G:Nat→Prop}(h:UsI w U u nts uv Q)(hu:Upd G w w')(hd:∀q,U q≠none→¬G q):UsI w' U u nts uv Q:=by
 have no:∀k t,U k=some t→¬G k:=fun k t e=>hd k (by simp[e])
 exact⟨h.blk.upd hu (no _ _ h.ou),fun k hk=>aB (h.rows k hk) hu (fun q hq=>no _ _ (h.our k hk q hq)),h.ou,h.our,fun q hq=>Nat.lt_of_lt_of_le (h.lt q hq) hu.size⟩
structure VS(w V:World)(F:Nat→Prop)(p n nts pw pm u:Nat)(X:Nat→Prop)(B:aX)(L:List Int)(Q:Nat→List Pv)(FC:Nat→Prop)(lv:Value)(U:Nat→Option (Option Nat))(uv:Nat→Value):Prop where
 cl:ClS V FC p n n nts B
 wk:WkI V pw pm nts lv L
 us:UsI V U u nts uv Q
 up:Upd F w V
 c1:∀k,FC k→F k∨w.heap.size≤k
 c2:∀k,WkF pw pm lv k→w.heap.size≤k
 c3:∀k,U k≠none→w.heap.size≤k
 d12:∀k,FC k→¬WkF pw pm lv k
 d13:∀k,FC k→U k=none
 d23:∀k,WkF pw pm lv k→U k=none
 x0:∀k,X k→k<V.heap.size
 x1:∀k,X k→¬FC k
 x2:∀k,X k→¬WkF pw pm lv k
 x3:∀k,X k→U k=none
def kL(w V:World)(F:Nat→Prop)(p n nts pw pm u:Nat)(X:Nat→Prop)(B:aX)(L:List Int)(Q:Nat→List Pv):Prop:=∃FC lv U uv,VS w V F p n nts pw pm u X B L Q FC lv U uv
theorem WkI.lts{w:World}{p m nts:Nat}{lv:Value}{L:List Int}(h:WkI w p m nts lv L):∀k,WkF p m lv k→k<w.heap.size:=fun k hk=>by
 rcases hk with e|e|e
 ·subst e;exact h.ch.1.lt
 ·subst e;exact h.mks.lt
 ·exact(h.ch.2.lt k e).2
theorem aS{w w':World}(hb:Below w.heap.size w w'){q:Addr}{v:Value}(hc:w.cell? q=some v):w'.cell? q=some v:=by
 rw[hb.cell (World.block_lt_of_cell? w _ hc)];exact hc
def NoX(_:Nat):Prop:=False
section
variable {w V V':World} {F X:Nat→Prop} {p n nts pw pm u:Nat} {B:aX} {L:List Int} {Q:Nat→List Pv}
theorem kL.below(h:kL w V F p n nts pw pm u X B L Q)(hb:Below V.heap.size V V'):kL w V' F p n nts pw pm u X B L Q:=by
 obtain⟨FC,lv,U,uv,h⟩:=h;have hu:=Upd.of_below hb (fun _=>False);exact⟨FC,lv,U,uv,h.cl.below hb,h.wk.upd hu id id (fun _ _=>id),h.us.upd hu (fun _ _=>id),h.up.trans hu (fun _ h=>h.elim),h.c1,h.c2,h.c3,h.d12,h.d13,h.d23,fun k hk=>Nat.lt_of_lt_of_le (h.x0 k hk) hb.size,h.x1,h.x2,h.x3⟩
theorem kL.box(h:kL w V F p n nts pw pm u NoX B L Q)(o:Obj):kL w (V.alloc o) F p n nts pw pm u (fun k=>k=V.heap.size) B L Q:=by
 have h1:=h.below (V':=V.alloc o) (bR.alloc (Nat.le_refl _) _);obtain⟨FC,lv,U,uv,h⟩:=h;have hu:=Upd.of_below ((Below.refl V.heap.size V).alloc (Nat.le_refl _) o) (fun _=>False);refine⟨FC,lv,U,uv,h.cl.upd hu (fun _ _=>id),h.wk.upd hu id id (fun _ _=>id),h.us.upd hu (fun _ _=>id),h.up.trans hu (fun _ h=>h.elim),h.c1,h.c2,h.c3,h.d12,h.d13,h.d23,fun k hk=>by subst hk;simp,fun k hk e=>?_,fun k hk e=>?_,fun k hk=>?_⟩
 ·have:=h.cl.lt k e;omega
 ·have:=h.wk.lts k e;omega
 ·cases hU:U k with
  | none=>rfl
  | some t=>have:=h.us.lt k (by rw[hU];exact nofun);omega
theorem kL.bare(h:kL w V F p n nts pw pm u X B L Q):kL w V F p n nts pw pm u NoX B L Q:=by
 obtain⟨FC,lv,U,uv,h⟩:=h;exact⟨FC,lv,U,uv,h.cl,h.wk,h.us,h.up,h.c1,h.c2,h.c3,h.d12,h.d13,h.d23,fun _ hk=>hk.elim,fun _ hk=>hk.elim,fun _ hk=>hk.elim,fun _ hk=>hk.elim⟩
theorem kL.turn(h:kL w V F p n nts pw pm u X B L Q):∃FC,ClS V FC p n n nts B∧∀B' V',wH V FC p n n nts B' V'→kL w V' F p n nts pw pm u X B' L Q∧(∀o,V'.cell? ⟨u,o,none⟩=V.cell? ⟨u,o,none⟩)∧∀b o,X b→V'.cell? ⟨b,o,none⟩=V.cell? ⟨b,o,none⟩:=by
 obtain⟨FC,lv,U,uv,h⟩:=h;refine⟨FC,h.cl,fun B' V' ⟨F',h1,h2,h3⟩=>⟨⟨F',lv,U,uv,h1,h.wk.upd h2 (fun e=>h.d12 _ e (.inl rfl)) (fun e=>h.d12 _ e (.inr (.inl rfl))) (fun k hk e=>h.d12 _ e (.inr (.inr hk))),h.us.upd h2 (fun q hq e=>hq (h.d13 q e)),h.up.trans h2 h.c1,fun k hk=>?_,h.c2,h.c3,fun k hk e=>?_,fun k hk=>?_,h.d23,fun k hk=>Nat.lt_of_lt_of_le (h.x0 k hk) h2.size,fun k hk e=>?_,h.x2,h.x3⟩,
  fun o=>h2.cell (p:=⟨u,o,none⟩) h.us.blk.lt (fun e=>by have:=h.d13 _ e;rw[h.us.ou] at this;cases this),fun b o hb=>h2.cell (p:=⟨b,o,none⟩) (h.x0 b hb) (h.x1 b hb)⟩⟩
 ·rcases h3 k hk with h4|h4
  ·exact h.c1 k h4
  ·exact .inr (Nat.le_trans h.up.size h4)
 ·rcases h3 k hk with h4|h4
  ·exact h.d12 k h4 e
  ·have:=h.wk.lts k e;omega
 ·rcases h3 k hk with h4|h4
  ·exact h.d13 k h4
  ·cases hU:U k with
   | none=>rfl
   | some t=>have:=h.us.lt k (by rw[hU];exact nofun);omega
 ·rcases h3 k e with h4|h4
  ·exact h.x1 k hk h4
  ·have:=h.x0 k hk;omega
theorem kL.work(h:kL w V F p n nts pw pm u X B L Q):∃lv,WkI V pw pm nts lv L∧∀C V',WkT V pw pm nts lv C V'→(∃L',C L'∧kL w V' F p n nts pw pm u X B L' Q)∧(∀o,V'.cell? ⟨u,o,none⟩=V.cell? ⟨u,o,none⟩)∧∀b o,X b→V'.cell? ⟨b,o,none⟩=V.cell? ⟨b,o,none⟩:=by
 obtain⟨FC,lv,U,uv,h⟩:=h;refine⟨lv,h.wk,fun C V' ⟨lv',L',h1,h2,h3,h4⟩=>⟨⟨L',h2,FC,lv',U,uv,h.cl.upd h3 h.d12,h1,h.us.upd h3 (fun q hq e=>hq (h.d23 q e)),h.up.trans h3 (fun k hk=>.inr (h.c2 k hk)),h.c1,fun k hk=>?_,h.c3,fun k hk e=>?_,h.d13,fun k hk=>?_,fun k hk=>Nat.lt_of_lt_of_le (h.x0 k hk) h3.size,h.x1,fun k hk e=>?_,h.x3⟩,
  fun o=>h3.cell (p:=⟨u,o,none⟩) h.us.blk.lt (fun e=>by have:=h.d23 _ e;rw[h.us.ou] at this;cases this),fun b o hb=>h3.cell (p:=⟨b,o,none⟩) (h.x0 b hb) (h.x2 b hb)⟩⟩
 ·rcases hk with e|e|e
  ·exact h.c2 k (.inl e)
  ·exact h.c2 k (.inr (.inl e))
  ·rcases h4 k e with e|e
   ·exact h.c2 k (.inr (.inr e))
   ·exact Nat.le_trans h.up.size e
 ·rcases e with e|e|e
  ·exact h.d12 k hk (.inl e)
  ·exact h.d12 k hk (.inr (.inl e))
  ·rcases h4 k e with e|e
   ·exact h.d12 k hk (.inr (.inr e))
   ·have:=h.cl.lt k hk;omega
 ·rcases hk with e|e|e
  ·exact h.d23 k (.inl e)
  ·exact h.d23 k (.inr (.inl e))
  ·rcases h4 k e with e|e
   ·exact h.d23 k (.inr (.inr e))
   ·cases hU:U k with
    | none=>rfl
    | some t=>have:=h.us.lt k (by rw[hU];exact nofun);omega
 ·rcases e with e|e|e
  ·exact h.x2 k hk (.inl e)
  ·exact h.x2 k hk (.inr (.inl e))
  ·rcases h4 k e with e|e
   ·exact h.x2 k hk (.inr (.inr e))
   ·have:=h.x0 k hk;omega
theorem kL.use(h:kL w V F p n nts pw pm u X B L Q){k:Nat}(hk:k<nts):∃A c,V.cell? ⟨u,k,none⟩=some (.slice A (Q k).length c)∧V.frozen? ⟨u,k,none⟩=false∧bO V A (cQ (Q k)):=by
 obtain⟨FC,lv,U,uv,h⟩:=h;have own:=h.us.rows k hk;obtain⟨A,c,e,-,-⟩:=aH own;rw[e] at own;refine⟨A,c,?_,h.us.blk.frozen k,bO.of_own own⟩;rw[h.us.blk.cell k,List.getElem?_toArray,rD hk,e]
theorem vX:(Tryz.prog.info? 76).map (fun i=>(i.zero,i.size,i.bytes))=some (some (.agg #[.int .i64 0,.slice none 0 0]),2,32):=by kernel_rfl
theorem kL.push(h:kL w V F p n nts pw pm u X B L Q){k:Nat}(hk:k<nts)(v:Pv)(hl:(Q k).length≤1000000):∃A c A' c' W2,V.cell? ⟨u,k,none⟩=some (.slice A (Q k).length c) ∧
  (Builtin.append_ #[30,30] 30 #[.slice A (Q k).length c,.slice (some ⟨V.heap.size,0,none⟩) 1 1]).run Tryz.prog (V.alloc (.cells #[.int .i64 v.pr.head,.slice v.adr v.pr.body.length v.cap] 76))=.ok (.slice A' ((Q k).length+1) c') W2 ∧
  W2.cell? ⟨u,k,none⟩=some (.slice A (Q k).length c)∧W2.frozen? ⟨u,k,none⟩=false∧Upd (fun q=>w.heap.size≤q) V W2∧(∀b o,X b→W2.cell? ⟨b,o,none⟩=V.cell? ⟨b,o,none⟩)∧kL w (W2.setCell ⟨u,k,none⟩ (.slice A' ((Q k).length+1) c')) F p n nts pw pm u X B L (fun q=>if q=k then Q k++[v] else Q q)∧∀b o,X b→(W2.setCell ⟨u,k,none⟩ (.slice A' ((Q k).length+1) c')).cell? ⟨b,o,none⟩=V.cell? ⟨b,o,none⟩:=by
 obtain⟨FC,lv,U,uv,h⟩:=h;have own:=h.us.rows k hk;obtain⟨A,c,e,-,-⟩:=aH own;have q0:V.cell? ⟨u,k,none⟩=some (.slice A (Q k).length c):=by rw[h.us.blk.cell k,List.getElem?_toArray,rD hk,e]
 obtain⟨v2,W2,happ,own2,u2,p2⟩:=dB V 0 30 76 2 32 _ Tryz.underlying30 vX rfl (by decide) (uv k) (Q k).length (cQ (Q k)) own v.cells 1 rfl (fun x hx=>by
  rcases List.mem_cons.1 hx with rfl|hx
  ·rfl
  ·rw[List.mem_singleton.1 hx];rfl) (by omega) (by unfold maxLen;omega) (Nat.zero_le _)
 obtain⟨A',c',rfl,-,-⟩:=aH own2;have hn0:∀q,(uv k).ownBlock=some q→U q=some (some k):=h.us.our k hk;have hb2:=h.us.blk.upd u2 (fun e=>by have:=hn0 _ e;rw[h.us.ou] at this;cases this);have hu3:Upd (fun q=>(uv k).ownBlock=some q∨q=u) V (W2.setCell ⟨u,k,none⟩ (.slice A' ((Q k).length+1) c')):=(u2.mono (fun q _ e=>.inl e)).setCell (p:=⟨u,k,none⟩) (.inl (.inr rfl)) _;have hUF:∀q,(uv k).ownBlock=some q∨q=u→U q≠none:=fun q hq=>hq.elim (fun e=>by rw[hn0 q e];exact nofun) (fun e=>by rw[e,h.us.ou];exact nofun)
 have hz:=hu3.size;have hwz:w.heap.size≤V.heap.size:=h.up.size;have hult:u<V.heap.size:=h.us.blk.lt;have ho2:=own2.lt;refine⟨A,c,A',c',W2,q0,by rw[← e];exact happ,?_,hb2.frozen k,u2.mono (fun q _ e=>h.c3 q (hUF q (.inl e))),fun b o hb=>u2.cell (p:=⟨b,o,none⟩) (h.x0 b hb) (fun e=>hUF b (.inl e) (h.x3 b hb)),⟨FC,lv,fun q=>if q<V.heap.size then U q else if (Value.slice A' ((Q k).length+1) c').ownBlock=some q then some (some k) else none,fun q=>if q=k then .slice A' ((Q k).length+1) c' else uv q,?_,?_,?_,h.up.trans hu3 (fun q hq=>.inr (h.c3 q (hUF q hq))),h.c1,h.c2,?_,h.d12,?_,?_,fun b hb=>Nat.lt_of_lt_of_le (h.x0 b hb) hu3.size,h.x1,h.x2,?_⟩,fun b o hb=>hu3.cell (p:=⟨b,o,none⟩) (h.x0 b hb) (fun e=>hUF b e (h.x3 b hb))⟩
 ·rw[hb2.cell k,List.getElem?_toArray,rD hk,e]
 ·exact h.cl.upd hu3 (fun q hq e=>hUF q e (h.d13 q hq))
 ·exact h.wk.upd hu3 (fun e=>hUF _ e (h.d23 _ (.inl rfl))) (fun e=>hUF _ e (h.d23 _ (.inr (.inl rfl)))) (fun q hq e=>hUF q e (h.d23 q (.inr (.inr hq))))
 ·have hbk:=hb2.set k (.slice A' ((Q k).length+1) c');refine⟨?_,fun j hj=>?_,?_,fun j hj q hq=>?_,fun q hq=>?_⟩
  ·have e2:(uvC uv nts).toArray.setIfInBounds k (.slice A' ((Q k).length+1) c')=(uvC (fun q=>if q=k then .slice A' ((Q k).length+1) c' else uv q) nts).toArray:=by
    rw[List.setIfInBounds_toArray];congr 1
    apply List.ext_getElem?
    intro i;rw[List.getElem?_set];by_cases hi:k=i
    ·subst hi;rw[if_pos rfl,if_pos (by simpa[uvC] using hk),rD hk,if_pos rfl]
    ·rw[if_neg hi];by_cases hl:i<nts
     ·rw[rD hl,rD hl,if_neg (fun e=>hi e.symm)]
     ·simp[uvC,hl]
   rw[e2] at hbk;exact hbk
  ·by_cases ej:j=k
   ·subst ej;simp only[if_true]
    rw[List.length_append,xT];exact aB own2 ((Upd.refl (fun q=>q=u) W2).setCell (p:=⟨u,j,none⟩) (.inl rfl) (.slice A' ((Q j).length+1) c')) (fun q hq e=>by
     subst e;rcases p2 q hq with h1|h1
     ·have:=hn0 _ h1;rw[h.us.ou] at this;cases this
     ·omega)
   ·rw[if_neg ej,if_neg ej];exact aB (h.us.rows j hj) hu3 (fun q hq e=>by
     have e1:=h.us.our j hj q hq;rcases e with e|e
     ·rw[hn0 q e] at e1;injection e1 with e1;injection e1 with e1;exact ej e1.symm
     ·rw[e,h.us.ou] at e1;cases e1)
  ·show(if u<V.heap.size then U u else _)=_
   rw[if_pos hult];exact h.us.ou
  ·show(if q<V.heap.size then U q else _)=_
   by_cases ej:j=k
   ·subst ej;rw[if_pos rfl] at hq;by_cases hl:q<V.heap.size
    ·rw[if_pos hl];rcases p2 q hq with h1|h1
     ·exact hn0 q h1
     ·omega
    ·rw[if_neg hl,if_pos hq]
   ·rw[if_neg ej] at hq;have e1:=h.us.our j hj q hq;rw[if_pos (h.us.lt q (by rw[e1];exact nofun))];exact e1
  ·by_cases hl:q<V.heap.size
   ·omega
   ·have hq:(if q<V.heap.size then U q else if (Value.slice A' ((Q k).length+1) c').ownBlock=some q then some (some k) else none)≠none:=hq;rw[if_neg hl] at hq;by_cases e1:(Value.slice A' ((Q k).length+1) c').ownBlock=some q
    ·have:=(ho2 q e1).2;simpa[World.setCell] using this
    ·rw[if_neg e1] at hq;exact absurd rfl hq
 ·intro q hq;by_cases hl:q<V.heap.size
  ·have hq:(if q<V.heap.size then U q else _)≠none:=hq;rw[if_pos hl] at hq;exact h.c3 q hq
  ·omega
 ·intro q hq;have hl:=h.cl.lt q hq;show(if q<V.heap.size then U q else _)=_
  rw[if_pos hl];exact h.d13 q hq
 ·intro q hq;have hl:=h.wk.lts q hq;show(if q<V.heap.size then U q else _)=_
  rw[if_pos hl];exact h.d23 q hq
 ·intro q hq;have hl:=h.x0 q hq;show(if q<V.heap.size then U q else _)=_
  rw[if_pos hl];exact h.x3 q hq
end
theorem WkI.pop{V V1:World}{pw pm nts:Nat}{lv:Value}{L:List Int}{x:Int}(h:WkI V pw pm nts lv L)(ht:ChT V pw lv (.slice (some ⟨pm,0,none⟩) nts nts) (fun L'=>L.Perm (x::L')) V1) :
  ∃k:Nat,x=(k:Int)∧k<nts∧V1.cell? ⟨pw,1,none⟩=some (.slice (some ⟨pm,0,none⟩) nts nts)∧(∃b,V1.cell? ⟨pm,k,none⟩=some (.bool b))∧V1.frozen? ⟨pm,k,none⟩=false∧WkT V pw pm nts lv (fun L'=>L.Perm (x::L')) (V1.setCell ⟨pm,k,none⟩ (.bool false)):=by
 obtain⟨lv',L',h1,h2,h3,h4,h5⟩:=ht;have hx:=h.inL x (h2.mem_iff.2 (List.mem_cons_self ..));obtain⟨k,rfl⟩:∃k:Nat,x=(k:Int):=⟨x.toNat,by omega⟩;have hk:k<nts:=by omega
 have hmb:=h.mks.upd h3 (fun e=>e.elim h.ne (fun e=>h.nm _ e rfl));have hnm':∀q,lv'.ownBlock=some q→¬q=pm:=fun q hq e=>by
  rcases h4 q hq with h6|h6
  ·exact h.nm q h6 e
  ·have:=h.mks.lt;subst e;omega
 have hnd:=List.nodup_cons.1 (h2.nodup_iff.1 h.nd);refine⟨k,rfl,hk,h1.1.cell 1,⟨_,by rw[hmb.cell k,List.getElem?_toArray];exact vW hk⟩,hmb.frozen k,lv',L',?_,h2,?_,h4⟩
 ·have us:=(Upd.refl (fun q=>q=pm) V1).setCell (p:=⟨pm,k,none⟩) (.inl rfl) (.bool false);refine⟨h1.upd us (fun e=>h.ne e.symm) hnm',?_,h5,hnm',h.ne,fun y hy=>h.inL y (h2.mem_iff.2 (List.mem_cons_of_mem _ hy)),hnd.2⟩;have hb:=hmb.set k (.bool false);rw[List.setIfInBounds_toArray,GM false (L':=L') (fun y hy=>by rw[h2.mem_iff,List.mem_cons];exact⟨.inr,fun h=>h.resolve_left hy⟩) (decide_eq_false hnd.1)] at hb;exact hb
 ·exact(h3.mono (F':=WkF pw pm lv) (fun q _ hq=>hq.imp id .inr)).setCell (p:=⟨pm,k,none⟩) (.inl (.inr (.inl rfl))) _
open Go.RowKit Go.Shelf
def pN(k:Nat)(v:Pv):Bool:=match v.pr.body with
 | [s,t]=>s.at_==(k:Int)||t.at_==(k:Int)
 | _=>false
def iA(PV:List Pv)(t k:Nat):List Pv:=(PV.take t).filter (pN k)
theorem GO(PV:List Pv):iA PV 0=fun _=>[]:=by funext k;simp[iA]
theorem pP{PV:List Pv}{t:Nat}{v:Pv}(h:PV[t]?=some v)(k:Nat):iA PV (t+1) k=if pN k v=true then iA PV t k++[v] else iA PV t k:=by
 unfold iA;rw[List.take_add_one,h,Option.toList_some,List.filter_append];split
 ·rename_i e;rw[List.filter_cons_of_pos e];simp
 ·rename_i e;rw[List.filter_cons_of_neg e];simp
theorem zF(PV:List Pv)(t k:Nat):(iA PV t k).length≤PV.length:=Nat.le_trans (List.length_filter_le ..) (List.length_take_le' ..)
theorem zG{PV:List Pv}{t k:Nat}{v:Pv}(h:v∈iA PV t k):v∈PV∧pN k v=true:=by
 obtain⟨h1,h2⟩:=List.mem_filter.1 h;exact⟨List.mem_of_mem_take h1,h2⟩
theorem vY{k:Nat}{v:Pv}(h:pN k v=true):∃s t,v.pr.body=[s,t]∧(s.at_=(k:Int)∨t.at_=(k:Int)):=by
 unfold pN at h;split at h
 ·rename_i s t e
  exact⟨s,t,e,by simpa using h⟩
 ·cases h
theorem pQ{k:Nat}{v:Pv}{s t:Sy}(e:v.pr.body=[s,t]):pN k v=(s.at_==(k:Int)||t.at_==(k:Int)):=by
 unfold pN;rw[e]
structure QD(nts nl:Nat)(v:Pv):Prop where
 g:xS nts v.pr
 few:v.pr.body.length≤2
 one:∀s,v.pr.body=[s]→0≤s.at_∧s.at_<(nl:Int)
theorem GP{nts nl:Nat}{v:Pv}(h:cC v.pr nts nl=true):QD nts nl v:=by
 obtain⟨⟨hd,bd⟩,A,c⟩:=v;unfold cC at h;simp only[Bool.and_eq_true,decide_eq_true_eq] at h
 obtain⟨⟨h0,h1⟩,h2⟩:=h;refine⟨⟨h0,h1,fun s t e=>?_⟩,?_,fun s e=>?_⟩
 ·have e:bd=[s,t]:=e;subst e;simp only[iU,Bool.and_eq_true,decide_eq_true_eq] at h2
  exact⟨h2.1.2,h2.2.2⟩
 ·show bd.length≤2
  split at h2
  ·exact Nat.zero_le _
  ·simp
  ·simp
  ·cases h2
 ·have e:bd=[s]:=e;subst e;simp only[iU,Bool.and_eq_true,decide_eq_true_eq] at h2
  exact h2.2
theorem gR.lt{P:List Pr}{El:Int→Nat→Nat→Prop}{n:Nat}(hEl:∀k i j,El k i j→i<n∧j<n){a:Int}{i j:Nat}(d:gR P El n a i j):i<n∧j<n:=by
 induction d with
 | eps _ h=>exact⟨h,h⟩
 | one _ h=>exact hEl _ _ _ h
 | two _ _ _ i1 i2=>exact⟨i1.1,i2.2⟩
theorem FiI.fit{P:List Pr}{El:Int→Nat→Nat→Prop}{n nts:Nat}{B:aX}{L:List Int}{D:Pr→Prop}(h:FiI P El n nts B L D)(hEl:∀k i j,El k i j→i<n∧j<n){b c:Nat}(hb:b<nts)(hc:c<nts):∀x y,B b=some x→B c=some y→cS (lY x y) n=lY x y:=fun x y hx hy=>by
 have wx:=h.wd b x hx;have wy:=h.wd c y hy;refine tA (jR x wy) (fun i j hij=>?_);have hi:=(kZ (jR x wy) hij).1;rw[xL wx wy hi] at hij;obtain⟨k,_,h1,h2⟩:=hij;have d1:=(h.sound b hb i k (by rw[hx];exact h1)).lt hEl;have d2:=(h.sound c hc k j (by rw[hy];exact h2)).lt hEl;exact⟨d1.1,d2.2⟩
def D1(PV:List Pv)(t:Nat)(q:Pr):Prop:=(∃v∈PV.take t,v.pr=q)∧∀s t,q.body≠[s,t]
def Lp1(PV:List Pv)(El:Int→Nat→Nat→Prop)(n nts t:Nat)(B:aX)(L:List Int):Prop:=
 FiI (PV.map (·.pr)) El n nts B L (D1 PV t)∧∀k,k<nts→∀i j,aY (B k) i j=true→(k:Int)∈L
theorem Lp1.begin(PV:List Pv)(El:Int→Nat→Nat→Prop)(n nts:Nat):Lp1 PV El n nts 0 (fun _=>none) []:=
 ⟨⟨fun _ r e=>(by cases e),fun k _ i j h=>(by cases h),fun p _ hd _=>(by obtain⟨⟨v,hv,-⟩,-⟩:=hd;simp at hv),fun x hx=>(by cases hx),List.nodup_nil⟩,fun k _ i j h=>(by cases h)⟩
theorem Lp1.one{PV:List Pv}{El:Int→Nat→Nat→Prop}{n nts nl t:Nat}{B:aX}{L L':List Int}(h:Lp1 PV El n nts t B L){v:Pv}(hv:PV[t]?=some v)(hok:∀v∈PV,QD nts nl v)(hn:n≤64)(hEl:∀k i j,El k i j→i<n∧j<n){m:Option (List Nat)}(hg:tJ El n v.pr m)
  (hL:if dR (B v.pr.head.toNat) m=true then QA L L' v.pr.head else L'=L):Lp1 PV El n nts (t+1) (upM B v.pr.head.toNat (joinQ (B v.pr.head.toNat) m)) L'∧iA PV (t+1)=iA PV t:=by
 have hvm:=mG hv;have hbd:∀s t,v.pr.body≠[s,t]:=fun s t e=>by
  have:=hg.2;rw[e] at this;exact this
 have h1:=h.1.first (List.mem_map.2 ⟨v,hvm,rfl⟩) (fun q hq=>by obtain⟨v',h1,rfl⟩:=List.mem_map.1 hq;exact(hok v' h1).g) hn hEl hg hL;refine⟨⟨h1.all (fun q _ hd=>?_),fun k hk i j hb=>?_⟩,?_⟩
 ·obtain⟨⟨v',hv',e⟩,h2⟩:=hd;rw[List.take_add_one,hv,Option.toList_some,List.mem_append,List.mem_singleton] at hv';rcases hv' with hv' | rfl
  ·exact .inl ⟨⟨v',hv',e⟩,h2⟩
  ·exact .inr e.symm
 ·have a0:=(hok v hvm).g.h0;have hw:=h.1.wd k;have hsub:∀x∈L,x∈L':=fun x hx=>by
   split at hL
   ·exact(hL.mem x).2 (.inl hx)
   ·rw[hL];exact hx
  by_cases e:k=v.pr.head.toNat
  ·subst e;rw[cP] at hb;have hi:=cM (hw.joinQ hg.1) hb;rw[eB hw hg.1 hi,Bool.or_eq_true] at hb;cases hm:dR (B v.pr.head.toNat) m with
   | true =>
    rw[if_pos hm] at hL;rw[Int.toNat_of_nonneg a0];exact(hL.mem _).2 (.inr rfl)
   | false =>
    rcases hb with hb|hb
    ·exact hsub _ (h.2 _ hk i j hb)
    ·exact hsub _ (h.2 _ hk i j (mE hw hg.1 hm hb))
  ·rw[dD B _ e] at hb;exact hsub _ (h.2 k hk i j hb)
 ·funext k
  rw[pP hv,if_neg];intro e;obtain⟨s,t,e2,-⟩:=vY e;exact hbd s t e2
theorem Lp1.two{PV:List Pv}{El:Int→Nat→Nat→Prop}{n nts t:Nat}{B:aX}{L:List Int}(h:Lp1 PV El n nts t B L){v:Pv}(hv:PV[t]?=some v){b c:Sy}(hb:v.pr.body=[b,c]):Lp1 PV El n nts (t+1) B L:=
 ⟨h.1.all (fun q _ hd=>by
  obtain⟨⟨v',hv',e⟩,h2⟩:=hd;rw[List.take_add_one,hv,Option.toList_some,List.mem_append,List.mem_singleton] at hv';rcases hv' with hv' | rfl
  ·exact⟨⟨v',hv',e⟩,h2⟩
  ·exact absurd hb (by rw[e];exact h2 b c)),h.2⟩
theorem QE{PV:List Pv}{t:Nat}{v:Pv}(hv:PV[t]?=some v){la lb:Bool}{b c:Nat}(hb:v.pr.body=[⟨la,b⟩,⟨lb,c⟩])(hbc:b≠c) :
  (fun q=>if q=c then (fun q=>if q=b then iA PV t b++[v] else iA PV t q) c++[v] else (fun q=>if q=b then iA PV t b++[v] else iA PV t q) q)=iA PV (t+1):=by
 funext q
 rw[pP hv,pQ hb];dsimp only
 by_cases e1:q=c
 ·subst e1;rw[if_pos rfl,if_neg (fun e=>hbc e.symm)];simp
 ·rw[if_neg e1];by_cases e2:q=b
  ·subst e2;simp
  ·rw[if_neg e2,if_neg];simp
   omega
theorem LZ{PV:List Pv}{t:Nat}{v:Pv}(hv:PV[t]?=some v){la lb:Bool}{b:Nat}(hb:v.pr.body=[⟨la,b⟩,⟨lb,b⟩]):(fun q=>if q=b then iA PV t b++[v] else iA PV t q)=iA PV (t+1):=by
 funext q
 rw[pP hv,pQ hb];by_cases e2:q=b
 ·subst e2;simp
 ·rw[if_neg e2,if_neg];simp
  omega
theorem Lp1.end_{PV:List Pv}{El:Int→Nat→Nat→Prop}{n nts nl:Nat}{B:aX}{L:List Int}(h:Lp1 PV El n nts PV.length B L)(hok:∀v∈PV,QD nts nl v):FiI (PV.map (·.pr)) El n nts B L (fun _=>True):=
 h.1.begin (fun p hp hb=>by
  obtain⟨v,hv,rfl⟩:=List.mem_map.1 hp;exact⟨⟨v,by rw[List.take_length];exact hv,rfl⟩,hb⟩) (fun q hq=>by obtain⟨v',h1,rfl⟩:=List.mem_map.1 hq;exact(hok v' h1).g) h.2
def D3(U:List Pv)(x:Int)(t:Nat)(q:Pr):Prop:=¬pL q [x]∨∃v∈U.take t,v.pr=q
def Lp3(PV:List Pv)(El:Int→Nat→Nat→Prop)(n nts k t:Nat)(B:aX)(L:List Int)(N:Nat):Prop:=
 FiI (PV.map (·.pr)) El n nts B L (D3 (iA PV PV.length k) (k:Int) t)∧2*qB B nts+L.length<N
theorem Lp3.begin{PV:List Pv}{El:Int→Nat→Nat→Prop}{n nts k N:Nat}{B:aX}{L L':List Int}(h:FiI (PV.map (·.pr)) El n nts B L (fun _=>True))(hN:2*qB B nts+L.length≤N)(hL:L.Perm ((k:Int)::L')):Lp3 PV El n nts k 0 B L' N:=
 ⟨(h.pop hL).all (fun p _ hd=>by
  rcases hd with hd|⟨v,hv,-⟩
  ·exact hd
  ·simp at hv),by have:=hL.length_eq;simp at this;omega⟩
theorem Lp3.step{PV:List Pv}{El:Int→Nat→Nat→Prop}{n nts nl k t N:Nat}{B:aX}{L L':List Int}(h:Lp3 PV El n nts k t B L N)(hok:∀v∈PV,QD nts nl v){v:Pv}(hv:(iA PV PV.length k)[t]?=some v){s r:Sy}(hb:v.pr.body=[s,r])
  (hL:if dR (B v.pr.head.toNat) (mulO (B s.at_.toNat) (B r.at_.toNat))=true then QA L L' v.pr.head else L'=L):Lp3 PV El n nts k (t+1) (upM B v.pr.head.toNat (joinQ (B v.pr.head.toNat) (mulO (B s.at_.toNat) (B r.at_.toNat)))) L' N:=by
 have hvm:=(zG (mG hv)).1;obtain⟨h1,h2⟩:=h.1.next (List.mem_map.2 ⟨v,hvm,rfl⟩) (fun q hq=>by obtain⟨v',h1,rfl⟩:=List.mem_map.1 hq;exact(hok v' h1).g) hb hL;refine⟨h1.all (fun q _ hd=>?_),Nat.lt_of_le_of_lt h2 h.2⟩;rcases hd with hd|⟨v',hv',e⟩
 ·exact .inl (.inl hd)
 ·rw[List.take_add_one,hv,Option.toList_some,List.mem_append,List.mem_singleton] at hv';rcases hv' with hv' | rfl
  ·exact .inl (.inr ⟨v',hv',e⟩)
  ·exact .inr e.symm
theorem Lp3.end_{PV:List Pv}{El:Int→Nat→Nat→Prop}{n nts k N:Nat}{B:aX}{L:List Int}(h:Lp3 PV El n nts k (iA PV PV.length k).length B L N):FiI (PV.map (·.pr)) El n nts B L (fun _=>True):=
 h.1.all (fun p hp _=>by
  by_cases hn:pL p [(k:Int)]
  ·obtain⟨v,hv,rfl⟩:=List.mem_map.1 hp;refine .inr ⟨v,?_,rfl⟩;rw[List.take_length];unfold iA;rw[List.take_length];obtain⟨s,t,e,hst⟩:=hn;refine List.mem_filter.2 ⟨hv,?_⟩;rw[pQ e];simp only[List.mem_singleton] at hst
   simpa using hst
  ·exact .inl hn)
end Go.Proofs.YtnokckdkaifibaaGreatDoor
