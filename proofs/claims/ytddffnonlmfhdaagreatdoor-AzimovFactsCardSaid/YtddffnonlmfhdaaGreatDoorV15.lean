/- The document's answer of layer 16: two rising lists of texts as one; Two rising lists as one: the set of both (plain); The document's answer of layer 16: texts, rising, each once; Rows: what stands at a place; texts added; The document's answer of layer 16: labels, lone nodes, the text; The document's answer of layer 16: are all named? Is it in its form?; The document's answer of layer 16: what is too many; Check; AzimovFacts: the document's graph: Number, Of. -/
import Derived.Test.YtddffnonlmfhdaaGreatDoorV14
import Derived.Test.YtddffnonlmfhdaaGreatDoorV02
import Derived.Test.YtddffnonlmfhdaaGreatDoorV03
import Derived.Test.YtddffnonlmfhdaaGreatDoorV04
import Derived.Test.YtddffnonlmfhdaaGreatDoorV01
set_option linter.unusedVariables false
set_option linter.unusedSimpArgs false
set_option maxHeartbeats 16000000
set_option maxRecDepth 100000
namespace Go.Proofs.YtddffnonlmfhdaaGreatDoor
open Go.RowKit
theorem JL(W2:World)(A1:Option Addr)(c1:Nat)(A2:Option Addr)(c2:Nat)(P Q:List Txt)(hA:aU W2 A1 (aE P))(hB:aU W2 A2 (aE Q))(hl:(P.length+Q.length)*16≤140737488355328) :
  Calls Tryz.prog 191 #[.slice A1 P.length c1,.slice A2 Q.length c2] W2 (pZ W2 (mrg ltT P Q)):=by
 obtain⟨n,hn⟩:∃n,P.length=n:=⟨_,rfl⟩;obtain⟨m,hm⟩:∃m,Q.length=m:=⟨_,rfl⟩;rw[hn,hm] at hl ⊢;have HR:=aI2 hA hB;have HL:=aI2 hn hm;clear hA hB hn hm;go_enter Tryz.func191,Tryz.ntmps191;go_wp2_with fail;go_loopw [5,6,7] (fun v i j wr=>∃(p q:Nat) (L:List Txt),p≤n∧q≤m∧i=.int .i64 p∧j=.int .i64 q∧L.length≤p+q∧Hid (L++mrg ltT (P.drop p) (Q.drop q)=mrg ltT P Q)∧Hid (Below W2.heap.size W2 wr)∧Hid (wr.ownsRow W2.heap.size 9 1 v L.length (aE L))) (fun _ i j _=>(n-(intOf i).toNat)+(m-(intOf j).toNat))
 case atStart=>exact⟨0,0,[],Nat.zero_le _,Nat.zero_le _,rfl,rfl,Nat.le_refl _,hIz (by simp),hIz bR,hIz (World.ownsRow_nil _ _ _ _)⟩
 case round =>
  obtain⟨p,q,L,hp,hq,rfl,rfl,hL,hI,hbw,how⟩:=hrel;have hpw:IntKind.i64.wrap ((p:Int)+1)=(p:Int)+1:=IntWalk.i64_in _ (by omega);have hqw:IntKind.i64.wrap ((q:Int)+1)=(q:Int)+1:=IntWalk.i64_in _ (by omega);by_cases hpn:p<n
  ·have hpI:(p:Int)<(n:Int):=by omega
   obtain⟨x,hx⟩:∃z,P[p]?=some z:=⟨P[p]'(by rw[HL.out.1];assumption),gEz _⟩;obtain⟨ab,ao,rfl,xa⟩:=(HR.out.1.below hbw.out).txt hx;by_cases hqm:q<m
   ·have hqI:(q:Int)<(m:Int):=by omega
    have hqne:((q:Int)==(m:Int))=false:=by simp;omega
    obtain⟨y,hy⟩:∃z,Q[q]?=some z:=⟨Q[q]'(by rw[HL.out.2];assumption),gEz _⟩;obtain⟨bb,bo,rfl,ya⟩:=(HR.out.2.below hbw.out).txt hy;obtain⟨v0,hv⟩:∃b,ltT x y=b:=⟨_,rfl⟩;have HV:=hIz hv;have hv2:Op.bytesLess (ByteArray.toList x) (ByteArray.toList y)=v0:=hv;clear hv;have hS:wr.drew.cell? ⟨ab,ao+p,none⟩=some (.string x)∧wr.drew.cell? ⟨bb,bo+q,none⟩=some (.string y):=⟨xa,ya⟩;go_upto_region 4 with (fail);refine aF (fun w'=>w'.cell? ⟨ab,ao+p,none⟩=some (.string x)∧w'.cell? ⟨bb,bo+q,none⟩=some (.string y)) 21 [(0,true),(1,true),(2,true),(3,true),(4,true),(5,true),(6,true),(7,true),(8,true),(9,true),(10,true),(11,true),(12,true),(13,true),(14,true),(15,true),(16,true),(17,true),(18,true),(19,true),(20,true)] hS ?_
    iterate 18 refine aC rfl ?_
    cases v0 with
    | true =>
     iterate 3 refine aC rfl ?_
     refine aG ?_;clear hS;obtain⟨W5,hW5⟩:∃W,W=wr.drew:=⟨_,rfl⟩;have bW5:Below wr.heap.size wr W5:=by rw[hW5];exact bR.drew
     rw[← hW5];have xa5:=(bW5.cell (World.block_lt_of_cell? _ _ xa)).trans xa;have ya5:=(bW5.cell (World.block_lt_of_cell? _ _ ya)).trans ya;have own5:=aA how.out (upF bW5) (fun _ _ h=>h);have bb5:=tHn hbw.out bW5;obtain⟨v6,w6,happ,own6,b6⟩:=gJ W5 W2.heap.size _ L own5 x (by omega) bb5.size;have HN:=aI2 (bb5.trans (b6.1.below (fun k _ e=>b6.2 k e) bb5.size)) own6;have HI:=hIz (show(L++[x])++mrg ltT (P.drop (p+1)) (Q.drop (q))=mrg ltT P Q by
      rw[← hI.out,wU hx (.inr ⟨_,hy,HV.out⟩)];simp)
     clear hI hx hy own6 own5 bb5 b6 hW5 bW5;clear xa ya;clear ya5;go_wp2_with (at_builtin;refine wpList_append_run rfl _ _ _ rfl rfl rfl happ ?_);go_roundw
     case rel=>exact⟨p+1,q,L++[x],by omega,by omega,by go_num,by go_num,by simp;omega,HI,hIz HN.out.1,hIz HN.out.2⟩
     case measure=>simp[intOf];omega
    | false =>
     iterate 3 refine aC rfl ?_
     refine aG ?_;clear hS;obtain⟨W5,hW5⟩:∃W,W=wr.drew:=⟨_,rfl⟩;have bW5:Below wr.heap.size wr W5:=by rw[hW5];exact bR.drew
     rw[← hW5];have xa5:=(bW5.cell (World.block_lt_of_cell? _ _ xa)).trans xa;have ya5:=(bW5.cell (World.block_lt_of_cell? _ _ ya)).trans ya;have own5:=aA how.out (upF bW5) (fun _ _ h=>h);have bb5:=tHn hbw.out bW5;by_cases he:x=y
     ·have heq:(ByteArray.toList x==ByteArray.toList y)=true:=by rw[txt_beq,decide_eq_true he]
      have HE:=hIz he;clear he;have hS:W5.drew.cell? ⟨ab,ao+p,none⟩=some (.string x)∧W5.drew.cell? ⟨bb,bo+q,none⟩=some (.string y):=⟨xa5,ya5⟩;go_upto_region 7 with (fail);refine aF (fun w'=>w'.cell? ⟨ab,ao+p,none⟩=some (.string x)∧w'.cell? ⟨bb,bo+q,none⟩=some (.string y)) 15 [(0,true),(1,true),(2,true),(3,true),(4,true),(5,true),(6,true),(7,true),(8,true),(9,true),(10,true),(11,true),(12,true),(13,true),(14,true)] hS ?_
      iterate 15 refine aC rfl ?_
      refine aG ?_;clear hS;obtain⟨W6,hW6⟩:∃W,W=W5.drew:=⟨_,rfl⟩;have bW6:Below W5.heap.size W5 W6:=by rw[hW6];exact bR.drew
      rw[← hW6];have ya7:=(bW6.cell (World.block_lt_of_cell? _ _ ya5)).trans ya5;have own7:=aA own5 (upF bW6) (fun _ _ h=>h);have bb7:=tHn bb5 bW6;obtain⟨v6,w6,happ,own6,b6⟩:=gJ W6 W2.heap.size _ L own7 y (by omega) bb7.size;have HN:=aI2 (bb7.trans (b6.1.below (fun k _ e=>b6.2 k e) bb7.size)) own6;have HI:=hIz (show(L++[y])++mrg ltT (P.drop (p+1)) (Q.drop (q+1))=mrg ltT P Q by
       rw[← hI.out,NZ eX (by rw[← HE.out];exact hx) hy];simp)
      clear hI hx hy own6 own5 bb5 own7 bb7 hW6 bW6 heq b6 hW5 bW5;clear xa ya;clear xa5 ya5;go_wp2_with (at_builtin;refine wpList_append_run rfl _ _ _ rfl rfl rfl happ ?_);go_roundw
      case rel=>exact⟨p+1,q+1,L++[y],by omega,by omega,by go_num,by go_num,by simp;omega,HI,hIz HN.out.1,hIz HN.out.2⟩
      case measure=>simp[intOf];omega
     ·have heq:(ByteArray.toList x==ByteArray.toList y)=false:=by rw[txt_beq,decide_eq_false he]
      have HE:=hIz he;clear he;have hS:W5.drew.cell? ⟨ab,ao+p,none⟩=some (.string x)∧W5.drew.cell? ⟨bb,bo+q,none⟩=some (.string y):=⟨xa5,ya5⟩;go_upto_region 7 with (fail);refine aF (fun w'=>w'.cell? ⟨ab,ao+p,none⟩=some (.string x)∧w'.cell? ⟨bb,bo+q,none⟩=some (.string y)) 15 [(0,true),(1,true),(2,true),(3,true),(4,true),(5,true),(6,true),(7,true),(8,true),(9,true),(10,true),(11,true),(12,true),(13,true),(14,true)] hS ?_
      iterate 15 refine aC rfl ?_
      refine aG ?_;clear hS;obtain⟨W6,hW6⟩:∃W,W=W5.drew:=⟨_,rfl⟩;have bW6:Below W5.heap.size W5 W6:=by rw[hW6];exact bR.drew
      rw[← hW6];have ya7:=(bW6.cell (World.block_lt_of_cell? _ _ ya5)).trans ya5;have own7:=aA own5 (upF bW6) (fun _ _ h=>h);have bb7:=tHn bb5 bW6;obtain⟨v6,w6,happ,own6,b6⟩:=gJ W6 W2.heap.size _ L own7 y (by omega) bb7.size;have HN:=aI2 (bb7.trans (b6.1.below (fun k _ e=>b6.2 k e) bb7.size)) own6;have HI:=hIz (show(L++[y])++mrg ltT (P.drop (p)) (Q.drop (q+1))=mrg ltT P Q by
       rw[← hI.out,wV hy (.inr ⟨_,hx,HV.out,HE.out⟩)];simp)
      clear hI hx hy own6 own5 bb5 own7 bb7 hW6 bW6 heq b6 hW5 bW5;clear xa ya;clear xa5 ya5;go_wp2_with (at_builtin;refine wpList_append_run rfl _ _ _ rfl rfl rfl happ ?_);go_roundw
      case rel=>exact⟨p,q+1,L++[y],by omega,by omega,by go_num,by go_num,by simp;omega,HI,hIz HN.out.1,hIz HN.out.2⟩
      case measure=>simp[intOf];omega
   ·obtain rfl:q=m:=by omega
    have hqe:((q:Int)==(q:Int))=true:=by simp
    have hS:wr.drew.cell? ⟨ab,ao+p,none⟩=some (.string x):=xa;go_upto_region 4 with (fail);refine aF (fun w'=>w'.cell? ⟨ab,ao+p,none⟩=some (.string x)) 21 [(0,true),(1,true),(2,true),(3,true),(4,true),(5,true),(6,true),(7,true),(8,true),(9,true),(10,true),(11,true),(12,true),(13,true),(14,true),(15,true),(16,true),(17,true),(18,true),(19,true),(20,true)] hS ?_
    iterate 5 refine aC rfl ?_
    iterate 13 (refine eD rfl (by kernel_rfl) ?_;(try simp only[Act.put,gA,gS,gZ,sA,sZ,sS]))
    (refine eD rfl (by kernel_rfl) ?_;(try simp only[Act.put,gA,gS,gZ,sA,sZ,sS]))
    (refine eD rfl (by kernel_rfl) ?_;(try simp only[Act.put,gA,gS,gZ,sA,sZ,sS]))
    refine aC rfl ?_;refine aG ?_;clear hS;obtain⟨W5,hW5⟩:∃W,W=wr.drew:=⟨_,rfl⟩;have bW5:Below wr.heap.size wr W5:=by rw[hW5];exact bR.drew
    rw[← hW5];have xa5:=(bW5.cell (World.block_lt_of_cell? _ _ xa)).trans xa;have own5:=aA how.out (upF bW5) (fun _ _ h=>h);have bb5:=tHn hbw.out bW5;obtain⟨v6,w6,happ,own6,b6⟩:=gJ W5 W2.heap.size _ L own5 x (by omega) bb5.size;have HN:=aI2 (bb5.trans (b6.1.below (fun k _ e=>b6.2 k e) bb5.size)) own6;have HI:=hIz (show(L++[x])++mrg ltT (P.drop (p+1)) (Q.drop (q))=mrg ltT P Q by
     rw[← hI.out,wU hx (.inl (by rw[HL.out.2];exact Nat.le_refl _))];simp)
    clear hI hx own6 own5 bb5 hW5 bW5 b6;clear xa;go_wp2_with (at_builtin;refine wpList_append_run rfl _ _ _ rfl rfl rfl happ ?_);go_roundw
    case rel=>exact⟨p+1,q,L++[x],by omega,by omega,by go_num,by go_num,by simp;omega,HI,hIz HN.out.1,hIz HN.out.2⟩
    case measure=>simp[intOf];omega
  ·obtain rfl:p=n:=by omega
   by_cases hqm:q<m
   ·have hqI:(q:Int)<(m:Int):=by omega
    have hqne:((q:Int)==(m:Int))=false:=by simp;omega
    obtain⟨y,hy⟩:∃z,Q[q]?=some z:=⟨Q[q]'(by rw[HL.out.2];assumption),gEz _⟩;obtain⟨bb,bo,rfl,ya⟩:=(HR.out.2.below hbw.out).txt hy;have hS:wr.drew.cell? ⟨bb,bo+q,none⟩=some (.string y):=ya;go_upto_region 4 with (fail);refine aF (fun w'=>w'.cell? ⟨bb,bo+q,none⟩=some (.string y)) 21 [(0,true),(1,true),(2,true),(3,true),(4,true),(5,true),(6,true),(7,true),(8,true),(9,true),(10,true),(11,true),(12,true),(13,true),(14,true),(15,true),(16,true),(17,true),(18,true),(19,true),(20,true)] hS ?_
    iterate 10 refine aC rfl ?_
    iterate 8 (refine eD rfl (by kernel_rfl) ?_;(try simp only[Act.put,gA,gS,gZ,sA,sZ,sS]))
    (refine eD rfl (by kernel_rfl) ?_;(try simp only[Act.put,gA,gS,gZ,sA,sZ,sS]))
    refine aC rfl ?_;refine aC rfl ?_;refine aG ?_;clear hS;obtain⟨W5,hW5⟩:∃W,W=wr.drew:=⟨_,rfl⟩;have bW5:Below wr.heap.size wr W5:=by rw[hW5];exact bR.drew
    rw[← hW5];have ya5:=(bW5.cell (World.block_lt_of_cell? _ _ ya)).trans ya;have own5:=aA how.out (upF bW5) (fun _ _ h=>h);have bb5:=tHn hbw.out bW5;have hS:W5.drew.cell? ⟨bb,bo+q,none⟩=some (.string y):=ya5;go_upto_region 7 with (fail);refine aF (fun w'=>w'.cell? ⟨bb,bo+q,none⟩=some (.string y)) 15 [(0,true),(1,true),(2,true),(3,true),(4,true),(5,true),(6,true),(7,true),(8,true),(9,true),(10,true),(11,true),(12,true),(13,true),(14,true)] hS ?_
    iterate 5 refine aC rfl ?_
    iterate 9 (refine eD rfl (by kernel_rfl) ?_;(try simp only[Act.put,gA,gS,gZ,sA,sZ,sS]))
    refine aC rfl ?_;refine aG ?_;clear hS;obtain⟨W6,hW6⟩:∃W,W=W5.drew:=⟨_,rfl⟩;have bW6:Below W5.heap.size W5 W6:=by rw[hW6];exact bR.drew
    rw[← hW6];have yy:=True.intro;have ya7:=(bW6.cell (World.block_lt_of_cell? _ _ ya5)).trans ya5;have own7:=aA own5 (upF bW6) (fun _ _ h=>h);have bb7:=tHn bb5 bW6;obtain⟨v6,w6,happ,own6,b6⟩:=gJ W6 W2.heap.size _ L own7 y (by omega) bb7.size;have HN:=aI2 (bb7.trans (b6.1.below (fun k _ e=>b6.2 k e) bb7.size)) own6;have HI:=hIz (show(L++[y])++mrg ltT (P.drop (p)) (Q.drop (q+1))=mrg ltT P Q by
     rw[← hI.out,wV hy (.inl (by rw[HL.out.1];exact Nat.le_refl _))];simp)
    clear hI hy own6 own5 bb5 own7 bb7 hW5 bW5 hW6 bW6 yy b6;clear ya;clear ya5;go_wp2_with (at_builtin;refine wpList_append_run rfl _ _ _ rfl rfl rfl happ ?_);go_roundw
    case rel=>exact⟨p,q+1,L++[y],by omega,by omega,by go_num,by go_num,by simp;omega,HI,hIz HN.out.1,hIz HN.out.2⟩
    case measure=>simp[intOf];omega
   ·obtain rfl:q=m:=by omega
    obtain⟨A9,c9,rfl,-,-⟩:=aK how.out;have FIN:=hIz (show pZ W2 (mrg ltT P Q) (.returned (.slice A9 L.length c9)) wr from⟨_,rfl,by
     have hI:=hI.out;rw[SD (by rw[HL.out.1];exact Nat.le_refl _) (by rw[HL.out.2];exact Nat.le_refl _),List.append_nil] at hI;rw[← hI];exact how.out,hbw.out⟩)
    clear hI how;go_wp2;go_ret;exact FIN.out
open Go.RowKit
section
variable {α:Type} [DecidableEq α] {lt:α→α→Bool}
theorem SE(hs:Sto lt)(A B:List α):mrg lt (dM lt A) (dM lt B)=dM lt (A++B):=by
 obtain⟨a1,a2⟩:=bJ hs A;obtain⟨b1,b2⟩:=bJ hs B;obtain⟨r,m,-⟩:=nY hs _ (dM lt A) (dM lt B) (Nat.le_refl _) a1 b1;exact gQ.is hs ⟨r,fun z=>by rw[m,List.mem_append,a2,b2]⟩
theorem pS(_hs:Sto lt):∀(L:List α),(dM lt L).length≤L.length:=fun L=>by
 have h:∀(l:List α),(cpt l).length≤l.length:=by
  intro l;induction l using cpt.induct with
  | case1=>simp[cpt]
  | case2=>simp[cpt]
  | case3=>simp_all [cpt];omega
  | case4=>simp_all [cpt]
 have:=h (L.mergeSort fun x y=>!lt y x);rwa [List.length_mergeSort] at this
theorem yY(hs:Sto lt){L:List α}(h:L.length<2):dM lt L=L:=by
 refine(gQ.is hs (gQ.self ?_)).symm;match L,h with
 | [],_=>exact List.Pairwise.nil
 | [x],_=>exact List.pairwise_singleton _ _
theorem DE(hs:Sto lt)(L:List α)(k:Nat):mrg lt (dM lt (L.take k)) (dM lt (L.drop k))=dM lt L:=by rw[SE hs,List.take_append_drop]
end
open Go.RowKit
theorem gP(w:World)(e size:Nat):(w.alloc (.cells #[] e)).ownsRow w.heap.size e size (.slice (some ⟨w.heap.size,0,none⟩) 0 0) 0 []:=
 ⟨by simp,.inr ⟨w.heap.size,0,#[],rfl,Nat.le_refl _,heap_alloc_new w _,Nat.le_refl _,Nat.zero_le _,by simp,by simp⟩⟩
theorem mT{w:World}{base e size n:Nat}{v:Value}{xs:List Value}(h:w.ownsRow base e size v n xs):∃A c,v=.slice A n c∧n≤c∧aU w A xs:=by
 obtain⟨A,c,rfl,hc,-⟩:=aK h;exact⟨A,c,rfl,hc,aU.of_own h⟩

theorem aU.take_txt{w:World}{A:Option Addr}{N:List Txt}(h:aU w A (aE N))(k:Nat):aU w A (aE (N.take k)):=fun j u hj=>by
 refine h j u ?_;rw[aE,List.map_take,List.getElem?_take] at hj;split at hj
 ·exact hj
 ·cases hj
theorem aU.drop_txt{w:World}{ab ao:Nat}{N:List Txt}(h:aU w (some ⟨ab,ao,none⟩) (aE N))(k:Nat):aU w (some ⟨ab,ao+k,none⟩) (aE (N.drop k)):=fun j u hj=>by
 rw[aE,List.map_drop,List.getElem?_drop] at hj;obtain⟨b,o,e,x⟩:=h (k+j) u hj;injection e with e;injection e with e1 e2;subst e1;subst e2;exact⟨ab,ao+k,rfl,by rw[Nat.add_assoc];exact x⟩
theorem pU(w:World)(A:Option Addr)(c:Nat)(N:List Txt)(h2:N.length<2)(h:aU w A (aE N)):Calls Tryz.prog 173 #[.slice A N.length c] w (pZ w (dM ltT N)):=by
 rw[yY eX h2];obtain⟨n,hn⟩:∃n,N.length=n:=⟨_,rfl⟩;rw[hn] at h2 ⊢;have b0:Below w.heap.size w (w.alloc (.cells #[] 9)):=bR.alloc (Nat.le_refl _) _;obtain⟨B6,c6,w6,happ,own6,b6⟩:=gX (w.alloc (.cells #[] 9)) w.heap.size 26 9 1 16 _ Tryz.underlying26 bI rfl (by decide) (by decide) (some ⟨w.heap.size,0,none⟩) 0 0 [] (gP w _ 1) A n c (aE N) (h.below b0) (by rw[cD,hn]) (jH N) (by omega) (by simp);rw[Nat.zero_add] at happ own6;rw[List.nil_append] at own6;have HN:=hIz (show pZ w N (.returned (.slice B6 n c6)) w6 from⟨_,rfl,by rw[hn];exact own6,b0.trans b6⟩);have hI:(n:Int)<2:=by omega
 clear own6 b6 b0 h hn;go_enter Tryz.func173,Tryz.ntmps173;go_wp2_with (at_builtin;refine wpList_append_run rfl _ _ _ rfl rfl rfl happ ?_);go_ret;exact HN.out
theorem wY:∀(k:Nat) (w:World) (A:Option Addr) (c:Nat) (N:List Txt),N.length≤k→aU w A (aE N)→N.length≤c→N.length*16≤140737488355328 →
  Calls Tryz.prog 173 #[.slice A N.length c] w (pZ w (dM ltT N)):=by
 intro k;induction k with
 | zero=>exact fun w A c N hk h _ _=>pU w A c N (by omega) h
 | succ k ih =>
  intro w A c N hk h hc hl;by_cases h2:N.length<2
  ·exact pU w A c N h2 h
  obtain⟨x,hx⟩:∃x,N[0]?=some x:=⟨N[0]'(by omega),gEz _⟩;obtain⟨ab,ao,rfl,-⟩:=h.txt hx;obtain⟨n,hn⟩:∃n,N.length=n:=⟨_,rfl⟩;obtain⟨q,hq⟩:∃q,n / 2=q:=⟨_,rfl⟩;rw[hn] at hk hc hl h2 ⊢;have hq1:1≤q:=by omega
  have hqn:q<n:=by omega
  have hqI:(n:Int).tdiv 2=(q:Int):=by
   rw[Int.tdiv_eq_ediv_of_nonneg (by omega),← hq];omega
  have hq2:q≤n:=by omega
  have hqc:q≤c:=by omega
  have hqw:IntKind.i64.wrap (q:Int)=(q:Int):=IntWalk.i64_in _ (by omega);have hcq:¬(c=q):=by omega
  have lt:(N.take q).length=q:=by rw[List.length_take,hn];omega
  have ld:(N.drop q).length=n-q:=by rw[List.length_drop,hn]
  have c1:∀W,Below w.heap.size w W→Calls Tryz.prog 173 #[.slice (some ⟨ab,ao,none⟩) q c] W (pZ W (dM ltT (N.take q))):=fun W hb=>by
   have:=ih W (some ⟨ab,ao,none⟩) c (N.take q) (by omega) ((h.below hb).take_txt q) (by omega) (by omega);rwa [lt] at this
  have c2:∀W,Below w.heap.size w W→Calls Tryz.prog 173 #[.slice (some ⟨ab,ao+q,none⟩) (n-q) (c-q)] W (pZ W (dM ltT (N.drop q))):=fun W hb=>by
   have:=ih W (some ⟨ab,ao+q,none⟩) (c-q) (N.drop q) (by omega) ((h.below hb).drop_txt q) (by omega) (by omega);rwa [ld] at this
  have l1:=pS eX (N.take q);have l2:=pS eX (N.drop q);rw[lt] at l1;rw[ld] at l2;have H:=aI5 c1 c2 l1 l2 hn;have h2I:¬((n:Int)<2):=by omega
  clear c1 c2 l1 l2 hn ih h hx lt ld hq x;go_enter Tryz.func173,Tryz.ntmps173;go_upto_region 3 with (fail);refine aW (fun _=>True) 14 [(0,true),(1,true),(2,true),(3,true),(4,true),(6,true),(7,true),(8,true),(9,true),(10,true),(5,false),(11,false),(12,false),(13,true)] (by kernel_rfl) (by kernel_rfl) (fun _ _ d _ _ h=>by cases d <;> exact h) trivial ?_
  iterate 10 refine aC rfl ?_
  refine aN rfl rfl (fun K hK=>?_);go_simp;refine(H.out.1 w.drew bR.drew).mono ?_;rintro e w1 ⟨v1,rfl,own1,b1⟩;have bb1:Below w.heap.size w w1:=(Below.refl w.heap.size w).drew.trans b1;have HB1:=hIz bb1;have HO1:=hIz own1;refine hK _ _ (fun _=>trivial) ?_;clear hK K own1 b1 bb1;(try simp only[Act.put,gA,gS,gZ,sA,sZ,sS])
  refine aN rfl rfl (fun K hK=>?_);go_simp;refine(H.out.2.1 w1 HB1.out).mono ?_;rintro e w2 ⟨v2,rfl,own2,b2⟩;obtain⟨A1,c1,rfl,hc1,r1⟩:=mT HO1.out;obtain⟨A2,c2,rfl,hc2,r2⟩:=mT own2;have HR:=aI3 (r1.below b2) r2 (tHn HB1.out b2);refine hK _ _ (fun _=>trivial) ?_;clear hK K own2 b2 r1 r2;(try simp only[Act.put,gA,gS,gZ,sA,sZ,sS])
  refine aN rfl rfl (fun K hK=>?_);go_simp;refine(JL w2 A1 c1 A2 c2 _ _ HR.out.1 HR.out.2.1 (by have:=H.out.2.2.1;have:=H.out.2.2.2.1;omega)).mono ?_;rw[DE eX];rintro e w3 ⟨v3,rfl,own3,b3⟩;have FIN:=hIz (show pZ w (dM ltT N) (.returned v3) w3 from⟨v3,rfl,aQ own3 (fun q hq=>by have:=(own3.lt q hq).1;have:=HR.out.2.2.size;omega),tHn HR.out.2.2 b3⟩);refine hK _ _ (fun _=>trivial) ?_;clear hK K own3 b3;(try simp only[Act.put,gA,gS,gZ,sA,sZ,sS])
  refine aC rfl ?_;refine aG ?_;go_wp2;go_ret;exact FIN.out
open Go.RowKit
theorem jT(a b:Txt)(h:a.size+b.size≤100000):∀w,(Op.stringOp .add a b).run Tryz.prog w=.ok (.string (a++b)) w:=fun w=>run_string_add_sum w a b (by omega)
theorem aU.txt_at{w:World}{b o:Nat}{N:List Txt}(h:aU w (some ⟨b,o,none⟩) (aE N)){k:Nat}{s:Txt}(hk:N[k]?=some s):w.cell? ⟨b,o+k,none⟩=some (.string s):=by
 obtain⟨b',o',e,x⟩:=h.txt hk;injection e with e;injection e with e1 e2;subst e1;subst e2;exact x
theorem aU.ed_at{w:World}{b o:Nat}{E:List Ed}(h:aU w (some ⟨b,o,none⟩) (aP E)){k:Nat}{x:Ed}(hk:E[k]?=some x):w.cell? ⟨b,o+k*3,none⟩=some (.string x.fr)∧w.cell? ⟨b,o+k*3+1,none⟩=some (.string x.lb)∧w.cell? ⟨b,o+k*3+2,none⟩=some (.string x.to):=by
 obtain⟨b',o',e,x1,x2,x3⟩:=h.ed hk;injection e with e;injection e with e1 e2;subst e1;subst e2;exact⟨x1,x2,x3⟩
open Go.RowKit
theorem tX(w:World)(B:Option Addr)(d:Nat)(E:List Ed)(h:aU w B (aP E))(hl:E.length*48≤140737488355328) :
  Calls Tryz.prog 138 #[.slice B E.length d] w (pZ w (dM ltT (lbs E))):=by
 obtain⟨m,hm⟩:∃m,E.length=m:=⟨_,rfl⟩;rw[hm] at hl ⊢;have H:=aI2 h hm;clear h hm;go_enter Tryz.func138,Tryz.ntmps138;go_wp2_with fail;go_loopw [3,4] (fun v i wr=>∃k:Nat,k≤m∧i=.int .i64 k∧Hid (Below w.heap.size w wr)∧Hid (wr.ownsRow w.heap.size 9 1 v k (aE (lbs (E.take k))))) (fun _ i _=>m-(intOf i).toNat)
 case atStart=>exact⟨0,Nat.zero_le _,rfl,hIz bR,hIz (by simpa[lbs,aE] using World.ownsRow_nil w w.heap.size 9 1)⟩
 case round =>
  obtain⟨k,hk,rfl,hbw,how⟩:=hrel;by_cases hlt:k<m
  ·have hltI:(k:Int)<(m:Int):=by omega
   have hkw:IntKind.i64.wrap ((k:Int)+1)=(k:Int)+1:=IntWalk.i64_in _ (by omega);obtain⟨⟨s0,s1,s2⟩,hx⟩:∃x,E[k]?=some x:=⟨E[k]'(by rw[H.out.2];exact hlt),gEz _⟩;obtain⟨ab,ao,rfl,x0,x1,x2⟩:=(H.out.1.below hbw.out).ed hx;dsimp only at x0 x1 x2
   have hlk:(lbs (E.take k)).length=k:=by rw[jK,List.length_take,H.out.2];omega
   obtain⟨v6,w6,happ,own6,b6⟩:=gJ wr w.heap.size _ (lbs (E.take k)) (by rw[hlk];exact how.out) s1 (by rw[hlk];omega) hbw.out.size;have hst:=zO hx;dsimp only at hst
   have hlk1:(lbs (E.take (k+1))).length=k+1:=by rw[hst,List.length_append,hlk,List.length_singleton]
   rw[← hst,hlk1] at own6;have HN:=aI2 (hbw.out.trans (b6.1.below (fun k _ e=>b6.2 k e) hbw.out.size)) own6;clear own6 b6 hst hlk hlk1 hx;go_wp2_with (at_builtin;refine wpList_append_run rfl _ _ _ rfl rfl rfl happ ?_);go_roundw
   case rel=>exact⟨k+1,by omega,by go_num,hIz HN.out.1,hIz HN.out.2⟩
   case measure=>simp[intOf];omega
  ·obtain rfl:k=m:=by omega
   obtain⟨A5,c5,rfl,hc5,r5⟩:=mT how.out;rw[List.take_of_length_le (by rw[H.out.2];exact Nat.le_refl _)] at r5;have hcon:=wY k wr A5 c5 (lbs E) (by rw[jK,H.out.2];exact Nat.le_refl _) r5 (by rw[jK,H.out.2];exact hc5) (by rw[jK,H.out.2];omega);rw[jK,H.out.2] at hcon;have HC:=hIz hcon;have HB:=hIz hbw.out;clear hcon r5 hc5 how hbw;go_wp2_with fail;refine HC.out.mono ?_;intro e w9 hN;have hN':=hN.base HB.out;obtain⟨v,rfl,-⟩:=hN;have FIN:=hIz hN';clear hN';go_wp2;go_ret;exact FIN.out

theorem SG{E:List Ed}(s:Txt):inB s (dM ltT (E.flatMap gW))=inB s (eJ E E.length):=by
 rw[Bool.eq_iff_iff,bE,bE,(bJ eX _).mem,List.mem_flatMap,mF];constructor
 ·rintro⟨x,hx,h⟩;obtain⟨i,hi,e⟩:=List.getElem_of_mem hx;refine⟨i,x,hi,by rw[gEz hi,e],?_⟩;simpa[gW] using h
 ·rintro⟨i,x,_,hx,h⟩;exact⟨x,mG hx,by simpa[gW] using h⟩
theorem pV(E:List Ed):(E.flatMap gW).length=E.length*2:=eC gW 2 (fun _=>rfl) E
theorem yZ(w:World)(A:Option Addr)(c:Nat)(B:Option Addr)(d:Nat)(N:List Txt)(E:List Ed)(h:lB w A c B d N E) :
  Calls Tryz.prog 149 #[cP A N.length c B E.length d] w (pZ w (cB N E)):=by
 have k0:=Blk.new w 34 #[.slice A N.length c,.slice B E.length d];have u0:Below w.heap.size w (w.alloc (.cells #[.slice A N.length c,.slice B E.length d] 34)):=bR.alloc (Nat.le_refl _) _;have hn47:N.length*16≤140737488355328:=h.fit.n;have hm47:E.length*48≤140737488355328:=h.fit.e;have H:=aI3 (h.below u0) k0 u0;clear h k0 u0;obtain⟨n,hn⟩:∃n,N.length=n:=⟨_,rfl⟩;obtain⟨m,hm⟩:∃n,E.length=n:=⟨_,rfl⟩;rw[hn,hm] at H;rw[hn] at hn47;rw[hm] at hm47;rw[hn,hm];have HL:=aI2 hn hm;clear hn hm;unfold cP;go_enter Tryz.func149,Tryz.ntmps149;go_upto_region 1 with (fail);generalize w.alloc (.cells #[.slice A n c,.slice B m d] 34)=W0 at H ⊢;have UP:=hIz (show ∀W,Below W0.heap.size W0 W→Blk W w.heap.size 34 #[.slice A n c,.slice B m d]∧lB W A c B d N E∧Below w.heap.size w W from fun W hb=>⟨H.out.2.1.upd (upF hb) id,H.out.1.below hb,tHn H.out.2.2 hb⟩);go_wp2_with fail;go_loopw [3,4] (fun v i wr=>∃k:Nat,k≤m∧i=.int .i64 k∧Hid (Below W0.heap.size W0 wr)∧Hid (wr.ownsRow W0.heap.size 9 1 v ((E.take k).flatMap gW).length (aE ((E.take k).flatMap gW)))) (fun _ i _=>m-(intOf i).toNat)
 case atStart=>exact⟨0,Nat.zero_le _,rfl,hIz bR,hIz (World.ownsRow_nil _ _ _ _)⟩
 case round =>
  obtain⟨k,hk,rfl,hbw,how⟩:=hrel;have q1:wr.cell? ⟨w.heap.size,1,none⟩=some (.slice B m d):=(UP.out _ hbw.out).1.cell 1;by_cases hlt:k<m
  ·have hltI:(k:Int)<(m:Int):=by omega
   have hkw:IntKind.i64.wrap ((k:Int)+1)=(k:Int)+1:=IntWalk.i64_in _ (by omega);obtain⟨⟨s0,s1,s2⟩,hx⟩:∃x,E[k]?=some x:=⟨E[k]'(by rw[HL.out.2];exact hlt),gEz _⟩;obtain⟨ab,ao,rfl,x0,x1,x2⟩:=(UP.out _ hbw.out).2.1.re.ed hx;dsimp only at x0 x1 x2
   have hlk:=pV (E.take k);rw[List.length_take,HL.out.2,Nat.min_eq_left (by omega)] at hlk;obtain⟨v6,w6,happ,own6,b6⟩:=zR wr.drew W0.heap.size _ ((E.take k).flatMap gW) how.out s0 s2 (by omega) hbw.out.size;have hst:(E.take (k+1)).flatMap gW=(E.take k).flatMap gW++[s0,s2]:=by rw[dL hx,List.flatMap_append];rfl
   rw[← hst] at own6;have b06:=hbw.out.drew.trans b6;have HN:=aI2 b06 own6;have SR:=hIz (show ∀W,Below W0.heap.size W0 W→W.cell? ⟨w.heap.size,1,none⟩=some (.slice (some ⟨ab,ao,none⟩) m d)∧W.cell? ⟨ab,ao+k*3,none⟩=some (.string s0)∧W.cell? ⟨ab,ao+k*3+2,none⟩=some (.string s2) from fun W hb=>by
    obtain⟨y0,y1,y2⟩:=(UP.out _ hb).2.1.re.ed_at hx;exact⟨(UP.out _ hb).1.cell 1,y0,y2⟩)
   have hS:=SR.out _ hbw.out.drew;have HBW:=hIz hbw.out;clear own6 b6 b06 hst hlk hx;go_upto_region 5 with (fail);refine aF (fun W=>W.cell? ⟨w.heap.size,1,none⟩=some (.slice (some ⟨ab,ao,none⟩) m d)∧W.cell? ⟨ab,ao+k*3,none⟩=some (.string s0)∧W.cell? ⟨ab,ao+k*3+2,none⟩=some (.string s2)) 16 [(0,true),(1,true),(2,true),(3,true),(4,true),(5,true),(6,true),(7,true),(8,true),(9,true),(10,true),(11,true),(12,true),(13,false),(14,false),(15,true)] hS ?_
   iterate 13 refine aC rfl ?_
   refine aN rfl rfl (fun K hK=>?_);go_simp;refine hK _ _ (fun _=>SR.out _ (HBW.out.drew.alloc HBW.out.size _)) ?_;clear hK K;(try simp only[Act.put,gA,gS,gZ,sA,sZ,sS])
   refine aN rfl rfl (fun K hK=>?_);refine cC _ _ _ rfl rfl rfl happ ?_;refine hK _ _ (fun _=>SR.out _ HN.out.1) ?_;clear hK K happ;(try simp only[Act.put,gA,gS,gZ,sA,sZ,sS])
   refine aC rfl ?_;refine aG ?_;clear hS q1 x0 x1 x2;go_wp2;go_roundw
   case rel=>exact⟨k+1,by omega,by go_num,hIz HN.out.1,hIz HN.out.2⟩
   case measure=>simp[intOf];omega
  ·obtain rfl:k=m:=by omega
   obtain⟨W2,hW2⟩:∃W,W=wr:=⟨_,rfl⟩;subst hW2;obtain⟨L,hL⟩:∃L,(E.take k).flatMap gW=L:=⟨_,rfl⟩;have ho:=how.out;rw[hL] at ho;rw[List.take_of_length_le (by rw[HL.out.2];exact Nat.le_refl _)] at hL;have hLl:L.length=k*2:=by rw[← hL,pV,HL.out.2]
   obtain⟨l2,hl2⟩:∃l,L.length=l:=⟨_,rfl⟩;rw[hl2] at ho;obtain⟨A5,c5,rfl,hc5,r5⟩:=mT ho;have hcon:=wY l2 W2 A5 c5 L (by omega) r5 (by omega) (by omega);rw[hl2] at hcon;have HC:=aI2 hcon hL;have HB:=hIz hbw.out;have HL3:=hIz (show l2=k*2 by omega);clear hcon r5 hc5 how hbw ho hL hlt hLl hl2;go_wp2_with fail;refine HC.out.1.mono ?_;rintro e W3 ⟨v3,rfl,own3,b3⟩;obtain⟨P,hP⟩:∃P,dM ltT L=P:=⟨_,rfl⟩;rw[hP] at own3;obtain⟨p,hp⟩:∃p,P.length=p:=⟨_,rfl⟩;rw[hp] at own3;obtain⟨A6,c6,rfl,hc6,r6⟩:=mT own3;have hup:dK ltT P:=by rw[← hP];exact(bJ eX L).up
   have hin:∀s,inB s P=inB s (eJ E E.length):=fun s=>by rw[← hP,← HC.out.2];exact SG s
   have hpl:p≤l2:=by
    have h1:=pS eX L;rw[hP,hp] at h1;have h2:L.length=k*2:=by rw[← HC.out.2,pV,HL.out.2]
    have h3:=HL3.out;omega
   have HAM:=hIz (show ∀(W:World) (s:Txt),Below W3.heap.size W3 W→Calls Tryz.prog 137 #[.slice A6 p c6,.string s] W (kK W (.bool (inB s (eJ E E.length)))) from fun W s hb=>by
    have:=wX W A6 c6 P s (r6.below hb) hup (by rw[hp];have:=HL3.out;omega);rw[hin,hp] at this;exact this)
   have HB3:=hIz (tHn HB.out b3);have hz3:W0.heap.size≤W3.heap.size:=HB3.out.size;clear own3 b3 r6 hc6 hup hin hP hp HC;go_wp2_with fail;clear q1;go_loopw [5,6,7] (fun v i _ wr=>∃q:Nat,q≤n∧i=.int .i64 q∧Hid (Below W3.heap.size W3 wr)∧Hid (wr.ownsRow W3.heap.size 9 1 v (eK N E q).length (aE (eK N E q)))) (fun _ i _ _=>n-(intOf i).toNat)
   case atStart=>exact⟨0,Nat.zero_le _,rfl,hIz bR,hIz (World.ownsRow_nil _ _ _ _)⟩
   case round =>
    obtain⟨q,hq,rfl,hbw,how⟩:=hrel;have b0:=HB3.out.trans (hbw.out.mono hz3);have q0:wr.cell? ⟨w.heap.size,0,none⟩=some (.slice A n c):=(UP.out _ b0).1.cell 0;by_cases hlt:q<n
    ·have hltI:(q:Int)<(n:Int):=by omega
     have hkw:IntKind.i64.wrap ((q:Int)+1)=(q:Int)+1:=IntWalk.i64_in _ (by omega);obtain⟨x,hx⟩:∃x,N[q]?=some x:=⟨N[q]'(by rw[HL.out.1];exact hlt),gEz _⟩;obtain⟨ab,ao,rfl,x0⟩:=(UP.out _ b0).2.1.rn.txt hx;have hle:=uR N E q;cases hb:inB x (eJ E E.length) with
     | true =>
      have hst:=oH hx hb;have ham:=HAM.out wr x hbw.out;rw[hb] at ham;have HN:=hIz (show wr.ownsRow W3.heap.size 9 1 _ (eK N E (q+1)).length (aE (eK N E (q+1))) by rw[hst];exact how.out);have HM:=hIz ham;clear ham hst hb hx b0;go_wp2_with fail;refine HM.out.mono ?_;rintro e w' ⟨rfl,hw⟩;subst w';go_wp2;go_roundw
      case rel=>exact⟨q+1,by omega,by go_num,hbw,HN⟩
      case measure=>simp[intOf];omega
     | false =>
      have hst:=qM hx hb;have ham:=HAM.out wr x hbw.out;rw[hb] at ham;obtain⟨v6,w6,happ,own6,b6⟩:=gJ wr W3.heap.size _ (eK N E q) how.out x (by omega) hbw.out.size;rw[← hst] at own6;have HN:=aI2 (hbw.out.trans (b6.1.below (fun k _ e=>b6.2 k e) hbw.out.size)) own6;have HM:=hIz ham;clear ham hst hb hx b0 own6 b6;go_wp2_with fail;refine HM.out.mono ?_;rintro e w' ⟨rfl,hw⟩;subst w';go_wp2_with (at_builtin;refine wpList_append_run rfl _ _ _ rfl rfl rfl happ ?_);go_roundw
      case rel=>exact⟨q+1,by omega,by go_num,hIz HN.out.1,hIz HN.out.2⟩
      case measure=>simp[intOf];omega
    ·obtain rfl:q=n:=by omega
     obtain⟨A9,c9,rfl,-,-⟩:=aK how.out;have ho:=how.out;have e1:eK N E q=cB N E:=by rw[← HL.out.1];exact qO N E
     rw[e1] at ho;have bw:=(UP.out _ b0).2.2;have FIN:=hIz (show pZ w (cB N E) (.returned (.slice A9 (cB N E).length c9)) wr from⟨_,by rfl,by rw[e1] at *;exact aQ ho (fun q hq=>by have:=(ho.lt q hq).1;have:=H.out.2.2.size;omega),bw⟩);rw[e1];clear ho e1 bw b0 how;go_wp2;go_ret;exact FIN.out

theorem zA(w:World)(A:Option Addr)(c:Nat)(B:Option Addr)(d:Nat)(N:List Txt)(E:List Ed)(h:lB w A c B d N E)(hs:kL N E)(hN:N.length≤32)(hE:E.length≤256) :
  Calls Tryz.prog 139 #[cP A N.length c B E.length d] w (Sam w (.string ⟨(kR N E).toArray⟩)):=by
 have k0:=Blk.new w 34 #[.slice A N.length c,.slice B E.length d];have u0:Below w.heap.size w (w.alloc (.cells #[.slice A N.length c,.slice B E.length d] 34)):=bR.alloc (Nat.le_refl _) _;have hlo:=fun (W:World) (h:lB W A c B d N E)=>yZ W A c B d N E h
 have H:=aI4 (h.below u0) k0 u0 hs;clear h k0 u0 hs;obtain⟨n,hn⟩:∃n,N.length=n:=⟨_,rfl⟩;obtain⟨m,hm⟩:∃n,E.length=n:=⟨_,rfl⟩;rw[hn,hm] at hlo;rw[hn,hm] at H;rw[hn] at hN;rw[hm] at hE;rw[hn,hm];have HL:=aI2 hn hm;have HLO:=hIz hlo;clear hn hm hlo;unfold cP at HLO ⊢;go_enter Tryz.func139,Tryz.ntmps139;go_upto_region 1 with (fail);generalize w.alloc (.cells #[.slice A n c,.slice B m d] 34)=W0 at H ⊢;have UP:=hIz (show ∀W,Below W0.heap.size W0 W→Blk W w.heap.size 34 #[.slice A n c,.slice B m d]∧lB W A c B d N E∧Below w.heap.size w W from fun W hb=>⟨H.out.2.1.upd (upF hb) id,H.out.1.below hb,tHn H.out.2.2.1 hb⟩);have q0:W0.cell? ⟨w.heap.size,0,none⟩=some (.slice A n c):=H.out.2.1.cell 0;have q1:W0.cell? ⟨w.heap.size,1,none⟩=some (.slice B m d):=H.out.2.1.cell 1;go_wp2_with fail;refine(HLO.out W0 H.out.1).mono ?_;rintro e W1 ⟨v,rfl,own1,b1⟩;obtain⟨l,hl⟩:∃l,(cB N E).length=l:=⟨_,rfl⟩;rw[hl] at own1;obtain⟨A1,c1,rfl,hc1,r1⟩:=mT own1;have hl32:l≤32:=by have:=uT N E;have:=HL.out.1;omega
 have H1:=aI3 r1 b1 hl;clear own1 r1 hl q0 q1 hc1 b1;go_wp2_with fail;go_loopw [3,5] (fun s i wr=>∃(k:Nat) (T:Txt),k≤l∧i=.int .i64 k∧s=.string T∧wr=W1∧Hid (T.data.toList=((cB N E).take k).flatMap eQ)) (fun _ i _=>l-(intOf i).toNat)
 case atStart=>exact⟨0,⟨#[]⟩,Nat.zero_le _,rfl,rfl,rfl,hIz rfl⟩
 case round =>
  obtain⟨k,T,hk,rfl,rfl,hwr,hT⟩:=hrel;subst wr;have hTs:T.size≤32*19:=by
   have h1:=kS (f:=eQ) (c:=19) (l:=(cB N E).take k) (fun x hx=>nJ (H.out.2.2.2.n x (gT (List.mem_of_mem_take hx))));rw[← hT.out,uS] at h1;have h3:((cB N E).take k).length≤k:=by rw[List.length_take];omega
   have:=Nat.mul_le_mul_right 19 h3;omega
  by_cases hlt:k<l
  ·have hltI:(k:Int)<(l:Int):=by omega
   have hkw:IntKind.i64.wrap ((k:Int)+1)=(k:Int)+1:=IntWalk.i64_in _ (by omega);obtain⟨x,hx⟩:∃x,(cB N E)[k]?=some x:=⟨(cB N E)[k]'(by rw[H1.out.2.2];exact hlt),gEz _⟩;obtain⟨ab,ao,rfl,x0⟩:=H1.out.1.txt hx;have hx16:x.size≤16:=H.out.2.2.2.n x (gT (mG hx));have a1:=jT T x (by omega);obtain⟨T1,hT1⟩:∃t,T++x=t:=⟨_,rfl⟩;rw[hT1] at a1;have hs1:T1.size≤32*19+16:=by rw[← hT1,eE];omega
   have a2:=jT T1 ⟨#[32,59,10]⟩ (by show T1.size+3≤100000;omega);obtain⟨T2,hT2⟩:∃t,T1++⟨#[32,59,10]⟩=t:=⟨_,rfl⟩;rw[hT2] at a2;have HT2:=hIz (show T2.data.toList=((cB N E).take (k+1)).flatMap eQ by
    rw[dL hx,← hT2,← hT1,cY,cY,hT.out,List.flatMap_append,List.append_assoc];congr 1
    simp[eQ,OQ])
   clear hs1 hT1 hT2 hx hx16 hTs;go_wp2;go_roundw
   case rel=>exact⟨k+1,T2,by omega,by go_num,rfl,by first | rfl | trivial,HT2⟩
   case measure=>simp[intOf];omega
  ·obtain rfl:k=l:=by omega
   obtain⟨S1,hS1⟩:∃S,S=T:=⟨_,rfl⟩;subst hS1;have hT2:=hT.out;rw[List.take_of_length_le (by rw[H1.out.2.2];exact Nat.le_refl _)] at hT2;have HT:=hIz hT2;have q1:W1.cell? ⟨w.heap.size,1,none⟩=some (.slice B m d):=(UP.out _ H1.out.2.1).1.cell 1;have hz1:W0.heap.size≤W1.heap.size:=H1.out.2.1.size;clear hT hT2 hlt;go_wp2_with fail;clear q1;go_loopw [3,6] (fun s i wr=>∃(j:Nat) (T:Txt),j≤m∧i=.int .i64 j∧s=.string T∧Hid (Below W1.heap.size W1 wr)∧Hid (T.data.toList=(cB N E).flatMap eQ++(E.take j).flatMap iL)) (fun _ i _=>m-(intOf i).toNat)
   case atStart=>exact⟨0,S1,Nat.zero_le _,rfl,rfl,hIz bR,hIz (by simpa using HT.out)⟩
   case round =>
    obtain⟨j,T,hj,rfl,rfl,hbw,hT⟩:=hrel;have b0:=H1.out.2.1.trans (hbw.out.mono hz1);have q1:wr.cell? ⟨w.heap.size,1,none⟩=some (.slice B m d):=(UP.out _ b0).1.cell 1;by_cases hlt:j<m
    ·have hltI:(j:Int)<(m:Int):=by omega
     have hkw:IntKind.i64.wrap ((j:Int)+1)=(j:Int)+1:=IntWalk.i64_in _ (by omega);have hT17:T.size≤32*19+256*53:=by
      have h1:=kS (f:=eQ) (c:=19) (l:=cB N E) (fun x hx=>nJ (H.out.2.2.2.n x (gT hx)));have h2:=kS (f:=iL) (c:=53) (l:=E.take j) (fun x hx=>zN (H.out.2.2.2.e x (List.mem_of_mem_take hx)));have h3:(E.take j).length*53≤256*53:=Nat.mul_le_mul_right _ (by rw[List.length_take];omega);have h4:=congrArg List.length hT.out;rw[uS,List.length_append] at h4;have h5:=H1.out.2.2;have h6:(cB N E).length*19≤32*19:=Nat.mul_le_mul_right _ (by omega);omega
     obtain⟨⟨s0,s1,s2⟩,hx⟩:∃x,E[j]?=some x:=⟨E[j]'(by rw[HL.out.2];exact hlt),gEz _⟩;obtain⟨ab,ao,rfl,x0,x1,x2⟩:=(UP.out _ b0).2.1.re.ed hx;dsimp only at x0 x1 x2
     have hx16:=H.out.2.2.2.e _ (mG hx);dsimp only at hx16
     have a1:=jT T s0 (by omega);obtain⟨T1,hT1⟩:∃t,T++s0=t:=⟨_,rfl⟩;rw[hT1] at a1;have hs1':T1.size≤32*19+256*53+16:=by rw[← hT1,eE];omega
     have a2:=jT T1 ⟨#[32]⟩ (by show T1.size+1≤100000;omega);obtain⟨T2,hT2⟩:∃t,T1++⟨#[32]⟩=t:=⟨_,rfl⟩;rw[hT2] at a2;have hs2':T2.size≤32*19+256*53+17:=by rw[← hT2,eE];show T1.size+1≤_;omega
     have a3:=jT T2 s1 (by omega);obtain⟨T3,hT3⟩:∃t,T2++s1=t:=⟨_,rfl⟩;rw[hT3] at a3;have hs3':T3.size≤32*19+256*53+33:=by rw[← hT3,eE];omega
     have a4:=jT T3 ⟨#[32]⟩ (by show T3.size+1≤100000;omega);obtain⟨T4,hT4⟩:∃t,T3++⟨#[32]⟩=t:=⟨_,rfl⟩;rw[hT4] at a4;have hs4':T4.size≤32*19+256*53+34:=by rw[← hT4,eE];show T3.size+1≤_;omega
     have a5:=jT T4 s2 (by omega);obtain⟨T5,hT5⟩:∃t,T4++s2=t:=⟨_,rfl⟩;rw[hT5] at a5;have hs5':T5.size≤32*19+256*53+50:=by rw[← hT5,eE];omega
     have a6:=jT T5 ⟨#[32,59,10]⟩ (by show T5.size+3≤100000;omega);obtain⟨T6,hT6⟩:∃t,T5++⟨#[32,59,10]⟩=t:=⟨_,rfl⟩;rw[hT6] at a6;have HT6:=hIz (show T6.data.toList=(cB N E).flatMap eQ++(E.take (j+1)).flatMap iL by
      rw[dL hx,← hT6,← hT5,← hT4,← hT3,← hT2,← hT1,cY,cY,cY,cY,cY,cY,hT.out,List.flatMap_append];simp[iL,OQ])
     clear hs1' hs2' hs3' hs4' hs5' hT17 hx16 hT1 hT2 hT3 hT4 hT5 hT6;have kx:=Blk.new wr 32 #[.string s0,.string s1,.string s2];have bx:Below W1.heap.size W1 (wr.alloc (.cells #[.string s0,.string s1,.string s2] 32)):=hbw.out.alloc hbw.out.size _;have HX:=aI2 kx bx;clear kx bx hx b0;go_upto_region 11 with (fail);generalize wr.alloc (.cells #[.string s0,.string s1,.string s2] 32)=W5 at HX ⊢;clear x0 x1 x2 q1;have x0:W5.cell? ⟨wr.heap.size,0,none⟩=some (.string s0):=HX.out.1.cell 0;have x1:W5.cell? ⟨wr.heap.size,1,none⟩=some (.string s1):=HX.out.1.cell 1;have x2:W5.cell? ⟨wr.heap.size,2,none⟩=some (.string s2):=HX.out.1.cell 2;go_wp2;go_roundw
     case rel=>exact⟨j+1,T6,by omega,by go_num,rfl,hIz HX.out.2,HT6⟩
     case measure=>simp[intOf];omega
    ·obtain rfl:j=m:=by omega
     have ht:=hT.out;rw[List.take_of_length_le (by rw[HL.out.2];exact Nat.le_refl _)] at ht;have e:(⟨(kR N E).toArray⟩:Txt)=T:=mC (by rw[ht];rfl);have FIN:=aI2 e (UP.out _ b0).2.2;clear ht e b0 hT;go_wp2;go_ret;exact⟨by rw[FIN.out.1];rfl,FIN.out.2⟩
open Go.RowKit
theorem wZ(w:World)(A:Option Addr)(c:Nat)(B:Option Addr)(d:Nat)(N:List Txt)(E:List Ed)(h:lB w A c B d N E) :
  Calls Tryz.prog 94 #[.slice A N.length c,.slice B E.length d] w (Sam w (.bool (bU N E))):=by
 have hn:N.length≤140737488355328:=by have:=h.fit.n;omega
 have hd:E.length≤140737488355328:=by have:=h.fit.e;omega
 have HA:=aI2 h.fit.tn h.fit.te;have H:=aI3 h h (Below.refl w.heap.size w);clear h;obtain⟨W0,hW0⟩:∃W,W=w:=⟨_,rfl⟩;subst hW0;go_enter Tryz.func94,Tryz.ntmps94;go_wp2_with fail;go_loop [5] (fun i=>∃k:Nat,k≤N.length∧i=.int .i64 k∧Hid (∀j,j<k→∀x,N[j]?=some x→dS x=true)) (fun i=>N.length-(intOf i).toNat)
 case atStart=>exact⟨0,Nat.zero_le _,rfl,hIz (fun j hj=>by omega)⟩
 case round =>
  obtain⟨k,hk,rfl,hall⟩:=hrel;by_cases hlt:k<N.length
  ·have hltI:(k:Int)<(N.length:Int):=by omega
   have hkw:IntKind.i64.wrap ((k:Int)+1)=(k:Int)+1:=IntWalk.i64_in _ (by omega);obtain⟨x,hx⟩:∃x,N[k]?=some x:=⟨N[k],gEz _⟩;obtain⟨ab,ao,rfl,x0⟩:=H.out.1.rn.txt hx;have hcon:=fun w=>gF x w (HA.out.1 x (mG hx))
   obtain⟨b,hb⟩:∃b,dS x=b:=⟨_,rfl⟩;rw[hb] at hcon;have HX:=aI2 hx hb;clear hx hb;cases b
   ·go_wp2_with fail;refine(hcon _).mono ?_;rintro e w' ⟨rfl,rfl⟩;go_wp2;go_ret;refine⟨iK ?_,H.out.2.2⟩;rw[bU,bB HX.out.1 HX.out.2,Bool.false_and]
   ·go_wp2_with fail;refine(hcon _).mono ?_;rintro e w' ⟨rfl,rfl⟩;go_wp2;go_round
    case rel=>exact⟨k+1,by omega,by go_num,hIz (fun j hj y hy=>by
     rcases Nat.lt_succ_iff_lt_or_eq.1 hj with h|rfl
     ·exact hall.out j h y hy
     ·rw[HX.out.1] at hy;injection hy with hy;rw[← hy];exact HX.out.2)⟩
    case measure=>simp[intOf];omega
  ·obtain rfl:k=N.length:=by omega
   have hN:N.all dS=true:=eZ (fun j x hx=>hall.out j (gO.1 hx).1 x hx);have HN:=hIz hN;clear hN hall hk hlt;go_wp2_with fail;go_loopw [7] (fun i wr=>∃k:Nat,k≤E.length∧i=.int .i64 k∧Hid (Below W0.heap.size W0 wr)∧Hid (∀j,j<k→∀x,E[j]?=some x→eH x=true)) (fun i _=>E.length-(intOf i).toNat)
   case atStart=>exact⟨0,Nat.zero_le _,rfl,hIz bR,hIz (fun j hj=>by omega)⟩
   case round =>
    obtain⟨k,hk,rfl,hb,hall⟩:=hrel;by_cases hlt:k<E.length
    ·have hltI:(k:Int)<(E.length:Int):=by omega
     have hkw:IntKind.i64.wrap ((k:Int)+1)=(k:Int)+1:=IntWalk.i64_in _ (by omega);obtain⟨⟨s0,s1,s2⟩,hx⟩:∃x,E[k]?=some x:=⟨E[k],gEz _⟩;obtain⟨ab,ao,rfl,x0,x1,x2⟩:=(H.out.1.below hb.out).re.ed hx;dsimp only at x0 x1 x2
     have hok:=HA.out.2 _ (mG hx);have c0:=fun w=>gF s0 w hok.1
     have c1:=fun w=>wW s1 w hok.2.1
     have c2:=fun w=>gF s2 w hok.2.2
     obtain⟨v0,e0⟩:∃b,dS s0=b:=⟨_,rfl⟩;obtain⟨v1,e1⟩:∃b,gI s1=b:=⟨_,rfl⟩;obtain⟨v2,e2⟩:∃b,dS s2=b:=⟨_,rfl⟩;rw[e0] at c0;rw[e1] at c1;rw[e2] at c2;have hv:eH ⟨s0,s1,s2⟩=(v0&&(v1&&v2)):=by rw[eH,e0,e1,e2]
     have kx:=Blk.new wr 32 #[.string s0,.string s1,.string s2];have bx:Below wr.heap.size wr (wr.alloc (.cells #[.string s0,.string s1,.string s2] 32)):=bR.alloc (Nat.le_refl _) _;have HX:=aI4 hx hv kx (tHn hb.out bx);clear hx hok e0 e1 e2 hv kx bx;go_upto_region 11 with (fail);generalize wr.alloc (.cells #[.string s0,.string s1,.string s2] 32)=W1 at HX ⊢;clear x0 x1 x2;have x0:W1.cell? ⟨wr.heap.size,0,none⟩=some (.string s0):=HX.out.2.2.1.cell 0;have x1:W1.cell? ⟨wr.heap.size,1,none⟩=some (.string s1):=HX.out.2.2.1.cell 1;have x2:W1.cell? ⟨wr.heap.size,2,none⟩=some (.string s2):=HX.out.2.2.1.cell 2;go_wp2_with fail;refine(c0 _).mono ?_;rintro e w' ⟨rfl,rfl⟩;cases v0
     ·go_wp2;go_ret;refine⟨iK ?_,tHn H.out.2.2 HX.out.2.2.2⟩;rw[bU,bB (p:=eH) HX.out.1 HX.out.2.1,Bool.and_false]
     ·go_wp2_with fail;refine(c1 _).mono ?_;rintro e w' ⟨rfl,rfl⟩;cases v1
      ·go_wp2;go_ret;refine⟨iK ?_,tHn H.out.2.2 HX.out.2.2.2⟩;rw[bU,bB (p:=eH) HX.out.1 HX.out.2.1,Bool.and_false]
      ·go_wp2_with fail;refine(c2 _).mono ?_;rintro e w' ⟨rfl,rfl⟩;cases v2
       ·go_wp2;go_ret;refine⟨iK ?_,tHn H.out.2.2 HX.out.2.2.2⟩;rw[bU,bB (p:=eH) HX.out.1 HX.out.2.1,Bool.and_false]
       ·go_wp2;go_roundw
        case rel=>exact⟨k+1,by omega,by go_num,hIz HX.out.2.2.2,hIz (fun j hj y hy=>by
         rcases Nat.lt_succ_iff_lt_or_eq.1 hj with h|rfl
         ·exact hall.out j h y hy
         ·rw[HX.out.1] at hy;injection hy with hy;rw[← hy];exact HX.out.2.1)⟩
        case measure=>simp[intOf];omega
    ·obtain rfl:k=E.length:=by omega
     go_wp2;go_ret;refine⟨iK ?_,tHn H.out.2.2 hb.out⟩;rw[bU,HN.out,Bool.true_and];exact(eZ (fun j x hx=>hall.out j (gO.1 hx).1 x hx)).symm


theorem zB(w:World)(A:Option Addr)(c:Nat)(B:Option Addr)(d:Nat)(N:List Txt)(E:List Ed)(h:lB w A c B d N E) :
  Calls Tryz.prog 93 #[cP A N.length c B E.length d] w (Sam w (.bool (fZ N E))):=by
 have k0:=Blk.new w 34 #[.slice A N.length c,.slice B E.length d];have u0:Below w.heap.size w (w.alloc (.cells #[.slice A N.length c,.slice B E.length d] 34)):=bR.alloc (Nat.le_refl _) _;have hn:N.length*16≤140737488355328:=h.fit.n;have hd:E.length≤140737488355328:=by have:=h.fit.e;omega
 have H:=aI3 (h.below u0) k0 u0;clear h k0 u0;obtain⟨n,hn1⟩:∃n,N.length=n:=⟨_,rfl⟩;obtain⟨m,hm1⟩:∃n,E.length=n:=⟨_,rfl⟩;rw[hn1,hm1] at H;rw[hn1] at hn;rw[hm1] at hd;rw[hn1,hm1];have HL:=aI2 hn1 hm1;clear hn1 hm1;unfold cP;go_enter Tryz.func93,Tryz.ntmps93;go_upto_region 1 with (fail);generalize w.alloc (.cells #[.slice A n c,.slice B m d] 34)=W0 at H ⊢;have q0:W0.cell? ⟨w.heap.size,0,none⟩=some (.slice A n c):=H.out.2.1.cell 0;go_wp2_with fail;go_loopw [3] (fun i wr=>∃k:Nat,1≤k∧(k≤n∨k=1)∧i=.int .i64 k∧Hid (Below W0.heap.size W0 wr)∧Hid (∀j,j+1<k→∀a b,N[j]?=some a→N[j+1]?=some b→ltT a b=true)) (fun i _=>n-(intOf i).toNat)
 case atStart=>exact⟨1,Nat.le_refl _,.inr rfl,rfl,hIz bR,hIz (fun j hj=>by omega)⟩
 case round =>
  obtain⟨k,hk1,hk,rfl,hbw,hall⟩:=hrel;have q0:wr.cell? ⟨w.heap.size,0,none⟩=some (.slice A n c):=(H.out.2.1.upd (upF hbw.out) id).cell 0;by_cases hlt:k<n
  ·have hltI:(k:Int)<(n:Int):=by omega
   have hkw:IntKind.i64.wrap ((k:Int)+1)=(k:Int)+1:=IntWalk.i64_in _ (by omega);obtain⟨k',rfl⟩:∃k',k=k'+1:=⟨k-1,by omega⟩;have hkm:IntKind.i64.wrap (k':Int)=(k':Int):=IntWalk.i64_in _ (by omega);have h0k:(0:Int)≤(k':Int)+1:=by omega
   obtain⟨x,hx⟩:∃x,N[k']?=some x:=⟨N[k']'(by rw[HL.out.1];omega),gEz _⟩;obtain⟨y,hy⟩:∃y,N[k'+1]?=some y:=⟨N[k'+1]'(by rw[HL.out.1];omega),gEz _⟩;have h0:=H.out.1.rn.below hbw.out;obtain⟨ab,ao,rfl,x0⟩:=h0.txt hx;have y0:=h0.txt_at hy;have HXY:=aI2 hx hy;have hk2:(k':Int)<(n:Int):=by omega
   clear h0 hx hy;have S:∀w',Below wr.heap.size wr w'→w'.cell? ⟨w.heap.size,0,none⟩=some (.slice (some ⟨ab,ao,none⟩) n c)∧w'.cell? ⟨ab,ao+k',none⟩=some (.string x)∧w'.cell? ⟨ab,ao+(k'+1),none⟩=some (.string y):=fun w' hb=>⟨(hb.cell (World.block_lt_of_cell? _ _ q0)).trans q0,(hb.cell (World.block_lt_of_cell? _ _ x0)).trans x0,(hb.cell (World.block_lt_of_cell? _ _ y0)).trans y0⟩
   have hS:=S wr.drew bR.drew;clear S;cases hl:ltT x y with
   | true =>
    have hl2:Op.bytesLess (ByteArray.toList x) (ByteArray.toList y)=true:=hl;have HLT:=hIz hl;clear hl;go_upto_region 4 with (fail);refine aF (fun w'=>w'.cell? ⟨w.heap.size,0,none⟩=some (.slice (some ⟨ab,ao,none⟩) n c)∧w'.cell? ⟨ab,ao+k',none⟩=some (.string x)∧w'.cell? ⟨ab,ao+(k'+1),none⟩=some (.string y)) 12 [(0,true),(1,true),(2,true),(3,true),(4,true),(5,true),(6,true),(7,true),(8,true),(9,true),(10,true),(11,true)] hS ?_
    iterate 12 refine aC rfl ?_
    refine aG ?_;go_wp2;go_roundw
    case rel=>exact⟨k'+1+1,by omega,.inl (by omega),by go_num,hIz hbw.out.drew,hIz (fun j hj a b ha hb=>by
     rcases Nat.lt_succ_iff_lt_or_eq.1 (Nat.lt_of_succ_lt_succ hj) with h|rfl
     ·exact hall.out j (by omega) a b ha hb
     ·rw[HXY.out.1] at ha;rw[HXY.out.2] at hb;injection ha with ha;injection hb with hb;rw[← ha,← hb];exact HLT.out)⟩
    case measure=>simp[intOf];omega
   | false =>
    have hl2:Op.bytesLess (ByteArray.toList x) (ByteArray.toList y)=false:=hl;have HLT:=hIz hl;clear hl;go_upto_region 4 with (fail);refine aF (fun w'=>w'.cell? ⟨w.heap.size,0,none⟩=some (.slice (some ⟨ab,ao,none⟩) n c)∧w'.cell? ⟨ab,ao+k',none⟩=some (.string x)∧w'.cell? ⟨ab,ao+(k'+1),none⟩=some (.string y)) 12 [(0,true),(1,true),(2,true),(3,true),(4,true),(5,true),(6,true),(7,true),(8,true),(9,true),(10,true),(11,true)] hS ?_
    iterate 12 refine aC rfl ?_
    refine aG ?_;go_wp2;go_ret;refine⟨iK ?_,tHn H.out.2.2 hbw.out.drew⟩;rw[fZ,jX HXY.out.1 HXY.out.2 HLT.out,Bool.false_and]
  ·have hup:upB ltT N=true:=(jI N).2 (fun i a b ha hb=>hall.out i (by have:=(gO.1 hb).1;have:=HL.out.1;omega) a b ha hb);have hltI:¬((k:Int)<(n:Int)):=by omega
   obtain⟨W2,hW2⟩:∃W,W=wr:=⟨_,rfl⟩;subst hW2;have HUP:=aI3 hup (eY eX hup) hbw.out;clear hup hall hlt;have q1:W2.cell? ⟨w.heap.size,1,none⟩=some (.slice B m d):=(H.out.2.1.upd (upF hbw.out) id).cell 1;go_wp2_with fail;clear q0 q1 hltI;go_loopw [4] (fun i wr=>∃k:Nat,k≤m∧i=.int .i64 k∧Hid (Below W0.heap.size W0 wr)∧Hid (∀j,j<k→∀a,E[j]?=some a→fP N a=true∧∀b,0<j→E[j-1]?=some b→ltE b a=true)) (fun i _=>m-(intOf i).toNat)
   case atStart=>exact⟨0,Nat.zero_le _,rfl,hIz HUP.out.2.2,hIz (fun j hj=>by omega)⟩
   case round =>
    obtain⟨k,hk,rfl,hb,hall⟩:=hrel;have K:=H.out.2.1.upd (upF hb.out) id;have q0:wr.cell? ⟨w.heap.size,0,none⟩=some (.slice A n c):=K.cell 0;have q1:wr.cell? ⟨w.heap.size,1,none⟩=some (.slice B m d):=K.cell 1;clear K;by_cases hlt:k<m
    ·have hltI:(k:Int)<(m:Int):=by omega
     have hkw:IntKind.i64.wrap ((k:Int)+1)=(k:Int)+1:=IntWalk.i64_in _ (by omega);obtain⟨⟨y1,y2,y3⟩,hy⟩:∃x,E[k]?=some x:=⟨E[k]'(by rw[HL.out.2];exact hlt),gEz _⟩;have h0:=H.out.1.re.below hb.out;obtain⟨ab,ao,rfl,b0,b1,b2⟩:=h0.ed hy;dsimp only at b0 b1 b2
     have HY:=hIz hy;have HAM:=hIz (show ∀(W:World) (s:Txt),Below W0.heap.size W0 W→Calls Tryz.prog 137 #[.slice A n c,.string s] W (kK W (.bool (inB s N))) from fun W s hb=>by
      have:=wX W A c N s (H.out.1.rn.below hb) HUP.out.2.1 (by rw[HL.out.1];exact hn);rwa [HL.out.1] at this)
     have hend:fP N ⟨y1,y2,y3⟩=(inB y1 N&&inB y3 N):=rfl;obtain⟨e1,he1⟩:∃b,inB y1 N=b:=⟨_,rfl⟩;obtain⟨e2,he2⟩:∃b,inB y3 N=b:=⟨_,rfl⟩;rw[he1,he2] at hend;have HE:=aI3 he1 he2 hend;have SR:=hIz (show ∀W,Below wr.heap.size wr W→W.cell? ⟨w.heap.size,0,none⟩=some (.slice A n c)∧W.cell? ⟨w.heap.size,1,none⟩=some (.slice (some ⟨ab,ao,none⟩) m d)∧W.cell? ⟨ab,ao+k*3,none⟩=some (.string y1)∧W.cell? ⟨ab,ao+k*3+1,none⟩=some (.string y2)∧W.cell? ⟨ab,ao+k*3+2,none⟩=some (.string y3) from fun W h=>by
      have g:∀{p:Addr} {u:Value},wr.cell? p=some u→W.cell? p=some u:=fun {p u} h2=>(h.cell (World.block_lt_of_cell? wr _ h2)).trans h2
      exact⟨g q0,g q1,g b0,g b1,g b2⟩)
     clear hend he1 he2 hy h0;by_cases hk0:k=0
     ·subst hk0;have hz:¬((0:Int)<((0:Nat):Int)):=by omega
      have hS:=SR.out wr.drew bR.drew;go_upto_region 9 with (fail);refine aF (fun w'=>w'.cell? ⟨w.heap.size,0,none⟩=some (.slice A n c)∧w'.cell? ⟨w.heap.size,1,none⟩=some (.slice (some ⟨ab,ao,none⟩) m d)∧w'.cell? ⟨ab,ao,none⟩=some (.string y1)∧w'.cell? ⟨ab,ao+1,none⟩=some (.string y2)∧w'.cell? ⟨ab,ao+2,none⟩=some (.string y3)) 17 [(0,true),(1,true),(2,true),(3,true),(4,true),(5,true),(6,true),(7,true),(8,true),(9,true),(10,true),(11,true),(12,true),(13,true),(14,false),(15,true),(16,true)] hS ?_
      iterate 3 refine aC rfl ?_
      iterate 11 (refine eD rfl (by kernel_rfl) ?_;(try simp only[Act.put,gA,gS,gZ,sA,sZ,sS]))
      (refine uH rfl (by kernel_rfl) (by first | assumption | trivial | exact UP.out _ H5.out) ?_;(try simp only[Act.put,gA,gS,gZ,sA,sZ,sS]))
      (refine eD rfl (by kernel_rfl) ?_;(try simp only[Act.put,gA,gS,gZ,sA,sZ,sS]))
      refine aC rfl ?_;refine aG ?_;obtain⟨W5,hW5⟩:∃W,W=wr.drew:=⟨_,rfl⟩;have HB5:=hIz (show Below wr.heap.size wr W5 by rw[hW5];exact bR.drew);rw[← hW5] at hS ⊢;clear hW5 hS q0 q1 b0 b1 b2;have hk00:∀b,0<(0:Nat)→E[0-1]?=some b→ltE b ⟨y1,y2,y3⟩=true:=fun b h=>by omega
      have HLT:=hIz hk00;clear hk00 hz;have hbw5:=tHn hb.out HB5.out;have HB6:=hIz hbw5;have hS:=SR.out W5.drew HB5.out.drew;clear hbw5;go_upto_region 11 with (fail);refine aF (fun w'=>w'.cell? ⟨w.heap.size,0,none⟩=some (.slice A n c)∧w'.cell? ⟨w.heap.size,1,none⟩=some (.slice (some ⟨ab,ao,none⟩) m d)∧w'.cell? ⟨ab,ao,none⟩=some (.string y1)∧w'.cell? ⟨ab,ao+1,none⟩=some (.string y2)∧w'.cell? ⟨ab,ao+2,none⟩=some (.string y3)) 20 [(0,true),(1,true),(2,true),(3,true),(4,true),(5,true),(6,true),(7,true),(9,true),(10,true),(11,true),(12,true),(13,true),(14,true),(15,true),(16,true),(8,false),(17,false),(18,true),(19,true)] hS ?_
      iterate 16 refine aC rfl ?_
      refine aN rfl rfl (fun K hK=>?_);go_simp;refine(HAM.out W5.drew y1 HB6.out.drew).mono ?_;rintro e w' ⟨rfl,hw⟩;subst w';rw[HE.out.1];refine hK _ _ (fun _=>hS) ?_;clear hK K;(try simp only[Act.put,gA,gS,gZ,sA,sZ,sS])
      refine aN rfl rfl (fun K hK=>?_);go_simp;refine(HAM.out W5.drew y3 HB6.out.drew).mono ?_;rintro e w' ⟨rfl,hw⟩;subst w';rw[HE.out.2.1];refine hK _ _ (fun _=>hS) ?_;clear hK K;(try simp only[Act.put,gA,gS,gZ,sA,sZ,sS])
      refine aC rfl ?_;refine aC rfl ?_;refine aG ?_;clear hS;have HB7:=hIz HB6.out.drew;cases e1 with
      | false =>
       go_wp2;go_ret;refine⟨iK ?_,tHn H.out.2.2 HB7.out⟩;rw[fZ,bB (p:=fP N) HY.out HE.out.2.2,Bool.and_false,Bool.and_false]
      | true =>
       cases e2 with
       | false =>
        go_wp2;go_ret;refine⟨iK ?_,tHn H.out.2.2 HB7.out⟩;rw[fZ,bB (p:=fP N) HY.out HE.out.2.2,Bool.and_false,Bool.and_false]
       | true =>
        go_wp2;go_roundw
        case rel=>exact⟨0+1,by omega,by go_num,HB7,hIz (fun j hj a ha=>by
         rcases Nat.lt_succ_iff_lt_or_eq.1 hj with h|rfl
         ·exact hall.out j h a ha
         ·rw[HY.out] at ha;injection ha with ha;rw[← ha];exact⟨HE.out.2.2,HLT.out⟩)⟩
        case measure=>simp[intOf];omega
     ·obtain⟨k',rfl⟩:∃k',k=k'+1:=⟨k-1,by omega⟩;have hz:(0:Int)<((k'+1:Nat):Int):=by omega
      have hkm:IntKind.i64.wrap (k':Int)=(k':Int):=IntWalk.i64_in _ (by omega);have h0k:(0:Int)≤(k':Int)+1:=by omega
      have hk2:(k':Int)<(m:Int):=by omega
      obtain⟨⟨x1,x2,x3⟩,hx⟩:∃x,E[k']?=some x:=⟨E[k']'(by rw[HL.out.2];omega),gEz _⟩;obtain⟨a0,a1,a2⟩:=(H.out.1.re.below hb.out).ed_at hx;dsimp only at a0 a1 a2
      have hbf:=fun W=>DD ⟨x1,x2,x3⟩ ⟨y1,y2,y3⟩ W
      obtain⟨v,hv⟩:∃b,ltE ⟨x1,x2,x3⟩ ⟨y1,y2,y3⟩=b:=⟨_,rfl⟩;rw[hv] at hbf;unfold Ed.agg at hbf;dsimp only at hbf
      have HV:=aI2 hx hv;have HBF:=hIz hbf;have SX:=hIz (show ∀W,Below wr.heap.size wr W→(fun w'=>w'.cell? ⟨w.heap.size,1,none⟩=some (.slice (some ⟨ab,ao,none⟩) m d)∧w'.cell? ⟨ab,ao+(k'+1)*3,none⟩=some (.string y1)∧w'.cell? ⟨ab,ao+(k'+1)*3+1,none⟩=some (.string y2)∧w'.cell? ⟨ab,ao+(k'+1)*3+2,none⟩=some (.string y3)∧w'.cell? ⟨ab,ao+k'*3,none⟩=some (.string x1)∧w'.cell? ⟨ab,ao+k'*3+1,none⟩=some (.string x2)∧w'.cell? ⟨ab,ao+k'*3+2,none⟩=some (.string x3)) W from fun W h=>by
       have g:∀{p:Addr} {u:Value},wr.cell? p=some u→W.cell? p=some u:=fun {p u} h2=>(h.cell (World.block_lt_of_cell? wr _ h2)).trans h2
       exact⟨g q1,g b0,g b1,g b2,g a0,g a1,g a2⟩)
      have hS:=SX.out wr.drew bR.drew;clear hx hv hk0 hbf;go_upto_region 9 with (fail);refine aF (fun w'=>w'.cell? ⟨w.heap.size,1,none⟩=some (.slice (some ⟨ab,ao,none⟩) m d)∧w'.cell? ⟨ab,ao+(k'+1)*3,none⟩=some (.string y1)∧w'.cell? ⟨ab,ao+(k'+1)*3+1,none⟩=some (.string y2)∧w'.cell? ⟨ab,ao+(k'+1)*3+2,none⟩=some (.string y3)∧w'.cell? ⟨ab,ao+k'*3,none⟩=some (.string x1)∧w'.cell? ⟨ab,ao+k'*3+1,none⟩=some (.string x2)∧w'.cell? ⟨ab,ao+k'*3+2,none⟩=some (.string x3)) 17 [(0,true),(1,true),(2,true),(3,true),(4,true),(5,true),(6,true),(7,true),(8,true),(9,true),(10,true),(11,true),(12,true),(13,true),(14,false),(15,true),(16,true)] hS ?_
      iterate 14 refine aC rfl ?_
      (refine DU rfl (by first | with_reducible rfl | kernel_rfl) (fun K hK=>?_);go_simp)
      refine(HBF.out wr.drew).mono ?_;rintro e W5 ⟨rfl,b5⟩;have HB5:=hIz (show Below wr.heap.size wr W5 from(Below.refl wr.heap.size wr).drew.trans b5);refine hK _ _ (fun _=>SX.out _ HB5.out) ?_;clear hK K hS q0 q1 b0 b1 b2 a0 a1 a2 b5;(try simp only[Act.put,gA,gS,gZ,sA,sZ,sS])
      cases v with
      | false =>
       refine aC rfl ?_;refine aC rfl ?_;refine aG ?_;go_wp2;go_ret;refine⟨iK ?_,H.out.2.2.trans ((tHn hb.out HB5.out).mono H.out.2.2.size)⟩;rw[fZ,jX HV.out.1 HY.out HV.out.2,Bool.false_and,Bool.and_false]
      | true =>
       refine aC rfl ?_;refine aC rfl ?_;refine aG ?_;have HLT:=hIz (show ∀b,0<k'+1→E[k'+1-1]?=some b→ltE b ⟨y1,y2,y3⟩=true from fun b _ h=>by
        rw[Nat.add_sub_cancel,HV.out.1] at h;injection h with h;rw[← h];exact HV.out.2)
       clear hz hkm hk2;have hbw5:=tHn hb.out HB5.out;have HB6:=hIz hbw5;have hS:=SR.out W5.drew HB5.out.drew;clear hbw5;go_upto_region 11 with (fail);refine aF (fun w'=>w'.cell? ⟨w.heap.size,0,none⟩=some (.slice A n c)∧w'.cell? ⟨w.heap.size,1,none⟩=some (.slice (some ⟨ab,ao,none⟩) m d)∧w'.cell? ⟨ab,ao+(k'+1)*3,none⟩=some (.string y1)∧w'.cell? ⟨ab,ao+(k'+1)*3+1,none⟩=some (.string y2)∧w'.cell? ⟨ab,ao+(k'+1)*3+2,none⟩=some (.string y3)) 20 [(0,true),(1,true),(2,true),(3,true),(4,true),(5,true),(6,true),(7,true),(9,true),(10,true),(11,true),(12,true),(13,true),(14,true),(15,true),(16,true),(8,false),(17,false),(18,true),(19,true)] hS ?_
       iterate 16 refine aC rfl ?_
       refine aN rfl rfl (fun K hK=>?_);go_simp;refine(HAM.out W5.drew y1 HB6.out.drew).mono ?_;rintro e w' ⟨rfl,hw⟩;subst w';rw[HE.out.1];refine hK _ _ (fun _=>hS) ?_;clear hK K;(try simp only[Act.put,gA,gS,gZ,sA,sZ,sS])
       refine aN rfl rfl (fun K hK=>?_);go_simp;refine(HAM.out W5.drew y3 HB6.out.drew).mono ?_;rintro e w' ⟨rfl,hw⟩;subst w';rw[HE.out.2.1];refine hK _ _ (fun _=>hS) ?_;clear hK K;(try simp only[Act.put,gA,gS,gZ,sA,sZ,sS])
       refine aC rfl ?_;refine aC rfl ?_;refine aG ?_;clear hS;have HB7:=hIz HB6.out.drew;cases e1 with
       | false =>
        go_wp2;go_ret;refine⟨iK ?_,tHn H.out.2.2 HB7.out⟩;rw[fZ,bB (p:=fP N) HY.out HE.out.2.2,Bool.and_false,Bool.and_false]
       | true =>
        cases e2 with
        | false =>
         go_wp2;go_ret;refine⟨iK ?_,tHn H.out.2.2 HB7.out⟩;rw[fZ,bB (p:=fP N) HY.out HE.out.2.2,Bool.and_false,Bool.and_false]
        | true =>
         go_wp2;go_roundw
         case rel=>exact⟨(k'+1)+1,by omega,by go_num,HB7,hIz (fun j hj a ha=>by
          rcases Nat.lt_succ_iff_lt_or_eq.1 hj with h|rfl
          ·exact hall.out j h a ha
          ·rw[HY.out] at ha;injection ha with ha;rw[← ha];exact⟨HE.out.2.2,HLT.out⟩)⟩
         case measure=>simp[intOf];omega
    ·obtain rfl:k=m:=by omega
     have hue:upB ltE E=true:=(jI E).2 (fun i a b ha hb'=>by
      have h1:=(gO.1 hb').1;exact(hall.out (i+1) (by have:=HL.out.2;omega) b hb').2 a (by omega) (by rw[Nat.add_sub_cancel];exact ha))
     have hal:E.all (fP N)=true:=eZ (fun j x hx=>(hall.out j (by have:=(gO.1 hx).1;have:=HL.out.2;omega) x hx).1);have HF:=hIz (show fZ N E=true by rw[fZ,HUP.out.1,hue,hal];rfl);clear hue hal hall;go_wp2;go_ret;exact⟨iK HF.out.symm,tHn H.out.2.2 hb.out⟩
open Go.RowKit
theorem zC(w:World)(A:Option Addr)(c:Nat)(B:Option Addr)(d:Nat)(N:List Txt)(E:List Ed)(h:lB w A c B d N E)(hs:kL N E) :
  Calls Tryz.prog 95 #[cP A N.length c B E.length d] w (Sam w (.int .i64 (cG N E))):=by
 have k0:=Blk.new w 34 #[.slice A N.length c,.slice B E.length d];have u0:Below w.heap.size w (w.alloc (.cells #[.slice A N.length c,.slice B E.length d] 34)):=bR.alloc (Nat.le_refl _) _;have H:=aI4 (h.below u0) k0 u0 hs;clear h k0 u0 hs;unfold cP;go_enter Tryz.func95,Tryz.ntmps95;go_upto_region 1 with (fail);generalize w.alloc (.cells #[.slice A N.length c,.slice B E.length d] 34)=W0 at H ⊢;have q0:W0.cell? ⟨w.heap.size,0,none⟩=some (.slice A N.length c):=H.out.2.1.cell 0;have q1:W0.cell? ⟨w.heap.size,1,none⟩=some (.slice B E.length d):=H.out.2.1.cell 1;by_cases h1:32<N.length
 ·have h1I:(32:Int)<(N.length:Int):=by omega
  have HX:=hIz (show(260:Int)=cG N E by rw[cG,if_pos h1]);clear h1;go_wp2;go_ret;exact⟨xF HX.out,H.out.2.2.1⟩
 have h1I:¬(32:Int)<(N.length:Int):=by omega
 go_wp2_with fail;refine(tX W0 B d E H.out.1.re H.out.1.fit.e).mono ?_;rintro e w1 ⟨v,rfl,own1,b1⟩;obtain⟨M,hM⟩:∃M,dM ltT (lbs E)=M:=⟨_,rfl⟩;rw[hM] at own1;obtain⟨A1,c1,rfl,-,-⟩:=aK own1;have eM:=hM.symm;have hlen:=True.intro;have k1:=H.out.2.1.upd (upF b1) id;have H1:=aI3 (H.out.1.below b1) k1 (tHn H.out.2.2.1 b1);have hME:M.length=(dM ltT (lbs E)).length:=by rw[← eM]
 clear own1 b1 q0 q1 k1 hM eM;have q0:w1.cell? ⟨w.heap.size,0,none⟩=some (.slice A N.length c):=H1.out.2.1.cell 0;have q1:w1.cell? ⟨w.heap.size,1,none⟩=some (.slice B E.length d):=H1.out.2.1.cell 1;obtain⟨k,hk⟩:∃k,M.length=k:=⟨_,rfl⟩;rw[hk] at hME ⊢;have HM:=hIz hME;by_cases h2:16<k
 ·have h2I:(16:Int)<(k:Int):=by omega
  have HX:=hIz (show(261:Int)=cG N E by rw[cG,if_neg h1,if_pos (by rw[← HM.out];exact h2)]);clear h2 h1 hk hME hlen;go_wp2;go_ret;exact⟨xF HX.out,H1.out.2.2⟩
 have h2I:¬(16:Int)<(k:Int):=by omega
 by_cases h3:256<E.length
 ·have h3I:(256:Int)<(E.length:Int):=by omega
  have HX:=hIz (show(262:Int)=cG N E by rw[cG,if_neg h1,if_neg (by rw[← HM.out];exact h2),if_pos h3]);clear h2 h1 h3 hk hME hlen;go_wp2;go_ret;exact⟨xF HX.out,H1.out.2.2⟩
 have h3I:¬(256:Int)<(E.length:Int):=by omega
 have HH:=aI3 h1 h2 h3;clear h1 h2 h3 hk hME hlen;go_wp2_with fail;refine(zA w1 A c B d N E H1.out.1 H.out.2.2.2 (by have:=HH.out.1;omega) (by have:=HH.out.2.2;omega)).mono ?_;rintro e w2 ⟨rfl,b2⟩;have HB:=hIz (tHn H1.out.2.2 b2);clear b2 q0 q1;obtain⟨t,ht⟩:∃t:Txt,(⟨(kR N E).toArray⟩:Txt)=t:=⟨_,rfl⟩;have hts:t.size=(kR N E).length:=by rw[← ht];simp[ByteArray.size]
 rw[ht];by_cases h4:2048<t.size
 ·have h4I:(2048:Int)<(t.size:Int):=by omega
  have HX:=hIz (show(174:Int)=cG N E by rw[cG,if_neg HH.out.1,if_neg (by rw[← HM.out];exact HH.out.2.1),if_neg HH.out.2.2,if_pos (by omega)]);clear h4 ht hts;go_wp2;go_ret;exact⟨xF HX.out,HB.out⟩
 ·have h4I:¬(2048:Int)<(t.size:Int):=by omega
  have HX:=hIz (show(0:Int)=cG N E by rw[cG,if_neg HH.out.1,if_neg (by rw[← HM.out];exact HH.out.2.1),if_neg HH.out.2.2,if_neg (by omega)]);clear h4 ht hts;go_wp2;go_ret;exact⟨xF HX.out,HB.out⟩

theorem xA(w:World)(A:Option Addr)(c:Nat)(B:Option Addr)(d:Nat)(N:List Txt)(E:List Ed)(h:lB w A c B d N E) :
  Calls Tryz.prog 47 #[cP A N.length c B E.length d] w (Sam w (.int .i64 (cJ N E))):=by
 have k0:=Blk.new w 34 #[.slice A N.length c,.slice B E.length d];have u0:Below w.heap.size w (w.alloc (.cells #[.slice A N.length c,.slice B E.length d] 34)):=bR.alloc (Nat.le_refl _) _;have H:=aI3 (h.below u0) k0 u0;clear h k0 u0;obtain⟨b0,hb0⟩:∃b,fZ N E=b:=⟨_,rfl⟩;obtain⟨b1,hb1⟩:∃b,bU N E=b:=⟨_,rfl⟩;have HB:=aI2 hb0 hb1;clear hb0 hb1;unfold cP;go_enter Tryz.func47,Tryz.ntmps47;go_upto_region 1 with (fail);generalize w.alloc (.cells #[.slice A N.length c,.slice B E.length d] 34)=W0 at H ⊢;have q0:W0.cell? ⟨w.heap.size,0,none⟩=some (.slice A N.length c):=H.out.2.1.cell 0;have q1:W0.cell? ⟨w.heap.size,1,none⟩=some (.slice B E.length d):=H.out.2.1.cell 1;go_wp2_with fail;refine(zB W0 A c B d N E H.out.1).mono ?_;rintro e w1 ⟨rfl,u1⟩;rw[HB.out.1];have k1:=H.out.2.1.upd (upF u1) id;have H1:=aI3 (H.out.1.below u1) k1 (tHn H.out.2.2 u1);clear u1 q0 q1 k1;have q0:w1.cell? ⟨w.heap.size,0,none⟩=some (.slice A N.length c):=H1.out.2.1.cell 0;have q1:w1.cell? ⟨w.heap.size,1,none⟩=some (.slice B E.length d):=H1.out.2.1.cell 1;cases b0
 ·go_wp2;go_ret;exact⟨xF (by rw[cJ,if_pos HB.out.1]),H1.out.2.2⟩
 go_wp2_with fail;refine(wZ w1 A c B d N E H1.out.1).mono ?_;rintro e w2 ⟨rfl,u2⟩;rw[HB.out.2];have k2:=H1.out.2.1.upd (upF u2) id;have H2:=aI3 (H1.out.1.below u2) k2 (tHn H1.out.2.2 u2);clear u2 q0 q1 k2;have q0:w2.cell? ⟨w.heap.size,0,none⟩=some (.slice A N.length c):=H2.out.2.1.cell 0;have q1:w2.cell? ⟨w.heap.size,1,none⟩=some (.slice B E.length d):=H2.out.2.1.cell 1;cases b1
 ·go_wp2;go_ret;exact⟨xF (by rw[cJ,if_neg (by rw[HB.out.1];simp),if_pos HB.out.2]),H2.out.2.2⟩
 go_wp2_with fail;refine(zC w2 A c B d N E H2.out.1 (kL.of HB.out.2)).mono ?_;rintro e w3 ⟨rfl,u3⟩;have FIN:=hIz (tHn H2.out.2.2 u3);have HE:=hIz (show cG N E=cJ N E by rw[cJ,if_neg (by rw[HB.out.1];simp),if_neg (by rw[HB.out.2];simp)]);clear u3 q0 q1;go_wp2;go_ret;exact⟨xF HE.out,FIN.out⟩
open Go.RowKit Go.Shelf
theorem mU{w:World}{base e size n c m:Nat}{A:Option Addr}{xs:List Value}(h:w.ownsRow base e size (.slice A n c) m xs):n≤c:=by
 obtain⟨A',c',e1,h1,-⟩:=aK h;injection e1 with e1 e2 e3;omega
theorem nZ{W:World}{z:Nat}{t:TypeId}{p q r:Value}(k:Blk W z t #[p,q,r])(a b c:Value):Blk (((W.setCell ⟨z,0,none⟩ a).setCell ⟨z,1,none⟩ b).setCell ⟨z,2,none⟩ c) z t #[a,b,c]:=((k.set 0 a).set 1 b).set 2 c
theorem oB(W:World)(z:Nat)(a b c:Value):Upd (fun q=>q=z) W (((W.setCell ⟨z,0,none⟩ a).setCell ⟨z,1,none⟩ b).setCell ⟨z,2,none⟩ c):=
 (((Upd.refl (fun q=>q=z) W).setCell (p:=⟨z,0,none⟩) (.inl rfl) a).setCell (p:=⟨z,1,none⟩) (.inl rfl) b).setCell (p:=⟨z,2,none⟩) (.inl rfl) c
def VX(N:List Txt)(s:Txt)(k:Int):Prop:=(∃i:Nat,k=(i:Int)∧N[i]?=some s∧∀j,j<i→N[j]?≠some s)∨(k = -1∧s ∉ N)
theorem pW(w:World)(b:Bool)(A:Option Addr)(c:Nat)(N:List Txt)(hN:aU w A (aE N))(hl:N.length≤140737488355328)(u:Value)(s:Txt) :
  Calls Tryz.prog 54 #[.agg #[.bool b,.slice A N.length c,u],.string s] w (fun e w'=>∃k:Int,e=.returned (.int .i64 k)∧VX N s k∧Below w.heap.size w w'):=by
 obtain⟨n,hn⟩:∃n,N.length=n:=⟨_,rfl⟩;rw[hn] at hl ⊢;have b1:Below w.heap.size w (w.alloc (.cells #[.bool b,.slice A n c,u] 29)):=bR.alloc (Nat.le_refl _) _;have k1:=Blk.new w 29 #[.bool b,.slice A n c,u];have H:=aI4 b1 k1 (hN.below b1) hn;clear b1 k1 hN hn;go_enter Tryz.func54,Tryz.ntmps54;go_upto_region 1 with (fail);generalize w.alloc (.cells #[.bool b,.slice A n c,u] 29)=W0 at H ⊢;go_wp2;go_loopw [5] (fun iv wr=>∃i:Nat,i≤n∧iv=.int .i64 (i:Int)∧Hid (Below W0.heap.size W0 wr)∧Hid (∀j,j<i→N[j]?≠some s)) (fun iv _=>n-(intOf iv).toNat)
 case atStart=>exact⟨0,Nat.zero_le _,rfl,hIz bR,hIz (fun j hj=>by omega)⟩
 case round =>
  obtain⟨i,hi,rfl,hb,hall⟩:=hrel;have q1:wr.cell? ⟨w.heap.size,1,none⟩=some (.slice A n c):=(H.out.2.1.upd (upF hb.out) id).cell 1;have HB:=hIz (tHn H.out.1 hb.out);by_cases hin:i<n
  ·have hiI:(i:Int)<(n:Int):=by omega
   have hkw:IntKind.i64.wrap ((i:Int)+1)=(i:Int)+1:=IntWalk.i64_in _ (by omega);obtain⟨x,hx⟩:∃x,N[i]?=some x:=⟨N[i]'(by rw[H.out.2.2.2];exact hin),gEz _⟩;obtain⟨ab,ao,rfl,x0⟩:=(H.out.2.2.1.below hb.out).txt hx;by_cases hxs:x=s
   ·have he:(ByteArray.toList x==ByteArray.toList s)=true:=by rw[txt_beq];exact decide_eq_true hxs
    have FIN:=hIz (show VX N s (i:Int) from .inl ⟨i,rfl,by rw[hx,hxs],hall.out⟩);clear hx hxs;go_wp2;go_ret;exact⟨_,rfl,FIN.out,HB.out⟩
   ·have he:(ByteArray.toList x==ByteArray.toList s)=false:=by rw[txt_beq];exact decide_eq_false hxs
    have FIN:=hIz (show ∀j,j<i+1→N[j]?≠some s from fun j hj e=>by
     rcases Nat.lt_succ_iff_lt_or_eq.1 hj with h|rfl
     ·exact hall.out j h e
     ·rw[hx] at e;exact hxs (Option.some.inj e))
    clear hx hxs;go_wp2;go_roundw
    case rel=>exact⟨i+1,by omega,by go_num,hb,FIN⟩
    case measure=>simp[intOf];omega
  ·obtain rfl:i=n:=by omega
   have hiI:¬(i:Int)<(i:Int):=by omega
   have FIN:=hIz (show VX N s (-1) from .inr ⟨rfl,fun hm=>by
    obtain⟨j,hj⟩:=List.getElem?_of_mem hm;have:=(gO.1 hj).1;have:=H.out.2.2.2;exact hall.out j (by omega) hj⟩)
   go_wp2;go_ret;exact⟨_,rfl,FIN.out,HB.out⟩
def VI(w:World)(N:List Txt)(E:List Ed)(e:Ending)(w':World):Prop:=
 Below w.heap.size w w'∧((cJ N E≠0∧e=.returned (.tuple #[.agg #[.bool false,.slice none 0 0,.slice none 0 0],.int .i64 (cJ N E)]))∨(cJ N E=0∧∃A c B d,e=.returned (.tuple #[.agg #[.bool true,.slice A N.length c,.slice B E.length d],.int .i64 0])∧aU w' A (aE N)∧aU w' B (aP E)∧N.length≤c∧E.length≤d∧(∀b o s,A=some ⟨b,o,s⟩→w.heap.size≤b)∧(∀b o s,B=some ⟨b,o,s⟩→w.heap.size≤b)))
theorem JM(w:World)(A:Option Addr)(c:Nat)(B:Option Addr)(d:Nat)(N:List Txt)(E:List Ed)(h:lB w A c B d N E) :
  Calls Tryz.prog 13 #[cP A N.length c B E.length d] w (VI w N E):=by
 have b0:Below w.heap.size w ((w.alloc (.cells #[.slice A N.length c,.slice B E.length d] 34)).alloc (.cells #[.bool false,.slice none 0 0,.slice none 0 0] 29)):=by(repeat (first | exact Below.refl _ _ | apply Below.drew | refine Below.alloc ?_ (by first | exact Nat.le_refl _ | (simp;done) | (simp;omega)) _ | refine Below.setCell ?_ (by first | exact Nat.le_refl _ | (simp;done) | (simp;omega)) _))
 have k1:=(Blk.new w 34 #[.slice A N.length c,.slice B E.length d]).alloc (.cells #[.bool false,.slice none 0 0,.slice none 0 0] 29);have k2:=Blk.new (w.alloc (.cells #[.slice A N.length c,.slice B E.length d] 34)) 29 #[.bool false,.slice none 0 0,.slice none 0 0];simp only[World.size_alloc] at k2
 have hcon:=xA _ A c B d N E (h.below b0);have hfn:=h.fit.n;have hfe:=h.fit.e;unfold cP at hcon ⊢;obtain⟨n,hn⟩:∃n,N.length=n:=⟨_,rfl⟩;obtain⟨m,hm⟩:∃m,E.length=m:=⟨_,rfl⟩;obtain⟨ci,hci⟩:∃ci,cJ N E=ci:=⟨_,rfl⟩;rw[hn,hm] at b0 k1 k2 hcon ⊢;rw[hn] at hfn;rw[hm] at hfe;rw[hci] at hcon;have H:=aI4 b0 k1 k2 h;have HL:=aI3 hn hm hci;clear b0 k1 k2 h hn hm hci;go_enter Tryz.func13,Tryz.ntmps13;go_upto_region 1 with (fail);generalize (w.alloc (.cells #[.slice A n c,.slice B m d] 34)).alloc (.cells #[.bool false,.slice none 0 0,.slice none 0 0] 29)=W0 at H hcon ⊢;have q0:W0.cell? ⟨w.heap.size,0,none⟩=some (.slice A n c):=H.out.2.1.cell 0;have q1:W0.cell? ⟨w.heap.size,1,none⟩=some (.slice B m d):=H.out.2.1.cell 1;go_wp2_with fail;refine hcon.mono ?_;clear hcon q0 q1;rintro e W1 ⟨rfl,b1⟩;have hu1:=Upd.of_below b1 (fun _=>False);have K1:=H.out.2.1.upd hu1 id;have K2:=H.out.2.2.1.upd hu1 id;have B1:=tHn H.out.1 b1;have ff:=H.out.2.2.2.below B1;have H1:=aI4 B1 K1 K2 ff;have q0:W1.cell? ⟨w.heap.size,0,none⟩=some (.slice A n c):=K1.cell 0;have q1:W1.cell? ⟨w.heap.size,1,none⟩=some (.slice B m d):=K1.cell 1;have s0:W1.cell? ⟨w.heap.size+1,0,none⟩=some (.bool false):=K2.cell 0;have s1:W1.cell? ⟨w.heap.size+1,1,none⟩=some (.slice none 0 0):=K2.cell 1;have s2:W1.cell? ⟨w.heap.size+1,2,none⟩=some (.slice none 0 0):=K2.cell 2;have g0:=K2.frozen 0;have g1:=K2.frozen 1;have g2:=K2.frozen 2;clear H hu1 b1 K1 K2 B1 ff;by_cases h0:ci=0
 ·subst h0;clear s0 s1 s2 g0 g1 g2;have hS:(fun V:World=>V.cell? ⟨w.heap.size,0,none⟩=some (.slice A n c)∧V.cell? ⟨w.heap.size,1,none⟩=some (.slice B m d)) W1.drew:=⟨q0,q1⟩;have US:=hIz (show ∀V,Below W1.heap.size W1 V→(fun V:World=>V.cell? ⟨w.heap.size,0,none⟩=some (.slice A n c)∧V.cell? ⟨w.heap.size,1,none⟩=some (.slice B m d)) V from fun V hb=>by
   have hk:=H1.out.2.1.upd (upF hb) id;exact⟨hk.cell 0,hk.cell 1⟩)
  have HB:=hIz (show Below W1.heap.size W1 W1.drew from bR.drew);go_upto_region 4 with (fail);refine fH (fun V=>V.cell? ⟨w.heap.size,0,none⟩=some (.slice A n c)∧V.cell? ⟨w.heap.size,1,none⟩=some (.slice B m d)) (by kernel_rfl) (by kernel_rfl) hS ?_;refine lM (fun hd=>?_);clear q0 q1;refine aD 1 rfl hd hS ?_;clear hd;intro hd;refine aD 2 rfl hd hS ?_;clear hd;intro hd;refine aD 5 rfl hd hS ?_;clear hd;intro hd;refine aD 6 rfl hd hS ?_;clear hd;intro hd;clear hS;generalize W1.drew=V0 at HB ⊢;refine bK hd 0 4 ?_ ?_<;>(clear hd;intro hd)
  ·refine aJ rfl rfl (fun K hK=>?_);go_simp;have bz:Below V0.heap.size V0 (V0.alloc (.cells #[] 9)):=bR.alloc (Nat.le_refl _) _;have oz:(V0.alloc (.cells #[] 9)).ownsRow V0.heap.size 9 1 (.slice (some ⟨V0.heap.size,0,none⟩) 0 0) 0 []:=gP V0 _ 1;have z0:=hIz (show(V0.alloc (.cells #[] 9)).ownsRow W1.heap.size 9 1 (.slice (some ⟨V0.heap.size,0,none⟩) 0 0) 0 [] from aQ oz (fun k hk=>Nat.le_trans HB.out.size (oz.lt k hk).1));clear oz;have HB:=hIz (tHn HB.out bz);clear bz;refine hK _ _ (US.out _ HB.out) ?_;clear hK K;(try simp only[Act.put,gA,gS,gZ,sA,sZ,sS])
   obtain⟨V1,hV1⟩:∃V,V=V0.alloc (.cells #[] 9):=⟨_,rfl⟩;rw[← hV1] at HB z0 ⊢;clear hV1;refine bK hd 3 4 ?_ ?_<;>(clear hd;intro hd)
   ·refine aJ rfl rfl (fun K hK=>?_);obtain⟨A3,c3,V2,happ,r3,up,pl⟩:=aY V1 W1.heap.size 26 9 1 16 _ Tryz.underlying26 bI rfl (by decide) (by decide) (some ⟨V0.heap.size,0,none⟩) 0 0 [] z0.out A n c (aE N) ((H1.out.2.2.2.below HB.out).rn) (by rw[cD N,HL.out.1]) (jH N) (by omega) HB.out.size;rw[Nat.zero_add] at happ r3 pl;rw[List.nil_append] at r3;have r3:=hIz r3;have HB:=hIz (HB.out.trans (up.below (fun q _ hq=>(z0.out.lt q hq).1) HB.out.size));clear up pl;refine bX _ _ _ rfl rfl rfl happ ?_;refine hK _ _ (US.out _ HB.out) ?_;clear hK K happ;(try simp only[Act.put,gA,gS,gZ,sA,sZ,sS])
    refine aH hd 4 ?_;clear hd;intro hd;refine aJ rfl rfl (fun K hK=>?_);go_simp;have bz:Below V2.heap.size V2 (V2.alloc (.cells #[] 32)):=bR.alloc (Nat.le_refl _) _;have oz:(V2.alloc (.cells #[] 32)).ownsRow V2.heap.size 32 3 (.slice (some ⟨V2.heap.size,0,none⟩) 0 0) 0 []:=gP V2 _ 3;have z4:=hIz (show(V2.alloc (.cells #[] 32)).ownsRow W1.heap.size 32 3 (.slice (some ⟨V2.heap.size,0,none⟩) 0 0) 0 [] from aQ oz (fun k hk=>Nat.le_trans HB.out.size (oz.lt k hk).1));clear oz;have p3:=hIz (show ∀k,(Value.slice A3 n c3).ownBlock=some k→k≠V2.heap.size from fun k hk e=>by have:=(r3.out.lt k hk).2;omega);have r3:=hIz (aA r3.out (upF bz) (fun _ _=>id));have HB:=hIz (tHn HB.out bz);clear bz;refine hK _ _ (US.out _ HB.out) ?_;clear hK K;(try simp only[Act.put,gA,gS,gZ,sA,sZ,sS])
    obtain⟨V3,hV3⟩:∃V,V=V2.alloc (.cells #[] 32):=⟨_,rfl⟩;rw[← hV3] at HB z4 r3 ⊢;clear hV3;refine aH hd 7 ?_;clear hd;intro hd;refine aJ rfl rfl (fun K hK=>?_);obtain⟨A7,c7,V4,happ,r7,up,pl⟩:=aY V3 W1.heap.size 27 32 3 48 _ Tryz.underlying27 fI rfl (by decide) (by decide) (some ⟨V2.heap.size,0,none⟩) 0 0 [] z4.out B m d (aP E) ((H1.out.2.2.2.below HB.out).re) (by rw[bV E,HL.out.2.1]) (qL E) (by omega) HB.out.size;rw[Nat.zero_add] at happ r7 pl;rw[List.nil_append] at r7;have r7:=hIz r7;have r3:=hIz (aA r3.out up (fun k hk hF=>by
     have e2:V2.heap.size=k:=by simpa[Value.ownBlock] using hF
     exact p3.out k hk e2.symm))
    have HB:=hIz (HB.out.trans (up.below (fun q _ hq=>(z4.out.lt q hq).1) HB.out.size));clear up pl;refine bX _ _ _ rfl rfl rfl happ ?_;refine hK _ _ (US.out _ HB.out) ?_;clear hK K happ;(try simp only[Act.put,gA,gS,gZ,sA,sZ,sS])
    have l3:=mU r3.out;have l7:=mU r7.out;have K2:=H1.out.2.2.1.upd (upF HB.out) id;have hS:(fun V:World=>V.cell? ⟨w.heap.size,0,none⟩=some (.slice A n c)∧V.cell? ⟨w.heap.size,1,none⟩=some (.slice B m d)) V4:=US.out _ HB.out;have s0:V4.cell? ⟨w.heap.size+1,0,none⟩=some (.bool false):=K2.cell 0;have s1:V4.cell? ⟨w.heap.size+1,1,none⟩=some (.slice none 0 0):=K2.cell 1;have s2:V4.cell? ⟨w.heap.size+1,2,none⟩=some (.slice none 0 0):=K2.cell 2;have g0:=K2.frozen 0;have g1:=K2.frozen 1;have g2:=K2.frozen 2;have KF:=nZ K2 (.bool true) (.slice A3 n c3) (.slice A7 m c7);have UF:=oB V4 (w.heap.size+1) (.bool true) (.slice A3 n c3) (.slice A7 m c7);have hS9:(fun V:World=>V.cell? ⟨w.heap.size,0,none⟩=some (.slice A n c)∧V.cell? ⟨w.heap.size,1,none⟩=some (.slice B m d)) ((((V4.setCell ⟨w.heap.size+1,0,none⟩ (.bool true)).setCell ⟨w.heap.size+1,1,none⟩ (.slice A3 n c3)).setCell ⟨w.heap.size+1,2,none⟩ (.slice A7 m c7))):=by
     have hk:=(H1.out.2.1.upd (upF HB.out) id).upd UF (fun e=>by omega);exact⟨hk.cell 0,hk.cell 1⟩
    have y0:=KF.cell 0;have y1:=KF.cell 1;have y2:=KF.cell 2;simp only[List.getElem?_toArray,List.getElem?_cons_succ,List.getElem?_cons_zero] at y0 y1 y2
    have FIN:=hIz (show VI w N E (.returned (.tuple #[.agg #[.bool true,.slice A3 n c3,.slice A7 m c7],.int .i64 0])) ((((V4.setCell ⟨w.heap.size+1,0,none⟩ (.bool true)).setCell ⟨w.heap.size+1,1,none⟩ (.slice A3 n c3)).setCell ⟨w.heap.size+1,2,none⟩ (.slice A7 m c7))) from by
     have hz:=H1.out.1.size;have hz2:=H1.out.2.2.1.lt;refine⟨(tHn H1.out.1 HB.out).trans (UF.below (fun q _ e=>by omega) (Nat.le_trans hz HB.out.size)),.inr ⟨HL.out.2.2,A3,c3,A7,c7,by rw[HL.out.1,HL.out.2.1],?_,?_,by rw[HL.out.1];exact l3,by rw[HL.out.2.1];exact l7,fun b o s e=>Nat.le_trans hz ((r3.out.lt b (by rw[e];rfl)).1),fun b o s e=>Nat.le_trans hz ((r7.out.lt b (by rw[e];rfl)).1)⟩⟩
     ·exact aU.of_own (aA r3.out UF (fun k hk e=>by have:=(r3.out.lt k hk).1;omega))
     ·exact aU.of_own (aA r7.out UF (fun k hk e=>by have:=(r7.out.lt k hk).1;omega)))
    clear K2 l3 l7 KF UF;refine aD 8 rfl hd hS ?_;clear hd;intro hd;refine aH hd 9 ?_;clear hd;intro hd;refine aJ rfl rfl (fun K hK=>?_);go_simp;refine hK _ _ hS9 ?_;clear hK K hS;have hS:=hS9;clear hS9 s0 s1 s2 g0 g1 g2;(try simp only[Act.put,gA,gS,gZ,sA,sZ,sS])
    refine aD 10 rfl hd hS ?_;clear hd;intro hd;refine cX (by kernel_rfl) ?_;clear hS hd;go_wp2;generalize (((V4.setCell ⟨w.heap.size+1,0,none⟩ (.bool true)).setCell ⟨w.heap.size+1,1,none⟩ (.slice A3 n c3)).setCell ⟨w.heap.size+1,2,none⟩ (.slice A7 m c7))=WF at FIN y0 y1 y2 ⊢;refine bodyPost_ret (v:=.tuple #[.agg #[.bool true,.slice A3 n c3,.slice A7 m c7],.int .i64 0]) (by simp[results,Tryz.f13,go_sem,y0,y1,y2]) rfl FIN.out
   ·refine aJ rfl rfl (fun K hK=>?_);go_simp;have bz:Below V1.heap.size V1 (V1.alloc (.cells #[] 32)):=bR.alloc (Nat.le_refl _) _;have oz:(V1.alloc (.cells #[] 32)).ownsRow V1.heap.size 32 3 (.slice (some ⟨V1.heap.size,0,none⟩) 0 0) 0 []:=gP V1 _ 3;have z4:=hIz (show(V1.alloc (.cells #[] 32)).ownsRow W1.heap.size 32 3 (.slice (some ⟨V1.heap.size,0,none⟩) 0 0) 0 [] from aQ oz (fun k hk=>Nat.le_trans HB.out.size (oz.lt k hk).1));clear oz;have hne:=hIz (show V0.heap.size≠V1.heap.size from fun e=>by have:=(z0.out.lt V0.heap.size rfl).2;omega);have z0:=hIz (aA z0.out (upF bz) (fun _ _=>id));have HB:=hIz (tHn HB.out bz);clear bz;refine hK _ _ (US.out _ HB.out) ?_;clear hK K;(try simp only[Act.put,gA,gS,gZ,sA,sZ,sS])
    obtain⟨V5,hV5⟩:∃V,V=V1.alloc (.cells #[] 32):=⟨_,rfl⟩;rw[← hV5] at HB z4 z0 ⊢;clear hV5;refine aH hd 3 ?_;clear hd;intro hd;refine aJ rfl rfl (fun K hK=>?_);obtain⟨A3,c3,V6,happ,r3,up,pl⟩:=aY V5 W1.heap.size 26 9 1 16 _ Tryz.underlying26 bI rfl (by decide) (by decide) (some ⟨V0.heap.size,0,none⟩) 0 0 [] z0.out A n c (aE N) ((H1.out.2.2.2.below HB.out).rn) (by rw[cD N,HL.out.1]) (jH N) (by omega) HB.out.size;rw[Nat.zero_add] at happ r3 pl;rw[List.nil_append] at r3;have r3:=hIz r3;have p3:=hIz (show ∀k,(Value.slice A3 n c3).ownBlock=some k→k≠V1.heap.size from fun k hk e=>by
     have h4:=(z4.out.lt V1.heap.size rfl).2;rcases pl k hk with h|h
     ·have e2:V0.heap.size=k:=by simpa[Value.ownBlock] using h
      exact hne.out (e2.trans e)
     ·omega)
    have z4:=hIz (aA z4.out up (fun k hk hF=>by
     have e1:V1.heap.size=k:=by simpa[Value.ownBlock] using hk
     have e2:V0.heap.size=k:=by simpa[Value.ownBlock] using hF
     exact hne.out (e2.trans e1.symm)))
    have HB:=hIz (HB.out.trans (up.below (fun q _ hq=>(z0.out.lt q hq).1) HB.out.size));clear up pl;refine bX _ _ _ rfl rfl rfl happ ?_;refine hK _ _ (US.out _ HB.out) ?_;clear hK K happ;(try simp only[Act.put,gA,gS,gZ,sA,sZ,sS])
    refine aH hd 7 ?_;clear hd;intro hd;refine aJ rfl rfl (fun K hK=>?_);obtain⟨A7,c7,V7,happ,r7,up,pl⟩:=aY V6 W1.heap.size 27 32 3 48 _ Tryz.underlying27 fI rfl (by decide) (by decide) (some ⟨V1.heap.size,0,none⟩) 0 0 [] z4.out B m d (aP E) ((H1.out.2.2.2.below HB.out).re) (by rw[bV E,HL.out.2.1]) (qL E) (by omega) HB.out.size;rw[Nat.zero_add] at happ r7 pl;rw[List.nil_append] at r7;have r7:=hIz r7;have r3:=hIz (aA r3.out up (fun k hk hF=>by
     have e2:V1.heap.size=k:=by simpa[Value.ownBlock] using hF
     exact p3.out k hk e2.symm))
    have HB:=hIz (HB.out.trans (up.below (fun q _ hq=>(z4.out.lt q hq).1) HB.out.size));clear up pl;refine bX _ _ _ rfl rfl rfl happ ?_;refine hK _ _ (US.out _ HB.out) ?_;clear hK K happ;(try simp only[Act.put,gA,gS,gZ,sA,sZ,sS])
    have l3:=mU r3.out;have l7:=mU r7.out;have K2:=H1.out.2.2.1.upd (upF HB.out) id;have hS:(fun V:World=>V.cell? ⟨w.heap.size,0,none⟩=some (.slice A n c)∧V.cell? ⟨w.heap.size,1,none⟩=some (.slice B m d)) V7:=US.out _ HB.out;have s0:V7.cell? ⟨w.heap.size+1,0,none⟩=some (.bool false):=K2.cell 0;have s1:V7.cell? ⟨w.heap.size+1,1,none⟩=some (.slice none 0 0):=K2.cell 1;have s2:V7.cell? ⟨w.heap.size+1,2,none⟩=some (.slice none 0 0):=K2.cell 2;have g0:=K2.frozen 0;have g1:=K2.frozen 1;have g2:=K2.frozen 2;have KF:=nZ K2 (.bool true) (.slice A3 n c3) (.slice A7 m c7);have UF:=oB V7 (w.heap.size+1) (.bool true) (.slice A3 n c3) (.slice A7 m c7);have hS9:(fun V:World=>V.cell? ⟨w.heap.size,0,none⟩=some (.slice A n c)∧V.cell? ⟨w.heap.size,1,none⟩=some (.slice B m d)) ((((V7.setCell ⟨w.heap.size+1,0,none⟩ (.bool true)).setCell ⟨w.heap.size+1,1,none⟩ (.slice A3 n c3)).setCell ⟨w.heap.size+1,2,none⟩ (.slice A7 m c7))):=by
     have hk:=(H1.out.2.1.upd (upF HB.out) id).upd UF (fun e=>by omega);exact⟨hk.cell 0,hk.cell 1⟩
    have y0:=KF.cell 0;have y1:=KF.cell 1;have y2:=KF.cell 2;simp only[List.getElem?_toArray,List.getElem?_cons_succ,List.getElem?_cons_zero] at y0 y1 y2
    have FIN:=hIz (show VI w N E (.returned (.tuple #[.agg #[.bool true,.slice A3 n c3,.slice A7 m c7],.int .i64 0])) ((((V7.setCell ⟨w.heap.size+1,0,none⟩ (.bool true)).setCell ⟨w.heap.size+1,1,none⟩ (.slice A3 n c3)).setCell ⟨w.heap.size+1,2,none⟩ (.slice A7 m c7))) from by
     have hz:=H1.out.1.size;have hz2:=H1.out.2.2.1.lt;refine⟨(tHn H1.out.1 HB.out).trans (UF.below (fun q _ e=>by omega) (Nat.le_trans hz HB.out.size)),.inr ⟨HL.out.2.2,A3,c3,A7,c7,by rw[HL.out.1,HL.out.2.1],?_,?_,by rw[HL.out.1];exact l3,by rw[HL.out.2.1];exact l7,fun b o s e=>Nat.le_trans hz ((r3.out.lt b (by rw[e];rfl)).1),fun b o s e=>Nat.le_trans hz ((r7.out.lt b (by rw[e];rfl)).1)⟩⟩
     ·exact aU.of_own (aA r3.out UF (fun k hk e=>by have:=(r3.out.lt k hk).1;omega))
     ·exact aU.of_own (aA r7.out UF (fun k hk e=>by have:=(r7.out.lt k hk).1;omega)))
    clear K2 l3 l7 KF UF;refine aD 8 rfl hd hS ?_;clear hd;intro hd;refine aH hd 9 ?_;clear hd;intro hd;refine aJ rfl rfl (fun K hK=>?_);go_simp;refine hK _ _ hS9 ?_;clear hK K hS;have hS:=hS9;clear hS9 s0 s1 s2 g0 g1 g2;(try simp only[Act.put,gA,gS,gZ,sA,sZ,sS])
    refine aD 10 rfl hd hS ?_;clear hd;intro hd;refine cX (by kernel_rfl) ?_;clear hS hd;go_wp2;generalize (((V7.setCell ⟨w.heap.size+1,0,none⟩ (.bool true)).setCell ⟨w.heap.size+1,1,none⟩ (.slice A3 n c3)).setCell ⟨w.heap.size+1,2,none⟩ (.slice A7 m c7))=WF at FIN y0 y1 y2 ⊢;refine bodyPost_ret (v:=.tuple #[.agg #[.bool true,.slice A3 n c3,.slice A7 m c7],.int .i64 0]) (by simp[results,Tryz.f13,go_sem,y0,y1,y2]) rfl FIN.out
  ·refine aJ rfl rfl (fun K hK=>?_);go_simp;have bz:Below V0.heap.size V0 (V0.alloc (.cells #[] 32)):=bR.alloc (Nat.le_refl _) _;have oz:(V0.alloc (.cells #[] 32)).ownsRow V0.heap.size 32 3 (.slice (some ⟨V0.heap.size,0,none⟩) 0 0) 0 []:=gP V0 _ 3;have z4:=hIz (show(V0.alloc (.cells #[] 32)).ownsRow W1.heap.size 32 3 (.slice (some ⟨V0.heap.size,0,none⟩) 0 0) 0 [] from aQ oz (fun k hk=>Nat.le_trans HB.out.size (oz.lt k hk).1));clear oz;have HB:=hIz (tHn HB.out bz);clear bz;refine hK _ _ (US.out _ HB.out) ?_;clear hK K;(try simp only[Act.put,gA,gS,gZ,sA,sZ,sS])
   obtain⟨V8,hV8⟩:∃V,V=V0.alloc (.cells #[] 32):=⟨_,rfl⟩;rw[← hV8] at HB z4 ⊢;clear hV8;refine aH hd 0 ?_;clear hd;intro hd;refine aJ rfl rfl (fun K hK=>?_);go_simp;have bz:Below V8.heap.size V8 (V8.alloc (.cells #[] 9)):=bR.alloc (Nat.le_refl _) _;have oz:(V8.alloc (.cells #[] 9)).ownsRow V8.heap.size 9 1 (.slice (some ⟨V8.heap.size,0,none⟩) 0 0) 0 []:=gP V8 _ 1;have z0:=hIz (show(V8.alloc (.cells #[] 9)).ownsRow W1.heap.size 9 1 (.slice (some ⟨V8.heap.size,0,none⟩) 0 0) 0 [] from aQ oz (fun k hk=>Nat.le_trans HB.out.size (oz.lt k hk).1));clear oz;have hne:=hIz (show V8.heap.size≠V0.heap.size from fun e=>by have:=(z4.out.lt V0.heap.size rfl).2;omega);have z4:=hIz (aA z4.out (upF bz) (fun _ _=>id));have HB:=hIz (tHn HB.out bz);clear bz;refine hK _ _ (US.out _ HB.out) ?_;clear hK K;(try simp only[Act.put,gA,gS,gZ,sA,sZ,sS])
   obtain⟨V9,hV9⟩:∃V,V=V8.alloc (.cells #[] 9):=⟨_,rfl⟩;rw[← hV9] at HB z0 z4 ⊢;clear hV9;refine aH hd 3 ?_;clear hd;intro hd;refine aJ rfl rfl (fun K hK=>?_);obtain⟨A3,c3,V10,happ,r3,up,pl⟩:=aY V9 W1.heap.size 26 9 1 16 _ Tryz.underlying26 bI rfl (by decide) (by decide) (some ⟨V8.heap.size,0,none⟩) 0 0 [] z0.out A n c (aE N) ((H1.out.2.2.2.below HB.out).rn) (by rw[cD N,HL.out.1]) (jH N) (by omega) HB.out.size;rw[Nat.zero_add] at happ r3 pl;rw[List.nil_append] at r3;have r3:=hIz r3;have p3:=hIz (show ∀k,(Value.slice A3 n c3).ownBlock=some k→k≠V0.heap.size from fun k hk e=>by
    have h4:=(z4.out.lt V0.heap.size rfl).2;rcases pl k hk with h|h
    ·have e2:V8.heap.size=k:=by simpa[Value.ownBlock] using h
     exact hne.out (e2.trans e)
    ·omega)
   have z4:=hIz (aA z4.out up (fun k hk hF=>by
    have e1:V0.heap.size=k:=by simpa[Value.ownBlock] using hk
    have e2:V8.heap.size=k:=by simpa[Value.ownBlock] using hF
    exact hne.out (e2.trans e1.symm)))
   have HB:=hIz (HB.out.trans (up.below (fun q _ hq=>(z0.out.lt q hq).1) HB.out.size));clear up pl;refine bX _ _ _ rfl rfl rfl happ ?_;refine hK _ _ (US.out _ HB.out) ?_;clear hK K happ;(try simp only[Act.put,gA,gS,gZ,sA,sZ,sS])
   refine aH hd 7 ?_;clear hd;intro hd;refine aJ rfl rfl (fun K hK=>?_);obtain⟨A7,c7,V11,happ,r7,up,pl⟩:=aY V10 W1.heap.size 27 32 3 48 _ Tryz.underlying27 fI rfl (by decide) (by decide) (some ⟨V0.heap.size,0,none⟩) 0 0 [] z4.out B m d (aP E) ((H1.out.2.2.2.below HB.out).re) (by rw[bV E,HL.out.2.1]) (qL E) (by omega) HB.out.size;rw[Nat.zero_add] at happ r7 pl;rw[List.nil_append] at r7;have r7:=hIz r7;have r3:=hIz (aA r3.out up (fun k hk hF=>by
    have e2:V0.heap.size=k:=by simpa[Value.ownBlock] using hF
    exact p3.out k hk e2.symm))
   have HB:=hIz (HB.out.trans (up.below (fun q _ hq=>(z4.out.lt q hq).1) HB.out.size));clear up pl;refine bX _ _ _ rfl rfl rfl happ ?_;refine hK _ _ (US.out _ HB.out) ?_;clear hK K happ;(try simp only[Act.put,gA,gS,gZ,sA,sZ,sS])
   have l3:=mU r3.out;have l7:=mU r7.out;have K2:=H1.out.2.2.1.upd (upF HB.out) id;have hS:(fun V:World=>V.cell? ⟨w.heap.size,0,none⟩=some (.slice A n c)∧V.cell? ⟨w.heap.size,1,none⟩=some (.slice B m d)) V11:=US.out _ HB.out;have s0:V11.cell? ⟨w.heap.size+1,0,none⟩=some (.bool false):=K2.cell 0;have s1:V11.cell? ⟨w.heap.size+1,1,none⟩=some (.slice none 0 0):=K2.cell 1;have s2:V11.cell? ⟨w.heap.size+1,2,none⟩=some (.slice none 0 0):=K2.cell 2;have g0:=K2.frozen 0;have g1:=K2.frozen 1;have g2:=K2.frozen 2;have KF:=nZ K2 (.bool true) (.slice A3 n c3) (.slice A7 m c7);have UF:=oB V11 (w.heap.size+1) (.bool true) (.slice A3 n c3) (.slice A7 m c7);have hS9:(fun V:World=>V.cell? ⟨w.heap.size,0,none⟩=some (.slice A n c)∧V.cell? ⟨w.heap.size,1,none⟩=some (.slice B m d)) ((((V11.setCell ⟨w.heap.size+1,0,none⟩ (.bool true)).setCell ⟨w.heap.size+1,1,none⟩ (.slice A3 n c3)).setCell ⟨w.heap.size+1,2,none⟩ (.slice A7 m c7))):=by
    have hk:=(H1.out.2.1.upd (upF HB.out) id).upd UF (fun e=>by omega);exact⟨hk.cell 0,hk.cell 1⟩
   have y0:=KF.cell 0;have y1:=KF.cell 1;have y2:=KF.cell 2;simp only[List.getElem?_toArray,List.getElem?_cons_succ,List.getElem?_cons_zero] at y0 y1 y2
   have FIN:=hIz (show VI w N E (.returned (.tuple #[.agg #[.bool true,.slice A3 n c3,.slice A7 m c7],.int .i64 0])) ((((V11.setCell ⟨w.heap.size+1,0,none⟩ (.bool true)).setCell ⟨w.heap.size+1,1,none⟩ (.slice A3 n c3)).setCell ⟨w.heap.size+1,2,none⟩ (.slice A7 m c7))) from by
    have hz:=H1.out.1.size;have hz2:=H1.out.2.2.1.lt;refine⟨(tHn H1.out.1 HB.out).trans (UF.below (fun q _ e=>by omega) (Nat.le_trans hz HB.out.size)),.inr ⟨HL.out.2.2,A3,c3,A7,c7,by rw[HL.out.1,HL.out.2.1],?_,?_,by rw[HL.out.1];exact l3,by rw[HL.out.2.1];exact l7,fun b o s e=>Nat.le_trans hz ((r3.out.lt b (by rw[e];rfl)).1),fun b o s e=>Nat.le_trans hz ((r7.out.lt b (by rw[e];rfl)).1)⟩⟩
    ·exact aU.of_own (aA r3.out UF (fun k hk e=>by have:=(r3.out.lt k hk).1;omega))
    ·exact aU.of_own (aA r7.out UF (fun k hk e=>by have:=(r7.out.lt k hk).1;omega)))
   clear K2 l3 l7 KF UF;refine aD 8 rfl hd hS ?_;clear hd;intro hd;refine aH hd 9 ?_;clear hd;intro hd;refine aJ rfl rfl (fun K hK=>?_);go_simp;refine hK _ _ hS9 ?_;clear hK K hS;have hS:=hS9;clear hS9 s0 s1 s2 g0 g1 g2;(try simp only[Act.put,gA,gS,gZ,sA,sZ,sS])
   refine aD 10 rfl hd hS ?_;clear hd;intro hd;refine cX (by kernel_rfl) ?_;clear hS hd;go_wp2;generalize (((V11.setCell ⟨w.heap.size+1,0,none⟩ (.bool true)).setCell ⟨w.heap.size+1,1,none⟩ (.slice A3 n c3)).setCell ⟨w.heap.size+1,2,none⟩ (.slice A7 m c7))=WF at FIN y0 y1 y2 ⊢;refine bodyPost_ret (v:=.tuple #[.agg #[.bool true,.slice A3 n c3,.slice A7 m c7],.int .i64 0]) (by simp[results,Tryz.f13,go_sem,y0,y1,y2]) rfl FIN.out
 ·have h0e:=h0;have hne:(ci != 0)=true:=by simpa using h0
  have FIN:=hIz (show ∀V,Below w.heap.size w V→VI w N E (.returned (.tuple #[.agg #[.bool false,.slice none 0 0,.slice none 0 0],.int .i64 ci])) V from fun V hb=>⟨hb,.inl ⟨by rw[HL.out.2.2];exact h0e,by rw[HL.out.2.2]⟩⟩);have KF:=nZ H1.out.2.2.1 (.bool false) (.slice none 0 0) (.slice none 0 0);have UF:=oB W1 (w.heap.size+1) (.bool false) (.slice none 0 0) (.slice none 0 0);have y0:=KF.cell 0;have y1:=KF.cell 1;have y2:=KF.cell 2;simp only[List.getElem?_toArray,List.getElem?_cons_succ,List.getElem?_cons_zero] at y0 y1 y2
  have FIN:=hIz (FIN.out ((((W1.setCell ⟨w.heap.size+1,0,none⟩ (.bool false)).setCell ⟨w.heap.size+1,1,none⟩ (.slice none 0 0)).setCell ⟨w.heap.size+1,2,none⟩ (.slice none 0 0))) (H1.out.1.trans (UF.below (fun q _ e=>by omega) H1.out.1.size)));clear h0e h0 KF UF;go_wp2;generalize (((W1.setCell ⟨w.heap.size+1,0,none⟩ (.bool false)).setCell ⟨w.heap.size+1,1,none⟩ (.slice none 0 0)).setCell ⟨w.heap.size+1,2,none⟩ (.slice none 0 0))=WF at FIN y0 y1 y2 ⊢;refine bodyPost_ret (v:=.tuple #[.agg #[.bool false,.slice none 0 0,.slice none 0 0],.int .i64 ci]) (by simp[results,Tryz.f13,go_sem,y0,y1,y2]) rfl FIN.out
end Go.Proofs.YtddffnonlmfhdaaGreatDoor
