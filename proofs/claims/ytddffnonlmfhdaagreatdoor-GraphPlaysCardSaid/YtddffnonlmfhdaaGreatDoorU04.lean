/- The document's answer of layer 16: edges, rising, each once; Rows: what stands at a place; texts added; The document's answer of layer 16: labels, lone nodes, the text; The document's answer of layer 16: are all named? Is it in its form?; The document's answer of layer 16: what is too many; Check; Graphs: hops held one against the other; where a hop stands in a rising list; Graphs: where a hop stands in a rising list (slices.BinarySearchFunc). -/
import Derived.Test.YtddffnonlmfhdaaGreatDoorU03
import Derived.Test.YtddffnonlmfhdaaGreatDoorU01
import Derived.Test.YtddffnonlmfhdaaGreatDoorU02
import Derived.Shelf.Abstract
set_option linter.unusedVariables false
set_option linter.unusedSimpArgs false
set_option maxHeartbeats 16000000
set_option maxRecDepth 100000
namespace Go.Proofs.YtddffnonlmfhdaaGreatDoor
open Go.RowKit
theorem aV.take_ed{w:World}{A:Option Addr}{N:List Ed}(h:aV w A (aH N))(k:Nat):aV w A (aH (N.take k)):=fun j u hj=>by
 refine h j u ?_;have e:aH N=aH (N.take k)++aH (N.drop k):=by rw[aH,aH,aH,← List.flatMap_append,List.take_append_drop]
 rw[e,List.getElem?_append_left (gO.1 hj).1];exact hj
theorem aV.drop_ed{w:World}{ab ao:Nat}{N:List Ed}(h:aV w (some ⟨ab,ao,none⟩) (aH N))(k:Nat)(hk:k≤N.length):aV w (some ⟨ab,ao+k*3,none⟩) (aH (N.drop k)):=fun j u hj=>by
 have e:aH N=aH (N.take k)++aH (N.drop k):=by rw[aH,aH,aH,← List.flatMap_append,List.take_append_drop]
 have l:(aH (N.take k)).length=k*3:=by rw[bK,List.length_take];omega
 obtain⟨b,o,e2,x⟩:=h (k*3+j) u (by rw[e,List.getElem?_append_right (by rw[l];omega),l,Nat.add_sub_cancel_left];exact hj);injection e2 with e2;injection e2 with e1 e3;subst e1;subst e3;exact⟨ab,ao+k*3,rfl,by rw[Nat.add_assoc];exact x⟩
theorem kC(w:World)(A:Option Addr)(c:Nat)(N:List Ed)(h2:N.length<2)(h:aV w A (aH N)):Calls Tryz.prog 100 #[.slice A N.length c] w (wQ w (aR ltE N)):=by
 rw[jI jR h2];obtain⟨n,hn⟩:∃n,N.length=n:=⟨_,rfl⟩;rw[hn] at h2 ⊢;have b0:Below w.heap.size w (w.alloc (.cells #[] 32)):=bR.alloc (Nat.le_refl _) _;obtain⟨B6,c6,w6,happ,own6,b6⟩:=eH (w.alloc (.cells #[] 32)) w.heap.size 27 32 3 48 _ Tryz.underlying27 dN rfl (by decide) (by decide) (some ⟨w.heap.size,0,none⟩) 0 0 [] (dG w _ 3) A n c (aH N) (h.below b0) (by rw[bK,hn]) (mJ N) (by omega) (by simp);rw[Nat.zero_add] at happ own6;rw[List.nil_append] at own6;have HN:=hIz (show wQ w N (.returned (.slice B6 n c6)) w6 from⟨_,rfl,by rw[hn];exact own6,b0.trans b6⟩);have hI:(n:Int)<2:=by omega
 clear own6 b6 b0 h hn;go_enter Tryz.func100,Tryz.ntmps100;go_wp2_with (at_builtin;refine wpList_append_run rfl _ _ _ rfl rfl rfl happ ?_);go_ret;exact HN.out
theorem dB:∀(k:Nat) (w:World) (A:Option Addr) (c:Nat) (N:List Ed),N.length≤k→aV w A (aH N)→N.length≤c→N.length*48≤140737488355328 →
  Calls Tryz.prog 100 #[.slice A N.length c] w (wQ w (aR ltE N)):=by
 intro k;induction k with
 | zero=>exact fun w A c N hk h _ _=>kC w A c N (by omega) h
 | succ k ih =>
  intro w A c N hk h hc hl;by_cases h2:N.length<2
  ·exact kC w A c N h2 h
  obtain⟨x,hx⟩:∃x,N[0]?=some x:=⟨N[0]'(by omega),gEz _⟩;obtain⟨ab,ao,rfl,-⟩:=h.ed hx;obtain⟨n0,hn⟩:∃n,N.length=n:=⟨_,rfl⟩;obtain⟨q,hq⟩:∃q,n0 / 2=q:=⟨_,rfl⟩;rw[hn] at hk hc hl h2 ⊢;have hq1:1≤q:=by omega
  have hqn:q<n0:=by omega
  have hqI:(n0:Int).tdiv 2=(q:Int):=by
   rw[Int.tdiv_eq_ediv_of_nonneg (by omega),← hq];omega
  have hq2:q≤n0:=by omega
  have hqc:q≤c:=by omega
  have hqw:IntKind.i64.wrap (q:Int)=(q:Int):=IntWalk.i64_in _ (by omega);have hcq:¬(c=q):=by omega
  have lt:(N.take q).length=q:=by rw[List.length_take,hn];omega
  have ld:(N.drop q).length=n0-q:=by rw[List.length_drop,hn]
  have c1:∀W,Below w.heap.size w W→Calls Tryz.prog 100 #[.slice (some ⟨ab,ao,none⟩) q c] W (wQ W (aR ltE (N.take q))):=fun W hb=>by
   have:=ih W (some ⟨ab,ao,none⟩) c (N.take q) (by omega) ((h.below hb).take_ed q) (by omega) (by omega);rwa [lt] at this
  have c2:∀W,Below w.heap.size w W→Calls Tryz.prog 100 #[.slice (some ⟨ab,ao+q*3,none⟩) (n0-q) (c-q)] W (wQ W (aR ltE (N.drop q))):=fun W hb=>by
   have:=ih W (some ⟨ab,ao+q*3,none⟩) (c-q) (N.drop q) (by omega) ((h.below hb).drop_ed q (by omega)) (by omega) (by omega);rwa [ld] at this
  have l1:=dP jR (N.take q);have l2:=dP jR (N.drop q);rw[lt] at l1;rw[ld] at l2;have H:=aI5 c1 c2 l1 l2 hn;have h2I:¬((n0:Int)<2):=by omega
  clear c1 c2 l1 l2 hn ih h hx lt ld hq x;go_enter Tryz.func100,Tryz.ntmps100;go_upto_region 3 with (fail);refine aO (fun _=>True) 14 [(0,true),(1,true),(2,true),(3,true),(4,true),(6,true),(7,true),(8,true),(9,true),(10,true),(5,false),(11,false),(12,true),(13,true)] (by kernel_rfl) (by kernel_rfl) (fun _ _ d _ _ h=>by cases d <;> exact h) trivial ?_
  iterate 10 refine aB rfl ?_
  refine aN rfl rfl (fun K hK=>?_);go_simp;refine(H.out.1 w.drew bR.drew).mono ?_;rintro e w1 ⟨v1,rfl,own1,b1⟩;have bb1:Below w.heap.size w w1:=(Below.refl w.heap.size w).drew.trans b1;have HB1:=hIz bb1;have HO1:=hIz own1;refine hK _ _ (fun _=>trivial) ?_;clear hK K own1 b1 bb1;(try simp only[Act.put,gA,gS,gZ,sA,sZ,sS])
  refine aN rfl rfl (fun K hK=>?_);go_simp;refine(H.out.2.1 w1 HB1.out).mono ?_;rintro e W2 ⟨v2,rfl,own2,b2⟩;obtain⟨A1,c1,rfl,hc1,r1⟩:=bS HO1.out;obtain⟨A2,c2,rfl,hc2,r2⟩:=bS own2;obtain⟨P,hP⟩:∃P,aR ltE (N.take q)=P:=⟨_,rfl⟩;obtain⟨Q,hQ⟩:∃P,aR ltE (N.drop q)=P:=⟨_,rfl⟩;have hPQ:mrg ltE P Q=aR ltE N:=by rw[← hP,← hQ,lR jR]
  have HH:=H.out;rw[hP,hQ] at HH;rw[hP] at hc1 r1 ⊢;rw[hQ] at hc2 r2 ⊢;obtain⟨n,hn⟩:∃n,P.length=n:=⟨_,rfl⟩;obtain⟨m,hm⟩:∃n,Q.length=n:=⟨_,rfl⟩;rw[hn,hm] at HH;rw[hn] at hc1 ⊢;rw[hm] at hc2 ⊢;have hnm:(n+m)*48≤140737488355328:=by have:=HH.2.2.1;have:=HH.2.2.2.1;omega
  have HR:=aI2 (r1.below b2) r2;have HL:=aI2 hn hm;have HB2:=aI2 (tHn HB1.out b2) hPQ;refine hK _ _ (fun _=>trivial) ?_;clear hK K own2 b2 r1 r2 HH hP hQ hn hm HO1 hPQ;(try simp only[Act.put,gA,gS,gZ,sA,sZ,sS])
  refine aB rfl ?_;refine aB rfl ?_;refine aF ?_;clear hqI h2I hq1 hqn hq2 hqc hl hk hc h2 H HB1;go_wp2_with fail;go_loopw [5,6,7] (fun v i j wr=>∃(p q:Nat) (L:List Ed),p≤n∧q≤m∧i=.int .i64 p∧j=.int .i64 q∧L.length≤p+q∧Hid (L++mrg ltE (P.drop p) (Q.drop q)=mrg ltE P Q)∧Hid (Below W2.heap.size W2 wr)∧Hid (wr.ownsRow W2.heap.size 32 3 v L.length (aH L))) (fun _ i j _=>(n-(intOf i).toNat)+(m-(intOf j).toNat))
  case atStart=>exact⟨0,0,[],Nat.zero_le _,Nat.zero_le _,rfl,rfl,Nat.le_refl _,hIz (by simp),hIz bR,hIz (World.ownsRow_nil _ _ _ _)⟩
  case round =>
   obtain⟨p,q,L,hp,hq,rfl,rfl,hL,hI,hbw,how⟩:=hrel;have hpw:IntKind.i64.wrap ((p:Int)+1)=(p:Int)+1:=IntWalk.i64_in _ (by omega);have hqw:IntKind.i64.wrap ((q:Int)+1)=(q:Int)+1:=IntWalk.i64_in _ (by omega);by_cases hpn:p<n
   ·have hpI:(p:Int)<(n:Int):=by omega
    obtain⟨⟨x1,x2,x3⟩,hx⟩:∃z,P[p]?=some z:=⟨P[p]'(by rw[HL.out.1];assumption),gEz _⟩;obtain⟨ab,ao,rfl,xa,xb,xc⟩:=(HR.out.1.below hbw.out).ed hx;dsimp only at xa xb xc
    by_cases hqm:q<m
    ·have hqI:(q:Int)<(m:Int):=by omega
     have hqne:((q:Int)==(m:Int))=false:=by simp;omega
     obtain⟨⟨y1,y2,y3⟩,hy⟩:∃z,Q[q]?=some z:=⟨Q[q]'(by rw[HL.out.2];assumption),gEz _⟩;obtain⟨bb,bo,rfl,ya,yb,yc⟩:=(HR.out.2.below hbw.out).ed hy;dsimp only at ya yb yc
     have hbf:=fun W=>pN ⟨x1,x2,x3⟩ ⟨y1,y2,y3⟩ W
     obtain⟨v0,hv⟩:∃b,ltE ⟨x1,x2,x3⟩ ⟨y1,y2,y3⟩=b:=⟨_,rfl⟩;rw[hv] at hbf;unfold Ed.agg at hbf;dsimp only at hbf
     have HBF:=hIz hbf;have HV:=hIz hv;clear hbf hv;have hS:wr.drew.cell? ⟨ab,ao+p*3,none⟩=some (.string x1)∧wr.drew.cell? ⟨ab,ao+p*3+1,none⟩=some (.string x2)∧wr.drew.cell? ⟨ab,ao+p*3+2,none⟩=some (.string x3)∧wr.drew.cell? ⟨bb,bo+q*3,none⟩=some (.string y1)∧wr.drew.cell? ⟨bb,bo+q*3+1,none⟩=some (.string y2)∧wr.drew.cell? ⟨bb,bo+q*3+2,none⟩=some (.string y3):=⟨xa,xb,xc,ya,yb,yc⟩;go_upto_region 7 with (fail);refine aE (fun w'=>w'.cell? ⟨ab,ao+p*3,none⟩=some (.string x1)∧w'.cell? ⟨ab,ao+p*3+1,none⟩=some (.string x2)∧w'.cell? ⟨ab,ao+p*3+2,none⟩=some (.string x3)∧w'.cell? ⟨bb,bo+q*3,none⟩=some (.string y1)∧w'.cell? ⟨bb,bo+q*3+1,none⟩=some (.string y2)∧w'.cell? ⟨bb,bo+q*3+2,none⟩=some (.string y3)) 21 [(0,true),(1,true),(2,true),(3,true),(4,true),(5,true),(6,true),(7,true),(8,true),(9,true),(10,true),(11,true),(12,true),(13,true),(14,true),(15,true),(16,true),(17,true),(18,false),(19,true),(20,true)] hS ?_
     iterate 18 refine aB rfl ?_
     (refine cM rfl (by first | with_reducible rfl | kernel_rfl) (fun K hK=>?_);go_simp)
     refine(HBF.out wr.drew).mono ?_;rintro e W5 ⟨rfl,b5⟩;have bW5:Below wr.heap.size wr W5:=(Below.refl wr.heap.size wr).drew.trans b5;have xa5:=(bW5.cell (World.block_lt_of_cell? _ _ xa)).trans xa;have xb5:=(bW5.cell (World.block_lt_of_cell? _ _ xb)).trans xb;have xc5:=(bW5.cell (World.block_lt_of_cell? _ _ xc)).trans xc;have ya5:=(bW5.cell (World.block_lt_of_cell? _ _ ya)).trans ya;have yb5:=(bW5.cell (World.block_lt_of_cell? _ _ yb)).trans yb;have yc5:=(bW5.cell (World.block_lt_of_cell? _ _ yc)).trans yc;have own5:=aA how.out (upF bW5) (fun _ _ h=>h);have bb5:=tHn hbw.out bW5;have HB5:=aI3 bW5 own5 bb5;clear own5 bb5 bW5 b5;refine hK _ _ (fun _=>⟨xa5,xb5,xc5,ya5,yb5,yc5⟩) ?_;clear hK K hS;(try simp only[Act.put,gA,gS,gZ,sA,sZ,sS])
     cases v0 with
     | true =>
      refine aB rfl ?_;refine aB rfl ?_;refine aF ?_;have bb5:=HB5.out.2.2;have own5:=HB5.out.2.1;obtain⟨v6,w6,happ,own6,u6,-⟩:=jJ W5 W2.heap.size _ L own5 ⟨x1,x2,x3⟩ (by omega) bb5.size;have HN:=aI2 (bb5.trans (u6.below (fun k _ e=>(own5.lt k e).1) bb5.size)) own6;dsimp only at happ
      have HI:=hIz (show(L++[(⟨x1,x2,x3⟩:Ed)])++mrg ltE (P.drop (p+1)) (Q.drop (q))=mrg ltE P Q by
       rw[← hI.out,gG hx (.inr ⟨_,hy,HV.out⟩)];simp)
      clear hI hx hy own6 own5 bb5 u6;clear xa xb xc ya yb yc;clear ya5 yb5 yc5;go_wp2_with (at_builtin;refine wpList_append_run rfl _ _ _ rfl rfl rfl happ ?_);go_roundw
      case rel=>exact⟨p+1,q,L++[(⟨x1,x2,x3⟩:Ed)],by omega,by omega,by go_num,by go_num,by simp;omega,HI,hIz HN.out.1,hIz HN.out.2⟩
      case measure=>simp[intOf];omega
     | false =>
      refine aB rfl ?_;refine aB rfl ?_;refine aF ?_;have bb5:=HB5.out.2.2;have own5:=HB5.out.2.1;have heq:=fun W=>AM W ⟨x1,x2,x3⟩ ⟨y1,y2,y3⟩
      unfold Ed.agg at heq;dsimp only at heq
      by_cases he:(⟨x1,x2,x3⟩:Ed)=(⟨y1,y2,y3⟩:Ed)
      ·rw[decide_eq_true he] at heq;have HE:=hIz he;clear he;have hS:W5.drew.cell? ⟨ab,ao+p*3,none⟩=some (.string x1)∧W5.drew.cell? ⟨ab,ao+p*3+1,none⟩=some (.string x2)∧W5.drew.cell? ⟨ab,ao+p*3+2,none⟩=some (.string x3)∧W5.drew.cell? ⟨bb,bo+q*3,none⟩=some (.string y1)∧W5.drew.cell? ⟨bb,bo+q*3+1,none⟩=some (.string y2)∧W5.drew.cell? ⟨bb,bo+q*3+2,none⟩=some (.string y3):=⟨xa5,xb5,xc5,ya5,yb5,yc5⟩;go_upto_region 10 with (fail);refine aE (fun w'=>w'.cell? ⟨ab,ao+p*3,none⟩=some (.string x1)∧w'.cell? ⟨ab,ao+p*3+1,none⟩=some (.string x2)∧w'.cell? ⟨ab,ao+p*3+2,none⟩=some (.string x3)∧w'.cell? ⟨bb,bo+q*3,none⟩=some (.string y1)∧w'.cell? ⟨bb,bo+q*3+1,none⟩=some (.string y2)∧w'.cell? ⟨bb,bo+q*3+2,none⟩=some (.string y3)) 15 [(0,true),(1,true),(2,true),(3,true),(4,true),(5,true),(6,true),(7,true),(8,true),(9,true),(10,true),(11,true),(12,true),(13,true),(14,true)] hS ?_
       iterate 15 refine aB rfl ?_
       refine aF ?_;clear hS;obtain⟨W6,hW6⟩:∃W,W=W5.drew:=⟨_,rfl⟩;have bW6:Below W5.heap.size W5 W6:=by rw[hW6];exact bR.drew
       rw[← hW6];have ya7:=(bW6.cell (World.block_lt_of_cell? _ _ ya5)).trans ya5;have yb7:=(bW6.cell (World.block_lt_of_cell? _ _ yb5)).trans yb5;have yc7:=(bW6.cell (World.block_lt_of_cell? _ _ yc5)).trans yc5;have own7:=aA own5 (upF bW6) (fun _ _ h=>h);have bb7:=tHn bb5 bW6;obtain⟨v6,w6,happ,own6,u6,-⟩:=jJ W6 W2.heap.size _ L own7 ⟨y1,y2,y3⟩ (by omega) bb7.size;have HN:=aI2 (bb7.trans (u6.below (fun k _ e=>(own7.lt k e).1) bb7.size)) own6;dsimp only at happ
       have HI:=hIz (show(L++[(⟨y1,y2,y3⟩:Ed)])++mrg ltE (P.drop (p+1)) (Q.drop (q+1))=mrg ltE P Q by
        rw[← hI.out,qQ jR (by rw[← HE.out];exact hx) hy];simp)
       clear hI hx hy own6 own5 bb5 own7 bb7 hW6 bW6 heq u6;clear xa xb xc ya yb yc;clear xa5 xb5 xc5 ya5 yb5 yc5;go_wp2_with (at_builtin;refine wpList_append_run rfl _ _ _ rfl rfl rfl happ ?_);go_roundw
       case rel=>exact⟨p+1,q+1,L++[(⟨y1,y2,y3⟩:Ed)],by omega,by omega,by go_num,by go_num,by simp;omega,HI,hIz HN.out.1,hIz HN.out.2⟩
       case measure=>simp[intOf];omega
      ·rw[decide_eq_false he] at heq;have HE:=hIz he;clear he;have hS:W5.drew.cell? ⟨ab,ao+p*3,none⟩=some (.string x1)∧W5.drew.cell? ⟨ab,ao+p*3+1,none⟩=some (.string x2)∧W5.drew.cell? ⟨ab,ao+p*3+2,none⟩=some (.string x3)∧W5.drew.cell? ⟨bb,bo+q*3,none⟩=some (.string y1)∧W5.drew.cell? ⟨bb,bo+q*3+1,none⟩=some (.string y2)∧W5.drew.cell? ⟨bb,bo+q*3+2,none⟩=some (.string y3):=⟨xa5,xb5,xc5,ya5,yb5,yc5⟩;go_upto_region 10 with (fail);refine aE (fun w'=>w'.cell? ⟨ab,ao+p*3,none⟩=some (.string x1)∧w'.cell? ⟨ab,ao+p*3+1,none⟩=some (.string x2)∧w'.cell? ⟨ab,ao+p*3+2,none⟩=some (.string x3)∧w'.cell? ⟨bb,bo+q*3,none⟩=some (.string y1)∧w'.cell? ⟨bb,bo+q*3+1,none⟩=some (.string y2)∧w'.cell? ⟨bb,bo+q*3+2,none⟩=some (.string y3)) 15 [(0,true),(1,true),(2,true),(3,true),(4,true),(5,true),(6,true),(7,true),(8,true),(9,true),(10,true),(11,true),(12,true),(13,true),(14,true)] hS ?_
       iterate 15 refine aB rfl ?_
       refine aF ?_;clear hS;obtain⟨W6,hW6⟩:∃W,W=W5.drew:=⟨_,rfl⟩;have bW6:Below W5.heap.size W5 W6:=by rw[hW6];exact bR.drew
       rw[← hW6];have ya7:=(bW6.cell (World.block_lt_of_cell? _ _ ya5)).trans ya5;have yb7:=(bW6.cell (World.block_lt_of_cell? _ _ yb5)).trans yb5;have yc7:=(bW6.cell (World.block_lt_of_cell? _ _ yc5)).trans yc5;have own7:=aA own5 (upF bW6) (fun _ _ h=>h);have bb7:=tHn bb5 bW6;obtain⟨v6,w6,happ,own6,u6,-⟩:=jJ W6 W2.heap.size _ L own7 ⟨y1,y2,y3⟩ (by omega) bb7.size;have HN:=aI2 (bb7.trans (u6.below (fun k _ e=>(own7.lt k e).1) bb7.size)) own6;dsimp only at happ
       have HI:=hIz (show(L++[(⟨y1,y2,y3⟩:Ed)])++mrg ltE (P.drop (p)) (Q.drop (q+1))=mrg ltE P Q by
        rw[← hI.out,gH hy (.inr ⟨_,hx,HV.out,HE.out⟩)];simp)
       clear hI hx hy own6 own5 bb5 own7 bb7 hW6 bW6 heq u6;clear xa xb xc ya yb yc;clear xa5 xb5 xc5 ya5 yb5 yc5;go_wp2_with (at_builtin;refine wpList_append_run rfl _ _ _ rfl rfl rfl happ ?_);go_roundw
       case rel=>exact⟨p,q+1,L++[(⟨y1,y2,y3⟩:Ed)],by omega,by omega,by go_num,by go_num,by simp;omega,HI,hIz HN.out.1,hIz HN.out.2⟩
       case measure=>simp[intOf];omega
    ·obtain rfl:q=m:=by omega
     have hqe:((q:Int)==(q:Int))=true:=by simp
     have hS:wr.drew.cell? ⟨ab,ao+p*3,none⟩=some (.string x1)∧wr.drew.cell? ⟨ab,ao+p*3+1,none⟩=some (.string x2)∧wr.drew.cell? ⟨ab,ao+p*3+2,none⟩=some (.string x3):=⟨xa,xb,xc⟩;go_upto_region 7 with (fail);refine aE (fun w'=>w'.cell? ⟨ab,ao+p*3,none⟩=some (.string x1)∧w'.cell? ⟨ab,ao+p*3+1,none⟩=some (.string x2)∧w'.cell? ⟨ab,ao+p*3+2,none⟩=some (.string x3)) 21 [(0,true),(1,true),(2,true),(3,true),(4,true),(5,true),(6,true),(7,true),(8,true),(9,true),(10,true),(11,true),(12,true),(13,true),(14,true),(15,true),(16,true),(17,true),(18,false),(19,true),(20,true)] hS ?_
     iterate 5 refine aB rfl ?_
     iterate 13 (refine cE rfl (by kernel_rfl) ?_;(try simp only[Act.put,gA,gS,gZ,sA,sZ,sS]))
     (refine gI rfl (by kernel_rfl) (by first | assumption | trivial | exact UP.out _ H5.out) ?_;(try simp only[Act.put,gA,gS,gZ,sA,sZ,sS]))
     (refine cE rfl (by kernel_rfl) ?_;(try simp only[Act.put,gA,gS,gZ,sA,sZ,sS]))
     refine aB rfl ?_;refine aF ?_;clear hS;obtain⟨W5,hW5⟩:∃W,W=wr.drew:=⟨_,rfl⟩;have bW5:Below wr.heap.size wr W5:=by rw[hW5];exact bR.drew
     rw[← hW5];have xa5:=(bW5.cell (World.block_lt_of_cell? _ _ xa)).trans xa;have xb5:=(bW5.cell (World.block_lt_of_cell? _ _ xb)).trans xb;have xc5:=(bW5.cell (World.block_lt_of_cell? _ _ xc)).trans xc;have own5:=aA how.out (upF bW5) (fun _ _ h=>h);have bb5:=tHn hbw.out bW5;obtain⟨v6,w6,happ,own6,u6,-⟩:=jJ W5 W2.heap.size _ L own5 ⟨x1,x2,x3⟩ (by omega) bb5.size;have HN:=aI2 (bb5.trans (u6.below (fun k _ e=>(own5.lt k e).1) bb5.size)) own6;dsimp only at happ
     have HI:=hIz (show(L++[(⟨x1,x2,x3⟩:Ed)])++mrg ltE (P.drop (p+1)) (Q.drop (q))=mrg ltE P Q by
      rw[← hI.out,gG hx (.inl (by rw[HL.out.2];exact Nat.le_refl _))];simp)
     clear hI hx own6 own5 bb5 hW5 bW5 u6;clear xa xb xc;go_wp2_with (at_builtin;refine wpList_append_run rfl _ _ _ rfl rfl rfl happ ?_);go_roundw
     case rel=>exact⟨p+1,q,L++[(⟨x1,x2,x3⟩:Ed)],by omega,by omega,by go_num,by go_num,by simp;omega,HI,hIz HN.out.1,hIz HN.out.2⟩
     case measure=>simp[intOf];omega
   ·obtain rfl:p=n:=by omega
    by_cases hqm:q<m
    ·have hqI:(q:Int)<(m:Int):=by omega
     have hqne:((q:Int)==(m:Int))=false:=by simp;omega
     obtain⟨⟨y1,y2,y3⟩,hy⟩:∃z,Q[q]?=some z:=⟨Q[q]'(by rw[HL.out.2];assumption),gEz _⟩;obtain⟨bb,bo,rfl,ya,yb,yc⟩:=(HR.out.2.below hbw.out).ed hy;dsimp only at ya yb yc
     have hS:wr.drew.cell? ⟨bb,bo+q*3,none⟩=some (.string y1)∧wr.drew.cell? ⟨bb,bo+q*3+1,none⟩=some (.string y2)∧wr.drew.cell? ⟨bb,bo+q*3+2,none⟩=some (.string y3):=⟨ya,yb,yc⟩;go_upto_region 7 with (fail);refine aE (fun w'=>w'.cell? ⟨bb,bo+q*3,none⟩=some (.string y1)∧w'.cell? ⟨bb,bo+q*3+1,none⟩=some (.string y2)∧w'.cell? ⟨bb,bo+q*3+2,none⟩=some (.string y3)) 21 [(0,true),(1,true),(2,true),(3,true),(4,true),(5,true),(6,true),(7,true),(8,true),(9,true),(10,true),(11,true),(12,true),(13,true),(14,true),(15,true),(16,true),(17,true),(18,false),(19,true),(20,true)] hS ?_
     iterate 10 refine aB rfl ?_
     iterate 8 (refine cE rfl (by kernel_rfl) ?_;(try simp only[Act.put,gA,gS,gZ,sA,sZ,sS]))
     (refine gI rfl (by kernel_rfl) (by first | assumption | trivial | exact UP.out _ H5.out) ?_;(try simp only[Act.put,gA,gS,gZ,sA,sZ,sS]))
     refine aB rfl ?_;refine aB rfl ?_;refine aF ?_;clear hS;obtain⟨W5,hW5⟩:∃W,W=wr.drew:=⟨_,rfl⟩;have bW5:Below wr.heap.size wr W5:=by rw[hW5];exact bR.drew
     rw[← hW5];have ya5:=(bW5.cell (World.block_lt_of_cell? _ _ ya)).trans ya;have yb5:=(bW5.cell (World.block_lt_of_cell? _ _ yb)).trans yb;have yc5:=(bW5.cell (World.block_lt_of_cell? _ _ yc)).trans yc;have own5:=aA how.out (upF bW5) (fun _ _ h=>h);have bb5:=tHn hbw.out bW5;have hS:W5.drew.cell? ⟨bb,bo+q*3,none⟩=some (.string y1)∧W5.drew.cell? ⟨bb,bo+q*3+1,none⟩=some (.string y2)∧W5.drew.cell? ⟨bb,bo+q*3+2,none⟩=some (.string y3):=⟨ya5,yb5,yc5⟩;go_upto_region 10 with (fail);refine aE (fun w'=>w'.cell? ⟨bb,bo+q*3,none⟩=some (.string y1)∧w'.cell? ⟨bb,bo+q*3+1,none⟩=some (.string y2)∧w'.cell? ⟨bb,bo+q*3+2,none⟩=some (.string y3)) 15 [(0,true),(1,true),(2,true),(3,true),(4,true),(5,true),(6,true),(7,true),(8,true),(9,true),(10,true),(11,true),(12,true),(13,true),(14,true)] hS ?_
     iterate 5 refine aB rfl ?_
     iterate 9 (refine cE rfl (by kernel_rfl) ?_;(try simp only[Act.put,gA,gS,gZ,sA,sZ,sS]))
     refine aB rfl ?_;refine aF ?_;clear hS;obtain⟨W6,hW6⟩:∃W,W=W5.drew:=⟨_,rfl⟩;have bW6:Below W5.heap.size W5 W6:=by rw[hW6];exact bR.drew
     rw[← hW6];have yy:=True.intro;have ya7:=(bW6.cell (World.block_lt_of_cell? _ _ ya5)).trans ya5;have yb7:=(bW6.cell (World.block_lt_of_cell? _ _ yb5)).trans yb5;have yc7:=(bW6.cell (World.block_lt_of_cell? _ _ yc5)).trans yc5;have own7:=aA own5 (upF bW6) (fun _ _ h=>h);have bb7:=tHn bb5 bW6;obtain⟨v6,w6,happ,own6,u6,-⟩:=jJ W6 W2.heap.size _ L own7 ⟨y1,y2,y3⟩ (by omega) bb7.size;have HN:=aI2 (bb7.trans (u6.below (fun k _ e=>(own7.lt k e).1) bb7.size)) own6;dsimp only at happ
     have HI:=hIz (show(L++[(⟨y1,y2,y3⟩:Ed)])++mrg ltE (P.drop (p)) (Q.drop (q+1))=mrg ltE P Q by
      rw[← hI.out,gH hy (.inl (by rw[HL.out.1];exact Nat.le_refl _))];simp)
     clear hI hy own6 own5 bb5 own7 bb7 hW5 bW5 hW6 bW6 yy u6;clear ya yb yc;clear ya5 yb5 yc5;go_wp2_with (at_builtin;refine wpList_append_run rfl _ _ _ rfl rfl rfl happ ?_);go_roundw
     case rel=>exact⟨p,q+1,L++[(⟨y1,y2,y3⟩:Ed)],by omega,by omega,by go_num,by go_num,by simp;omega,HI,hIz HN.out.1,hIz HN.out.2⟩
     case measure=>simp[intOf];omega
    ·obtain rfl:q=m:=by omega
     have hI2:=hI.out;rw[vG (by rw[HL.out.1];exact Nat.le_refl _) (by rw[HL.out.2];exact Nat.le_refl _),List.append_nil] at hI2;obtain⟨A9,c9,rfl,-,-⟩:=aG how.out;have FIN:=hIz (show wQ w (aR ltE N) (.returned (.slice A9 L.length c9)) wr from⟨_,rfl,by
      rw[← HB2.out.2,← hI2];exact aJ how.out (fun q hq=>by have:=(how.out.lt q hq).1;have:=HB2.out.1.size;omega),tHn HB2.out.1 hbw.out⟩)
     clear hI hI2 how;go_wp2;go_ret;exact FIN.out
open Go.RowKit
theorem iI(a b:Txt)(h:a.size+b.size≤100000):∀w,(Op.stringOp .add a b).run Tryz.prog w=.ok (.string (a++b)) w:=fun w=>run_string_add_sum w a b (by omega)
theorem aV.txt_at{w:World}{b o:Nat}{N:List Txt}(h:aV w (some ⟨b,o,none⟩) (aC N)){k:Nat}{s:Txt}(hk:N[k]?=some s):w.cell? ⟨b,o+k,none⟩=some (.string s):=by
 obtain⟨b',o',e,x⟩:=h.txt hk;injection e with e;injection e with e1 e2;subst e1;subst e2;exact x
theorem aV.ed_at{w:World}{b o:Nat}{E:List Ed}(h:aV w (some ⟨b,o,none⟩) (aH E)){k:Nat}{x:Ed}(hk:E[k]?=some x):w.cell? ⟨b,o+k*3,none⟩=some (.string x.fr)∧w.cell? ⟨b,o+k*3+1,none⟩=some (.string x.lb)∧w.cell? ⟨b,o+k*3+2,none⟩=some (.string x.to):=by
 obtain⟨b',o',e,x1,x2,x3⟩:=h.ed hk;injection e with e;injection e with e1 e2;subst e1;subst e2;exact⟨x1,x2,x3⟩
open Go.RowKit
theorem kD(w:World)(B:Option Addr)(d:Nat)(E:List Ed)(h:aV w B (aH E))(hl:E.length*48≤140737488355328) :
  Calls Tryz.prog 138 #[.slice B E.length d] w (jW w (aR ltT (lbs E))):=by
 obtain⟨m,hm⟩:∃m,E.length=m:=⟨_,rfl⟩;rw[hm] at hl ⊢;have H:=aI2 h hm;clear h hm;go_enter Tryz.func138,Tryz.ntmps138;go_wp2_with fail;go_loopw [3,4] (fun v i wr=>∃k:Nat,k≤m∧i=.int .i64 k∧Hid (Below w.heap.size w wr)∧Hid (wr.ownsRow w.heap.size 9 1 v k (aC (lbs (E.take k))))) (fun _ i _=>m-(intOf i).toNat)
 case atStart=>exact⟨0,Nat.zero_le _,rfl,hIz bR,hIz (by simpa[lbs,aC] using World.ownsRow_nil w w.heap.size 9 1)⟩
 case round =>
  obtain⟨k,hk,rfl,hbw,how⟩:=hrel;by_cases hlt:k<m
  ·have hltI:(k:Int)<(m:Int):=by omega
   have hkw:IntKind.i64.wrap ((k:Int)+1)=(k:Int)+1:=IntWalk.i64_in _ (by omega);obtain⟨⟨s0,s1,s2⟩,hx⟩:∃x,E[k]?=some x:=⟨E[k]'(by rw[H.out.2];exact hlt),gEz _⟩;obtain⟨ab,ao,rfl,x0,x1,x2⟩:=(H.out.1.below hbw.out).ed hx;dsimp only at x0 x1 x2
   have hlk:(lbs (E.take k)).length=k:=by rw[iH,List.length_take,H.out.2];omega
   obtain⟨v6,w6,happ,own6,b6⟩:=dU wr w.heap.size _ (lbs (E.take k)) (by rw[hlk];exact how.out) s1 (by rw[hlk];omega) hbw.out.size;have hst:=wR hx;dsimp only at hst
   have hlk1:(lbs (E.take (k+1))).length=k+1:=by rw[hst,List.length_append,hlk,List.length_singleton]
   rw[← hst,hlk1] at own6;have HN:=aI2 (hbw.out.trans (b6.1.below (fun k _ e=>b6.2 k e) hbw.out.size)) own6;clear own6 b6 hst hlk hlk1 hx;go_wp2_with (at_builtin;refine wpList_append_run rfl _ _ _ rfl rfl rfl happ ?_);go_roundw
   case rel=>exact⟨k+1,by omega,by go_num,hIz HN.out.1,hIz HN.out.2⟩
   case measure=>simp[intOf];omega
  ·obtain rfl:k=m:=by omega
   obtain⟨A5,c5,rfl,hc5,r5⟩:=bS how.out;rw[List.take_of_length_le (by rw[H.out.2];exact Nat.le_refl _)] at r5;have hcon:=nZ k wr A5 c5 (lbs E) (by rw[iH,H.out.2];exact Nat.le_refl _) r5 (by rw[iH,H.out.2];exact hc5) (by rw[iH,H.out.2];omega);rw[iH,H.out.2] at hcon;have HC:=hIz hcon;have HB:=hIz hbw.out;clear hcon r5 hc5 how hbw;go_wp2_with fail;refine HC.out.mono ?_;intro e w9 hN;have hN':=hN.base HB.out;obtain⟨v,rfl,-⟩:=hN;have FIN:=hIz hN';clear hN';go_wp2;go_ret;exact FIN.out

theorem KT{E:List Ed}(s:Txt):inB s (aR ltT (E.flatMap gV))=inB s (eE E E.length):=by
 rw[Bool.eq_iff_iff,aQ,aQ,(aZ dW _).mem,List.mem_flatMap,lP];constructor
 ·rintro⟨x,hx,h⟩;obtain⟨i,hi,e⟩:=List.getElem_of_mem hx;refine⟨i,x,hi,by rw[gEz hi,e],?_⟩;simpa[gV] using h
 ·rintro⟨i,x,_,hx,h⟩;exact⟨x,mG hx,by simpa[gV] using h⟩
theorem oB(E:List Ed):(E.flatMap gV).length=E.length*2:=dS gV 2 (fun _=>rfl) E
theorem oC(w:World)(A:Option Addr)(c:Nat)(B:Option Addr)(d:Nat)(N:List Txt)(E:List Ed)(h:dX w A c B d N E) :
  Calls Tryz.prog 149 #[bQ A N.length c B E.length d] w (jW w (cB N E)):=by
 have k0:=Blk.new w 34 #[.slice A N.length c,.slice B E.length d];have u0:Below w.heap.size w (w.alloc (.cells #[.slice A N.length c,.slice B E.length d] 34)):=bR.alloc (Nat.le_refl _) _;have hn47:N.length*16≤140737488355328:=h.fit.n;have hm47:E.length*48≤140737488355328:=h.fit.e;have H:=aI3 (h.below u0) k0 u0;clear h k0 u0;obtain⟨n,hn⟩:∃n,N.length=n:=⟨_,rfl⟩;obtain⟨m,hm⟩:∃n,E.length=n:=⟨_,rfl⟩;rw[hn,hm] at H;rw[hn] at hn47;rw[hm] at hm47;rw[hn,hm];have HL:=aI2 hn hm;clear hn hm;unfold bQ;go_enter Tryz.func149,Tryz.ntmps149;go_upto_region 1 with (fail);generalize w.alloc (.cells #[.slice A n c,.slice B m d] 34)=W0 at H ⊢;have UP:=hIz (show ∀W,Below W0.heap.size W0 W→Blk W w.heap.size 34 #[.slice A n c,.slice B m d]∧dX W A c B d N E∧Below w.heap.size w W from fun W hb=>⟨H.out.2.1.upd (upF hb) id,H.out.1.below hb,tHn H.out.2.2 hb⟩);go_wp2_with fail;go_loopw [3,4] (fun v i wr=>∃k:Nat,k≤m∧i=.int .i64 k∧Hid (Below W0.heap.size W0 wr)∧Hid (wr.ownsRow W0.heap.size 9 1 v ((E.take k).flatMap gV).length (aC ((E.take k).flatMap gV)))) (fun _ i _=>m-(intOf i).toNat)
 case atStart=>exact⟨0,Nat.zero_le _,rfl,hIz bR,hIz (World.ownsRow_nil _ _ _ _)⟩
 case round =>
  obtain⟨k,hk,rfl,hbw,how⟩:=hrel;have q1:wr.cell? ⟨w.heap.size,1,none⟩=some (.slice B m d):=(UP.out _ hbw.out).1.cell 1;by_cases hlt:k<m
  ·have hltI:(k:Int)<(m:Int):=by omega
   have hkw:IntKind.i64.wrap ((k:Int)+1)=(k:Int)+1:=IntWalk.i64_in _ (by omega);obtain⟨⟨s0,s1,s2⟩,hx⟩:∃x,E[k]?=some x:=⟨E[k]'(by rw[HL.out.2];exact hlt),gEz _⟩;obtain⟨ab,ao,rfl,x0,x1,x2⟩:=(UP.out _ hbw.out).2.1.re.ed hx;dsimp only at x0 x1 x2
   have hlk:=oB (E.take k);rw[List.length_take,HL.out.2,Nat.min_eq_left (by omega)] at hlk;obtain⟨v6,w6,happ,own6,b6⟩:=qY wr.drew W0.heap.size _ ((E.take k).flatMap gV) how.out s0 s2 (by omega) hbw.out.size;have hst:(E.take (k+1)).flatMap gV=(E.take k).flatMap gV++[s0,s2]:=by rw[dE hx,List.flatMap_append];rfl
   rw[← hst] at own6;have b06:=hbw.out.drew.trans b6;have HN:=aI2 b06 own6;have SR:=hIz (show ∀W,Below W0.heap.size W0 W→W.cell? ⟨w.heap.size,1,none⟩=some (.slice (some ⟨ab,ao,none⟩) m d)∧W.cell? ⟨ab,ao+k*3,none⟩=some (.string s0)∧W.cell? ⟨ab,ao+k*3+2,none⟩=some (.string s2) from fun W hb=>by
    obtain⟨y0,y1,y2⟩:=(UP.out _ hb).2.1.re.ed_at hx;exact⟨(UP.out _ hb).1.cell 1,y0,y2⟩)
   have hS:=SR.out _ hbw.out.drew;have HBW:=hIz hbw.out;clear own6 b6 b06 hst hlk hx;go_upto_region 5 with (fail);refine aE (fun W=>W.cell? ⟨w.heap.size,1,none⟩=some (.slice (some ⟨ab,ao,none⟩) m d)∧W.cell? ⟨ab,ao+k*3,none⟩=some (.string s0)∧W.cell? ⟨ab,ao+k*3+2,none⟩=some (.string s2)) 16 [(0,true),(1,true),(2,true),(3,true),(4,true),(5,true),(6,true),(7,true),(8,true),(9,true),(10,true),(11,true),(12,true),(13,false),(14,false),(15,true)] hS ?_
   iterate 13 refine aB rfl ?_
   refine aN rfl rfl (fun K hK=>?_);go_simp;refine hK _ _ (fun _=>SR.out _ (HBW.out.drew.alloc HBW.out.size _)) ?_;clear hK K;(try simp only[Act.put,gA,gS,gZ,sA,sZ,sS])
   refine aN rfl rfl (fun K hK=>?_);refine bI _ _ _ rfl rfl rfl happ ?_;refine hK _ _ (fun _=>SR.out _ HN.out.1) ?_;clear hK K happ;(try simp only[Act.put,gA,gS,gZ,sA,sZ,sS])
   refine aB rfl ?_;refine aF ?_;clear hS q1 x0 x1 x2;go_wp2;go_roundw
   case rel=>exact⟨k+1,by omega,by go_num,hIz HN.out.1,hIz HN.out.2⟩
   case measure=>simp[intOf];omega
  ·obtain rfl:k=m:=by omega
   obtain⟨W2,hW2⟩:∃W,W=wr:=⟨_,rfl⟩;subst hW2;obtain⟨L,hL⟩:∃L,(E.take k).flatMap gV=L:=⟨_,rfl⟩;have ho:=how.out;rw[hL] at ho;rw[List.take_of_length_le (by rw[HL.out.2];exact Nat.le_refl _)] at hL;have hLl:L.length=k*2:=by rw[← hL,oB,HL.out.2]
   obtain⟨l2,hl2⟩:∃l,L.length=l:=⟨_,rfl⟩;rw[hl2] at ho;obtain⟨A5,c5,rfl,hc5,r5⟩:=bS ho;have hcon:=nZ l2 W2 A5 c5 L (by omega) r5 (by omega) (by omega);rw[hl2] at hcon;have HC:=aI2 hcon hL;have HB:=hIz hbw.out;have HL3:=hIz (show l2=k*2 by omega);clear hcon r5 hc5 how hbw ho hL hlt hLl hl2;go_wp2_with fail;refine HC.out.1.mono ?_;rintro e W3 ⟨v3,rfl,own3,b3⟩;obtain⟨P,hP⟩:∃P,aR ltT L=P:=⟨_,rfl⟩;rw[hP] at own3;obtain⟨p,hp⟩:∃p,P.length=p:=⟨_,rfl⟩;rw[hp] at own3;obtain⟨A6,c6,rfl,hc6,r6⟩:=bS own3;have hup:cL ltT P:=by rw[← hP];exact(aZ dW L).up
   have hin:∀s,inB s P=inB s (eE E E.length):=fun s=>by rw[← hP,← HC.out.2];exact KT s
   have hpl:p≤l2:=by
    have h1:=dP dW L;rw[hP,hp] at h1;have h2:L.length=k*2:=by rw[← HC.out.2,oB,HL.out.2]
    have h3:=HL3.out;omega
   have HAM:=hIz (show ∀(W:World) (s:Txt),Below W3.heap.size W3 W→Calls Tryz.prog 137 #[.slice A6 p c6,.string s] W (eJ W (.bool (inB s (eE E E.length)))) from fun W s hb=>by
    have:=sO W A6 c6 P s (r6.below hb) hup (by rw[hp];have:=HL3.out;omega);rw[hin,hp] at this;exact this)
   have HB3:=hIz (tHn HB.out b3);have hz3:W0.heap.size≤W3.heap.size:=HB3.out.size;clear own3 b3 r6 hc6 hup hin hP hp HC;go_wp2_with fail;clear q1;go_loopw [5,6,7] (fun v i _ wr=>∃q:Nat,q≤n∧i=.int .i64 q∧Hid (Below W3.heap.size W3 wr)∧Hid (wr.ownsRow W3.heap.size 9 1 v (eG N E q).length (aC (eG N E q)))) (fun _ i _ _=>n-(intOf i).toNat)
   case atStart=>exact⟨0,Nat.zero_le _,rfl,hIz bR,hIz (World.ownsRow_nil _ _ _ _)⟩
   case round =>
    obtain⟨q,hq,rfl,hbw,how⟩:=hrel;have b0:=HB3.out.trans (hbw.out.mono hz3);have q0:wr.cell? ⟨w.heap.size,0,none⟩=some (.slice A n c):=(UP.out _ b0).1.cell 0;by_cases hlt:q<n
    ·have hltI:(q:Int)<(n:Int):=by omega
     have hkw:IntKind.i64.wrap ((q:Int)+1)=(q:Int)+1:=IntWalk.i64_in _ (by omega);obtain⟨x,hx⟩:∃x,N[q]?=some x:=⟨N[q]'(by rw[HL.out.1];exact hlt),gEz _⟩;obtain⟨ab,ao,rfl,x0⟩:=(UP.out _ b0).2.1.rn.txt hx;have hle:=sP N E q;cases hb:inB x (eE E E.length) with
     | true =>
      have hst:=nO hx hb;have ham:=HAM.out wr x hbw.out;rw[hb] at ham;have HN:=hIz (show wr.ownsRow W3.heap.size 9 1 _ (eG N E (q+1)).length (aC (eG N E (q+1))) by rw[hst];exact how.out);have HM:=hIz ham;clear ham hst hb hx b0;go_wp2_with fail;refine HM.out.mono ?_;rintro e w' ⟨rfl,hw⟩;subst w';go_wp2;go_roundw
      case rel=>exact⟨q+1,by omega,by go_num,hbw,HN⟩
      case measure=>simp[intOf];omega
     | false =>
      have hst:=pO hx hb;have ham:=HAM.out wr x hbw.out;rw[hb] at ham;obtain⟨v6,w6,happ,own6,b6⟩:=dU wr W3.heap.size _ (eG N E q) how.out x (by omega) hbw.out.size;rw[← hst] at own6;have HN:=aI2 (hbw.out.trans (b6.1.below (fun k _ e=>b6.2 k e) hbw.out.size)) own6;have HM:=hIz ham;clear ham hst hb hx b0 own6 b6;go_wp2_with fail;refine HM.out.mono ?_;rintro e w' ⟨rfl,hw⟩;subst w';go_wp2_with (at_builtin;refine wpList_append_run rfl _ _ _ rfl rfl rfl happ ?_);go_roundw
      case rel=>exact⟨q+1,by omega,by go_num,hIz HN.out.1,hIz HN.out.2⟩
      case measure=>simp[intOf];omega
    ·obtain rfl:q=n:=by omega
     obtain⟨A9,c9,rfl,-,-⟩:=aG how.out;have ho:=how.out;have e1:eG N E q=cB N E:=by rw[← HL.out.1];exact pP N E
     rw[e1] at ho;have bw:=(UP.out _ b0).2.2;have FIN:=hIz (show jW w (cB N E) (.returned (.slice A9 (cB N E).length c9)) wr from⟨_,by rfl,by rw[e1] at *;exact aJ ho (fun q hq=>by have:=(ho.lt q hq).1;have:=H.out.2.2.size;omega),bw⟩);rw[e1];clear ho e1 bw b0 how;go_wp2;go_ret;exact FIN.out

theorem vK(w:World)(A:Option Addr)(c:Nat)(B:Option Addr)(d:Nat)(N:List Txt)(E:List Ed)(h:dX w A c B d N E)(hs:fW N E)(hN:N.length≤32)(hE:E.length≤256) :
  Calls Tryz.prog 139 #[bQ A N.length c B E.length d] w (Sam w (.string ⟨(jG N E).toArray⟩)):=by
 have k0:=Blk.new w 34 #[.slice A N.length c,.slice B E.length d];have u0:Below w.heap.size w (w.alloc (.cells #[.slice A N.length c,.slice B E.length d] 34)):=bR.alloc (Nat.le_refl _) _;have hlo:=fun (W:World) (h:dX W A c B d N E)=>oC W A c B d N E h
 have H:=aI4 (h.below u0) k0 u0 hs;clear h k0 u0 hs;obtain⟨n,hn⟩:∃n,N.length=n:=⟨_,rfl⟩;obtain⟨m,hm⟩:∃n,E.length=n:=⟨_,rfl⟩;rw[hn,hm] at hlo;rw[hn,hm] at H;rw[hn] at hN;rw[hm] at hE;rw[hn,hm];have HL:=aI2 hn hm;have HLO:=hIz hlo;clear hn hm hlo;unfold bQ at HLO ⊢;go_enter Tryz.func139,Tryz.ntmps139;go_upto_region 1 with (fail);generalize w.alloc (.cells #[.slice A n c,.slice B m d] 34)=W0 at H ⊢;have UP:=hIz (show ∀W,Below W0.heap.size W0 W→Blk W w.heap.size 34 #[.slice A n c,.slice B m d]∧dX W A c B d N E∧Below w.heap.size w W from fun W hb=>⟨H.out.2.1.upd (upF hb) id,H.out.1.below hb,tHn H.out.2.2.1 hb⟩);have q0:W0.cell? ⟨w.heap.size,0,none⟩=some (.slice A n c):=H.out.2.1.cell 0;have q1:W0.cell? ⟨w.heap.size,1,none⟩=some (.slice B m d):=H.out.2.1.cell 1;go_wp2_with fail;refine(HLO.out W0 H.out.1).mono ?_;rintro e W1 ⟨v,rfl,own1,b1⟩;obtain⟨l,hl⟩:∃l,(cB N E).length=l:=⟨_,rfl⟩;rw[hl] at own1;obtain⟨A1,c1,rfl,hc1,r1⟩:=bS own1;have hl32:l≤32:=by have:=sR N E;have:=HL.out.1;omega
 have H1:=aI3 r1 b1 hl;clear own1 r1 hl q0 q1 hc1 b1;go_wp2_with fail;go_loopw [3,5] (fun s i wr=>∃(k:Nat) (T:Txt),k≤l∧i=.int .i64 k∧s=.string T∧wr=W1∧Hid (T.data.toList=((cB N E).take k).flatMap eK)) (fun _ i _=>l-(intOf i).toNat)
 case atStart=>exact⟨0,⟨#[]⟩,Nat.zero_le _,rfl,rfl,rfl,hIz rfl⟩
 case round =>
  obtain⟨k,T,hk,rfl,rfl,hwr,hT⟩:=hrel;subst wr;have hTs:T.size≤32*19:=by
   have h1:=jH (f:=eK) (c:=19) (l:=(cB N E).take k) (fun x hx=>mY (H.out.2.2.2.n x (gJ (List.mem_of_mem_take hx))));rw[← hT.out,sQ] at h1;have h3:((cB N E).take k).length≤k:=by rw[List.length_take];omega
   have:=Nat.mul_le_mul_right 19 h3;omega
  by_cases hlt:k<l
  ·have hltI:(k:Int)<(l:Int):=by omega
   have hkw:IntKind.i64.wrap ((k:Int)+1)=(k:Int)+1:=IntWalk.i64_in _ (by omega);obtain⟨x,hx⟩:∃x,(cB N E)[k]?=some x:=⟨(cB N E)[k]'(by rw[H1.out.2.2];exact hlt),gEz _⟩;obtain⟨ab,ao,rfl,x0⟩:=H1.out.1.txt hx;have hx16:x.size≤16:=H.out.2.2.2.n x (gJ (mG hx));have a1:=iI T x (by omega);obtain⟨T1,hT1⟩:∃t,T++x=t:=⟨_,rfl⟩;rw[hT1] at a1;have hs1:T1.size≤32*19+16:=by rw[← hT1,dV];omega
   have a2:=iI T1 ⟨#[32,59,10]⟩ (by show T1.size+3≤100000;omega);obtain⟨T2,hT2⟩:∃t,T1++⟨#[32,59,10]⟩=t:=⟨_,rfl⟩;rw[hT2] at a2;have HT2:=hIz (show T2.data.toList=((cB N E).take (k+1)).flatMap eK by
    rw[dE hx,← hT2,← hT1,cY,cY,hT.out,List.flatMap_append,List.append_assoc];congr 1
    simp[eK,JS])
   clear hs1 hT1 hT2 hx hx16 hTs;go_wp2;go_roundw
   case rel=>exact⟨k+1,T2,by omega,by go_num,rfl,by first | rfl | trivial,HT2⟩
   case measure=>simp[intOf];omega
  ·obtain rfl:k=l:=by omega
   obtain⟨S1,hS1⟩:∃S,S=T:=⟨_,rfl⟩;subst hS1;have hT2:=hT.out;rw[List.take_of_length_le (by rw[H1.out.2.2];exact Nat.le_refl _)] at hT2;have HT:=hIz hT2;have q1:W1.cell? ⟨w.heap.size,1,none⟩=some (.slice B m d):=(UP.out _ H1.out.2.1).1.cell 1;have hz1:W0.heap.size≤W1.heap.size:=H1.out.2.1.size;clear hT hT2 hlt;go_wp2_with fail;clear q1;go_loopw [3,6] (fun s i wr=>∃(j:Nat) (T:Txt),j≤m∧i=.int .i64 j∧s=.string T∧Hid (Below W1.heap.size W1 wr)∧Hid (T.data.toList=(cB N E).flatMap eK++(E.take j).flatMap gU)) (fun _ i _=>m-(intOf i).toNat)
   case atStart=>exact⟨0,S1,Nat.zero_le _,rfl,rfl,hIz bR,hIz (by simpa using HT.out)⟩
   case round =>
    obtain⟨j,T,hj,rfl,rfl,hbw,hT⟩:=hrel;have b0:=H1.out.2.1.trans (hbw.out.mono hz1);have q1:wr.cell? ⟨w.heap.size,1,none⟩=some (.slice B m d):=(UP.out _ b0).1.cell 1;by_cases hlt:j<m
    ·have hltI:(j:Int)<(m:Int):=by omega
     have hkw:IntKind.i64.wrap ((j:Int)+1)=(j:Int)+1:=IntWalk.i64_in _ (by omega);have hT17:T.size≤32*19+256*53:=by
      have h1:=jH (f:=eK) (c:=19) (l:=cB N E) (fun x hx=>mY (H.out.2.2.2.n x (gJ hx)));have h2:=jH (f:=gU) (c:=53) (l:=E.take j) (fun x hx=>wP (H.out.2.2.2.e x (List.mem_of_mem_take hx)));have h3:(E.take j).length*53≤256*53:=Nat.mul_le_mul_right _ (by rw[List.length_take];omega);have h4:=congrArg List.length hT.out;rw[sQ,List.length_append] at h4;have h5:=H1.out.2.2;have h6:(cB N E).length*19≤32*19:=Nat.mul_le_mul_right _ (by omega);omega
     obtain⟨⟨s0,s1,s2⟩,hx⟩:∃x,E[j]?=some x:=⟨E[j]'(by rw[HL.out.2];exact hlt),gEz _⟩;obtain⟨ab,ao,rfl,x0,x1,x2⟩:=(UP.out _ b0).2.1.re.ed hx;dsimp only at x0 x1 x2
     have hx16:=H.out.2.2.2.e _ (mG hx);dsimp only at hx16
     have a1:=iI T s0 (by omega);obtain⟨T1,hT1⟩:∃t,T++s0=t:=⟨_,rfl⟩;rw[hT1] at a1;have hs1':T1.size≤32*19+256*53+16:=by rw[← hT1,dV];omega
     have a2:=iI T1 ⟨#[32]⟩ (by show T1.size+1≤100000;omega);obtain⟨T2,hT2⟩:∃t,T1++⟨#[32]⟩=t:=⟨_,rfl⟩;rw[hT2] at a2;have hs2':T2.size≤32*19+256*53+17:=by rw[← hT2,dV];show T1.size+1≤_;omega
     have a3:=iI T2 s1 (by omega);obtain⟨T3,hT3⟩:∃t,T2++s1=t:=⟨_,rfl⟩;rw[hT3] at a3;have hs3':T3.size≤32*19+256*53+33:=by rw[← hT3,dV];omega
     have a4:=iI T3 ⟨#[32]⟩ (by show T3.size+1≤100000;omega);obtain⟨T4,hT4⟩:∃t,T3++⟨#[32]⟩=t:=⟨_,rfl⟩;rw[hT4] at a4;have hs4':T4.size≤32*19+256*53+34:=by rw[← hT4,dV];show T3.size+1≤_;omega
     have a5:=iI T4 s2 (by omega);obtain⟨T5,hT5⟩:∃t,T4++s2=t:=⟨_,rfl⟩;rw[hT5] at a5;have hs5':T5.size≤32*19+256*53+50:=by rw[← hT5,dV];omega
     have a6:=iI T5 ⟨#[32,59,10]⟩ (by show T5.size+3≤100000;omega);obtain⟨T6,hT6⟩:∃t,T5++⟨#[32,59,10]⟩=t:=⟨_,rfl⟩;rw[hT6] at a6;have HT6:=hIz (show T6.data.toList=(cB N E).flatMap eK++(E.take (j+1)).flatMap gU by
      rw[dE hx,← hT6,← hT5,← hT4,← hT3,← hT2,← hT1,cY,cY,cY,cY,cY,cY,hT.out,List.flatMap_append];simp[gU,JS])
     clear hs1' hs2' hs3' hs4' hs5' hT17 hx16 hT1 hT2 hT3 hT4 hT5 hT6;have kx:=Blk.new wr 32 #[.string s0,.string s1,.string s2];have bx:Below W1.heap.size W1 (wr.alloc (.cells #[.string s0,.string s1,.string s2] 32)):=hbw.out.alloc hbw.out.size _;have HX:=aI2 kx bx;clear kx bx hx b0;go_upto_region 11 with (fail);generalize wr.alloc (.cells #[.string s0,.string s1,.string s2] 32)=W5 at HX ⊢;clear x0 x1 x2 q1;have x0:W5.cell? ⟨wr.heap.size,0,none⟩=some (.string s0):=HX.out.1.cell 0;have x1:W5.cell? ⟨wr.heap.size,1,none⟩=some (.string s1):=HX.out.1.cell 1;have x2:W5.cell? ⟨wr.heap.size,2,none⟩=some (.string s2):=HX.out.1.cell 2;go_wp2;go_roundw
     case rel=>exact⟨j+1,T6,by omega,by go_num,rfl,hIz HX.out.2,HT6⟩
     case measure=>simp[intOf];omega
    ·obtain rfl:j=m:=by omega
     have ht:=hT.out;rw[List.take_of_length_le (by rw[HL.out.2];exact Nat.le_refl _)] at ht;have e:(⟨(jG N E).toArray⟩:Txt)=T:=nN (by rw[ht];rfl);have FIN:=aI2 e (UP.out _ b0).2.2;clear ht e b0 hT;go_wp2;go_ret;exact⟨by rw[FIN.out.1];rfl,FIN.out.2⟩
open Go.RowKit
theorem mN(w:World)(A:Option Addr)(c:Nat)(B:Option Addr)(d:Nat)(N:List Txt)(E:List Ed)(h:dX w A c B d N E) :
  Calls Tryz.prog 94 #[.slice A N.length c,.slice B E.length d] w (Sam w (.bool (bT N E))):=by
 have hn:N.length≤140737488355328:=by have:=h.fit.n;omega
 have hd:E.length≤140737488355328:=by have:=h.fit.e;omega
 have HA:=aI2 h.fit.tn h.fit.te;have H:=aI3 h h (Below.refl w.heap.size w);clear h;obtain⟨W0,hW0⟩:∃W,W=w:=⟨_,rfl⟩;subst hW0;go_enter Tryz.func94,Tryz.ntmps94;go_wp2_with fail;go_loop [5] (fun i=>∃k:Nat,k≤N.length∧i=.int .i64 k∧Hid (∀j,j<k→∀x,N[j]?=some x→cH x=true)) (fun i=>N.length-(intOf i).toNat)
 case atStart=>exact⟨0,Nat.zero_le _,rfl,hIz (fun j hj=>by omega)⟩
 case round =>
  obtain⟨k,hk,rfl,hall⟩:=hrel;by_cases hlt:k<N.length
  ·have hltI:(k:Int)<(N.length:Int):=by omega
   have hkw:IntKind.i64.wrap ((k:Int)+1)=(k:Int)+1:=IntWalk.i64_in _ (by omega);obtain⟨x,hx⟩:∃x,N[k]?=some x:=⟨N[k],gEz _⟩;obtain⟨ab,ao,rfl,x0⟩:=H.out.1.rn.txt hx;have hcon:=fun w=>dA x w (HA.out.1 x (mG hx))
   obtain⟨b,hb⟩:∃b,cH x=b:=⟨_,rfl⟩;rw[hb] at hcon;have HX:=aI2 hx hb;clear hx hb;cases b
   ·go_wp2_with fail;refine(hcon _).mono ?_;rintro e w' ⟨rfl,rfl⟩;go_wp2;go_ret;refine⟨fV ?_,H.out.2.2⟩;rw[bT,bE HX.out.1 HX.out.2,Bool.false_and]
   ·go_wp2_with fail;refine(hcon _).mono ?_;rintro e w' ⟨rfl,rfl⟩;go_wp2;go_round
    case rel=>exact⟨k+1,by omega,by go_num,hIz (fun j hj y hy=>by
     rcases Nat.lt_succ_iff_lt_or_eq.1 hj with h|rfl
     ·exact hall.out j h y hy
     ·rw[HX.out.1] at hy;injection hy with hy;rw[← hy];exact HX.out.2)⟩
    case measure=>simp[intOf];omega
  ·obtain rfl:k=N.length:=by omega
   have hN:N.all cH=true:=eS (fun j x hx=>hall.out j (gO.1 hx).1 x hx);have HN:=hIz hN;clear hN hall hk hlt;go_wp2_with fail;go_loopw [7] (fun i wr=>∃k:Nat,k≤E.length∧i=.int .i64 k∧Hid (Below W0.heap.size W0 wr)∧Hid (∀j,j<k→∀x,E[j]?=some x→dY x=true)) (fun i _=>E.length-(intOf i).toNat)
   case atStart=>exact⟨0,Nat.zero_le _,rfl,hIz bR,hIz (fun j hj=>by omega)⟩
   case round =>
    obtain⟨k,hk,rfl,hb,hall⟩:=hrel;by_cases hlt:k<E.length
    ·have hltI:(k:Int)<(E.length:Int):=by omega
     have hkw:IntKind.i64.wrap ((k:Int)+1)=(k:Int)+1:=IntWalk.i64_in _ (by omega);obtain⟨⟨s0,s1,s2⟩,hx⟩:∃x,E[k]?=some x:=⟨E[k],gEz _⟩;obtain⟨ab,ao,rfl,x0,x1,x2⟩:=(H.out.1.below hb.out).re.ed hx;dsimp only at x0 x1 x2
     have hok:=HA.out.2 _ (mG hx);have c0:=fun w=>dA s0 w hok.1
     have c1:=fun w=>mL s1 w hok.2.1
     have c2:=fun w=>dA s2 w hok.2.2
     obtain⟨v0,e0⟩:∃b,cH s0=b:=⟨_,rfl⟩;obtain⟨v1,e1⟩:∃b,eP s1=b:=⟨_,rfl⟩;obtain⟨v2,e2⟩:∃b,cH s2=b:=⟨_,rfl⟩;rw[e0] at c0;rw[e1] at c1;rw[e2] at c2;have hv:dY ⟨s0,s1,s2⟩=(v0&&(v1&&v2)):=by rw[dY,e0,e1,e2]
     have kx:=Blk.new wr 32 #[.string s0,.string s1,.string s2];have bx:Below wr.heap.size wr (wr.alloc (.cells #[.string s0,.string s1,.string s2] 32)):=bR.alloc (Nat.le_refl _) _;have HX:=aI4 hx hv kx (tHn hb.out bx);clear hx hok e0 e1 e2 hv kx bx;go_upto_region 11 with (fail);generalize wr.alloc (.cells #[.string s0,.string s1,.string s2] 32)=W1 at HX ⊢;clear x0 x1 x2;have x0:W1.cell? ⟨wr.heap.size,0,none⟩=some (.string s0):=HX.out.2.2.1.cell 0;have x1:W1.cell? ⟨wr.heap.size,1,none⟩=some (.string s1):=HX.out.2.2.1.cell 1;have x2:W1.cell? ⟨wr.heap.size,2,none⟩=some (.string s2):=HX.out.2.2.1.cell 2;go_wp2_with fail;refine(c0 _).mono ?_;rintro e w' ⟨rfl,rfl⟩;cases v0
     ·go_wp2;go_ret;refine⟨fV ?_,tHn H.out.2.2 HX.out.2.2.2⟩;rw[bT,bE (p:=dY) HX.out.1 HX.out.2.1,Bool.and_false]
     ·go_wp2_with fail;refine(c1 _).mono ?_;rintro e w' ⟨rfl,rfl⟩;cases v1
      ·go_wp2;go_ret;refine⟨fV ?_,tHn H.out.2.2 HX.out.2.2.2⟩;rw[bT,bE (p:=dY) HX.out.1 HX.out.2.1,Bool.and_false]
      ·go_wp2_with fail;refine(c2 _).mono ?_;rintro e w' ⟨rfl,rfl⟩;cases v2
       ·go_wp2;go_ret;refine⟨fV ?_,tHn H.out.2.2 HX.out.2.2.2⟩;rw[bT,bE (p:=dY) HX.out.1 HX.out.2.1,Bool.and_false]
       ·go_wp2;go_roundw
        case rel=>exact⟨k+1,by omega,by go_num,hIz HX.out.2.2.2,hIz (fun j hj y hy=>by
         rcases Nat.lt_succ_iff_lt_or_eq.1 hj with h|rfl
         ·exact hall.out j h y hy
         ·rw[HX.out.1] at hy;injection hy with hy;rw[← hy];exact HX.out.2.1)⟩
        case measure=>simp[intOf];omega
    ·obtain rfl:k=E.length:=by omega
     go_wp2;go_ret;refine⟨fV ?_,tHn H.out.2.2 hb.out⟩;rw[bT,HN.out,Bool.true_and];exact(eS (fun j x hx=>hall.out j (gO.1 hx).1 x hx)).symm


theorem vL(w:World)(A:Option Addr)(c:Nat)(B:Option Addr)(d:Nat)(N:List Txt)(E:List Ed)(h:dX w A c B d N E) :
  Calls Tryz.prog 93 #[bQ A N.length c B E.length d] w (Sam w (.bool (fL N E))):=by
 have k0:=Blk.new w 34 #[.slice A N.length c,.slice B E.length d];have u0:Below w.heap.size w (w.alloc (.cells #[.slice A N.length c,.slice B E.length d] 34)):=bR.alloc (Nat.le_refl _) _;have hn:N.length*16≤140737488355328:=h.fit.n;have hd:E.length≤140737488355328:=by have:=h.fit.e;omega
 have H:=aI3 (h.below u0) k0 u0;clear h k0 u0;obtain⟨n,hn1⟩:∃n,N.length=n:=⟨_,rfl⟩;obtain⟨m,hm1⟩:∃n,E.length=n:=⟨_,rfl⟩;rw[hn1,hm1] at H;rw[hn1] at hn;rw[hm1] at hd;rw[hn1,hm1];have HL:=aI2 hn1 hm1;clear hn1 hm1;unfold bQ;go_enter Tryz.func93,Tryz.ntmps93;go_upto_region 1 with (fail);generalize w.alloc (.cells #[.slice A n c,.slice B m d] 34)=W0 at H ⊢;have q0:W0.cell? ⟨w.heap.size,0,none⟩=some (.slice A n c):=H.out.2.1.cell 0;go_wp2_with fail;go_loopw [3] (fun i wr=>∃k:Nat,1≤k∧(k≤n∨k=1)∧i=.int .i64 k∧Hid (Below W0.heap.size W0 wr)∧Hid (∀j,j+1<k→∀a b,N[j]?=some a→N[j+1]?=some b→ltT a b=true)) (fun i _=>n-(intOf i).toNat)
 case atStart=>exact⟨1,Nat.le_refl _,.inr rfl,rfl,hIz bR,hIz (fun j hj=>by omega)⟩
 case round =>
  obtain⟨k,hk1,hk,rfl,hbw,hall⟩:=hrel;have q0:wr.cell? ⟨w.heap.size,0,none⟩=some (.slice A n c):=(H.out.2.1.upd (upF hbw.out) id).cell 0;by_cases hlt:k<n
  ·have hltI:(k:Int)<(n:Int):=by omega
   have hkw:IntKind.i64.wrap ((k:Int)+1)=(k:Int)+1:=IntWalk.i64_in _ (by omega);obtain⟨k',rfl⟩:∃k',k=k'+1:=⟨k-1,by omega⟩;have hkm:IntKind.i64.wrap (k':Int)=(k':Int):=IntWalk.i64_in _ (by omega);have h0k:(0:Int)≤(k':Int)+1:=by omega
   obtain⟨x,hx⟩:∃x,N[k']?=some x:=⟨N[k']'(by rw[HL.out.1];omega),gEz _⟩;obtain⟨y,hy⟩:∃y,N[k'+1]?=some y:=⟨N[k'+1]'(by rw[HL.out.1];omega),gEz _⟩;have h0:=H.out.1.rn.below hbw.out;obtain⟨ab,ao,rfl,x0⟩:=h0.txt hx;have y0:=h0.txt_at hy;have HXY:=aI2 hx hy;have hk2:(k':Int)<(n:Int):=by omega
   clear h0 hx hy;have S:∀w',Below wr.heap.size wr w'→w'.cell? ⟨w.heap.size,0,none⟩=some (.slice (some ⟨ab,ao,none⟩) n c)∧w'.cell? ⟨ab,ao+k',none⟩=some (.string x)∧w'.cell? ⟨ab,ao+(k'+1),none⟩=some (.string y):=fun w' hb=>⟨(hb.cell (World.block_lt_of_cell? _ _ q0)).trans q0,(hb.cell (World.block_lt_of_cell? _ _ x0)).trans x0,(hb.cell (World.block_lt_of_cell? _ _ y0)).trans y0⟩
   have hS:=S wr.drew bR.drew;clear S;cases hl:ltT x y with
   | true =>
    have hl2:Op.bytesLess (ByteArray.toList x) (ByteArray.toList y)=true:=hl;have HLT:=hIz hl;clear hl;go_upto_region 4 with (fail);refine aE (fun w'=>w'.cell? ⟨w.heap.size,0,none⟩=some (.slice (some ⟨ab,ao,none⟩) n c)∧w'.cell? ⟨ab,ao+k',none⟩=some (.string x)∧w'.cell? ⟨ab,ao+(k'+1),none⟩=some (.string y)) 12 [(0,true),(1,true),(2,true),(3,true),(4,true),(5,true),(6,true),(7,true),(8,true),(9,true),(10,true),(11,true)] hS ?_
    iterate 12 refine aB rfl ?_
    refine aF ?_;go_wp2;go_roundw
    case rel=>exact⟨k'+1+1,by omega,.inl (by omega),by go_num,hIz hbw.out.drew,hIz (fun j hj a b ha hb=>by
     rcases Nat.lt_succ_iff_lt_or_eq.1 (Nat.lt_of_succ_lt_succ hj) with h|rfl
     ·exact hall.out j (by omega) a b ha hb
     ·rw[HXY.out.1] at ha;rw[HXY.out.2] at hb;injection ha with ha;injection hb with hb;rw[← ha,← hb];exact HLT.out)⟩
    case measure=>simp[intOf];omega
   | false =>
    have hl2:Op.bytesLess (ByteArray.toList x) (ByteArray.toList y)=false:=hl;have HLT:=hIz hl;clear hl;go_upto_region 4 with (fail);refine aE (fun w'=>w'.cell? ⟨w.heap.size,0,none⟩=some (.slice (some ⟨ab,ao,none⟩) n c)∧w'.cell? ⟨ab,ao+k',none⟩=some (.string x)∧w'.cell? ⟨ab,ao+(k'+1),none⟩=some (.string y)) 12 [(0,true),(1,true),(2,true),(3,true),(4,true),(5,true),(6,true),(7,true),(8,true),(9,true),(10,true),(11,true)] hS ?_
    iterate 12 refine aB rfl ?_
    refine aF ?_;go_wp2;go_ret;refine⟨fV ?_,tHn H.out.2.2 hbw.out.drew⟩;rw[fL,mX HXY.out.1 HXY.out.2 HLT.out,Bool.false_and]
  ·have hup:upB ltT N=true:=(lM N).2 (fun i a b ha hb=>hall.out i (by have:=(gO.1 hb).1;have:=HL.out.1;omega) a b ha hb);have hltI:¬((k:Int)<(n:Int)):=by omega
   obtain⟨W2,hW2⟩:∃W,W=wr:=⟨_,rfl⟩;subst hW2;have HUP:=aI3 hup (eR dW hup) hbw.out;clear hup hall hlt;have q1:W2.cell? ⟨w.heap.size,1,none⟩=some (.slice B m d):=(H.out.2.1.upd (upF hbw.out) id).cell 1;go_wp2_with fail;clear q0 q1 hltI;go_loopw [4] (fun i wr=>∃k:Nat,k≤m∧i=.int .i64 k∧Hid (Below W0.heap.size W0 wr)∧Hid (∀j,j<k→∀a,E[j]?=some a→fD N a=true∧∀b,0<j→E[j-1]?=some b→ltE b a=true)) (fun i _=>m-(intOf i).toNat)
   case atStart=>exact⟨0,Nat.zero_le _,rfl,hIz HUP.out.2.2,hIz (fun j hj=>by omega)⟩
   case round =>
    obtain⟨k,hk,rfl,hb,hall⟩:=hrel;have K:=H.out.2.1.upd (upF hb.out) id;have q0:wr.cell? ⟨w.heap.size,0,none⟩=some (.slice A n c):=K.cell 0;have q1:wr.cell? ⟨w.heap.size,1,none⟩=some (.slice B m d):=K.cell 1;clear K;by_cases hlt:k<m
    ·have hltI:(k:Int)<(m:Int):=by omega
     have hkw:IntKind.i64.wrap ((k:Int)+1)=(k:Int)+1:=IntWalk.i64_in _ (by omega);obtain⟨⟨y1,y2,y3⟩,hy⟩:∃x,E[k]?=some x:=⟨E[k]'(by rw[HL.out.2];exact hlt),gEz _⟩;have h0:=H.out.1.re.below hb.out;obtain⟨ab,ao,rfl,b0,b1,b2⟩:=h0.ed hy;dsimp only at b0 b1 b2
     have HY:=hIz hy;have HAM:=hIz (show ∀(W:World) (s:Txt),Below W0.heap.size W0 W→Calls Tryz.prog 137 #[.slice A n c,.string s] W (eJ W (.bool (inB s N))) from fun W s hb=>by
      have:=sO W A c N s (H.out.1.rn.below hb) HUP.out.2.1 (by rw[HL.out.1];exact hn);rwa [HL.out.1] at this)
     have hend:fD N ⟨y1,y2,y3⟩=(inB y1 N&&inB y3 N):=rfl;obtain⟨e1,he1⟩:∃b,inB y1 N=b:=⟨_,rfl⟩;obtain⟨e2,he2⟩:∃b,inB y3 N=b:=⟨_,rfl⟩;rw[he1,he2] at hend;have HE:=aI3 he1 he2 hend;have SR:=hIz (show ∀W,Below wr.heap.size wr W→W.cell? ⟨w.heap.size,0,none⟩=some (.slice A n c)∧W.cell? ⟨w.heap.size,1,none⟩=some (.slice (some ⟨ab,ao,none⟩) m d)∧W.cell? ⟨ab,ao+k*3,none⟩=some (.string y1)∧W.cell? ⟨ab,ao+k*3+1,none⟩=some (.string y2)∧W.cell? ⟨ab,ao+k*3+2,none⟩=some (.string y3) from fun W h=>by
      have g:∀{p:Addr} {u:Value},wr.cell? p=some u→W.cell? p=some u:=fun {p u} h2=>(h.cell (World.block_lt_of_cell? wr _ h2)).trans h2
      exact⟨g q0,g q1,g b0,g b1,g b2⟩)
     clear hend he1 he2 hy h0;by_cases hk0:k=0
     ·subst hk0;have hz:¬((0:Int)<((0:Nat):Int)):=by omega
      have hS:=SR.out wr.drew bR.drew;go_upto_region 9 with (fail);refine aE (fun w'=>w'.cell? ⟨w.heap.size,0,none⟩=some (.slice A n c)∧w'.cell? ⟨w.heap.size,1,none⟩=some (.slice (some ⟨ab,ao,none⟩) m d)∧w'.cell? ⟨ab,ao,none⟩=some (.string y1)∧w'.cell? ⟨ab,ao+1,none⟩=some (.string y2)∧w'.cell? ⟨ab,ao+2,none⟩=some (.string y3)) 17 [(0,true),(1,true),(2,true),(3,true),(4,true),(5,true),(6,true),(7,true),(8,true),(9,true),(10,true),(11,true),(12,true),(13,true),(14,false),(15,true),(16,true)] hS ?_
      iterate 3 refine aB rfl ?_
      iterate 11 (refine cE rfl (by kernel_rfl) ?_;(try simp only[Act.put,gA,gS,gZ,sA,sZ,sS]))
      (refine gI rfl (by kernel_rfl) (by first | assumption | trivial | exact UP.out _ H5.out) ?_;(try simp only[Act.put,gA,gS,gZ,sA,sZ,sS]))
      (refine cE rfl (by kernel_rfl) ?_;(try simp only[Act.put,gA,gS,gZ,sA,sZ,sS]))
      refine aB rfl ?_;refine aF ?_;obtain⟨W5,hW5⟩:∃W,W=wr.drew:=⟨_,rfl⟩;have HB5:=hIz (show Below wr.heap.size wr W5 by rw[hW5];exact bR.drew);rw[← hW5] at hS ⊢;clear hW5 hS q0 q1 b0 b1 b2;have hk00:∀b,0<(0:Nat)→E[0-1]?=some b→ltE b ⟨y1,y2,y3⟩=true:=fun b h=>by omega
      have HLT:=hIz hk00;clear hk00 hz;have hbw5:=tHn hb.out HB5.out;have HB6:=hIz hbw5;have hS:=SR.out W5.drew HB5.out.drew;clear hbw5;go_upto_region 11 with (fail);refine aE (fun w'=>w'.cell? ⟨w.heap.size,0,none⟩=some (.slice A n c)∧w'.cell? ⟨w.heap.size,1,none⟩=some (.slice (some ⟨ab,ao,none⟩) m d)∧w'.cell? ⟨ab,ao,none⟩=some (.string y1)∧w'.cell? ⟨ab,ao+1,none⟩=some (.string y2)∧w'.cell? ⟨ab,ao+2,none⟩=some (.string y3)) 20 [(0,true),(1,true),(2,true),(3,true),(4,true),(5,true),(6,true),(7,true),(9,true),(10,true),(11,true),(12,true),(13,true),(14,true),(15,true),(16,true),(8,false),(17,false),(18,true),(19,true)] hS ?_
      iterate 16 refine aB rfl ?_
      refine aN rfl rfl (fun K hK=>?_);go_simp;refine(HAM.out W5.drew y1 HB6.out.drew).mono ?_;rintro e w' ⟨rfl,hw⟩;subst w';rw[HE.out.1];refine hK _ _ (fun _=>hS) ?_;clear hK K;(try simp only[Act.put,gA,gS,gZ,sA,sZ,sS])
      refine aN rfl rfl (fun K hK=>?_);go_simp;refine(HAM.out W5.drew y3 HB6.out.drew).mono ?_;rintro e w' ⟨rfl,hw⟩;subst w';rw[HE.out.2.1];refine hK _ _ (fun _=>hS) ?_;clear hK K;(try simp only[Act.put,gA,gS,gZ,sA,sZ,sS])
      refine aB rfl ?_;refine aB rfl ?_;refine aF ?_;clear hS;have HB7:=hIz HB6.out.drew;cases e1 with
      | false =>
       go_wp2;go_ret;refine⟨fV ?_,tHn H.out.2.2 HB7.out⟩;rw[fL,bE (p:=fD N) HY.out HE.out.2.2,Bool.and_false,Bool.and_false]
      | true =>
       cases e2 with
       | false =>
        go_wp2;go_ret;refine⟨fV ?_,tHn H.out.2.2 HB7.out⟩;rw[fL,bE (p:=fD N) HY.out HE.out.2.2,Bool.and_false,Bool.and_false]
       | true =>
        go_wp2;go_roundw
        case rel=>exact⟨0+1,by omega,by go_num,HB7,hIz (fun j hj a ha=>by
         rcases Nat.lt_succ_iff_lt_or_eq.1 hj with h|rfl
         ·exact hall.out j h a ha
         ·rw[HY.out] at ha;injection ha with ha;rw[← ha];exact⟨HE.out.2.2,HLT.out⟩)⟩
        case measure=>simp[intOf];omega
     ·obtain⟨k',rfl⟩:∃k',k=k'+1:=⟨k-1,by omega⟩;have hz:(0:Int)<((k'+1:Nat):Int):=by omega
      have hkm:IntKind.i64.wrap (k':Int)=(k':Int):=IntWalk.i64_in _ (by omega);have h0k:(0:Int)≤(k':Int)+1:=by omega
      have hk2:(k':Int)<(m:Int):=by omega
      obtain⟨⟨x1,x2,x3⟩,hx⟩:∃x,E[k']?=some x:=⟨E[k']'(by rw[HL.out.2];omega),gEz _⟩;obtain⟨a0,a1,a2⟩:=(H.out.1.re.below hb.out).ed_at hx;dsimp only at a0 a1 a2
      have hbf:=fun W=>pN ⟨x1,x2,x3⟩ ⟨y1,y2,y3⟩ W
      obtain⟨v,hv⟩:∃b,ltE ⟨x1,x2,x3⟩ ⟨y1,y2,y3⟩=b:=⟨_,rfl⟩;rw[hv] at hbf;unfold Ed.agg at hbf;dsimp only at hbf
      have HV:=aI2 hx hv;have HBF:=hIz hbf;have SX:=hIz (show ∀W,Below wr.heap.size wr W→(fun w'=>w'.cell? ⟨w.heap.size,1,none⟩=some (.slice (some ⟨ab,ao,none⟩) m d)∧w'.cell? ⟨ab,ao+(k'+1)*3,none⟩=some (.string y1)∧w'.cell? ⟨ab,ao+(k'+1)*3+1,none⟩=some (.string y2)∧w'.cell? ⟨ab,ao+(k'+1)*3+2,none⟩=some (.string y3)∧w'.cell? ⟨ab,ao+k'*3,none⟩=some (.string x1)∧w'.cell? ⟨ab,ao+k'*3+1,none⟩=some (.string x2)∧w'.cell? ⟨ab,ao+k'*3+2,none⟩=some (.string x3)) W from fun W h=>by
       have g:∀{p:Addr} {u:Value},wr.cell? p=some u→W.cell? p=some u:=fun {p u} h2=>(h.cell (World.block_lt_of_cell? wr _ h2)).trans h2
       exact⟨g q1,g b0,g b1,g b2,g a0,g a1,g a2⟩)
      have hS:=SX.out wr.drew bR.drew;clear hx hv hk0 hbf;go_upto_region 9 with (fail);refine aE (fun w'=>w'.cell? ⟨w.heap.size,1,none⟩=some (.slice (some ⟨ab,ao,none⟩) m d)∧w'.cell? ⟨ab,ao+(k'+1)*3,none⟩=some (.string y1)∧w'.cell? ⟨ab,ao+(k'+1)*3+1,none⟩=some (.string y2)∧w'.cell? ⟨ab,ao+(k'+1)*3+2,none⟩=some (.string y3)∧w'.cell? ⟨ab,ao+k'*3,none⟩=some (.string x1)∧w'.cell? ⟨ab,ao+k'*3+1,none⟩=some (.string x2)∧w'.cell? ⟨ab,ao+k'*3+2,none⟩=some (.string x3)) 17 [(0,true),(1,true),(2,true),(3,true),(4,true),(5,true),(6,true),(7,true),(8,true),(9,true),(10,true),(11,true),(12,true),(13,true),(14,false),(15,true),(16,true)] hS ?_
      iterate 14 refine aB rfl ?_
      (refine cM rfl (by first | with_reducible rfl | kernel_rfl) (fun K hK=>?_);go_simp)
      refine(HBF.out wr.drew).mono ?_;rintro e W5 ⟨rfl,b5⟩;have HB5:=hIz (show Below wr.heap.size wr W5 from(Below.refl wr.heap.size wr).drew.trans b5);refine hK _ _ (fun _=>SX.out _ HB5.out) ?_;clear hK K hS q0 q1 b0 b1 b2 a0 a1 a2 b5;(try simp only[Act.put,gA,gS,gZ,sA,sZ,sS])
      cases v with
      | false =>
       refine aB rfl ?_;refine aB rfl ?_;refine aF ?_;go_wp2;go_ret;refine⟨fV ?_,H.out.2.2.trans ((tHn hb.out HB5.out).mono H.out.2.2.size)⟩;rw[fL,mX HV.out.1 HY.out HV.out.2,Bool.false_and,Bool.and_false]
      | true =>
       refine aB rfl ?_;refine aB rfl ?_;refine aF ?_;have HLT:=hIz (show ∀b,0<k'+1→E[k'+1-1]?=some b→ltE b ⟨y1,y2,y3⟩=true from fun b _ h=>by
        rw[Nat.add_sub_cancel,HV.out.1] at h;injection h with h;rw[← h];exact HV.out.2)
       clear hz hkm hk2;have hbw5:=tHn hb.out HB5.out;have HB6:=hIz hbw5;have hS:=SR.out W5.drew HB5.out.drew;clear hbw5;go_upto_region 11 with (fail);refine aE (fun w'=>w'.cell? ⟨w.heap.size,0,none⟩=some (.slice A n c)∧w'.cell? ⟨w.heap.size,1,none⟩=some (.slice (some ⟨ab,ao,none⟩) m d)∧w'.cell? ⟨ab,ao+(k'+1)*3,none⟩=some (.string y1)∧w'.cell? ⟨ab,ao+(k'+1)*3+1,none⟩=some (.string y2)∧w'.cell? ⟨ab,ao+(k'+1)*3+2,none⟩=some (.string y3)) 20 [(0,true),(1,true),(2,true),(3,true),(4,true),(5,true),(6,true),(7,true),(9,true),(10,true),(11,true),(12,true),(13,true),(14,true),(15,true),(16,true),(8,false),(17,false),(18,true),(19,true)] hS ?_
       iterate 16 refine aB rfl ?_
       refine aN rfl rfl (fun K hK=>?_);go_simp;refine(HAM.out W5.drew y1 HB6.out.drew).mono ?_;rintro e w' ⟨rfl,hw⟩;subst w';rw[HE.out.1];refine hK _ _ (fun _=>hS) ?_;clear hK K;(try simp only[Act.put,gA,gS,gZ,sA,sZ,sS])
       refine aN rfl rfl (fun K hK=>?_);go_simp;refine(HAM.out W5.drew y3 HB6.out.drew).mono ?_;rintro e w' ⟨rfl,hw⟩;subst w';rw[HE.out.2.1];refine hK _ _ (fun _=>hS) ?_;clear hK K;(try simp only[Act.put,gA,gS,gZ,sA,sZ,sS])
       refine aB rfl ?_;refine aB rfl ?_;refine aF ?_;clear hS;have HB7:=hIz HB6.out.drew;cases e1 with
       | false =>
        go_wp2;go_ret;refine⟨fV ?_,tHn H.out.2.2 HB7.out⟩;rw[fL,bE (p:=fD N) HY.out HE.out.2.2,Bool.and_false,Bool.and_false]
       | true =>
        cases e2 with
        | false =>
         go_wp2;go_ret;refine⟨fV ?_,tHn H.out.2.2 HB7.out⟩;rw[fL,bE (p:=fD N) HY.out HE.out.2.2,Bool.and_false,Bool.and_false]
        | true =>
         go_wp2;go_roundw
         case rel=>exact⟨(k'+1)+1,by omega,by go_num,HB7,hIz (fun j hj a ha=>by
          rcases Nat.lt_succ_iff_lt_or_eq.1 hj with h|rfl
          ·exact hall.out j h a ha
          ·rw[HY.out] at ha;injection ha with ha;rw[← ha];exact⟨HE.out.2.2,HLT.out⟩)⟩
         case measure=>simp[intOf];omega
    ·obtain rfl:k=m:=by omega
     have hue:upB ltE E=true:=(lM E).2 (fun i a b ha hb'=>by
      have h1:=(gO.1 hb').1;exact(hall.out (i+1) (by have:=HL.out.2;omega) b hb').2 a (by omega) (by rw[Nat.add_sub_cancel];exact ha))
     have hal:E.all (fD N)=true:=eS (fun j x hx=>(hall.out j (by have:=(gO.1 hx).1;have:=HL.out.2;omega) x hx).1);have HF:=hIz (show fL N E=true by rw[fL,HUP.out.1,hue,hal];rfl);clear hue hal hall;go_wp2;go_ret;exact⟨fV HF.out.symm,tHn H.out.2.2 hb.out⟩
open Go.RowKit
theorem oD(w:World)(A:Option Addr)(c:Nat)(B:Option Addr)(d:Nat)(N:List Txt)(E:List Ed)(h:dX w A c B d N E)(hs:fW N E) :
  Calls Tryz.prog 95 #[bQ A N.length c B E.length d] w (Sam w (.int .i64 (cI N E))):=by
 have k0:=Blk.new w 34 #[.slice A N.length c,.slice B E.length d];have u0:Below w.heap.size w (w.alloc (.cells #[.slice A N.length c,.slice B E.length d] 34)):=bR.alloc (Nat.le_refl _) _;have H:=aI4 (h.below u0) k0 u0 hs;clear h k0 u0 hs;unfold bQ;go_enter Tryz.func95,Tryz.ntmps95;go_upto_region 1 with (fail);generalize w.alloc (.cells #[.slice A N.length c,.slice B E.length d] 34)=W0 at H ⊢;have q0:W0.cell? ⟨w.heap.size,0,none⟩=some (.slice A N.length c):=H.out.2.1.cell 0;have q1:W0.cell? ⟨w.heap.size,1,none⟩=some (.slice B E.length d):=H.out.2.1.cell 1;by_cases h1:32<N.length
 ·have h1I:(32:Int)<(N.length:Int):=by omega
  have HX:=hIz (show(260:Int)=cI N E by rw[cI,if_pos h1]);clear h1;go_wp2;go_ret;exact⟨vC HX.out,H.out.2.2.1⟩
 have h1I:¬(32:Int)<(N.length:Int):=by omega
 go_wp2_with fail;refine(kD W0 B d E H.out.1.re H.out.1.fit.e).mono ?_;rintro e w1 ⟨v,rfl,own1,b1⟩;obtain⟨M,hM⟩:∃M,aR ltT (lbs E)=M:=⟨_,rfl⟩;rw[hM] at own1;obtain⟨A1,c1,rfl,-,-⟩:=aG own1;have eM:=hM.symm;have hlen:=True.intro;have k1:=H.out.2.1.upd (upF b1) id;have H1:=aI3 (H.out.1.below b1) k1 (tHn H.out.2.2.1 b1);have hME:M.length=(aR ltT (lbs E)).length:=by rw[← eM]
 clear own1 b1 q0 q1 k1 hM eM;have q0:w1.cell? ⟨w.heap.size,0,none⟩=some (.slice A N.length c):=H1.out.2.1.cell 0;have q1:w1.cell? ⟨w.heap.size,1,none⟩=some (.slice B E.length d):=H1.out.2.1.cell 1;obtain⟨k,hk⟩:∃k,M.length=k:=⟨_,rfl⟩;rw[hk] at hME ⊢;have HM:=hIz hME;by_cases h2:16<k
 ·have h2I:(16:Int)<(k:Int):=by omega
  have HX:=hIz (show(261:Int)=cI N E by rw[cI,if_neg h1,if_pos (by rw[← HM.out];exact h2)]);clear h2 h1 hk hME hlen;go_wp2;go_ret;exact⟨vC HX.out,H1.out.2.2⟩
 have h2I:¬(16:Int)<(k:Int):=by omega
 by_cases h3:256<E.length
 ·have h3I:(256:Int)<(E.length:Int):=by omega
  have HX:=hIz (show(262:Int)=cI N E by rw[cI,if_neg h1,if_neg (by rw[← HM.out];exact h2),if_pos h3]);clear h2 h1 h3 hk hME hlen;go_wp2;go_ret;exact⟨vC HX.out,H1.out.2.2⟩
 have h3I:¬(256:Int)<(E.length:Int):=by omega
 have HH:=aI3 h1 h2 h3;clear h1 h2 h3 hk hME hlen;go_wp2_with fail;refine(vK w1 A c B d N E H1.out.1 H.out.2.2.2 (by have:=HH.out.1;omega) (by have:=HH.out.2.2;omega)).mono ?_;rintro e w2 ⟨rfl,b2⟩;have HB:=hIz (tHn H1.out.2.2 b2);clear b2 q0 q1;obtain⟨t,ht⟩:∃t:Txt,(⟨(jG N E).toArray⟩:Txt)=t:=⟨_,rfl⟩;have hts:t.size=(jG N E).length:=by rw[← ht];simp[ByteArray.size]
 rw[ht];by_cases h4:2048<t.size
 ·have h4I:(2048:Int)<(t.size:Int):=by omega
  have HX:=hIz (show(174:Int)=cI N E by rw[cI,if_neg HH.out.1,if_neg (by rw[← HM.out];exact HH.out.2.1),if_neg HH.out.2.2,if_pos (by omega)]);clear h4 ht hts;go_wp2;go_ret;exact⟨vC HX.out,HB.out⟩
 ·have h4I:¬(2048:Int)<(t.size:Int):=by omega
  have HX:=hIz (show(0:Int)=cI N E by rw[cI,if_neg HH.out.1,if_neg (by rw[← HM.out];exact HH.out.2.1),if_neg HH.out.2.2,if_neg (by omega)]);clear h4 ht hts;go_wp2;go_ret;exact⟨vC HX.out,HB.out⟩

theorem mO(w:World)(A:Option Addr)(c:Nat)(B:Option Addr)(d:Nat)(N:List Txt)(E:List Ed)(h:dX w A c B d N E) :
  Calls Tryz.prog 47 #[bQ A N.length c B E.length d] w (Sam w (.int .i64 (bP N E))):=by
 have k0:=Blk.new w 34 #[.slice A N.length c,.slice B E.length d];have u0:Below w.heap.size w (w.alloc (.cells #[.slice A N.length c,.slice B E.length d] 34)):=bR.alloc (Nat.le_refl _) _;have H:=aI3 (h.below u0) k0 u0;clear h k0 u0;obtain⟨b0,hb0⟩:∃b,fL N E=b:=⟨_,rfl⟩;obtain⟨b1,hb1⟩:∃b,bT N E=b:=⟨_,rfl⟩;have HB:=aI2 hb0 hb1;clear hb0 hb1;unfold bQ;go_enter Tryz.func47,Tryz.ntmps47;go_upto_region 1 with (fail);generalize w.alloc (.cells #[.slice A N.length c,.slice B E.length d] 34)=W0 at H ⊢;have q0:W0.cell? ⟨w.heap.size,0,none⟩=some (.slice A N.length c):=H.out.2.1.cell 0;have q1:W0.cell? ⟨w.heap.size,1,none⟩=some (.slice B E.length d):=H.out.2.1.cell 1;go_wp2_with fail;refine(vL W0 A c B d N E H.out.1).mono ?_;rintro e w1 ⟨rfl,u1⟩;rw[HB.out.1];have k1:=H.out.2.1.upd (upF u1) id;have H1:=aI3 (H.out.1.below u1) k1 (tHn H.out.2.2 u1);clear u1 q0 q1 k1;have q0:w1.cell? ⟨w.heap.size,0,none⟩=some (.slice A N.length c):=H1.out.2.1.cell 0;have q1:w1.cell? ⟨w.heap.size,1,none⟩=some (.slice B E.length d):=H1.out.2.1.cell 1;cases b0
 ·go_wp2;go_ret;exact⟨vC (by rw[bP,if_pos HB.out.1]),H1.out.2.2⟩
 go_wp2_with fail;refine(mN w1 A c B d N E H1.out.1).mono ?_;rintro e w2 ⟨rfl,u2⟩;rw[HB.out.2];have k2:=H1.out.2.1.upd (upF u2) id;have H2:=aI3 (H1.out.1.below u2) k2 (tHn H1.out.2.2 u2);clear u2 q0 q1 k2;have q0:w2.cell? ⟨w.heap.size,0,none⟩=some (.slice A N.length c):=H2.out.2.1.cell 0;have q1:w2.cell? ⟨w.heap.size,1,none⟩=some (.slice B E.length d):=H2.out.2.1.cell 1;cases b1
 ·go_wp2;go_ret;exact⟨vC (by rw[bP,if_neg (by rw[HB.out.1];simp),if_pos HB.out.2]),H2.out.2.2⟩
 go_wp2_with fail;refine(oD w2 A c B d N E H2.out.1 (fW.of HB.out.2)).mono ?_;rintro e w3 ⟨rfl,u3⟩;have FIN:=hIz (tHn H2.out.2.2 u3);have HE:=hIz (show cI N E=bP N E by rw[bP,if_neg (by rw[HB.out.1];simp),if_neg (by rw[HB.out.2];simp)]);clear u3 q0 q1;go_wp2;go_ret;exact⟨vC HE.out,FIN.out⟩
open Go.RowKit
structure Hp where
 lb:Txt
 nd:Int
deriving DecidableEq
def Hp.cells(x:Hp):List Value:=[.string x.lb,.int .i64 x.nd]
def Hp.agg(x:Hp):Value:=.agg #[.string x.lb,.int .i64 x.nd]
def AR(a b:Int):Int:=if a<b then -1 else if b<a then 1 else 0
def or2(a b:Int):Int:=if a≠0 then a else b
def JU(x y:Hp):Int:=or2 (jT x.lb y.lb) (AR x.nd y.nd)
def ltH(x y:Hp):Bool:=if x.lb=y.lb then decide (x.nd<y.nd) else ltT x.lb y.lb
theorem AS{a b:Int}:AR a b=0↔a=b:=by
 unfold AR;split
 ·constructor
  ·intro h;cases h
  ·rintro rfl;omega
 ·split
  ·constructor
   ·intro h;cases h
   ·rintro rfl;omega
  ·constructor
   ·intro _;omega
   ·intro _;rfl
theorem KU(a b:Int):decide (AR a b<0)=decide (a<b):=by
 unfold AR;by_cases h:a<b
 ·rw[if_pos h,decide_eq_true h];rfl
 ·rw[if_neg h,decide_eq_false h];split <;> rfl
theorem KV(x y:Hp):decide (JU x y<0)=ltH x y:=by
 unfold JU or2 ltH;by_cases h:x.lb=y.lb
 ·rw[if_neg (by simp[eW,h]),if_pos h];exact KU _ _
 ·rw[if_pos (by simpa[eW] using h),if_neg h];exact jE _ _
theorem AT{x y:Hp}:JU x y=0↔x=y:=by
 obtain⟨a,n⟩:=x;obtain⟨b,m⟩:=y;unfold JU or2;dsimp only
 by_cases h:jT a b=0
 ·rw[if_neg (by simpa using h),AS];rw[eW] at h;subst h;simp
 ·rw[if_pos h];constructor
  ·intro h2;exact(h h2).elim
  ·intro h2;injection h2 with h2 h3;exact(h (eW.2 h2)).elim
theorem yT:Sto ltH where
 irr:=fun a=>by simp[ltH]
 tr:=fun a b c h k=>by
  unfold ltH at h k ⊢;by_cases h1:a.lb=b.lb
  ·rw[if_pos h1] at h;by_cases h2:b.lb=c.lb
   ·rw[if_pos h2] at k;rw[if_pos (h1.trans h2)];simp at h k ⊢
    omega
   ·rw[if_neg h2] at k;rw[if_neg (by rw[h1];exact h2),h1];exact k
  ·rw[if_neg h1] at h;by_cases h2:b.lb=c.lb
   ·rw[if_neg (by rw[← h2];exact h1),← h2];exact h
   ·rw[if_neg h2] at k;have h3:=dW.tr _ _ _ h k;rw[if_neg (dW.ne h3)];exact h3
 tri:=fun a b h k=>by
  obtain⟨s,n⟩:=a;obtain⟨t,m⟩:=b;unfold ltH at h k;dsimp only at h k
  by_cases h1:s=t
  ·subst h1;simp at h k
   have:n=m:=by omega
   rw[this]
  ·rw[if_neg h1] at h;rw[if_neg (fun e=>h1 e.symm)] at k;exact(h1 (dW.tri _ _ h k)).elim

theorem tC(x:Int)(w:World):Calls Tryz.prog 163 #[.int .i64 x] w (eJ w (.bool false)):=by
 go_enter Tryz.func163,Tryz.ntmps163;go_wp2;go_ret;exact⟨by simp,rfl⟩
theorem FQ(x y:Int)(w:World):Calls Tryz.prog 127 #[.int .i64 x,.int .i64 y] w (eJ w (.int .i64 (AR x y))):=by
 obtain⟨r,hr⟩:∃r,AR x y=r:=⟨_,rfl⟩;rw[hr];have HR:=hIz hr;clear hr;go_enter Tryz.func127,Tryz.ntmps127;go_wp2_with fail;refine(tC x w).mono ?_;rintro e w' ⟨rfl,hw⟩;subst w';go_wp2_with fail;refine(tC y w).mono ?_;rintro e w' ⟨rfl,hw⟩;subst w';by_cases h1:x<y
 ·have HE:=hIz (show(-1:Int)=r by rw[← HR.out,AR,if_pos h1]);go_wp2;go_ret;exact⟨by rw[← HE.out];rfl,rfl⟩
 by_cases h2:y<x
 ·have HE:=hIz (show(1:Int)=r by rw[← HR.out,AR,if_neg h1,if_pos h2]);go_wp2;go_ret;exact⟨by rw[← HE.out];rfl,rfl⟩
 ·have HE:=hIz (show(0:Int)=r by rw[← HR.out,AR,if_neg h1,if_neg h2]);go_wp2;go_ret;exact⟨by rw[← HE.out];rfl,rfl⟩
theorem KW(w:World)(g:Nat)(a b:Int)(h:Blk w g 3 #[.int .i64 a,.int .i64 b]) :
  Calls Tryz.prog 126 #[.slice (some ⟨g,0,none⟩) 2 2] w (eJ w (.int .i64 (or2 a b))):=by
 have key:∀x,or2 a b=x→Calls Tryz.prog 126 #[.slice (some ⟨g,0,none⟩) 2 2] w (eJ w (.int .i64 x)):=by
  intro x hx;have c0:w.cell? ⟨g,0,none⟩=some (.int .i64 a):=h.cell 0;have c1:w.cell? ⟨g,1,none⟩=some (.int .i64 b):=h.cell 1;clear h;have HX:=hIz hx;clear hx;go_enter Tryz.func126,Tryz.ntmps126;go_wp2_with fail;go_loop [5,8] (fun _ i=>∃k:Nat,k≤2∧i=.int .i64 k∧Hid ((1≤k→a=0)∧(2≤k→b=0))) (fun _ i=>2-(intOf i).toNat)
  case atStart=>exact⟨0,by omega,rfl,hIz ⟨by omega,by omega⟩⟩
  case round =>
   obtain⟨k,hk,rfl,hz⟩:=hrel;have hk4:k=0∨k=1∨k=2:=by omega
   rcases hk4 with rfl|rfl|rfl
   ·by_cases ha:a=0
    ·have HA:=hIz ha;have e:(a==0)=true:=by simpa using ha
     go_wp2;go_round
     case rel=>exact⟨1,by omega,rfl,hIz ⟨fun _=>HA.out,by omega⟩⟩
     case measure=>simp[intOf]
    ·have HA:=hIz ha;go_wp2;go_ret;refine⟨?_,rfl⟩;rw[← HX.out,or2,if_pos HA.out];rfl
   ·by_cases ha:b=0
    ·have HA:=hIz ha;go_wp2;go_round
     case rel=>exact⟨2,by omega,rfl,hIz ⟨fun _=>hz.out.1 (by omega),fun _=>HA.out⟩⟩
     case measure=>simp[intOf]
    ·have HA:=hIz ha;go_wp2;go_ret;refine⟨?_,rfl⟩;rw[← HX.out,or2,if_neg (by simp[hz.out.1 (by omega)])];rfl
   ·go_wp2;go_ret;refine⟨?_,rfl⟩;rw[← HX.out,or2,if_neg (by simp[hz.out.1 (by omega)]),hz.out.2 (by omega)];rfl
 exact key _ rfl
theorem tE(x y:Hp)(w:World):Calls Tryz.prog 88 #[x.agg,y.agg] w (Sam w (.int .i64 (JU x y))):=by
 obtain⟨a0,a1⟩:=x;obtain⟨b0,b1⟩:=y;unfold JU;dsimp only
 obtain⟨v0,e0⟩:∃v,jT a0 b0=v:=⟨_,rfl⟩;obtain⟨v1,e1⟩:∃v,AR a1 b1=v:=⟨_,rfl⟩;have H0:=fun W=>eQ a0 b0 W
 have H1:=fun W=>FQ a1 b1 W
 rw[e0] at H0 ⊢;rw[e1] at H1 ⊢;clear e0 e1;have k0:=(Blk.new w 103 #[.string a0,.int .i64 a1]).alloc (.cells #[.string b0,.int .i64 b1] 103);have k1:=Blk.new (w.alloc (.cells #[.string a0,.int .i64 a1] 103)) 103 #[.string b0,.int .i64 b1];simp only[World.size_alloc] at k1
 have bb:Below w.heap.size w ((w.alloc (.cells #[.string a0,.int .i64 a1] 103)).alloc (.cells #[.string b0,.int .i64 b1] 103)):=by(repeat (first | exact Below.refl _ _ | apply Below.drew | refine Below.alloc ?_ (by first | exact Nat.le_refl _ | (simp;done) | (simp;omega)) _ | refine Below.setCell ?_ (by first | exact Nat.le_refl _ | (simp;done) | (simp;omega)) _))
 have HK:=aI3 k0 k1 bb;clear k0 k1 bb;unfold Hp.agg;dsimp only
 go_enter Tryz.func88,Tryz.ntmps88;go_upto_region 1 with (fail);generalize (w.alloc (.cells #[.string a0,.int .i64 a1] 103)).alloc (.cells #[.string b0,.int .i64 b1] 103)=W0 at HK ⊢;have UP:=hIz (show ∀W,Below W0.heap.size W0 W→W.cell? ⟨w.heap.size,0,none⟩=some (.string a0)∧W.cell? ⟨w.heap.size,1,none⟩=some (.int .i64 a1)∧W.cell? ⟨w.heap.size+1,0,none⟩=some (.string b0)∧W.cell? ⟨w.heap.size+1,1,none⟩=some (.int .i64 b1) from fun W hb=>by
  have u:=Upd.of_below hb (fun _=>False);have h1:=HK.out.1.upd u id;have h2:=HK.out.2.1.upd u id;exact⟨h1.cell 0,h1.cell 1,h2.cell 0,h2.cell 1⟩)
 have HB0:=hIz (show Below W0.heap.size W0 W0.drew from bR.drew);have hS:=UP.out _ HB0.out;refine aE (fun W=>W.cell? ⟨w.heap.size,0,none⟩=some (.string a0)∧W.cell? ⟨w.heap.size,1,none⟩=some (.int .i64 a1)∧W.cell? ⟨w.heap.size+1,0,none⟩=some (.string b0)∧W.cell? ⟨w.heap.size+1,1,none⟩=some (.int .i64 b1)) 13 [(0,true),(1,true),(2,true),(3,true),(5,true),(6,true),(7,true),(8,true),(4,false),(9,false),(10,false),(11,false),(12,true)] hS ?_;generalize W0.drew=W1 at HB0 hS ⊢
 iterate 8 refine aB rfl ?_
 refine aN rfl rfl (fun K hK=>?_);go_simp;refine(H0 _).mono ?_;rintro e w1 ⟨rfl,hw⟩;subst w1;refine hK _ _ (fun _=>hS) ?_;clear hK K;(try simp only[Act.put,gA,gS,gZ,sA,sZ,sS])
 refine aN rfl rfl (fun K hK=>?_);go_simp;refine(H1 _).mono ?_;rintro e w1 ⟨rfl,hw⟩;subst w1;refine hK _ _ (fun _=>hS) ?_;clear hK K;(try simp only[Act.put,gA,gS,gZ,sA,sZ,sS])
 have kA:=Blk.new W1 3 #[.int .i64 v0,.int .i64 v1];have bA:=HB0.out.alloc HB0.out.size (.cells #[.int .i64 v0,.int .i64 v1] 3);have HA:=aI2 (KW _ _ v0 v1 kA) bA;clear kA bA;refine aN rfl rfl (fun K hK=>?_);go_simp;refine hK _ _ (fun _=>UP.out _ HA.out.2) ?_;clear hK K;(try simp only[Act.put,gA,gS,gZ,sA,sZ,sS])
 generalize W1.alloc (.cells #[.int .i64 v0,.int .i64 v1] 3)=W2 at HA ⊢;refine aN rfl rfl (fun K hK=>?_);go_simp;refine HA.out.1.mono ?_;rintro e w1 ⟨rfl,hw⟩;subst w1;have FIN:=hIz (tHn HK.out.2.2 HA.out.2);refine hK _ _ (fun _=>UP.out _ HA.out.2) ?_;clear hK K;(try simp only[Act.put,gA,gS,gZ,sA,sZ,sS])
 refine aB rfl ?_;refine aF ?_;go_wp2;go_ret;exact⟨rfl,FIN.out⟩

def aK(L:List Hp):List Value:=L.flatMap Hp.cells
theorem dC(L:List Hp):(aK L).length=L.length*2:=dS Hp.cells 2 (fun _=>rfl) L
theorem AU(E:List Hp):∀u∈aK E,u.oneCell'=true:=by
 intro u hu;obtain⟨x,_,hx⟩:=List.mem_flatMap.1 hu;simp[Hp.cells] at hx
 rcases hx with rfl|rfl <;> rfl
theorem iS:(Tryz.prog.info? 103).map (fun i=>(i.zero,i.size,i.bytes))=some (some (.agg #[.string ByteArray.empty,.int .i64 0]),2,24):=by kernel_rfl
theorem aV.hp{w:World}{B:Option Addr}{L:List Hp}(h:aV w B (aK L)){k:Nat}{x:Hp}(hk:L[k]?=some x) :
  ∃b o,B=some ⟨b,o,none⟩∧w.cell? ⟨b,o+k*2,none⟩=some (.string x.lb)∧w.cell? ⟨b,o+k*2+1,none⟩=some (.int .i64 x.nd):=by
 have g:=fun j hj=>dR Hp.cells 2 (fun _=>rfl) L k j x hk hj
 obtain⟨b,o,e,y0⟩:=h (k*2+0) _ (g 0 (by decide));obtain⟨b1,o1,e1,y1⟩:=h (k*2+1) _ (g 1 (by decide));rw[e] at e1;injection e1 with e1;injection e1 with e3 e4;subst e3;subst e4;exact⟨b,o,e,y0,by rw[Nat.add_assoc];exact y1⟩
open Go.RowKit
def yU(L:List Hp)(h:Hp):Nat:=L.countP fun x=>ltH x h
theorem KX(L:List Hp)(h:Hp):yU L h≤L.length:=List.countP_le_length
theorem KY{L:List Hp}{h:Hp}(_hup:cL ltH L){i:Nat}(hi:i≤L.length)(h1:∀k x,k<i→L[k]?=some x→ltH x h=true)(h2:∀k x,i≤k→L[k]?=some x→ltH x h=false):yU L h=i:=by
 have e:yU L h=(L.take i).countP (fun x=>ltH x h)+(L.drop i).countP (fun x=>ltH x h):=by
  unfold yU;rw[← List.countP_append,List.take_append_drop]
 have a:(L.take i).countP (fun x=>ltH x h)=(L.take i).length:=by
  rw[List.countP_eq_length];intro x hx;obtain⟨k,hk,rfl⟩:=List.getElem_of_mem hx;rw[List.length_take] at hk;exact h1 k _ (by omega) (by rw[List.getElem_take,gEz])
 have b:(L.drop i).countP (fun x=>ltH x h)=0:=by
  rw[List.countP_eq_zero];intro x hx;obtain⟨k,hk,rfl⟩:=List.getElem_of_mem hx;rw[List.length_drop] at hk;rw[h2 (i+k) _ (by omega) (by rw[List.getElem_drop,gEz])];simp
 rw[e,a,b,List.length_take];omega
theorem vM{L:List Hp}(hup:cL ltH L){i j:Nat}{x y:Hp}(hx:L[i]?=some x)(hy:L[j]?=some y)(hij:i<j):ltH x y=true:=by
 obtain⟨h1,e1⟩:=gO.1 hx;obtain⟨h2,e2⟩:=gO.1 hy;have:=(List.pairwise_iff_getElem.1 hup) i j h1 h2 hij;rwa [e1,e2] at this
theorem AV(w:World)(A:Option Addr)(c:Nat)(L:List Hp)(h:Hp)(hr:aV w A (aK L))(hup:cL ltH L)(hl:L.length*24≤140737488355328) :
  Calls Tryz.prog 87 #[.slice A L.length c,h.agg,.func (.func 88) #[] #[]] w (Sam w (.tuple #[.int .i64 (yU L h),.bool (decide (h∈L))])):=by
 obtain⟨s0,s1⟩:=h;obtain⟨r,hr0⟩:∃r,yU L ⟨s0,s1⟩=r:=⟨_,rfl⟩;obtain⟨b,hb0⟩:∃r,decide ((⟨s0,s1⟩:Hp)∈L)=r:=⟨_,rfl⟩;rw[hr0,hb0];obtain⟨n,hn⟩:∃n,L.length=n:=⟨_,rfl⟩;rw[hn] at hl ⊢;have k0:=Blk.new w 103 #[.string s0,.int .i64 s1];have u0:Below w.heap.size w (w.alloc (.cells #[.string s0,.int .i64 s1] 103)):=bR.alloc (Nat.le_refl _) _;have H:=aI7 (hr.below u0) k0 u0 hup hn hr0 hb0;clear hr k0 u0 hup hn hr0 hb0;have eg:∀args w,(callFunc 88 args).run Tryz.prog w=.ok (.enter 88 args) w:=Go.Proofs.enters_of Tryz.func88 (by kernel_rfl) rfl;unfold Hp.agg;dsimp only
 go_enter Tryz.func87,Tryz.ntmps87;go_upto_region 1 with (fail);generalize w.alloc (.cells #[.string s0,.int .i64 s1] 103)=W0 at H ⊢;go_wp2_with fail;go_loopw [9,10,11] (fun lo hi _ wr=>∃i j:Nat,i≤j∧j≤n∧lo=.int .i64 i∧hi=.int .i64 j∧Hid (Below W0.heap.size W0 wr)∧Hid ((∀k x,k<i→L[k]?=some x→ltH x ⟨s0,s1⟩=true)∧∀k x,j≤k→L[k]?=some x→ltH x ⟨s0,s1⟩=false)) (fun lo hi _ _=>(intOf hi).toNat-(intOf lo).toNat)
 case atStart=>exact⟨0,n,Nat.zero_le _,Nat.le_refl _,rfl,rfl,hIz bR,hIz ⟨fun k x hk=>by omega,fun k x hk hx=>by have:=(gO.1 hx).1;have:=H.out.2.2.2.2.1;omega⟩⟩
 case round =>
  obtain⟨i,j,hij,hjn,rfl,rfl,hbw,hs⟩:=hrel;by_cases hlt:i<j
  ·have hltI:(i:Int)<(j:Int):=by omega
   obtain⟨k,hk⟩:∃k,(i+j) / 2=k:=⟨_,rfl⟩;have hq:((i:Int)+(j:Int)) / 2=(k:Int):=by rw[← hk];omega
   have hkj:k<j:=by omega
   have hik:i≤k:=by omega
   have hkn:k<n:=by omega
   have hknI:(k:Int)<(n:Int):=by omega
   have hw2:IntKind.i64.wrap ((k:Int)+1)=(k:Int)+1:=IntWalk.i64_in _ (by omega);obtain⟨⟨x0,x1⟩,hx⟩:∃x,L[k]?=some x:=⟨L[k]'(by rw[H.out.2.2.2.2.1];exact hkn),gEz _⟩;obtain⟨ab,ao,rfl,y0,y1⟩:=(H.out.1.below hbw.out).hp hx;dsimp only at y0 y1
   obtain⟨v,hv⟩:∃v,JU ⟨x0,x1⟩ ⟨s0,s1⟩=v:=⟨_,rfl⟩;have hcon:=fun W=>tE ⟨x0,x1⟩ ⟨s0,s1⟩ W
   rw[hv] at hcon;unfold Hp.agg at hcon;dsimp only at hcon
   have hlt2:=KV ⟨x0,x1⟩ ⟨s0,s1⟩;rw[hv] at hlt2;have HX:=aI2 hx hlt2;have HC:=hIz hcon;have SR:=hIz (show ∀W,Below W0.heap.size W0 W→W.cell? ⟨w.heap.size,0,none⟩=some (.string s0)∧W.cell? ⟨w.heap.size,1,none⟩=some (.int .i64 s1)∧W.cell? ⟨ab,ao+k*2,none⟩=some (.string x0)∧W.cell? ⟨ab,ao+k*2+1,none⟩=some (.int .i64 x1) from fun W hb=>by
    have kb:=H.out.2.1.upd (upF hb) id;obtain⟨b',o',e,z0,z1⟩:=(H.out.1.below hb).hp HX.out.1;injection e with e;injection e with e1 e2;subst e1;subst e2;exact⟨kb.cell 0,kb.cell 1,z0,z1⟩)
   have hS:=SR.out _ hbw.out.drew;clear hx hlt2 hcon hv hk y0 y1;go_upto_region 5 with (fail);refine aE (fun W=>W.cell? ⟨w.heap.size,0,none⟩=some (.string s0)∧W.cell? ⟨w.heap.size,1,none⟩=some (.int .i64 s1)∧W.cell? ⟨ab,ao+k*2,none⟩=some (.string x0)∧W.cell? ⟨ab,ao+k*2+1,none⟩=some (.int .i64 x1)) 8 [(0,true),(1,true),(2,true),(3,true),(4,true),(5,true),(6,false),(7,true)] hS ?_
   iterate 6 refine aB rfl ?_
   refine aN rfl rfl (fun K hK=>?_);go_simp;refine(HC.out wr.drew).mono ?_;rintro e W5 ⟨rfl,b5⟩;have HB5:=hIz (hbw.out.drew.trans (b5.mono hbw.out.size));refine hK _ _ (fun _=>SR.out _ HB5.out) ?_;clear hK K hS b5;(try simp only[Act.put,gA,gS,gZ,sA,sZ,sS])
   by_cases hv0:v<0
   ·have hlx:ltH ⟨x0,x1⟩ ⟨s0,s1⟩=true:=by rw[← HX.out.2];simpa using hv0
    have HL:=hIz hlx;clear hlx;refine aB rfl ?_;refine aF ?_;go_wp2;go_roundw
    case rel=>exact⟨k+1,j,by omega,hjn,by go_num,rfl,HB5,hIz ⟨fun k' x' hk' hx'=>by
      rcases Nat.lt_succ_iff_lt_or_eq.1 hk' with h|rfl
      ·exact yT.tr _ _ _ (vM H.out.2.2.2.1 hx' HX.out.1 h) HL.out
      ·rw[HX.out.1] at hx';injection hx' with e;rw[← e];exact HL.out,hs.out.2⟩⟩
    case measure=>simp[intOf];omega
   ·have hlx:ltH ⟨x0,x1⟩ ⟨s0,s1⟩=false:=by rw[← HX.out.2];simpa using hv0
    have HL:=hIz hlx;clear hlx;refine aB rfl ?_;refine aF ?_;go_wp2;go_roundw
    case rel=>exact⟨i,k,hik,by omega,rfl,rfl,HB5,hIz ⟨hs.out.1,fun k' x' hk' hx'=>by
      rcases Nat.lt_or_eq_of_le hk' with h|rfl
      ·cases e:ltH x' ⟨s0,s1⟩
       ·rfl
       ·have:=yT.tr _ _ _ (vM H.out.2.2.2.1 HX.out.1 hx' h) e;rw[HL.out] at this;cases this
      ·rw[HX.out.1] at hx';injection hx' with e;rw[← e];exact HL.out⟩⟩
    case measure=>simp[intOf];omega
  ·obtain rfl:i=j:=by omega
   have hri:r=i:=by
    rw[← H.out.2.2.2.2.2.1];exact KY H.out.2.2.2.1 (by rw[H.out.2.2.2.2.1];exact hjn) hs.out.1 hs.out.2
   subst hri;obtain⟨W2,hW2⟩:∃W,W=wr:=⟨_,rfl⟩;subst hW2;by_cases hin:r<n
   ·have hinI:(r:Int)<(n:Int):=by omega
    obtain⟨⟨x0,x1⟩,hx⟩:∃x,L[r]?=some x:=⟨L[r]'(by rw[H.out.2.2.2.2.1];exact hin),gEz _⟩;obtain⟨ab,ao,rfl,-,-⟩:=(H.out.1.below hbw.out).hp hx;obtain⟨v,hv⟩:∃v,JU ⟨x0,x1⟩ ⟨s0,s1⟩=v:=⟨_,rfl⟩;have hcon:=fun W=>tE ⟨x0,x1⟩ ⟨s0,s1⟩ W
    rw[hv] at hcon;unfold Hp.agg at hcon;dsimp only at hcon
    have hbv:b=decide (v=0):=by
     rw[← H.out.2.2.2.2.2.2,← hv,Bool.eq_iff_iff,decide_eq_true_iff,decide_eq_true_iff,AT];constructor
     ·intro hm;obtain⟨k,hk,e⟩:=List.getElem_of_mem hm;have hk':L[k]?=some ⟨s0,s1⟩:=by rw[gEz hk,e]
      rcases Nat.lt_trichotomy k r with h|rfl|h
      ·have:=hs.out.1 k _ h hk';rw[yT.irr] at this;cases this
      ·rw[hx] at hk';injection hk'
      ·have h1:=hs.out.2 r _ (Nat.le_refl _) hx;rw[vM H.out.2.2.2.1 hx hk' h] at h1;cases h1
     ·intro e;rw[← e];exact mG hx
    have HX:=aI2 hx hbv;have HC:=hIz hcon;have SR:=hIz (show ∀W,Below W0.heap.size W0 W→W.cell? ⟨w.heap.size,0,none⟩=some (.string s0)∧W.cell? ⟨w.heap.size,1,none⟩=some (.int .i64 s1)∧W.cell? ⟨ab,ao+r*2,none⟩=some (.string x0)∧W.cell? ⟨ab,ao+r*2+1,none⟩=some (.int .i64 x1) from fun W hb=>by
     have kb:=H.out.2.1.upd (upF hb) id;obtain⟨b',o',e,z0,z1⟩:=(H.out.1.below hb).hp HX.out.1;injection e with e;injection e with e1 e2;subst e1;subst e2;exact⟨kb.cell 0,kb.cell 1,z0,z1⟩)
    have hS:=SR.out _ hbw.out.drew;clear hx hbv hcon hv;go_upto_region 8 with (fail);refine aE (fun W=>W.cell? ⟨w.heap.size,0,none⟩=some (.string s0)∧W.cell? ⟨w.heap.size,1,none⟩=some (.int .i64 s1)∧W.cell? ⟨ab,ao+r*2,none⟩=some (.string x0)∧W.cell? ⟨ab,ao+r*2+1,none⟩=some (.int .i64 x1)) 16 [(0,true),(1,true),(2,true),(3,true),(4,true),(5,true),(6,true),(7,true),(8,true),(9,true),(10,true),(11,false),(12,true),(13,true),(14,true),(15,true)] hS ?_
    iterate 11 refine aB rfl ?_
    (refine cM rfl (by first | with_reducible rfl | kernel_rfl) (fun K hK=>?_);go_simp)
    refine(HC.out W2.drew).mono ?_;rintro e W5 ⟨rfl,b5⟩;have HB5:=hIz (hbw.out.drew.trans (b5.mono hbw.out.size));refine hK _ _ (fun _=>SR.out _ HB5.out) ?_;clear hK K hS b5;(try simp only[Act.put,gA,gS,gZ,sA,sZ,sS])
    iterate 4 refine aB rfl ?_
    refine aF ?_;have FIN:=hIz (tHn H.out.2.2.1 HB5.out);have HV:=hIz HX.out.2;go_wp2;refine bodyPost_ret (v:=.tuple #[.int .i64 r,.bool (v==0)]) (by simp[results,Tryz.f87,go_sem]) rfl ⟨?_,FIN.out⟩;rw[HV.out];congr 1
   ·obtain rfl:r=n:=by omega
    have hbf:b=false:=by
     cases b with
     | false=>rfl
     | true =>
      have hm:=of_decide_eq_true H.out.2.2.2.2.2.2;obtain⟨k,hk,e⟩:=List.getElem_of_mem hm;have:=hs.out.1 k _ (by have:=H.out.2.2.2.2.1;omega) (by rw[gEz hk,e]);rw[yT.irr] at this;cases this
    subst hbf;have hS:True:=trivial;have FIN:=hIz (tHn H.out.2.2.1 hbw.out.drew);go_upto_region 8 with (fail);refine aE (fun _=>True) 16 [(0,true),(1,true),(2,true),(3,true),(4,true),(5,true),(6,true),(7,true),(8,true),(9,true),(10,true),(11,false),(12,true),(13,true),(14,true),(15,true)] hS ?_
    iterate 5 refine aB rfl ?_
    iterate 6 (refine cE rfl (by kernel_rfl) ?_;(try simp only[Act.put,gA,gS,gZ,sA,sZ,sS]))
    (refine gI rfl (by kernel_rfl) (by first | assumption | trivial | exact UP.out _ H5.out) ?_;(try simp only[Act.put,gA,gS,gZ,sA,sZ,sS]))
    (refine cE rfl (by kernel_rfl) ?_;(try simp only[Act.put,gA,gS,gZ,sA,sZ,sS]))
    iterate 3 refine aB rfl ?_
    refine aF ?_;go_wp2;refine bodyPost_ret (v:=.tuple #[.int .i64 r,.bool false]) (by simp[results,Tryz.f87,go_sem]) rfl ⟨rfl,FIN.out⟩
end Go.Proofs.YtddffnonlmfhdaaGreatDoor
