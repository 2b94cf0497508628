/- Graphs: slices.Insert of a hop into a row of the call's own; Blocks of bits: two blocks, word by word; Blocks of bits: Get; quad: the ways of a corner; Graphs: a hop put in its place; Edges: Of; two graphs that are the same; Edges: cut to what this seat wants; Graphs that grow: the plain law (no program in sight); A region that draws its order: some stable operations are taken first; of the rest every order is walked, stable ones taken as they come up. Nothing here names the program; A region that draws its order: every order is walked, stable operations taken as they come up; behind the late ones (for which all that is taken waits not) nothing stable need hold. Nothing here names the program. -/
import Derived.Shelf.Spec.SlicesInsertGrow
import Derived.Test.YtnokckdkaifibaaGreatDoorT02
import Derived.Test.YtnokckdkaifibaaGreatDoorT03
import Derived.Laws.BitsAllLaws
import Derived.Test.YtnokckdkaifibaaGreatDoorT01
set_option linter.unusedVariables false
set_option linter.unusedSimpArgs false
set_option maxHeartbeats 16000000
set_option maxRecDepth 100000
namespace Go.Proofs.YtnokckdkaifibaaGreatDoor
open Go.RowKit
theorem dD(b:Nat):∀(vs:List Value) (o:Nat) (w:World) (cur:Array Value) (t:TypeId),w.heap[b]?=some (.cells cur t (0,0))→o+vs.length≤cur.size →
  ∃cur',(w.setCells b o vs).heap[b]?=some (.cells cur' t (0,0))∧cur'.size=cur.size∧cur'.toList=cur.toList.take o++vs++cur.toList.drop (o+vs.length)
 | [],o,w,cur,t,h,_=>⟨cur,h,rfl,by simp⟩
 | v::r,o,w,cur,t,h,hl=>by
  have hb:=Blk.set (show Blk w b t cur from h) o v;simp only[List.length_cons] at hl
  obtain⟨c',e1,e2,e3⟩:=dD b r (o+1) _ _ t hb (by simp;omega);refine⟨c',e1,by rw[e2];simp,?_⟩;rw[e3,Array.toList_setIfInBounds,List.drop_set_of_lt (by omega),List.take_set];have h1:(cur.toList.take (o+1)).set o v=cur.toList.take o++[v]:=by
   rw[List.take_add_one,gEz (by simp;omega)];rw[List.set_append_right _ _ (by simp;omega)];have:o-(cur.toList.take o).length=0:=by simp;omega
   rw[this];rfl
  rw[h1];simp[Nat.add_assoc,Nat.add_comm 1]
theorem Upd.setCells{F:Nat→Prop}{a:World}{b:Nat}(hp:F b∨a.heap.size≤b):∀(vs:List Value) (o:Nat) {w:World},Upd F a w→Upd F a (w.setCells b o vs)
 | [],_,_,h=>h
 | v::r,o,_w,h=>Upd.setCells hp r (o+1) (h.setCell (p:=⟨b,o,none⟩) hp v)
theorem fC{P:Program}(w:World)(dT sT ty elem:TypeId)(size b o dLen dCap:Nat)(a:Addr)(sLen sCap:Nat)(cs:List Value)
  (hu:P.underlying dT=some (.slice elem)) (hs:(P.info? elem).map (·.size)=some size) (hn:cs.length=Nat.min sLen dLen*size)
  (hsrc:∀j v,cs[j]?=some v→w.cell? (a.add j)=some v) (hc:∀j,j<cs.length→(w.cell? ⟨b,o+j,none⟩).isSome=true) (hf:∀j,j<cs.length→w.frozen? ⟨b,o+j,none⟩=false) (h1:∀v∈cs,v.oneCell'=true) :
  (Builtin.copy_ #[dT,sT] ty #[.slice (some ⟨b,o,none⟩) dLen dCap,.slice (some a) sLen sCap]).run P w=.ok (goInt (Nat.min sLen dLen)) (w.setCells b o cs):=by
 have hl:=run_loadCells_list (P:=P) w a cs hsrc;have hst:=run_storeCells_cells (P:=P) b o cs 0 w (by simpa using hc) (by simpa using hf) h1;cases hq:P.info? elem with
 | none=>simp[hq] at hs
 | some i =>
  have hi:i.size=size:=by simpa[hq] using hs
  simp[Builtin.copy_,run_underlying hu,Builtin.lenOf,Builtin.firstCells,sizeOf,typeInfo,hq,hi,← hn,hl,hst]
theorem jJ{w:World}{b:Nat}{cur:Array Value}{t:TypeId}(h:w.heap[b]?=some (.cells cur t (0,0))){k:Nat}(hk:k<cur.size):(w.cell? ⟨b,k,none⟩).isSome=true:=by
 rw[cell_of_row w b k cur t (0,0) h,Array.getElem?_eq_getElem hk];rfl
theorem jK{w:World}{b:Nat}{cur:Array Value}{t:TypeId}(h:w.heap[b]?=some (.cells cur t (0,0)))(k:Nat):w.frozen? ⟨b,k,none⟩=false:=by simp[World.frozen?,h]
theorem GK{α:Type}(C X v:List α)(k:Nat)(hX:C.take X.length=X)(hk:k≤X.length)(hC:X.length+v.length≤C.length) :
  ((C.take (k+v.length)++X.drop k++C.drop (k+v.length+(X.drop k).length)).take k++v++(C.take (k+v.length)++X.drop k++C.drop (k+v.length+(X.drop k).length)).drop (k+v.length)).take (X.length+v.length)=X.take k++v++X.drop k:=by
 have h1:(C.take (k+v.length)++X.drop k++C.drop (k+v.length+(X.drop k).length)).take k=X.take k:=by
  rw[List.append_assoc,List.take_append_of_le_length (by rw[List.length_take];omega),List.take_take,Nat.min_eq_left (by omega)];conv=>rhs;rw[← hX]
  rw[List.take_take,Nat.min_eq_left hk]
 have h2:(C.take (k+v.length)++X.drop k++C.drop (k+v.length+(X.drop k).length)).drop (k+v.length)=X.drop k++C.drop (k+v.length+(X.drop k).length):=by
  rw[List.append_assoc];exact List.drop_left' (by rw[List.length_take];omega)
 rw[h1,h2,← List.append_assoc];exact List.take_left' (by simp;omega)
theorem GL{α:Type}(C v Y:List α)(k:Nat)(hC:k+v.length+Y.length≤C.length) :
  ((C.take k++v++C.drop (k+v.length)).take (k+v.length)++Y++(C.take k++v++C.drop (k+v.length)).drop (k+v.length+Y.length)).take (k+v.length+Y.length)=C.take k++v++Y:=by
 have h1:(C.take k++v++C.drop (k+v.length)).take (k+v.length)=C.take k++v:=List.take_left' (by simp;omega);rw[h1];exact List.take_left' (by simp;omega)
def dW(L:List Hp)(i:Nat)(h:Hp):List Hp:=L.take i++h::L.drop i
theorem gI(N M:List Hp):aQ (N++M)=aQ N++aQ M:=by simp[aQ]
theorem nG(L:List Hp){i:Nat}(h:Hp)(hi:i≤L.length):(dW L i h).length=L.length+1:=by simp[dW];omega
theorem MC(L:List Hp)(i:Nat)(hi:i≤L.length):aQ (L.take i)=(aQ L).take (i*2):=by
 conv=>rhs;rw[← List.take_append_drop i L,gI]
 exact(List.take_left' (by rw[cY,List.length_take];omega)).symm
theorem MD(L:List Hp)(i:Nat)(hi:i≤L.length):aQ (L.drop i)=(aQ L).drop (i*2):=by
 conv=>rhs;rw[← List.take_append_drop i L,gI]
 exact(List.drop_left' (by rw[cY,List.length_take];omega)).symm
theorem nH(L:List Hp)(i:Nat)(h:Hp)(hi:i≤L.length):aQ (dW L i h)=(aQ L).take (i*2)++h.cells++(aQ L).drop (i*2):=by
 rw[dW,gI,MC L i hi];show _++(h.cells++aQ (L.drop i))=_
 rw[MD L i hi,List.append_assoc]

def qD(w:World)(base:Nat)(v:Value)(L:List Hp)(e:Ending)(w':World):Prop:=
 ∃A' c',e=.returned (.slice A' L.length c')∧w'.ownsRow base 145 2 (.slice A' L.length c') L.length (aQ L)∧Upd (fun k=>v.ownBlock=some k) w w'∧∀k,(Value.slice A' L.length c').ownBlock=some k→v.ownBlock=some k∨w.heap.size≤k
theorem yK(w:World)(base:Nat)(A:Option Addr)(c:Nat)(L:List Hp)(own:w.ownsRow base 145 2 (.slice A L.length c) L.length (aQ L))(g:Nat)(h:Hp)(hg:Blk w g 145 h.cells.toArray)(hb:base≤w.heap.size)(hl:(L.length+1)*24≤140737488355328) :
  Calls Tryz.prog 156 #[.slice A L.length c,.int .i64 L.length,.slice (some ⟨g,0,none⟩) 1 1] w (qD w base (.slice A L.length c) (dW L L.length h)):=by
 have hr:bS w (some ⟨g,0,none⟩) h.cells:=fun j u hj=>⟨g,0,rfl,by rw[Nat.zero_add,hg.cell j];simpa using hj⟩
 obtain⟨A',c',w',happ,own',up,pl⟩:=cG w base 143 145 2 24 _ Tryz.underlying143 kN rfl (by decide) (by decide) A L.length c _ own (some ⟨g,0,none⟩) 1 1 h.cells hr rfl (by simp[Hp.cells];exact⟨rfl,rfl⟩) hl hb;have e:L++[h]=dW L L.length h:=by simp[dW]
 have e2:aQ L++h.cells=aQ (dW L L.length h):=by rw[← e,gI];simp[aQ]
 have e3:L.length+1=(dW L L.length h).length:=by rw[← e];simp
 have e4:=aF own;rw[e2] at own';rw[e3] at own' pl;have HH:=hIz (show qD w base (.slice A L.length c) (dW L L.length h) (.returned (.slice A' (L.length+1) c')) w' from⟨A',c',by rw[e3],own',up,pl⟩);clear own' up pl e3 e e2 own hr hg hb;obtain⟨n,hn⟩:∃n,L.length=n:=⟨_,rfl⟩;rw[hn] at hl e4 happ HH ⊢;clear hn;obtain⟨A0,c0,e5,e6,e7⟩:=e4;injection e5 with e5 _ e8;subst e5;subst e8;have hc63:n≤9223372036854775807:=by omega
 go_enter Tryz.func156,Tryz.ntmps156;rcases e7 with rfl|⟨g0,rfl⟩
 all_goals
  go_wp2_with (at_builtin;refine wpList_append_run rfl _ _ _ rfl rfl rfl happ ?_)
  all_goals
   go_ret;exact HH.out
theorem uX(w:World)(base g0 c:Nat)(L:List Hp)(own:w.ownsRow base 145 2 (.slice (some ⟨g0,0,none⟩) L.length c) L.length (aQ L))(g:Nat)(h:Hp)(hg:Blk w g 145 h.cells.toArray)(hne:g≠g0)(i:Nat)(hi:i<L.length)(hc:L.length+1≤c) :
  Calls Tryz.prog 156 #[.slice (some ⟨g0,0,none⟩) L.length c,.int .i64 i,.slice (some ⟨g,0,none⟩) 1 1] w (qD w base (.slice (some ⟨g0,0,none⟩) L.length c) (dW L i h)):=by
 obtain⟨n,hn⟩:∃n,L.length=n:=⟨_,rfl⟩;have hcl:=cY L;rw[hn] at own hi hc hcl ⊢;rcases own.2 with ⟨e,-⟩|⟨g1,c1,cur,e,hbase,hh,hcn,hcm,hcs,hct⟩
 ·cases e
 injection e with e _ e2;injection e with e;injection e with e;subst e;subst e2;have hlen:n*2+2≤cur.toList.length:=by rw[Array.length_toList,hcs];omega
 have hv:h.cells.length=2:=rfl;have hdl:((aQ L).drop (i*2)).length=(n-i)*2:=by rw[List.length_drop,hcl];omega
 obtain⟨Y,hY⟩:∃Y,Y=(aQ L).drop (i*2):=⟨_,rfl⟩;rw[← hY] at hdl;have hYc:∀j u,Y[j]?=some u→w.drew.cell? ((⟨g0,i*2,none⟩:Addr).add j)=some u:=fun j u hu=>by
  rw[hY,List.getElem?_drop,← hct,List.getElem?_take] at hu;split at hu
  ·rw[Addr.add_lit];rw[cell_of_row w.drew g0 _ cur _ (0,0) hh];simpa using hu
  ·cases hu
 have hYo:∀u∈Y,u.oneCell'=true:=fun u hu=>AM L u (by rw[hY] at hu;exact List.mem_of_mem_drop hu)
 have hsz:(Tryz.prog.info? 145).map (·.size)=some 2:=by
  obtain⟨i0,hi0,h0,h1,h2⟩:=info_parts kN;rw[hi0];simp[h1]
 have hcp1:∀ty dc sc,(Builtin.copy_ #[143,143] ty #[.slice (some ⟨g0,(i+1)*2,none⟩) (n+1-(i+1)) dc,.slice (some ⟨g0,i*2,none⟩) (n+1-i) sc]).run Tryz.prog w.drew=.ok (goInt ((n+1-(i+1):Nat):Int)) (w.drew.setCells g0 ((i+1)*2) Y):=fun ty dc sc=>by
  have e:Nat.min (n+1-i) (n+1-(i+1))=n+1-(i+1):=by simp only[Nat.min_def];split <;> omega
  rw[fC w.drew 143 143 ty 145 2 g0 ((i+1)*2) (n+1-(i+1)) dc ⟨g0,i*2,none⟩ (n+1-i) sc Y Tryz.underlying143 hsz (by rw[hdl,e];omega) hYc
   (fun j hj=>jJ (w:=w.drew) hh (by rw[hdl] at hj;rw[hcs];omega)) (fun j hj=>jK (w:=w.drew) hh _) hYo,e]
 obtain⟨cu1,k1,z1,l1⟩:=dD g0 Y ((i+1)*2) w.drew cur _ hh (by rw[hdl,hcs];omega);have u1:Upd (fun k=>(Value.slice (some ⟨g0,0,none⟩) n c).ownBlock=some k) w (w.drew.setCells g0 ((i+1)*2) Y):=Upd.setCells (F:=fun k=>(Value.slice (some ⟨g0,0,none⟩) n c).ownBlock=some k) (a:=w) (b:=g0) (.inl rfl) Y _ (Upd.refl _ w).drew;have kg:Blk (w.drew.setCells g0 ((i+1)*2) Y) g 145 h.cells.toArray:=hg.upd u1 (fun e=>by injection e with e;exact hne e.symm);have hov:∀lb cb,(callFunc 196 #[.slice (some ⟨g,0,none⟩) 1 1,.slice (some ⟨g0,(i+1)*2,none⟩) lb cb]).run Tryz.prog w=.ok (.value (.bool false)) w:=fun lb cb=>by
  rw[run_callFunc_extern Tryz.func196 (by kernel_rfl) (by kernel_rfl) (by kernel_rfl) (e:=Extern.SlicesOverlaps.overlaps #[143,143] #[4]) (by kernel_rfl)];obtain⟨i0,hi0,h0,h1,h2⟩:=info_parts kN;rw[Lib.run_overlaps_apart w 143 4 145 Tryz.underlying143 2 (fun w=>by simp[sizeOf,typeInfo,hi0,h1]) ⟨g,0,none⟩ ⟨g0,(i+1)*2,none⟩ 1 1 lb cb hne 145 145 2 cur.size (by unfold Blk at hg;simp[World.shape?,hg,Hp.cells]) (by simp[World.shape?,hh]) (by rw[hcs];omega) (hg.frozen _) (hg.frozen _)];rfl
 have hcp2:∀ty dc,(Builtin.copy_ #[143,143] ty #[.slice (some ⟨g0,i*2,none⟩) (n+1-i) dc,.slice (some ⟨g,0,none⟩) 1 1]).run Tryz.prog (w.drew.setCells g0 ((i+1)*2) Y)=.ok (goInt 1) ((w.drew.setCells g0 ((i+1)*2) Y).setCells g0 (i*2) h.cells):=fun ty dc=>by
  have e:Nat.min 1 (n+1-i)=1:=by simp only[Nat.min_def];split <;> omega
  rw[fC _ 143 143 ty 145 2 g0 (i*2) (n+1-i) dc ⟨g,0,none⟩ 1 1 h.cells Tryz.underlying143 hsz (by rw[e];rfl) (fun j u hu=>by rw[Addr.add_lit,Nat.zero_add,kg.cell];simpa using hu)
   (fun j hj=>jJ k1 (by rw[z1,hcs];rw[hv] at hj;omega)) (fun j hj=>jK k1 _) (by simp[Hp.cells];exact⟨rfl,rfl⟩),e]
  rfl
 obtain⟨cu2,k2,z2,l2⟩:=dD g0 h.cells (i*2) _ cu1 _ k1 (by rw[z1,hcs,hv];omega);have u2:=Upd.setCells (F:=fun k=>(Value.slice (some ⟨g0,0,none⟩) n c).ownBlock=some k) (a:=w) (b:=g0) (.inl rfl) h.cells (i*2) u1;have own':((w.drew.setCells g0 ((i+1)*2) Y).setCells g0 (i*2) h.cells).ownsRow base 145 2 (.slice (some ⟨g0,0,none⟩) (dW L i h).length c) (dW L i h).length (aQ (dW L i h)):=by
  have e0:(dW L i h).length=n+1:=by rw[nG L h (by omega),hn]
  rw[e0];refine⟨by rw[cY,e0],.inr ⟨g0,c,cu2,rfl,hbase,k2,hc,hcm,by rw[z2,z1,hcs],?_⟩⟩;rw[nH L i h (by omega),l2,l1,hY];have:=GK cur.toList (aQ L) h.cells (i*2) (by rw[hcl];exact hct) (by omega) (by rw[hcl,hv];exact hlen);rw[hv,hcl] at this;rw[show(n+1)*2=n*2+2 by omega,show(i+1)*2=i*2+2 by omega];exact this
 have e0:n+1=(dW L i h).length:=by rw[nG L h (by omega),hn]
 have HH:=hIz (show qD w base (.slice (some ⟨g0,0,none⟩) n c) (dW L i h) (.returned (.slice (some ⟨g0,0,none⟩) (n+1) c)) ((w.drew.setCells g0 ((i+1)*2) Y).setCells g0 (i*2) h.cells) from⟨_,c,by rw[e0],own',u2,fun k hk=>.inl hk⟩);clear own own' u2 u1 kg l1 l2 k1 k2 z1 z2 hg hh hcs hct hlen hdl hYc hYo hY hn hcl hv hsz e0;generalize (w.drew.setCells g0 ((i+1)*2) Y).setCells g0 (i*2) h.cells=W2 at hcp2 HH;generalize w.drew.setCells g0 ((i+1)*2) Y=W1 at hcp1 hcp2;have hz2:¬((i:Int)=(n:Int)):=by omega
 have hw1:IntKind.i64.wrap ((i:Int)+(1:Int))=(i:Int)+(1:Int):=by unfold maxLen at hcm;rw[IntKind.wrap_i64];omega
 have hc63:c≤9223372036854775807:=by unfold maxLen at hcm;omega
 have hin:i≤n:=by omega
 have htn:((i:Int)+(1:Int)).toNat=i+1:=by omega
 have hb1:(0:Int)≤(i:Int)+1:=by omega
 have hb2:¬(c=i+1):=by omega
 have hb3:(i:Int)≤(n:Int)+1:=by omega
 have hb4:¬(c=i):=by omega
 go_enter Tryz.func156,Tryz.ntmps156;go_upto_region 15 with (simp only[hov]);refine aR (fun _=>True) 9 [(0,true),(1,true),(2,true),(3,true),(4,true),(5,true),(6,true),(7,true),(8,false)] (by kernel_rfl) (by kernel_rfl) (fun _ _ d _ _ h=>by cases d <;> exact h) trivial ?_
 iterate 8 refine aD rfl ?_
 refine aJ rfl rfl (fun K hK=>?_);refine wp_copy_runI _ _ _ 143 143 rfl (.slice (some ⟨g0,(i+1)*2,none⟩) (n+1-(i+1)) (c-(i+1))) (.slice (some ⟨g0,i*2,none⟩) (n+1-i) (c-i)) (by simp[Act.eval]) (by simp[Act.eval]) (hcp1 _ _ _) ?_;refine hK _ _ (fun _=>trivial) ?_;clear hK K;(try simp only[Act.put,gA,gS,gZ,sA,sZ,sS])
 refine aK ?_;go_wp2_with (at_builtin;refine wpList_copy_runI _ rfl _ _ 143 143 rfl _ _ rfl rfl (hcp2 _ _) ?_);go_ret;exact HH.out
theorem GM{w:World}{base e size n c:Nat}{A:Option Addr}{xs:List Value}(h:w.ownsRow base e size (.slice A n c) n xs):n≤c∧c≤maxLen:=by
 rcases h.2 with ⟨e,e2⟩|⟨g,cap,cur,e,_,_,hc,hm,_⟩
 ·injection e with _ _ e3;subst e3;rw[e2];exact⟨Nat.le_refl _,by unfold maxLen;omega⟩
 ·injection e with _ _ e3;subst e3;exact⟨hc,hm⟩
theorem uY(w:World)(base g0 c:Nat)(L:List Hp)(own:w.ownsRow base 145 2 (.slice (some ⟨g0,0,none⟩) L.length c) L.length (aQ L))(g:Nat)(h:Hp)(hg:Blk w g 145 h.cells.toArray)(hb:base≤w.heap.size)(i:Nat)(hi:i<L.length)(hc:c<L.length+1)(hl:(L.length+1)*24≤140737488355328) :
  Calls Tryz.prog 156 #[.slice (some ⟨g0,0,none⟩) L.length c,.int .i64 i,.slice (some ⟨g,0,none⟩) 1 1] w (qD w base (.slice (some ⟨g0,0,none⟩) L.length c) (dW L i h)):=by
 obtain⟨n,hn⟩:∃n,L.length=n:=⟨_,rfl⟩;have hcl:=cY L;have hil:=nG L h (Nat.le_of_lt hi);have hgs:=(own.lt g0 rfl).2;have hrr:=bS.of_own own;have hcm:=GM own;rw[hn] at hi hc hcl hl hil hcm ⊢;rw[hn] at own;have hold0:∀j u,(aQ L)[j]?=some u→w.cell? ⟨g0,j,none⟩=some u:=fun j u hu=>by
  obtain⟨b',o',e,y⟩:=hrr j u hu;injection e with e;injection e with e1 e2;subst e1;subst e2;rwa [Nat.zero_add] at y
 obtain⟨i0,hi0,hz0,hz1,hz2⟩:=info_parts kN;have hsz:(Tryz.prog.info? 145).map (·.size)=some 2:=by rw[hi0];simp[hz1]
 have hv:h.cells.length=2:=rfl;have hkk:(n:Int)+1-(i:Int)=((n+1-i:Nat):Int):=by omega
 have hik:i+(n+1-i)=n+1:=by omega
 have hold:(Builtin.firstCells i0.size i (.slice (some ⟨g0,0,none⟩) i c)).run Tryz.prog w.drew=.ok ((aQ L).take (i*2)).toArray w.drew:=by
  rw[hz1];exact run_firstCells_some w.drew 2 i ⟨g0,0,none⟩ i c _ (by rw[List.length_take];omega) (fun j v hj=>by
   rw[Addr.add_lit,Nat.zero_add];rw[List.getElem?_take] at hj;split at hj
   ·exact hold0 j v hj
   ·cases hj)
 have hrz:∀ty,(Builtin.append_ #[143,3] ty #[.slice (some ⟨g0,0,none⟩) i c,.int .i64 ((n:Int)+1-(i:Int))]).run Tryz.prog w =
   .ok (.slice (some ⟨w.heap.size,0,none⟩) (n+1) (grownCap w (n+1) c 145)) (w.drew.alloc (.cells (((aQ L).take (i*2)).toArray++Builtin.zeroCells (Value.agg #[.string ByteArray.empty,.int .i64 0]).cells (n+1-i)++Builtin.zeroCells (Value.agg #[.string ByteArray.empty,.int .i64 0]).cells (grownCap w (n+1) c 145-(n+1))) 145)):=fun ty=>by
  have h:=Lib.run_append_grow_zeros w 143 3 ty 145 i0 _ .i64 .i64 Tryz.underlying143 Tryz.underlying3 hi0 hz0 (some ⟨g0,0,none⟩) i c ((aQ L).take (i*2)) hold (n+1-i) (by omega) (by omega) (by omega) (by omega) (by rw[hz2];omega) (by rw[hz2,hik];exact growslice_fits hc hl);rw[hik] at h;rw[hkk];exact h
 have hG63:grownCap w (n+1) c 145≤maxLen:=grownCap_le_maxLen w (n+1) c 145 (by unfold maxLen;omega);have hGn:n+1≤grownCap w (n+1) c 145:=grownCap_ge w _ _ _;obtain⟨G,hG⟩:∃G,G=grownCap w (n+1) c 145:=⟨_,rfl⟩;rw[← hG] at hrz hG63 hGn;obtain⟨ROW,hROW⟩:∃ROW:Array Value,ROW=((aQ L).take (i*2)).toArray++Builtin.zeroCells (Value.agg #[.string ByteArray.empty,.int .i64 0]).cells (n+1-i)++Builtin.zeroCells (Value.agg #[.string ByteArray.empty,.int .i64 0]).cells (G-(n+1)):=⟨_,rfl⟩;rw[← hROW] at hrz;have hRl:ROW.size=G*2:=by
  rw[hROW];simp only[Array.size_append,List.size_toArray,size_zeroCells,List.length_take,hcl]
  simp[Value.cells]
  omega
 have hRt:ROW.toList.take (i*2)=(aQ L).take (i*2):=by
  rw[hROW];simp only[Array.toList_append,List.append_assoc]
  exact List.take_left' (by rw[List.length_take];omega)
 clear hROW hold;have k0:(w.drew.alloc (.cells ROW 145)).heap[w.heap.size]?=some (.cells ROW 145 (0,0)):=Blk.new w.drew _ _;have u0:Upd (fun k=>(Value.slice (some ⟨g0,0,none⟩) n c).ownBlock=some k) w (w.drew.alloc (.cells ROW 145)):=((Upd.refl _ w).drew).alloc _;have b0:Upd (fun _=>False) w (w.drew.alloc (.cells ROW 145)):=((Upd.refl _ w).drew).alloc _;generalize w.drew.alloc (.cells ROW 145)=W0 at hrz k0 u0 b0;have hcpA:∀ty dc,(Builtin.copy_ #[143,143] ty #[.slice (some ⟨w.heap.size,i*2,none⟩) (n+1-i) dc,.slice (some ⟨g,0,none⟩) 1 1]).run Tryz.prog W0=.ok (goInt 1) (W0.setCells w.heap.size (i*2) h.cells):=fun ty dc=>by
  have e:Nat.min 1 (n+1-i)=1:=by simp only[Nat.min_def];split <;> omega
  rw[fC _ 143 143 ty 145 2 w.heap.size (i*2) (n+1-i) dc ⟨g,0,none⟩ 1 1 h.cells Tryz.underlying143 hsz (by rw[e];rfl) (fun j u hu=>by rw[Addr.add_lit,Nat.zero_add,(hg.upd b0 id).cell];simpa using hu)
   (fun j hj=>jJ k0 (by rw[hRl];rw[hv] at hj;omega)) (fun j hj=>jK k0 _) (by simp[Hp.cells];exact⟨rfl,rfl⟩),e]
  rfl
 obtain⟨cu1,k1,z1,l1⟩:=dD w.heap.size h.cells (i*2) W0 ROW _ k0 (by rw[hRl,hv];omega);have u1:=Upd.setCells (F:=fun k=>(Value.slice (some ⟨g0,0,none⟩) n c).ownBlock=some k) (a:=w) (b:=w.heap.size) (.inr (Nat.le_refl _)) h.cells (i*2) u0;have b1:=Upd.setCells (F:=fun _=>False) (a:=w) (b:=w.heap.size) (.inr (Nat.le_refl _)) h.cells (i*2) b0;generalize W0.setCells w.heap.size (i*2) h.cells=W1 at hcpA k1 u1 b1;have hdl:((aQ L).drop (i*2)).length=(n-i)*2:=by rw[List.length_drop,hcl];omega
 obtain⟨Y,hY⟩:∃Y,Y=(aQ L).drop (i*2):=⟨_,rfl⟩;rw[← hY] at hdl;have hYc:∀j u,Y[j]?=some u→W1.drew.cell? ((⟨g0,i*2,none⟩:Addr).add j)=some u:=fun j u hu=>by
  rw[hY,List.getElem?_drop] at hu;rw[Addr.add_lit];show W1.cell? _=_
  rw[b1.cell (by exact hgs) id];exact hold0 _ _ hu
 have hYo:∀u∈Y,u.oneCell'=true:=fun u hu=>AM L u (by rw[hY] at hu;exact List.mem_of_mem_drop hu)
 have hcpB:∀ty dc sc,(Builtin.copy_ #[143,143] ty #[.slice (some ⟨w.heap.size,(i+1)*2,none⟩) (n+1-(i+1)) dc,.slice (some ⟨g0,i*2,none⟩) (n-i) sc]).run Tryz.prog W1.drew=.ok (goInt ((n-i:Nat):Int)) (W1.drew.setCells w.heap.size ((i+1)*2) Y):=fun ty dc sc=>by
  have e:Nat.min (n-i) (n+1-(i+1))=n-i:=by simp only[Nat.min_def];split <;> omega
  rw[fC W1.drew 143 143 ty 145 2 w.heap.size ((i+1)*2) (n+1-(i+1)) dc ⟨g0,i*2,none⟩ (n-i) sc Y Tryz.underlying143 hsz (by rw[hdl,e]) hYc
   (fun j hj=>jJ (w:=W1.drew) k1 (by rw[hdl] at hj;rw[z1,hRl];omega)) (fun j hj=>jK (w:=W1.drew) k1 _) hYo,e]
 obtain⟨cu2,k2,z2,l2⟩:=dD w.heap.size Y ((i+1)*2) W1.drew cu1 _ k1 (by rw[hdl,z1,hRl];omega);have u2:=Upd.setCells (F:=fun k=>(Value.slice (some ⟨g0,0,none⟩) n c).ownBlock=some k) (a:=w) (b:=w.heap.size) (.inr (Nat.le_refl _)) Y ((i+1)*2) u1.drew;generalize W1.drew.setCells w.heap.size ((i+1)*2) Y=W2 at hcpB k2 u2;have own':W2.ownsRow base 145 2 (.slice (some ⟨w.heap.size,0,none⟩) (dW L i h).length G) (dW L i h).length (aQ (dW L i h)):=by
  rw[hil];refine⟨by rw[cY,hil],.inr ⟨w.heap.size,G,cu2,rfl,hb,k2,hGn,hG63,by rw[z2,z1,hRl],?_⟩⟩;rw[nH L i h (by omega),l2,l1,← hY,← hRt];have:=GL ROW.toList h.cells Y (i*2) (by rw[hv,hdl,Array.length_toList,hRl];omega);rw[hv,hdl] at this;rw[hdl,hv,show(n+1)*2=i*2+2+(n-i)*2 by omega,show(i+1)*2=i*2+2 by omega];exact this
 have HH:=hIz (show qD w base (.slice (some ⟨g0,0,none⟩) n c) (dW L i h) (.returned (.slice (some ⟨w.heap.size,0,none⟩) (n+1) G)) W2 from⟨_,G,by rw[hil],own',u2,fun k hk=>.inr (by injection hk with hk;exact Nat.le_of_eq hk)⟩);clear own own' u0 u1 u2 b0 b1 k0 k1 k2 z1 z2 l1 l2 hg hRl hRt hdl hYc hYo hY hn hcl hv hsz hil hrr hold0 hik hi0 hz0 hz1 hz2;have hz2:¬((i:Int)=(n:Int)):=by omega
 have hz3:(c:Int)<(n:Int)+1:=by omega
 have hw1:IntKind.i64.wrap ((i:Int)+(1:Int))=(i:Int)+(1:Int):=by rw[IntKind.wrap_i64];omega
 have hc63:c≤9223372036854775807:=by omega
 have hG64:G≤9223372036854775807:=by unfold maxLen at hG63;omega
 have hin:i≤n:=by omega
 have hnc:n≤c:=hcm.1;have htn:((i:Int)+(1:Int)).toNat=i+1:=by omega
 have hb1:(0:Int)≤(i:Int)+1:=by omega
 have hb3:(i:Int)≤(n:Int):=by omega
 have hb4:¬(c=i):=by omega
 have hb5:¬(G=i):=by omega
 have hb6:¬(G=i+1):=by omega
 clear hcm hkk hG hG63;go_enter Tryz.func156,Tryz.ntmps156;go_upto_region 11 with (first
  | (at_builtin;refine Lib.wpList_append_run _ rfl _ _ _ _ rfl _ _ rfl rfl _ _ (hrz _) ?_)
  | (at_builtin;refine wpList_copy_runI _ rfl _ _ 143 143 rfl _ _ rfl rfl (hcpA _ _) ?_))
 refine aR (fun _=>True) 9 [(0,true),(1,true),(2,true),(3,true),(4,true),(5,true),(6,true),(7,true),(8,false)] (by kernel_rfl) (by kernel_rfl) (fun _ _ d _ _ h=>by cases d <;> exact h) trivial ?_
 iterate 8 refine aD rfl ?_
 refine aJ rfl rfl (fun K hK=>?_);refine wp_copy_runI _ _ _ 143 143 rfl (.slice (some ⟨w.heap.size,(i+1)*2,none⟩) (n+1-(i+1)) (G-(i+1))) (.slice (some ⟨g0,i*2,none⟩) (n-i) (c-i)) (by simp[Act.eval]) (by simp[Act.eval]) (hcpB _ _ _) ?_;refine hK _ _ (fun _=>trivial) ?_;clear hK K;(try simp only[Act.put,gA,gS,gZ,sA,sZ,sS])
 refine aK ?_;go_wp2;go_ret;exact HH.out
theorem yL(w:World)(base:Nat)(A:Option Addr)(c:Nat)(L:List Hp)(own:w.ownsRow base 145 2 (.slice A L.length c) L.length (aQ L))(g:Nat)(h:Hp)(hg:Blk w g 145 h.cells.toArray)(hne:(Value.slice A L.length c).ownBlock≠some g)(hb:base≤w.heap.size)(i:Nat)(hi:i≤L.length)(hl:(L.length+1)*24≤140737488355328) :
  Calls Tryz.prog 156 #[.slice A L.length c,.int .i64 i,.slice (some ⟨g,0,none⟩) 1 1] w (qD w base (.slice A L.length c) (dW L i h)):=by
 rcases Nat.lt_or_eq_of_le hi with h1|rfl
 ·obtain⟨A0,c0,e5,e6,e7⟩:=aF own;injection e5 with e5 _ e8;subst e5;subst e8;rcases e7 with rfl|⟨g0,rfl⟩
  ·exfalso
   rcases own.2 with ⟨_,e⟩|⟨_,_,_,e,_⟩
   ·omega
   ·injection e with e;cases e
  ·rcases Nat.lt_or_ge c (L.length+1) with h2|h2
   ·exact uY w base g0 c L own g h hg hb i h1 h2 hl
   ·exact uX w base g0 c L own g h hg (fun e=>hne (by rw[e];rfl)) i h1 h2
 ·exact yK w base A c L own g h hg hb hl
open Go.RowKit
def aT:List Nat:=List.replicate 64 0
def aZ(x y:Nat):Nat:=x &&& (18446744073709551615-y)
def orN(x y:Nat):Nat:=x ||| y
def yM(f:Nat→Nat→Nat)(a b:List Nat)(k:Nat):List Nat:=(List.zipWith f a b).take k++a.drop k
theorem sK(f:Nat→Nat→Nat)(a b:List Nat):yM f a b 0=a:=by simp[yM]
theorem wI{f:Nat→Nat→Nat}{a b:List Nat}(ha:a.length=64)(hb:b.length=64):yM f a b 64=List.zipWith f a b:=by
 unfold yM;rw[List.take_of_length_le (by rw[List.length_zipWith,ha,hb];decide),List.drop_of_length_le (by omega),List.append_nil]
theorem BG{f:Nat→Nat→Nat}{a b:List Nat}{k x:Nat}(hab:a.length=b.length)(h:a[k]?=some x):(yM f a b k)[k]?=some x:=by
 have hk:=(gO.1 h).1;unfold yM;have hl:((List.zipWith f a b).take k).length=k:=by rw[List.length_take,List.length_zipWith];omega
 rw[List.getElem?_append_right (by omega),hl,Nat.sub_self,List.getElem?_drop,Nat.add_zero,h]
theorem wJ{f:Nat→Nat→Nat}{a b:List Nat}{k x y:Nat}(hab:a.length=b.length)(hx:a[k]?=some x)(hy:b[k]?=some y):(yM f a b k).set k (f x y)=yM f a b (k+1):=by
 obtain⟨hk,hxe⟩:=gO.1 hx;have hz:(List.zipWith f a b)[k]?=some (f x y):=by rw[List.getElem?_zipWith,hx,hy]
 have hl:((List.zipWith f a b).take k).length=k:=by rw[List.length_take,List.length_zipWith];omega
 unfold yM;rw[List.set_append_right _ _ (by omega),hl,Nat.sub_self,List.drop_eq_getElem_cons hk,List.set_cons_zero,List.take_add_one,hz,Option.toList_some,List.append_assoc,List.singleton_append]
theorem bB{W:World}{g:Nat}{t:TypeId}:Blk W g t Z64↔Blk W g t (wdC aT).toArray:=by
 have e:Z64=(wdC aT).toArray:=by kernel_rfl
 rw[e]
theorem kQ{W:World}{g n:Nat}{t:TypeId}{cs:Array Value}(h:Blk W g t cs)(hn:n≤cs.size):W.there g 0 n:=fun i hi=>by
 have hlt:i<cs.size:=by omega
 rw[Nat.zero_add];exact⟨by rw[h.cell i,Array.getElem?_eq_getElem hlt];rfl,h.frozen i⟩
theorem eW(r:List Nat):∀v∈wdC r,v.oneCell'=true:=fun v hv=>by
 obtain⟨x,_,rfl⟩:=List.mem_map.1 hv;rfl
theorem BH(x y:Nat)(hx:x<18446744073709551616)(hy:y<18446744073709551616):bits .andNot .u64 (x:Int) (y:Int)=((aZ x y:Nat):Int):=u64_andNot_nat x y hx hy
theorem uZ{f:Nat→Nat→Nat}:∀{a b:List Nat} {z:Nat},z∈List.zipWith f a b→∃x∈a,∃y∈b,z=f x y
 | [],_,_,h=>by simp at h
 | _::_,[],_,h=>by simp at h
 | x::a,y::b,z,h=>by
  rw[List.zipWith_cons_cons,List.mem_cons] at h;rcases h with rfl|h
  ·exact⟨x,by simp,y,by simp,rfl⟩
  ·obtain⟨x',hx,y',hy,e⟩:=uZ h;exact⟨x',by simp[hx],y',by simp[hy],e⟩
theorem lQ{a b:List Nat}(ha:Wd a)(hb:Wd b):Wd (List.zipWith aZ a b):=⟨by rw[List.length_zipWith,ha.len,hb.len];decide,fun z hz=>by
 obtain⟨x,hx,y,_,rfl⟩:=uZ hz;exact Nat.lt_of_le_of_lt Nat.and_le_left (ha.fit x hx)⟩
theorem ME(x y:Nat)(hx:x<18446744073709551616)(hy:y<18446744073709551616):bits .or .u64 (x:Int) (y:Int)=((orN x y:Nat):Int):=bits_or_u64_nat x y hx hy
theorem OX{a b:List Nat}(ha:Wd a)(hb:Wd b):Wd (List.zipWith orN a b):=⟨by rw[List.length_zipWith,ha.len,hb.len];decide,fun z hz=>by
 obtain⟨x,hx,y,hy,rfl⟩:=uZ hz;exact Nat.or_lt_two_pow (n:=64) (ha.fit x hx) (hb.fit y hy)⟩
theorem lR(r:List Nat)(k x:Nat):(wdC r).toArray.setIfInBounds k (.int .u64 (x:Int))=(wdC (r.set k x)).toArray:=by
 simp[wdC,List.map_set]
theorem sL(w:World)(a b:List Nat)(ha:Wd a)(hb:Wd b):Calls Tryz.prog 137 #[wdV a,wdV b] w (Sam w (wdV (List.zipWith aZ a b))):=by
 have k0:=((Blk.new w 168 (wdC a).toArray).alloc (.cells (wdC b).toArray 168)).alloc (.cells Z64 168);have k1:=(Blk.new (w.alloc (.cells (wdC a).toArray 168)) 168 (wdC b).toArray).alloc (.cells Z64 168);have k2:=Blk.new ((w.alloc (.cells (wdC a).toArray 168)).alloc (.cells (wdC b).toArray 168)) 168 Z64;simp only[World.size_alloc] at k1 k2
 have u0:Below w.heap.size w (((w.alloc (.cells (wdC a).toArray 168)).alloc (.cells (wdC b).toArray 168)).alloc (.cells Z64 168)):=by(repeat (first | exact Below.refl _ _ | apply Below.drew | refine Below.alloc ?_ (by first | exact Nat.le_refl _ | (simp;done) | (simp;omega)) _ | refine Below.setCell ?_ (by first | exact Nat.le_refl _ | (simp;done) | (simp;omega)) _))
 have H:=aI6 ha hb k0 k1 (bB.mp k2) u0;clear k0 k1 k2 u0 ha hb;unfold wdV;go_enter Tryz.func137,Tryz.ntmps137;go_upto_region 1 with (fail);generalize ((w.alloc (.cells (wdC a).toArray 168)).alloc (.cells (wdC b).toArray 168)).alloc (.cells Z64 168)=W0 at H ⊢;go_wp2_with fail;go_loopw [6] (fun i wr=>∃k:Nat,k≤64∧i=.int .i64 k∧Hid (Blk wr w.heap.size 168 (wdC (yM aZ a b k)).toArray)∧Hid (Blk wr (w.heap.size+1) 168 (wdC b).toArray)∧Hid (Blk wr (w.heap.size+1+1) 168 (wdC aT).toArray)∧Hid (Below w.heap.size w wr)) (fun i _=>64-(intOf i).toNat)
 case atStart=>exact⟨0,Nat.zero_le _,rfl,hIz (by rw[sK];exact H.out.2.2.1),hIz H.out.2.2.2.1,hIz H.out.2.2.2.2.1,hIz H.out.2.2.2.2.2⟩
 case round =>
  obtain⟨k,hk,rfl,hA,hB,hC,hbw⟩:=hrel;have hab:a.length=b.length:=by rw[H.out.1.len,H.out.2.1.len]
  by_cases hlt:k<64
  ·have hltI:(k:Int)<(64:Int):=by omega
   have hkw:IntKind.i64.wrap ((k:Int)+1)=(k:Int)+1:=IntWalk.i64_in _ (by omega);obtain⟨x,hx⟩:∃x,a[k]?=some x:=⟨a[k]'(by rw[H.out.1.len];exact hlt),gEz _⟩;obtain⟨y,hy⟩:∃x,b[k]?=some x:=⟨b[k]'(by rw[H.out.2.1.len];exact hlt),gEz _⟩;have hop:=BH x y (H.out.1.fit x (mG hx)) (H.out.2.1.fit y (mG hy));have c0:wr.drew.cell? ⟨w.heap.size,k,none⟩=some (.int .u64 (x:Int)):=(hA.out.drew.cell k).trans (by simpa using fL (BG (f:=aZ) hab hx));have c1:wr.drew.cell? ⟨w.heap.size+1,k,none⟩=some (.int .u64 (y:Int)):=(hB.out.drew.cell k).trans (by simpa using fL hy);have f0:wr.drew.frozen? ⟨w.heap.size,k,none⟩=false:=hA.out.drew.frozen k;have hS:wr.drew.cell? ⟨w.heap.size,k,none⟩=some (.int .u64 (x:Int))∧wr.drew.cell? ⟨w.heap.size+1,k,none⟩=some (.int .u64 (y:Int)):=⟨c0,c1⟩;have hb2:Upd (fun q=>q=w.heap.size) wr.drew (wr.drew.setCell ⟨w.heap.size,k,none⟩ (.int .u64 ((aZ x y:Nat):Int))):=(Upd.refl (fun q=>q=w.heap.size) wr.drew).setCell (p:=⟨w.heap.size,k,none⟩) (.inl rfl) _;have HN:=hIz (show Blk (wr.drew.setCell ⟨w.heap.size,k,none⟩ (.int .u64 ((aZ x y:Nat):Int))) w.heap.size 168 (wdC (yM aZ a b (k+1))).toArray∧Blk (wr.drew.setCell ⟨w.heap.size,k,none⟩ (.int .u64 ((aZ x y:Nat):Int))) (w.heap.size+1) 168 (wdC b).toArray∧Blk (wr.drew.setCell ⟨w.heap.size,k,none⟩ (.int .u64 ((aZ x y:Nat):Int))) (w.heap.size+1+1) 168 (wdC aT).toArray∧Below w.heap.size w (wr.drew.setCell ⟨w.heap.size,k,none⟩ (.int .u64 ((aZ x y:Nat):Int))) from by
    refine⟨?_,hB.out.drew.upd hb2 (by omega),hC.out.drew.upd hb2 (by omega),hbw.out.drew.trans (hb2.below (fun q _ e=>Nat.le_of_eq e.symm) hbw.out.size)⟩;have:=hA.out.drew.set k (.int .u64 ((aZ x y:Nat):Int));rw[lR,wJ hab hx hy] at this;exact this)
   clear hA hB hC hbw hb2 hx hy c1;generalize hq:(aZ x y:Nat)=q at hop HN;clear hq;go_upto_region 4 with (fail);refine aM (fun W=>W.cell? ⟨w.heap.size,k,none⟩=some (.int .u64 (x:Int))∧W.cell? ⟨w.heap.size+1,k,none⟩=some (.int .u64 (y:Int))) 8 [(0,true),(1,true),(2,true),(3,true),(4,true),(5,true),(6,true),(7,true),(8,false)] hS ?_;generalize wr.drew=V0 at hS c0 f0 HN ⊢
   iterate 8 refine aD rfl ?_
   refine aJ rfl rfl (fun K hK=>?_);go_simp;refine hK _ _ (fun h=>absurd rfl h) ?_;clear hK K hS c0 f0 hop;(try simp only[Act.put,gA,gS,gZ,sA,sZ,sS])
   refine aK ?_;generalize V0.setCell ⟨w.heap.size,k,none⟩ (.int .u64 (q:Int))=W1 at HN ⊢;go_wp2;go_roundw
   case rel=>exact⟨k+1,by omega,by go_num,hIz HN.out.1,hIz HN.out.2.1,hIz HN.out.2.2.1,hIz HN.out.2.2.2⟩
   case measure=>simp[intOf];omega
  ·obtain rfl:k=64:=by omega
   have hA2:=hA.out;rw[wI H.out.1.len H.out.2.1.len] at hA2;have hz:Wd (List.zipWith aZ a b):=lQ H.out.1 H.out.2.1;have hrg:=bL hA2;have hsz:=bG hz;have hth:wr.there (w.heap.size+1+1) 0 (wdC (List.zipWith aZ a b)).toArray.size:=kQ hC.out (by simp[bI,hz.len,aT]);have hsz2:(Tryz.prog.info? 168).map (·.size)=some (wdC (List.zipWith aZ a b)).toArray.size:=by simpa using hsz
   have h1c:(wdC (List.zipWith aZ a b)).toArray.all (·.oneCell')=true:=all_oneCell_toArray (eW _);have FIN:=hIz (show Below w.heap.size w (wr.setCells (w.heap.size+1+1) 0 (wdC (List.zipWith aZ a b)))∧(wr.setCells (w.heap.size+1+1) 0 (wdC (List.zipWith aZ a b))).rangeAt (w.heap.size+1+1) 0 (wdC (List.zipWith aZ a b)) from⟨hbw.out.trans ((Upd.setCells (F:=fun q=>q=w.heap.size+1+1) (.inl rfl) _ _ (Upd.refl _ _)).below (fun q _ e=>by omega) hbw.out.size),World.rangeAt_setCells_same _ _ _ _ (by simpa using hth)⟩);clear hA hB hC hbw hA2;go_upto_region 6 with (fail);go_wp2_with (first | (refine wpList_load_mid rfl 168 _ rfl w.heap.size 0 rfl (wdC (List.zipWith aZ a b)) (.array 64 166) hrg Tryz.underlying168 rfl hsz ?_) | (refine wpList_store_mid rfl 168 _ _ rfl (w.heap.size+1+1) 0 (wdC (List.zipWith aZ a b)).toArray rfl rfl hth hsz2 h1c ?_));have hlv:=run_loadVar_mid (P:=Tryz.prog) _ (w.heap.size+1+1) 0 168 (wdC (List.zipWith aZ a b)) (.array 64 166) FIN.out.2 Tryz.underlying168 rfl hsz;refine bodyPost_ret (v:=.agg (wdC (List.zipWith aZ a b)).toArray) (by simp[results,Tryz.f137,Act.put,asAddr,hlv,Result.andThen,Sem.run_bind]) rfl ⟨rfl,FIN.out.1⟩
theorem MF(w:World)(a b:List Nat)(ha:Wd a)(hb:Wd b):Calls Tryz.prog 138 #[wdV a,wdV b] w (Sam w (wdV (List.zipWith orN a b))):=by
 have k0:=((Blk.new w 168 (wdC a).toArray).alloc (.cells (wdC b).toArray 168)).alloc (.cells Z64 168);have k1:=(Blk.new (w.alloc (.cells (wdC a).toArray 168)) 168 (wdC b).toArray).alloc (.cells Z64 168);have k2:=Blk.new ((w.alloc (.cells (wdC a).toArray 168)).alloc (.cells (wdC b).toArray 168)) 168 Z64;simp only[World.size_alloc] at k1 k2
 have u0:Below w.heap.size w (((w.alloc (.cells (wdC a).toArray 168)).alloc (.cells (wdC b).toArray 168)).alloc (.cells Z64 168)):=by(repeat (first | exact Below.refl _ _ | apply Below.drew | refine Below.alloc ?_ (by first | exact Nat.le_refl _ | (simp;done) | (simp;omega)) _ | refine Below.setCell ?_ (by first | exact Nat.le_refl _ | (simp;done) | (simp;omega)) _))
 have H:=aI6 ha hb k0 k1 (bB.mp k2) u0;clear k0 k1 k2 u0 ha hb;unfold wdV;go_enter Tryz.func138,Tryz.ntmps138;go_upto_region 1 with (fail);generalize ((w.alloc (.cells (wdC a).toArray 168)).alloc (.cells (wdC b).toArray 168)).alloc (.cells Z64 168)=W0 at H ⊢;go_wp2_with fail;go_loopw [6] (fun i wr=>∃k:Nat,k≤64∧i=.int .i64 k∧Hid (Blk wr w.heap.size 168 (wdC (yM orN a b k)).toArray)∧Hid (Blk wr (w.heap.size+1) 168 (wdC b).toArray)∧Hid (Blk wr (w.heap.size+1+1) 168 (wdC aT).toArray)∧Hid (Below w.heap.size w wr)) (fun i _=>64-(intOf i).toNat)
 case atStart=>exact⟨0,Nat.zero_le _,rfl,hIz (by rw[sK];exact H.out.2.2.1),hIz H.out.2.2.2.1,hIz H.out.2.2.2.2.1,hIz H.out.2.2.2.2.2⟩
 case round =>
  obtain⟨k,hk,rfl,hA,hB,hC,hbw⟩:=hrel;have hab:a.length=b.length:=by rw[H.out.1.len,H.out.2.1.len]
  by_cases hlt:k<64
  ·have hltI:(k:Int)<(64:Int):=by omega
   have hkw:IntKind.i64.wrap ((k:Int)+1)=(k:Int)+1:=IntWalk.i64_in _ (by omega);obtain⟨x,hx⟩:∃x,a[k]?=some x:=⟨a[k]'(by rw[H.out.1.len];exact hlt),gEz _⟩;obtain⟨y,hy⟩:∃x,b[k]?=some x:=⟨b[k]'(by rw[H.out.2.1.len];exact hlt),gEz _⟩;have hop:=ME x y (H.out.1.fit x (mG hx)) (H.out.2.1.fit y (mG hy));have c0:wr.drew.cell? ⟨w.heap.size,k,none⟩=some (.int .u64 (x:Int)):=(hA.out.drew.cell k).trans (by simpa using fL (BG (f:=orN) hab hx));have c1:wr.drew.cell? ⟨w.heap.size+1,k,none⟩=some (.int .u64 (y:Int)):=(hB.out.drew.cell k).trans (by simpa using fL hy);have f0:wr.drew.frozen? ⟨w.heap.size,k,none⟩=false:=hA.out.drew.frozen k;have hS:wr.drew.cell? ⟨w.heap.size,k,none⟩=some (.int .u64 (x:Int))∧wr.drew.cell? ⟨w.heap.size+1,k,none⟩=some (.int .u64 (y:Int)):=⟨c0,c1⟩;have hb2:Upd (fun q=>q=w.heap.size) wr.drew (wr.drew.setCell ⟨w.heap.size,k,none⟩ (.int .u64 ((orN x y:Nat):Int))):=(Upd.refl (fun q=>q=w.heap.size) wr.drew).setCell (p:=⟨w.heap.size,k,none⟩) (.inl rfl) _;have HN:=hIz (show Blk (wr.drew.setCell ⟨w.heap.size,k,none⟩ (.int .u64 ((orN x y:Nat):Int))) w.heap.size 168 (wdC (yM orN a b (k+1))).toArray∧Blk (wr.drew.setCell ⟨w.heap.size,k,none⟩ (.int .u64 ((orN x y:Nat):Int))) (w.heap.size+1) 168 (wdC b).toArray∧Blk (wr.drew.setCell ⟨w.heap.size,k,none⟩ (.int .u64 ((orN x y:Nat):Int))) (w.heap.size+1+1) 168 (wdC aT).toArray∧Below w.heap.size w (wr.drew.setCell ⟨w.heap.size,k,none⟩ (.int .u64 ((orN x y:Nat):Int))) from by
    refine⟨?_,hB.out.drew.upd hb2 (by omega),hC.out.drew.upd hb2 (by omega),hbw.out.drew.trans (hb2.below (fun q _ e=>Nat.le_of_eq e.symm) hbw.out.size)⟩;have:=hA.out.drew.set k (.int .u64 ((orN x y:Nat):Int));rw[lR,wJ hab hx hy] at this;exact this)
   clear hA hB hC hbw hb2 hx hy c1;generalize hq:(orN x y:Nat)=q at hop HN;clear hq;go_upto_region 4 with (fail);refine aM (fun W=>W.cell? ⟨w.heap.size,k,none⟩=some (.int .u64 (x:Int))∧W.cell? ⟨w.heap.size+1,k,none⟩=some (.int .u64 (y:Int))) 8 [(0,true),(1,true),(2,true),(3,true),(4,true),(5,true),(6,true),(7,true),(8,false)] hS ?_;generalize wr.drew=V0 at hS c0 f0 HN ⊢
   iterate 8 refine aD rfl ?_
   refine aJ rfl rfl (fun K hK=>?_);go_simp;refine hK _ _ (fun h=>absurd rfl h) ?_;clear hK K hS c0 f0 hop;(try simp only[Act.put,gA,gS,gZ,sA,sZ,sS])
   refine aK ?_;generalize V0.setCell ⟨w.heap.size,k,none⟩ (.int .u64 (q:Int))=W1 at HN ⊢;go_wp2;go_roundw
   case rel=>exact⟨k+1,by omega,by go_num,hIz HN.out.1,hIz HN.out.2.1,hIz HN.out.2.2.1,hIz HN.out.2.2.2⟩
   case measure=>simp[intOf];omega
  ·obtain rfl:k=64:=by omega
   have hA2:=hA.out;rw[wI H.out.1.len H.out.2.1.len] at hA2;have hz:Wd (List.zipWith orN a b):=OX H.out.1 H.out.2.1;have hrg:=bL hA2;have hsz:=bG hz;have hth:wr.there (w.heap.size+1+1) 0 (wdC (List.zipWith orN a b)).toArray.size:=kQ hC.out (by simp[bI,hz.len,aT]);have hsz2:(Tryz.prog.info? 168).map (·.size)=some (wdC (List.zipWith orN a b)).toArray.size:=by simpa using hsz
   have h1c:(wdC (List.zipWith orN a b)).toArray.all (·.oneCell')=true:=all_oneCell_toArray (eW _);have FIN:=hIz (show Below w.heap.size w (wr.setCells (w.heap.size+1+1) 0 (wdC (List.zipWith orN a b)))∧(wr.setCells (w.heap.size+1+1) 0 (wdC (List.zipWith orN a b))).rangeAt (w.heap.size+1+1) 0 (wdC (List.zipWith orN a b)) from⟨hbw.out.trans ((Upd.setCells (F:=fun q=>q=w.heap.size+1+1) (.inl rfl) _ _ (Upd.refl _ _)).below (fun q _ e=>by omega) hbw.out.size),World.rangeAt_setCells_same _ _ _ _ (by simpa using hth)⟩);clear hA hB hC hbw hA2;go_upto_region 6 with (fail);go_wp2_with (first | (refine wpList_load_mid rfl 168 _ rfl w.heap.size 0 rfl (wdC (List.zipWith orN a b)) (.array 64 166) hrg Tryz.underlying168 rfl hsz ?_) | (refine wpList_store_mid rfl 168 _ _ rfl (w.heap.size+1+1) 0 (wdC (List.zipWith orN a b)).toArray rfl rfl hth hsz2 h1c ?_));have hlv:=run_loadVar_mid (P:=Tryz.prog) _ (w.heap.size+1+1) 0 168 (wdC (List.zipWith orN a b)) (.array 64 166) FIN.out.2 Tryz.underlying168 rfl hsz;refine bodyPost_ret (v:=.agg (wdC (List.zipWith orN a b)).toArray) (by simp[results,Tryz.f138,Act.put,asAddr,hlv,Result.andThen,Sem.run_bind]) rfl ⟨rfl,FIN.out.1⟩
open Go.RowKit
theorem kR(n:Nat)(hn:n<64)(w:World):Calls Tryz.prog 146 #[.int .i64 (n:Int)] w (fun e w'=>e=.returned (.bool true)∧w'=w):=by
 have h0:(0:Int)≤(n:Int):=by omega
 have h1:(n:Int)<64:=by omega
 go_enter Tryz.func146,Tryz.ntmps146;go_wp2;go_ret;exact⟨rfl,rfl⟩
def eQ(r:List Nat)(i j:Nat):Bool:=(r[i]?.getD 0).testBit j
theorem MG(x:Nat)(hx:x<18446744073709551616)(j:Nat):(bits .and .u64 ((x:Int) / 2 ^ j) 1==1)=x.testBit j:=by
 rw[show((x:Int) / 2 ^ j)=((x / 2 ^ j:Nat):Int) by push_cast;rfl];have hlt:x / 2 ^ j<18446744073709551616:=Nat.lt_of_le_of_lt (Nat.div_le_self _ _) hx;have h:=bits_and_u64_nat (x / 2 ^ j) 1 hlt (by decide);have e:((1:Nat):Int)=1:=rfl;rw[e] at h;rw[h,Nat.and_one_is_mod,Nat.testBit_eq_decide_div_mod_eq];by_cases hq:x / 2 ^ j % 2=1
 ·simp[hq]
 ·have:x / 2 ^ j % 2=0:=by omega
  simp[this]
theorem GN(w:World)(r:List Nat)(hr:Wd r)(i j:Nat)(hi:i<64)(hj:j<64):Calls Tryz.prog 119 #[wdV r,.int .i64 (i:Int),.int .i64 (j:Int)] w (Sam w (.tuple #[.bool (eQ r i j),.int .i64 0])):=by
 have k0:=Blk.new w 168 (wdC r).toArray;have u0:Below w.heap.size w (w.alloc (.cells (wdC r).toArray 168)):=bR.alloc (Nat.le_refl _) _;obtain⟨x,hx⟩:∃x,r[i]?=some x:=⟨r[i]'(by rw[hr.len];exact hi),gEz _⟩;have c0:(w.alloc (.cells (wdC r).toArray 168)).cell? ⟨w.heap.size,i,none⟩=some (.int .u64 (x:Int)):=(k0.cell i).trans (by simpa using fL hx);have hb:eQ r i j=x.testBit j:=by unfold eQ;rw[hx];rfl
 have ha:=MG x (hr.fit x (mG hx)) j;rw[hb,← ha];have H:=hIz u0;have hiI:(i:Int)<(64:Int):=by omega
 have hj0:¬((j:Int)<0):=by omega
 clear k0 u0 hx hr hb ha;unfold wdV;go_enter Tryz.func119,Tryz.ntmps119;go_upto_region 1 with (fail);generalize w.alloc (.cells (wdC r).toArray 168)=W0 at H c0 ⊢;go_wp2_with fail;refine(kR i hi W0).mono ?_;rintro e w' ⟨rfl,hw⟩;subst w';go_wp2_with fail;refine(kR j hj W0).mono ?_;rintro e w' ⟨rfl,hw⟩;subst w';go_wp2;refine bodyPost_ret (v:=.tuple #[.bool (bits .and .u64 ((x:Int) / 2 ^ j) 1==1),.int .i64 0]) (by simp[results,Tryz.f119,go_sem]) rfl ⟨rfl,H.out⟩
theorem nI(l:Nat)(hl:l≤10)(w:World):Calls Tryz.prog 163 #[.int .i64 0,.int .i64 0,.int .i64 (l:Int)] w (Sam w (.int .i64 0)):=by
 have h0:¬((l:Int)<0):=by omega
 have h1:bits .and .i64 0 1=0:=by decide +kernel
 have h2:wrap64 0=0:=by decide +kernel
 have h3:bits .or .i64 0 0=0:=by decide +kernel
 go_enter Tryz.func163,Tryz.ntmps163;go_upto_region 1 with (fail);go_quiet (fail)
 go_wp2;go_ret;exact⟨rfl,(Upd.refl (fun _=>False) w).drewN _ |>.below (fun _ _ h=>h.elim) (Nat.le_refl _)⟩
open Go.RowKit
def sM(L:List Hp)(h:Hp):List Hp:=dW L (yA L h) h
theorem BI{L:List Hp}{h:Hp}(hn:∀x∈L,ltH x h=false):yA L h=0:=by
 unfold yA;rw[List.countP_eq_zero];intro x hx;rw[hn x hx];simp
theorem GO(h:Hp):sM [] h=[h]:=rfl
theorem GP{x:Hp}{L:List Hp}{h:Hp}(hx:ltH x h=true):sM (x::L) h=x::sM L h:=by
 unfold sM yA dW;rw[List.countP_cons_of_pos (p:=fun x=>ltH x h) hx];rfl
theorem MH{x:Hp}{L:List Hp}{h:Hp}(hup:eS ltH (x::L))(hx:ltH x h=false):sM (x::L) h=h::x::L:=by
 unfold sM dW;have h0:=(List.pairwise_cons.1 hup).1;rw[BI (fun y hy=>by
  rcases List.mem_cons.1 hy with rfl|hy
  ·exact hx
  ·cases e:ltH y h
   ·rfl
   ·rw[FM.tr _ _ _ (h0 y hy) e] at hx;cases hx)]
 rfl
theorem qF{L:List Hp}{h y:Hp}:y∈sM L h↔y∈L∨y=h:=by
 unfold sM dW;rw[List.mem_append,List.mem_cons];have:y∈L↔y∈L.take (yA L h)∨y∈L.drop (yA L h):=by rw[← List.mem_append,List.take_append_drop]
 rw[this];constructor
 ·rintro (h|h|h)
  ·exact .inl (.inl h)
  ·exact .inr h
  ·exact .inl (.inr h)
 ·rintro ((h|h)|h)
  ·exact .inl h
  ·exact .inr (.inr h)
  ·exact .inr (.inl h)
theorem lS:∀{L:List Hp} {h:Hp},eS ltH L→h ∉ L→eS ltH (sM L h)
 | [],h,_,_=>by rw[GO];exact List.pairwise_singleton _ _
 | x::L,h,hup,hn=>by
  have h0:=List.pairwise_cons.1 hup;cases hx:ltH x h with
  | true =>
   rw[GP hx];refine List.pairwise_cons.2 ⟨fun y hy=>?_,lS h0.2 (fun e=>hn (List.mem_cons_of_mem _ e))⟩;rcases qF.1 hy with h1|rfl
   ·exact h0.1 y h1
   ·exact hx
  | false =>
   rw[MH hup hx];have hhx:ltH h x=true:=by
    cases e:ltH h x with
    | true=>rfl
    | false=>exact(hn (by rw[FM.tri _ _ e hx];exact List.mem_cons_self ..)).elim
   refine List.pairwise_cons.2 ⟨fun y hy=>?_,hup⟩;rcases List.mem_cons.1 hy with rfl|hy
   ·exact hhx
   ·exact FM.tr _ _ _ hhx (h0.1 y hy)

theorem BJ(w:World)(base:Nat)(A:Option Addr)(c:Nat)(L:List Hp)(h:Hp)(own:w.ownsRow base 145 2 (.slice A L.length c) L.length (aQ L))(hup:eS ltH L)(hb:base≤w.heap.size)(hl:(L.length+1)*24≤140737488355328) :
  Calls Tryz.prog 106 #[.slice A L.length c,h.agg] w (qD w base (.slice A L.length c) (sM L h)):=by
 unfold sM;obtain⟨i,hi⟩:∃i,yA L h=i:=⟨_,rfl⟩;have hil:i≤L.length:=by rw[← hi];exact LW L h
 rw[hi];obtain⟨s0,s1⟩:=h;have k0:=Blk.new w 145 #[.string s0,.int .i64 s1];have u0:Below w.heap.size w (w.alloc (.cells #[.string s0,.int .i64 s1] 145)):=bR.alloc (Nat.le_refl _) _;have H:=aI6 (own.alloc (.cells #[.string s0,.int .i64 s1] 145)) k0 u0 hup (own.lt) hi;clear k0 u0 own hup hi;unfold Hp.agg;dsimp only
 go_enter Tryz.func106,Tryz.ntmps106;go_upto_region 1 with (fail);generalize w.alloc (.cells #[.string s0,.int .i64 s1] 145)=W0 at H ⊢;have q0:W0.cell? ⟨w.heap.size,0,none⟩=some (.string s0):=H.out.2.1.cell 0;have q1:W0.cell? ⟨w.heap.size,1,none⟩=some (.int .i64 s1):=H.out.2.1.cell 1;have hcon:=AN W0 A c L ⟨s0,s1⟩ (bS.of_own H.out.1) H.out.2.2.2.1 (by omega);rw[H.out.2.2.2.2.2] at hcon;unfold Hp.agg at hcon;dsimp only at hcon
 go_wp2_with fail;refine hcon.mono ?_;clear hcon q0 q1;rintro e w1 ⟨rfl,b1⟩;have k1:=H.out.2.1.upd (upF b1) id;have k2:=Blk.new w1 145 #[.string s0,.int .i64 s1];have o2:=(aA H.out.1 (upF b1) (fun _ _ h=>h)).alloc (.cells #[.string s0,.int .i64 s1] 145);have b2:Below w.heap.size w (w1.alloc (.cells #[.string s0,.int .i64 s1] 145)):=(tHn H.out.2.2.1 b1).alloc (by have:=H.out.2.2.1.size;have:=b1.size;omega) _;have q0:w1.cell? ⟨w.heap.size,0,none⟩=some (.string s0):=k1.cell 0;have q1:w1.cell? ⟨w.heap.size,1,none⟩=some (.int .i64 s1):=k1.cell 1;have hne:(Value.slice A L.length c).ownBlock≠some w1.heap.size:=fun e=>by
  have:=(H.out.2.2.2.2.1 _ e).2;have:=b2.size;have:=H.out.2.2.1.size;have:=b1.size;omega
 have hcon:=yL _ base A c L o2 w1.heap.size ⟨s0,s1⟩ k2 hne (by have:=b2.size;omega) i hil hl;have HB:=hIz b2;clear k1 k2 o2 b2 b1;go_wp2_with fail;refine hcon.mono ?_;clear hcon q0 q1;generalize w1.alloc (.cells #[.string s0,.int .i64 s1] 145)=W2 at HB ⊢;rintro e w3 ⟨A',c',rfl,o3,u3,p3⟩;have FIN:=hIz (show qD w base (.slice A L.length c) (dW L i ⟨s0,s1⟩) (.returned (.slice A' (dW L i ⟨s0,s1⟩).length c')) w3 from⟨A',c',rfl,o3,(Upd.of_below HB.out _).trans u3 (fun k hk=>.inl hk),fun k hk=>by
  rcases p3 k hk with h|h
  ·exact .inl h
  ·exact .inr (by have:=HB.out.size;omega)⟩)
 clear o3 u3 p3;go_wp2;go_ret;exact FIN.out
open Go.RowKit
def OfP(w:World)(N:List Txt)(E:List Ed)(e:Ending)(w':World):Prop:=
 (dJ N E=false∧e=.returned (.tuple #[eJ none 0 0 none 0 0,.int .i64 173])∧Below w.heap.size w w')∨(dJ N E=true∧GH w N E e w')

theorem MI(w:World)(A:Option Addr)(c:Nat)(B:Option Addr)(d:Nat)(N:List Txt)(E:List Ed)(h:xZ w A c B d N E)(hb:(N.length+E.length*2)*16≤140737488355328) :
  Calls Tryz.prog 101 #[.slice A N.length c,.slice B E.length d] w (OfP w N E):=by
 have k0:=Blk.new w 52 #[.slice none 0 0,.slice none 0 0];have u0:Below w.heap.size w (w.alloc (.cells #[.slice none 0 0,.slice none 0 0] 52)):=bR.alloc (Nat.le_refl _) _;have H:=aI3 (h.below u0) k0 u0;clear h k0 u0;obtain⟨b0,hb0⟩:∃b,dJ N E=b:=⟨_,rfl⟩;have HN:=hIz hb0;clear hb0;go_enter Tryz.func101,Tryz.ntmps101;go_upto_region 1 with (fail);generalize w.alloc (.cells #[.slice none 0 0,.slice none 0 0] 52)=W0 at H ⊢;have hz0:w.heap.size+1≤W0.heap.size:=H.out.2.1.lt;go_wp2_with fail;refine(AJ W0 A c B d N E H.out.1).mono ?_;rintro e w1 ⟨rfl,b1⟩;rw[HN.out];have k1:=H.out.2.1.upd (upF b1) id;have fin:∀w8:World,Blk w8 w.heap.size 52 #[.slice none 0 0,.slice none 0 0]→∀v0 v1:Value,Blk ((w8.setCell ⟨w.heap.size,0,none⟩ v0).setCell ⟨w.heap.size,1,none⟩ v1) w.heap.size 52 #[v0,v1]∧Upd (fun q=>q=w.heap.size) w8 ((w8.setCell ⟨w.heap.size,0,none⟩ v0).setCell ⟨w.heap.size,1,none⟩ v1):=fun w8 k8 v0 v1 =>
  ⟨(k8.set 0 v0).set 1 v1,((Upd.refl (fun q=>q=w.heap.size) w8).setCell (p:=⟨w.heap.size,0,none⟩) (.inl rfl) v0).setCell (p:=⟨w.heap.size,1,none⟩) (.inl rfl) v1⟩
 have H1:=aI3 (H.out.1.below b1) k1 (tHn H.out.2.2 b1);have FN:=hIz fin;have z1:=b1.size;clear k1 b1 fin;cases b0
 ·have c0:w1.cell? ⟨w.heap.size,0,none⟩=some (.slice none 0 0):=H1.out.2.1.cell 0;have c1':w1.cell? ⟨w.heap.size,1,none⟩=some (.slice none 0 0):=H1.out.2.1.cell 1;have f0:=H1.out.2.1.frozen 0;have f1:=H1.out.2.1.frozen 1;obtain⟨kF,uF⟩:=FN.out _ H1.out.2.1 (.slice none 0 0) (.slice none 0 0);have e0:=kF.cell 0;have e1:=kF.cell 1;simp only[List.getElem?_toArray,List.getElem?_cons_succ,List.getElem?_cons_zero] at e0 e1
  have FIN:=hIz (show OfP w N E (.returned (.tuple #[eJ none 0 0 none 0 0,.int .i64 173])) _ from .inl ⟨HN.out,rfl,H1.out.2.2.trans (uF.below (fun q _ e=>by omega) H1.out.2.2.size)⟩);clear kF uF;go_wp2;refine bodyPost_ret (v:=.tuple #[eJ none 0 0 none 0 0,.int .i64 173]) (by simp[results,Tryz.f101,go_sem,eJ,e0,e1]) rfl FIN.out
 ·go_wp2_with fail;refine(GJ w1 A c B d N E H1.out.1 (mI.of HN.out) hb).mono ?_;rintro e w2 (⟨hc,A2,c2,B2,d2,rfl,oT,oE,b2⟩|⟨hc,rfl,b2⟩)
  ·have k2:=H1.out.2.1.upd (upF b2) id;have c0:w2.cell? ⟨w.heap.size,0,none⟩=some (.slice none 0 0):=k2.cell 0;have c1':w2.cell? ⟨w.heap.size,1,none⟩=some (.slice none 0 0):=k2.cell 1;have f0:=k2.frozen 0;have f1:=k2.frozen 1;obtain⟨n,hn⟩:∃n,(gN N E).length=n:=⟨_,rfl⟩;obtain⟨m,hm⟩:∃m,(gE E).length=m:=⟨_,rfl⟩;obtain⟨kF,uF⟩:=FN.out _ k2 (.slice A2 n c2) (.slice B2 m d2);have e0:=kF.cell 0;have e1:=kF.cell 1;simp only[List.getElem?_toArray,List.getElem?_cons_succ,List.getElem?_cons_zero] at e0 e1
   have bw:=tHn H1.out.2.2 b2;have FIN:=hIz (show OfP w N E (.returned (.tuple #[eJ A2 n c2 B2 m d2,.int .i64 0])) _ from .inr ⟨HN.out,.inl ⟨hc,A2,c2,B2,d2,by rw[hn,hm],bC (aA oT uF (fun q hq e=>by have:=(oT.lt q hq).1;omega)) (fun q hq=>by have:=(oT.lt q hq).1;omega),bC (aA oE uF (fun q hq e=>by have:=(oE.lt q hq).1;omega)) (fun q hq=>by have:=(oE.lt q hq).1;omega),bw.trans (uF.below (fun q _ e=>by omega) bw.size)⟩⟩);rw[hn,hm];unfold eJ;clear kF uF oT oE b2 bw k2 hc hn hm;go_wp2;refine bodyPost_ret (v:=.tuple #[eJ A2 n c2 B2 m d2,.int .i64 0]) (by simp[results,Tryz.f101,go_sem,eJ,e0,e1]) rfl FIN.out
  ·have k2:=H1.out.2.1.upd (upF b2) id;have c0:w2.cell? ⟨w.heap.size,0,none⟩=some (.slice none 0 0):=k2.cell 0;have c1':w2.cell? ⟨w.heap.size,1,none⟩=some (.slice none 0 0):=k2.cell 1;have f0:=k2.frozen 0;have f1:=k2.frozen 1;obtain⟨cp,hcp⟩:∃cp,eE (gN N E) (gE E)=cp:=⟨_,rfl⟩;obtain⟨kF,uF⟩:=FN.out _ k2 (.slice none 0 0) (.slice none 0 0);have e0:=kF.cell 0;have e1:=kF.cell 1;simp only[List.getElem?_toArray,List.getElem?_cons_succ,List.getElem?_cons_zero] at e0 e1
   have bw:=tHn H1.out.2.2 b2;have FIN:=hIz (show OfP w N E (.returned (.tuple #[eJ none 0 0 none 0 0,.int .i64 cp])) _ from .inr ⟨HN.out,.inr ⟨hc,by rw[hcp],bw.trans (uF.below (fun q _ e=>by omega) bw.size)⟩⟩);rw[hcp];unfold eJ;clear kF uF b2 bw k2 hc hcp;go_wp2;refine bodyPost_ret (v:=.tuple #[eJ none 0 0 none 0 0,.int .i64 cp]) (by simp[results,Tryz.f101,go_sem,eJ,e0,e1]) rfl FIN.out
open Go.RowKit
def GQ(N:List Txt)(E:List Ed)(N':List Txt)(E':List Ed):Bool:=decide (N=N')&&decide (E=E')
open Go.RowKit
theorem mN{α β:Type}[DecidableEq α](f:α→List β):∀{L M:List α},L.Nodup→(∀x∈L,x∈M)→(L.flatMap f).length≤(M.flatMap f).length
 | [],M,_,_=>by simp
 | a::L,M,hd,hs=>by
  obtain⟨h1,h2⟩:=List.nodup_cons.1 hd;have hp:=List.perm_cons_erase (hs a (by simp));have ih:=mN f (L:=L) (M:=M.erase a) h2 (fun x hx=>by
   have hne:x≠a:=by rintro rfl;exact h1 hx
   exact(List.mem_erase_of_ne hne).2 (hs x (by simp[hx])))
  have hl:=(hp.flatMap_right f).length_eq;rw[List.flatMap_cons,List.length_append] at hl ⊢;omega
theorem fS{α:Type}[DecidableEq α]{L M:List α}(hd:L.Nodup)(hs:∀x∈L,x∈M):L.length≤M.length:=by
 have:=mN (fun x=>[x]) hd hs;simpa using this
theorem eS.nodup{α:Type}{lt:α→α→Bool}(hs:Sto lt){l:List α}(h:eS lt l):l.Nodup:=List.Pairwise.imp (fun {_a _b} h=>hs.ne h) h
theorem GR{E:List Ed}{s:Txt}:s∈eV E E.length↔∃x∈E,s=x.fr∨s=x.to:=by
 rw[oS];constructor
 ·rintro⟨i,x,_,hx,h⟩;exact⟨x,mG hx,h⟩
 ·rintro⟨x,hx,h⟩;obtain⟨i,hi,e⟩:=List.getElem_of_mem hx;exact⟨i,x,hi,by rw[gEz hi,e],h⟩
theorem wK{N:List Txt}{E:List Ed}{s:Txt}:s∈dR N E↔s∈N∧¬∃x∈E,s=x.fr∨s=x.to:=by
 unfold dR;rw[List.mem_filter,← GR,← bV (s:=s) (N:=eV E E.length)];simp
theorem BK(s:Txt):(fE s).length=s.size+3:=by simp[fE,OF]
theorem BL(x:Ed):(kD x).length=x.fr.size+x.lb.size+x.to.size+5:=by simp[kD,OF];omega
theorem oZ:∀(D:List Ed),(∀x∈D,1≤x.lb.size)→((D.flatMap pZ).flatMap fE).length≤(D.flatMap kD).length
 | [],_=>by simp
 | x::D,h=>by
  have ih:=oZ D (fun y hy=>h y (by simp[hy]));have h1:=h x (by simp);simp only[List.flatMap_cons,List.flatMap_append,List.length_append,BL]
  simp only[pZ,List.flatMap_cons,List.flatMap_nil,List.append_nil,List.length_append,BK]
  omega
theorem GS{N N':List Txt}{E E':List Ed}(hN:N'.Nodup)(hE:E.Nodup)(hE':E'.Nodup)(sN:∀s∈N',s∈N)(sE:∀x∈E',x∈E)(hl:∀x∈E,1≤x.lb.size) :
  (oL N' E').length≤(oL N E).length:=by
 have h1:(dR N' E').Nodup:=List.Nodup.sublist List.filter_sublist hN;have h2:((dR N' E').flatMap fE).length≤((dR N E++(E.filter fun x=>!decide (x∈E')).flatMap pZ).flatMap fE).length:=by
  refine mN fE h1 (fun s hs=>?_);obtain⟨m1,m2⟩:=wK.1 hs;rw[List.mem_append];by_cases h:∃x∈E,s=x.fr∨s=x.to
  ·obtain⟨x,hx,hsx⟩:=h;refine .inr (List.mem_flatMap.2 ⟨x,List.mem_filter.2 ⟨hx,?_⟩,?_⟩)
   ·simp only[Bool.not_eq_true',decide_eq_false_iff_not]
    intro hx';exact m2 ⟨x,hx',hsx⟩
   ·simp[pZ];exact hsx
  ·exact .inl (wK.2 ⟨sN s m1,h⟩)
 have h3:=oZ (E.filter fun x=>!decide (x∈E')) (fun x hx=>hl x (List.mem_filter.1 hx).1);have h4:((E'++E.filter fun x=>!decide (x∈E')).flatMap kD).length≤(E.flatMap kD).length:=by
  refine mN kD ?_ (fun x hx=>?_)
  ·rw[List.nodup_append];refine⟨hE',List.Nodup.sublist List.filter_sublist hE,fun a ha b hb=>?_⟩;rintro rfl;have:=(List.mem_filter.1 hb).2;simp[ha] at this
  ·rcases List.mem_append.1 hx with hx|hx
   ·exact sE x hx
   ·exact(List.mem_filter.1 hx).1
 unfold oL;simp only[List.flatMap_append,List.length_append] at h2 h4 ⊢
 omega
theorem BM{E:List Ed}{s:Txt}:s∈lbs E↔∃x∈E,x.lb=s:=List.mem_map
theorem GT{N N':List Txt}{E E':List Ed}(hN:N'.Nodup)(hE:E.Nodup)(hE':E'.Nodup)(sN:∀s∈N',s∈N)(sE:∀x∈E',x∈E)(hl:∀x∈E,1≤x.lb.size)(h:eE N E=0):eE N' E'=0:=by
 unfold eE at h ⊢;have h1:=fS hN sN;have h2:(lP ltT (lbs E')).length≤(lP ltT (lbs E)).length:=fS ((cD iE _).up.nodup iE) (fun s hs=>by
  obtain⟨x,hx,e⟩:=BM.1 (((cD iE _).mem s).1 hs);exact((cD iE _).mem s).2 (BM.2 ⟨x,sE x hx,e⟩))
 have h3:=fS hE' sE;have h4:=GS hN hE hE' sN sE hl;split at h
 ·omega
 split at h
 ·omega
 split at h
 ·omega
 split at h
 ·omega
 rw[if_neg (by omega),if_neg (by omega),if_neg (by omega),if_neg (by omega)]

def ofI(N:List Txt)(E:List Ed):Int:=if dJ N E=false then 173 else eE (gN N E) (gE E)
theorem fT{N:List Txt}{E:List Ed}:dJ N E=true↔(∀s∈N,fB s=true)∧∀x∈E,fB x.fr=true∧kL x.lb=true∧fB x.to=true:=by
 unfold dJ gH;simp[List.all_eq_true]
theorem kS{N:List Txt}{E:List Ed}{s:Txt}:s∈gN N E↔s∈N∨∃x∈E,s=x.fr∨s=x.to:=((cD iE _).mem s).trans qC
theorem gX{E:List Ed}{x:Ed}:x∈gE E↔x∈E:=(cD uM E).mem x
theorem wL(N:List Txt)(E:List Ed):(gN N E).Nodup:=(cD iE _).up.nodup iE
theorem qG(E:List Ed):(gE E).Nodup:=(cD uM _).up.nodup uM
theorem kT{N:List Txt}{E:List Ed}(h:ofI N E=0):dJ N E=true:=by
 unfold ofI at h;split at h
 ·cases h
 ·rename_i h1;simpa using h1
theorem qH{N:List Txt}{E:List Ed}(h:ofI N E=0):eE (gN N E) (gE E)=0:=by
 unfold ofI at h;split at h
 ·cases h
 ·exact h
theorem OY{N:List Txt}{E:List Ed}(h:dJ N E=true):∀x∈E,1≤x.lb.size:=fun x hx=>(fG (mW ((fT.1 h).2 x hx).2.1)).1
theorem BN{N N':List Txt}{E E':List Ed}(sN:∀s∈N',s∈N∨∃x∈E,s=x.fr∨s=x.to)(sE:∀x∈E',x∈E)(h:ofI N E=0):ofI N' E'=0:=by
 have hn:=kT h;have hn':dJ N' E'=true:=by
  rw[fT] at hn ⊢;refine⟨fun s hs=>?_,fun x hx=>hn.2 x (sE x hx)⟩;rcases sN s hs with h1|⟨x,hx,rfl|rfl⟩
  ·exact hn.1 s h1
  ·exact(hn.2 x hx).1
  ·exact(hn.2 x hx).2.2
 unfold ofI;rw[hn'];simp only[Bool.true_eq_false,if_false]
 refine GT (wL _ _) (qG _) (qG _) (fun s hs=>?_) (fun x hx=>gX.2 (sE x (gX.1 hx))) (fun x hx=>OY hn x (gX.1 hx)) (qH h);rw[kS] at hs ⊢;rcases hs with h1|⟨x,hx,h1⟩
 ·exact sN s h1
 ·exact .inr ⟨x,sE x hx,h1⟩
theorem BO{N N':List Txt}{E E':List Ed}(h:∀s,(s∈N∨∃x∈E,s=x.fr∨s=x.to)↔(s∈N'∨∃x∈E',s=x.fr∨s=x.to)):gN N E=gN N' E':=
 (cD iE _).uniq iE (cD iE _) (fun s=>qC.trans ((h s).trans qC.symm))
theorem BP{E E':List Ed}(h:∀x,x∈E↔x∈E'):gE E=gE E':=(cD uM _).uniq uM (cD uM _) h
theorem wM{N N':List Txt}{E E':List Ed}(h:∀s,(s∈N∨∃x∈E,s=x.fr∨s=x.to)↔(s∈N'∨∃x∈E',s=x.fr∨s=x.to))(k:∀x,x∈E↔x∈E')
  (hm:∀s∈N,s∈N'∨∃x∈E',s=x.fr∨s=x.to) (hm':∀s∈N',s∈N∨∃x∈E,s=x.fr∨s=x.to):ofI N E=ofI N' E':=by
 have h1:dJ N E=dJ N' E':=by
  rw[Bool.eq_iff_iff,fT,fT];constructor
  ·rintro⟨a,b⟩;refine⟨fun s hs=>?_,fun x hx=>b x ((k x).2 hx)⟩;rcases hm' s hs with h1|⟨x,hx,rfl|rfl⟩
   ·exact a s h1
   ·exact(b x hx).1
   ·exact(b x hx).2.2
  ·rintro⟨a,b⟩;refine⟨fun s hs=>?_,fun x hx=>b x ((k x).1 hx)⟩;rcases hm s hs with h1|⟨x,hx,rfl|rfl⟩
   ·exact a s h1
   ·exact(b x hx).1
   ·exact(b x hx).2.2
 unfold ofI;rw[h1,BO h,BP k]

structure Gr where
 N:List Txt
 X:List Ed
structure GOk(G:Gr):Prop where
 nd:G.N.Nodup
 xd:G.X.Nodup
 ends:∀x∈G.X,x.fr∈G.N∧x.to∈G.N
 may:ofI G.N G.X=0
def cQ(N:List Txt)(s:Txt):List Txt:=if inB s N=true then N else N++[s]
theorem dE{N:List Txt}{s t:Txt}:t∈cQ N s↔t∈N∨t=s:=by
 unfold cQ;split
 ·rename_i h
  constructor
  ·exact .inl
  ·rintro (h1|rfl)
   ·exact h1
   ·exact bV.1 h
 ·simp
theorem fU{N:List Txt}(h:N.Nodup)(s:Txt):(cQ N s).Nodup:=by
 unfold cQ;split
 ·exact h
 ·rename_i hs
  rw[List.nodup_append];refine⟨h,by simp,fun a ha b hb=>?_⟩;rw[List.mem_singleton] at hb;subst hb;rintro rfl;exact hs (bV.2 ha)
def cH(G:Gr)(s:Txt):Gr × Bool × Int:=
 if inB s G.N=true then (G,false,0) else if ofI (G.N++[s]) G.X=0 then (⟨G.N++[s],G.X⟩,true,0) else (G,false,ofI (G.N++[s]) G.X)
def aO(G:Gr)(x:Ed):Gr × Bool × Int:=
 if x∈G.X then (G,false,0) else if ofI G.N (G.X++[x])=0 then (⟨cQ (cQ G.N x.fr) x.to,G.X++[x]⟩,true,0) else (G,false,ofI G.N (G.X++[x]))
theorem GOk.new:GOk ⟨[],[]⟩:=⟨by simp,by simp,by simp,by
 have h1:gE []=[]:=by
  have h:∀x:Ed,x ∉ gE []:=fun x hx=>by simpa using gX.1 hx
  exact List.eq_nil_iff_forall_not_mem.2 h
 have h2:gN [] []=[]:=by
  have h:∀x:Txt,x ∉ gN [] []:=fun x hx=>by simpa using kS.1 hx
  exact List.eq_nil_iff_forall_not_mem.2 h
 have h3:lP ltT (lbs [])=[]:=by
  have h:∀x:Txt,x ∉ lP ltT (lbs []):=fun x hx=>by simpa[lbs] using ((cD iE _).mem x).1 hx
  exact List.eq_nil_iff_forall_not_mem.2 h
 simp[ofI,dJ,h1,h2,eE,h3,oL,dR]⟩
theorem GOk.node{G:Gr}(h:GOk G)(s:Txt):GOk (cH G s).1:=by
 unfold cH;split
 ·exact h
 split
 ·rename_i h1 h2
  refine⟨?_,h.xd,fun x hx=>⟨List.mem_append.2 (.inl (h.ends x hx).1),List.mem_append.2 (.inl (h.ends x hx).2)⟩,h2⟩;have:=fU h.nd s;unfold cQ at this;rwa [if_neg h1] at this
 ·exact h
theorem GOk.edge{G:Gr}(h:GOk G)(x:Ed):GOk (aO G x).1:=by
 unfold aO;split
 ·exact h
 split
 ·rename_i h1 h2
  refine⟨fU (fU h.nd _) _,?_,?_,?_⟩
  ·rw[List.nodup_append];refine⟨h.xd,by simp,fun a ha b hb=>?_⟩;rw[List.mem_singleton] at hb;subst hb;rintro rfl;exact h1 ha
  ·intro y hy;simp only[dE]
   rcases List.mem_append.1 hy with hy|hy
   ·exact⟨.inl (.inl (h.ends y hy).1),.inl (.inl (h.ends y hy).2)⟩
   ·rw[List.mem_singleton] at hy;subst hy;exact⟨.inl (.inr rfl),.inr rfl⟩
  ·refine BN (N:=G.N) (E:=G.X++[x]) (fun s hs=>?_) (fun _ hy=>hy) h2;simp only[dE] at hs
   rcases hs with (hs|rfl)|rfl
   ·exact .inl hs
   ·exact .inr ⟨x,by simp,.inl rfl⟩
   ·exact .inr ⟨x,by simp,.inr rfl⟩
 ·exact h
def eG(G:Gr):List Txt:=gN G.N G.X
def dX(G:Gr):List Ed:=gE G.X
theorem mO{G:Gr}(h:GOk G){s:Txt}:s∈eG G↔s∈G.N:=by
 unfold eG;rw[kS];constructor
 ·rintro (h1|⟨x,hx,rfl|rfl⟩)
  ·exact h1
  ·exact(h.ends x hx).1
  ·exact(h.ends x hx).2
 ·exact .inl
theorem MJ{G:Gr}(N:List Txt)(E:List Ed):ofI (eG G++N) (dX G++E)=ofI (G.N++N) (G.X++E):=by
 have e:∀x,x∈dX G++E↔x∈G.X++E:=fun x=>by rw[List.mem_append,List.mem_append,dX,gX]
 have m1:∀s∈eG G++N,s∈G.N++N∨∃x∈G.X++E,s=x.fr∨s=x.to:=fun s hs=>by
  rcases List.mem_append.1 hs with hs|hs
  ·rcases kS.1 hs with h1|⟨x,hx,h1⟩
   ·exact .inl (List.mem_append.2 (.inl h1))
   ·exact .inr ⟨x,List.mem_append.2 (.inl hx),h1⟩
  ·exact .inl (List.mem_append.2 (.inr hs))
 have m2:∀s∈G.N++N,s∈eG G++N∨∃x∈dX G++E,s=x.fr∨s=x.to:=fun s hs=>by
  rcases List.mem_append.1 hs with hs|hs
  ·exact .inl (List.mem_append.2 (.inl (kS.2 (.inl hs))))
  ·exact .inl (List.mem_append.2 (.inr hs))
 refine wM (fun s=>?_) e m1 m2;constructor
 ·rintro (h|⟨x,hx,h⟩)
  ·exact m1 s h
  ·exact .inr ⟨x,(e x).1 hx,h⟩
 ·rintro (h|⟨x,hx,h⟩)
  ·exact m2 s h
  ·exact .inr ⟨x,(e x).2 hx,h⟩
open Go
section
variable {P:Program} {ops:Array Oper} {Q:Exit→Act→World→Prop} {md:Region.Mode} {S:World→Prop} {n:Nat}
theorem jW{rid:Nat}{a:Act}{w:World}{l:List Oper}(S:World→Prop)(hm:P.follows .mixedOrders=true)(_hsel:Region.noSelect l.toArray=true)
  (_hS:S w.drew) (h:bH P .any l.toArray Q S l.toArray.size l.length (Array.replicate l.toArray.size false) a w.drew):(Code.region rid l.toArray true).wp P Q a w:=by
 refine wp_region_any hm (jE (S:=S) (n:=l.toArray.size) _ _ _ _ ?_);simpa using h
theorem sO{f m:Nat}{a:Act}{w:World}(h:dL md ops (Array.replicate m false)→bH P md ops Q S n f (Array.replicate m false) a w):bH P md ops Q S n f (Array.replicate m false) a w:=h (jD m)
theorem wN{i f:Nat}{listed:Array Bool}{a:Act}{w:World}{oi:Oper}{v:Value}(hi:ops[i]?=some oi)(hB:(Region.noSelect ops&&Region.free md ops listed i&&(Region.ready md ops listed).contains i)=true)
  (hd:dL md ops listed) (hn:ops.size≤n) (hQ:∀c a d v w,Q (.panic c) (Act.put a d v) w→Q (.panic c) a w) (hS:S w)
  (hw:Region.wanted oi (yielded ops a.tmps)=true) (hy:∀w,S w→(execOp a.eval oi).run P w=.ok (.value v) w)
  (h:dL md ops (listed.setIfInBounds i true)→bH P md ops Q S n f (listed.setIfInBounds i true) (a.put oi.dst v) w):bH P md ops Q S n (f+1) listed a w:=by
 simp only[Bool.and_eq_true] at hB
 obtain⟨⟨h1,h2⟩,h3⟩:=hB;have hr:i∈Region.ready md ops listed:=by simpa using h3
 exact mB (f:=ops.size) hi (Region.noSelect_spec h1) (fun c a w=>hQ c a _ _ w) (.inl hn) f listed a w (Region.free_spec hi h2) hd hr (.inl ⟨hw,hy⟩) hS (h (hd.set hr))
theorem nJ{f:Nat}{listed:Array Bool}{a:Act}{w:World}{L:List Nat}(hd:dL md ops listed)(hL:Region.ready md ops listed=L)(hne:L≠[])
  (h:∀i∈L,(dL md ops (listed.setIfInBounds i true))→wpOp P ops Q i (fun a' w'=>(i≠n→S w')∧bH P md ops Q S n f (listed.setIfInBounds i true) a' w') a w):bH P md ops Q S n (f+1) listed a w:=
 FE hL hne (fun i hi=>h i hi (hd.set (by rw[hL];exact hi)))
end
theorem aC{P:Program}{ops:Array Oper}{Q:Exit→Act→World→Prop}{S:World→Prop}{a:Act}{w:World}{oi:Oper}{v:Value}{md:Region.Mode}{n f:Nat}{listed l':Array Bool}{a':Act}(i:Nat)(hi:ops[i]?=some oi)(hd:dL md ops listed)(hS:S w)(h:dL md ops l'→bH P md ops Q S n f l' a' w)(hn:ops.size≤n:=by exact Nat.le_refl _)(hB:(Region.noSelect ops&&Region.free md ops listed i&&(Region.ready md ops listed).contains i)=true:=by kernel_rfl)(hQ:∀c a d v w,Q (.panic c) (Act.put a d v) w→Q (.panic c) a w:=by intro _ _ d _ _ h;cases d <;> exact h)(hw:Region.wanted oi (yielded ops a.tmps)=true:=by first | with_reducible rfl | kernel_rfl)(hy:∀w,S w→(execOp a.eval oi).run P w=.ok (.value v) w:=by intro wS hS;(try dsimp only at hS);go_split_ands;go_simp;(try with_reducible rfl);done)(e:a.put oi.dst v=a':=by(try simp only[Act.put,gA,gS,gZ,sA,sZ,sS]);first | done | exact rfl)(e2:listed.setIfInBounds i true=l':=by(try simp only[Act.put,gA,gS,gZ,sA,sZ,sS]);first | done | exact rfl):bH P md ops Q S n (f+1) listed a w:=by subst e e2;exact wN hi hB hd hn hQ hS hw hy h
theorem aH{P:Program}{ops:Array Oper}{Q:Exit→Act→World→Prop}{S:World→Prop}{md:Region.Mode}{n:Nat}{f:Nat}{listed:Array Bool}{a:Act}{w:World}(hd:dL md ops listed)(i0:Nat)(h0:dL md ops (listed.setIfInBounds i0 true)→wpOp P ops Q i0 (fun a' w'=>(i0≠n→S w')∧bH P md ops Q S n f (listed.setIfInBounds i0 true) a' w') a w)(hL:Region.ready md ops listed=[i0]:=by kernel_rfl):bH P md ops Q S n (f+1) listed a w:=by
  refine nJ hd hL (by simp) (fun i hi hd2=>?_);obtain rfl:=List.mem_singleton.1 hi;exact h0 hd2
theorem cB{P:Program}{ops:Array Oper}{Q:Exit→Act→World→Prop}{S:World→Prop}{md:Region.Mode}{n:Nat}{f:Nat}{listed:Array Bool}{a:Act}{w:World}(hd:dL md ops listed)(i0 i1:Nat)(h0:dL md ops (listed.setIfInBounds i0 true)→wpOp P ops Q i0 (fun a' w'=>(i0≠n→S w')∧bH P md ops Q S n f (listed.setIfInBounds i0 true) a' w') a w)(h1:dL md ops (listed.setIfInBounds i1 true)→wpOp P ops Q i1 (fun a' w'=>(i1≠n→S w')∧bH P md ops Q S n f (listed.setIfInBounds i1 true) a' w') a w)(hL:Region.ready md ops listed=[i0,i1]:=by kernel_rfl):bH P md ops Q S n (f+1) listed a w:=by
  refine nJ hd hL (by simp) (fun i hi hd2=>?_);simp only[List.mem_cons,List.not_mem_nil,or_false] at hi
  rcases hi with rfl|rfl
  exact h0 hd2;exact h1 hd2
theorem qI{P:Program}{ops:Array Oper}{Q:Exit→Act→World→Prop}{S:World→Prop}{md:Region.Mode}{n:Nat}{f:Nat}{listed:Array Bool}{a:Act}{w:World}(hd:dL md ops listed)(i0 i1 i2:Nat)(h0:dL md ops (listed.setIfInBounds i0 true)→wpOp P ops Q i0 (fun a' w'=>(i0≠n→S w')∧bH P md ops Q S n f (listed.setIfInBounds i0 true) a' w') a w)(h1:dL md ops (listed.setIfInBounds i1 true)→wpOp P ops Q i1 (fun a' w'=>(i1≠n→S w')∧bH P md ops Q S n f (listed.setIfInBounds i1 true) a' w') a w)(h2:dL md ops (listed.setIfInBounds i2 true)→wpOp P ops Q i2 (fun a' w'=>(i2≠n→S w')∧bH P md ops Q S n f (listed.setIfInBounds i2 true) a' w') a w)(hL:Region.ready md ops listed=[i0,i1,i2]:=by kernel_rfl):bH P md ops Q S n (f+1) listed a w:=by
  refine nJ hd hL (by simp) (fun i hi hd2=>?_);simp only[List.mem_cons,List.not_mem_nil,or_false] at hi
  rcases hi with rfl|rfl|rfl
  exact h0 hd2;exact h1 hd2;exact h2 hd2
theorem QY{P:Program}{ops:Array Oper}{Q:Exit→Act→World→Prop}{S:World→Prop}{md:Region.Mode}{n:Nat}{f:Nat}{listed:Array Bool}{a:Act}{w:World}(hd:dL md ops listed)(i0 i1 i2 i3:Nat)(h0:dL md ops (listed.setIfInBounds i0 true)→wpOp P ops Q i0 (fun a' w'=>(i0≠n→S w')∧bH P md ops Q S n f (listed.setIfInBounds i0 true) a' w') a w)(h1:dL md ops (listed.setIfInBounds i1 true)→wpOp P ops Q i1 (fun a' w'=>(i1≠n→S w')∧bH P md ops Q S n f (listed.setIfInBounds i1 true) a' w') a w)(h2:dL md ops (listed.setIfInBounds i2 true)→wpOp P ops Q i2 (fun a' w'=>(i2≠n→S w')∧bH P md ops Q S n f (listed.setIfInBounds i2 true) a' w') a w)(h3:dL md ops (listed.setIfInBounds i3 true)→wpOp P ops Q i3 (fun a' w'=>(i3≠n→S w')∧bH P md ops Q S n f (listed.setIfInBounds i3 true) a' w') a w)(hL:Region.ready md ops listed=[i0,i1,i2,i3]:=by kernel_rfl):bH P md ops Q S n (f+1) listed a w:=by
  refine nJ hd hL (by simp) (fun i hi hd2=>?_);simp only[List.mem_cons,List.not_mem_nil,or_false] at hi
  rcases hi with rfl|rfl|rfl|rfl
  exact h0 hd2;exact h1 hd2;exact h2 hd2;exact h3 hd2
theorem QZ{P:Program}{ops:Array Oper}{Q:Exit→Act→World→Prop}{S:World→Prop}{md:Region.Mode}{n:Nat}{f:Nat}{listed:Array Bool}{a:Act}{w:World}(hd:dL md ops listed)(i0 i1 i2 i3 i4:Nat)(h0:dL md ops (listed.setIfInBounds i0 true)→wpOp P ops Q i0 (fun a' w'=>(i0≠n→S w')∧bH P md ops Q S n f (listed.setIfInBounds i0 true) a' w') a w)(h1:dL md ops (listed.setIfInBounds i1 true)→wpOp P ops Q i1 (fun a' w'=>(i1≠n→S w')∧bH P md ops Q S n f (listed.setIfInBounds i1 true) a' w') a w)(h2:dL md ops (listed.setIfInBounds i2 true)→wpOp P ops Q i2 (fun a' w'=>(i2≠n→S w')∧bH P md ops Q S n f (listed.setIfInBounds i2 true) a' w') a w)(h3:dL md ops (listed.setIfInBounds i3 true)→wpOp P ops Q i3 (fun a' w'=>(i3≠n→S w')∧bH P md ops Q S n f (listed.setIfInBounds i3 true) a' w') a w)(h4:dL md ops (listed.setIfInBounds i4 true)→wpOp P ops Q i4 (fun a' w'=>(i4≠n→S w')∧bH P md ops Q S n f (listed.setIfInBounds i4 true) a' w') a w)(hL:Region.ready md ops listed=[i0,i1,i2,i3,i4]:=by kernel_rfl):bH P md ops Q S n (f+1) listed a w:=by
  refine nJ hd hL (by simp) (fun i hi hd2=>?_);simp only[List.mem_cons,List.not_mem_nil,or_false] at hi
  rcases hi with rfl|rfl|rfl|rfl|rfl
  exact h0 hd2;exact h1 hd2;exact h2 hd2;exact h3 hd2;exact h4 hd2
open Go
section
variable {P:Program} {ops:Array Oper} {Q:Exit→Act→World→Prop} {md:Region.Mode} {S:World→Prop} {late:Nat→Bool}
def aN(n i:Nat):Bool:=decide (n≤i)
def bK(P:Program)(md:Region.Mode)(ops:Array Oper)(Q:Exit→Act→World→Prop)(S:World→Prop)(late:Nat→Bool):Nat→Array Bool→Act→World→Prop
 | 0,listed,a,w=>Region.ready md ops listed=[]∧Q .normal a w
 | fuel+1,listed,a,w =>
  (Region.ready md ops listed=[]→Q .normal a w) ∧
  ∀i∈Region.ready md ops listed,wpOp P ops Q i (fun a' w'=>(late i=false→S w→S w')∧bK P md ops Q S late fuel (listed.setIfInBounds i true) a' w') a w
theorem pB:∀(fuel:Nat) (listed:Array Bool) (a:Act) (w:World),bK P md ops Q S late fuel listed a w→wpAny P md ops Q fuel listed a w
 | 0,_,_,_,h=>h
 | fuel+1,_,_,_,h=>⟨h.1,fun i hi=>wpOp_mono (fun a' w' h'=>pB fuel _ a' w' h'.2) (h.2 i hi)⟩
theorem sP{i f:Nat}{oi:Oper}{v:Value}(hi:ops[i]?=some oi)(hsel:∀(j:Nat) (o:Oper) cs b,ops[j]?=some o→o.op≠.select cs b)
  (hQ:∀c a w,Q (.panic c) (a.put oi.dst v) w→Q (.panic c) a w) (hpn:∀j,j<ops.size→late j=true→i∈rW md ops f [j]) :
  ∀(fuel:Nat) (listed:Array Bool) (a:Act) (w:World),
   (∀j oj,ops[j]?=some oj→j≠i→listed.getD j true=false→(∀e∈oj.after,Region.binds md e=true→e.on≠i)→oi.apart ops oj=true) →
   dL md ops listed→i∈Region.ready md ops listed→YieldsIf P ops S oi v a→S w →
   bK P md ops Q S late fuel (listed.setIfInBounds i true) (a.put oi.dst v) w→bK P md ops Q S late (fuel+1) listed a w:=by
 intro fuel;induction fuel with
 | zero =>
  intro listed a w _ _ hr hy hS H;refine⟨fun h=>(by rw[h] at hr;cases hr),fun j hj=>?_⟩;by_cases hji:j=i
  ·subst hji;exact hy.wpOp hi hS ⟨fun _ h=>h,H⟩
  ·have:=ready_mono hj hji;rw[H.1] at this;cases this
 | succ fuel ih =>
  intro listed a w hfree hd hr hy hS H;refine⟨fun h=>(by rw[h] at hr;cases hr),fun j hj=>?_⟩;by_cases hji:j=i
  ·subst hji;exact hy.wpOp hi hS ⟨fun _ h=>h,H⟩
  ·have h1:=H.2 j (ready_mono hj hji);obtain⟨hjun,oj,hoj,hall⟩:=mem_ready.1 hj;have hiun:listed.getD i false=false:=by
    have h0:=(mem_ready.1 hr).1;rcases Nat.lt_or_ge i listed.size with h' | h'
    ·simp[h'] at h0 ⊢;exact h0
    ·simp[Array.getElem?_eq_none h']
   have hnot:∀e∈oj.after,Region.binds md e=true→e.on≠i:=fun e he hb heq=>by
    have h1:=hall e he hb;rw[heq,hiun] at h1;cases h1
   have hjn:late j=false:=by
    cases hp:late j with
    | false=>rfl
    | true =>
     exfalso
     have hp:=hpn j (Array.getElem?_eq_some_iff.1 hoj).1 hp;have hd':=hd.set hj;have hl:∀k∈[j],(listed.setIfInBounds j true).getD k false=true:=by
      intro k hk;obtain rfl:=List.mem_singleton.1 hk;have hks:k<listed.size:=by
       rcases Nat.lt_or_ge k listed.size with h' | h'
       ·exact h'
       ·simp[Array.getElem?_eq_none h'] at hjun
      simp[hks]
     have:=iF hd' f [j] hl i hp;rw[getD_set_ne false hji,hiun] at this;cases this
   have h2:=wpOp_putIf hoj (hfree j oj hoj hji hjun hnot) (fun cs b=>hsel i oi cs b hi) (fun cs b=>hsel j oj cs b hoj) hQ hy h1;have hfree':∀k ok,ops[k]?=some ok→k≠i→(listed.setIfInBounds j true).getD k true=false →
     (∀e∈ok.after,Region.binds md e=true→e.on≠i)→oi.apart ops ok=true:=fun k ok hk hki hun hno=>by
    refine hfree k ok hk hki ?_ hno;by_cases hjk:j=k
    ·subst hjk;exact hjun
    ·rw[getD_set_ne true hjk] at hun;exact hun
   refine wpOp_mono (fun a' w' h3=>⟨h3.2.1,ih (listed.setIfInBounds j true) a' w' hfree' (hd.set hj) (ready_mono hr (Ne.symm hji)) h3.1 (h3.2.1 hjn hS) ?_⟩) h2;rw[Array.setIfInBounds_comm _ _ hji];exact h3.2.2
theorem qJ{i:Nat}{oi:Oper}{v:Value}(hi:ops[i]?=some oi)(hsel:∀(j:Nat) (o:Oper) cs b,ops[j]?=some o→o.op≠.select cs b)
  (hQ:∀c a w,Q (.panic c) (a.put oi.dst v) w→Q (.panic c) a w) :
  ∀(fuel:Nat) (listed:Array Bool) (a:Act) (w:World),
   (∀j oj,ops[j]?=some oj→j≠i→listed.getD j true=false→(∀e∈oj.after,Region.binds md e=true→e.on≠i)→oi.apart ops oj=true) →
   dL md ops listed→i∈Region.ready md ops listed→YieldsIf P ops (fun _=>True) oi v a →
   bK P md ops Q S late fuel (listed.setIfInBounds i true) (a.put oi.dst v) w→bK P md ops Q S late (fuel+1) listed a w:=by
 intro fuel;induction fuel with
 | zero =>
  intro listed a w _ _ hr hy H;refine⟨fun h=>(by rw[h] at hr;cases hr),fun j hj=>?_⟩;by_cases hji:j=i
  ·subst hji;exact hy.wpOp hi trivial ⟨fun _ h=>h,H⟩
  ·have:=ready_mono hj hji;rw[H.1] at this;cases this
 | succ fuel ih =>
  intro listed a w hfree hd hr hy H;refine⟨fun h=>(by rw[h] at hr;cases hr),fun j hj=>?_⟩;by_cases hji:j=i
  ·subst hji;exact hy.wpOp hi trivial ⟨fun _ h=>h,H⟩
  ·have h1:=H.2 j (ready_mono hj hji);obtain⟨hjun,oj,hoj,hall⟩:=mem_ready.1 hj;have hiun:listed.getD i false=false:=by
    have h0:=(mem_ready.1 hr).1;rcases Nat.lt_or_ge i listed.size with h' | h'
    ·simp[h'] at h0 ⊢;exact h0
    ·simp[Array.getElem?_eq_none h']
   have hnot:∀e∈oj.after,Region.binds md e=true→e.on≠i:=fun e he hb heq=>by
    have h1:=hall e he hb;rw[heq,hiun] at h1;cases h1
   have h2:=wpOp_putIf hoj (hfree j oj hoj hji hjun hnot) (fun cs b=>hsel i oi cs b hi) (fun cs b=>hsel j oj cs b hoj) hQ hy h1;have hfree':∀k ok,ops[k]?=some ok→k≠i→(listed.setIfInBounds j true).getD k true=false →
     (∀e∈ok.after,Region.binds md e=true→e.on≠i)→oi.apart ops ok=true:=fun k ok hk hki hun hno=>by
    refine hfree k ok hk hki ?_ hno;by_cases hjk:j=k
    ·subst hjk;exact hjun
    ·rw[getD_set_ne true hjk] at hun;exact hun
   refine wpOp_mono (fun a' w' h3=>⟨h3.2.1,ih (listed.setIfInBounds j true) a' w' hfree' (hd.set hj) (ready_mono hr (Ne.symm hji)) h3.1 ?_⟩) h2;rw[Array.setIfInBounds_comm _ _ hji];exact h3.2.2
theorem bT{rid:Nat}{a:Act}{w:World}{l:List Oper}(S:World→Prop)(late:Nat→Bool)(hm:P.follows .mixedOrders=true)
  (h:dL .any l.toArray (Array.replicate l.toArray.size false)→bK P .any l.toArray Q S late l.length (Array.replicate l.toArray.size false) a w.drew):(Code.region rid l.toArray true).wp P Q a w:=by
 refine wp_region_any hm (pB (S:=S) (late:=late) _ _ _ _ ?_);simpa using h (jD _)
theorem BQ{i f:Nat}{listed:Array Bool}{a:Act}{w:World}{oi:Oper}{v:Value}(hi:ops[i]?=some oi)
  (hB:(Region.noSelect ops&&Region.free md ops listed i&&(Region.ready md ops listed).contains i&&(List.range ops.size).all fun j=>!late j||(rW md ops ops.size [j]).contains i)=true)
  (hd:dL md ops listed) (hQ:∀c a d v w,Q (.panic c) (Act.put a d v) w→Q (.panic c) a w) (hS:S w)
  (hw:Region.wanted oi (yielded ops a.tmps)=true) (hy:∀w,S w→(execOp a.eval oi).run P w=.ok (.value v) w)
  (h:dL md ops (listed.setIfInBounds i true)→bK P md ops Q S late f (listed.setIfInBounds i true) (a.put oi.dst v) w):bK P md ops Q S late (f+1) listed a w:=by
 simp only[Bool.and_eq_true] at hB
 obtain⟨⟨⟨h1,h2⟩,h3⟩,h4⟩:=hB;have hr:i∈Region.ready md ops listed:=by simpa using h3
 refine sP (f:=ops.size) hi (Region.noSelect_spec h1) (fun c a w=>hQ c a _ _ w) (fun j hj hl=>?_) f listed a w (Region.free_spec hi h2) hd hr (.inl ⟨hw,hy⟩) hS (h (hd.set hr));have:=List.all_eq_true.1 h4 j (List.mem_range.2 hj);rw[hl] at this;simpa using this
theorem aW{i f:Nat}{listed:Array Bool}{a:Act}{w:World}{oi:Oper}{v:Value}(hi:ops[i]?=some oi)
  (hB:(Region.noSelect ops&&Region.free md ops listed i&&(Region.ready md ops listed).contains i)=true)
  (hd:dL md ops listed) (hQ:∀c a d v w,Q (.panic c) (Act.put a d v) w→Q (.panic c) a w)
  (hw:Region.wanted oi (yielded ops a.tmps)=true) (hy:∀w,(execOp a.eval oi).run P w=.ok (.value v) w)
  (h:dL md ops (listed.setIfInBounds i true)→bK P md ops Q S late f (listed.setIfInBounds i true) (a.put oi.dst v) w):bK P md ops Q S late (f+1) listed a w:=by
 simp only[Bool.and_eq_true] at hB
 obtain⟨⟨h1,h2⟩,h3⟩:=hB;have hr:i∈Region.ready md ops listed:=by simpa using h3
 exact qJ hi (Region.noSelect_spec h1) (fun c a w=>hQ c a _ _ w) f listed a w (Region.free_spec hi h2) hd hr (.inl ⟨hw,fun w _=>hy w⟩) (h (hd.set hr))
theorem kU{f:Nat}{listed:Array Bool}{a:Act}{w:World}{L:List Nat}(hd:dL md ops listed)(hL:Region.ready md ops listed=L)(hne:L≠[])
  (h:∀i∈L,(dL md ops (listed.setIfInBounds i true))→wpOp P ops Q i (fun a' w'=>(late i=false→S w→S w')∧bK P md ops Q S late f (listed.setIfInBounds i true) a' w') a w):bK P md ops Q S late (f+1) listed a w:=by
 subst hL;exact⟨fun e=>absurd e hne,fun i hi=>h i hi (hd.set hi)⟩
theorem aV{i f:Nat}{listed:Array Bool}{a:Act}{w:World}{oi:Oper}(hi:ops[i]?=some oi)(hg:oi.guard=none)
  (h:∀K:Act→World→Prop,(∀a w',(late i=false→S w→S w')→bK P md ops Q S late f (listed.setIfInBounds i true) a w'→K a w')→oi.wp P a w K Q) :
  wpOp P ops Q i (fun a' w'=>(late i=false→S w→S w')∧bK P md ops Q S late f (listed.setIfInBounds i true) a' w') a w:=by
 unfold wpOp;simp only[hi]
 rw[if_pos (by simp[Region.wanted,hg])];exact .inl (h _ fun a w h1 h2=>⟨h1,h2⟩)
theorem dO{listed:Array Bool}{a:Act}{w:World}(hL:Region.ready md ops listed=[])(h:Q .normal a w):bK P md ops Q S late 0 listed a w:=⟨hL,h⟩
end
theorem aB{P:Program}{ops:Array Oper}{Q:Exit→Act→World→Prop}{S:World→Prop}{a:Act}{w:World}{oi:Oper}{v:Value}{md:Region.Mode}{late:Nat→Bool}{f:Nat}{listed l':Array Bool}{a':Act}(i:Nat)(hi:ops[i]?=some oi)(hd:dL md ops listed)(hS:S w)(h:dL md ops l'→bK P md ops Q S late f l' a' w)(hB:(Region.noSelect ops&&Region.free md ops listed i&&(Region.ready md ops listed).contains i&&(List.range ops.size).all fun j=>!late j||(rW md ops ops.size [j]).contains i)=true:=by kernel_rfl)(hQ:∀c a d v w,Q (.panic c) (Act.put a d v) w→Q (.panic c) a w:=by intro _ _ d _ _ h;cases d <;> exact h)(hw:Region.wanted oi (yielded ops a.tmps)=true:=by first | with_reducible rfl | kernel_rfl)(hy:∀w,S w→(execOp a.eval oi).run P w=.ok (.value v) w:=by intro wS hS;(try dsimp only at hS);go_split_ands;go_simp;(try with_reducible rfl);done)(e:a.put oi.dst v=a':=by(try simp only[Act.put,gA,gS,gZ,sA,sZ,sS]);first | done | exact rfl)(e2:listed.setIfInBounds i true=l':=by(try simp only[Act.put,gA,gS,gZ,sA,sZ,sS]);first | done | exact rfl):bK P md ops Q S late (f+1) listed a w:=by subst e e2;exact BQ hi hB hd hQ hS hw hy h
theorem aP{P:Program}{ops:Array Oper}{Q:Exit→Act→World→Prop}{S:World→Prop}{md:Region.Mode}{late:Nat→Bool}{f:Nat}{listed:Array Bool}{a:Act}{w:World}(hd:dL md ops listed)(i0:Nat)(h0:dL md ops (listed.setIfInBounds i0 true)→wpOp P ops Q i0 (fun a' w'=>(late i0=false→S w→S w')∧bK P md ops Q S late f (listed.setIfInBounds i0 true) a' w') a w)(hL:Region.ready md ops listed=[i0]:=by kernel_rfl):bK P md ops Q S late (f+1) listed a w:=by
  refine kU hd hL (by simp) (fun i hi hd2=>?_);obtain rfl:=List.mem_singleton.1 hi;exact h0 hd2
theorem sQ{P:Program}{ops:Array Oper}{Q:Exit→Act→World→Prop}{S:World→Prop}{md:Region.Mode}{late:Nat→Bool}{f:Nat}{listed:Array Bool}{a:Act}{w:World}(hd:dL md ops listed)(i0 i1:Nat)(h0:dL md ops (listed.setIfInBounds i0 true)→wpOp P ops Q i0 (fun a' w'=>(late i0=false→S w→S w')∧bK P md ops Q S late f (listed.setIfInBounds i0 true) a' w') a w)(h1:dL md ops (listed.setIfInBounds i1 true)→wpOp P ops Q i1 (fun a' w'=>(late i1=false→S w→S w')∧bK P md ops Q S late f (listed.setIfInBounds i1 true) a' w') a w)(hL:Region.ready md ops listed=[i0,i1]:=by kernel_rfl):bK P md ops Q S late (f+1) listed a w:=by
  refine kU hd hL (by simp) (fun i hi hd2=>?_);simp only[List.mem_cons,List.not_mem_nil,or_false] at hi
  rcases hi with rfl|rfl
  exact h0 hd2;exact h1 hd2
theorem OZ{P:Program}{ops:Array Oper}{Q:Exit→Act→World→Prop}{S:World→Prop}{md:Region.Mode}{late:Nat→Bool}{f:Nat}{listed:Array Bool}{a:Act}{w:World}(hd:dL md ops listed)(i0 i1 i2:Nat)(h0:dL md ops (listed.setIfInBounds i0 true)→wpOp P ops Q i0 (fun a' w'=>(late i0=false→S w→S w')∧bK P md ops Q S late f (listed.setIfInBounds i0 true) a' w') a w)(h1:dL md ops (listed.setIfInBounds i1 true)→wpOp P ops Q i1 (fun a' w'=>(late i1=false→S w→S w')∧bK P md ops Q S late f (listed.setIfInBounds i1 true) a' w') a w)(h2:dL md ops (listed.setIfInBounds i2 true)→wpOp P ops Q i2 (fun a' w'=>(late i2=false→S w→S w')∧bK P md ops Q S late f (listed.setIfInBounds i2 true) a' w') a w)(hL:Region.ready md ops listed=[i0,i1,i2]:=by kernel_rfl):bK P md ops Q S late (f+1) listed a w:=by
  refine kU hd hL (by simp) (fun i hi hd2=>?_);simp only[List.mem_cons,List.not_mem_nil,or_false] at hi
  rcases hi with rfl|rfl|rfl
  exact h0 hd2;exact h1 hd2;exact h2 hd2
theorem PB{P:Program}{ops:Array Oper}{Q:Exit→Act→World→Prop}{S:World→Prop}{md:Region.Mode}{late:Nat→Bool}{f:Nat}{listed:Array Bool}{a:Act}{w:World}(hd:dL md ops listed)(i0 i1 i2 i3:Nat)(h0:dL md ops (listed.setIfInBounds i0 true)→wpOp P ops Q i0 (fun a' w'=>(late i0=false→S w→S w')∧bK P md ops Q S late f (listed.setIfInBounds i0 true) a' w') a w)(h1:dL md ops (listed.setIfInBounds i1 true)→wpOp P ops Q i1 (fun a' w'=>(late i1=false→S w→S w')∧bK P md ops Q S late f (listed.setIfInBounds i1 true) a' w') a w)(h2:dL md ops (listed.setIfInBounds i2 true)→wpOp P ops Q i2 (fun a' w'=>(late i2=false→S w→S w')∧bK P md ops Q S late f (listed.setIfInBounds i2 true) a' w') a w)(h3:dL md ops (listed.setIfInBounds i3 true)→wpOp P ops Q i3 (fun a' w'=>(late i3=false→S w→S w')∧bK P md ops Q S late f (listed.setIfInBounds i3 true) a' w') a w)(hL:Region.ready md ops listed=[i0,i1,i2,i3]:=by kernel_rfl):bK P md ops Q S late (f+1) listed a w:=by
  refine kU hd hL (by simp) (fun i hi hd2=>?_);simp only[List.mem_cons,List.not_mem_nil,or_false] at hi
  rcases hi with rfl|rfl|rfl|rfl
  exact h0 hd2;exact h1 hd2;exact h2 hd2;exact h3 hd2
theorem PC{P:Program}{ops:Array Oper}{Q:Exit→Act→World→Prop}{S:World→Prop}{md:Region.Mode}{late:Nat→Bool}{f:Nat}{listed:Array Bool}{a:Act}{w:World}(hd:dL md ops listed)(i0 i1 i2 i3 i4:Nat)(h0:dL md ops (listed.setIfInBounds i0 true)→wpOp P ops Q i0 (fun a' w'=>(late i0=false→S w→S w')∧bK P md ops Q S late f (listed.setIfInBounds i0 true) a' w') a w)(h1:dL md ops (listed.setIfInBounds i1 true)→wpOp P ops Q i1 (fun a' w'=>(late i1=false→S w→S w')∧bK P md ops Q S late f (listed.setIfInBounds i1 true) a' w') a w)(h2:dL md ops (listed.setIfInBounds i2 true)→wpOp P ops Q i2 (fun a' w'=>(late i2=false→S w→S w')∧bK P md ops Q S late f (listed.setIfInBounds i2 true) a' w') a w)(h3:dL md ops (listed.setIfInBounds i3 true)→wpOp P ops Q i3 (fun a' w'=>(late i3=false→S w→S w')∧bK P md ops Q S late f (listed.setIfInBounds i3 true) a' w') a w)(h4:dL md ops (listed.setIfInBounds i4 true)→wpOp P ops Q i4 (fun a' w'=>(late i4=false→S w→S w')∧bK P md ops Q S late f (listed.setIfInBounds i4 true) a' w') a w)(hL:Region.ready md ops listed=[i0,i1,i2,i3,i4]:=by kernel_rfl):bK P md ops Q S late (f+1) listed a w:=by
  refine kU hd hL (by simp) (fun i hi hd2=>?_);simp only[List.mem_cons,List.not_mem_nil,or_false] at hi
  rcases hi with rfl|rfl|rfl|rfl|rfl
  exact h0 hd2;exact h1 hd2;exact h2 hd2;exact h3 hd2;exact h4 hd2
end Go.Proofs.YtnokckdkaifibaaGreatDoor
