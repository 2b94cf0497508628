/- Graphs: slices.Insert of a hop into a row of the call's own; Graphs: a hop put in its place; Edges: Of; two graphs that are the same; Edges: cut to what this seat wants; Graphs that grow: the plain law (no program in sight); A region that draws its order: some stable operations are taken first; of the rest every order is walked, stable ones taken as they come up. Nothing here names the program; A region that draws its order: every order is walked, stable operations taken as they come up; behind the late ones (for which all that is taken waits not) nothing stable need hold. Nothing here names the program; Graphs: a graph that grows, in memory. -/
import Derived.Shelf.Spec.SlicesInsertGrow
import Derived.Test.YtddffnonlmfhdaaGreatDoorU04
import Derived.Test.YtddffnonlmfhdaaGreatDoorU03
import Derived.Test.YtddffnonlmfhdaaGreatDoorU01
set_option linter.unusedVariables false
set_option linter.unusedSimpArgs false
set_option maxHeartbeats 16000000
set_option maxRecDepth 100000
namespace Go.Proofs.YtddffnonlmfhdaaGreatDoor
open Go.RowKit
theorem dH(b:Nat):∀(vs:List Value) (o:Nat) (w:World) (cur:Array Value) (t:TypeId),w.heap[b]?=some (.cells cur t (0,0))→o+vs.length≤cur.size →
  ∃cur',(w.setCells b o vs).heap[b]?=some (.cells cur' t (0,0))∧cur'.size=cur.size∧cur'.toList=cur.toList.take o++vs++cur.toList.drop (o+vs.length)
 | [],o,w,cur,t,h,_=>⟨cur,h,rfl,by simp⟩
 | v::r,o,w,cur,t,h,hl=>by
  have hb:=Blk.set (show Blk w b t cur from h) o v;simp only[List.length_cons] at hl
  obtain⟨c',e1,e2,e3⟩:=dH b r (o+1) _ _ t hb (by simp;omega);refine⟨c',e1,by rw[e2];simp,?_⟩;rw[e3,Array.toList_setIfInBounds,List.drop_set_of_lt (by omega),List.take_set];have h1:(cur.toList.take (o+1)).set o v=cur.toList.take o++[v]:=by
   rw[List.take_add_one,gEz (by simp;omega)];rw[List.set_append_right _ _ (by simp;omega)];have:o-(cur.toList.take o).length=0:=by simp;omega
   rw[this];rfl
  rw[h1];simp[Nat.add_assoc,Nat.add_comm 1]
theorem Upd.setCells{F:Nat→Prop}{a:World}{b:Nat}(hp:F b∨a.heap.size≤b):∀(vs:List Value) (o:Nat) {w:World},Upd F a w→Upd F a (w.setCells b o vs)
 | [],_,_,h=>h
 | v::r,o,_w,h=>Upd.setCells hp r (o+1) (h.setCell (p:=⟨b,o,none⟩) hp v)
theorem fI{P:Program}(w:World)(dT sT ty elem:TypeId)(size b o dLen dCap:Nat)(a:Addr)(sLen sCap:Nat)(cs:List Value)
  (hu:P.underlying dT=some (.slice elem)) (hs:(P.info? elem).map (·.size)=some size) (hn:cs.length=Nat.min sLen dLen*size)
  (hsrc:∀j v,cs[j]?=some v→w.cell? (a.add j)=some v) (hc:∀j,j<cs.length→(w.cell? ⟨b,o+j,none⟩).isSome=true) (hf:∀j,j<cs.length→w.frozen? ⟨b,o+j,none⟩=false) (h1:∀v∈cs,v.oneCell'=true) :
  (Builtin.copy_ #[dT,sT] ty #[.slice (some ⟨b,o,none⟩) dLen dCap,.slice (some a) sLen sCap]).run P w=.ok (goInt (Nat.min sLen dLen)) (w.setCells b o cs):=by
 have hl:=run_loadCells_list (P:=P) w a cs hsrc;have hst:=run_storeCells_cells (P:=P) b o cs 0 w (by simpa using hc) (by simpa using hf) h1;cases hq:P.info? elem with
 | none=>simp[hq] at hs
 | some i =>
  have hi:i.size=size:=by simpa[hq] using hs
  simp[Builtin.copy_,run_underlying hu,Builtin.lenOf,Builtin.firstCells,sizeOf,typeInfo,hq,hi,← hn,hl,hst]
theorem iT{w:World}{b:Nat}{cur:Array Value}{t:TypeId}(h:w.heap[b]?=some (.cells cur t (0,0))){k:Nat}(hk:k<cur.size):(w.cell? ⟨b,k,none⟩).isSome=true:=by
 rw[cell_of_row w b k cur t (0,0) h,Array.getElem?_eq_getElem hk];rfl
theorem iU{w:World}{b:Nat}{cur:Array Value}{t:TypeId}(h:w.heap[b]?=some (.cells cur t (0,0)))(k:Nat):w.frozen? ⟨b,k,none⟩=false:=by simp[World.frozen?,h]
theorem FR{α:Type}(C X v:List α)(k:Nat)(hX:C.take X.length=X)(hk:k≤X.length)(hC:X.length+v.length≤C.length) :
  ((C.take (k+v.length)++X.drop k++C.drop (k+v.length+(X.drop k).length)).take k++v++(C.take (k+v.length)++X.drop k++C.drop (k+v.length+(X.drop k).length)).drop (k+v.length)).take (X.length+v.length)=X.take k++v++X.drop k:=by
 have h1:(C.take (k+v.length)++X.drop k++C.drop (k+v.length+(X.drop k).length)).take k=X.take k:=by
  rw[List.append_assoc,List.take_append_of_le_length (by rw[List.length_take];omega),List.take_take,Nat.min_eq_left (by omega)];conv=>rhs;rw[← hX]
  rw[List.take_take,Nat.min_eq_left hk]
 have h2:(C.take (k+v.length)++X.drop k++C.drop (k+v.length+(X.drop k).length)).drop (k+v.length)=X.drop k++C.drop (k+v.length+(X.drop k).length):=by
  rw[List.append_assoc];exact List.drop_left' (by rw[List.length_take];omega)
 rw[h1,h2,← List.append_assoc];exact List.take_left' (by simp;omega)
theorem FS{α:Type}(C v Y:List α)(k:Nat)(hC:k+v.length+Y.length≤C.length) :
  ((C.take k++v++C.drop (k+v.length)).take (k+v.length)++Y++(C.take k++v++C.drop (k+v.length)).drop (k+v.length+Y.length)).take (k+v.length+Y.length)=C.take k++v++Y:=by
 have h1:(C.take k++v++C.drop (k+v.length)).take (k+v.length)=C.take k++v:=List.take_left' (by simp;omega);rw[h1];exact List.take_left' (by simp;omega)
def eL(L:List Hp)(i:Nat)(h:Hp):List Hp:=L.take i++h::L.drop i
theorem gW(N M:List Hp):aK (N++M)=aK N++aK M:=by simp[aK]
theorem oG(L:List Hp){i:Nat}(h:Hp)(hi:i≤L.length):(eL L i h).length=L.length+1:=by simp[eL];omega
theorem KZ(L:List Hp)(i:Nat)(hi:i≤L.length):aK (L.take i)=(aK L).take (i*2):=by
 conv=>rhs;rw[← List.take_append_drop i L,gW]
 exact(List.take_left' (by rw[dC,List.length_take];omega)).symm
theorem LC(L:List Hp)(i:Nat)(hi:i≤L.length):aK (L.drop i)=(aK L).drop (i*2):=by
 conv=>rhs;rw[← List.take_append_drop i L,gW]
 exact(List.drop_left' (by rw[dC,List.length_take];omega)).symm
theorem oH(L:List Hp)(i:Nat)(h:Hp)(hi:i≤L.length):aK (eL L i h)=(aK L).take (i*2)++h.cells++(aK L).drop (i*2):=by
 rw[eL,gW,KZ L i hi];show _++(h.cells++aK (L.drop i))=_
 rw[LC L i hi,List.append_assoc]

def qZ(w:World)(base:Nat)(v:Value)(L:List Hp)(e:Ending)(w':World):Prop:=
 ∃A' c',e=.returned (.slice A' L.length c')∧w'.ownsRow base 103 2 (.slice A' L.length c') L.length (aK L)∧Upd (fun k=>v.ownBlock=some k) w w'∧∀k,(Value.slice A' L.length c').ownBlock=some k→v.ownBlock=some k∨w.heap.size≤k
theorem yV(w:World)(base:Nat)(A:Option Addr)(c:Nat)(L:List Hp)(own:w.ownsRow base 103 2 (.slice A L.length c) L.length (aK L))(g:Nat)(h:Hp)(hg:Blk w g 103 h.cells.toArray)(hb:base≤w.heap.size)(hl:(L.length+1)*24≤140737488355328) :
  Calls Tryz.prog 135 #[.slice A L.length c,.int .i64 L.length,.slice (some ⟨g,0,none⟩) 1 1] w (qZ w base (.slice A L.length c) (eL L L.length h)):=by
 have hr:aV w (some ⟨g,0,none⟩) h.cells:=fun j u hj=>⟨g,0,rfl,by rw[Nat.zero_add,hg.cell j];simpa using hj⟩
 obtain⟨A',c',w',happ,own',up,pl⟩:=bB w base 99 103 2 24 _ Tryz.underlying99 iS rfl (by decide) (by decide) A L.length c _ own (some ⟨g,0,none⟩) 1 1 h.cells hr rfl (by simp[Hp.cells];exact⟨rfl,rfl⟩) hl hb;have e:L++[h]=eL L L.length h:=by simp[eL]
 have e2:aK L++h.cells=aK (eL L L.length h):=by rw[← e,gW];simp[aK]
 have e3:L.length+1=(eL L L.length h).length:=by rw[← e];simp
 have e4:=aG own;rw[e2] at own';rw[e3] at own' pl;have HH:=hIz (show qZ w base (.slice A L.length c) (eL L L.length h) (.returned (.slice A' (L.length+1) c')) w' from⟨A',c',by rw[e3],own',up,pl⟩);clear own' up pl e3 e e2 own hr hg hb;obtain⟨n,hn⟩:∃n,L.length=n:=⟨_,rfl⟩;rw[hn] at hl e4 happ HH ⊢;clear hn;obtain⟨A0,c0,e5,e6,e7⟩:=e4;injection e5 with e5 _ e8;subst e5;subst e8;have hc63:n≤9223372036854775807:=by omega
 go_enter Tryz.func135,Tryz.ntmps135;rcases e7 with rfl|⟨g0,rfl⟩
 all_goals
  go_wp2_with (at_builtin;refine wpList_append_run rfl _ _ _ rfl rfl rfl happ ?_)
  all_goals
   go_ret;exact HH.out
theorem vN(w:World)(base g0 c:Nat)(L:List Hp)(own:w.ownsRow base 103 2 (.slice (some ⟨g0,0,none⟩) L.length c) L.length (aK L))(g:Nat)(h:Hp)(hg:Blk w g 103 h.cells.toArray)(hne:g≠g0)(i:Nat)(hi:i<L.length)(hc:L.length+1≤c) :
  Calls Tryz.prog 135 #[.slice (some ⟨g0,0,none⟩) L.length c,.int .i64 i,.slice (some ⟨g,0,none⟩) 1 1] w (qZ w base (.slice (some ⟨g0,0,none⟩) L.length c) (eL L i h)):=by
 obtain⟨n,hn⟩:∃n,L.length=n:=⟨_,rfl⟩;have hcl:=dC L;rw[hn] at own hi hc hcl ⊢;rcases own.2 with ⟨e,-⟩|⟨g1,c1,cur,e,hbase,hh,hcn,hcm,hcs,hct⟩
 ·cases e
 injection e with e _ e2;injection e with e;injection e with e;subst e;subst e2;have hlen:n*2+2≤cur.toList.length:=by rw[Array.length_toList,hcs];omega
 have hv:h.cells.length=2:=rfl;have hdl:((aK L).drop (i*2)).length=(n-i)*2:=by rw[List.length_drop,hcl];omega
 obtain⟨Y,hY⟩:∃Y,Y=(aK L).drop (i*2):=⟨_,rfl⟩;rw[← hY] at hdl;have hYc:∀j u,Y[j]?=some u→w.drew.cell? ((⟨g0,i*2,none⟩:Addr).add j)=some u:=fun j u hu=>by
  rw[hY,List.getElem?_drop,← hct,List.getElem?_take] at hu;split at hu
  ·rw[Addr.add_lit];rw[cell_of_row w.drew g0 _ cur _ (0,0) hh];simpa using hu
  ·cases hu
 have hYo:∀u∈Y,u.oneCell'=true:=fun u hu=>AU L u (by rw[hY] at hu;exact List.mem_of_mem_drop hu)
 have hsz:(Tryz.prog.info? 103).map (·.size)=some 2:=by
  obtain⟨i0,hi0,h0,h1,h2⟩:=info_parts iS;rw[hi0];simp[h1]
 have hcp1:∀ty dc sc,(Builtin.copy_ #[99,99] ty #[.slice (some ⟨g0,(i+1)*2,none⟩) (n+1-(i+1)) dc,.slice (some ⟨g0,i*2,none⟩) (n+1-i) sc]).run Tryz.prog w.drew=.ok (goInt ((n+1-(i+1):Nat):Int)) (w.drew.setCells g0 ((i+1)*2) Y):=fun ty dc sc=>by
  have e:Nat.min (n+1-i) (n+1-(i+1))=n+1-(i+1):=by simp only[Nat.min_def];split <;> omega
  rw[fI w.drew 99 99 ty 103 2 g0 ((i+1)*2) (n+1-(i+1)) dc ⟨g0,i*2,none⟩ (n+1-i) sc Y Tryz.underlying99 hsz (by rw[hdl,e];omega) hYc
   (fun j hj=>iT (w:=w.drew) hh (by rw[hdl] at hj;rw[hcs];omega)) (fun j hj=>iU (w:=w.drew) hh _) hYo,e]
 obtain⟨cu1,k1,z1,l1⟩:=dH g0 Y ((i+1)*2) w.drew cur _ hh (by rw[hdl,hcs];omega);have u1:Upd (fun k=>(Value.slice (some ⟨g0,0,none⟩) n c).ownBlock=some k) w (w.drew.setCells g0 ((i+1)*2) Y):=Upd.setCells (F:=fun k=>(Value.slice (some ⟨g0,0,none⟩) n c).ownBlock=some k) (a:=w) (b:=g0) (.inl rfl) Y _ (Upd.refl _ w).drew;have kg:Blk (w.drew.setCells g0 ((i+1)*2) Y) g 103 h.cells.toArray:=hg.upd u1 (fun e=>by injection e with e;exact hne e.symm);have hov:∀lb cb,(callFunc 171 #[.slice (some ⟨g,0,none⟩) 1 1,.slice (some ⟨g0,(i+1)*2,none⟩) lb cb]).run Tryz.prog w=.ok (.value (.bool false)) w:=fun lb cb=>by
  rw[run_callFunc_extern Tryz.func171 (by kernel_rfl) (by kernel_rfl) (by kernel_rfl) (e:=Extern.SlicesOverlaps.overlaps #[99,99] #[4]) (by kernel_rfl)];obtain⟨i0,hi0,h0,h1,h2⟩:=info_parts iS;rw[Lib.run_overlaps_apart w 99 4 103 Tryz.underlying99 2 (fun w=>by simp[sizeOf,typeInfo,hi0,h1]) ⟨g,0,none⟩ ⟨g0,(i+1)*2,none⟩ 1 1 lb cb hne 103 103 2 cur.size (by unfold Blk at hg;simp[World.shape?,hg,Hp.cells]) (by simp[World.shape?,hh]) (by rw[hcs];omega) (hg.frozen _) (hg.frozen _)];rfl
 have hcp2:∀ty dc,(Builtin.copy_ #[99,99] ty #[.slice (some ⟨g0,i*2,none⟩) (n+1-i) dc,.slice (some ⟨g,0,none⟩) 1 1]).run Tryz.prog (w.drew.setCells g0 ((i+1)*2) Y)=.ok (goInt 1) ((w.drew.setCells g0 ((i+1)*2) Y).setCells g0 (i*2) h.cells):=fun ty dc=>by
  have e:Nat.min 1 (n+1-i)=1:=by simp only[Nat.min_def];split <;> omega
  rw[fI _ 99 99 ty 103 2 g0 (i*2) (n+1-i) dc ⟨g,0,none⟩ 1 1 h.cells Tryz.underlying99 hsz (by rw[e];rfl) (fun j u hu=>by rw[Addr.add_lit,Nat.zero_add,kg.cell];simpa using hu)
   (fun j hj=>iT k1 (by rw[z1,hcs];rw[hv] at hj;omega)) (fun j hj=>iU k1 _) (by simp[Hp.cells];exact⟨rfl,rfl⟩),e]
  rfl
 obtain⟨cu2,k2,z2,l2⟩:=dH g0 h.cells (i*2) _ cu1 _ k1 (by rw[z1,hcs,hv];omega);have u2:=Upd.setCells (F:=fun k=>(Value.slice (some ⟨g0,0,none⟩) n c).ownBlock=some k) (a:=w) (b:=g0) (.inl rfl) h.cells (i*2) u1;have own':((w.drew.setCells g0 ((i+1)*2) Y).setCells g0 (i*2) h.cells).ownsRow base 103 2 (.slice (some ⟨g0,0,none⟩) (eL L i h).length c) (eL L i h).length (aK (eL L i h)):=by
  have e0:(eL L i h).length=n+1:=by rw[oG L h (by omega),hn]
  rw[e0];refine⟨by rw[dC,e0],.inr ⟨g0,c,cu2,rfl,hbase,k2,hc,hcm,by rw[z2,z1,hcs],?_⟩⟩;rw[oH L i h (by omega),l2,l1,hY];have:=FR cur.toList (aK L) h.cells (i*2) (by rw[hcl];exact hct) (by omega) (by rw[hcl,hv];exact hlen);rw[hv,hcl] at this;rw[show(n+1)*2=n*2+2 by omega,show(i+1)*2=i*2+2 by omega];exact this
 have e0:n+1=(eL L i h).length:=by rw[oG L h (by omega),hn]
 have HH:=hIz (show qZ w base (.slice (some ⟨g0,0,none⟩) n c) (eL L i h) (.returned (.slice (some ⟨g0,0,none⟩) (n+1) c)) ((w.drew.setCells g0 ((i+1)*2) Y).setCells g0 (i*2) h.cells) from⟨_,c,by rw[e0],own',u2,fun k hk=>.inl hk⟩);clear own own' u2 u1 kg l1 l2 k1 k2 z1 z2 hg hh hcs hct hlen hdl hYc hYo hY hn hcl hv hsz e0;generalize (w.drew.setCells g0 ((i+1)*2) Y).setCells g0 (i*2) h.cells=W2 at hcp2 HH;generalize w.drew.setCells g0 ((i+1)*2) Y=W1 at hcp1 hcp2;have hz2:¬((i:Int)=(n:Int)):=by omega
 have hw1:IntKind.i64.wrap ((i:Int)+(1:Int))=(i:Int)+(1:Int):=by unfold maxLen at hcm;rw[IntKind.wrap_i64];omega
 have hc63:c≤9223372036854775807:=by unfold maxLen at hcm;omega
 have hin:i≤n:=by omega
 have htn:((i:Int)+(1:Int)).toNat=i+1:=by omega
 have hb1:(0:Int)≤(i:Int)+1:=by omega
 have hb2:¬(c=i+1):=by omega
 have hb3:(i:Int)≤(n:Int)+1:=by omega
 have hb4:¬(c=i):=by omega
 go_enter Tryz.func135,Tryz.ntmps135;go_upto_region 15 with (simp only[hov]);refine aO (fun _=>True) 9 [(0,true),(1,true),(2,true),(3,true),(4,true),(5,true),(6,true),(7,true),(8,false)] (by kernel_rfl) (by kernel_rfl) (fun _ _ d _ _ h=>by cases d <;> exact h) trivial ?_
 iterate 8 refine aB rfl ?_
 refine aN rfl rfl (fun K hK=>?_);refine wp_copy_runI _ _ _ 99 99 rfl (.slice (some ⟨g0,(i+1)*2,none⟩) (n+1-(i+1)) (c-(i+1))) (.slice (some ⟨g0,i*2,none⟩) (n+1-i) (c-i)) (by simp[Act.eval]) (by simp[Act.eval]) (hcp1 _ _ _) ?_;refine hK _ _ (fun _=>trivial) ?_;clear hK K;(try simp only[Act.put,gA,gS,gZ,sA,sZ,sS])
 refine aF ?_;go_wp2_with (at_builtin;refine wpList_copy_runI _ rfl _ _ 99 99 rfl _ _ rfl rfl (hcp2 _ _) ?_);go_ret;exact HH.out
theorem FT{w:World}{base e size n c:Nat}{A:Option Addr}{xs:List Value}(h:w.ownsRow base e size (.slice A n c) n xs):n≤c∧c≤maxLen:=by
 rcases h.2 with ⟨e,e2⟩|⟨g,cap,cur,e,_,_,hc,hm,_⟩
 ·injection e with _ _ e3;subst e3;rw[e2];exact⟨Nat.le_refl _,by unfold maxLen;omega⟩
 ·injection e with _ _ e3;subst e3;exact⟨hc,hm⟩
theorem vO(w:World)(base g0 c:Nat)(L:List Hp)(own:w.ownsRow base 103 2 (.slice (some ⟨g0,0,none⟩) L.length c) L.length (aK L))(g:Nat)(h:Hp)(hg:Blk w g 103 h.cells.toArray)(hb:base≤w.heap.size)(i:Nat)(hi:i<L.length)(hc:c<L.length+1)(hl:(L.length+1)*24≤140737488355328) :
  Calls Tryz.prog 135 #[.slice (some ⟨g0,0,none⟩) L.length c,.int .i64 i,.slice (some ⟨g,0,none⟩) 1 1] w (qZ w base (.slice (some ⟨g0,0,none⟩) L.length c) (eL L i h)):=by
 obtain⟨n,hn⟩:∃n,L.length=n:=⟨_,rfl⟩;have hcl:=dC L;have hil:=oG L h (Nat.le_of_lt hi);have hgs:=(own.lt g0 rfl).2;have hrr:=aV.of_own own;have hcm:=FT own;rw[hn] at hi hc hcl hl hil hcm ⊢;rw[hn] at own;have hold0:∀j u,(aK L)[j]?=some u→w.cell? ⟨g0,j,none⟩=some u:=fun j u hu=>by
  obtain⟨b',o',e,y⟩:=hrr j u hu;injection e with e;injection e with e1 e2;subst e1;subst e2;rwa [Nat.zero_add] at y
 obtain⟨i0,hi0,hz0,hz1,hz2⟩:=info_parts iS;have hsz:(Tryz.prog.info? 103).map (·.size)=some 2:=by rw[hi0];simp[hz1]
 have hv:h.cells.length=2:=rfl;have hkk:(n:Int)+1-(i:Int)=((n+1-i:Nat):Int):=by omega
 have hik:i+(n+1-i)=n+1:=by omega
 have hold:(Builtin.firstCells i0.size i (.slice (some ⟨g0,0,none⟩) i c)).run Tryz.prog w.drew=.ok ((aK L).take (i*2)).toArray w.drew:=by
  rw[hz1];exact run_firstCells_some w.drew 2 i ⟨g0,0,none⟩ i c _ (by rw[List.length_take];omega) (fun j v hj=>by
   rw[Addr.add_lit,Nat.zero_add];rw[List.getElem?_take] at hj;split at hj
   ·exact hold0 j v hj
   ·cases hj)
 have hrz:∀ty,(Builtin.append_ #[99,3] ty #[.slice (some ⟨g0,0,none⟩) i c,.int .i64 ((n:Int)+1-(i:Int))]).run Tryz.prog w =
   .ok (.slice (some ⟨w.heap.size,0,none⟩) (n+1) (grownCap w (n+1) c 103)) (w.drew.alloc (.cells (((aK L).take (i*2)).toArray++Builtin.zeroCells (Value.agg #[.string ByteArray.empty,.int .i64 0]).cells (n+1-i)++Builtin.zeroCells (Value.agg #[.string ByteArray.empty,.int .i64 0]).cells (grownCap w (n+1) c 103-(n+1))) 103)):=fun ty=>by
  have h:=Lib.run_append_grow_zeros w 99 3 ty 103 i0 _ .i64 .i64 Tryz.underlying99 Tryz.underlying3 hi0 hz0 (some ⟨g0,0,none⟩) i c ((aK L).take (i*2)) hold (n+1-i) (by omega) (by omega) (by omega) (by omega) (by rw[hz2];omega) (by rw[hz2,hik];exact growslice_fits hc hl);rw[hik] at h;rw[hkk];exact h
 have hG63:grownCap w (n+1) c 103≤maxLen:=grownCap_le_maxLen w (n+1) c 103 (by unfold maxLen;omega);have hGn:n+1≤grownCap w (n+1) c 103:=grownCap_ge w _ _ _;obtain⟨G,hG⟩:∃G,G=grownCap w (n+1) c 103:=⟨_,rfl⟩;rw[← hG] at hrz hG63 hGn;obtain⟨ROW,hROW⟩:∃ROW:Array Value,ROW=((aK L).take (i*2)).toArray++Builtin.zeroCells (Value.agg #[.string ByteArray.empty,.int .i64 0]).cells (n+1-i)++Builtin.zeroCells (Value.agg #[.string ByteArray.empty,.int .i64 0]).cells (G-(n+1)):=⟨_,rfl⟩;rw[← hROW] at hrz;have hRl:ROW.size=G*2:=by
  rw[hROW];simp only[Array.size_append,List.size_toArray,size_zeroCells,List.length_take,hcl]
  simp[Value.cells]
  omega
 have hRt:ROW.toList.take (i*2)=(aK L).take (i*2):=by
  rw[hROW];simp only[Array.toList_append,List.append_assoc]
  exact List.take_left' (by rw[List.length_take];omega)
 clear hROW hold;have k0:(w.drew.alloc (.cells ROW 103)).heap[w.heap.size]?=some (.cells ROW 103 (0,0)):=Blk.new w.drew _ _;have u0:Upd (fun k=>(Value.slice (some ⟨g0,0,none⟩) n c).ownBlock=some k) w (w.drew.alloc (.cells ROW 103)):=((Upd.refl _ w).drew).alloc _;have b0:Upd (fun _=>False) w (w.drew.alloc (.cells ROW 103)):=((Upd.refl _ w).drew).alloc _;generalize w.drew.alloc (.cells ROW 103)=W0 at hrz k0 u0 b0;have hcpA:∀ty dc,(Builtin.copy_ #[99,99] ty #[.slice (some ⟨w.heap.size,i*2,none⟩) (n+1-i) dc,.slice (some ⟨g,0,none⟩) 1 1]).run Tryz.prog W0=.ok (goInt 1) (W0.setCells w.heap.size (i*2) h.cells):=fun ty dc=>by
  have e:Nat.min 1 (n+1-i)=1:=by simp only[Nat.min_def];split <;> omega
  rw[fI _ 99 99 ty 103 2 w.heap.size (i*2) (n+1-i) dc ⟨g,0,none⟩ 1 1 h.cells Tryz.underlying99 hsz (by rw[e];rfl) (fun j u hu=>by rw[Addr.add_lit,Nat.zero_add,(hg.upd b0 id).cell];simpa using hu)
   (fun j hj=>iT k0 (by rw[hRl];rw[hv] at hj;omega)) (fun j hj=>iU k0 _) (by simp[Hp.cells];exact⟨rfl,rfl⟩),e]
  rfl
 obtain⟨cu1,k1,z1,l1⟩:=dH w.heap.size h.cells (i*2) W0 ROW _ k0 (by rw[hRl,hv];omega);have u1:=Upd.setCells (F:=fun k=>(Value.slice (some ⟨g0,0,none⟩) n c).ownBlock=some k) (a:=w) (b:=w.heap.size) (.inr (Nat.le_refl _)) h.cells (i*2) u0;have b1:=Upd.setCells (F:=fun _=>False) (a:=w) (b:=w.heap.size) (.inr (Nat.le_refl _)) h.cells (i*2) b0;generalize W0.setCells w.heap.size (i*2) h.cells=W1 at hcpA k1 u1 b1;have hdl:((aK L).drop (i*2)).length=(n-i)*2:=by rw[List.length_drop,hcl];omega
 obtain⟨Y,hY⟩:∃Y,Y=(aK L).drop (i*2):=⟨_,rfl⟩;rw[← hY] at hdl;have hYc:∀j u,Y[j]?=some u→W1.drew.cell? ((⟨g0,i*2,none⟩:Addr).add j)=some u:=fun j u hu=>by
  rw[hY,List.getElem?_drop] at hu;rw[Addr.add_lit];show W1.cell? _=_
  rw[b1.cell (by exact hgs) id];exact hold0 _ _ hu
 have hYo:∀u∈Y,u.oneCell'=true:=fun u hu=>AU L u (by rw[hY] at hu;exact List.mem_of_mem_drop hu)
 have hcpB:∀ty dc sc,(Builtin.copy_ #[99,99] ty #[.slice (some ⟨w.heap.size,(i+1)*2,none⟩) (n+1-(i+1)) dc,.slice (some ⟨g0,i*2,none⟩) (n-i) sc]).run Tryz.prog W1.drew=.ok (goInt ((n-i:Nat):Int)) (W1.drew.setCells w.heap.size ((i+1)*2) Y):=fun ty dc sc=>by
  have e:Nat.min (n-i) (n+1-(i+1))=n-i:=by simp only[Nat.min_def];split <;> omega
  rw[fI W1.drew 99 99 ty 103 2 w.heap.size ((i+1)*2) (n+1-(i+1)) dc ⟨g0,i*2,none⟩ (n-i) sc Y Tryz.underlying99 hsz (by rw[hdl,e]) hYc
   (fun j hj=>iT (w:=W1.drew) k1 (by rw[hdl] at hj;rw[z1,hRl];omega)) (fun j hj=>iU (w:=W1.drew) k1 _) hYo,e]
 obtain⟨cu2,k2,z2,l2⟩:=dH w.heap.size Y ((i+1)*2) W1.drew cu1 _ k1 (by rw[hdl,z1,hRl];omega);have u2:=Upd.setCells (F:=fun k=>(Value.slice (some ⟨g0,0,none⟩) n c).ownBlock=some k) (a:=w) (b:=w.heap.size) (.inr (Nat.le_refl _)) Y ((i+1)*2) u1.drew;generalize W1.drew.setCells w.heap.size ((i+1)*2) Y=W2 at hcpB k2 u2;have own':W2.ownsRow base 103 2 (.slice (some ⟨w.heap.size,0,none⟩) (eL L i h).length G) (eL L i h).length (aK (eL L i h)):=by
  rw[hil];refine⟨by rw[dC,hil],.inr ⟨w.heap.size,G,cu2,rfl,hb,k2,hGn,hG63,by rw[z2,z1,hRl],?_⟩⟩;rw[oH L i h (by omega),l2,l1,← hY,← hRt];have:=FS ROW.toList h.cells Y (i*2) (by rw[hv,hdl,Array.length_toList,hRl];omega);rw[hv,hdl] at this;rw[hdl,hv,show(n+1)*2=i*2+2+(n-i)*2 by omega,show(i+1)*2=i*2+2 by omega];exact this
 have HH:=hIz (show qZ w base (.slice (some ⟨g0,0,none⟩) n c) (eL L i h) (.returned (.slice (some ⟨w.heap.size,0,none⟩) (n+1) G)) W2 from⟨_,G,by rw[hil],own',u2,fun k hk=>.inr (by injection hk with hk;exact Nat.le_of_eq hk)⟩);clear own own' u0 u1 u2 b0 b1 k0 k1 k2 z1 z2 l1 l2 hg hRl hRt hdl hYc hYo hY hn hcl hv hsz hil hrr hold0 hik hi0 hz0 hz1 hz2;have hz2:¬((i:Int)=(n:Int)):=by omega
 have hz3:(c:Int)<(n:Int)+1:=by omega
 have hw1:IntKind.i64.wrap ((i:Int)+(1:Int))=(i:Int)+(1:Int):=by rw[IntKind.wrap_i64];omega
 have hc63:c≤9223372036854775807:=by omega
 have hG64:G≤9223372036854775807:=by unfold maxLen at hG63;omega
 have hin:i≤n:=by omega
 have hnc:n≤c:=hcm.1;have htn:((i:Int)+(1:Int)).toNat=i+1:=by omega
 have hb1:(0:Int)≤(i:Int)+1:=by omega
 have hb3:(i:Int)≤(n:Int):=by omega
 have hb4:¬(c=i):=by omega
 have hb5:¬(G=i):=by omega
 have hb6:¬(G=i+1):=by omega
 clear hcm hkk hG hG63;go_enter Tryz.func135,Tryz.ntmps135;go_upto_region 11 with (first
  | (at_builtin;refine Lib.wpList_append_run _ rfl _ _ _ _ rfl _ _ rfl rfl _ _ (hrz _) ?_)
  | (at_builtin;refine wpList_copy_runI _ rfl _ _ 99 99 rfl _ _ rfl rfl (hcpA _ _) ?_))
 refine aO (fun _=>True) 9 [(0,true),(1,true),(2,true),(3,true),(4,true),(5,true),(6,true),(7,true),(8,false)] (by kernel_rfl) (by kernel_rfl) (fun _ _ d _ _ h=>by cases d <;> exact h) trivial ?_
 iterate 8 refine aB rfl ?_
 refine aN rfl rfl (fun K hK=>?_);refine wp_copy_runI _ _ _ 99 99 rfl (.slice (some ⟨w.heap.size,(i+1)*2,none⟩) (n+1-(i+1)) (G-(i+1))) (.slice (some ⟨g0,i*2,none⟩) (n-i) (c-i)) (by simp[Act.eval]) (by simp[Act.eval]) (hcpB _ _ _) ?_;refine hK _ _ (fun _=>trivial) ?_;clear hK K;(try simp only[Act.put,gA,gS,gZ,sA,sZ,sS])
 refine aF ?_;go_wp2;go_ret;exact HH.out
theorem yW(w:World)(base:Nat)(A:Option Addr)(c:Nat)(L:List Hp)(own:w.ownsRow base 103 2 (.slice A L.length c) L.length (aK L))(g:Nat)(h:Hp)(hg:Blk w g 103 h.cells.toArray)(hne:(Value.slice A L.length c).ownBlock≠some g)(hb:base≤w.heap.size)(i:Nat)(hi:i≤L.length)(hl:(L.length+1)*24≤140737488355328) :
  Calls Tryz.prog 135 #[.slice A L.length c,.int .i64 i,.slice (some ⟨g,0,none⟩) 1 1] w (qZ w base (.slice A L.length c) (eL L i h)):=by
 rcases Nat.lt_or_eq_of_le hi with h1|rfl
 ·obtain⟨A0,c0,e5,e6,e7⟩:=aG own;injection e5 with e5 _ e8;subst e5;subst e8;rcases e7 with rfl|⟨g0,rfl⟩
  ·exfalso
   rcases own.2 with ⟨_,e⟩|⟨_,_,_,e,_⟩
   ·omega
   ·injection e with e;cases e
  ·rcases Nat.lt_or_ge c (L.length+1) with h2|h2
   ·exact vO w base g0 c L own g h hg hb i h1 h2 hl
   ·exact vN w base g0 c L own g h hg (fun e=>hne (by rw[e];rfl)) i h1 h2
 ·exact yV w base A c L own g h hg hb hl
open Go.RowKit
def tF(L:List Hp)(h:Hp):List Hp:=eL L (yU L h) h
theorem AW{L:List Hp}{h:Hp}(hn:∀x∈L,ltH x h=false):yU L h=0:=by
 unfold yU;rw[List.countP_eq_zero];intro x hx;rw[hn x hx];simp
theorem FU(h:Hp):tF [] h=[h]:=rfl
theorem FV{x:Hp}{L:List Hp}{h:Hp}(hx:ltH x h=true):tF (x::L) h=x::tF L h:=by
 unfold tF yU eL;rw[List.countP_cons_of_pos (p:=fun x=>ltH x h) hx];rfl
theorem LD{x:Hp}{L:List Hp}{h:Hp}(hup:cL ltH (x::L))(hx:ltH x h=false):tF (x::L) h=h::x::L:=by
 unfold tF eL;have h0:=(List.pairwise_cons.1 hup).1;rw[AW (fun y hy=>by
  rcases List.mem_cons.1 hy with rfl|hy
  ·exact hx
  ·cases e:ltH y h
   ·rfl
   ·rw[yT.tr _ _ _ (h0 y hy) e] at hx;cases hx)]
 rfl
theorem rC{L:List Hp}{h y:Hp}:y∈tF L h↔y∈L∨y=h:=by
 unfold tF eL;rw[List.mem_append,List.mem_cons];have:y∈L↔y∈L.take (yU L h)∨y∈L.drop (yU L h):=by rw[← List.mem_append,List.take_append_drop]
 rw[this];constructor
 ·rintro (h|h|h)
  ·exact .inl (.inl h)
  ·exact .inr h
  ·exact .inl (.inr h)
 ·rintro ((h|h)|h)
  ·exact .inl h
  ·exact .inr (.inr h)
  ·exact .inr (.inl h)
theorem lT:∀{L:List Hp} {h:Hp},cL ltH L→h ∉ L→cL ltH (tF L h)
 | [],h,_,_=>by rw[FU];exact List.pairwise_singleton _ _
 | x::L,h,hup,hn=>by
  have h0:=List.pairwise_cons.1 hup;cases hx:ltH x h with
  | true =>
   rw[FV hx];refine List.pairwise_cons.2 ⟨fun y hy=>?_,lT h0.2 (fun e=>hn (List.mem_cons_of_mem _ e))⟩;rcases rC.1 hy with h1|rfl
   ·exact h0.1 y h1
   ·exact hx
  | false =>
   rw[LD hup hx];have hhx:ltH h x=true:=by
    cases e:ltH h x with
    | true=>rfl
    | false=>exact(hn (by rw[yT.tri _ _ e hx];exact List.mem_cons_self ..)).elim
   refine List.pairwise_cons.2 ⟨fun y hy=>?_,hup⟩;rcases List.mem_cons.1 hy with rfl|hy
   ·exact hhx
   ·exact yT.tr _ _ _ hhx (h0.1 y hy)

theorem AX(w:World)(base:Nat)(A:Option Addr)(c:Nat)(L:List Hp)(h:Hp)(own:w.ownsRow base 103 2 (.slice A L.length c) L.length (aK L))(hup:cL ltH L)(hb:base≤w.heap.size)(hl:(L.length+1)*24≤140737488355328) :
  Calls Tryz.prog 92 #[.slice A L.length c,h.agg] w (qZ w base (.slice A L.length c) (tF L h)):=by
 unfold tF;obtain⟨i,hi⟩:∃i,yU L h=i:=⟨_,rfl⟩;have hil:i≤L.length:=by rw[← hi];exact KX L h
 rw[hi];obtain⟨s0,s1⟩:=h;have k0:=Blk.new w 103 #[.string s0,.int .i64 s1];have u0:Below w.heap.size w (w.alloc (.cells #[.string s0,.int .i64 s1] 103)):=bR.alloc (Nat.le_refl _) _;have H:=aI6 (own.alloc (.cells #[.string s0,.int .i64 s1] 103)) k0 u0 hup (own.lt) hi;clear k0 u0 own hup hi;unfold Hp.agg;dsimp only
 go_enter Tryz.func92,Tryz.ntmps92;go_upto_region 1 with (fail);generalize w.alloc (.cells #[.string s0,.int .i64 s1] 103)=W0 at H ⊢;have q0:W0.cell? ⟨w.heap.size,0,none⟩=some (.string s0):=H.out.2.1.cell 0;have q1:W0.cell? ⟨w.heap.size,1,none⟩=some (.int .i64 s1):=H.out.2.1.cell 1;have hcon:=AV W0 A c L ⟨s0,s1⟩ (aV.of_own H.out.1) H.out.2.2.2.1 (by omega);rw[H.out.2.2.2.2.2] at hcon;unfold Hp.agg at hcon;dsimp only at hcon
 go_wp2_with fail;refine hcon.mono ?_;clear hcon q0 q1;rintro e w1 ⟨rfl,b1⟩;have k1:=H.out.2.1.upd (upF b1) id;have k2:=Blk.new w1 103 #[.string s0,.int .i64 s1];have o2:=(aA H.out.1 (upF b1) (fun _ _ h=>h)).alloc (.cells #[.string s0,.int .i64 s1] 103);have b2:Below w.heap.size w (w1.alloc (.cells #[.string s0,.int .i64 s1] 103)):=(tHn H.out.2.2.1 b1).alloc (by have:=H.out.2.2.1.size;have:=b1.size;omega) _;have q0:w1.cell? ⟨w.heap.size,0,none⟩=some (.string s0):=k1.cell 0;have q1:w1.cell? ⟨w.heap.size,1,none⟩=some (.int .i64 s1):=k1.cell 1;have hne:(Value.slice A L.length c).ownBlock≠some w1.heap.size:=fun e=>by
  have:=(H.out.2.2.2.2.1 _ e).2;have:=b2.size;have:=H.out.2.2.1.size;have:=b1.size;omega
 have hcon:=yW _ base A c L o2 w1.heap.size ⟨s0,s1⟩ k2 hne (by have:=b2.size;omega) i hil hl;have HB:=hIz b2;clear k1 k2 o2 b2 b1;go_wp2_with fail;refine hcon.mono ?_;clear hcon q0 q1;generalize w1.alloc (.cells #[.string s0,.int .i64 s1] 103)=W2 at HB ⊢;rintro e w3 ⟨A',c',rfl,o3,u3,p3⟩;have FIN:=hIz (show qZ w base (.slice A L.length c) (eL L i ⟨s0,s1⟩) (.returned (.slice A' (eL L i ⟨s0,s1⟩).length c')) w3 from⟨A',c',rfl,o3,(Upd.of_below HB.out _).trans u3 (fun k hk=>.inl hk),fun k hk=>by
  rcases p3 k hk with h|h
  ·exact .inl h
  ·exact .inr (by have:=HB.out.size;omega)⟩)
 clear o3 u3 p3;go_wp2;go_ret;exact FIN.out
open Go.RowKit
def OfP(w:World)(N:List Txt)(E:List Ed)(e:Ending)(w':World):Prop:=
 (bT N E=false∧e=.returned (.tuple #[bQ none 0 0 none 0 0,.int .i64 173])∧Below w.heap.size w w')∨(bT N E=true∧vI w N E e w')

theorem LE(w:World)(A:Option Addr)(c:Nat)(B:Option Addr)(d:Nat)(N:List Txt)(E:List Ed)(h:dX w A c B d N E)(hb:(N.length+E.length*2)*16≤140737488355328) :
  Calls Tryz.prog 108 #[.slice A N.length c,.slice B E.length d] w (OfP w N E):=by
 have k0:=Blk.new w 34 #[.slice none 0 0,.slice none 0 0];have u0:Below w.heap.size w (w.alloc (.cells #[.slice none 0 0,.slice none 0 0] 34)):=bR.alloc (Nat.le_refl _) _;have H:=aI3 (h.below u0) k0 u0;clear h k0 u0;obtain⟨b0,hb0⟩:∃b,bT N E=b:=⟨_,rfl⟩;have HN:=hIz hb0;clear hb0;go_enter Tryz.func108,Tryz.ntmps108;go_upto_region 1 with (fail);generalize w.alloc (.cells #[.slice none 0 0,.slice none 0 0] 34)=W0 at H ⊢;have hz0:w.heap.size+1≤W0.heap.size:=H.out.2.1.lt;go_wp2_with fail;refine(sL W0 A c B d N E H.out.1).mono ?_;rintro e w1 ⟨rfl,b1⟩;rw[HN.out];have k1:=H.out.2.1.upd (upF b1) id;have fin:∀w8:World,Blk w8 w.heap.size 34 #[.slice none 0 0,.slice none 0 0]→∀v0 v1:Value,Blk ((w8.setCell ⟨w.heap.size,0,none⟩ v0).setCell ⟨w.heap.size,1,none⟩ v1) w.heap.size 34 #[v0,v1]∧Upd (fun q=>q=w.heap.size) w8 ((w8.setCell ⟨w.heap.size,0,none⟩ v0).setCell ⟨w.heap.size,1,none⟩ v1):=fun w8 k8 v0 v1 =>
  ⟨(k8.set 0 v0).set 1 v1,((Upd.refl (fun q=>q=w.heap.size) w8).setCell (p:=⟨w.heap.size,0,none⟩) (.inl rfl) v0).setCell (p:=⟨w.heap.size,1,none⟩) (.inl rfl) v1⟩
 have H1:=aI3 (H.out.1.below b1) k1 (tHn H.out.2.2 b1);have FN:=hIz fin;have z1:=b1.size;clear k1 b1 fin;cases b0
 ·have c0:w1.cell? ⟨w.heap.size,0,none⟩=some (.slice none 0 0):=H1.out.2.1.cell 0;have c1':w1.cell? ⟨w.heap.size,1,none⟩=some (.slice none 0 0):=H1.out.2.1.cell 1;have f0:=H1.out.2.1.frozen 0;have f1:=H1.out.2.1.frozen 1;obtain⟨kF,uF⟩:=FN.out _ H1.out.2.1 (.slice none 0 0) (.slice none 0 0);have e0:=kF.cell 0;have e1:=kF.cell 1;simp only[List.getElem?_toArray,List.getElem?_cons_succ,List.getElem?_cons_zero] at e0 e1
  have FIN:=hIz (show OfP w N E (.returned (.tuple #[bQ none 0 0 none 0 0,.int .i64 173])) _ from .inl ⟨HN.out,rfl,H1.out.2.2.trans (uF.below (fun q _ e=>by omega) H1.out.2.2.size)⟩);clear kF uF;go_wp2;refine bodyPost_ret (v:=.tuple #[bQ none 0 0 none 0 0,.int .i64 173]) (by simp[results,Tryz.f108,go_sem,bQ,e0,e1]) rfl FIN.out
 ·go_wp2_with fail;refine(FP w1 A c B d N E H1.out.1 (fW.of HN.out) hb).mono ?_;rintro e w2 (⟨hc,A2,c2,B2,d2,rfl,oT,oE,b2⟩|⟨hc,rfl,b2⟩)
  ·have k2:=H1.out.2.1.upd (upF b2) id;have c0:w2.cell? ⟨w.heap.size,0,none⟩=some (.slice none 0 0):=k2.cell 0;have c1':w2.cell? ⟨w.heap.size,1,none⟩=some (.slice none 0 0):=k2.cell 1;have f0:=k2.frozen 0;have f1:=k2.frozen 1;obtain⟨n,hn⟩:∃n,(gN N E).length=n:=⟨_,rfl⟩;obtain⟨m,hm⟩:∃m,(gE E).length=m:=⟨_,rfl⟩;obtain⟨kF,uF⟩:=FN.out _ k2 (.slice A2 n c2) (.slice B2 m d2);have e0:=kF.cell 0;have e1:=kF.cell 1;simp only[List.getElem?_toArray,List.getElem?_cons_succ,List.getElem?_cons_zero] at e0 e1
   have bw:=tHn H1.out.2.2 b2;have FIN:=hIz (show OfP w N E (.returned (.tuple #[bQ A2 n c2 B2 m d2,.int .i64 0])) _ from .inr ⟨HN.out,.inl ⟨hc,A2,c2,B2,d2,by rw[hn,hm],aJ (aA oT uF (fun q hq e=>by have:=(oT.lt q hq).1;omega)) (fun q hq=>by have:=(oT.lt q hq).1;omega),aJ (aA oE uF (fun q hq e=>by have:=(oE.lt q hq).1;omega)) (fun q hq=>by have:=(oE.lt q hq).1;omega),bw.trans (uF.below (fun q _ e=>by omega) bw.size)⟩⟩);rw[hn,hm];unfold bQ;clear kF uF oT oE b2 bw k2 hc hn hm;go_wp2;refine bodyPost_ret (v:=.tuple #[bQ A2 n c2 B2 m d2,.int .i64 0]) (by simp[results,Tryz.f108,go_sem,bQ,e0,e1]) rfl FIN.out
  ·have k2:=H1.out.2.1.upd (upF b2) id;have c0:w2.cell? ⟨w.heap.size,0,none⟩=some (.slice none 0 0):=k2.cell 0;have c1':w2.cell? ⟨w.heap.size,1,none⟩=some (.slice none 0 0):=k2.cell 1;have f0:=k2.frozen 0;have f1:=k2.frozen 1;obtain⟨cp,hcp⟩:∃cp,cI (gN N E) (gE E)=cp:=⟨_,rfl⟩;obtain⟨kF,uF⟩:=FN.out _ k2 (.slice none 0 0) (.slice none 0 0);have e0:=kF.cell 0;have e1:=kF.cell 1;simp only[List.getElem?_toArray,List.getElem?_cons_succ,List.getElem?_cons_zero] at e0 e1
   have bw:=tHn H1.out.2.2 b2;have FIN:=hIz (show OfP w N E (.returned (.tuple #[bQ none 0 0 none 0 0,.int .i64 cp])) _ from .inr ⟨HN.out,.inr ⟨hc,by rw[hcp],bw.trans (uF.below (fun q _ e=>by omega) bw.size)⟩⟩);rw[hcp];unfold bQ;clear kF uF b2 bw k2 hc hcp;go_wp2;refine bodyPost_ret (v:=.tuple #[bQ none 0 0 none 0 0,.int .i64 cp]) (by simp[results,Tryz.f108,go_sem,bQ,e0,e1]) rfl FIN.out
open Go.RowKit
def pH(N:List Txt)(E:List Ed)(N':List Txt)(E':List Ed):Bool:=decide (N=N')&&decide (E=E')
open Go.RowKit
theorem mZ{α β:Type}[DecidableEq α](f:α→List β):∀{L M:List α},L.Nodup→(∀x∈L,x∈M)→(L.flatMap f).length≤(M.flatMap f).length
 | [],M,_,_=>by simp
 | a::L,M,hd,hs=>by
  obtain⟨h1,h2⟩:=List.nodup_cons.1 hd;have hp:=List.perm_cons_erase (hs a (by simp));have ih:=mZ f (L:=L) (M:=M.erase a) h2 (fun x hx=>by
   have hne:x≠a:=by rintro rfl;exact h1 hx
   exact(List.mem_erase_of_ne hne).2 (hs x (by simp[hx])))
  have hl:=(hp.flatMap_right f).length_eq;rw[List.flatMap_cons,List.length_append] at hl ⊢;omega
theorem fN{α:Type}[DecidableEq α]{L M:List α}(hd:L.Nodup)(hs:∀x∈L,x∈M):L.length≤M.length:=by
 have:=mZ (fun x=>[x]) hd hs;simpa using this
theorem cL.nodup{α:Type}{lt:α→α→Bool}(hs:Sto lt){l:List α}(h:cL lt l):l.Nodup:=List.Pairwise.imp (fun {_a _b} h=>hs.ne h) h
theorem FW{E:List Ed}{s:Txt}:s∈eE E E.length↔∃x∈E,s=x.fr∨s=x.to:=by
 rw[lP];constructor
 ·rintro⟨i,x,_,hx,h⟩;exact⟨x,mG hx,h⟩
 ·rintro⟨x,hx,h⟩;obtain⟨i,hi,e⟩:=List.getElem_of_mem hx;exact⟨i,x,hi,by rw[gEz hi,e],h⟩
theorem wW{N:List Txt}{E:List Ed}{s:Txt}:s∈cB N E↔s∈N∧¬∃x∈E,s=x.fr∨s=x.to:=by
 unfold cB;rw[List.mem_filter,← FW,← aQ (s:=s) (N:=eE E E.length)];simp
theorem AY(s:Txt):(eK s).length=s.size+3:=by simp[eK,JS]
theorem BB(x:Ed):(gU x).length=x.fr.size+x.lb.size+x.to.size+5:=by simp[gU,JS];omega
theorem pV:∀(D:List Ed),(∀x∈D,1≤x.lb.size)→((D.flatMap gV).flatMap eK).length≤(D.flatMap gU).length
 | [],_=>by simp
 | x::D,h=>by
  have ih:=pV D (fun y hy=>h y (by simp[hy]));have h1:=h x (by simp);simp only[List.flatMap_cons,List.flatMap_append,List.length_append,BB]
  simp only[gV,List.flatMap_cons,List.flatMap_nil,List.append_nil,List.length_append,AY]
  omega
theorem FX{N N':List Txt}{E E':List Ed}(hN:N'.Nodup)(hE:E.Nodup)(hE':E'.Nodup)(sN:∀s∈N',s∈N)(sE:∀x∈E',x∈E)(hl:∀x∈E,1≤x.lb.size) :
  (jG N' E').length≤(jG N E).length:=by
 have h1:(cB N' E').Nodup:=List.Nodup.sublist List.filter_sublist hN;have h2:((cB N' E').flatMap eK).length≤((cB N E++(E.filter fun x=>!decide (x∈E')).flatMap gV).flatMap eK).length:=by
  refine mZ eK h1 (fun s hs=>?_);obtain⟨m1,m2⟩:=wW.1 hs;rw[List.mem_append];by_cases h:∃x∈E,s=x.fr∨s=x.to
  ·obtain⟨x,hx,hsx⟩:=h;refine .inr (List.mem_flatMap.2 ⟨x,List.mem_filter.2 ⟨hx,?_⟩,?_⟩)
   ·simp only[Bool.not_eq_true',decide_eq_false_iff_not]
    intro hx';exact m2 ⟨x,hx',hsx⟩
   ·simp[gV];exact hsx
  ·exact .inl (wW.2 ⟨sN s m1,h⟩)
 have h3:=pV (E.filter fun x=>!decide (x∈E')) (fun x hx=>hl x (List.mem_filter.1 hx).1);have h4:((E'++E.filter fun x=>!decide (x∈E')).flatMap gU).length≤(E.flatMap gU).length:=by
  refine mZ gU ?_ (fun x hx=>?_)
  ·rw[List.nodup_append];refine⟨hE',List.Nodup.sublist List.filter_sublist hE,fun a ha b hb=>?_⟩;rintro rfl;have:=(List.mem_filter.1 hb).2;simp[ha] at this
  ·rcases List.mem_append.1 hx with hx|hx
   ·exact sE x hx
   ·exact(List.mem_filter.1 hx).1
 unfold jG;simp only[List.flatMap_append,List.length_append] at h2 h4 ⊢
 omega
theorem vP{E:List Ed}{s:Txt}:s∈lbs E↔∃x∈E,x.lb=s:=List.mem_map
theorem FY{N N':List Txt}{E E':List Ed}(hN:N'.Nodup)(hE:E.Nodup)(hE':E'.Nodup)(sN:∀s∈N',s∈N)(sE:∀x∈E',x∈E)(hl:∀x∈E,1≤x.lb.size)(h:cI N E=0):cI N' E'=0:=by
 unfold cI at h ⊢;have h1:=fN hN sN;have h2:(aR ltT (lbs E')).length≤(aR ltT (lbs E)).length:=fN ((aZ dW _).up.nodup dW) (fun s hs=>by
  obtain⟨x,hx,e⟩:=vP.1 (((aZ dW _).mem s).1 hs);exact((aZ dW _).mem s).2 (vP.2 ⟨x,sE x hx,e⟩))
 have h3:=fN hE' sE;have h4:=FX hN hE hE' sN sE hl;split at h
 ·omega
 split at h
 ·omega
 split at h
 ·omega
 split at h
 ·omega
 rw[if_neg (by omega),if_neg (by omega),if_neg (by omega),if_neg (by omega)]

def ofI(N:List Txt)(E:List Ed):Int:=if bT N E=false then 173 else cI (gN N E) (gE E)
theorem cU{N:List Txt}{E:List Ed}:bT N E=true↔(∀s∈N,cH s=true)∧∀x∈E,cH x.fr=true∧eP x.lb=true∧cH x.to=true:=by
 unfold bT dY;simp[List.all_eq_true]
theorem kE{N:List Txt}{E:List Ed}{s:Txt}:s∈gN N E↔s∈N∨∃x∈E,s=x.fr∨s=x.to:=((aZ dW _).mem s).trans nW
theorem fO{E:List Ed}{x:Ed}:x∈gE E↔x∈E:=(aZ jR E).mem x
theorem wX(N:List Txt)(E:List Ed):(gN N E).Nodup:=(aZ dW _).up.nodup dW
theorem rD(E:List Ed):(gE E).Nodup:=(aZ jR _).up.nodup jR
theorem fP{N:List Txt}{E:List Ed}(h:ofI N E=0):bT N E=true:=by
 unfold ofI at h;split at h
 ·cases h
 ·rename_i h1;simpa using h1
theorem rF{N:List Txt}{E:List Ed}(h:ofI N E=0):cI (gN N E) (gE E)=0:=by
 unfold ofI at h;split at h
 ·cases h
 ·exact h
theorem NP{N:List Txt}{E:List Ed}(h:bT N E=true):∀x∈E,1≤x.lb.size:=fun x hx=>(fM (nP ((cU.1 h).2 x hx).2.1)).1
theorem BC{N N':List Txt}{E E':List Ed}(sN:∀s∈N',s∈N∨∃x∈E,s=x.fr∨s=x.to)(sE:∀x∈E',x∈E)(h:ofI N E=0):ofI N' E'=0:=by
 have hn:=fP h;have hn':bT N' E'=true:=by
  rw[cU] at hn ⊢;refine⟨fun s hs=>?_,fun x hx=>hn.2 x (sE x hx)⟩;rcases sN s hs with h1|⟨x,hx,rfl|rfl⟩
  ·exact hn.1 s h1
  ·exact(hn.2 x hx).1
  ·exact(hn.2 x hx).2.2
 unfold ofI;rw[hn'];simp only[Bool.true_eq_false,if_false]
 refine FY (wX _ _) (rD _) (rD _) (fun s hs=>?_) (fun x hx=>fO.2 (sE x (fO.1 hx))) (fun x hx=>NP hn x (fO.1 hx)) (rF h);rw[kE] at hs ⊢;rcases hs with h1|⟨x,hx,h1⟩
 ·exact sN s h1
 ·exact .inr ⟨x,sE x hx,h1⟩
theorem rG{N N':List Txt}{E E':List Ed}(h:∀s,(s∈N∨∃x∈E,s=x.fr∨s=x.to)↔(s∈N'∨∃x∈E',s=x.fr∨s=x.to)):gN N E=gN N' E':=
 (aZ dW _).uniq dW (aZ dW _) (fun s=>nW.trans ((h s).trans nW.symm))
theorem rH{E E':List Ed}(h:∀x,x∈E↔x∈E'):gE E=gE E':=(aZ jR _).uniq jR (aZ jR _) h
theorem nB{N N':List Txt}{E E':List Ed}(h:∀s,(s∈N∨∃x∈E,s=x.fr∨s=x.to)↔(s∈N'∨∃x∈E',s=x.fr∨s=x.to))(k:∀x,x∈E↔x∈E')
  (hm:∀s∈N,s∈N'∨∃x∈E',s=x.fr∨s=x.to) (hm':∀s∈N',s∈N∨∃x∈E,s=x.fr∨s=x.to):ofI N E=ofI N' E':=by
 have h1:bT N E=bT N' E':=by
  rw[Bool.eq_iff_iff,cU,cU];constructor
  ·rintro⟨a,b⟩;refine⟨fun s hs=>?_,fun x hx=>b x ((k x).2 hx)⟩;rcases hm' s hs with h1|⟨x,hx,rfl|rfl⟩
   ·exact a s h1
   ·exact(b x hx).1
   ·exact(b x hx).2.2
  ·rintro⟨a,b⟩;refine⟨fun s hs=>?_,fun x hx=>b x ((k x).1 hx)⟩;rcases hm s hs with h1|⟨x,hx,rfl|rfl⟩
   ·exact a s h1
   ·exact(b x hx).1
   ·exact(b x hx).2.2
 unfold ofI;rw[h1,rG h,rH k]

structure Gr where
 N:List Txt
 X:List Ed
structure GOk(G:Gr):Prop where
 nd:G.N.Nodup
 xd:G.X.Nodup
 ends:∀x∈G.X,x.fr∈G.N∧x.to∈G.N
 may:ofI G.N G.X=0
def bG(N:List Txt)(s:Txt):List Txt:=if inB s N=true then N else N++[s]
theorem cO{N:List Txt}{s t:Txt}:t∈bG N s↔t∈N∨t=s:=by
 unfold bG;split
 ·rename_i h
  constructor
  ·exact .inl
  ·rintro (h1|rfl)
   ·exact h1
   ·exact aQ.1 h
 ·simp
theorem gK{N:List Txt}(h:N.Nodup)(s:Txt):(bG N s).Nodup:=by
 unfold bG;split
 ·exact h
 ·rename_i hs
  rw[List.nodup_append];refine⟨h,by simp,fun a ha b hb=>?_⟩;rw[List.mem_singleton] at hb;subst hb;rintro rfl;exact hs (aQ.2 ha)
def aS(G:Gr)(s:Txt):Gr × Bool × Int:=
 if inB s G.N=true then (G,false,0) else if ofI (G.N++[s]) G.X=0 then (⟨G.N++[s],G.X⟩,true,0) else (G,false,ofI (G.N++[s]) G.X)
def aP(G:Gr)(x:Ed):Gr × Bool × Int:=
 if x∈G.X then (G,false,0) else if ofI G.N (G.X++[x])=0 then (⟨bG (bG G.N x.fr) x.to,G.X++[x]⟩,true,0) else (G,false,ofI G.N (G.X++[x]))
theorem GOk.new:GOk ⟨[],[]⟩:=⟨by simp,by simp,by simp,by
 have h1:gE []=[]:=by
  have h:∀x:Ed,x ∉ gE []:=fun x hx=>by simpa using fO.1 hx
  exact List.eq_nil_iff_forall_not_mem.2 h
 have h2:gN [] []=[]:=by
  have h:∀x:Txt,x ∉ gN [] []:=fun x hx=>by simpa using kE.1 hx
  exact List.eq_nil_iff_forall_not_mem.2 h
 have h3:aR ltT (lbs [])=[]:=by
  have h:∀x:Txt,x ∉ aR ltT (lbs []):=fun x hx=>by simpa[lbs] using ((aZ dW _).mem x).1 hx
  exact List.eq_nil_iff_forall_not_mem.2 h
 simp[ofI,bT,h1,h2,cI,h3,jG,cB]⟩
theorem GOk.node{G:Gr}(h:GOk G)(s:Txt):GOk (aS G s).1:=by
 unfold aS;split
 ·exact h
 split
 ·rename_i h1 h2
  refine⟨?_,h.xd,fun x hx=>⟨List.mem_append.2 (.inl (h.ends x hx).1),List.mem_append.2 (.inl (h.ends x hx).2)⟩,h2⟩;have:=gK h.nd s;unfold bG at this;rwa [if_neg h1] at this
 ·exact h
theorem GOk.edge{G:Gr}(h:GOk G)(x:Ed):GOk (aP G x).1:=by
 unfold aP;split
 ·exact h
 split
 ·rename_i h1 h2
  refine⟨gK (gK h.nd _) _,?_,?_,?_⟩
  ·rw[List.nodup_append];refine⟨h.xd,by simp,fun a ha b hb=>?_⟩;rw[List.mem_singleton] at hb;subst hb;rintro rfl;exact h1 ha
  ·intro y hy;simp only[cO]
   rcases List.mem_append.1 hy with hy|hy
   ·exact⟨.inl (.inl (h.ends y hy).1),.inl (.inl (h.ends y hy).2)⟩
   ·rw[List.mem_singleton] at hy;subst hy;exact⟨.inl (.inr rfl),.inr rfl⟩
  ·refine BC (N:=G.N) (E:=G.X++[x]) (fun s hs=>?_) (fun _ hy=>hy) h2;simp only[cO] at hs
   rcases hs with (hs|rfl)|rfl
   ·exact .inl hs
   ·exact .inr ⟨x,by simp,.inl rfl⟩
   ·exact .inr ⟨x,by simp,.inr rfl⟩
 ·exact h
def datN(G:Gr):List Txt:=gN G.N G.X
def datE(G:Gr):List Ed:=gE G.X
theorem kG{G:Gr}(h:GOk G){s:Txt}:s∈datN G↔s∈G.N:=by
 unfold datN;rw[kE];constructor
 ·rintro (h1|⟨x,hx,rfl|rfl⟩)
  ·exact h1
  ·exact(h.ends x hx).1
  ·exact(h.ends x hx).2
 ·exact .inl
theorem LF{G:Gr}(N:List Txt)(E:List Ed):ofI (datN G++N) (datE G++E)=ofI (G.N++N) (G.X++E):=by
 have e:∀x,x∈datE G++E↔x∈G.X++E:=fun x=>by rw[List.mem_append,List.mem_append,datE,fO]
 have m1:∀s∈datN G++N,s∈G.N++N∨∃x∈G.X++E,s=x.fr∨s=x.to:=fun s hs=>by
  rcases List.mem_append.1 hs with hs|hs
  ·rcases kE.1 hs with h1|⟨x,hx,h1⟩
   ·exact .inl (List.mem_append.2 (.inl h1))
   ·exact .inr ⟨x,List.mem_append.2 (.inl hx),h1⟩
  ·exact .inl (List.mem_append.2 (.inr hs))
 have m2:∀s∈G.N++N,s∈datN G++N∨∃x∈datE G++E,s=x.fr∨s=x.to:=fun s hs=>by
  rcases List.mem_append.1 hs with hs|hs
  ·exact .inl (List.mem_append.2 (.inl (kE.2 (.inl hs))))
  ·exact .inl (List.mem_append.2 (.inr hs))
 refine nB (fun s=>?_) e m1 m2;constructor
 ·rintro (h|⟨x,hx,h⟩)
  ·exact m1 s h
  ·exact .inr ⟨x,(e x).1 hx,h⟩
 ·rintro (h|⟨x,hx,h⟩)
  ·exact m2 s h
  ·exact .inr ⟨x,(e x).2 hx,h⟩
open Go
section
variable {P:Program} {ops:Array Oper} {Q:Exit→Act→World→Prop} {md:Region.Mode} {S:World→Prop} {n:Nat}
theorem gC{rid:Nat}{a:Act}{w:World}{l:List Oper}(S:World→Prop)(hm:P.follows .mixedOrders=true)(_hsel:Region.noSelect l.toArray=true)
  (_hS:S w.drew) (h:bH P .any l.toArray Q S l.toArray.size l.length (Array.replicate l.toArray.size false) a w.drew):(Code.region rid l.toArray true).wp P Q a w:=by
 refine wp_region_any hm (lK (S:=S) (n:=l.toArray.size) _ _ _ _ ?_);simpa using h
theorem oI{f m:Nat}{a:Act}{w:World}(h:dM md ops (Array.replicate m false)→bH P md ops Q S n f (Array.replicate m false) a w):bH P md ops Q S n f (Array.replicate m false) a w:=h (lJ m)
theorem GC{i f:Nat}{listed:Array Bool}{a:Act}{w:World}{oi:Oper}{v:Value}(hi:ops[i]?=some oi)(hB:(Region.noSelect ops&&Region.free md ops listed i&&(Region.ready md ops listed).contains i)=true)
  (hd:dM md ops listed) (hn:ops.size≤n) (hQ:∀c a d v w,Q (.panic c) (Act.put a d v) w→Q (.panic c) a w) (hS:S w)
  (hw:Region.wanted oi (yielded ops a.tmps)=true) (hy:∀w,S w→(execOp a.eval oi).run P w=.ok (.value v) w)
  (h:dM md ops (listed.setIfInBounds i true)→bH P md ops Q S n f (listed.setIfInBounds i true) (a.put oi.dst v) w):bH P md ops Q S n (f+1) listed a w:=by
 simp only[Bool.and_eq_true] at hB
 obtain⟨⟨h1,h2⟩,h3⟩:=hB;have hr:i∈Region.ready md ops listed:=by simpa using h3
 exact mI (f:=ops.size) hi (Region.noSelect_spec h1) (fun c a w=>hQ c a _ _ w) (.inl hn) f listed a w (Region.free_spec hi h2) hd hr (.inl ⟨hw,hy⟩) hS (h (hd.set hr))
theorem oJ{f:Nat}{listed:Array Bool}{a:Act}{w:World}{L:List Nat}(hd:dM md ops listed)(hL:Region.ready md ops listed=L)(hne:L≠[])
  (h:∀i∈L,(dM md ops (listed.setIfInBounds i true))→wpOp P ops Q i (fun a' w'=>(i≠n→S w')∧bH P md ops Q S n f (listed.setIfInBounds i true) a' w') a w):bH P md ops Q S n (f+1) listed a w:=
 FC hL hne (fun i hi=>h i hi (hd.set (by rw[hL];exact hi)))
end
theorem aD{P:Program}{ops:Array Oper}{Q:Exit→Act→World→Prop}{S:World→Prop}{a:Act}{w:World}{oi:Oper}{v:Value}{md:Region.Mode}{n f:Nat}{listed l':Array Bool}{a':Act}(i:Nat)(hi:ops[i]?=some oi)(hd:dM md ops listed)(hS:S w)(h:dM md ops l'→bH P md ops Q S n f l' a' w)(hn:ops.size≤n:=by exact Nat.le_refl _)(hB:(Region.noSelect ops&&Region.free md ops listed i&&(Region.ready md ops listed).contains i)=true:=by kernel_rfl)(hQ:∀c a d v w,Q (.panic c) (Act.put a d v) w→Q (.panic c) a w:=by intro _ _ d _ _ h;cases d <;> exact h)(hw:Region.wanted oi (yielded ops a.tmps)=true:=by first | with_reducible rfl | kernel_rfl)(hy:∀w,S w→(execOp a.eval oi).run P w=.ok (.value v) w:=by intro wS hS;(try dsimp only at hS);go_split_ands;go_simp;(try with_reducible rfl);done)(e:a.put oi.dst v=a':=by(try simp only[Act.put,gA,gS,gZ,sA,sZ,sS]);first | done | exact rfl)(e2:listed.setIfInBounds i true=l':=by(try simp only[Act.put,gA,gS,gZ,sA,sZ,sS]);first | done | exact rfl):bH P md ops Q S n (f+1) listed a w:=by subst e e2;exact GC hi hB hd hn hQ hS hw hy h
theorem aM{P:Program}{ops:Array Oper}{Q:Exit→Act→World→Prop}{S:World→Prop}{md:Region.Mode}{n:Nat}{f:Nat}{listed:Array Bool}{a:Act}{w:World}(hd:dM md ops listed)(i0:Nat)(h0:dM md ops (listed.setIfInBounds i0 true)→wpOp P ops Q i0 (fun a' w'=>(i0≠n→S w')∧bH P md ops Q S n f (listed.setIfInBounds i0 true) a' w') a w)(hL:Region.ready md ops listed=[i0]:=by kernel_rfl):bH P md ops Q S n (f+1) listed a w:=by
  refine oJ hd hL (by simp) (fun i hi hd2=>?_);obtain rfl:=List.mem_singleton.1 hi;exact h0 hd2
theorem cP{P:Program}{ops:Array Oper}{Q:Exit→Act→World→Prop}{S:World→Prop}{md:Region.Mode}{n:Nat}{f:Nat}{listed:Array Bool}{a:Act}{w:World}(hd:dM md ops listed)(i0 i1:Nat)(h0:dM md ops (listed.setIfInBounds i0 true)→wpOp P ops Q i0 (fun a' w'=>(i0≠n→S w')∧bH P md ops Q S n f (listed.setIfInBounds i0 true) a' w') a w)(h1:dM md ops (listed.setIfInBounds i1 true)→wpOp P ops Q i1 (fun a' w'=>(i1≠n→S w')∧bH P md ops Q S n f (listed.setIfInBounds i1 true) a' w') a w)(hL:Region.ready md ops listed=[i0,i1]:=by kernel_rfl):bH P md ops Q S n (f+1) listed a w:=by
  refine oJ hd hL (by simp) (fun i hi hd2=>?_);simp only[List.mem_cons,List.not_mem_nil,or_false] at hi
  rcases hi with rfl|rfl
  exact h0 hd2;exact h1 hd2
theorem wY{P:Program}{ops:Array Oper}{Q:Exit→Act→World→Prop}{S:World→Prop}{md:Region.Mode}{n:Nat}{f:Nat}{listed:Array Bool}{a:Act}{w:World}(hd:dM md ops listed)(i0 i1 i2:Nat)(h0:dM md ops (listed.setIfInBounds i0 true)→wpOp P ops Q i0 (fun a' w'=>(i0≠n→S w')∧bH P md ops Q S n f (listed.setIfInBounds i0 true) a' w') a w)(h1:dM md ops (listed.setIfInBounds i1 true)→wpOp P ops Q i1 (fun a' w'=>(i1≠n→S w')∧bH P md ops Q S n f (listed.setIfInBounds i1 true) a' w') a w)(h2:dM md ops (listed.setIfInBounds i2 true)→wpOp P ops Q i2 (fun a' w'=>(i2≠n→S w')∧bH P md ops Q S n f (listed.setIfInBounds i2 true) a' w') a w)(hL:Region.ready md ops listed=[i0,i1,i2]:=by kernel_rfl):bH P md ops Q S n (f+1) listed a w:=by
  refine oJ hd hL (by simp) (fun i hi hd2=>?_);simp only[List.mem_cons,List.not_mem_nil,or_false] at hi
  rcases hi with rfl|rfl|rfl
  exact h0 hd2;exact h1 hd2;exact h2 hd2
theorem OT{P:Program}{ops:Array Oper}{Q:Exit→Act→World→Prop}{S:World→Prop}{md:Region.Mode}{n:Nat}{f:Nat}{listed:Array Bool}{a:Act}{w:World}(hd:dM md ops listed)(i0 i1 i2 i3:Nat)(h0:dM md ops (listed.setIfInBounds i0 true)→wpOp P ops Q i0 (fun a' w'=>(i0≠n→S w')∧bH P md ops Q S n f (listed.setIfInBounds i0 true) a' w') a w)(h1:dM md ops (listed.setIfInBounds i1 true)→wpOp P ops Q i1 (fun a' w'=>(i1≠n→S w')∧bH P md ops Q S n f (listed.setIfInBounds i1 true) a' w') a w)(h2:dM md ops (listed.setIfInBounds i2 true)→wpOp P ops Q i2 (fun a' w'=>(i2≠n→S w')∧bH P md ops Q S n f (listed.setIfInBounds i2 true) a' w') a w)(h3:dM md ops (listed.setIfInBounds i3 true)→wpOp P ops Q i3 (fun a' w'=>(i3≠n→S w')∧bH P md ops Q S n f (listed.setIfInBounds i3 true) a' w') a w)(hL:Region.ready md ops listed=[i0,i1,i2,i3]:=by kernel_rfl):bH P md ops Q S n (f+1) listed a w:=by
  refine oJ hd hL (by simp) (fun i hi hd2=>?_);simp only[List.mem_cons,List.not_mem_nil,or_false] at hi
  rcases hi with rfl|rfl|rfl|rfl
  exact h0 hd2;exact h1 hd2;exact h2 hd2;exact h3 hd2
theorem OU{P:Program}{ops:Array Oper}{Q:Exit→Act→World→Prop}{S:World→Prop}{md:Region.Mode}{n:Nat}{f:Nat}{listed:Array Bool}{a:Act}{w:World}(hd:dM md ops listed)(i0 i1 i2 i3 i4:Nat)(h0:dM md ops (listed.setIfInBounds i0 true)→wpOp P ops Q i0 (fun a' w'=>(i0≠n→S w')∧bH P md ops Q S n f (listed.setIfInBounds i0 true) a' w') a w)(h1:dM md ops (listed.setIfInBounds i1 true)→wpOp P ops Q i1 (fun a' w'=>(i1≠n→S w')∧bH P md ops Q S n f (listed.setIfInBounds i1 true) a' w') a w)(h2:dM md ops (listed.setIfInBounds i2 true)→wpOp P ops Q i2 (fun a' w'=>(i2≠n→S w')∧bH P md ops Q S n f (listed.setIfInBounds i2 true) a' w') a w)(h3:dM md ops (listed.setIfInBounds i3 true)→wpOp P ops Q i3 (fun a' w'=>(i3≠n→S w')∧bH P md ops Q S n f (listed.setIfInBounds i3 true) a' w') a w)(h4:dM md ops (listed.setIfInBounds i4 true)→wpOp P ops Q i4 (fun a' w'=>(i4≠n→S w')∧bH P md ops Q S n f (listed.setIfInBounds i4 true) a' w') a w)(hL:Region.ready md ops listed=[i0,i1,i2,i3,i4]:=by kernel_rfl):bH P md ops Q S n (f+1) listed a w:=by
  refine oJ hd hL (by simp) (fun i hi hd2=>?_);simp only[List.mem_cons,List.not_mem_nil,or_false] at hi
  rcases hi with rfl|rfl|rfl|rfl|rfl
  exact h0 hd2;exact h1 hd2;exact h2 hd2;exact h3 hd2;exact h4 hd2
open Go
section
variable {P:Program} {ops:Array Oper} {Q:Exit→Act→World→Prop} {md:Region.Mode} {S:World→Prop} {late:Nat→Bool}
def aT(n i:Nat):Bool:=decide (n≤i)
def bO(P:Program)(md:Region.Mode)(ops:Array Oper)(Q:Exit→Act→World→Prop)(S:World→Prop)(late:Nat→Bool):Nat→Array Bool→Act→World→Prop
 | 0,listed,a,w=>Region.ready md ops listed=[]∧Q .normal a w
 | fuel+1,listed,a,w =>
  (Region.ready md ops listed=[]→Q .normal a w) ∧
  ∀i∈Region.ready md ops listed,wpOp P ops Q i (fun a' w'=>(late i=false→S w→S w')∧bO P md ops Q S late fuel (listed.setIfInBounds i true) a' w') a w
theorem pW:∀(fuel:Nat) (listed:Array Bool) (a:Act) (w:World),bO P md ops Q S late fuel listed a w→wpAny P md ops Q fuel listed a w
 | 0,_,_,_,h=>h
 | fuel+1,_,_,_,h=>⟨h.1,fun i hi=>wpOp_mono (fun a' w' h'=>pW fuel _ a' w' h'.2) (h.2 i hi)⟩
theorem tG{i f:Nat}{oi:Oper}{v:Value}(hi:ops[i]?=some oi)(hsel:∀(j:Nat) (o:Oper) cs b,ops[j]?=some o→o.op≠.select cs b)
  (hQ:∀c a w,Q (.panic c) (a.put oi.dst v) w→Q (.panic c) a w) (hpn:∀j,j<ops.size→late j=true→i∈sJ md ops f [j]) :
  ∀(fuel:Nat) (listed:Array Bool) (a:Act) (w:World),
   (∀j oj,ops[j]?=some oj→j≠i→listed.getD j true=false→(∀e∈oj.after,Region.binds md e=true→e.on≠i)→oi.apart ops oj=true) →
   dM md ops listed→i∈Region.ready md ops listed→YieldsIf P ops S oi v a→S w →
   bO P md ops Q S late fuel (listed.setIfInBounds i true) (a.put oi.dst v) w→bO P md ops Q S late (fuel+1) listed a w:=by
 intro fuel;induction fuel with
 | zero =>
  intro listed a w _ _ hr hy hS H;refine⟨fun h=>(by rw[h] at hr;cases hr),fun j hj=>?_⟩;by_cases hji:j=i
  ·subst hji;exact hy.wpOp hi hS ⟨fun _ h=>h,H⟩
  ·have:=ready_mono hj hji;rw[H.1] at this;cases this
 | succ fuel ih =>
  intro listed a w hfree hd hr hy hS H;refine⟨fun h=>(by rw[h] at hr;cases hr),fun j hj=>?_⟩;by_cases hji:j=i
  ·subst hji;exact hy.wpOp hi hS ⟨fun _ h=>h,H⟩
  ·have h1:=H.2 j (ready_mono hj hji);obtain⟨hjun,oj,hoj,hall⟩:=mem_ready.1 hj;have hiun:listed.getD i false=false:=by
    have h0:=(mem_ready.1 hr).1;rcases Nat.lt_or_ge i listed.size with h' | h'
    ·simp[h'] at h0 ⊢;exact h0
    ·simp[Array.getElem?_eq_none h']
   have hnot:∀e∈oj.after,Region.binds md e=true→e.on≠i:=fun e he hb heq=>by
    have h1:=hall e he hb;rw[heq,hiun] at h1;cases h1
   have hjn:late j=false:=by
    cases hp:late j with
    | false=>rfl
    | true =>
     exfalso
     have hp:=hpn j (Array.getElem?_eq_some_iff.1 hoj).1 hp;have hd':=hd.set hj;have hl:∀k∈[j],(listed.setIfInBounds j true).getD k false=true:=by
      intro k hk;obtain rfl:=List.mem_singleton.1 hk;have hks:k<listed.size:=by
       rcases Nat.lt_or_ge k listed.size with h' | h'
       ·exact h'
       ·simp[Array.getElem?_eq_none h'] at hjun
      simp[hks]
     have:=iF hd' f [j] hl i hp;rw[getD_set_ne false hji,hiun] at this;cases this
   have h2:=wpOp_putIf hoj (hfree j oj hoj hji hjun hnot) (fun cs b=>hsel i oi cs b hi) (fun cs b=>hsel j oj cs b hoj) hQ hy h1;have hfree':∀k ok,ops[k]?=some ok→k≠i→(listed.setIfInBounds j true).getD k true=false →
     (∀e∈ok.after,Region.binds md e=true→e.on≠i)→oi.apart ops ok=true:=fun k ok hk hki hun hno=>by
    refine hfree k ok hk hki ?_ hno;by_cases hjk:j=k
    ·subst hjk;exact hjun
    ·rw[getD_set_ne true hjk] at hun;exact hun
   refine wpOp_mono (fun a' w' h3=>⟨h3.2.1,ih (listed.setIfInBounds j true) a' w' hfree' (hd.set hj) (ready_mono hr (Ne.symm hji)) h3.1 (h3.2.1 hjn hS) ?_⟩) h2;rw[Array.setIfInBounds_comm _ _ hji];exact h3.2.2
theorem rI{i:Nat}{oi:Oper}{v:Value}(hi:ops[i]?=some oi)(hsel:∀(j:Nat) (o:Oper) cs b,ops[j]?=some o→o.op≠.select cs b)
  (hQ:∀c a w,Q (.panic c) (a.put oi.dst v) w→Q (.panic c) a w) :
  ∀(fuel:Nat) (listed:Array Bool) (a:Act) (w:World),
   (∀j oj,ops[j]?=some oj→j≠i→listed.getD j true=false→(∀e∈oj.after,Region.binds md e=true→e.on≠i)→oi.apart ops oj=true) →
   dM md ops listed→i∈Region.ready md ops listed→YieldsIf P ops (fun _=>True) oi v a →
   bO P md ops Q S late fuel (listed.setIfInBounds i true) (a.put oi.dst v) w→bO P md ops Q S late (fuel+1) listed a w:=by
 intro fuel;induction fuel with
 | zero =>
  intro listed a w _ _ hr hy H;refine⟨fun h=>(by rw[h] at hr;cases hr),fun j hj=>?_⟩;by_cases hji:j=i
  ·subst hji;exact hy.wpOp hi trivial ⟨fun _ h=>h,H⟩
  ·have:=ready_mono hj hji;rw[H.1] at this;cases this
 | succ fuel ih =>
  intro listed a w hfree hd hr hy H;refine⟨fun h=>(by rw[h] at hr;cases hr),fun j hj=>?_⟩;by_cases hji:j=i
  ·subst hji;exact hy.wpOp hi trivial ⟨fun _ h=>h,H⟩
  ·have h1:=H.2 j (ready_mono hj hji);obtain⟨hjun,oj,hoj,hall⟩:=mem_ready.1 hj;have hiun:listed.getD i false=false:=by
    have h0:=(mem_ready.1 hr).1;rcases Nat.lt_or_ge i listed.size with h' | h'
    ·simp[h'] at h0 ⊢;exact h0
    ·simp[Array.getElem?_eq_none h']
   have hnot:∀e∈oj.after,Region.binds md e=true→e.on≠i:=fun e he hb heq=>by
    have h1:=hall e he hb;rw[heq,hiun] at h1;cases h1
   have h2:=wpOp_putIf hoj (hfree j oj hoj hji hjun hnot) (fun cs b=>hsel i oi cs b hi) (fun cs b=>hsel j oj cs b hoj) hQ hy h1;have hfree':∀k ok,ops[k]?=some ok→k≠i→(listed.setIfInBounds j true).getD k true=false →
     (∀e∈ok.after,Region.binds md e=true→e.on≠i)→oi.apart ops ok=true:=fun k ok hk hki hun hno=>by
    refine hfree k ok hk hki ?_ hno;by_cases hjk:j=k
    ·subst hjk;exact hjun
    ·rw[getD_set_ne true hjk] at hun;exact hun
   refine wpOp_mono (fun a' w' h3=>⟨h3.2.1,ih (listed.setIfInBounds j true) a' w' hfree' (hd.set hj) (ready_mono hr (Ne.symm hji)) h3.1 ?_⟩) h2;rw[Array.setIfInBounds_comm _ _ hji];exact h3.2.2
theorem jA{rid:Nat}{a:Act}{w:World}{l:List Oper}(S:World→Prop)(late:Nat→Bool)(hm:P.follows .mixedOrders=true)
  (h:dM .any l.toArray (Array.replicate l.toArray.size false)→bO P .any l.toArray Q S late l.length (Array.replicate l.toArray.size false) a w.drew):(Code.region rid l.toArray true).wp P Q a w:=by
 refine wp_region_any hm (pW (S:=S) (late:=late) _ _ _ _ ?_);simpa using h (lJ _)
theorem BE{i f:Nat}{listed:Array Bool}{a:Act}{w:World}{oi:Oper}{v:Value}(hi:ops[i]?=some oi)
  (hB:(Region.noSelect ops&&Region.free md ops listed i&&(Region.ready md ops listed).contains i&&(List.range ops.size).all fun j=>!late j||(sJ md ops ops.size [j]).contains i)=true)
  (hd:dM md ops listed) (hQ:∀c a d v w,Q (.panic c) (Act.put a d v) w→Q (.panic c) a w) (hS:S w)
  (hw:Region.wanted oi (yielded ops a.tmps)=true) (hy:∀w,S w→(execOp a.eval oi).run P w=.ok (.value v) w)
  (h:dM md ops (listed.setIfInBounds i true)→bO P md ops Q S late f (listed.setIfInBounds i true) (a.put oi.dst v) w):bO P md ops Q S late (f+1) listed a w:=by
 simp only[Bool.and_eq_true] at hB
 obtain⟨⟨⟨h1,h2⟩,h3⟩,h4⟩:=hB;have hr:i∈Region.ready md ops listed:=by simpa using h3
 refine tG (f:=ops.size) hi (Region.noSelect_spec h1) (fun c a w=>hQ c a _ _ w) (fun j hj hl=>?_) f listed a w (Region.free_spec hi h2) hd hr (.inl ⟨hw,hy⟩) hS (h (hd.set hr));have:=List.all_eq_true.1 h4 j (List.mem_range.2 hj);rw[hl] at this;simpa using this
theorem dJ{i f:Nat}{listed:Array Bool}{a:Act}{w:World}{oi:Oper}{v:Value}(hi:ops[i]?=some oi)
  (hB:(Region.noSelect ops&&Region.free md ops listed i&&(Region.ready md ops listed).contains i)=true)
  (hd:dM md ops listed) (hQ:∀c a d v w,Q (.panic c) (Act.put a d v) w→Q (.panic c) a w)
  (hw:Region.wanted oi (yielded ops a.tmps)=true) (hy:∀w,(execOp a.eval oi).run P w=.ok (.value v) w)
  (h:dM md ops (listed.setIfInBounds i true)→bO P md ops Q S late f (listed.setIfInBounds i true) (a.put oi.dst v) w):bO P md ops Q S late (f+1) listed a w:=by
 simp only[Bool.and_eq_true] at hB
 obtain⟨⟨h1,h2⟩,h3⟩:=hB;have hr:i∈Region.ready md ops listed:=by simpa using h3
 exact rI hi (Region.noSelect_spec h1) (fun c a w=>hQ c a _ _ w) f listed a w (Region.free_spec hi h2) hd hr (.inl ⟨hw,fun w _=>hy w⟩) (h (hd.set hr))
theorem kH{f:Nat}{listed:Array Bool}{a:Act}{w:World}{L:List Nat}(hd:dM md ops listed)(hL:Region.ready md ops listed=L)(hne:L≠[])
  (h:∀i∈L,(dM md ops (listed.setIfInBounds i true))→wpOp P ops Q i (fun a' w'=>(late i=false→S w→S w')∧bO P md ops Q S late f (listed.setIfInBounds i true) a' w') a w):bO P md ops Q S late (f+1) listed a w:=by
 subst hL;exact⟨fun e=>absurd e hne,fun i hi=>h i hi (hd.set hi)⟩
theorem bD{i f:Nat}{listed:Array Bool}{a:Act}{w:World}{oi:Oper}(hi:ops[i]?=some oi)(hg:oi.guard=none)
  (h:∀K:Act→World→Prop,(∀a w',(late i=false→S w→S w')→bO P md ops Q S late f (listed.setIfInBounds i true) a w'→K a w')→oi.wp P a w K Q) :
  wpOp P ops Q i (fun a' w'=>(late i=false→S w→S w')∧bO P md ops Q S late f (listed.setIfInBounds i true) a' w') a w:=by
 unfold wpOp;simp only[hi]
 rw[if_pos (by simp[Region.wanted,hg])];exact .inl (h _ fun a w h1 h2=>⟨h1,h2⟩)
theorem kI{listed:Array Bool}{a:Act}{w:World}(hL:Region.ready md ops listed=[])(h:Q .normal a w):bO P md ops Q S late 0 listed a w:=⟨hL,h⟩
end
theorem cW{P:Program}{ops:Array Oper}{Q:Exit→Act→World→Prop}{S:World→Prop}{a:Act}{w:World}{oi:Oper}{v:Value}{md:Region.Mode}{late:Nat→Bool}{f:Nat}{listed l':Array Bool}{a':Act}(i:Nat)(hi:ops[i]?=some oi)(hd:dM md ops listed)(hS:S w)(h:dM md ops l'→bO P md ops Q S late f l' a' w)(hB:(Region.noSelect ops&&Region.free md ops listed i&&(Region.ready md ops listed).contains i&&(List.range ops.size).all fun j=>!late j||(sJ md ops ops.size [j]).contains i)=true:=by kernel_rfl)(hQ:∀c a d v w,Q (.panic c) (Act.put a d v) w→Q (.panic c) a w:=by intro _ _ d _ _ h;cases d <;> exact h)(hw:Region.wanted oi (yielded ops a.tmps)=true:=by first | with_reducible rfl | kernel_rfl)(hy:∀w,S w→(execOp a.eval oi).run P w=.ok (.value v) w:=by intro wS hS;(try dsimp only at hS);go_split_ands;go_simp;(try with_reducible rfl);done)(e:a.put oi.dst v=a':=by(try simp only[Act.put,gA,gS,gZ,sA,sZ,sS]);first | done | exact rfl)(e2:listed.setIfInBounds i true=l':=by(try simp only[Act.put,gA,gS,gZ,sA,sZ,sS]);first | done | exact rfl):bO P md ops Q S late (f+1) listed a w:=by subst e e2;exact BE hi hB hd hQ hS hw hy h
theorem aU{P:Program}{ops:Array Oper}{Q:Exit→Act→World→Prop}{S:World→Prop}{md:Region.Mode}{late:Nat→Bool}{f:Nat}{listed:Array Bool}{a:Act}{w:World}(hd:dM md ops listed)(i0:Nat)(h0:dM md ops (listed.setIfInBounds i0 true)→wpOp P ops Q i0 (fun a' w'=>(late i0=false→S w→S w')∧bO P md ops Q S late f (listed.setIfInBounds i0 true) a' w') a w)(hL:Region.ready md ops listed=[i0]:=by kernel_rfl):bO P md ops Q S late (f+1) listed a w:=by
  refine kH hd hL (by simp) (fun i hi hd2=>?_);obtain rfl:=List.mem_singleton.1 hi;exact h0 hd2
theorem tH{P:Program}{ops:Array Oper}{Q:Exit→Act→World→Prop}{S:World→Prop}{md:Region.Mode}{late:Nat→Bool}{f:Nat}{listed:Array Bool}{a:Act}{w:World}(hd:dM md ops listed)(i0 i1:Nat)(h0:dM md ops (listed.setIfInBounds i0 true)→wpOp P ops Q i0 (fun a' w'=>(late i0=false→S w→S w')∧bO P md ops Q S late f (listed.setIfInBounds i0 true) a' w') a w)(h1:dM md ops (listed.setIfInBounds i1 true)→wpOp P ops Q i1 (fun a' w'=>(late i1=false→S w→S w')∧bO P md ops Q S late f (listed.setIfInBounds i1 true) a' w') a w)(hL:Region.ready md ops listed=[i0,i1]:=by kernel_rfl):bO P md ops Q S late (f+1) listed a w:=by
  refine kH hd hL (by simp) (fun i hi hd2=>?_);simp only[List.mem_cons,List.not_mem_nil,or_false] at hi
  rcases hi with rfl|rfl
  exact h0 hd2;exact h1 hd2
theorem NQ{P:Program}{ops:Array Oper}{Q:Exit→Act→World→Prop}{S:World→Prop}{md:Region.Mode}{late:Nat→Bool}{f:Nat}{listed:Array Bool}{a:Act}{w:World}(hd:dM md ops listed)(i0 i1 i2:Nat)(h0:dM md ops (listed.setIfInBounds i0 true)→wpOp P ops Q i0 (fun a' w'=>(late i0=false→S w→S w')∧bO P md ops Q S late f (listed.setIfInBounds i0 true) a' w') a w)(h1:dM md ops (listed.setIfInBounds i1 true)→wpOp P ops Q i1 (fun a' w'=>(late i1=false→S w→S w')∧bO P md ops Q S late f (listed.setIfInBounds i1 true) a' w') a w)(h2:dM md ops (listed.setIfInBounds i2 true)→wpOp P ops Q i2 (fun a' w'=>(late i2=false→S w→S w')∧bO P md ops Q S late f (listed.setIfInBounds i2 true) a' w') a w)(hL:Region.ready md ops listed=[i0,i1,i2]:=by kernel_rfl):bO P md ops Q S late (f+1) listed a w:=by
  refine kH hd hL (by simp) (fun i hi hd2=>?_);simp only[List.mem_cons,List.not_mem_nil,or_false] at hi
  rcases hi with rfl|rfl|rfl
  exact h0 hd2;exact h1 hd2;exact h2 hd2
theorem NR{P:Program}{ops:Array Oper}{Q:Exit→Act→World→Prop}{S:World→Prop}{md:Region.Mode}{late:Nat→Bool}{f:Nat}{listed:Array Bool}{a:Act}{w:World}(hd:dM md ops listed)(i0 i1 i2 i3:Nat)(h0:dM md ops (listed.setIfInBounds i0 true)→wpOp P ops Q i0 (fun a' w'=>(late i0=false→S w→S w')∧bO P md ops Q S late f (listed.setIfInBounds i0 true) a' w') a w)(h1:dM md ops (listed.setIfInBounds i1 true)→wpOp P ops Q i1 (fun a' w'=>(late i1=false→S w→S w')∧bO P md ops Q S late f (listed.setIfInBounds i1 true) a' w') a w)(h2:dM md ops (listed.setIfInBounds i2 true)→wpOp P ops Q i2 (fun a' w'=>(late i2=false→S w→S w')∧bO P md ops Q S late f (listed.setIfInBounds i2 true) a' w') a w)(h3:dM md ops (listed.setIfInBounds i3 true)→wpOp P ops Q i3 (fun a' w'=>(late i3=false→S w→S w')∧bO P md ops Q S late f (listed.setIfInBounds i3 true) a' w') a w)(hL:Region.ready md ops listed=[i0,i1,i2,i3]:=by kernel_rfl):bO P md ops Q S late (f+1) listed a w:=by
  refine kH hd hL (by simp) (fun i hi hd2=>?_);simp only[List.mem_cons,List.not_mem_nil,or_false] at hi
  rcases hi with rfl|rfl|rfl|rfl
  exact h0 hd2;exact h1 hd2;exact h2 hd2;exact h3 hd2
theorem NS{P:Program}{ops:Array Oper}{Q:Exit→Act→World→Prop}{S:World→Prop}{md:Region.Mode}{late:Nat→Bool}{f:Nat}{listed:Array Bool}{a:Act}{w:World}(hd:dM md ops listed)(i0 i1 i2 i3 i4:Nat)(h0:dM md ops (listed.setIfInBounds i0 true)→wpOp P ops Q i0 (fun a' w'=>(late i0=false→S w→S w')∧bO P md ops Q S late f (listed.setIfInBounds i0 true) a' w') a w)(h1:dM md ops (listed.setIfInBounds i1 true)→wpOp P ops Q i1 (fun a' w'=>(late i1=false→S w→S w')∧bO P md ops Q S late f (listed.setIfInBounds i1 true) a' w') a w)(h2:dM md ops (listed.setIfInBounds i2 true)→wpOp P ops Q i2 (fun a' w'=>(late i2=false→S w→S w')∧bO P md ops Q S late f (listed.setIfInBounds i2 true) a' w') a w)(h3:dM md ops (listed.setIfInBounds i3 true)→wpOp P ops Q i3 (fun a' w'=>(late i3=false→S w→S w')∧bO P md ops Q S late f (listed.setIfInBounds i3 true) a' w') a w)(h4:dM md ops (listed.setIfInBounds i4 true)→wpOp P ops Q i4 (fun a' w'=>(late i4=false→S w→S w')∧bO P md ops Q S late f (listed.setIfInBounds i4 true) a' w') a w)(hL:Region.ready md ops listed=[i0,i1,i2,i3,i4]:=by kernel_rfl):bO P md ops Q S late (f+1) listed a w:=by
  refine kH hd hL (by simp) (fun i hi hd2=>?_);simp only[List.mem_cons,List.not_mem_nil,or_false] at hi
  rcases hi with rfl|rfl|rfl|rfl|rfl
  exact h0 hd2;exact h1 hd2;exact h2 hd2;exact h3 hd2;exact h4 hd2
open Go.RowKit
def cS(N:List Txt)(s:Txt):Nat:=N.findIdx fun t=>decide (t=s)
theorem cR{N:List Txt}{s:Txt}(h:s∈N):N[cS N s]?=some s:=by
 have hl:cS N s<N.length:=List.findIdx_lt_length_of_exists ⟨s,h,by simp⟩;have:=List.findIdx_getElem (p:=fun t=>decide (t=s)) (xs:=N) (w:=hl);rw[gEz hl];exact congrArg some (of_decide_eq_true this)
theorem eT{N:List Txt}{s:Txt}(h:s∈N):cS N s<N.length:=(gO.1 (cR h)).1
theorem rJ{N:List Txt}{s:Txt}(h:s ∉ N):cS N s=N.length:=by
 unfold cS;rw[List.findIdx_eq_length];intro t ht;rw[decide_eq_false];rintro rfl;exact h ht
theorem GD{N M:List Txt}{s:Txt}(h:s∈N):cS (N++M) s=cS N s:=by
 have hl:=eT h;unfold cS at hl ⊢;rw[List.findIdx_append,if_pos hl]
theorem iJ{N:List Txt}(hd:N.Nodup){s:Txt}{i:Nat}(h:N[i]?=some s):cS N s=i:=by
 have h1:=cR (mG h);obtain⟨a,e⟩:=gO.1 h;obtain⟨b,f⟩:=gO.1 h1;exact(List.getElem_inj hd).1 (f.trans e.symm)
theorem gL{N:List Txt}{s t:Txt}(h:s∈N):cS (bG N t) s=cS N s:=by
 unfold bG;split
 ·rfl
 ·exact GD h
theorem wZ(N:List Txt)(s:Txt):cS (bG N s) s=cS N s:=by
 by_cases h:s∈N
 ·exact gL h
 ·unfold bG;rw[if_neg (fun e=>h (aQ.1 e)),rJ h];unfold cS;rw[List.findIdx_append,if_neg (by have:=rJ h;unfold cS at this;omega)];simp
def FB(N:List Txt)(s:Txt):Int:=if inB s N=true then (cS N s:Int)+1 else 0
theorem fX{w:World}{r:Nat}{N:List Txt}(h:cX w Tryz.prog 9 r (kvN N N.length))(s:Txt)(hk:cT s) :
  (Instr.lookup 105 (.map (some r)) (.string s) false).run Tryz.prog w=.ok (.int .i64 (FB N s)) w:=by
 unfold FB;by_cases hs:s∈N
 ·rw[if_pos (aQ.2 hs)];exact h.look_hit fK Tryz.underlying105 (AD N N.length _ s (eT hs) (cR hs)) false
 ·rw[if_neg (fun e=>hs (aQ.1 e))];exact h.look_miss fK Tryz.underlying105 (lO hk) (fun q hq e=>by
   obtain⟨i,t,hi,ht,rfl⟩:=lN N N.length q hq;simp only[Value.string.injEq] at e
   subst e;exact hs (mG ht)) (by kernel_rfl) false
theorem BF(N M:List Txt):∀k,k≤N.length→kvN (N++M) k=kvN N k
 | 0,_=>rfl
 | k+1,h=>by
  unfold kvN;rw[List.getElem?_append_left (by omega),BF N M k (by omega)]
theorem GE(N:List Txt)(s:Txt):kvN (N++[s]) (N.length+1)=kvN N N.length++[(.string s,.int .i64 ((N.length:Int)+1))]:=by
 rw[kvN,BF N [s] _ (Nat.le_refl _)];simp

inductive Ro
 | p | m | n | o | i
 | oo (k:Nat)
 | ii (k:Nat)
structure GrD where
 r:Nat
 nv:Value
 ov:Value
 iv:Value
 fo:Nat→Value
 fi:Nat→Value
def jK(f:Nat→Value)(n:Nat):List Value:=(List.range n).map f
theorem kJ(f:Nat→Value)(n:Nat):jK f (n+1)=jK f n++[f n]:=by simp[jK,List.range_succ]
theorem LG{f:Nat→Value}{n k:Nat}(h:k<n):(jK f n)[k]?=some (f k):=by simp[jK,h]
structure GrI(w:World)(O:Nat→Option Ro)(p:Nat)(N:List Txt)(U V:Nat→List Hp)(cnt:Int)(D:GrD):Prop where
 blk:Blk w p 108 #[D.nv,.map (some D.r),D.ov,D.iv,.int .i64 cnt]
 map:cX w Tryz.prog 9 D.r (kvN N N.length)
 rn:w.ownsRow 0 9 1 D.nv N.length (aC N)
 ro:w.ownsRow 0 99 1 D.ov N.length (jK D.fo N.length)
 ri:w.ownsRow 0 99 1 D.iv N.length (jK D.fi N.length)
 fo:∀k,w.ownsRow 0 103 2 (D.fo k) (U k).length (aK (U k))
 fi:∀k,w.ownsRow 0 103 2 (D.fi k) (V k).length (aK (V k))
 op:O p=some .p
 om:O D.r=some .m
 on:∀k,D.nv.ownBlock=some k→O k=some .n
 oo:∀k,D.ov.ownBlock=some k→O k=some .o
 oi:∀k,D.iv.ownBlock=some k→O k=some .i
 oU:∀j k,(D.fo j).ownBlock=some k→O k=some (.oo j)
 oV:∀j k,(D.fi j).ownBlock=some k→O k=some (.ii j)
 lt:∀k,O k≠none→k<w.heap.size
 out:∀k,N.length≤k→D.fo k=.slice none 0 0∧D.fi k=.slice none 0 0
def sF(w:World)(F:Nat→Prop)(p:Nat)(N:List Txt)(U V:Nat→List Hp)(cnt:Int):Prop:=∃O D,GrI w O p N U V cnt D∧F=fun k=>O k≠none
theorem GrI.upd{w w':World}{O:Nat→Option Ro}{p:Nat}{N:List Txt}{U V:Nat→List Hp}{cnt:Int}{D:GrD}{G:Nat→Prop}(h:GrI w O p N U V cnt D)(hu:Upd G w w')(hd:∀k,O k≠none→¬G k):GrI w' O p N U V cnt D:=by
 have no:∀k t,O k=some t→¬G k:=fun k t e=>hd k (by simp[e])
 exact⟨h.blk.upd hu (no _ _ h.op),h.map.upd hu (no _ _ h.om),aA h.rn hu fun k hk=>no _ _ (h.on k hk),aA h.ro hu fun k hk=>no _ _ (h.oo k hk),aA h.ri hu fun k hk=>no _ _ (h.oi k hk),
  fun j=>aA (h.fo j) hu fun k hk=>no _ _ (h.oU j k hk),fun j=>aA (h.fi j) hu fun k hk=>no _ _ (h.oV j k hk),h.op,h.om,h.on,h.oo,h.oi,h.oU,h.oV,fun k hk=>Nat.lt_of_lt_of_le (h.lt k hk) hu.size,h.out⟩
theorem sF.upd{w w':World}{F G:Nat→Prop}{p:Nat}{N:List Txt}{U V:Nat→List Hp}{cnt:Int}(h:sF w F p N U V cnt)(hu:Upd G w w')(hd:∀k,F k→¬G k):sF w' F p N U V cnt:=by
 obtain⟨O,D,hs,rfl⟩:=h;exact⟨O,D,hs.upd hu hd,rfl⟩
theorem sF.lt{w:World}{F:Nat→Prop}{p:Nat}{N:List Txt}{U V:Nat→List Hp}{cnt:Int}(h:sF w F p N U V cnt):∀k,F k→k<w.heap.size:=by
 obtain⟨O,D,hs,rfl⟩:=h;exact hs.lt
theorem sF.below{w w':World}{F:Nat→Prop}{p:Nat}{N:List Txt}{U V:Nat→List Hp}{cnt:Int}(h:sF w F p N U V cnt)(hb:Below w.heap.size w w'):sF w' F p N U V cnt:=h.upd (upF hb) (fun _ _=>id)
def iK(w:World)(F:Nat→Prop)(p:Nat)(N:List Txt)(U V:Nat→List Hp)(cnt:Int)(w':World):Prop:=
 ∃F',sF w' F' p N U V cnt∧Upd F w w'∧∀k,F' k→F k∨w.heap.size≤k
theorem iK.refl{w w':World}{F:Nat→Prop}{p:Nat}{N:List Txt}{U V:Nat→List Hp}{cnt:Int}(h:sF w F p N U V cnt)(hb:Below w.heap.size w w'):iK w F p N U V cnt w':=
 ⟨F,h.below hb,Upd.of_below hb F,fun _ hk=>.inl hk⟩
theorem GrI.grow{w w':World}{O:Nat→Option Ro}{p:Nat}{N:List Txt}{U V:Nat→List Hp}{cnt:Int}{D:GrD}(h:GrI w O p N U V cnt D)(s:Txt)(nv ov iv:Value)(B1 B2:Nat)(hB1:w.heap.size≤B1)(hB2:B1≤B2)
  (hu:Upd (fun k=>k=p∨k=D.r∨D.nv.ownBlock=some k∨D.ov.ownBlock=some k∨D.iv.ownBlock=some k) w w') (hb:Blk w' p 108 #[nv,.map (some D.r),ov,iv,.int .i64 cnt])
  (hm:cX w' Tryz.prog 9 D.r (kvN N N.length++[(.string s,.int .i64 ((N.length:Int)+1))]))
  (rn:w'.ownsRow 0 9 1 nv (N.length+1) (aC N++[.string s])) (ro:w'.ownsRow 0 99 1 ov (N.length+1) (jK D.fo N.length++[.slice none 0 0])) (ri:w'.ownsRow 0 99 1 iv (N.length+1) (jK D.fi N.length++[.slice none 0 0]))
  (pn:∀k,nv.ownBlock=some k→D.nv.ownBlock=some k∨w.heap.size≤k∧k<B1) (po:∀k,ov.ownBlock=some k→D.ov.ownBlock=some k∨B1≤k∧k<B2) (pi:∀k,iv.ownBlock=some k→D.iv.ownBlock=some k∨B2≤k) :
  iK w (fun k=>O k≠none) p (N++[s]) U V cnt w':=by
 have no:∀k t,O k=some t→(t=Ro.p→False)→(t=Ro.m→False)→(t=Ro.n→False)→(t=Ro.o→False)→(t=Ro.i→False)→¬(k=p∨k=D.r∨D.nv.ownBlock=some k∨D.ov.ownBlock=some k∨D.iv.ownBlock=some k):=by
  rintro k t e h1 h2 h3 h4 h5 (rfl|rfl|hk|hk|hk)
  ·rw[h.op] at e;injection e with e;exact h1 e.symm
  ·rw[h.om] at e;injection e with e;exact h2 e.symm
  ·rw[h.on k hk] at e;injection e with e;exact h3 e.symm
  ·rw[h.oo k hk] at e;injection e with e;exact h4 e.symm
  ·rw[h.oi k hk] at e;injection e with e;exact h5 e.symm
 have fresh:∀k,w.heap.size≤k→O k=none:=fun k hk=>by
  cases e:O k with
  | none=>rfl
  | some t=>have:=h.lt k (by simp[e]);omega
 have hn:∀k,nv.ownBlock=some k→O k=some .n∨O k=none∧w.heap.size≤k∧k<B1:=fun k hk=>by
  rcases pn k hk with h1|⟨h1,h2⟩
  ·exact .inl (h.on k h1)
  ·exact .inr ⟨fresh k h1,h1,h2⟩
 have ho:∀k,ov.ownBlock=some k→O k=some .o∨O k=none∧B1≤k∧k<B2:=fun k hk=>by
  rcases po k hk with h1|⟨h1,h2⟩
  ·exact .inl (h.oo k h1)
  ·exact .inr ⟨fresh k (by omega),h1,h2⟩
 have hi:∀k,iv.ownBlock=some k→O k=some .i∨O k=none∧B2≤k:=fun k hk=>by
  rcases pi k hk with h1|h1
  ·exact .inl (h.oi k h1)
  ·exact .inr ⟨fresh k (by omega),h1⟩
 have keep:∀k t,O k=some t→(t=Ro.n→False)→(t=Ro.o→False)→(t=Ro.i→False)→(if nv.ownBlock=some k then some Ro.n else if ov.ownBlock=some k then some Ro.o else if iv.ownBlock=some k then some Ro.i else O k)=some t:=by
  intro k t e h1 h2 h3;rw[if_neg,if_neg,if_neg,e]
  ·intro hk;rcases hi k hk with h4|h4
   ·rw[e] at h4;injection h4 with h4;exact h3 h4
   ·rw[e] at h4;cases h4.1
  ·intro hk;rcases ho k hk with h4|h4
   ·rw[e] at h4;injection h4 with h4;exact h2 h4
   ·rw[e] at h4;cases h4.1
  ·intro hk;rcases hn k hk with h4|h4
   ·rw[e] at h4;injection h4 with h4;exact h1 h4
   ·rw[e] at h4;cases h4.1
 refine⟨fun k=>(if nv.ownBlock=some k then some Ro.n else if ov.ownBlock=some k then some Ro.o else if iv.ownBlock=some k then some Ro.i else O k)≠none,⟨fun k=>if nv.ownBlock=some k then some Ro.n else if ov.ownBlock=some k then some Ro.o else if iv.ownBlock=some k then some Ro.i else O k,⟨D.r,nv,ov,iv,D.fo,D.fi⟩,⟨hb,?_,?_,?_,?_,fun j=>aA (h.fo j) hu fun k hk=>no _ _ (h.oU j k hk) nofun nofun nofun nofun nofun,fun j=>aA (h.fi j) hu fun k hk=>no _ _ (h.oV j k hk) nofun nofun nofun nofun nofun,?_,?_,?_,?_,?_,?_,?_,?_,?_⟩,rfl⟩,hu.mono ?_,?_⟩
 ·dsimp only
  rw[List.length_append,List.length_singleton,GE];exact hm
 ·dsimp only
  rw[List.length_append,List.length_singleton,aC,List.map_append];exact rn
 ·dsimp only
  rw[List.length_append,List.length_singleton,kJ,(h.out _ (Nat.le_refl _)).1];exact ro
 ·dsimp only
  rw[List.length_append,List.length_singleton,kJ,(h.out _ (Nat.le_refl _)).2];exact ri
 ·exact keep p _ h.op nofun nofun nofun
 ·exact keep _ _ h.om nofun nofun nofun
 ·intro k hk;exact if_pos hk
 ·intro k hk;(try dsimp only at hk ⊢)
  rw[if_neg,if_pos hk];intro e;rcases hn k e with h1|⟨h1,h2,h3⟩ <;> rcases ho k hk with h4|⟨h4,h5,h6⟩
  ·rw[h1] at h4;cases h4
  ·rw[h1] at h4;cases h4
  ·rw[h1] at h4;cases h4
  ·omega
 ·intro k hk;(try dsimp only at hk ⊢)
  rw[if_neg,if_neg,if_pos hk]
  ·intro e;rcases ho k e with h1|⟨h1,h2,h3⟩ <;> rcases hi k hk with h4|⟨h4,h5⟩
   ·rw[h1] at h4;cases h4
   ·rw[h1] at h4;cases h4
   ·rw[h1] at h4;cases h4
   ·omega
  ·intro e;rcases hn k e with h1|⟨h1,h2,h3⟩ <;> rcases hi k hk with h4|⟨h4,h5⟩
   ·rw[h1] at h4;cases h4
   ·rw[h1] at h4;cases h4
   ·rw[h1] at h4;cases h4
   ·omega
 ·intro j k hk;exact keep k _ (h.oU j k hk) nofun nofun nofun
 ·intro j k hk;exact keep k _ (h.oV j k hk) nofun nofun nofun
 ·intro k hk;(try dsimp only at hk)
  by_cases h1:nv.ownBlock=some k
  ·exact(rn.lt k h1).2
  rw[if_neg h1] at hk;by_cases h2:ov.ownBlock=some k
  ·exact(ro.lt k h2).2
  rw[if_neg h2] at hk;by_cases h3:iv.ownBlock=some k
  ·exact(ri.lt k h3).2
  rw[if_neg h3] at hk;exact Nat.lt_of_lt_of_le (h.lt k hk) hu.size
 ·intro k hk;rw[List.length_append,List.length_singleton] at hk;exact h.out k (by omega)
 ·rintro k-(rfl|rfl|hk|hk|hk)
  ·rw[h.op];nofun
  ·rw[h.om];nofun
  ·rw[h.on k hk];nofun
  ·rw[h.oo k hk];nofun
  ·rw[h.oi k hk];nofun
 ·intro k hk;(try dsimp only at hk ⊢)
  by_cases h1:nv.ownBlock=some k
  ·rcases hn k h1 with h2|h2
   ·rw[h2];exact .inl nofun
   ·exact .inr h2.2.1
  rw[if_neg h1] at hk;by_cases h2:ov.ownBlock=some k
  ·rcases ho k h2 with h2|h2
   ·rw[h2];exact .inl nofun
   ·exact .inr (by omega)
  rw[if_neg h2] at hk;by_cases h3:iv.ownBlock=some k
  ·rcases hi k h3 with h2|h2
   ·rw[h2];exact .inl nofun
   ·exact .inr (by omega)
  rw[if_neg h3] at hk;exact .inl hk
end Go.Proofs.YtddffnonlmfhdaaGreatDoor
