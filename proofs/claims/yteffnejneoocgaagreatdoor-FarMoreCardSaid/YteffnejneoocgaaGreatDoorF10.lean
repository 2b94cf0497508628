/- Products of matrices of bits: rows; Matrices of bits: Blocks as an iterator of the kit's kind; a matrix stands where a block that is no cells turns; Products of matrices of bits: mul; Products of matrices of bits: fit, Into; azimov: the shape of a production; The bits of products and of matrices joined: plain laws; azimov: what a grammar derives over a graph, the least set: plain laws; azimov: the work list, its length and its order; azimov: the law of fill: what is due, what is sound, what is left to grow: plain; far: the lengths of facts: plain laws. -/
import Derived.Test.YteffnejneoocgaaGreatDoorF09
set_option linter.unusedVariables false
set_option linter.unusedSimpArgs false
set_option maxHeartbeats 16000000
set_option maxRecDepth 100000
namespace Go.Proofs.YteffnejneoocgaaGreatDoor
open Go.RowKit Go.Shelf
attribute [local go_sem] Oper.semAt_some
def prC(r:List Nat):List Value:=.int .i64 0::wdC r
theorem oK{r:List Nat}(hr:Wd r):(prC r).length=65:=by simp[prC,bJ,hr.len]
theorem EJ(r:List Nat):∀u∈prC r,u.oneCell'=true:=fun u hu=>by
 simp only[prC,wdC,List.mem_cons,List.mem_map] at hu
 rcases hu with rfl|⟨x,-,rfl⟩ <;> rfl
theorem OS{r:List Nat}(hr:Wd r)(cells:Array Value)(hc:cells.size=65) :
  Instr.fill (fun i=>#[(0,1),(1,64)][i]?) cells [(0,.int .i64 0),(1,wdV r)]=some (prC r).toArray:=by
 have hl:(wdC r).length=64:=by rw[bJ,hr.len]
 obtain⟨s1,k1⟩:=Go.Great.foldl_set 0 [.int .i64 0] 0 cells;obtain⟨s2,k2⟩:=Go.Great.foldl_set 1 (wdC r) 0 (([Value.int .i64 0].zipIdx 0).foldl (fun cs (x:Value × Nat)=>cs.setIfInBounds (0+x.2) x.1) cells);have e:Instr.fill (fun i=>#[(0,1),(1,64)][i]?) cells [(0,.int .i64 0),(1,wdV r)]=some (((wdC r).zipIdx 0).foldl (fun cs (x:Value × Nat)=>cs.setIfInBounds (1+x.2) x.1) (([Value.int .i64 0].zipIdx 0).foldl (fun cs (x:Value × Nat)=>cs.setIfInBounds (0+x.2) x.1) cells)):=by
  simp[Instr.fill,wdV,Value.cells,hl,hc]
 rw[e];congr 1
 apply Array.ext_getElem?
 intro k;rw[k2 k,s1,hc,hl];by_cases h2:1+0≤k∧k<1+0+64∧k<65
 ·rw[if_pos h2];obtain⟨j,rfl⟩:∃j,k=j+1:=⟨k-1,by omega⟩;simp[prC]
 ·rw[if_neg h2,k1 k];by_cases h0:k<1
  ·rw[if_pos (by simp;omega)];obtain rfl:k=0:=by omega
   simp[prC]
  ·rw[if_neg (by simp;omega)];have:(prC r).length≤k:=by rw[oK hr];omega
   simp[hc,this]
   omega
theorem KG{r:List Nat}(hr:Wd r)(w:World):(Instr.build 270 #[(0,.int .i64 0),(1,wdV r)]).run Tryz.prog w=.ok (.agg (prC r).toArray) w:=by
 refine run_build w _ _ _ ?_;obtain⟨cells,hc,hb⟩:∃cells:Array Value,cells.size=65∧∀ps,Tryz.prog.built 270 ps=Instr.fill (fun i=>#[(0,1),(1,64)][i]?) cells ps:=⟨(List.replicate 1 (Value.int .i64 0)++List.replicate 64 (Value.int .u64 0)).toArray,by decide,fun ps=>by kernel_rfl⟩;rw[hb];exact OS hr cells hc
theorem OT:(Tryz.prog.info? 270).map (fun i=>(i.zero.isSome,i.size,i.bytes))=some (true,65,520):=by kernel_rfl
theorem KH{r:List Nat}(hr:Wd r):(Tryz.prog.info? 270).map (·.size)=some (prC r).length:=by rw[oK hr];kernel_rfl
theorem KI:∃z:Value,z.cells.size=65∧(Tryz.prog.info? 270).map (fun i=>(i.zero,i.size,i.bytes))=some (some z,65,520):=
 ⟨.agg (List.replicate 1 (Value.int .i64 0)++List.replicate 64 (Value.int .u64 0)).toArray,by decide,by kernel_rfl⟩
theorem KJ{r:List Nat}(hr:Wd r)(w:World):(Instr.buildSlice 268 1 #[(0,.agg (prC r).toArray)]).run Tryz.prog w=.ok (.slice (some ⟨w.heap.size,0,none⟩) 1 1) (w.alloc (.cells (prC r).toArray 270)):=by
 obtain⟨ie,z,hie,hz,hs⟩:∃ie z,Tryz.prog.info? 270=some ie∧ie.zero=some z∧ie.size=65:=by
  have h:=OT;cases hi:Tryz.prog.info? 270 with
  | none=>rw[hi] at h;cases h
  | some ie =>
   rw[hi] at h;simp only[Option.map_some,Option.some.injEq,Prod.mk.injEq] at h
   obtain⟨h1,h2,h3⟩:=h;obtain⟨z,hz⟩:=Option.isSome_iff_exists.1 h1;exact⟨ie,z,rfl,hz,h2⟩
 refine run_buildSlice w _ 270 1 _ _ ie z Tryz.underlying268 hie hz (by rw[hs];decide) (by rw[hs];decide) ?_;rw[hs];have hl:(Value.agg (prC r).toArray).cells.size=65:=by simp[Value.cells,oK hr]
 have:=Go.Great.fill_whole (s:=65) (by decide) [Value.agg (prC r).toArray] ((Array.range (1*65)).map (z.cells[· % z.cells.size]!)) (fun v hv=>by rw[List.mem_singleton.1 hv];exact hl) (by simp);simpa[Value.cells] using this
theorem OU{w:World}{r:List Nat}(hr:Wd r):∃A c W2,(Builtin.append_ #[268,268] 268 #[.slice none 0 0,.slice (some ⟨w.heap.size,0,none⟩) 1 1]).run Tryz.prog (w.alloc (.cells (prC r).toArray 270))=.ok (.slice A 1 c) W2 ∧
  Upd (fun _=>False) w W2∧W2.ownsRow 0 270 65 (.slice A 1 c) 1 (prC r)∧∀k,(Value.slice A 1 c).ownBlock=some k→w.heap.size≤k:=by
 obtain⟨z,hz,hi⟩:=KI;obtain⟨v2,W2,happ,own2,u2,p2⟩:=cI w 0 268 270 65 520 z Tryz.underlying268 hi hz (by decide) (.slice none 0 0) 0 [] (World.ownsRow_nil _ _ _ _) (prC r) 1 (by rw[oK hr]) (EJ r) (by omega) (by unfold maxLen;omega) (Nat.zero_le _);obtain⟨A,c,rfl,-,-⟩:=aK own2;exact⟨A,c,W2,happ,u2.mono (fun k _ hk=>by simp[Value.ownBlock] at hk),own2,fun k hk=>by
  rcases p2 k hk with h1|h1
  ·simp[Value.ownBlock] at h1
  ·exact h1⟩
theorem OV(w:World):(Instr.makeSlice 263 (.int .i64 1) (.int .i64 1)).run Tryz.prog w=.ok (.slice (some ⟨w.heap.size,0,none⟩) 1 1) (w.alloc (.cells #[.slice none 0 0] 268)):=by kernel_rfl
def KK(w:World)(base:Nat)(A:Option Addr)(n c:Nat):Option (List Nat)→Prop
 | none=>n=0
 | some r=>n=1∧w.ownsRow 0 270 65 (.slice A 1 c) 1 (prC r)∧∀k,(Value.slice A 1 c).ownBlock=some k→base≤k
def TP(w:World)(b:Option (List Nat))(e:Ending)(w':World):Prop:=
 ∃g A n c,w.heap.size≤g∧e=.returned (.slice (some ⟨g,0,none⟩) 1 1)∧Blk w' g 268 #[.slice A n c]∧Below w.heap.size w w'∧KK w' w.heap.size A n c b
def OW(w:World)(b:Option (List Nat))(V:World):Prop:=
 Below w.heap.size w V∧Blk V (w.heap.size+1) 263 #[.slice (some ⟨w.heap.size,0,none⟩) 1 1]∧∃A n c,Blk V w.heap.size 268 #[.slice A n c]∧KK V w.heap.size A n c b∧(b=none→A=none∧c=0)
theorem sF{β:Type}{w:World}{B:Nat}(f:β→Option (List Nat))(hB:w.heap.size+2≤B):zT w.heap.size (fun q=>q=w.heap.size) B (fun s V=>OW w (f s) V):=by
 rintro s X Y row ⟨hb,k1,A,n,c,k0,hr,hn⟩ hg hrr;have hu:=Upd.of_grown hg;refine⟨hb.trans (hu.below (fun i _ e=>by have:=(hrr i e).1;omega) hb.size),k1.grown hg (fun e=>by have:=(hrr _ e.symm).1;omega),A,n,c,k0.grown hg (fun e=>by have:=(hrr _ e.symm).1;omega),?_,hn⟩;revert hr
 cases f s with
 | none=>exact fun h=>h
 | some r =>
  rintro⟨rfl,own,pl⟩;exact⟨rfl,aB own hu (fun k hk e=>(hrr k e).2.2 (.inr ⟨_,k0.cell 0,hk⟩)),pl⟩
theorem EK(w:World)(F:Nat→Prop)(p side:Nat)(b:Option (List Nat))(h:QuS w F p side b)(hs64:side≤64):Calls Tryz.prog 177 #[.pointer (some ⟨p,0,none⟩)] w (TP w b):=by
 have hs1:1≤side:=by obtain⟨O,dep,cnt,m,last,L,pv,lv,hq,ok,-⟩:=h;exact ok.s1
 have q0:w.cell? ⟨p,0,none⟩=some (.int .i64 (side:Int)):=by obtain⟨O,dep,cnt,m,last,L,pv,lv,hq,ok,-⟩:=h;exact hq.blk.cell 0
 have hside:=cX w p side hs1 q0;have hw1:IntKind.i64.wrap ((side:Int)+64)=(side:Int)+64:=IntWalk.i64_in _ (by omega);have hw2:IntKind.i64.wrap ((side:Int)+64-1)=(side:Int)+63:=by rw[IntWalk.i64_in _ (by omega)];omega
 have hd:((side:Int)+63).tdiv 64=1:=by
  rw[Int.tdiv_eq_ediv_of_nonneg (by omega)];omega
 have H:=hIz h;clear h;refine(callsIn_wide (n:=1)).1 ?_;refine callsIn_of_wp_marks Tryz.func177 rfl trivial ?_ rfl;simp only[Tryz.ntmps177,List.size_toArray,List.length_cons,List.length_nil,Nat.reduceAdd,Nat.reduceSub,Array.replicate_succ,Array.replicate_zero,List.push_toArray,List.append_toArray,List.nil_append,List.cons_append]
 refine wpIn_wide.2 ?_;go_wp2_with fail;refine hside.mono ?_;rintro e V1 ⟨rfl,hw⟩;subst V1;have hmk:=OV w;go_upto_region 2 with (fail);clear hmk hside hw1 hw2 hd q0;have k1:=(Blk.new w 268 #[.slice none 0 0]).alloc (.cells #[.slice (some ⟨w.heap.size,0,none⟩) 1 1] 263);have k2:=Blk.new (w.alloc (.cells #[.slice none 0 0] 268)) 263 #[.slice (some ⟨w.heap.size,0,none⟩) 1 1];have b2:Below w.heap.size w ((w.alloc (.cells #[.slice none 0 0] 268)).alloc (.cells #[.slice (some ⟨w.heap.size,0,none⟩) 1 1] 263)):=by(repeat (first | exact Below.refl _ _ | apply Below.drew | refine Below.alloc ?_ (by first | exact Nat.le_refl _ | (simp;done) | (simp;omega)) _ | refine Below.setCell ?_ (by first | exact Nat.le_refl _ | (simp;done) | (simp;omega)) _))
 have z2:((w.alloc (.cells #[.slice none 0 0] 268)).alloc (.cells #[.slice (some ⟨w.heap.size,0,none⟩) 1 1] 263)).heap.size=w.heap.size+2:=by simp
 simp only[World.size_alloc] at k2
 have HX:=aI4 k1 k2 b2 z2;clear k1 k2 b2 z2;have hcon:=uQ _ F p side b (H.out.below HX.out.2.2.1);have hwd:Hid (Wd (fI b)):=by
  obtain⟨O,dep,cnt,m,last,L,pv,lv,hq,ok,-⟩:=H.out;exact hIz (lW ok)
 generalize (w.alloc (.cells #[.slice none 0 0] 268)).alloc (.cells #[.slice (some ⟨w.heap.size,0,none⟩) 1 1] 263)=W1 at HX hcon ⊢;go_wp2_with fail;refine hcon.mono ?_;clear hcon;rintro e W2 ⟨g,A,n,c,hge,rfl,kg,b3,hm⟩;have hst:=wM W2 b hwd.out g c n A kg W1.heap.size hm;have hOw:∀q,UC g b (.slice A n c) q→W1.heap.size≤q∧q<W2.heap.size:=fun q h=>h.elim (fun e=>by rw[e];exact⟨hge,kg.lt⟩) (fun ⟨hs,ho⟩=>hm.own hs ho)
 have z2:=HX.out.2.2.2;have u3:=Upd.of_below b3 (fun _=>False);have k0:=HX.out.1.upd u3 id;have k1:=HX.out.2.1.upd u3 id;have h0:OW w none W2:=⟨tHn HX.out.2.2.1 b3,k1,none,0,0,k0,rfl,fun _=>⟨rfl,rfl⟩⟩;have zW:=b3.size;have HST:=hIz hst;have HOW:=hIz hOw;have H0:=aI3 h0 k0 k1;clear hst hOw h0 k0 k1 u3 kg b3 hm;go_wp2;refine DS (gf:=198) (cap:=#[.pointer (some ⟨g,0,none⟩)]) rfl (enters_of Tryz.func198 (by kernel_rfl) rfl) HST.out bR (fun q h=>(HOW.out q h).2) (fun _=>rfl)
  w.heap.size (fun q=>q=w.heap.size) (by omega) (RgM.of_none (H0.out.2.1.cell 0) rfl) (fun q e=>⟨by omega,fun h=>by have:=(HOW.out q h).1;omega⟩) (fun v q hv ho h=>by rw[H0.out.2.1.cell 0] at hv;injection hv with hv;subst hv;cases ho)
  (fun pre V=>OW w (pre.map (·.1)).head? V) (fun _ _ _=>False) (sF _ (by omega)) (fun c s X Y row h _ _=>h) H0.out.1
  (fun T x bb=>(((T.setIfInBounds 14 (.agg #[.int .i64 0,.int .i64 0])).setIfInBounds 15 (.agg (wdC x.1).toArray)).setIfInBounds 4 (.pointer (some ⟨bb,0,none⟩))).setIfInBounds 5 (.pointer (some ⟨bb+1,0,none⟩)))
  (fun x bb V=>Blk V bb 100 #[.int .i64 0,.int .i64 0]∧Blk V (bb+1) 164 (wdC x.1).toArray∧W2.heap.size≤bb)
  ?hBx ?assign ?body ?done ?stop
 case hBx=>exact fun x bb s X Y row h hg hr=>⟨h.1.keep hg hr,h.2.1.keep hg hr,h.2.2⟩
 case assign =>
  rintro l2 pre ⟨r,hbr⟩ V Kc hrV hsV hi hK;subst hbr;dsimp only [MU]
  unfold wdV;have HI2:=hIz hi;have hr:Wd r:=hwd.out;have hsz:=bO hr;have h1c:=gL r;clear hi;gi_wp2_with (refine dF rfl rfl 164 _ _ rfl rfl (wdC r) ⟨_,by rw[bJ,hr.len];exact fQ.choose_spec.1,fQ.choose_spec.2⟩ rfl rfl hsz h1c ?_)
  have b4:Below V.heap.size V ((V.alloc (.cells #[.int .i64 0,.int .i64 0] 100)).alloc (.cells (wdC r).toArray 164)):=by(repeat (first | exact Below.refl _ _ | apply Below.drew | refine Below.alloc ?_ (by first | exact Nat.le_refl _ | (simp;done) | (simp;omega)) _ | refine Below.setCell ?_ (by first | exact Nat.le_refl _ | (simp;done) | (simp;omega)) _))
  have k4:=(Blk.new V 100 #[.int .i64 0,.int .i64 0]).alloc (.cells (wdC r).toArray 164);have k5:=Blk.new (V.alloc (.cells #[.int .i64 0,.int .i64 0] 100)) 164 (wdC r).toArray;simp only[World.size_alloc] at k5
  exact hK V.heap.size _ (KpM.of_below b4 (by omega)) ((sF (fun pre:List {x:List Nat // some r=some x}=>(pre.map (·.1)).head?) (Nat.le_refl _)).below HI2.out b4) ⟨k4,k5,hsV⟩
 case body =>
  rintro l2 pre ⟨r,hbr⟩ bb V hrV hsV hi ⟨k4,k5,hbb⟩ hlt2;subst hbr;obtain rfl:pre=[]:=List.eq_nil_of_length_eq_zero (by have:pre.length<1:=hlt2;omega);obtain⟨hb,k1,A',n',c',k0,hrw,hnn⟩:=hi;obtain⟨rfl,rfl⟩:=hnn rfl;obtain rfl:n'=0:=hrw;have hr:Wd r:=hwd.out;have hszr:=bO hr;have SV:=hIz (show ∀X,Below V.heap.size V X→(fun X=>X.cell? ⟨w.heap.size+1,0,none⟩=some (.slice (some ⟨w.heap.size,0,none⟩) 1 1)∧X.cell? ⟨bb,0,none⟩=some (.int .i64 0)∧X.cell? ⟨bb,1,none⟩=some (.int .i64 0)∧X.cell? ⟨w.heap.size,0,none⟩=some (.slice none 0 0)∧X.rangeAt (bb+1) 0 (wdC r)) X from fun X hx=>by
   have ux:=Upd.of_below hx (fun _=>False);exact⟨(k1.upd ux id).cell 0,(k4.upd ux id).cell 0,(k4.upd ux id).cell 1,(k0.upd ux id).cell 0,bS (k5.upd ux id)⟩)
  have KD:=aI5 hr hb k1 k0 hrV;have hS:=SV.out V.drew bR.drew;have gV:w.heap.size+1<V.heap.size:=k1.lt;clear hb k1 k0 hrV k4 k5;simp only[sA,sZ,sS]
  gi_wp2
  refine jI (fun X=>X.cell? ⟨w.heap.size+1,0,none⟩=some (.slice (some ⟨w.heap.size,0,none⟩) 1 1)∧X.cell? ⟨bb,0,none⟩=some (.int .i64 0)∧X.cell? ⟨bb,1,none⟩=some (.int .i64 0)∧X.cell? ⟨w.heap.size,0,none⟩=some (.slice none 0 0)∧X.rangeAt (bb+1) 0 (wdC r)) 15 [(0,true),(1,true),(2,true),(3,true),(4,true),(5,true),(6,true),(7,true),(8,true),(9,true),(10,true),(11,true),(12,false),(13,false),(14,true),(15,false)] (by kernel_rfl) (by kernel_rfl) (by kernel_rfl) (fun ⟨_,_,h⟩=>h) (fun _ _ d _ _ h=>by cases d <;> exact h) hS ?_;have HB:=hIz (show Below V.heap.size V V.drew from bR.drew);generalize V.drew=V0 at hS HB ⊢
  iterate 10 refine aC rfl ?_
  (refine eZ rfl (by first | with_reducible rfl | kernel_rfl) 164 _ rfl (bb+1) 0 rfl (wdC r) (.array 64 162) (fun _ h=>h.2.2.2.2) Tryz.underlying164 rfl hszr ?_;(try simp only[Act.put,gA,gS,gZ,sA,sZ,sS]))
  have hbp:∀W,(Instr.build 270 #[(0,.int .i64 0),(1,.agg (wdC r).toArray)]).run Tryz.prog W=.ok (.agg (prC r).toArray) W:=fun W=>KG KD.out.1 W
  (refine uD rfl (by first | with_reducible rfl | kernel_rfl) 270 _ rfl #[(0,.int .i64 0),(1,.agg (wdC r).toArray)] (by first | with_reducible rfl | kernel_rfl) hbp ?_;(try simp only[Act.put,gA,gS,gZ,sA,sZ,sS]))
  clear hbp;have hbs:=KJ KD.out.1 V0;obtain⟨A2,c2,W3,happ,u2,own2,pl2⟩:=OU (w:=V0) KD.out.1;have HD:=aI3 u2 own2 pl2;have z3:=u2.size;clear u2 own2 pl2;have hS1:=SV.out (V0.alloc (.cells (prC r).toArray 270)) (HB.out.alloc HB.out.size _);generalize (prC r).toArray=pla at hbs happ hS1 ⊢;refine aM rfl rfl (fun K hK=>?_);refine lD 268 1 _ rfl #[(0,.agg pla)] (by first | with_reducible rfl | kernel_rfl) hbs ?_;refine hK _ _ (fun _=>hS1) ?_;clear hK K hbs;(try simp only[Act.put,gA,gS,gZ,sA,sZ,sS])
  refine aM rfl rfl (fun K hK=>?_);have bW3:=HB.out.trans (Below.mono (show Below V0.heap.size V0 W3 from⟨HD.out.1.os,HD.out.1.tape,HD.out.1.output,HD.out.1.size,fun k hk=>HD.out.1.block k hk (fun h=>h)⟩) HB.out.size);have hS2:=SV.out W3 bW3;have B3:=hIz bW3;refine fE _ _ _ rfl rfl rfl happ ?_;refine hK _ _ (fun _=>hS2) ?_;clear hK K happ;(try simp only[Act.put,gA,gS,gZ,sA,sZ,sS])
  refine aC rfl ?_;have fz:W3.frozen? ⟨w.heap.size,0,none⟩=false:=(KD.out.2.2.2.1.upd (upF B3.out) id).frozen 0;have q0:W3.cell? ⟨w.heap.size,0,none⟩=some (.slice none 0 0):=hS2.2.2.2.1;refine aM rfl rfl (fun K hK=>?_);go_simp;refine hK _ _ (fun h=>absurd rfl h) ?_;clear hK K;(try simp only[Act.put,gA,gS,gZ,sA,sZ,sS])
  refine aG ?_;have FIN:=hIz (show KpM w.heap.size (fun q=>q=w.heap.size) V (W3.setCell ⟨w.heap.size,0,none⟩ (.slice A2 1 c2))∧OW w (some r) (W3.setCell ⟨w.heap.size,0,none⟩ (.slice A2 1 c2)) from by
   obtain⟨-,hb,k1,k0,-⟩:=KD.out;obtain⟨-,own2,pl2⟩:=HD.out;have zV:=HB.out.size;have us:=(Upd.refl (fun q=>q=w.heap.size) W3).setCell (p:=⟨w.heap.size,0,none⟩) (.inl rfl) (.slice A2 1 c2);have hu:=(Upd.of_below B3.out (fun q=>q=w.heap.size)).trans us (fun _ h=>.inl h);have k0s:=(k0.upd (upF B3.out) id).set 0 (.slice A2 1 c2);have own5:=aB own2 us (fun k hk e=>by have:=pl2 k hk;omega);refine⟨fun _=>⟨hu.mono (fun i _ hi=>.inl hi),fun v q hv ho=>?_⟩,hb.trans (hu.below (fun i _ e=>by omega) hb.size),k1.upd hu (by omega),A2,1,c2,k0s,⟨rfl,own5,fun k hk=>by have:=pl2 k hk;omega⟩,fun h=>by cases h⟩;have hc:(W3.setCell ⟨w.heap.size,0,none⟩ (.slice A2 1 c2)).cell? ⟨w.heap.size,0,none⟩=some (.slice A2 1 c2):=k0s.cell 0;rw[hc] at hv;injection hv with hv;subst hv;exact⟨(own5.lt q ho).2,fun hlt=>by have:=pl2 q ho;omega⟩)
  exact⟨FIN.out.1,FIN.out.2⟩
 case done =>
  rintro xs V hxs hi hrV pD hD;have hi2:OW w b V:=by
   have h9:OW w (xs.map (·.1)).head? V:=hi;rw[hxs] at h9;cases b <;> exact h9
  have q1:V.cell? ⟨w.heap.size+1,0,none⟩=some (.slice (some ⟨w.heap.size,0,none⟩) 1 1):=hi2.2.1.cell 0;have HE:=aI4 hi2 pD hD zW;have z9:w.heap.size<W2.heap.size:=by omega
  have z10:w.heap.size+2≤W2.heap.size:=by omega
  have HZ:=aI2 z9 z10;clear hi hi2 hrV pD hD;go_wp2;refine zU (B:=W2.heap.size) (lb:=w.heap.size) (F:=fun q=>q=w.heap.size) (fun w1=>OW w b w1) (sF (fun _:Unit=>b) HZ.out.2) HZ.out.1 ?_ [W2.heap.size] _ (by simp) (fun D hD=>?_) ?_ HE.out.1
  ·rintro w1 ⟨h1,h2,A',n',c',h3,h4,-⟩;exact⟨_,by simp[results,Tryz.f177,go_sem],w.heap.size,A',n',c',Nat.le_refl _,rfl,h3,h1,h4⟩
  ·obtain rfl:=List.mem_singleton.1 hD;exact⟨Nat.le_refl _,HE.out.2.1,HE.out.2.2.1⟩
  ·have h1:=HE.out.1.2.1.lt;omega
 case stop=>exact fun c pre V _ h=>h.elim
open Go.RowKit Go.Shelf
attribute [local go_sem] Oper.semAt_some
theorem jL{w w':World}{base e size n:Nat}{v:Value}{xs:List Value}{row:Option Nat}(h:w.ownsRow base e size v n xs)(hg:w.grownBy w' row)(hr:∀r,row=some r→∃o:Obj,w.heap[r]?=some o∧o.isCells=false):w'.ownsRow base e size v n xs:=
 aB h (Upd.of_grown hg) (fun k hk e=>by
  obtain⟨o,h1,h2⟩:=hr k e;rcases h.2 with ⟨hv,-⟩|⟨g,cap,cur,hv,-,hc,-⟩
  ·rw[hv] at hk;simp[Value.ownBlock] at hk
  ·rw[hv] at hk;simp only[Value.ownBlock] at hk
   have:g=k:=by simpa using hk
   subst this;rw[hc] at h1;cases h1;cases h2)
theorem QuS.keep{w w':World}{F:Nat→Prop}{p side:Nat}{b:Option (List Nat)}{row:Option Nat}(h:QuS w F p side b)(hg:w.grownBy w' row)(hr:∀r,row=some r→∃o:Obj,w.heap[r]?=some o∧o.isCells=false):QuS w' F p side b:=by
 obtain⟨O,dep,cnt,m,last,L,pv,lv,hs,ok,rfl⟩:=h;refine⟨O,dep,cnt,m,last,L,pv,lv,⟨hs.blk.keep (B:=0) hg (fun r e=>⟨Nat.zero_le _,hr r e⟩),jL hs.rp hg hr,jL hs.rl hg hr,hs.op,hs.oa,hs.ol,fun k hk=>Nat.lt_of_lt_of_le (hs.lt k hk) hg.size⟩,ok,rfl⟩
theorem KL(l:Nat)(g c:Nat)(A:Option Addr)(r:List Nat)(hr:Wd r)(J Jx:List {x:List Nat // some r=some x}→World→Prop)(W:World)
  (hg:Blk W g 237 #[.slice A 1 c]) (hrow:W.ownsRow 0 240 66 (.slice A 1 c) 1 (plC r))
  (hY:∀x,YieldAt Fence.wide 0 Tryz.prog l (MU x) (W.alloc (.cells (plC r).toArray 240)) fun e W'=>(e=.returned (.bool true)∧J [x] W')∨(e=.returned (.bool false)∧Jx [x] W')) :
  Calls Tryz.prog 198 #[.func (.yield l) #[] #[],.pointer (some ⟨g,0,none⟩)] W fun e W'=>(∃v,e=.returned v) ∧
   ((∃ys,ys.map (·.1)=[r]∧J ys W')∨(∃pre,True∧Jx pre W')):=by
 obtain⟨ga,cc,e,hob,-,hcc,-,hcell⟩:=aN hrow (by decide);injection e with e1 e2 e3;subst e1;subst e3;have q0:W.cell? ⟨g,0,none⟩=some (.slice (some ⟨ga,0,none⟩) 1 c):=hg.cell 0;have rA:W.rangeAt ga 0 (plC r):=fun j v hv=>by rw[Nat.zero_add];exact(hcell j v hv).1
 have k2:=Blk.new W 240 (plC r).toArray;have b2:Below W.heap.size W (W.alloc (.cells (plC r).toArray 240)):=bR.alloc (Nat.le_refl _) _;obtain⟨fn,tmps,assign,body,hyy,hR⟩:=hY ⟨r,rfl⟩;dsimp only [MU] at hyy
 unfold wdV at hyy;have hsz:=wI hr;have h1c:=rT r;have HX:=hIz k2;have HR:=hIz hR;have HW:=hIz hr;clear k2 b2 hR hcell hob hcc e2 hg hrow hY;refine(callsIn_wide (n:=1)).1 ?_;refine callsIn_of_wp Tryz.func198 rfl trivial ?_ rfl;simp only[Tryz.ntmps198,List.size_toArray,List.length_cons,List.length_nil,Nat.reduceAdd,Nat.reduceSub,Array.replicate_succ,Array.replicate_zero,List.push_toArray,List.append_toArray,List.nil_append,List.cons_append]
 refine wpIn_wide.2 ?_;go_upto_region 1 with (fail);refine wp_loop_rounds 2 ?_;rw[rounds_succ];go_upto_region 3 with (first | (refine wpList_load_mid rfl 240 _ rfl ga 0 rfl (plC r) (.struct _) rA Tryz.underlying240 rfl hsz ?_) | (refine cR rfl rfl 240 _ _ rfl rfl (plC r) ⟨_,by rw[kM hr];exact eV.choose_spec.1,eV.choose_spec.2⟩ rfl rfl hsz h1c ?_) | fail);clear rA hsz h1c q0;generalize W.heap.size=g2 at HX ⊢;generalize W.alloc (.cells (plC r).toArray 240)=W1 at HX HR hyy ⊢;have r2:=rW HX.out;have q0:W1.cell? ⟨g2,0,none⟩=some (.int .i64 0):=by rw[HX.out.cell 0];simp[plC]
 have q1:W1.cell? ⟨g2,1,none⟩=some (.int .i64 0):=by rw[HX.out.cell 1];simp[plC]
 have hsz:=bO hr;refine(wpIn_wide (n:=0)).1 ?_;gi_wp2_with (refine eU rfl 164 _ rfl g2 2 rfl (wdC r) (.array 64 162) r2 Tryz.underlying164 rfl hsz ?_)
 refine⟨rfl,HR.out.mono ?_⟩;rintro e W3 (⟨rfl,hJ3⟩|⟨rfl,hJx3⟩)
 ·have FIN:=hIz hJ3;clear hJ3 hyy HR q0 q1 r2 hsz;gi_wp2
  go_wp2;rw[rounds_succ];go_wp2;exact bodyPost_end (results_none rfl _ _ _) rfl ⟨⟨_,rfl⟩,.inl ⟨_,rfl,FIN.out⟩⟩
 ·have FIN:=hIz hJx3;clear hJx3 hyy HR q0 q1 r2 hsz;gi_wp2
  go_wp2;refine bodyPost_ret (results_none rfl _ _ _) rfl ?_;exact⟨⟨_,rfl⟩,.inr ⟨_,trivial,FIN.out⟩⟩
theorem EL(w:World)(b:Option (List Nat))(hw:Wd (fI b))(g c n:Nat)(A:Option Addr)(hg:Blk w g 237 #[.slice A n c])
  (base:Nat) (hm:DT w base A n c b) :
  SeqStopsK Fence.wide 1 Tryz.prog 198 #[.pointer (some ⟨g,0,none⟩)] (MU (b:=b)) (fun _ _=>True) (fun ys=>ys.map (·.1)=b.toList) (fun _=>True) b.toList.length w:=
 fun l J Jx W hW hJ hJx hY h0=>by
  have hu:=Upd.of_below hW (fun _=>False);have hgW:=hg.upd hu id;refine callsIn_wide.2 ?_;cases b with
  | none =>
   obtain rfl:=hm;exact uP l g c A W _ hgW ⟨⟨_,rfl⟩,.inl ⟨[],rfl,h0⟩⟩
  | some r =>
   obtain⟨rfl,own,-⟩:=hm;refine KL l g c A r hw J Jx W hgW (aB own hu (fun _ _=>id)) (fun x=>?_);refine(hY [] x _ (hJ [] W _ none h0 (World.grownBy_alloc W _ none) (fun r e=>by cases e)) Nat.zero_lt_one).mono ?_;rintro e W' (⟨h1,h2,-⟩|h1)
   ·exact .inl ⟨h1,h2⟩
   ·exact .inr h1
open Go.RowKit Go.Shelf
attribute [local go_sem] Oper.semAt_some
def mulO:Option (List Nat)→Option (List Nat)→Option (List Nat)
 | some x,some y=>joinO none (lZ x y)
 | _,_=>none
def UG(w:World)(side:Nat)(c:Option (List Nat))(e:Ending)(w':World):Prop:=∃p,e=.returned (.pointer (some ⟨p,0,none⟩))∧gF w.heap.size p side c w'∧Below w.heap.size w w'
theorem uR{B:Nat}{w w':World}{F:Nat→Prop}(h:Upd F w w')(hF:∀q,F q→q<B):KeepsFrom B w w':=
 ⟨h.size,fun k o hB hi _=>(h.block k (Array.getElem?_eq_some_iff.1 hi).1 (fun hf=>by have:=hF k hf;omega)).trans hi⟩
def MuI(w:World)(z1 pm side g5 g7 g0 n c:Nat)(A:Option Addr)(b out:Option (List Nat))(st:Prop)(V:World):Prop:=
 Below w.heap.size w V∧Blk V g5 110 #[.pointer (some ⟨pm,0,none⟩)]∧Blk V g7 263 #[.slice (some ⟨g0,0,none⟩) 1 1]∧Blk V g0 268 #[.slice A n c]∧KK V z1 A n c b∧qF V ∧
  ∃Fx,QuS V Fx pm side out∧(∀k,Fx k→w.heap.size≤k)∧(st→∀k,Fx k→k<z1)
theorem KK.upd{V V':World}{z n c:Nat}{A:Option Addr}{b:Option (List Nat)}{F:Nat→Prop}(h:KK V z A n c b)(hu:Upd F V V')(hF:∀k,F k→k<z):KK V' z A n c b:=by
 cases b with
 | none=>exact h
 | some r =>
  obtain⟨h1,own,pl⟩:=h;exact⟨h1,aB own hu (fun k hk e=>by have:=pl k hk;have:=hF k e;omega),pl⟩
theorem KK.le{V:World}{z z' n c:Nat}{A:Option Addr}{b:Option (List Nat)}(h:KK V z A n c b)(hz:z'≤z):KK V z' A n c b:=by
 cases b with
 | none=>exact h
 | some r=>exact⟨h.1,h.2.1,fun k hk=>Nat.le_trans hz (h.2.2 k hk)⟩
theorem wN{P:Program}{fn:Func}{tmps:Array Value}{R:Ending→World→Prop}{F:Fence}{n D:Nat}{w:World}(hd:w.heap[D]?=some (.deferred (some [])))
  (hfin:∃v,(results fn tmps).run P (w.putObj D (.deferred none))=.ok v (w.putObj D (.deferred none))∧R (.returned v) (w.putObj D (.deferred none))):LeavesInM F n P fn tmps R [{ target:=.collected D,args:=#[] }] .returning w:=
 ⟨by simp,.inl ⟨D,_,rfl,run_takeDeferred hd,hfin⟩⟩
theorem MuI.below{w V V':World}{z1 pm side g5 g7 g0 n c:Nat}{A:Option Addr}{b out:Option (List Nat)}{st:Prop}(h:MuI w z1 pm side g5 g7 g0 n c A b out st V)(hb:Below V.heap.size V V')(htab:1<w.heap.size):MuI w z1 pm side g5 g7 g0 n c A b out st V':=by
 obtain⟨h1,h2,h3,h4,h5,h6,Fx,h7,h8,h9⟩:=h;have hu:=Upd.of_below hb (fun _=>False);exact⟨tHn h1 hb,h2.upd hu id,h3.upd hu id,h4.upd hu id,h5.upd hu (fun _ h=>h.elim),h6.upd hu (Nat.lt_of_lt_of_le htab h1.size) id,Fx,h7.below hb,h8,h9⟩
theorem MuI.own{β:Type}{w:World}{z1 pm side g5 g7 g0 n c B:Nat}{A:Option Addr}{b:Option (List Nat)}(f:β→Option (List Nat))(st:β→Prop)(hB:w.heap.size≤B)(htab:1<w.heap.size):OwnFrom B (fun s V=>MuI w z1 pm side g5 g7 g0 n c A b (f s) (st s) V):=by
 rintro s X Y row ⟨h1,h2,h3,h4,h5,h6,Fx,h7,h8,h9⟩ hg hr;have hu:=Upd.of_grown hg;refine⟨h1.trans (hu.below (fun i _ e=>by have:=(hr i e).1;omega) h1.size),h2.keep hg hr,h3.keep hg hr,h4.keep hg hr,?_,h6.upd hu (Nat.lt_of_lt_of_le htab h1.size) (fun e=>by have:=(hr _ e).1;omega),Fx,h7.keep hg (fun r e=>(hr r e).2),h8,h9⟩;cases b with
 | none=>exact h5
 | some r=>exact⟨h5.1,jL h5.2.1 hg (fun r e=>(hr r e).2),h5.2.2⟩
theorem KM(w:World)(F F':Nat→Prop)(p q side:Nat)(a b:Option (List Nat))(h:QuS w F p side a)(h':QuS w F' q side b)(hs64:side≤64)(hT:qF w)(htab:1<w.heap.size)
  (hfit:∀x y,a=some x→b=some y→cM (lZ x y) side=lZ x y):Calls Tryz.prog 154 #[.pointer (some ⟨p,0,none⟩),.pointer (some ⟨q,0,none⟩)] w (UG w side (mulO a b)):=by
 have hs1:1≤side:=by obtain⟨O,dep,cnt,m,last,L,pv,lv,hq,ok,-⟩:=h;exact ok.s1
 have q0:w.cell? ⟨p,0,none⟩=some (.int .i64 (side:Int)):=by obtain⟨O,dep,cnt,m,last,L,pv,lv,hq,ok,-⟩:=h;exact hq.blk.cell 0
 have hwa:Hid (Wd (fI a)):=by
  obtain⟨O,dep,cnt,m,last,L,pv,lv,hq,ok,-⟩:=h;exact hIz (lW ok)
 have hwb:Hid (Wd (fI b)):=by
  obtain⟨O,dep,cnt,m,last,L,pv,lv,hq,ok,-⟩:=h';exact hIz (lW ok)
 have hside:=cX w p side hs1 q0;have hnew:=mZ w side hs1 (by omega);have H:=aI4 h h' hT hfit;clear h h' q0 hT hfit;refine(callsIn_wide (n:=1)).1 ?_;refine callsIn_of_wp_marks Tryz.func154 rfl trivial ?_ rfl;simp only[Tryz.ntmps154,List.size_toArray,List.length_cons,List.length_nil,Nat.reduceAdd,Nat.reduceSub,Array.replicate_succ,Array.replicate_zero,List.push_toArray,List.append_toArray,List.nil_append,List.cons_append]
 refine wpIn_wide.2 ?_;go_wp2_with fail;refine hside.mono ?_;clear hside;rintro e V1 ⟨rfl,hw⟩;subst V1;go_wp2_with fail;refine hnew.mono ?_;clear hnew;rintro e W1 ⟨pm,rfl,⟨Fm,hq,hF⟩,hb⟩;have k5:=Blk.new W1 110 #[.pointer (some ⟨pm,0,none⟩)];have b2:Below W1.heap.size W1 (W1.alloc (.cells #[.pointer (some ⟨pm,0,none⟩)] 110)):=bR.alloc (Nat.le_refl _) _;have z2:(W1.alloc (.cells #[.pointer (some ⟨pm,0,none⟩)] 110)).heap.size=W1.heap.size+1:=by simp
 have bw2:=tHn hb b2;have hrw:=EK _ F' q side b (H.out.2.1.below bw2) hs64;have H2:=aI5 (hq.below b2) (fun k hk=>And.intro (hF k hk) (hq.lt k hk)) bw2 k5 z2;clear hq hF hb k5 b2 bw2;go_upto_region 2 with (fail);generalize W1.alloc (.cells #[.pointer (some ⟨pm,0,none⟩)] 110)=W2 at H2 hrw z2 ⊢;go_wp2_with fail;refine hrw.mono ?_;clear hrw;rintro e W3 ⟨g0,A,n,c,hg0,rfl,k0,b3,hrow⟩;have k7:=Blk.new W3 263 #[.slice (some ⟨g0,0,none⟩) 1 1];have b4:Below W3.heap.size W3 (W3.alloc (.cells #[.slice (some ⟨g0,0,none⟩) 1 1] 263)):=bR.alloc (Nat.le_refl _) _;have z4:(W3.alloc (.cells #[.slice (some ⟨g0,0,none⟩) 1 1] 263)).heap.size=W3.heap.size+1:=by simp
 have b24:=tHn b3 b4;have u4:=Upd.of_below b4 (fun _=>False);have I4:MuI w W1.heap.size pm side W1.heap.size W3.heap.size g0 n c A b none True (W3.alloc (.cells #[.slice (some ⟨g0,0,none⟩) 1 1] 263)):=by
  obtain⟨hq,hF,bw2,k5,-⟩:=H2.out;have u24:=Upd.of_below b24 (fun _=>False);have bw4:=tHn bw2 b24;exact⟨bw4,k5.upd u24 id,k7,k0.upd u4 id,(hrow.upd u4 (fun _ h=>h.elim)).le (by omega),H.out.2.2.1.upd (upF bw4) htab id,Fm,hq.below b24,fun k hk=>(hF k hk).1,fun _ k hk=>by have:=(hF k hk).2;omega⟩
 have hbl:=uQ _ F p side a (H.out.1.below I4.1);have z3:=b3.size;have H4:=hIz I4;clear k7 b4 b24 u4 I4 k0 b3 hrow;go_upto_region 3 with (fail);generalize hg7:W3.heap.size=g7 at H4 z3 z4 ⊢;generalize W3.alloc (.cells #[.slice (some ⟨g0,0,none⟩) 1 1] 263)=W4 at H4 hbl z4 ⊢;go_wp2_with fail;refine hbl.mono ?_;clear hbl;rintro e W5 ⟨g,A',n',c',hge,rfl,kg,b5,hm⟩;have hseq:=EL W5 a hwa.out g c' n' A' kg W4.heap.size hm;have I5:=H4.out.below b5 htab;have zw:w.heap.size≤W5.heap.size:=I5.1.size;have z5:=b5.size;have HST:=hIz hseq;have H5:=hIz I5;clear hseq I5 kg b5 hm;go_wp2;refine JR 2 (by decide) (gf:=198) (lb:=#[.pointer (some ⟨g,0,none⟩)]) rfl (enters_of Tryz.func198 (by kernel_rfl) rfl) HST.out (fun _ _=>trivial) (fun _ _ _ _ _ _ _ _=>trivial) bR (fun _=>rfl)
  (fun pre V=>MuI w W1.heap.size pm side W1.heap.size g7 g0 n c A b (mulO (pre.map (·.1)).head? b) (pre=[]) V) (fun _ _ _=>False) (MuI.own _ _ zw htab) (fun c s X Y row h _ _=>h)
  (by obtain⟨h1,h2,h3,h4,h5,h6,Fx,h7,h8,h9⟩:=H5.out;exact⟨h1,h2,h3,h4,h5,h6,Fx,h7,h8,fun _=>h9 trivial⟩)
  (fun T x bb=>(((T.setIfInBounds 22 (.agg #[.int .i64 0,.int .i64 0])).setIfInBounds 23 (.agg (wdC x.1).toArray)).setIfInBounds 8 (.pointer (some ⟨bb,0,none⟩))).setIfInBounds 9 (.pointer (some ⟨bb+1,0,none⟩)))
  (fun x bb V=>Blk V bb 100 #[.int .i64 0,.int .i64 0]∧Blk V (bb+1) 164 (wdC x.1).toArray∧g7≤bb)
  ?hBx ?assign ?body ?done ?stop
 case hBx=>exact fun x bb s X Y row h hg hr=>⟨h.1.keep hg hr,h.2.1.keep hg hr,h.2.2⟩
 case assign =>
  rintro l2 pre ⟨r,hbr⟩ V Kc hi hK;subst hbr;dsimp only [MU]
  unfold wdV;have HI2:=hIz hi;have hr:Wd r:=hwa.out;have hsz:=bO hr;have h1c:=gL r;clear hi;gi_wp2_with (refine dF rfl rfl 164 _ _ rfl rfl (wdC r) ⟨_,by rw[bJ,hr.len];exact fQ.choose_spec.1,fQ.choose_spec.2⟩ rfl rfl hsz h1c ?_)
  have b6:Below V.heap.size V ((V.alloc (.cells #[.int .i64 0,.int .i64 0] 100)).alloc (.cells (wdC r).toArray 164)):=by(repeat (first | exact Below.refl _ _ | apply Below.drew | refine Below.alloc ?_ (by first | exact Nat.le_refl _ | (simp;done) | (simp;omega)) _ | refine Below.setCell ?_ (by first | exact Nat.le_refl _ | (simp;done) | (simp;omega)) _))
  have k8:=(Blk.new V 100 #[.int .i64 0,.int .i64 0]).alloc (.cells (wdC r).toArray 164);have k9:=Blk.new (V.alloc (.cells #[.int .i64 0,.int .i64 0] 100)) 164 (wdC r).toArray;simp only[World.size_alloc] at k9
  exact hK V.heap.size _ (uR (upF b6) (fun _ h=>h.elim)) trivial (HI2.out.below b6 htab) ⟨k8,k9,Nat.le_of_lt HI2.out.2.2.1.lt⟩
 case body =>
  rintro l2 pre ⟨r,hbr⟩ bb V hl-hi ⟨k8,k9,hbb⟩ hlt2;subst hbr;obtain rfl:pre=[]:=List.eq_nil_of_length_eq_zero (by have:pre.length<1:=hlt2;omega);have hr:Wd r:=hwa.out;obtain⟨h1,h2,h3,h4,h5,h6,Fx,h7,h8,h9⟩:=hi;have q5:V.cell? ⟨W1.heap.size,0,none⟩=some (.pointer (some ⟨pm,0,none⟩)):=h2.cell 0;have q7:V.cell? ⟨g7,0,none⟩=some (.slice (some ⟨g0,0,none⟩) 1 1):=h3.cell 0;have q0:V.cell? ⟨g0,0,none⟩=some (.slice A n c):=h4.cell 0;have q81:V.cell? ⟨bb,1,none⟩=some (.int .i64 0):=k8.cell 1;simp only[sA,sZ,sS]
  cases b with
  | none =>
   obtain rfl:n=0:=h5;have FIN:=hIz (show MuI w W1.heap.size pm side W1.heap.size g7 g0 0 c A none (mulO (some r) none) ([(⟨r,rfl⟩:{x:List Nat // some r=some x})]=[]) V from⟨h1,h2,h3,h4,rfl,h6,Fx,h7,h8,fun h=>by cases h⟩);clear h1 h2 h3 h4 h6 h7 h8 h9 k8 k9;gi_wp2
   refine wpIn_loop_rounds 1 ?_;rw[roundsIn_succ];gi_wp2
   exact⟨KeepsFrom.refl _ _,trivial,FIN.out⟩
  | some y =>
   obtain⟨rfl,own,pl⟩:=h5;have hy:Wd y:=hwb.out;obtain⟨ga,cc,e,hob,-,-,-,hcell⟩:=aN own (by decide);injection e with e1 e2 e3;subst e1;subst e3;have rA:V.rangeAt ga 0 (prC y):=fun j v hv=>by rw[Nat.zero_add];exact(hcell j v hv).1
   have hsz:=KH hy;have h1c:=EJ y;have k11:=Blk.new V 270 (prC y).toArray;have b6:Below V.heap.size V (V.alloc (.cells (prC y).toArray 270)):=bR.alloc (Nat.le_refl _) _;have HX:=aI10 h1 h2 h3 h4 own pl h6 h7 h8 h9;have HK:=aI4 k8 k9 k11 b6;have g7V:=h3.lt;clear h1 h2 h3 h4 own pl h6 h7 h8 h9 k8 k9 hcell hob e2 k11 b6;gi_wp2
   refine wpIn_loop_rounds 2 ?_;rw[roundsIn_succ];gi_wp2_with (first | (refine eU rfl 270 _ rfl ga 0 rfl (prC y) (.struct _) rA Tryz.underlying270 rfl hsz ?_) | (refine dF rfl rfl 270 _ _ rfl rfl (prC y) ⟨(List.replicate 1 (Value.int .i64 0)++List.replicate 64 (Value.int .u64 0)).toArray,by rw[oK hy];decide,fun w=>by kernel_rfl⟩ rfl rfl hsz h1c ?_))
   generalize V.alloc (.cells (prC y).toArray 270)=V1 at HK ⊢;have SV:=hIz (show ∀X,Below V.heap.size V X→Blk X V.heap.size 270 (prC y).toArray→(fun X=>X.cell? ⟨W1.heap.size,0,none⟩=some (.pointer (some ⟨pm,0,none⟩))∧X.cell? ⟨bb,0,none⟩=some (.int .i64 0)∧X.cell? ⟨V.heap.size,0,none⟩=some (.int .i64 0)∧X.rangeAt (bb+1) 0 (wdC r)∧X.rangeAt V.heap.size 1 (wdC y)) X from fun X hx k11=>by
    have ux:=Upd.of_below hx (fun _=>False);exact⟨(HX.out.2.1.upd ux id).cell 0,(HK.out.1.upd ux id).cell 0,by rw[k11.cell 0];simp[prC],bS (HK.out.2.1.upd ux id),fun j v hv=>by rw[k11.cell (1+j),Nat.add_comm];simpa[prC] using hv⟩)
   have B1:=hIz (show Below V.heap.size V V1.drew from HK.out.2.2.2.drew);have K1:=hIz (show Blk V1.drew V.heap.size 270 (prC y).toArray from HK.out.2.2.1);have hS:=SV.out V1.drew B1.out K1.out;refine jI (fun X=>X.cell? ⟨W1.heap.size,0,none⟩=some (.pointer (some ⟨pm,0,none⟩))∧X.cell? ⟨bb,0,none⟩=some (.int .i64 0)∧X.cell? ⟨V.heap.size,0,none⟩=some (.int .i64 0)∧X.rangeAt (bb+1) 0 (wdC r)∧X.rangeAt V.heap.size 1 (wdC y)) 9 [(0,true),(1,true),(2,true),(3,true),(4,true),(5,true),(6,true),(7,true),(8,false),(9,false)] (by kernel_rfl) (by kernel_rfl) (by kernel_rfl) (fun ⟨_,_,h⟩=>h) (fun _ _ d _ _ h=>by cases d <;> exact h) hS ?_;generalize V1.drew=V0 at hS B1 K1 ⊢;clear q5 q7 q0 q81 rA hsz h1c;have hszr:=bO hr;have hszy:=bO hy
   iterate 5 refine aC rfl ?_
   (refine eZ rfl (by first | with_reducible rfl | kernel_rfl) 164 _ rfl (bb+1) 0 rfl (wdC r) (.array 64 162) (fun _ h=>h.2.2.2.1) Tryz.underlying164 rfl hszr ?_;(try simp only[Act.put,gA,gS,gZ,sA,sZ,sS]))
   refine aC rfl ?_;(refine eZ rfl (by first | with_reducible rfl | kernel_rfl) 164 _ rfl V.heap.size 1 rfl (wdC y) (.array 64 162) (fun _ h=>h.2.2.2.2) Tryz.underlying164 rfl hszy ?_;(try simp only[Act.put,gA,gS,gZ,sA,sZ,sS]))
   refine aM rfl rfl (fun K hK=>?_);go_simp;have hmul:=JT V0 r y hr hy (HX.out.2.2.2.2.2.2.1.upd (upF B1.out) (Nat.lt_of_lt_of_le htab HX.out.1.size) id);unfold wdV at hmul;refine hmul.mono ?_;clear hmul;rintro e V2 ⟨rfl,b7⟩;have B2:=hIz (tHn B1.out b7);have hS:=SV.out V2 B2.out (K1.out.upd (upF b7) id);refine hK _ _ (fun _=>hS) ?_;clear hK K b7;(try simp only[Act.put,gA,gS,gZ,sA,sZ,sS])
   refine aM rfl rfl (fun K hK=>?_);go_simp;have hput:=yH V2 Fx pm side none (HX.out.2.2.2.2.2.2.2.1.below B2.out) hs64 (lZ r y) (mA r hy) (H.out.2.2.2 r y rfl rfl);unfold wdV at hput;refine hput.mono ?_;clear hput;rintro e V3 ⟨rfl,hto⟩;have FIN:=hIz (show KeepsFrom W5.heap.size V V3∧MuI w W1.heap.size pm side W1.heap.size g7 g0 1 c (some ⟨ga,0,none⟩) (some y) (mulO (some r) (some y)) ([(⟨r,rfl⟩:{x:List Nat // some r=some x})]=[]) V3 from by
    obtain⟨h1,h2,h3,h4,own,pl,h6,h7,h8,h9⟩:=HX.out;obtain⟨F2,hq2,u2,n2⟩:=QTo.after B2.out hto;have h9:=h9 trivial;have hg0:=hg0;exact⟨uR u2 (fun k hk=>by have:=h9 k hk;omega),h1.trans (u2.below (fun i _ e=>h8 i e) h1.size),h2.upd u2 (fun e=>by have:=h9 _ e;omega),h3.upd u2 (fun e=>by have:=h9 _ e;omega),h4.upd u2 (fun e=>by have:=h9 _ e;omega),
     ⟨rfl,aB own u2 (fun k hk e=>by have:=pl k hk;have:=h9 k e;omega),pl⟩,h6.upd u2 (Nat.lt_of_lt_of_le htab h1.size) (fun e=>by have:=h8 _ e;omega),F2,hq2,fun k hk=>(n2 k hk).elim (h8 k) (fun h=>Nat.le_trans h1.size h),fun h=>by cases h⟩)
   refine hK _ _ (fun h=>absurd rfl h) ?_;clear hK K hto;(try simp only[Act.put,gA,gS,gZ,sA,sZ,sS])
   refine aG ?_;gi_wp2
   rw[roundsIn_succ];gi_wp2
   exact⟨FIN.out.1,trivial,FIN.out.2⟩
 case done =>
  rintro D xs V hD hxs hi hd;have hi2:MuI w W1.heap.size pm side W1.heap.size g7 g0 n c A b (mulO a b) False V:=by
   obtain⟨h1,h2,h3,h4,h5,h6,Fx,h7,h8,-⟩:=hi;refine⟨h1,h2,h3,h4,h5,h6,Fx,?_,h8,fun h=>h.elim⟩;rw[hxs] at h7;cases a <;> exact h7
  have q5:V.cell? ⟨W1.heap.size,0,none⟩=some (.pointer (some ⟨pm,0,none⟩)):=hi2.2.1.cell 0;have HE:=aI2 ((MuI.own (fun _:Unit=>mulO a b) (fun _=>False) zw htab).putObj (s:=()) (.deferred none) hi2 hD hd rfl) hd;clear hi hi2 hd;go_wp2;refine wN HE.out.2 ?_;obtain⟨h1,h2,h3,h4,h5,h6,Fx,h7,h8,-⟩:=HE.out.1;exact⟨_,by simp[results,Tryz.f154,go_sem],pm,rfl,⟨Fx,h7,h8⟩,h1⟩
 case stop=>exact fun D c pre V _ _ h=>h.elim
open Go.RowKit Go.Shelf
def UH(g pc pa pb side:Nat)(X:World):Prop:=X.cell? ⟨g,0,none⟩=some (.pointer (some ⟨pc,0,none⟩))∧X.cell? ⟨g,1,none⟩=some (.pointer (some ⟨pa,0,none⟩))∧X.cell? ⟨g,2,none⟩=some (.pointer (some ⟨pb,0,none⟩))∧X.cell? ⟨pc,0,none⟩=some (.int .i64 (side:Int))∧X.cell? ⟨pa,0,none⟩=some (.int .i64 (side:Int))∧X.cell? ⟨pb,0,none⟩=some (.int .i64 (side:Int))
theorem KN(w:World)(g pc pa pb side:Nat)(hs1:1≤side)(hS:UH g pc pa pb side w):Calls Tryz.prog 153 #[.slice (some ⟨g,0,none⟩) 3 3] w (fun e w'=>e=.returned (.int .i64 0)∧Below w.heap.size w w'):=by
 obtain⟨q0,q1,q2,c0,c1,c2⟩:=hS;have hne:((side:Int)==0)=false:=by simp;omega
 go_enter Tryz.func153,Tryz.ntmps153;go_upto_region 2 with (fail);refine wp_loop_rounds 4 ?_;rw[rounds_succ];go_wp2_with fail;refine(cX _ pc side hs1 c0).mono ?_;rintro e V ⟨rfl,hV⟩;subst V;go_wp2_with fail;rw[rounds_succ];go_wp2_with fail;refine(cX _ pa side hs1 c1).mono ?_;rintro e V ⟨rfl,hV⟩;subst V;go_wp2_with fail;rw[rounds_succ];go_wp2_with fail;refine(cX _ pb side hs1 c2).mono ?_;rintro e V ⟨rfl,hV⟩;subst V;go_wp2_with fail;rw[rounds_succ];go_upto_region 8 with (fail);have HB0:=hIz (Below.refl w.heap.size w);refine wp_loop_rounds 4 ?_;rw[rounds_succ];go_upto_region 10 with (fail);have hS:(fun X=>X.cell? ⟨g,0,none⟩=some (.pointer (some ⟨pc,0,none⟩))∧X.cell? ⟨g,1,none⟩=some (.pointer (some ⟨pa,0,none⟩))∧X.cell? ⟨g,2,none⟩=some (.pointer (some ⟨pb,0,none⟩))∧X.cell? ⟨pc,0,none⟩=some (.int .i64 (side:Int))∧X.cell? ⟨pa,0,none⟩=some (.int .i64 (side:Int))∧X.cell? ⟨pb,0,none⟩=some (.int .i64 (side:Int))) w:=⟨q0,q1,q2,c0,c1,c2⟩;clear q0 q1 q2 c0 c1 c2;refine aF (fun X=>X.cell? ⟨g,0,none⟩=some (.pointer (some ⟨pc,0,none⟩))∧X.cell? ⟨g,1,none⟩=some (.pointer (some ⟨pa,0,none⟩))∧X.cell? ⟨g,2,none⟩=some (.pointer (some ⟨pb,0,none⟩))∧X.cell? ⟨pc,0,none⟩=some (.int .i64 (side:Int))∧X.cell? ⟨pa,0,none⟩=some (.int .i64 (side:Int))∧X.cell? ⟨pb,0,none⟩=some (.int .i64 (side:Int))) 7 [(0,true),(2,true),(3,true),(4,true),(1,false),(5,false),(6,true)] hS ?_;have hS:(fun X=>X.cell? ⟨g,0,none⟩=some (.pointer (some ⟨pc,0,none⟩))∧X.cell? ⟨g,1,none⟩=some (.pointer (some ⟨pa,0,none⟩))∧X.cell? ⟨g,2,none⟩=some (.pointer (some ⟨pb,0,none⟩))∧X.cell? ⟨pc,0,none⟩=some (.int .i64 (side:Int))∧X.cell? ⟨pa,0,none⟩=some (.int .i64 (side:Int))∧X.cell? ⟨pb,0,none⟩=some (.int .i64 (side:Int))) w.drew:=hS
 have HB1:=hIz (HB0.out.drew);generalize w.drew=w1 at hS HB1 ⊢
 iterate 4 refine aC rfl ?_
 refine aM rfl rfl (fun K hK=>?_);go_simp;refine(cX _ pc side hs1 hS.2.2.2.1).mono ?_;rintro e V ⟨rfl,hV⟩;subst V;refine hK _ _ (fun _=>hS) ?_;clear hK K;(try simp only[Act.put,gA,gS,gZ,sA,sZ,sS])
 refine aM rfl rfl (fun K hK=>?_);go_simp;refine(cX _ pc side hs1 hS.2.2.2.1).mono ?_;rintro e V ⟨rfl,hV⟩;subst V;refine hK _ _ (fun _=>hS) ?_;clear hK K;(try simp only[Act.put,gA,gS,gZ,sA,sZ,sS])
 refine aC rfl ?_;refine aG ?_;obtain⟨q0,q1,q2,c0,c1,c2⟩:=hS;go_wp2;rw[rounds_succ];go_upto_region 10 with (fail);have hS:(fun X=>X.cell? ⟨g,0,none⟩=some (.pointer (some ⟨pc,0,none⟩))∧X.cell? ⟨g,1,none⟩=some (.pointer (some ⟨pa,0,none⟩))∧X.cell? ⟨g,2,none⟩=some (.pointer (some ⟨pb,0,none⟩))∧X.cell? ⟨pc,0,none⟩=some (.int .i64 (side:Int))∧X.cell? ⟨pa,0,none⟩=some (.int .i64 (side:Int))∧X.cell? ⟨pb,0,none⟩=some (.int .i64 (side:Int))) w1:=⟨q0,q1,q2,c0,c1,c2⟩;clear q0 q1 q2 c0 c1 c2;refine aF (fun X=>X.cell? ⟨g,0,none⟩=some (.pointer (some ⟨pc,0,none⟩))∧X.cell? ⟨g,1,none⟩=some (.pointer (some ⟨pa,0,none⟩))∧X.cell? ⟨g,2,none⟩=some (.pointer (some ⟨pb,0,none⟩))∧X.cell? ⟨pc,0,none⟩=some (.int .i64 (side:Int))∧X.cell? ⟨pa,0,none⟩=some (.int .i64 (side:Int))∧X.cell? ⟨pb,0,none⟩=some (.int .i64 (side:Int))) 7 [(0,true),(2,true),(3,true),(4,true),(1,false),(5,false),(6,true)] hS ?_;have hS:(fun X=>X.cell? ⟨g,0,none⟩=some (.pointer (some ⟨pc,0,none⟩))∧X.cell? ⟨g,1,none⟩=some (.pointer (some ⟨pa,0,none⟩))∧X.cell? ⟨g,2,none⟩=some (.pointer (some ⟨pb,0,none⟩))∧X.cell? ⟨pc,0,none⟩=some (.int .i64 (side:Int))∧X.cell? ⟨pa,0,none⟩=some (.int .i64 (side:Int))∧X.cell? ⟨pb,0,none⟩=some (.int .i64 (side:Int))) w1.drew:=hS;have HB2:=hIz (HB1.out.drew);generalize w1.drew=w2 at hS HB2 ⊢
 iterate 4 refine aC rfl ?_
 refine aM rfl rfl (fun K hK=>?_);go_simp;refine(cX _ pa side hs1 hS.2.2.2.2.1).mono ?_;rintro e V ⟨rfl,hV⟩;subst V;refine hK _ _ (fun _=>hS) ?_;clear hK K;(try simp only[Act.put,gA,gS,gZ,sA,sZ,sS])
 refine aM rfl rfl (fun K hK=>?_);go_simp;refine(cX _ pc side hs1 hS.2.2.2.1).mono ?_;rintro e V ⟨rfl,hV⟩;subst V;refine hK _ _ (fun _=>hS) ?_;clear hK K;(try simp only[Act.put,gA,gS,gZ,sA,sZ,sS])
 refine aC rfl ?_;refine aG ?_;obtain⟨q0,q1,q2,c0,c1,c2⟩:=hS;go_wp2;rw[rounds_succ];go_upto_region 10 with (fail);have hS:(fun X=>X.cell? ⟨g,0,none⟩=some (.pointer (some ⟨pc,0,none⟩))∧X.cell? ⟨g,1,none⟩=some (.pointer (some ⟨pa,0,none⟩))∧X.cell? ⟨g,2,none⟩=some (.pointer (some ⟨pb,0,none⟩))∧X.cell? ⟨pc,0,none⟩=some (.int .i64 (side:Int))∧X.cell? ⟨pa,0,none⟩=some (.int .i64 (side:Int))∧X.cell? ⟨pb,0,none⟩=some (.int .i64 (side:Int))) w2:=⟨q0,q1,q2,c0,c1,c2⟩;clear q0 q1 q2 c0 c1 c2;refine aF (fun X=>X.cell? ⟨g,0,none⟩=some (.pointer (some ⟨pc,0,none⟩))∧X.cell? ⟨g,1,none⟩=some (.pointer (some ⟨pa,0,none⟩))∧X.cell? ⟨g,2,none⟩=some (.pointer (some ⟨pb,0,none⟩))∧X.cell? ⟨pc,0,none⟩=some (.int .i64 (side:Int))∧X.cell? ⟨pa,0,none⟩=some (.int .i64 (side:Int))∧X.cell? ⟨pb,0,none⟩=some (.int .i64 (side:Int))) 7 [(0,true),(2,true),(3,true),(4,true),(1,false),(5,false),(6,true)] hS ?_;have hS:(fun X=>X.cell? ⟨g,0,none⟩=some (.pointer (some ⟨pc,0,none⟩))∧X.cell? ⟨g,1,none⟩=some (.pointer (some ⟨pa,0,none⟩))∧X.cell? ⟨g,2,none⟩=some (.pointer (some ⟨pb,0,none⟩))∧X.cell? ⟨pc,0,none⟩=some (.int .i64 (side:Int))∧X.cell? ⟨pa,0,none⟩=some (.int .i64 (side:Int))∧X.cell? ⟨pb,0,none⟩=some (.int .i64 (side:Int))) w2.drew:=hS;have HB3:=hIz (HB2.out.drew);generalize w2.drew=w3 at hS HB3 ⊢
 iterate 4 refine aC rfl ?_
 refine aM rfl rfl (fun K hK=>?_);go_simp;refine(cX _ pb side hs1 hS.2.2.2.2.2).mono ?_;rintro e V ⟨rfl,hV⟩;subst V;refine hK _ _ (fun _=>hS) ?_;clear hK K;(try simp only[Act.put,gA,gS,gZ,sA,sZ,sS])
 refine aM rfl rfl (fun K hK=>?_);go_simp;refine(cX _ pc side hs1 hS.2.2.2.1).mono ?_;rintro e V ⟨rfl,hV⟩;subst V;refine hK _ _ (fun _=>hS) ?_;clear hK K;(try simp only[Act.put,gA,gS,gZ,sA,sZ,sS])
 refine aC rfl ?_;refine aG ?_;obtain⟨q0,q1,q2,c0,c1,c2⟩:=hS;go_wp2;rw[rounds_succ];go_wp2;go_ret;exact⟨rfl,HB3.out⟩
theorem QuS.side{w:World}{F:Nat→Prop}{p side:Nat}{b:Option (List Nat)}(h:QuS w F p side b):1≤side∧w.cell? ⟨p,0,none⟩=some (.int .i64 (side:Int)):=by
 obtain⟨O,dep,cnt,m,last,L,pv,lv,hq,ok,-⟩:=h;exact⟨ok.s1,hq.blk.cell 0⟩
theorem EM(w:World)(Fc Fa Fb:Nat→Prop)(pc pa pb side:Nat)(c a b:Option (List Nat))(hc:QuS w Fc pc side c)(ha:QuS w Fa pa side a)(hb:QuS w Fb pb side b)(hs64:side≤64)(hT:qF w)(htab:1<w.heap.size)
  (hfit:∀x y,a=some x→b=some y→cM (lZ x y) side=lZ x y):Calls Tryz.prog 114 #[.pointer (some ⟨pc,0,none⟩),.pointer (some ⟨pa,0,none⟩),.pointer (some ⟨pb,0,none⟩)] w
   (fun e w'=>e=.returned (.tuple #[.bool (dG c (mulO a b)),.int .i64 0])∧QTo w Fc pc side (joinQ c (mulO a b)) w'):=by
 have k1:=Blk.new w 110 #[.pointer (some ⟨pc,0,none⟩),.pointer (some ⟨pa,0,none⟩),.pointer (some ⟨pb,0,none⟩)];have b1:Below w.heap.size w (w.alloc (.cells #[.pointer (some ⟨pc,0,none⟩),.pointer (some ⟨pa,0,none⟩),.pointer (some ⟨pb,0,none⟩)] 110)):=bR.alloc (Nat.le_refl _) _;have hfc:=KN _ w.heap.size pc pa pb side hc.side.1 ⟨k1.cell 0,k1.cell 1,k1.cell 2,(hc.below b1).side.2,(ha.below b1).side.2,(hb.below b1).side.2⟩;have H:=aI6 hc ha hb hT hfit b1;clear hc ha hb hT hfit b1 k1;go_enter Tryz.func114,Tryz.ntmps114;go_wp2_with fail;refine hfc.mono ?_;clear hfc;rintro e W2 ⟨rfl,b2⟩;have B2:=hIz (tHn H.out.2.2.2.2.2 b2);clear b2;have hmul:=KM W2 Fa Fb pa pb side a b (H.out.2.1.below B2.out) (H.out.2.2.1.below B2.out) hs64 (H.out.2.2.2.1.upd (upF B2.out) htab id) (Nat.lt_of_lt_of_le htab B2.out.size) H.out.2.2.2.2.1;go_wp2_with fail;refine hmul.mono ?_;clear hmul;rintro e W3 ⟨pm,rfl,⟨Fm,hq,hF⟩,b3⟩;have B3:=hIz (tHn B2.out b3);have hjoin:=oH W3 Fc Fm pc pm side c (mulO a b) (H.out.1.below B3.out) hq;clear b3 hq hF;go_wp2_with fail;refine hjoin.mono ?_;clear hjoin;rintro e W4 ⟨rfl,hto⟩;have FIN:=hIz (QTo.after B3.out hto);clear hto;go_wp2;refine bodyPost_ret (v:=.tuple #[.bool (dG c (mulO a b)),.int .i64 0]) (by simp[results,Tryz.f114,go_sem]) rfl ⟨rfl,FIN.out⟩
open Go.RowKit Go.Shelf
structure Sy where
 lab:Bool
 at_:Int
def Sy.val(s:Sy):Value:=.agg #[.bool s.lab,.int .i64 s.at_]
def fO(s:Sy)(label:Bool)(most:Int):Bool:=(s.lab==label)&&(decide (0≤s.at_)&&decide (s.at_<most))
theorem mC(w:World)(s:Sy)(label:Bool)(most:Int):Calls Tryz.prog 110 #[s.val,.bool label,.int .i64 most] w (fun e w'=>e=.returned (.bool (fO s label most))∧Below w.heap.size w w'):=by
 obtain⟨lab,at_⟩:=s;have b1:Below w.heap.size w (w.alloc (.cells #[.bool lab,.int .i64 at_] 117)):=bR.alloc (Nat.le_refl _) _;have k1:=Blk.new w 117 #[.bool lab,.int .i64 at_];have q0:(w.alloc (.cells #[.bool lab,.int .i64 at_] 117)).cell? ⟨w.heap.size,0,none⟩=some (.bool lab):=k1.cell 0;have q1:(w.alloc (.cells #[.bool lab,.int .i64 at_] 117)).cell? ⟨w.heap.size,1,none⟩=some (.int .i64 at_):=k1.cell 1;have H:=hIz b1;clear b1 k1;unfold Sy.val;by_cases h1:lab=label
 ·subst h1;have e1:(lab==lab)=true:=by simp
  by_cases h2:0≤at_
  ·by_cases h3:at_<most
   ·have FIN:fO ⟨lab,at_⟩ lab most=true:=by simp[fO,h2,h3]
    rw[FIN];go_enter Tryz.func110,Tryz.ntmps110;go_wp2;go_ret;exact⟨rfl,H.out⟩
   ·have FIN:fO ⟨lab,at_⟩ lab most=false:=by simp[fO,h3]
    rw[FIN];go_enter Tryz.func110,Tryz.ntmps110;go_wp2;go_ret;exact⟨rfl,H.out⟩
  ·have FIN:fO ⟨lab,at_⟩ lab most=false:=by simp[fO,h2]
   rw[FIN];go_enter Tryz.func110,Tryz.ntmps110;go_wp2;go_ret;exact⟨rfl,H.out⟩
 ·have e1:(lab==label)=false:=by simpa using h1
  have FIN:fO ⟨lab,at_⟩ label most=false:=by simp[fO,e1]
  rw[FIN];go_enter Tryz.func110,Tryz.ntmps110;go_wp2;go_ret;exact⟨rfl,H.out⟩
def Sy.cells(s:Sy):List Value:=[.bool s.lab,.int .i64 s.at_]
def dU(l:List Sy):List Value:=l.flatMap Sy.cells
structure Pr where
 head:Int
 body:List Sy
def aZ(p:Pr)(nts labels:Int):Bool:=
 (decide (0≤p.head)&&decide (p.head<nts))&&match p.body with
 | []=>true
 | [s]=>fO s true labels
 | [s,t]=>fO s false nts&&fO t false nts
 | _=>false
theorem aX.below3{w w':World}{A:Option Addr}{xs:List Value}(h:aX w A xs)(hb:Below w.heap.size w w'):aX w' A xs:=fun j u hj=>by
 obtain⟨b,o,e,hc⟩:=h j u hj;exact⟨b,o,e,by rw[hb.cell (World.block_lt_of_cell? w _ hc)];exact hc⟩
theorem EN(w:World)(p:Pr)(A:Option Addr)(c:Nat)(hrow:aX w A (dU p.body))(nts labels:Int):Calls Tryz.prog 71 #[.agg #[.int .i64 p.head,.slice A p.body.length c],.int .i64 nts,.int .i64 labels] w (fun e w'=>e=.returned (.bool (aZ p nts labels))∧Below w.heap.size w w'):=by
 obtain⟨head,body⟩:=p;dsimp only at hrow ⊢
 have b1:Below w.heap.size w (w.alloc (.cells #[.int .i64 head,.slice A body.length c] 71)):=bR.alloc (Nat.le_refl _) _;have k1:=Blk.new w 71 #[.int .i64 head,.slice A body.length c];have hr:=hrow.below3 b1;have q0:(w.alloc (.cells #[.int .i64 head,.slice A body.length c] 71)).cell? ⟨w.heap.size,0,none⟩=some (.int .i64 head):=k1.cell 0;have q1:(w.alloc (.cells #[.int .i64 head,.slice A body.length c] 71)).cell? ⟨w.heap.size,1,none⟩=some (.slice A body.length c):=k1.cell 1;have H:=aI3 b1 hr k1;clear b1 k1 hr hrow;by_cases h0:0≤head
 ·have h0':¬(head<0):=by omega
  by_cases h1:head<nts
  ·have h1':¬(nts≤head):=by omega
   match body,H,q0,q1 with
   | [],H,q0,q1 =>
    have FIN:aZ ⟨head,[]⟩ nts labels=true:=by simp[aZ,h0,h1]
    rw[FIN];go_enter Tryz.func71,Tryz.ntmps71;go_wp2;go_ret;exact⟨rfl,H.out.1⟩
   | [s],H,q0,q1 =>
    obtain⟨g,o,rfl,c0⟩:=H.out.2.1 0 (.bool s.lab) rfl;obtain⟨g',o',e,c1⟩:=H.out.2.1 1 (.int .i64 s.at_) rfl;injection e with e;injection e with e1 e2;subst e1;subst e2;rw[Nat.add_zero] at c0;have c0:(w.alloc (.cells #[.int .i64 head,.slice (some ⟨g,o,none⟩) 1 c] 71)).cell? ⟨g,o,none⟩=some (.bool s.lab):=c0;have c1:(w.alloc (.cells #[.int .i64 head,.slice (some ⟨g,o,none⟩) 1 c] 71)).cell? ⟨g,o+1,none⟩=some (.int .i64 s.at_):=c1;have FIN:aZ ⟨head,[s]⟩ nts labels=fO s true labels:=by simp[aZ,h0,h1]
    rw[FIN];have hcon:=mC (w.alloc (.cells #[.int .i64 head,.slice (some ⟨g,o,none⟩) 1 c] 71)) s true labels;unfold Sy.val at hcon;go_enter Tryz.func71,Tryz.ntmps71;go_wp2_with fail;refine hcon.mono ?_;clear hcon;rintro e W2 ⟨rfl,b2⟩;have B2:=hIz (tHn H.out.1 b2);clear b2;go_wp2;go_ret;exact⟨rfl,B2.out⟩
   | [s,t],H,q0,q1 =>
    obtain⟨g,o,rfl,c0⟩:=H.out.2.1 0 (.bool s.lab) rfl;obtain⟨g',o',e,c1⟩:=H.out.2.1 1 (.int .i64 s.at_) rfl;injection e with e;injection e with e1 e2;subst e1;subst e2;obtain⟨g',o',e,c2⟩:=H.out.2.1 2 (.bool t.lab) rfl;injection e with e;injection e with e1 e2;subst e1;subst e2;obtain⟨g',o',e,c3⟩:=H.out.2.1 3 (.int .i64 t.at_) rfl;injection e with e;injection e with e1 e2;subst e1;subst e2;rw[Nat.add_zero] at c0;have c0:(w.alloc (.cells #[.int .i64 head,.slice (some ⟨g,o,none⟩) 2 c] 71)).cell? ⟨g,o,none⟩=some (.bool s.lab):=c0;have c1:(w.alloc (.cells #[.int .i64 head,.slice (some ⟨g,o,none⟩) 2 c] 71)).cell? ⟨g,o+1,none⟩=some (.int .i64 s.at_):=c1;have FIN:aZ ⟨head,[s,t]⟩ nts labels=(fO s false nts&&fO t false nts):=by simp[aZ,h0,h1]
    rw[FIN];have hcon:=mC (w.alloc (.cells #[.int .i64 head,.slice (some ⟨g,o,none⟩) 2 c] 71)) s false nts;unfold Sy.val at hcon;go_enter Tryz.func71,Tryz.ntmps71;go_wp2_with fail;refine hcon.mono ?_;clear hcon;rintro e W2 ⟨rfl,b2⟩;have B2:=hIz (tHn H.out.1 b2);cases hs:fO s false nts
    ·clear b2;go_wp2;go_ret;exact⟨by rw[hs];rfl,B2.out⟩
    ·have hr2:=H.out.2.1.below3 b2;have k2:=H.out.2.2.upd (upF b2) id;have q1:W2.cell? ⟨w.heap.size,1,none⟩=some (.slice (some ⟨g,o,none⟩) 2 c):=k2.cell 1;obtain⟨g',o',e,c2⟩:=hr2 2 (.bool t.lab) rfl;injection e with e;injection e with e1 e2;subst e1;subst e2;obtain⟨g',o',e,c3⟩:=hr2 3 (.int .i64 t.at_) rfl;injection e with e;injection e with e1 e2;subst e1;subst e2;have hcon:=mC W2 t false nts;unfold Sy.val at hcon;clear b2 hr2 k2;go_wp2_with fail;refine hcon.mono ?_;clear hcon;rintro e W3 ⟨rfl,b3⟩;have B3:=hIz (tHn B2.out b3);clear b3;go_wp2;go_ret;exact⟨by rw[hs];rfl,B3.out⟩
   | s::t::u::r,H,q0,q1 =>
    have FIN:aZ ⟨head,s::t::u::r⟩ nts labels=false:=by simp[aZ]
    rw[FIN];have z0:((((s::t::u::r).length:Nat):Int)==0)=false:=by simp;omega
    have z1:((((s::t::u::r).length:Nat):Int)==1)=false:=by simp;omega
    have z2:((((s::t::u::r).length:Nat):Int)==2)=false:=by simp;omega
    generalize (s::t::u::r).length=len at H q0 q1 z0 z1 z2 ⊢;go_enter Tryz.func71,Tryz.ntmps71;go_wp2;go_ret;exact⟨rfl,H.out.1⟩
  ·have FIN:aZ ⟨head,body⟩ nts labels=false:=by simp[aZ,h1]
   have h1':nts≤head:=by omega
   rw[FIN];go_enter Tryz.func71,Tryz.ntmps71;go_wp2;go_ret;exact⟨rfl,H.out.1⟩
 ·have FIN:aZ ⟨head,body⟩ nts labels=false:=by simp[aZ,h0]
  have h0':head<0:=by omega
  rw[FIN];go_enter Tryz.func71,Tryz.ntmps71;go_wp2;go_ret;exact⟨rfl,H.out.1⟩
open Go.RowKit
def WdO(b:Option (List Nat)):Prop:=∀r,b=some r→Wd r
theorem WdO.old{b:Option (List Nat)}(h:WdO b):Wd (fI b):=by
 cases b with
 | none=>exact eJ
 | some r=>exact h r rfl
theorem KO{a b:List Nat}(ha:Wd a)(hb:Wd b):Wd (List.zipWith orN a b):=by
 refine⟨by rw[List.length_zipWith,ha.len,hb.len];rfl,fun x hx=>?_⟩;obtain⟨i,hi⟩:=List.getElem?_of_mem hx;rw[List.getElem?_zipWith] at hi;cases h1:a[i]? with
 | none=>rw[h1] at hi;cases hi
 | some u =>
  cases h2:b[i]? with
  | none=>rw[h1,h2] at hi;cases hi
  | some v =>
   rw[h1,h2] at hi;obtain rfl:=Option.some.inj hi;have e1:=ha.fit u (mG h1);have e2:=hb.fit v (mG h2);have:u ||| v<2 ^ 64:=Nat.or_lt_two_pow (by rw[show 2 ^ 64=18446744073709551616 by decide];exact e1) (by rw[show 2 ^ 64=18446744073709551616 by decide];exact e2);rw[show 2 ^ 64=18446744073709551616 by decide] at this;exact this
theorem WdO.joinO{b:Option (List Nat)}{x:List Nat}(h:WdO b)(hx:Wd x):WdO (joinO b x):=by
 intro r e;unfold Go.Proofs.YteffnejneoocgaaGreatDoor.joinO at e;split at e
 ·exact h r e
 ·obtain rfl:=Option.some.inj e;exact KO h.old hx
theorem WdO.mulO{a b:Option (List Nat)}(_ha:WdO a)(hb:WdO b):WdO (mulO a b):=by
 intro r e;cases a with
 | none=>cases e
 | some x =>
  cases b with
  | none=>cases e
  | some y=>exact WdO.joinO (b:=none) (fun r e=>by cases e) (mA x (hb y rfl)) r e
theorem WdO.joinQ{c m:Option (List Nat)}(hc:WdO c)(hm:WdO m):WdO (joinQ c m):=by
 cases m with
 | none=>exact hc
 | some r=>exact hc.joinO (hm r rfl)
theorem KP{a b:Option (List Nat)}(ha:WdO a)(hb:WdO b){i j:Nat}(hi:i<64):dX (mulO a b) i j=true↔∃k,k<64∧dX a i k=true∧dX b k j=true:=by
 cases a with
 | none=>exact⟨fun h=>(by cases h),fun ⟨k,_,h,_⟩=>(by cases h)⟩
 | some x =>
  cases b with
  | none=>exact⟨fun h=>(by cases h),fun ⟨k,_,_,h⟩=>(by cases h)⟩
  | some y =>
   show dX (joinO none (lZ x y)) i j=true↔_
   rw[oJ (b:=none) eJ (mA x (hb y rfl)) hi];show(false||_)=true↔_
   rw[Bool.false_or,DY (ha x rfl) (hb y rfl) hi];rfl
theorem fF{c m:Option (List Nat)}(hc:WdO c)(hm:WdO m){i j:Nat}(hi:i<64):dX (joinQ c m) i j=(dX c i j||dX m i j):=by
 cases m with
 | none=>show dX c i j=_;simp[dX]
 | some r=>exact oJ hc.old (hm r rfl) hi
theorem EO:∀(k x j:Nat),j<k→x.testBit j=true→0<pcN k x
 | 0,_,_,h,_=>by omega
 | k+1,x,0,_,hb=>by
  rw[Nat.testBit_zero] at hb;have:x % 2=1:=by simpa using hb
  unfold pcN;omega
 | k+1,x,j+1,h,hb=>by
  rw[Nat.testBit_succ] at hb;have:=EO k (x / 2) j (by omega) hb;unfold pcN;omega
theorem KQ{x y j:Nat}(hy:y<18446744073709551616)(hj:j<64):(bL x y).testBit j=(x.testBit j&&!y.testBit j):=by
 unfold bL;rw[Nat.testBit_and,show 18446744073709551615-y=2 ^ 64-(y+1) by rw[show 2 ^ 64=18446744073709551616 by decide];omega,Nat.testBit_two_pow_sub_succ (by rw[show 2 ^ 64=18446744073709551616 by decide];exact hy)];simp[hj]
theorem EP{r o:List Nat}(hr:Wd r)(ho:Wd o)(h:eP (List.zipWith bL r o)=0){i j:Nat}(hb:iJ r i j=true):iJ o i j=true:=by
 obtain⟨hi,hj⟩:=mB hr hb;obtain⟨u,hu⟩:∃u,r[i]?=some u:=⟨r[i]'(by rw[hr.len];exact hi),gEz _⟩;obtain⟨v,hv⟩:∃v,o[i]?=some v:=⟨o[i]'(by rw[ho.len];exact hi),gEz _⟩;unfold iJ at hb ⊢;rw[hu] at hb;rw[hv];simp only[Option.getD_some] at hb ⊢
 cases hc:v.testBit j with
 | true=>rfl
 | false =>
  have hz:(List.zipWith bL r o)[i]?=some (bL u v):=by rw[List.getElem?_zipWith,hu,hv]
  have h1:=rR (mG hz);have h2:=EO 64 (bL u v) j hj (by rw[KQ (ho.fit v (mG hv)) hj,hb,hc];rfl);omega
theorem oL{c m:Option (List Nat)}(hc:WdO c)(hm:WdO m)(h:dG c m=false){i j:Nat}(hb:dX m i j=true):dX c i j=true:=by
 cases m with
 | none=>cases hb
 | some r =>
  have h0:eP (List.zipWith bL r (fI c))=0:=by
   have:decide (0<eP (List.zipWith bL r (fI c)))=false:=h;have:=of_decide_eq_false this;omega
  have hb':iJ r i j=true:=hb;have h2:=EP (hm r rfl) hc.old h0 hb';rw[sD c (mB (hm r rfl) hb').1] at h2;exact h2
theorem EQ{c m:Option (List Nat)}(hc:WdO c)(hm:WdO m)(h:dG c m=true):eP (fI c)<eP (fI (joinQ c m)):=by
 cases m with
 | none=>cases h
 | some r =>
  have h0:0<eP (List.zipWith bL r (fI c)):=of_decide_eq_true h;show eP (fI c)<eP (fI (joinO c r))
  unfold joinO;split
  ·rename_i e
   rw[e,uK] at h0;exact absurd h0 (Nat.lt_irrefl 0)
  ·show eP (fI c)<eP (List.zipWith orN (fI c) r)
   rw[rQ (fun y hy=>hc.old.fit y hy) (by rw[hc.old.len,(hm r rfl).len])];omega
inductive qK (P:List Pr) (El:Int→Nat→Nat→Prop) (n:Nat):Int→Nat→Nat→Prop
 | eps {a:Int} {i:Nat}:(⟨a,[]⟩:Pr)∈P→i<n→qK P El n a i i
 | one {a:Int} {s:Sy} {i j:Nat}:(⟨a,[s]⟩:Pr)∈P→El s.at_ i j→qK P El n a i j
 | two {a:Int} {s t:Sy} {i k j:Nat}:(⟨a,[s,t]⟩:Pr)∈P→qK P El n s.at_ i k→qK P El n t.at_ k j→qK P El n a i j
structure ER(P:List Pr)(El:Int→Nat→Nat→Prop)(n:Nat)(B:Int→Nat→Nat→Prop):Prop where
 eps:∀a i,(⟨a,[]⟩:Pr)∈P→i<n→B a i i
 one:∀a s i j,(⟨a,[s]⟩:Pr)∈P→El s.at_ i j→B a i j
 two:∀a s t i k j,(⟨a,[s,t]⟩:Pr)∈P→B s.at_ i k→B t.at_ k j→B a i j
theorem ER.least{P:List Pr}{El:Int→Nat→Nat→Prop}{n:Nat}{B:Int→Nat→Nat→Prop}(h:ER P El n B){a:Int}{i j:Nat}(d:qK P El n a i j):B a i j:=by
 induction d with
 | eps h1 h2=>exact h.eps _ _ h1 h2
 | one h1 h2=>exact h.one _ _ _ _ h1 h2
 | two h1 _ _ i1 i2=>exact h.two _ _ _ _ _ _ h1 i1 i2
open Go.RowKit Go.Shelf
def pO(L:List Int):List Value:=L.map (fun x=>Value.int .i64 x)
def ChS(w:World)(p:Nat)(lv mv:Value)(L:List Int):Prop:=Blk w p 154 #[lv,mv]∧w.ownsRow 0 3 1 lv L.length (pO L)
theorem oM(w:World)(p:Nat)(lv mv:Value)(L:List Int)(h:ChS w p lv mv L):Calls Tryz.prog 75 #[.pointer (some ⟨p,0,none⟩)] w (gB w (.int .i64 (L.length:Int))):=by
 obtain⟨A,c,rfl,-,-⟩:=aK h.2;have q0:w.cell? ⟨p,0,none⟩=some (.slice A L.length c):=h.1.cell 0;clear h;generalize L.length=n at q0 ⊢;go_enter Tryz.func75,Tryz.ntmps75;go_wp2;go_ret;exact⟨rfl,rfl⟩
theorem gT(w:World)(p:Nat)(lv mv:Value)(L:List Int)(h:ChS w p lv mv L)(i j:Nat)(x y:Int)(hi:L[i]?=some x)(hj:L[j]?=some y) :
  Calls Tryz.prog 270 #[.pointer (some ⟨p,0,none⟩),.int .i64 (i:Int),.int .i64 (j:Int)] w (fun e w'=>e=.returned (.bool (decide (x<y)))∧Below w.heap.size w w'):=by
 have hi2:=(gO.1 hi).1;have hj2:=(gO.1 hj).1;obtain⟨g,c,rfl,-,-,-,-,hc⟩:=aN h.2 (by omega);have q0:w.cell? ⟨p,0,none⟩=some (.slice (some ⟨g,0,none⟩) L.length c):=h.1.cell 0;have qi:w.cell? ⟨g,i,none⟩=some (.int .i64 x):=(hc i _ (by simp[pO,hi])).1;have qj:w.cell? ⟨g,j,none⟩=some (.int .i64 y):=(hc j _ (by simp[pO,hj])).1;have z1:(i:Int)<(L.length:Int):=by omega
 have z2:(j:Int)<(L.length:Int):=by omega
 have hb:=hIz (show ∀n,Below w.heap.size w (w.drewN n) from fun n=>⟨rfl,rfl,rfl,Nat.le_refl _,fun _ _=>rfl⟩);clear h hc hi hj;generalize L.length=n at q0 z1 z2 hi2 hj2 ⊢;go_enter Tryz.func270,Tryz.ntmps270;go_upto_region 1 with (fail);go_quiet (fail)
 go_wp2;go_ret;exact⟨rfl,hb.out _⟩
def MV(f:Nat→Nat):Nat→Nat
 | 0=>0
 | m+1=>MV f m+f m
theorem wO{f g:Nat→Nat}:∀{m:Nat},(∀k,k<m→f k≤g k)→MV f m≤MV g m
 | 0,_=>Nat.le_refl _
 | m+1,h=>by
  have h1:=wO (m:=m) (fun k hk=>h k (by omega));have h2:=h m (by omega);unfold MV;omega
theorem ES{f g:Nat→Nat}{a:Nat}:∀{m:Nat},(∀k,k<m→f k≤g k)→a<m→f a<g a→MV f m<MV g m
 | 0,_,h,_=>by omega
 | m+1,h,ha,hl=>by
  have h2:=h m (by omega);unfold MV;by_cases e:a=m
  ·subst e;have h1:=wO (m:=a) (fun k hk=>h k (by omega));omega
  ·have h1:=ES (m:=m) (fun k hk=>h k (by omega)) (by omega) hl;omega
abbrev eG:=Nat→Option (List Nat)
def upM(B:eG)(a:Nat)(m:Option (List Nat)):eG:=fun k=>if k=a then m else B k
theorem gU(B:eG)(a:Nat)(m:Option (List Nat)):upM B a m a=m:=if_pos rfl
theorem lJ(B:eG){a k:Nat}(m:Option (List Nat))(h:k≠a):upM B a m k=B k:=if_neg h
theorem kN{b:Option (List Nat)}(h:WdO b){i j:Nat}(hb:dX b i j=true):i<64:=by
 cases b with
 | none=>cases hb
 | some r=>exact(mB (h r rfl) hb).1
theorem KR{b:Option (List Nat)}(h:WdO b){i j:Nat}(hb:dX b i j=true):j<64:=by
 cases b with
 | none=>cases hb
 | some r=>exact(mB (h r rfl) hb).2
theorem OX{c m:Option (List Nat)}(hc:WdO c)(hm:WdO m):eP (fI c)≤eP (fI (joinQ c m)):=by
 cases m with
 | none=>exact Nat.le_refl _
 | some r =>
  show eP (fI c)≤eP (fI (joinO c r))
  unfold joinO;split
  ·exact Nat.le_refl _
  ·show eP (fI c)≤eP (List.zipWith orN (fI c) r)
   rw[rQ (fun y hy=>hc.old.fit y hy) (by rw[hc.old.len,(hm r rfl).len])];omega
def wP(B:eG)(m:Nat):Nat:=MV (fun k=>4096-eP (fI (B k))) m
theorem ET{r:List Nat}(hr:Wd r):eP r≤4096:=by
 have:=qU r;rw[hr.len] at this;omega
theorem OY{B:eG}{a nts:Nat}{m:Option (List Nat)}(ha:a<nts)(hm:WdO m)(h:eP (fI (B a))<eP (fI m)):wP (upM B a m) nts<wP B nts:=by
 have h4:=ET hm.old;refine ES (a:=a) (fun k _=>?_) ha ?_
 ·by_cases e:k=a
  ·subst e;rw[gU];omega
  ·rw[lJ B m e];exact Nat.le_refl _
 ·rw[gU];omega

theorem OZ{B:eG}{a nts:Nat}{m:Option (List Nat)}(h:eP (fI (B a))≤eP (fI m)):wP (upM B a m) nts≤wP B nts:=by
 refine wO (fun k _=>?_);by_cases e:k=a
 ·subst e;rw[gU];omega
 ·rw[lJ B m e];exact Nat.le_refl _

def QN(El:Int→Nat→Nat→Prop)(n:Nat)(B:eG)(p:Pr):Prop:=match p.body with
 | []=>∀i,i<n→dX (B p.head.toNat) i i=true
 | [s]=>∀i j,El s.at_ i j→dX (B p.head.toNat) i j=true
 | [s,t]=>∀i k j,dX (B s.at_.toNat) i k=true→dX (B t.at_.toNat) k j=true→dX (B p.head.toNat) i j=true
 | _=>True
def oN(p:Pr)(L:List Int):Prop:=∃s t,p.body=[s,t]∧(s.at_∈L∨t.at_∈L)
structure FiI(P:List Pr)(El:Int→Nat→Nat→Prop)(n nts:Nat)(B:eG)(L:List Int)(D:Pr→Prop):Prop where
 wd:∀k,WdO (B k)
 sound:∀k,k<nts→∀i j,dX (B k) i j=true→qK P El n (k:Int) i j
 due:∀p∈P,D p→¬oN p L→QN El n B p
 inL:∀x∈L,0≤x∧x<(nts:Int)
 nd:L.Nodup
theorem FiI.grow{P:List Pr}{El:Int→Nat→Nat→Prop}{n nts:Nat}{B:eG}{L:List Int}{D:Pr→Prop}(h:FiI P El n nts B L D){a:Nat}{m:Option (List Nat)}{L':List Int}{D':Pr→Prop}(ha:a<nts)(hm:WdO m)
  (hbit:∀i j,i<64→dX m i j=true→qK P El n (a:Int) i j)
  (hL:∀x∈L,x∈L') (hin:∀x∈L',0≤x∧x<(nts:Int)) (hnd:L'.Nodup) (hmore:dG (B a) m=true→(a:Int)∈L')
  (hD:∀p∈P,D' p→¬D p→¬oN p L'→QN El n (upM B a (joinQ (B a) m)) p)
  (hsh:∀p∈P,∀s t,p.body=[s,t]→0≤s.at_∧0≤t.at_):FiI P El n nts (upM B a (joinQ (B a) m)) L' D':=by
 have hup:∀k i j,dX (B k) i j=true→dX (upM B a (joinQ (B a) m) k) i j=true:=fun k i j hb=>by
  have hi:=kN (h.wd k) hb;by_cases e:k=a
  ·subst e;rw[gU,fF (h.wd k) hm hi,hb];rfl
  ·rw[lJ B _ e];exact hb
 have hdn:∀k i j,(k=a→dG (B a) m=false)→dX (upM B a (joinQ (B a) m) k) i j=true→dX (B k) i j=true:=fun k i j hk hb=>by
  by_cases e:k=a
  ·have hk2:=hk e;subst e;rw[gU] at hb;have hi:=kN ((h.wd k).joinQ hm) hb;rw[fF (h.wd k) hm hi,Bool.or_eq_true] at hb;rcases hb with hb|hb
   ·exact hb
   ·exact oL (h.wd _) hm hk2 hb
  ·rw[lJ B _ e] at hb;exact hb
 refine⟨fun k=>?_,fun k hk i j hb=>?_,fun p hp hd hn=>?_,hin,hnd⟩
 ·by_cases e:k=a
  ·subst e;rw[gU];exact(h.wd k).joinQ hm
  ·rw[lJ B _ e];exact h.wd k
 ·by_cases e:k=a
  ·subst e;rw[gU] at hb;have hi:=kN ((h.wd k).joinQ hm) hb;rw[fF (h.wd k) hm hi,Bool.or_eq_true] at hb;rcases hb with hb|hb
   ·exact h.sound k hk i j hb
   ·exact hbit i j hi hb
  ·rw[lJ B _ e] at hb;exact h.sound k hk i j hb
 ·by_cases hdo:D p
  ·have hn0:¬oN p L:=fun ⟨s,t,e,hst⟩=>hn ⟨s,t,e,hst.imp (hL _) (hL _)⟩
   have h0:=h.due p hp hdo hn0;unfold QN at h0 ⊢;match hb:p.body with
   | []=>rw[hb] at h0;exact fun i hi=>hup _ _ _ (h0 i hi)
   | [s]=>rw[hb] at h0;exact fun i j hi=>hup _ _ _ (h0 i j hi)
   | [s,t] =>
    rw[hb] at h0;obtain⟨hs0,ht0⟩:=hsh p hp s t hb;have hns:s.at_.toNat=a→dG (B a) m=false:=fun e=>by
     cases hmm:dG (B a) m with
     | false=>rfl
     | true=>exact absurd ⟨s,t,hb,.inl (by have:=hmore hmm;rw[← e] at this;rwa [Int.toNat_of_nonneg hs0] at this)⟩ hn
    have hnt:t.at_.toNat=a→dG (B a) m=false:=fun e=>by
     cases hmm:dG (B a) m with
     | false=>rfl
     | true=>exact absurd ⟨s,t,hb,.inr (by have:=hmore hmm;rw[← e] at this;rwa [Int.toNat_of_nonneg ht0] at this)⟩ hn
    exact fun i k j h1 h2=>hup _ _ _ (h0 i k j (hdn _ _ _ hns h1) (hdn _ _ _ hnt h2))
   | _::_::_::_=>trivial
  ·exact hD p hp hd hdo hn
def sG(El:Int→Nat→Nat→Prop)(n:Nat)(p:Pr)(m:Option (List Nat)):Prop:=WdO m∧match p.body with
 | []=>∀i j,i<64→(dX m i j=true↔i=j∧i<n)
 | [s]=>∀i j,i<64→j<64→(dX m i j=true↔El s.at_ i j)
 | _=>False
structure GZ(nts:Nat)(p:Pr):Prop where
 h0:0≤p.head
 h1:p.head<(nts:Int)
 two:∀s t,p.body=[s,t]→(0≤s.at_∧s.at_<(nts:Int))∧(0≤t.at_∧t.at_<(nts:Int))
structure PB(L L':List Int)(x:Int):Prop where
 mem:∀y,y∈L'↔y∈L∨y=x
 nd:L'.Nodup
 le:L'.length≤L.length+1
theorem FiI.first{P:List Pr}{El:Int→Nat→Nat→Prop}{n nts:Nat}{B:eG}{L:List Int}{D:Pr→Prop}(h:FiI P El n nts B L D){p:Pr}{m:Option (List Nat)}{L':List Int}(hp:p∈P)(hs:∀q∈P,GZ nts q)(hn:n≤64)
  (hEl:∀k i j,El k i j→i<n∧j<n) (hg:sG El n p m) (hL:if dG (B p.head.toNat) m=true then PB L L' p.head else L'=L):FiI P El n nts (upM B p.head.toNat (joinQ (B p.head.toNat) m)) L' (fun q=>D q∨q=p):=by
 obtain⟨a0,a1,-⟩:=hs p hp;have hsub:∀x∈L,x∈L':=fun x hx=>by
  split at hL
  ·exact(hL.mem x).2 (.inl hx)
  ·rw[hL];exact hx
 have hin:∀x∈L',0≤x∧x<(nts:Int):=fun x hx=>by
  split at hL
  ·rcases (hL.mem x).1 hx with h1|h1
   ·exact h.inL x h1
   ·subst h1;exact⟨a0,a1⟩
  ·rw[hL] at hx;exact h.inL x hx
 have hnd:L'.Nodup:=by
  split at hL
  ·exact hL.nd
  ·rw[hL];exact h.nd
 have ea:((p.head.toNat:Nat):Int)=p.head:=Int.toNat_of_nonneg a0;have hmo:dG (B p.head.toNat) m=true→((p.head.toNat:Nat):Int)∈L':=fun e=>by
  rw[if_pos e] at hL;rw[ea];exact(hL.mem _).2 (.inr rfl)
 refine h.grow (by omega) hg.1 (fun i j hi hb=>?_) hsub hin hnd hmo (fun q _ hd hd0 _=>?_) (fun q hq s t e=>⟨((hs q hq).two s t e).1.1,((hs q hq).two s t e).2.1⟩)
 ·rw[ea];obtain⟨hd,bd⟩:=p;have hj:=KR hg.1 hb;have h2:=hg.2;match bd,hp,h2 with
  | [],hp,h2 =>
   obtain⟨rfl,hin⟩:=(h2 i j hi).1 hb;exact .eps hp hin
  | [s],hp,h2=>exact .one hp ((h2 i j hi hj).1 hb)
  | _::_::_,_,h2=>exact h2.elim
 ·rcases hd with hd|rfl
  ·exact absurd hd hd0
  ·have h2:=hg.2;have hw:=h.wd q.head.toNat;unfold QN;match hb:q.body with
   | [] =>
    rw[hb] at h2;intro i hi;rw[gU,fF hw hg.1 (by omega),(h2 i i (by omega)).2 ⟨rfl,hi⟩,Bool.or_true]
   | [s] =>
    rw[hb] at h2;intro i j he;have:=hEl _ _ _ he;rw[gU,fF hw hg.1 (by omega),(h2 i j (by omega) (by omega)).2 he,Bool.or_true]
   | _::_::_=>rw[hb] at h2;exact h2.elim
theorem FiI.next{P:List Pr}{El:Int→Nat→Nat→Prop}{n nts:Nat}{B:eG}{L:List Int}{D:Pr→Prop}(h:FiI P El n nts B L D){p:Pr}{s t:Sy}{L':List Int}(hp:p∈P)(hs:∀q∈P,GZ nts q)(hb:p.body=[s,t])
  (hL:if dG (B p.head.toNat) (mulO (B s.at_.toNat) (B t.at_.toNat))=true then PB L L' p.head else L'=L) :
  FiI P El n nts (upM B p.head.toNat (joinQ (B p.head.toNat) (mulO (B s.at_.toNat) (B t.at_.toNat)))) L' (fun q=>D q∨q=p) ∧
   2*wP (upM B p.head.toNat (joinQ (B p.head.toNat) (mulO (B s.at_.toNat) (B t.at_.toNat)))) nts+L'.length≤2*wP B nts+L.length:=by
 obtain⟨a0,a1,h2⟩:=hs p hp;obtain⟨⟨s0,s1⟩,t0,t1⟩:=h2 s t hb;have hws:=h.wd s.at_.toNat;have hwt:=h.wd t.at_.toNat;have hwa:=h.wd p.head.toNat;have hwm:=WdO.mulO hws hwt;have es:((s.at_.toNat:Nat):Int)=s.at_:=Int.toNat_of_nonneg s0;have et:((t.at_.toNat:Nat):Int)=t.at_:=Int.toNat_of_nonneg t0;have ea:((p.head.toNat:Nat):Int)=p.head:=Int.toNat_of_nonneg a0;generalize hm:mulO (B s.at_.toNat) (B t.at_.toNat)=m at hL hwm ⊢;have hsub:∀x∈L,x∈L':=fun x hx=>by
  split at hL
  ·exact(hL.mem x).2 (.inl hx)
  ·rw[hL];exact hx
 have hin:∀x∈L',0≤x∧x<(nts:Int):=fun x hx=>by
  split at hL
  ·rcases (hL.mem x).1 hx with h1|h1
   ·exact h.inL x h1
   ·subst h1;exact⟨a0,a1⟩
  ·rw[hL] at hx;exact h.inL x hx
 have hnd:L'.Nodup:=by
  split at hL
  ·exact hL.nd
  ·rw[hL];exact h.nd
 have hmo:dG (B p.head.toNat) m=true→((p.head.toNat:Nat):Int)∈L':=fun e=>by
  rw[if_pos e] at hL;rw[ea];exact(hL.mem _).2 (.inr rfl)
 have hmb:∀i j,i<64→(dX m i j=true↔∃k,k<64∧dX (B s.at_.toNat) i k=true∧dX (B t.at_.toNat) k j=true):=fun i j hi=>by
  rw[← hm];exact KP hws hwt hi
 refine⟨h.grow (by omega) hwm (fun i j hi hbt=>?_) hsub hin hnd hmo (fun q _ hd hd0 hn=>?_) (fun q hq s t e=>⟨((hs q hq).two s t e).1.1,((hs q hq).two s t e).2.1⟩),?_⟩
 ·obtain⟨k,_,h3,h4⟩:=(hmb i j hi).1 hbt;have d1:=h.sound _ (by omega) _ _ h3;have d2:=h.sound _ (by omega) _ _ h4;rw[es] at d1;rw[et] at d2;rw[ea];obtain⟨hd,bd⟩:=p;subst hb;exact .two hp d1 d2
 ·rcases hd with hd|rfl
  ·exact absurd hd hd0
  ·have hdn:∀k i j,(k=q.head.toNat→dG (B q.head.toNat) m=false)→dX (upM B q.head.toNat (joinQ (B q.head.toNat) m) k) i j=true→dX (B k) i j=true:=fun k i j hk hbt=>by
    by_cases e:k=q.head.toNat
    ·have hk2:=hk e;subst e;rw[gU] at hbt;have hi:=kN (hwa.joinQ hwm) hbt;rw[fF hwa hwm hi,Bool.or_eq_true] at hbt;rcases hbt with hbt|hbt
     ·exact hbt
     ·exact oL hwa hwm hk2 hbt
    ·rw[lJ B _ e] at hbt;exact hbt
   have hns:s.at_.toNat=q.head.toNat→dG (B q.head.toNat) m=false:=fun e=>by
    cases hmm:dG (B q.head.toNat) m with
    | false=>rfl
    | true=>exact absurd ⟨s,t,hb,.inl (by have:=hmo hmm;rw[← e,es] at this;exact this)⟩ hn
   have hnt:t.at_.toNat=q.head.toNat→dG (B q.head.toNat) m=false:=fun e=>by
    cases hmm:dG (B q.head.toNat) m with
    | false=>rfl
    | true=>exact absurd ⟨s,t,hb,.inr (by have:=hmo hmm;rw[← e,et] at this;exact this)⟩ hn
   unfold QN;rw[hb];intro i k j h3 h4;have h3:=hdn _ _ _ hns h3;have h4:=hdn _ _ _ hnt h4;have hi:=kN hws h3;rw[gU,fF hwa hwm hi,(hmb i j hi).2 ⟨k,kN hwt h4,h3,h4⟩,Bool.or_true]
 ·split at hL
  ·rename_i e
   have:=OY (nts:=nts) (by omega:p.head.toNat<nts) (hwa.joinQ hwm) (EQ hwa hwm e);have:=hL.le;omega
  ·rw[hL];have:=OZ (nts:=nts) (OX hwa hwm);omega
theorem FiI.begin{P:List Pr}{El:Int→Nat→Nat→Prop}{n nts:Nat}{B:eG}{L:List Int}{D:Pr→Prop}(h:FiI P El n nts B L D)(hD:∀p∈P,(∀s t,p.body≠[s,t])→D p)(hs:∀q∈P,GZ nts q)
  (hf:∀k,k<nts→∀i j,dX (B k) i j=true→(k:Int)∈L):FiI P El n nts B L (fun _=>True):=
 ⟨h.wd,h.sound,fun p hp _ hn=>by
  by_cases hb:∃s t,p.body=[s,t]
  ·obtain⟨s,t,hb⟩:=hb;unfold QN;rw[hb];intro i k j h1 _;obtain⟨⟨s0,s1⟩,-⟩:=(hs p hp).two s t hb;have:=hf s.at_.toNat (by omega) _ _ h1;rw[Int.toNat_of_nonneg s0] at this;exact absurd ⟨s,t,hb,.inl this⟩ hn
  ·exact h.due p hp (hD p hp (fun s t e=>hb ⟨s,t,e⟩)) hn,h.inL,h.nd⟩
theorem FiI.pop{P:List Pr}{El:Int→Nat→Nat→Prop}{n nts:Nat}{B:eG}{L L':List Int}{x:Int}(h:FiI P El n nts B L (fun _=>True))(hL:L.Perm (x::L')):FiI P El n nts B L' (fun p=>¬oN p [x]):=
 ⟨h.wd,h.sound,fun p hp hd hn=>h.due p hp trivial (fun ⟨s,t,e,hst⟩=>by
  have hm:∀y,y∈L→y=x∨y∈L':=fun y hy=>List.mem_cons.1 (hL.mem_iff.1 hy)
  rcases hst with h1|h1
  ·rcases hm _ h1 with e1|e1
   ·exact hd ⟨s,t,e,.inl (by rw[e1];exact List.mem_singleton.2 rfl)⟩
   ·exact hn ⟨s,t,e,.inl e1⟩
  ·rcases hm _ h1 with e1|e1
   ·exact hd ⟨s,t,e,.inr (by rw[e1];exact List.mem_singleton.2 rfl)⟩
   ·exact hn ⟨s,t,e,.inr e1⟩),fun y hy=>h.inL y (hL.mem_iff.2 (List.mem_cons_of_mem _ hy)),(List.nodup_cons.1 (hL.nodup_iff.1 h.nd)).2⟩
theorem FiI.all{P:List Pr}{El:Int→Nat→Nat→Prop}{n nts:Nat}{B:eG}{L:List Int}{D D':Pr→Prop}(h:FiI P El n nts B L D)(hD:∀p∈P,D' p→D p):FiI P El n nts B L D':=
 ⟨h.wd,h.sound,fun p hp hd hn=>h.due p hp (hD p hp hd) hn,h.inL,h.nd⟩
theorem FiI.done{P:List Pr}{El:Int→Nat→Nat→Prop}{n nts:Nat}{B:eG}(h:FiI P El n nts B [] (fun _=>True)){k:Nat}(hk:k<nts){i j:Nat}:dX (B k) i j=true↔qK P El n (k:Int) i j:=by
 refine⟨h.sound k hk i j,fun d=>?_⟩;have hn:∀p:Pr,¬oN p []:=fun p ⟨s,t,_,hst⟩=>by rcases hst with h1 | h1 <;> cases h1
 have hc:ER P El n (fun a i j=>dX (B a.toNat) i j=true):=⟨fun a i hp hi=>h.due _ hp trivial (hn _) i hi,fun a s i j hp he=>h.due _ hp trivial (hn _) i j he,fun a s t i k j hp h1 h2=>h.due _ hp trivial (hn _) i k j h1 h2⟩;have:=hc.least d;rwa [Int.toNat_natCast] at this
inductive oO (P:List Pr) (El:Int→Nat→Nat→Prop) (n:Nat):Int→Nat→Nat→Nat→Prop
 | eps {a:Int} {i:Nat}:(⟨a,[]⟩:Pr)∈P→i<n→oO P El n a i i 0
 | one {a:Int} {s:Sy} {i j:Nat}:(⟨a,[s]⟩:Pr)∈P→El s.at_ i j→oO P El n a i j 1
 | two {a:Int} {s t:Sy} {i k j m m':Nat}:(⟨a,[s,t]⟩:Pr)∈P→oO P El n s.at_ i k m→oO P El n t.at_ k j m'→oO P El n a i j (m+m')
theorem oO.der{P:List Pr}{El:Int→Nat→Nat→Prop}{n:Nat}{a:Int}{i j m:Nat}(d:oO P El n a i j m):qK P El n a i j:=by
 induction d with
 | eps h1 h2=>exact .eps h1 h2
 | one h1 h2=>exact .one h1 h2
 | two h1 _ _ i1 i2=>exact .two h1 i1 i2
theorem qK.len{P:List Pr}{El:Int→Nat→Nat→Prop}{n:Nat}{a:Int}{i j:Nat}(d:qK P El n a i j):∃m,oO P El n a i j m:=by
 induction d with
 | eps h1 h2=>exact⟨0,.eps h1 h2⟩
 | one h1 h2=>exact⟨1,.one h1 h2⟩
 | two h1 _ _ i1 i2 =>
  obtain⟨m,h⟩:=i1;obtain⟨m',h'⟩:=i2;exact⟨_,.two h1 h h'⟩
theorem oO.mono{P:List Pr}{El El':Int→Nat→Nat→Prop}{n:Nat}(hE:∀k i j,El k i j→El' k i j){a:Int}{i j m:Nat}(d:oO P El n a i j m):oO P El' n a i j m:=by
 induction d with
 | eps h1 h2=>exact .eps h1 h2
 | one h1 h2=>exact .one h1 (hE _ _ _ h2)
 | two h1 _ _ i1 i2=>exact .two h1 i1 i2
abbrev Fc:=Nat × Nat × Nat
abbrev Ln:=Fc × Nat
def look(K:List Ln)(f:Fc):Option Nat:=K.lookup f
theorem dO:∀{K:List Ln} {f:Fc} {m:Nat},look K f=some m→(f,m)∈K
 | [],_,_,h=>(by cases h)
 | (g,k)::K,f,m,h=>by
  unfold look at h;rw[List.lookup_cons] at h;by_cases e:f=g
  ·subst e;simp at h
   subst h;exact List.mem_cons_self
  ·rw[show(f==g)=false by simpa using e] at h;exact List.mem_cons_of_mem _ (dO h)
theorem gW:∀{K:List Ln} {f:Fc},look K f=none↔∀x∈K,x.1≠f
 | [],_=>⟨fun _ _ h=>(by cases h),fun _=>rfl⟩
 | (g,k)::K,f=>by
  unfold look;rw[List.lookup_cons];by_cases e:f=g
  ·subst e;simp
  ·rw[show(f==g)=false by simpa using e];show look K f=none↔_
   rw[gW];constructor
   ·intro h x hx;rcases List.mem_cons.1 hx with h1|h1
    ·subst h1;exact fun h=>e h.symm
    ·exact h x h1
   ·exact fun h x hx=>h x (List.mem_cons_of_mem _ hx)
theorem jZ{K:List Ln}(hn:(K.map (·.1)).Nodup){f:Fc}{m:Nat}:look K f=some m↔(f,m)∈K:=by
 refine⟨dO,fun h=>?_⟩;cases e:look K f with
 | none=>exact absurd rfl (gW.1 e _ h)
 | some k =>
  have h2:=dO e;clear e;induction K with
  | nil=>cases h
  | cons z K ih =>
   rw[List.map_cons,List.nodup_cons] at hn;rcases List.mem_cons.1 h with h1|h1 <;> rcases List.mem_cons.1 h2 with h3|h3
   ·rw[← h3] at h1;injection h1 with _ h1;rw[h1]
   ·exact absurd (List.mem_map.2 ⟨_,h3,by rw[← h1]⟩) hn.1
   ·exact absurd (List.mem_map.2 ⟨_,h1,by rw[← h3]⟩) hn.1
   ·exact ih hn.2 h1 h3
def eO(K:List Ln)(f:Fc)(m:Nat):List Ln:=if (look K f).isSome∨64<m then [] else [(f,m)]
def mS(K:List Ln)(p:Pr)(x:Ln)(v:Nat):List Ln:=match p.body with
 | [s,t]=>match look K (t.at_.toNat,x.1.2.2,v) with
  | some m=>if s.at_=(x.1.1:Int) then eO K (p.head.toNat,x.1.2.1,v) (x.2+m) else []
  | none=>[]
 | _=>[]
def mT(K:List Ln)(p:Pr)(x:Ln)(u:Nat):List Ln:=match p.body with
 | [s,t]=>match look K (s.at_.toNat,u,x.1.2.1) with
  | some m=>if t.at_=(x.1.1:Int) then eO K (p.head.toNat,u,x.1.2.2) (m+x.2) else []
  | none=>[]
 | _=>[]
def PC(K:List Ln)(n:Nat)(p:Pr)(x:Ln):List Ln:=(List.range n).flatMap (mS K p x)
def PD(K:List Ln)(n:Nat)(p:Pr)(x:Ln):List Ln:=(List.range n).flatMap (mT K p x)
def MW(K:List Ln)(n:Nat)(P:List Pr)(x:Ln):List Ln:=P.flatMap (fun p=>PC K n p x)++P.flatMap (fun p=>PD K n p x)
def Snd(P:List Pr)(El:Int→Nat→Nat→Prop)(n nts:Nat)(x:Ln):Prop:=oO P El n (x.1.1:Int) x.1.2.1 x.1.2.2 x.2∧x.2≤64∧x.1.1<nts∧x.1.2.1<n∧x.1.2.2<n
def wQ(K Q:List Ln)(f:Fc)(m:Nat):Prop:=∃m',m'≤m∧((f,m')∈K∨(f,m')∈Q)
structure BI(P:List Pr)(El:Int→Nat→Nat→Prop)(n nts:Nat)(K Q:List Ln)(b:Nat):Prop where
 sk:∀x∈K,Snd P El n nts x
 sq:∀x∈Q,Snd P El n nts x
 nd:(K.map (·.1)).Nodup
 hi:∀x∈K,x.2≤b
 lo:∀x∈Q,b≤x.2
 eps:∀a i,(⟨a,[]⟩:Pr)∈P→i<n→wQ K Q (a.toNat,i,i) 0
 one:∀a s i j,(⟨a,[s]⟩:Pr)∈P→El s.at_ i j→wQ K Q (a.toNat,i,j) 1
 two:∀a s t x y,(⟨a,[s,t]⟩:Pr)∈P→x∈K→y∈K→s.at_=(x.1.1:Int)→t.at_=(y.1.1:Int)→x.1.2.2=y.1.2.1→x.2+y.2≤64→wQ K Q (a.toNat,x.1.2.1,y.1.2.2) (x.2+y.2)
theorem uS{K Q:List Ln}{f:Fc}{m b:Nat}(hi:∀x∈K,x.2≤b)(hb:b≤m)(hm:m≤64)(hQ:∀y∈eO K f m,y∈Q):wQ K Q f m:=by
 cases e:look K f with
 | some k =>
  have h:=dO e;exact⟨k,Nat.le_trans (hi _ h) hb,.inl h⟩
 | none =>
  refine⟨m,Nat.le_refl _,.inr (hQ _ ?_)⟩;unfold eO;rw[e,if_neg (by simp;omega)];exact List.mem_singleton.2 rfl
theorem yN{K:List Ln}{f:Fc}{m:Nat}{y:Ln}(h:y∈eO K f m):y=(f,m)∧m≤64∧look K f=none:=by
 unfold eO at h;split at h
 ·cases h
 ·rename_i hh
  refine⟨List.mem_singleton.1 h,by omega,?_⟩;cases e:look K f with
  | none=>rfl
  | some k=>exact absurd (.inl (by rw[e];rfl)) hh
theorem wQ.mono{K Q K' Q':List Ln}{f:Fc}{m:Nat}(h:wQ K Q f m)(hK:∀x∈K,x∈K')(hQ:∀x∈Q,x∈Q'∨wQ K' Q' x.1 x.2):wQ K' Q' f m:=by
 obtain⟨m',h1,h2⟩:=h;rcases h2 with h2|h2
 ·exact⟨m',h1,.inl (hK _ h2)⟩
 ·rcases hQ _ h2 with h3|⟨m2,h4,h5⟩
  ·exact⟨m',h1,.inr h3⟩
  ·exact⟨m2,Nat.le_trans h4 h1,h5⟩
theorem BI.old{P:List Pr}{El:Int→Nat→Nat→Prop}{n nts:Nat}{K Q R:List Ln}{b:Nat}{x:Ln}(h:BI P El n nts K Q b)(hp:Q.Perm (x::R))(hx:∀y∈R,x.2≤y.2)(hl:look K x.1≠none):BI P El n nts K R x.2:=by
 have hmem:∀y,y∈Q↔y=x∨y∈R:=fun y=>by rw[hp.mem_iff,List.mem_cons]
 have hbx:b≤x.2:=h.lo _ ((hmem x).2 (.inl rfl));have hh:∀f m,wQ K Q f m→wQ K R f m:=fun f m hv=>hv.mono (fun _ h=>h) (fun y hy=>by
  rcases (hmem y).1 hy with e|e
  ·subst e;cases e2:look K y.1 with
   | none=>exact absurd e2 hl
   | some k=>exact .inr ⟨k,Nat.le_trans (h.hi _ (dO e2)) hbx,.inl (dO e2)⟩
  ·exact .inl e)
 exact⟨h.sk,fun y hy=>h.sq y ((hmem y).2 (.inr hy)),h.nd,fun y hy=>Nat.le_trans (h.hi y hy) hbx,hx,fun a i h1 h2=>hh _ _ (h.eps a i h1 h2),fun a s i j h1 h2=>hh _ _ (h.one a s i j h1 h2),fun a s t y z h1 h2 h3 h4 h5 h6 h7=>hh _ _ (h.two a s t y z h1 h2 h3 h4 h5 h6 h7)⟩
theorem KT{P:List Pr}{n nts:Nat}{K Q:List Ln}{b:Nat}{x y:Ln}{a:Int}{s t:Sy}(hi:∀x∈K,x.2≤b)(hb:b≤x.2)(nd:(K.map (·.1)).Nodup)(hp:(⟨a,[s,t]⟩:Pr)∈P)(hy:y∈K)(h1:s.at_=(x.1.1:Int))(h2:t.at_=(y.1.1:Int))(h3:x.1.2.2=y.1.2.1)
  (hl:x.2+y.2≤64) (hv:y.1.2.2<n) (hQ:∀z∈MW K n P x,z∈Q):wQ K Q (a.toNat,x.1.2.1,y.1.2.2) (x.2+y.2):=by
 refine uS hi (by omega) hl (fun z hz=>hQ z ?_);refine List.mem_append_left _ (List.mem_flatMap.2 ⟨_,hp,List.mem_flatMap.2 ⟨y.1.2.2,List.mem_range.2 hv,?_⟩⟩);have e:look K (t.at_.toNat,x.1.2.2,y.1.2.2)=some y.2:=(jZ nd).2 (by rw[h2,h3];exact hy);show z∈(match look K (t.at_.toNat,x.1.2.2,y.1.2.2) with | some m=>if s.at_=(x.1.1:Int) then eO K (a.toNat,x.1.2.1,y.1.2.2) (x.2+m) else [] | none=>[])
 rw[e];show z∈(if s.at_=(x.1.1:Int) then eO K (a.toNat,x.1.2.1,y.1.2.2) (x.2+y.2) else [])
 rw[if_pos h1];exact hz
theorem KU{P:List Pr}{n nts:Nat}{K Q:List Ln}{b:Nat}{x y:Ln}{a:Int}{s t:Sy}(hi:∀x∈K,x.2≤b)(hb:b≤x.2)(nd:(K.map (·.1)).Nodup)(hp:(⟨a,[s,t]⟩:Pr)∈P)(hy:y∈K)(h1:t.at_=(x.1.1:Int))(h2:s.at_=(y.1.1:Int))(h3:y.1.2.2=x.1.2.1)
  (hl:y.2+x.2≤64) (hv:y.1.2.1<n) (hQ:∀z∈MW K n P x,z∈Q):wQ K Q (a.toNat,y.1.2.1,x.1.2.2) (y.2+x.2):=by
 refine uS hi (by omega) hl (fun z hz=>hQ z ?_);refine List.mem_append_right _ (List.mem_flatMap.2 ⟨_,hp,List.mem_flatMap.2 ⟨y.1.2.1,List.mem_range.2 hv,?_⟩⟩);have e:look K (s.at_.toNat,y.1.2.1,x.1.2.1)=some y.2:=(jZ nd).2 (by rw[h2,← h3];exact hy);show z∈(match look K (s.at_.toNat,y.1.2.1,x.1.2.1) with | some m=>if t.at_=(x.1.1:Int) then eO K (a.toNat,y.1.2.1,x.1.2.2) (m+x.2) else [] | none=>[])
 rw[e];show z∈(if t.at_=(x.1.1:Int) then eO K (a.toNat,y.1.2.1,x.1.2.2) (y.2+x.2) else [])
 rw[if_pos h1];exact hz
theorem EU{P:List Pr}{El:Int→Nat→Nat→Prop}{n nts:Nat}{K:List Ln}{x z:Ln}(hP:∀p∈P,GZ nts p)(sk:∀x∈K,Snd P El n nts x)(sx:Snd P El n nts x)(hz:z∈MW K n P x):Snd P El n nts z∧x.2≤z.2:=by
 obtain⟨x0,x1,x2,x3,x4⟩:=sx;rcases List.mem_append.1 hz with h|h <;> obtain⟨p,hp,h⟩:=List.mem_flatMap.1 h <;> obtain⟨v,hv,h⟩:=List.mem_flatMap.1 h <;> rw[List.mem_range] at hv <;> obtain⟨g0,g1,g2⟩:=hP p hp <;> obtain⟨a,B⟩:=p <;> dsimp only at g0 g1 g2
 ·unfold mS at h;dsimp only at h
  split at h
  ·rename_i s t _
   obtain⟨⟨s0,s1⟩,t0,t1⟩:=g2 s t rfl;split at h
   ·rename_i m hm
    split at h
    ·rename_i hs
     obtain⟨rfl,z1,-⟩:=yN h;obtain⟨k0,k1,k2,k3,k4⟩:=sk _ (dO hm);dsimp only at k0 k1 k2 k3 k4
     refine⟨⟨?_,z1,by show a.toNat<nts;omega,x3,hv⟩,Nat.le_add_right _ _⟩;show oO P El n ((a.toNat:Nat):Int) x.1.2.1 v (x.2+m)
     rw[Int.toNat_of_nonneg g0];rw[Int.toNat_of_nonneg t0] at k0;exact .two hp (by rw[hs];exact x0) k0
    ·cases h
   ·cases h
  ·cases h
 ·unfold mT at h;dsimp only at h
  split at h
  ·rename_i s t _
   obtain⟨⟨s0,s1⟩,t0,t1⟩:=g2 s t rfl;split at h
   ·rename_i m hm
    split at h
    ·rename_i hs
     obtain⟨rfl,z1,-⟩:=yN h;obtain⟨k0,k1,k2,k3,k4⟩:=sk _ (dO hm);dsimp only at k0 k1 k2 k3 k4
     refine⟨⟨?_,z1,by show a.toNat<nts;omega,hv,x4⟩,Nat.le_add_left _ _⟩;show oO P El n ((a.toNat:Nat):Int) v x.1.2.2 (m+x.2)
     rw[Int.toNat_of_nonneg g0];rw[Int.toNat_of_nonneg s0] at k0;exact .two hp k0 (by rw[hs];exact x0)
    ·cases h
   ·cases h
  ·cases h
theorem BI.new{P:List Pr}{El:Int→Nat→Nat→Prop}{n nts:Nat}{K Q R:List Ln}{b:Nat}{x:Ln}(hP:∀p∈P,GZ nts p)(h:BI P El n nts K Q b)(hp:Q.Perm (x::R))(hx:∀y∈R,x.2≤y.2)(hl:look K x.1=none)
  {Q':List Ln} (hq:Q'.Perm (MW (K++[x]) n P x++R)):BI P El n nts (K++[x]) Q' x.2:=by
 have hmem:∀y,y∈Q↔y=x∨y∈R:=fun y=>by rw[hp.mem_iff,List.mem_cons]
 have hmem':∀y,y∈Q'↔y∈MW (K++[x]) n P x∨y∈R:=fun y=>by rw[hq.mem_iff,List.mem_append]
 have hbx:b≤x.2:=h.lo _ ((hmem x).2 (.inl rfl));have sx:=h.sq _ ((hmem x).2 (.inl rfl));have hin:∀y,y∈K++[x]↔y∈K∨y=x:=fun y=>by rw[List.mem_append,List.mem_singleton]
 have sk:∀y∈K++[x],Snd P El n nts y:=fun y hy=>by
  rcases (hin y).1 hy with e|e
  ·exact h.sk y e
  ·subst e;exact sx
 have nd:((K++[x]).map (·.1)).Nodup:=by
  rw[List.map_append,List.nodup_append];refine⟨h.nd,by simp,fun a ha c hc=>?_⟩;obtain⟨y,hy,rfl⟩:=List.mem_map.1 ha;rw[List.map_singleton,List.mem_singleton] at hc;subst hc;exact gW.1 hl y hy
 have hi:∀y∈K++[x],y.2≤x.2:=fun y hy=>by
  rcases (hin y).1 hy with e|e
  ·exact Nat.le_trans (h.hi y e) hbx
  ·subst e;exact Nat.le_refl _
 have hN:∀z∈MW (K++[x]) n P x,z∈Q':=fun z hz=>(hmem' z).2 (.inl hz)
 have hh:∀f m,wQ K Q f m→wQ (K++[x]) Q' f m:=fun f m hv=>hv.mono (fun y hy=>(hin y).2 (.inl hy)) (fun y hy=>by
  rcases (hmem y).1 hy with e|e
  ·subst e;exact .inr ⟨y.2,Nat.le_refl _,.inl ((hin _).2 (.inr rfl))⟩
  ·exact .inl ((hmem' y).2 (.inr e)))
 refine⟨sk,fun y hy=>?_,nd,hi,fun y hy=>?_,fun a i h1 h2=>hh _ _ (h.eps a i h1 h2),fun a s i j h1 h2=>hh _ _ (h.one a s i j h1 h2),fun a s t y z h1 h2 h3 h4 h5 h6 h7=>?_⟩
 ·rcases (hmem' y).1 hy with e|e
  ·exact(EU hP sk sx e).1
  ·exact h.sq y ((hmem y).2 (.inr e))
 ·rcases (hmem' y).1 hy with e|e
  ·exact(EU hP sk sx e).2
  ·exact hx y e
 ·have ry:=sk y h2;have rz:=sk z h3;rcases (hin y).1 h2 with e|e
  ·rcases (hin z).1 h3 with e' | e'
   ·exact hh _ _ (h.two a s t y z h1 e e' h4 h5 h6 h7)
   ·subst e';exact KU (nts:=nts) hi (Nat.le_refl _) nd h1 h2 h5 h4 h6 h7 ry.2.2.2.1 hN
  ·subst e;exact KT (nts:=nts) hi (Nat.le_refl _) nd h1 h3 h4 h5 h6 h7 rz.2.2.2.2 hN
def mM(P:List Pr)(El:Int→Nat→Nat→Prop)(n:Nat)(f:Fc)(m:Nat):Prop:=oO P El n (f.1:Int) f.2.1 f.2.2 m∧∀m',oO P El n (f.1:Int) f.2.1 f.2.2 m'→m≤m'
theorem BI.whole{P:List Pr}{El:Int→Nat→Nat→Prop}{n nts:Nat}{K:List Ln}{b:Nat}(hP:∀p∈P,GZ nts p)(h:BI P El n nts K [] b){a:Int}{i j m:Nat}(d:oO P El n a i j m):m≤64→∃m',m'≤m∧((a.toNat,i,j),m')∈K:=by
 have hv:∀f m,wQ K [] f m→∃m',m'≤m∧(f,m')∈K:=fun f m ⟨m',h1,h2⟩=>⟨m',h1,h2.elim id (fun h=>by cases h)⟩
 induction d with
 | eps h1 h2=>exact fun _=>hv _ _ (h.eps _ _ h1 h2)
 | one h1 h2=>exact fun _=>hv _ _ (h.one _ _ _ _ h1 h2)
 | two h1 d1 d2 i1 i2 =>
  rename_i s t i k j m1 m2
  intro hm;obtain⟨k1,e1,f1⟩:=i1 (by omega);obtain⟨k2,e2,f2⟩:=i2 (by omega);obtain⟨⟨s0,-⟩,t0,-⟩:=(hP _ h1).two s t rfl;obtain⟨k3,e3,f3⟩:=hv _ _ (h.two _ s t _ _ h1 f1 f2 (Int.toNat_of_nonneg s0).symm (Int.toNat_of_nonneg t0).symm rfl (by show k1+k2≤64;omega));exact⟨k3,by dsimp only at e3;omega,f3⟩
structure TB(P:List Pr)(El:Int→Nat→Nat→Prop)(n nts:Nat)(K:List Ln):Prop where
 nd:(K.map (·.1)).Nodup
 iff:∀x:Ln,x∈K↔x.1.1<nts∧x.1.2.1<n∧x.1.2.2<n∧mM P El n x.1 x.2∧x.2≤64
theorem BI.done{P:List Pr}{El:Int→Nat→Nat→Prop}{n nts:Nat}{K:List Ln}{b:Nat}(hP:∀p∈P,GZ nts p)(h:BI P El n nts K [] b):TB P El n nts K:=by
 refine⟨h.nd,fun x=>⟨fun hx=>?_,fun ⟨h1,h2,h3,⟨h4,h5⟩,h6⟩=>?_⟩⟩
 ·obtain⟨h1,h2,h3,h4,h5⟩:=h.sk x hx;refine⟨h3,h4,h5,⟨h1,fun m' d=>?_⟩,h2⟩;rcases Nat.lt_or_ge 64 m' with h6|h6
  ·omega
  ·obtain⟨m2,h7,h8⟩:=h.whole hP d h6;have e1:=(jZ h.nd).2 h8;have e2:=(jZ h.nd).2 (show(((x.1.1:Int).toNat,x.1.2.1,x.1.2.2),x.2)∈K from hx);rw[e1] at e2;have:=Option.some.inj e2;omega
 ·obtain⟨m2,h7,h8⟩:=h.whole hP h4 h6;have e1:((x.1.1:Int).toNat,x.1.2.1,x.1.2.2)=x.1:=rfl;rw[e1] at h8;have h9:=h5 _ (h.sk _ h8).1;have:m2=x.2:=by dsimp only at h9;omega
  rw[this] at h8;exact h8
end Go.Proofs.YteffnejneoocgaaGreatDoor
