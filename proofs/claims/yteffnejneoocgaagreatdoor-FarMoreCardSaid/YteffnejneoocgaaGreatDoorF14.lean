/- far: begin: what needs no other fact is put into the queue; the bodies of two are gathered; azimov: New; azimov: is, Has, Len; far: New: rows in order, what is put for a new fact, the lengths in memory. (Written by mkFrJ.py.); far: New: the state of its loop in memory. -/
import Derived.Test.YteffnejneoocgaaGreatDoorF13
import Derived.Test.YteffnejneoocgaaGreatDoorF08
import Derived.Test.YteffnejneoocgaaGreatDoorF12
import Derived.Deep.CutRange
set_option linter.unusedVariables false
set_option linter.unusedSimpArgs false
set_option maxHeartbeats 16000000
set_option maxRecDepth 100000
namespace Go.Proofs.YteffnejneoocgaaGreatDoor
open Go.RowKit Go.Shelf
structure BeI(P:List Pr)(El:Int→Nat→Nat→Prop)(n:Nat)(L:List Ln):Prop where
 snd:∀y∈L,(∃a i,(⟨a,[]⟩:Pr)∈P∧i<n∧y=((a.toNat,i,i),0))∨∃a s i j,(⟨a,[s]⟩:Pr)∈P∧El s.at_ i j∧y=((a.toNat,i,j),1)
 eps:∀a i,(⟨a,[]⟩:Pr)∈P→i<n→((a.toNat,i,i),0)∈L
 one:∀a s i j,(⟨a,[s]⟩:Pr)∈P→El s.at_ i j→((a.toNat,i,j),1)∈L
theorem BeI.zero(El:Int→Nat→Nat→Prop)(n:Nat):BeI [] El n []:=⟨fun _ h=>(by cases h),fun _ _ h=>(by cases h),fun _ _ _ _ h=>(by cases h)⟩
theorem cS{α:Type}{l:List α}{x y:α}:y∈l++[x]↔y∈l∨y=x:=by rw[List.mem_append,List.mem_singleton]
theorem BeI.step0{P:List Pr}{El:Int→Nat→Nat→Prop}{n:Nat}{L L':List Ln}(h:BeI P El n L)(a:Int)(hc:kH ((List.range n).flatMap (fun u=>eO [] (a.toNat,u,u) 0)) L L'):BeI (P++[⟨a,[]⟩]) El n L':=by
 have hm:∀y,y∈L'↔(∃i,i<n∧y=((a.toNat,i,i),0))∨y∈L:=fun y=>by
  rw[hc.1.mem_iff,List.mem_append,List.mem_flatMap];refine or_congr ⟨fun ⟨i,h1,h2⟩=>⟨i,List.mem_range.1 h1,List.mem_singleton.1 h2⟩,fun ⟨i,h1,h2⟩=>⟨i,List.mem_range.2 h1,List.mem_singleton.2 h2⟩⟩ Iff.rfl
 refine⟨fun y hy=>?_,fun b i hb hi=>?_,fun b s i j hb he=>?_⟩
 ·rcases (hm y).1 hy with ⟨i,h1,h2⟩|h1
  ·exact .inl ⟨a,i,cS.2 (.inr rfl),h1,h2⟩
  ·rcases h.snd y h1 with ⟨b,i,h2,h3⟩|⟨b,s,i,j,h2,h3⟩
   ·exact .inl ⟨b,i,cS.2 (.inl h2),h3⟩
   ·exact .inr ⟨b,s,i,j,cS.2 (.inl h2),h3⟩
 ·rcases cS.1 hb with h1|h1
  ·exact(hm _).2 (.inr (h.eps b i h1 hi))
  ·injection h1 with h1 _;subst h1;exact(hm _).2 (.inl ⟨i,hi,rfl⟩)
 ·rcases cS.1 hb with h1|h1
  ·exact(hm _).2 (.inr (h.one b s i j h1 he))
  ·injection h1 with _ h1;cases h1
structure LI(El:Nat→Nat→Prop)(a u:Nat)(G:List Ln):Prop where
 snd:∀y∈G,∃i j,i<u∧El i j∧y=((a,i,j),1)
 all:∀i j,i<u→El i j→((a,i,j),1)∈G
 len:G.length≤u*256
theorem LI.zero(El:Nat→Nat→Prop)(a:Nat):LI El a 0 []:=⟨fun _ h=>(by cases h),fun i _ h=>(by omega),Nat.le_refl _⟩
def FT(lab:Txt)(a u:Nat)(h:Hp):List Ln:=if h.lb=lab then eO [] (a,u,h.nd.toNat) 1 else []
theorem FU(lab:Txt)(a u:Nat)(h:Hp):(FT lab a u h).length≤1:=by
 unfold FT;split
 ·exact iO _ _ _
 ·exact Nat.zero_le _
theorem EG.len{G:Gr}{u:Nat}{L:List Hp}(h:EG G u L)(ok:GOk G):L.length≤256:=by
 have h1:=fX (h.up.nodup GV) (M:=G.X.map (fun x=>(⟨x.lb,(eE G.N x.to:Int)⟩:Hp))) (fun y hy=>by
  obtain⟨x,hx,-,e⟩:=(h.mem y).1 hy;exact List.mem_map.2 ⟨x,hx,e.symm⟩)
 rw[List.length_map] at h1;exact Nat.le_trans h1 ok.few.2
theorem LI.next{G:Gr}{labels:List Txt}{k:Int}{lab:Txt}{a u:Nat}{M:List Ln}{L:List Hp}(h:LI (ElG G labels k) a u M)(ho:EG G u L)(ok:GOk G)(hl:labels[k.toNat]?=some lab):LI (ElG G labels k) a (u+1) (M++L.flatMap (FT lab a u)):=by
 have hel:∀j,ElG G labels k u j↔∃y∈L,y.lb=lab∧y.nd.toNat=j:=fun j=>by
  constructor
  ·rintro⟨lb,h1,x,hx,h2,h3,h4⟩;rw[hl] at h1;obtain rfl:=Option.some.inj h1;refine⟨_,(ho.mem _).2 ⟨x,hx,h3,rfl⟩,h2,?_⟩;show((eE G.N x.to:Int)).toNat=j
   rw[Int.toNat_natCast];exact rL ok.nd h4
  ·rintro⟨y,hy,h1,h2⟩;obtain⟨x,hx,h3,rfl⟩:=(ho.mem y).1 hy;refine⟨lab,hl,x,hx,h1,h3,?_⟩;rw[← h2];show G.N[((eE G.N x.to:Int)).toNat]?=some x.to
   rw[Int.toNat_natCast];exact cW (ok.ends x hx).2
 have hm:∀y,y∈L.flatMap (FT lab a u)↔∃j,ElG G labels k u j∧y=((a,u,j),1):=fun y=>by
  rw[List.mem_flatMap];constructor
  ·rintro⟨q,hq,hy⟩;unfold FT at hy;split at hy
   ·rename_i e
    exact⟨q.nd.toNat,(hel _).2 ⟨q,hq,e,rfl⟩,List.mem_singleton.1 hy⟩
   ·cases hy
  ·rintro⟨j,hj,rfl⟩;obtain⟨q,hq,h1,h2⟩:=(hel j).1 hj;refine⟨q,hq,?_⟩;unfold FT;rw[if_pos h1,h2];exact List.mem_singleton.2 rfl
 refine⟨fun y hy=>?_,fun i j hi he=>?_,?_⟩
 ·rcases List.mem_append.1 hy with h1|h1
  ·obtain⟨i,j,h2,h3⟩:=h.snd y h1;exact⟨i,j,by omega,h3⟩
  ·obtain⟨j,h2,h3⟩:=(hm y).1 h1;exact⟨u,j,by omega,h2,h3⟩
 ·rcases Nat.lt_or_ge i u with h1|h1
  ·exact List.mem_append_left _ (h.all i j h1 he)
  ·obtain rfl:i=u:=by omega
   exact List.mem_append_right _ ((hm _).2 ⟨j,he,rfl⟩)
 ·rw[List.length_append];have h1:=fP _ (FU lab a u) L;have h2:=ho.len ok;have:=h.len;omega
theorem BeI.step1{P:List Pr}{El:Int→Nat→Nat→Prop}{n:Nat}{L L' G:List Ln}(h:BeI P El n L)(hEl:∀k i j,El k i j→i<n∧j<n)(a:Int)(s:Sy)(hg:LI (El s.at_) a.toNat n G)(hc:kH G L L'):BeI (P++[⟨a,[s]⟩]) El n L':=by
 have hm:∀y,y∈L'↔y∈G∨y∈L:=fun y=>by rw[hc.1.mem_iff,List.mem_append]
 refine⟨fun y hy=>?_,fun b i hb hi=>?_,fun b t i j hb he=>?_⟩
 ·rcases (hm y).1 hy with h1|h1
  ·obtain⟨i,j,-,h2,h3⟩:=hg.snd y h1;exact .inr ⟨a,s,i,j,cS.2 (.inr rfl),h2,h3⟩
  ·rcases h.snd y h1 with ⟨b,i,h2,h3⟩|⟨b,s,i,j,h2,h3⟩
   ·exact .inl ⟨b,i,cS.2 (.inl h2),h3⟩
   ·exact .inr ⟨b,s,i,j,cS.2 (.inl h2),h3⟩
 ·rcases cS.1 hb with h1|h1
  ·exact(hm _).2 (.inr (h.eps b i h1 hi))
  ·injection h1 with _ h1;cases h1
 ·rcases cS.1 hb with h1|h1
  ·exact(hm _).2 (.inr (h.one b t i j h1 he))
  ·injection h1 with h1 h2;injection h2 with h2 _;subst h1;subst h2;exact(hm _).2 (.inl (hg.all i j (hEl _ _ _ he).1 he))
theorem BeI.step2{P:List Pr}{El:Int→Nat→Nat→Prop}{n:Nat}{L:List Ln}(h:BeI P El n L)(p:Pr)(hp:2≤p.body.length):BeI (P++[p]) El n L:=by
 refine⟨fun y hy=>?_,fun b i hb hi=>?_,fun b t i j hb he=>?_⟩
 ·rcases h.snd y hy with ⟨b,i,h2,h3⟩|⟨b,s,i,j,h2,h3⟩
  ·exact .inl ⟨b,i,cS.2 (.inl h2),h3⟩
  ·exact .inr ⟨b,s,i,j,cS.2 (.inl h2),h3⟩
 ·rcases cS.1 hb with h1|h1
  ·exact h.eps b i h1 hi
  ·subst h1;simp at hp
 ·rcases cS.1 hb with h1|h1
  ·exact h.one b t i j h1 he
  ·subst h1;simp at hp
theorem BeI.start{P:List Pr}{El:Int→Nat→Nat→Prop}{n nts:Nat}{L:List Ln}(hP:∀p∈P,GZ nts p)(hEl:∀k i j,El k i j→i<n∧j<n)(h:BeI P El n L):BI P El n nts [] L 0:=by
 refine⟨fun _ h=>(by cases h),fun y hy=>?_,List.nodup_nil,fun _ h=>(by cases h),fun y _=>Nat.zero_le _,fun a i h1 h2=>⟨0,Nat.le_refl _,.inr (h.eps a i h1 h2)⟩,fun a s i j h1 h2=>⟨1,Nat.le_refl _,.inr (h.one a s i j h1 h2)⟩,fun a s t x y _ h2=>(by cases h2)⟩;rcases h.snd y hy with ⟨a,i,h1,h2,rfl⟩|⟨a,s,i,j,h1,h2,rfl⟩
 ·obtain⟨g0,g1,-⟩:=hP _ h1;dsimp only at g0 g1
  exact⟨by show oO P El n ((a.toNat:Nat):Int) i i 0;rw[Int.toNat_of_nonneg g0];exact .eps h1 h2,Nat.zero_le _,by show a.toNat<nts;omega,h2,h2⟩
 ·obtain⟨g0,g1,-⟩:=hP _ h1;dsimp only at g0 g1
  obtain⟨e1,e2⟩:=hEl _ _ _ h2;exact⟨by show oO P El n ((a.toNat:Nat):Int) i j 1;rw[Int.toNat_of_nonneg g0];exact .one h1 h2,by show 1≤64;omega,by show a.toNat<nts;omega,e1,e2⟩
def eQ(PV:List Pv)(k:Nat):List Pv:=(PV.take k).filter (fun v=>decide (2≤v.pr.body.length))
theorem vD{PV:List Pv}{t:Nat}{v:Pv}(h:PV[t]?=some v):eQ PV (t+1)=if 2≤v.pr.body.length then eQ PV t++[v] else eQ PV t:=by
 unfold eQ;rw[List.take_add_one,h,Option.toList_some,List.filter_append];split
 ·rename_i e;rw[List.filter_cons_of_pos (by simpa using e)];simp
 ·rename_i e;rw[List.filter_cons_of_neg (by simpa using e)];simp
theorem sK(PV:List Pv)(t:Nat):(eQ PV t).length≤PV.length:=Nat.le_trans (List.length_filter_le ..) (List.length_take_le' ..)
theorem LJ{PV:List Pv}{t:Nat}{v:Pv}(h:v∈eQ PV t):v∈PV∧2≤v.pr.body.length:=by
 obtain⟨h1,h2⟩:=List.mem_filter.1 h;exact⟨List.mem_of_mem_take h1,by simpa using h2⟩
def BgS(W:World)(p z n:Nat)(El:Int→Nat→Nat→Prop)(PV:List Pv)(k:Nat)(V:World):Prop:=∃tv lv L,QuN V p (.pointer (some ⟨z,0,none⟩)) tv lv L∧V.ownsRow 0 71 2 tv (eQ PV k).length (cY (eQ PV k)) ∧
 BeI ((PV.take k).map (·.pr)) El n L∧L.length≤k*8192∧HpM L L.length∧(∀q,lv.ownBlock=some q→W.heap.size≤q)∧(∀q,tv.ownBlock=some q→W.heap.size≤q∧lv.ownBlock≠some q)∧Upd (fun q=>q=p) W V
theorem BgS.put{W wr V1 V:World}{p z n k:Nat}{El:Int→Nat→Nat→Prop}{PV:List Pv}{tv lv:Value}{L G:List Ln}{pv:Pv}(q1:QuN wr p (.pointer (some ⟨z,0,none⟩)) tv lv L)(o1:wr.ownsRow 0 71 2 tv (eQ PV k).length (cY (eQ PV k)))(lL:L.length≤k*8192)
  (fl:∀q,lv.ownBlock=some q→W.heap.size≤q) (ft:∀q,tv.ownBlock=some q→W.heap.size≤q∧lv.ownBlock≠some q) (up:Upd (fun q=>q=p) W wr) (hpW:p<W.heap.size) (hb:Below wr.heap.size wr V1) (ht:QuT V1 p (.pointer (some ⟨z,0,none⟩)) tv lv (kH G L) V) (hG:G.length≤8192) (hv:PV[k]?=some pv) (h2:¬2≤pv.pr.body.length)
  (hI:∀L',kH G L L'→BeI ((PV.take (k+1)).map (·.pr)) El n L'):BgS W p z n El PV (k+1) V:=by
 obtain⟨lv',L',h1,hc,h3,h4,h5⟩:=ht;have hlt:=o1.lt;refine⟨tv,lv',L',h1,?_,hI L' hc,?_,hc.2,fun q hq=>?_,fun q hq=>⟨(ft q hq).1,fun e=>?_⟩,?_⟩
 ·rw[vD hv,if_neg h2];exact aB (aB o1 (upF hb) (fun _ _=>id)) h3 (fun q hq e=>e.elim (fun e=>by have:=(ft q hq).1;omega) (fun e=>(ft q hq).2 e))
 ·rw[hc.1.length_eq,List.length_append];omega
 ·rcases h4 q hq with e|e
  ·exact fl q e
  ·have:=up.size;have:=hb.size;omega
 ·rcases h4 q e with e|e
  ·exact(ft q hq).2 e
  ·have:=(hlt q hq).2;have:=hb.size;omega
 ·exact(up.trans (upF hb) (fun _ h=>h.elim)).trans h3 (fun q hq=>hq.elim .inl (fun e=>.inr (fl q e)))
theorem BgS.base{w W V:World}{p z n k:Nat}{El:Int→Nat→Nat→Prop}{PV:List Pv}(h:BgS W p z n El PV k V)(hb:Below w.heap.size w W):BgS w p z n El PV k V:=by
 obtain⟨tv,lv,L,h1,h2,h3,h4,h5,h6,h7,h8⟩:=h;exact⟨tv,lv,L,h1,h2,h3,h4,h5,fun q hq=>Nat.le_trans hb.size (h6 q hq),fun q hq=>⟨Nat.le_trans hb.size (h7 q hq).1,(h7 q hq).2⟩,(Upd.of_below hb (fun q=>q=p)).trans h8 (fun q hq=>.inl hq)⟩
theorem kH.trans{M M2 L L2 L3:List Ln}(h:kH M L L2)(h2:kH M2 L2 L3):kH (M++M2) L L3:=
 ⟨h2.1.trans ((h.1.append_left _).trans (by rw[← List.append_assoc];exact(List.perm_append_comm).append_right _)),h2.2⟩
theorem FnK.other{w:World}{p z r n:Nat}{K:List Ln}{lv lv':Value}(h:FnK w p z r n K lv)(hz:lv'.ownBlock≠some z)(hr:lv'.ownBlock≠some r):FnK w p z r n K lv':=⟨h.nodes,h.map,h.known,h.zlt,h.zp,h.rp,hz,hr,h.few,h.short⟩
theorem pB{PV:List Pv}{k:Nat}{v:Pv}(h:PV[k]?=some v):(PV.take (k+1)).map (·.pr)=(PV.take k).map (·.pr)++[v.pr]:=by
 rw[List.take_add_one,h,Option.toList_some,List.map_append];rfl
theorem PU(v:Pv):∀u∈v.cells,u.oneCell'=true:=by
 intro u hf;simp[Pv.cells] at hf
 rcases hf with rfl|rfl <;> rfl
theorem AR(w:World)(p z r n:Nat)(hb0:Blk w p 125 #[.pointer (some ⟨z,0,none⟩),.slice none 0 0,.slice none 0 0])(hk:FnK w p z r n [] (.slice none 0 0))(hrl:r<w.heap.size)(nts:Int)(PA:Option Addr)(pc:Nat)(PV:List Pv)(LA:Option Addr)(cl:Nat)(labels:List Txt)(Fg:Nat→Prop)(pg:Nat)(G:Gr)(ok:GOk G)(hn:G.N.length=n)
  (hmem:∀X,Upd (fun q=>q=p) w X→PvR X PA PV∧aX X LA (aE labels)∧GrS X Fg pg G) (hlab:labels.length≤16) (hsh:∀v∈PV,KY nts.toNat labels.length v) (hm:PV.length≤8192) (hnt:nts≤512) :
  Calls Tryz.prog 53 #[.pointer (some ⟨p,0,none⟩),.agg #[.int .i64 nts,.slice PA PV.length pc],.slice LA labels.length cl,.pointer (some ⟨pg,0,none⟩)] w
   (fun e w'=>e=.returned (.tuple #[])∧BgS w p z n (ElG G labels) PV PV.length w'):=by
 have b1:Below w.heap.size w (w.alloc (.cells #[.int .i64 nts,.slice PA PV.length pc] 24)):=bR.alloc (Nat.le_refl _) _;have k1:=Blk.new w 24 #[.int .i64 nts,.slice PA PV.length pc];obtain⟨m,hmm⟩:∃m,PV.length=m:=⟨_,rfl⟩;obtain⟨ll,hll⟩:∃l,labels.length=l:=⟨_,rfl⟩;have hmem1:∀X,Upd (fun q=>q=p) (w.alloc (.cells #[.int .i64 nts,.slice PA PV.length pc] 24)) X→PvR X PA PV∧aX X LA (aE labels)∧GrS X Fg pg G:=fun X hX=>hmem X ((Upd.of_below b1 (fun q=>q=p)).trans hX (fun q hq=>.inl hq))
 have hpw:=hb0.lt;have H:=aI11 hmem1 (hk.below b1) ok hn hsh hmm hll b1 (hb0.upd (upF b1) id) hpw hrl;have c0:(w.alloc (.cells #[.int .i64 nts,.slice PA PV.length pc] 24)).cell? ⟨w.heap.size,1,none⟩=some (.slice PA PV.length pc):=k1.cell 1;have HM:=hIz hmm;have HLL:=hIz hll;rw[hmm] at H c0 hm ⊢;rw[hll] at H hlab ⊢;have hn32:n≤32:=by have:=ok.few.1;omega
 clear b1 k1 hmem hmem1 hb0 hk ok hn hsh hmm hll hrl;go_enter Tryz.func53,Tryz.ntmps53;go_upto_region 1 with (fail);generalize w.alloc (.cells #[.int .i64 nts,.slice PA m pc] 24)=W1 at H c0 ⊢;generalize w.heap.size=s0 at hpw c0 ⊢;go_wp2_with fail;clear c0;go_loopw [19] (fun kv wr=>∃k:Nat,k≤m∧kv=.int .i64 (k:Int)∧Hid (BgS W1 p z n (ElG G labels) PV k wr)) (fun kv _=>m-(intOf kv).toNat)
 case atStart=>exact⟨0,Nat.zero_le _,rfl,hIz ⟨.slice none 0 0,.slice none 0 0,[],⟨H.out.2.2.2.2.2.2.2.2.1,World.ownsRow_nil _ _ _ _⟩,World.ownsRow_nil _ _ _ _,BeI.zero _ _,Nat.le_refl _,fun i _ _ _ h=>(Nat.not_lt_zero _ h).elim,fun _ h=>(by cases h),fun _ h=>(by cases h),Upd.refl _ _⟩⟩
 case round =>
  obtain⟨k,hkm,rfl,hq⟩:=hrel;obtain⟨Wk,hWk⟩:∃Wq,Wq=wr:=⟨_,rfl⟩;subst hWk;by_cases hlt:k<m
  ·have hltI:(k:Int)<(m:Int):=by omega
   obtain⟨pv,hv⟩:∃pv,PV[k]?=some pv:=⟨_,gEz (by rw[HM.out];exact hlt)⟩;obtain⟨tv,lv,L,q1,o1,bI,lL,hp,fl,ft,up⟩:=hq.out;have hok:=H.out.2.2.2.2.1 pv (mG hv);obtain⟨hP,hLb,hGr⟩:=H.out.1 Wk up;obtain⟨gb,go,hPA,y0,y1⟩:=hP.1.pv hv;subst hPA;have hrb:=hP.2 pv (mG hv);have hpW:p<W1.heap.size:=Nat.lt_of_lt_of_le H.out.2.2.2.2.2.2.2.2.2.1 H.out.2.2.2.2.2.2.2.1.size;have FK:FnK Wk p z r n [] lv:=((H.out.2.1.other (lv':=lv) (fun e=>by have:=fl _ e;have:=H.out.2.1.zlt;omega) (fun e=>by have:=fl _ e;have:=H.out.2.2.2.2.2.2.2.2.2.2;have:=H.out.2.2.2.2.2.2.2.1.size;omega)).upd (up.mono (fun q _ e=>.inl e)));have HQ:=aI14 q1 o1 bI lL hp fl ft up FK hpW hv hok hLb hGr;have hnl:Hid (∀q,lv.ownBlock=some q→¬q=p):=hIz (fun q hq e=>by have:=fl q hq;omega);clear q1 o1 bI lL hp fl ft up FK hpW hv hok hLb hGr hP hq;obtain⟨⟨hd,bd⟩,A,c⟩:=pv;dsimp only at y0 y1 hrb
   obtain⟨a,rfl⟩:∃a:Nat,hd=(a:Int):=⟨hd.toNat,(Int.toNat_of_nonneg HQ.out.2.2.2.2.2.2.2.2.2.2.2.1.g.h0).symm⟩;have ha:a≤1000000:=by have:=HQ.out.2.2.2.2.2.2.2.2.2.2.2.1.g.h1;dsimp only at this;omega
   have hcase:bd=[]∨(∃s,bd=[s])∨∃s t,bd=[s,t]:=by
    have:=HQ.out.2.2.2.2.2.2.2.2.2.2.2.1.few;dsimp only at this
    match bd,this with
    | [],_=>exact .inl rfl
    | [s],_=>exact .inr (.inl ⟨s,rfl⟩)
    | [s,t],_=>exact .inr (.inr ⟨s,t,rfl⟩)
    | _::_::_::_,h=>simp at h
   rcases hcase with rfl|⟨s,rfl⟩|⟨s,t,rfl⟩
   ·have y2:Wk.cell? ⟨gb,go+k*2+1,none⟩=some (.slice A 0 c):=y1;clear y1 hrb;have u9:Below Wk.heap.size Wk (Wk.alloc (.cells #[.int .i64 (a:Int),.slice A 0 c] 71)):=bR.alloc (Nat.le_refl _) _;have k9:=Blk.new Wk 71 #[.int .i64 (a:Int),.slice A 0 c];have c0:=(HQ.out.1.below u9).1.cell 0;have z1:=(HQ.out.2.2.2.2.2.2.2.2.1.below u9).nodes;have v1:(Wk.alloc (.cells #[.int .i64 (a:Int),.slice A 0 c] 71)).cell? ⟨Wk.heap.size,1,none⟩=some (.slice A 0 c):=k9.cell 1;have H9:=aI3 u9 k9 (HQ.out.1.below u9);clear u9 k9;go_upto_region 4 with (fail);generalize Wk.alloc (.cells #[.int .i64 (a:Int),.slice A 0 c] 71)=V1 at H9 c0 z1 v1 ⊢;go_wp2_with fail;clear c0 z1 v1 y0 y2;have nF:Hid (¬(Wk.heap.size=p∨lv.ownBlock=some Wk.heap.size)):=hIz (fun e=>e.elim (fun e=>by have:=HQ.out.1.1.lt;omega) (fun e=>by have:=(HQ.out.1.2.lt _ e).2;omega));go_loopw [45] (fun uv wr=>∃u:Nat,u≤n∧uv=.int .i64 (u:Int)∧Hid (QuT V1 p (.pointer (some ⟨z,0,none⟩)) tv lv (kH ((List.range u).flatMap (fun u=>eO [] (a,u,u) 0)) L) wr)) (fun uv _=>n-(intOf uv).toNat)
    case atStart=>exact⟨0,Nat.zero_le _,rfl,hIz ⟨lv,L,H9.out.2.2,⟨List.Perm.refl _,HQ.out.2.2.2.2.1⟩,Upd.refl _ _,fun _ h=>.inl h,hnl.out⟩⟩
    case round =>
     obtain⟨u,hun,rfl,hqu⟩:=hrel;by_cases hul:u<n
     ·have hulI:(u:Int)<(n:Int):=by omega
      have huw:IntKind.i64.wrap ((u:Int)+1)=(u:Int)+1:=IntWalk.i64_in _ (by omega);obtain⟨lv2,L2,q2,c2,u2,o2,n2⟩:=hqu.out;have v0:wr.cell? ⟨Wk.heap.size,0,none⟩=some (.int .i64 (a:Int)):=(H9.out.2.1.upd u2 nF.out).cell 0;have FK2:=(HQ.out.2.2.2.2.2.2.2.2.1.below H9.out.1).upd u2;have hlen:L2.length≤100000000:=by
       have h1:=c2.1.length_eq;rw[List.length_append] at h1;have h2:=fP _ (fun u=>iO [] (a,u,u) 0) (List.range u);rw[List.length_range] at h2;have:=HQ.out.2.2.2.1;omega
      have hput:=nD wr p z r tv lv2 L2 [] q2 n2 (by omega) c2.2 FK2.zlt FK2.map FK2.known (a,u,u) ⟨ha,by show u≤1000000;omega,by show u≤1000000;omega⟩ 0 (by omega);dsimp only at hput
      have HU:=aI3 u2 o2 c2;clear q2 c2 u2 o2 n2 FK2 hqu hlen;go_wp2_with fail;refine hput.mono ?_;clear hput v0;rintro e V ⟨rfl,ht⟩;have FIN:=hIz (show QuT V1 p (.pointer (some ⟨z,0,none⟩)) tv lv (kH ((List.range (u+1)).flatMap (fun u=>eO [] (a,u,u) 0)) L) V from by
       rw[fR];exact .trans HU.out.1 HU.out.2.1 (ht.imp (fun _ h=>HU.out.2.2.more h)))
      clear ht;go_wp2;go_roundw
      case rel=>exact⟨u+1,by omega,by simp,FIN⟩
      case measure=>simp[intOf];omega
     ·obtain rfl:u=n:=by omega
      have FIN:=hIz (show BgS W1 p z u (ElG G labels) PV (k+1) wr from .put HQ.out.1 HQ.out.2.1 HQ.out.2.2.2.1 HQ.out.2.2.2.2.2.1 HQ.out.2.2.2.2.2.2.1 HQ.out.2.2.2.2.2.2.2.1 HQ.out.2.2.2.2.2.2.2.2.2.1 H9.out.1 hqu.out (by have h2:=fP _ (fun u=>iO [] (a,u,u) 0) (List.range u);rw[List.length_range] at h2;omega) HQ.out.2.2.2.2.2.2.2.2.2.2.1 (by simp) (fun L' hc=>by
       rw[pB HQ.out.2.2.2.2.2.2.2.2.2.2.1];exact HQ.out.2.2.1.step0 (a:Int) hc))
      have hn0:¬((u:Int)<(u:Int)):=by omega
      have hkw:IntKind.i64.wrap ((k:Int)+1)=(k:Int)+1:=IntWalk.i64_in _ (by omega);clear hqu;go_wp2;go_roundw
      case rel=>exact⟨k+1,by omega,by simp,FIN⟩
      case measure=>simp[intOf];omega
   ·have y2:Wk.cell? ⟨gb,go+k*2+1,none⟩=some (.slice A 1 c):=y1;obtain⟨bb,bo,hA,d0⟩:=hrb 0 (.bool s.lab) rfl;subst hA;clear y1 d0;obtain⟨⟨sl,sx⟩,hse⟩:∃s',s'=s:=⟨_,rfl⟩;subst hse;have hso:=HQ.out.2.2.2.2.2.2.2.2.2.2.2.1.one _ rfl;dsimp only at hso
    obtain⟨sn,rfl⟩:∃a:Nat,sx=(a:Int):=⟨sx.toNat,(Int.toNat_of_nonneg hso.1).symm⟩;have hsl:sn<ll:=by have:=hso.2;omega
    obtain⟨lab,hlab2⟩:∃t,labels[sn]?=some t:=⟨_,gEz (by rw[HLL.out];exact hsl)⟩;obtain⟨lb,lo,hLA,-⟩:=HQ.out.2.2.2.2.2.2.2.2.2.2.2.2.1.txt hlab2;subst hLA;have hslI:(sn:Int)<(ll:Int):=by omega
    have u9:Below Wk.heap.size Wk (Wk.alloc (.cells #[.int .i64 (a:Int),.slice (some ⟨bb,bo,none⟩) 1 c] 71)):=bR.alloc (Nat.le_refl _) _;have k9:=Blk.new Wk 71 #[.int .i64 (a:Int),.slice (some ⟨bb,bo,none⟩) 1 c];have c0:=(HQ.out.1.below u9).1.cell 0;have z1:=(HQ.out.2.2.2.2.2.2.2.2.1.below u9).nodes;have v1:(Wk.alloc (.cells #[.int .i64 (a:Int),.slice (some ⟨bb,bo,none⟩) 1 c] 71)).cell? ⟨Wk.heap.size,1,none⟩=some (.slice (some ⟨bb,bo,none⟩) 1 c):=k9.cell 1;have H9:=aI5 u9 k9 (HQ.out.1.below u9) hlab2 (mG HQ.out.2.2.2.2.2.2.2.2.2.2.1);clear u9 k9 hlab2 hrb hso;go_upto_region 4 with (fail);generalize Wk.alloc (.cells #[.int .i64 (a:Int),.slice (some ⟨bb,bo,none⟩) 1 c] 71)=V1 at H9 c0 z1 v1 ⊢;go_wp2_with fail;clear c0 z1 v1 y0 y2;have nF:Hid (¬(Wk.heap.size=p∨lv.ownBlock=some Wk.heap.size)):=hIz (fun e=>e.elim (fun e=>by have:=HQ.out.1.1.lt;omega) (fun e=>by have:=(HQ.out.1.2.lt _ e).2;omega));have HUp:=hIz (show ∀X,Upd (fun q=>q=p∨lv.ownBlock=some q) V1 X→Upd (fun q=>q=p) W1 X from fun X hX=>(HQ.out.2.2.2.2.2.2.2.1.trans (Upd.of_below H9.out.1 (fun _=>False)) (fun _ h=>h.elim)).trans hX (fun q hq=>hq.elim .inl (fun e=>.inr (HQ.out.2.2.2.2.2.1 q e))));go_loopw [65] (fun uv wr=>∃u:Nat,u≤n∧uv=.int .i64 (u:Int)∧Hid (∃M,LI (ElG G labels sn) a u M∧QuT V1 p (.pointer (some ⟨z,0,none⟩)) tv lv (kH M L) wr)) (fun uv _=>n-(intOf uv).toNat)
    case atStart=>exact⟨0,Nat.zero_le _,rfl,hIz ⟨[],LI.zero _ _,lv,L,H9.out.2.2.1,⟨List.Perm.refl _,HQ.out.2.2.2.2.1⟩,Upd.refl _ _,fun _ h=>.inl h,hnl.out⟩⟩
    case round =>
     obtain⟨u,hun,rfl,hqu⟩:=hrel;obtain⟨Wu,hWu⟩:∃Wq,Wq=wr:=⟨_,rfl⟩;subst hWu;by_cases hul:u<n
     ·have hulI:(u:Int)<(n:Int):=by omega
      have huw:IntKind.i64.wrap ((u:Int)+1)=(u:Int)+1:=IntWalk.i64_in _ (by omega);obtain⟨M,hM,lv2,L2,q2,c2,u2,o2,n2⟩:=hqu.out;obtain⟨hP3,hLb3,hGr3⟩:=H.out.1 Wu (HUp.out Wu u2);have hout:=RU Wu Fg pg G hGr3 H.out.2.2.1 u (by rw[H.out.2.2.2.1];exact hul);have FK2:=(HQ.out.2.2.2.2.2.2.2.2.1.below H9.out.1).upd u2;have hrb3:=hP3.2 _ H9.out.2.2.2.2;dsimp only at hrb3
      have HU:=aI10 hM q2 c2 u2 o2 n2 FK2 (H9.out.2.1.upd u2 nF.out) hrb3 hLb3;clear hM q2 c2 u2 o2 n2 FK2 hqu hP3 hLb3 hGr3 hrb3;go_wp2_with fail;refine hout.mono ?_;clear hout;rintro e V2 ⟨hv2,Lh,hO,rfl,hown,hb2⟩;obtain⟨Ah,ch,rfl,-,-⟩:=aK hown;obtain⟨mh,hmh⟩:∃m,Lh.length=m:=⟨_,rfl⟩;have hmh2:mh≤256:=by rw[← hmh];exact hO.len H.out.2.2.1
      have hlt2:=hown.lt;rw[hmh] at hlt2;have HO:=aI5 hO (aX.of_own hown) hmh hb2 hlt2;rw[hmh];clear hO hown hmh hb2 hlt2;go_wp2_with fail;have nF2:Hid (∀q,Wu.heap.size≤q→¬(q=p∨lv2.ownBlock=some q)):=hIz (fun q hq e=>e.elim (fun e=>by have:=HU.out.2.1.1.lt;omega) (fun e=>by have:=(HU.out.2.1.2.lt _ e).2;omega));go_loopw [76] (fun tv2 wr=>∃t:Nat,t≤mh∧tv2=.int .i64 (t:Int)∧Hid (QuT V2 p (.pointer (some ⟨z,0,none⟩)) tv lv2 (kH ((Lh.take t).flatMap (FT lab a u)) L2) wr)) (fun tv2 _=>mh-(intOf tv2).toNat)
      case atStart=>exact⟨0,Nat.zero_le _,rfl,hIz ⟨lv2,L2,HU.out.2.1.below HO.out.2.2.2.1,⟨List.Perm.refl _,HU.out.2.2.1.2⟩,Upd.refl _ _,fun _ h=>.inl h,HU.out.2.2.2.2.2.1⟩⟩
      case round =>
       obtain⟨t,htm,rfl,hqt⟩:=hrel;obtain⟨Wt,hWt⟩:∃Wq,Wq=wr:=⟨_,rfl⟩;subst hWt;by_cases htl:t<mh
       ·have htlI:(t:Int)<(mh:Int):=by omega
        have htw:IntKind.i64.wrap ((t:Int)+1)=(t:Int)+1:=IntWalk.i64_in _ (by omega);obtain⟨⟨hs,hnd⟩,hx⟩:∃x,Lh[t]?=some x:=⟨Lh[t]'(by rw[HO.out.2.2.1];exact htl),gEz _⟩;obtain⟨ed,hed,-,he⟩:=(HO.out.1.mem _).1 (mG hx);injection he with he1 he2;clear he1;have hvn:=fY (H.out.2.2.1.ends ed hed).2;rw[H.out.2.2.2.1] at hvn;generalize eE G.N ed.to=v at he2 hvn;subst he2;clear hed;obtain⟨lv3,L3,q3,c3,u3,o3,n3⟩:=hqt.out;obtain⟨ab,ao,hAh,y0,y1⟩:=(HO.out.2.1.upd u3 (fun b0 o0 s0 e0=>nF2.out b0 (HO.out.2.2.2.2 b0 (by rw[e0];rfl)).1)).hp hx;subst hAh;dsimp only at y0 y1
        have u4:Upd (fun q=>q=p∨lv.ownBlock=some q) V1 Wt:=(HU.out.2.2.2.1.trans (Upd.of_below HO.out.2.2.2.1 (fun _=>False)) (fun _ h=>h.elim)).trans u3 (fun q hq=>hq.elim (fun e=>.inl (.inl e)) (fun e=>(HU.out.2.2.2.2.1 q e).imp .inr id));obtain⟨hP4,hLb4,-⟩:=H.out.1 Wt (HUp.out Wt u4);have u15:Below Wt.heap.size Wt (Wt.alloc (.cells #[.string hs,.int .i64 (v:Int)] 143)):=bR.alloc (Nat.le_refl _) _;have k15:=Blk.new Wt 143 #[.string hs,.int .i64 (v:Int)];have hk9:=(H9.out.2.1.upd u4 nF.out).upd (upF u15) id;have FK4:=((HQ.out.2.2.2.2.2.2.2.2.1.below H9.out.1).upd u4).below u15;have hrb4:=(hP4.2 _ H9.out.2.2.2.2).below3 u15;dsimp only at hrb4
        obtain⟨b',o',e',d1⟩:=hrb4 1 (.int .i64 (sn:Int)) rfl;injection e' with e';injection e' with e1 e2;subst e1;subst e2;obtain⟨b',o',e',l0⟩:=(hLb4.below3 u15).txt H9.out.2.2.2.1;injection e' with e';injection e' with e1 e2;subst e1;subst e2;have hlen:L3.length≤100000000:=by
         have h1:=c3.1.length_eq;rw[List.length_append] at h1;have h2:=fP _ (FU lab a u) (Lh.take t);have h3:=HU.out.2.2.1.1.length_eq;rw[List.length_append] at h3;have h4:=HU.out.1.len;have:=HQ.out.2.2.2.1;have:=List.length_take_le' t Lh;have:=HO.out.2.2.1;omega
        have HT:=aI8 (q3.below u15) c3 (u3.trans (upF u15) (fun _ h=>h.elim)) o3 n3 FK4 hlen hx;have HK:=aI2 k15 hk9;clear q3 c3 u3 o3 n3 FK4 hlen hqt hP4 hLb4 hrb4 u4 u15 k15 hk9 hx;go_upto_region 20 with (fail);generalize Wt.alloc (.cells #[.string hs,.int .i64 (v:Int)] 143)=W5 at HT HK d1 l0 ⊢;clear y0 y1;have w0:W5.cell? ⟨Wt.heap.size,0,none⟩=some (.string hs):=HK.out.1.cell 0;have w1:W5.cell? ⟨Wt.heap.size,1,none⟩=some (.int .i64 (v:Int)):=HK.out.1.cell 1;have v0:W5.cell? ⟨Wk.heap.size,0,none⟩=some (.int .i64 (a:Int)):=HK.out.2.cell 0;have v1:W5.cell? ⟨Wk.heap.size,1,none⟩=some (.slice (some ⟨bb,bo,none⟩) 1 c):=HK.out.2.cell 1;have HD:=hIz (show ∀n,Below W5.heap.size W5 (W5.drewN n) from fun n=>⟨rfl,rfl,rfl,Nat.le_refl _,fun _ _=>rfl⟩);by_cases hsl2:hs=lab
        ·have hsb:(ByteArray.toList hs==ByteArray.toList lab)=true:=by rw[txt_beq];exact decide_eq_true hsl2
         have HSL:=hIz hsl2;clear hsl2;go_quiet (fail)
         go_wp2_with fail;have HP:=hIz (fun V (hV:Below W5.heap.size W5 V)=>nD V p z r tv lv3 L3 [] (HT.out.1.below hV) HT.out.2.2.2.2.1 (Nat.le_trans HT.out.2.2.2.2.2.2.1 (by decide)) HT.out.2.1.2 (HT.out.2.2.2.2.2.1.below hV).zlt (HT.out.2.2.2.2.2.1.below hV).map (HT.out.2.2.2.2.2.1.below hV).known (a,u,v) ⟨ha,by show u≤1000000;omega,by show v≤1000000;omega⟩ 1 (by omega));refine(HP.out _ (HD.out _)).mono ?_;rintro e V ⟨rfl,ht⟩;have FIN:=hIz (show QuT V2 p (.pointer (some ⟨z,0,none⟩)) tv lv2 (kH ((Lh.take (t+1)).flatMap (FT lab a u)) L2) V from by
          rw[List.take_add_one,HT.out.2.2.2.2.2.2.2,Option.toList_some,List.flatMap_append,List.flatMap_singleton,show FT lab a u ⟨hs,(v:Int)⟩=eO [] (a,u,v) 1 from if_pos HSL.out];exact .trans (HT.out.2.2.1.trans (Upd.of_below (HD.out _) (fun _=>False)) (fun _ h=>h.elim)) HT.out.2.2.2.1 (ht.imp (fun _ h=>HT.out.2.1.more h)))
         clear ht;go_wp2;go_roundw
         case rel=>exact⟨t+1,by omega,by simp,FIN⟩
         case measure=>simp[intOf];omega
        ·have hsb:(ByteArray.toList hs==ByteArray.toList lab)=false:=by rw[txt_beq];exact decide_eq_false hsl2
         have FIN:=hIz (fun n=>show QuT V2 p (.pointer (some ⟨z,0,none⟩)) tv lv2 (kH ((Lh.take (t+1)).flatMap (FT lab a u)) L2) (W5.drewN n) from by
          rw[List.take_add_one,HT.out.2.2.2.2.2.2.2,Option.toList_some,List.flatMap_append,List.flatMap_singleton,show FT lab a u ⟨hs,(v:Int)⟩=[] from if_neg hsl2,List.append_nil];exact⟨lv3,L3,HT.out.1.below (HD.out _),HT.out.2.1,HT.out.2.2.1.trans (Upd.of_below (HD.out _) (fun _=>False)) (fun _ h=>h.elim),HT.out.2.2.2.1,HT.out.2.2.2.2.1⟩)
         clear hsl2;go_quiet (fail)
         go_wp2;go_roundw
         case rel=>exact⟨t+1,by omega,by simp,hIz (FIN.out _)⟩
         case measure=>simp[intOf];omega
       ·obtain rfl:t=mh:=by omega
        have FIN:=hIz (show ∃M,LI (ElG G labels sn) a (u+1) M∧QuT V1 p (.pointer (some ⟨z,0,none⟩)) tv lv (kH M L) Wt from⟨_,HU.out.1.next HO.out.1 H.out.2.2.1 H9.out.2.2.2.1,by
         have hh:=hqt.out;rw[List.take_of_length_le (Nat.le_of_eq HO.out.2.2.1)] at hh;exact .trans (HU.out.2.2.2.1.trans (Upd.of_below HO.out.2.2.2.1 (fun _=>False)) (fun _ h=>h.elim)) HU.out.2.2.2.2.1 (hh.imp (fun _ h=>HU.out.2.2.1.trans h))⟩)
        have hn0:¬((t:Int)<(t:Int)):=by omega
        clear hqt;go_wp2;go_roundw
        case rel=>exact⟨u+1,by omega,by simp,FIN⟩
        case measure=>simp[intOf];omega
     ·obtain rfl:u=n:=by omega
      have FIN:=hIz (show BgS W1 p z u (ElG G labels) PV (k+1) Wu from by
       obtain⟨M,hM,hh⟩:=hqu.out;exact .put HQ.out.1 HQ.out.2.1 HQ.out.2.2.2.1 HQ.out.2.2.2.2.2.1 HQ.out.2.2.2.2.2.2.1 HQ.out.2.2.2.2.2.2.2.1 HQ.out.2.2.2.2.2.2.2.2.2.1 H9.out.1 hh (by have:=hM.len;omega) HQ.out.2.2.2.2.2.2.2.2.2.2.1 (by simp) (fun L' hc=>by
        rw[pB HQ.out.2.2.2.2.2.2.2.2.2.2.1];exact HQ.out.2.2.1.step1 (fun _ _ _ h=>by have:=h.lt;rw[H.out.2.2.2.1] at this;exact this) (a:Int) _ hM hc))
      have hn0:¬((u:Int)<(u:Int)):=by omega
      have hkw:IntKind.i64.wrap ((k:Int)+1)=(k:Int)+1:=IntWalk.i64_in _ (by omega);clear hqu;go_wp2;go_roundw
      case rel=>exact⟨k+1,by omega,by simp,FIN⟩
      case measure=>simp[intOf];omega
   ·have y2:Wk.cell? ⟨gb,go+k*2+1,none⟩=some (.slice A 2 c):=y1;clear y1 hrb;have u9:Below Wk.heap.size Wk (Wk.alloc (.cells #[.int .i64 (a:Int),.slice A 2 c] 71)):=bR.alloc (Nat.le_refl _) _;have k9:=Blk.new Wk 71 #[.int .i64 (a:Int),.slice A 2 c];have v1:(Wk.alloc (.cells #[.int .i64 (a:Int),.slice A 2 c] 71)).cell? ⟨Wk.heap.size,1,none⟩=some (.slice A 2 c):=k9.cell 1;have H9:=aI3 u9 k9 (HQ.out.1.below u9);clear u9 k9;go_upto_region 4 with (fail);generalize Wk.alloc (.cells #[.int .i64 (a:Int),.slice A 2 c] 71)=V1 at H9 v1 ⊢;go_upto_region 5 with (fail);clear v1 y0 y2;obtain⟨v2,W2,happ,own2,u2,p2⟩:=cI V1.drew 0 22 71 2 32 _ Tryz.underlying22 uZ rfl (by decide) tv (eQ PV k).length (cY (eQ PV k)) (aB HQ.out.2.1 ((Upd.of_below H9.out.1 (fun _=>False)).drew) (fun _ _=>id)) (Pv.cells ⟨⟨(a:Int),[s,t]⟩,A,c⟩) 1 rfl (PU _) (by have:=sK PV k;have:=HM.out;omega) (by have:=sK PV k;have:=HM.out;unfold maxLen;omega) (Nat.zero_le _);obtain⟨A2,c2,rfl,-,-⟩:=aK own2;have hltl:=HQ.out.1.2.lt;have hbV:Blk V1.drew p 125 #[.pointer (some ⟨z,0,none⟩),tv,lv]:=H9.out.2.2.1.drew;have htp:tv.ownBlock≠some p:=fun e=>by have:=(HQ.out.2.2.2.2.2.2.1 p e).1;have:=HQ.out.2.2.2.2.2.2.2.2.2.1;omega
    have hb2:Blk W2 p 125 #[.pointer (some ⟨z,0,none⟩),tv,lv]:=hbV.upd u2 htp;have hnp:∀q,(Value.slice A2 ((eQ PV k).length+1) c2).ownBlock=some q→W1.heap.size≤q∧lv.ownBlock≠some q:=fun q hq=>by
     rcases p2 q hq with e|e
     ·exact HQ.out.2.2.2.2.2.2.1 q e
     ·have e:V1.heap.size≤q:=e;have h1:=H9.out.1.size;have h2:=HQ.out.2.2.2.2.2.2.2.1.size;exact⟨by omega,fun e2=>by have:=(hltl q e2).2;omega⟩
    have hwl:lv.ownBlock≠some p:=fun e=>by have:=HQ.out.2.2.2.2.2.1 p e;have:=HQ.out.2.2.2.2.2.2.2.2.2.1;omega
    have FIN:=hIz (show BgS W1 p z n (ElG G labels) PV (k+1) (W2.setCell ⟨p,1,none⟩ (.slice A2 ((eQ PV k).length+1) c2)) from by
     have us:=(Upd.refl (fun q=>q=p) W2).setCell (p:=⟨p,1,none⟩) (.inl rfl) (.slice A2 ((eQ PV k).length+1) c2);refine⟨.slice A2 ((eQ PV k).length+1) c2,lv,L,⟨hb2.set 1 _,?_⟩,?_,?_,by have:=HQ.out.2.2.2.1;omega,HQ.out.2.2.2.2.1,HQ.out.2.2.2.2.2.1,hnp,?_⟩
     ·refine aB (aB (aB HQ.out.1.2 ((Upd.of_below H9.out.1 (fun _=>False)).drew) (fun _ _=>id)) u2 (fun q hq e=>(HQ.out.2.2.2.2.2.2.1 q e).2 hq)) us (fun q hq e=>hwl (by rw[← e];exact hq))
     ·rw[vD HQ.out.2.2.2.2.2.2.2.2.2.2.1,if_pos (show 2≤[s,t].length from Nat.le_refl 2),List.length_append,oP];exact aB own2 us (fun q hq e=>by have:=(hnp q hq).1;have:=HQ.out.2.2.2.2.2.2.2.2.2.1;omega)
     ·rw[pB HQ.out.2.2.2.2.2.2.2.2.2.2.1];exact HQ.out.2.2.1.step2 _ (Nat.le_refl 2)
     ·exact((HQ.out.2.2.2.2.2.2.2.1.trans ((Upd.of_below H9.out.1 (fun _=>False)).drew) (fun _ h=>h.elim)).trans u2 (fun q hq=>.inr (HQ.out.2.2.2.2.2.2.1 q hq).1)).trans us (fun q hq=>.inl hq))
    have SR:=hIz (show ∀V,Below V1.heap.size V1 V→V.cell? ⟨p,1,none⟩=some tv∧V.cell? ⟨Wk.heap.size,0,none⟩=some (.int .i64 (a:Int))∧V.cell? ⟨Wk.heap.size,1,none⟩=some (.slice A 2 c) from fun V hb=>by
     have u:=Upd.of_below hb (fun _=>False);exact⟨(H9.out.2.2.1.upd u id).cell 1,(H9.out.2.1.upd u id).cell 0,(H9.out.2.1.upd u id).cell 1⟩)
    have hS:=SR.out V1.drew bR.drew;have ha2:=SR.out (V1.drew.alloc (.cells #[.int .i64 (a:Int),.slice A 2 c] 71)) (bR.drew.alloc (Nat.le_refl _) _);have n9:¬Wk.heap.size=p:=fun e=>by have:=HQ.out.1.1.lt;omega
    have n9t:tv.ownBlock≠some Wk.heap.size:=fun e=>by have:=(HQ.out.2.1.lt _ e).2;omega
    have hk2:=(H9.out.2.1.drew).upd u2 n9t;have hS2:W2.cell? ⟨p,1,none⟩=some tv∧W2.cell? ⟨Wk.heap.size,0,none⟩=some (.int .i64 (a:Int))∧W2.cell? ⟨Wk.heap.size,1,none⟩=some (.slice A 2 c):=⟨hb2.cell 1,hk2.cell 0,hk2.cell 1⟩;have f2:W2.frozen? ⟨p,1,none⟩=false:=hb2.frozen 1;have cc2:W2.cell? ⟨p,1,none⟩=some tv:=hb2.cell 1;obtain⟨n1,hn1⟩:∃n1,(eQ PV k).length+1=n1:=⟨_,rfl⟩;rw[hn1] at FIN happ;unfold Pv.cells at happ;dsimp only at happ
    simp only[List.length_cons,List.length_nil,Nat.zero_add,Nat.reduceAdd] at happ
    clear own2 u2 p2 hltl hbV htp hb2 hnp hwl n9 n9t hk2 hn1;have hkw:IntKind.i64.wrap ((k:Int)+1)=(k:Int)+1:=IntWalk.i64_in _ (by omega);refine aF (fun V=>V.cell? ⟨p,1,none⟩=some tv∧V.cell? ⟨Wk.heap.size,0,none⟩=some (.int .i64 (a:Int))∧V.cell? ⟨Wk.heap.size,1,none⟩=some (.slice A 2 c)) 10 [(0,true),(1,true),(2,true),(3,true),(4,true),(5,true),(6,false),(7,false),(8,true),(9,true),(10,false)] hS ?_;generalize V1.drew=V0 at hS happ ha2 ⊢
    iterate 6 refine aC rfl ?_
    refine aM rfl rfl (fun K hK=>?_);go_simp;refine hK _ _ (fun _=>ha2) ?_;clear hK K;(try simp only[Act.put,gA,gS,gZ,sA,sZ,sS])
    refine aM rfl rfl (fun K hK=>?_);refine fE _ _ _ rfl rfl rfl happ ?_;refine hK _ _ (fun _=>hS2) ?_;clear hK K;(try simp only[Act.put,gA,gS,gZ,sA,sZ,sS])
    have hS:=hS2
    iterate 2 refine aC rfl ?_
    refine aM rfl rfl (fun K hK=>?_);go_simp;refine hK _ _ (fun h=>absurd rfl h) ?_;clear hK K;(try simp only[Act.put,gA,gS,gZ,sA,sZ,sS])
    refine aG ?_;generalize W2.setCell ⟨p,1,none⟩ (.slice A2 n1 c2)=WF at FIN ⊢;go_wp2;go_roundw
    case rel=>exact⟨k+1,by omega,by simp,FIN⟩
    case measure=>simp[intOf];omega
  ·obtain rfl:k=m:=by omega
   have FIN:=hIz (show BgS w p z n (ElG G labels) PV k Wk from hq.out.base H.out.2.2.2.2.2.2.2.1);clear hq hlt;have hn0:¬((k:Int)<(k:Int)):=by omega
   go_wp2;exact bodyPost_end (results_none rfl _ _ _) rfl ⟨rfl,FIN.out⟩
open Go.RowKit Go.Shelf
def SM(w:World)(nts:Int)(PV:List Pv)(labels:List Txt)(G:Gr)(e:Ending)(w':World):Prop:=
 (eW nts PV labels=2∧e=.returned (.tuple #[.pointer none,.int .i64 2])∧Below w.heap.size w w') ∨
 (eW nts PV labels=0∧∃(p:Nat) (F:Nat→Prop) (B:eG),e=.returned (.tuple #[.pointer (some ⟨p,0,none⟩),.int .i64 0])∧ClS w' F p (max 1 G.N.length) G.N.length nts.toNat B∧(∀k,F k→w.heap.size≤k)∧Below w.heap.size w w' ∧
  (∀k,k<nts.toNat→∀i j,dX (B k) i j=true↔qK (PV.map (·.pr)) (ElG G labels) G.N.length (k:Int) i j)∧∀k,WdO (B k))
theorem mD(nts:Int)(PV:List Pv)(labels:List Txt):eW nts PV labels=2∨(eW nts PV labels=0∧labels.length≤16∧1≤nts∧nts≤512∧PV.length≤8192∧upB ltT labels=true∧∀v∈PV,aZ v.pr nts labels.length=true):=by
 unfold eW;by_cases h:16<labels.length∨nts<1∨512<nts∨8192<PV.length
 ·exact .inl (if_pos h)
 ·rw[if_neg h];by_cases h2:upB ltT labels=true∧∀v∈PV,aZ v.pr nts labels.length=true
  ·rw[if_pos h2];exact .inr ⟨rfl,by omega,by omega,by omega,by omega,h2⟩
  ·exact .inl (if_neg h2)
theorem LK(w:World)(side n:Nat):ClS (w.alloc (.cells #[.int .i64 (n:Int),.slice none 0 0] 109)) (fun k=>k=w.heap.size) w.heap.size side n 0 (fun _=>none):=by
 refine⟨fun k=>if k=w.heap.size then some .x else none,.slice none 0 0,fun _=>0,⟨Blk.new w _ _,World.ownsRow_nil _ _ _ _,if_pos rfl,fun k hk=>by simp[Value.ownBlock] at hk,fun k hk=>by omega,fun q hq=>?_⟩,?_⟩
 ·by_cases e:q=w.heap.size
  ·subst e;simp
  ·rw[if_neg e] at hq;exact absurd rfl hq
 ·funext k
  by_cases e:k=w.heap.size
  ·simp[e]
  ·simp[e]
def TT(V:World)(p side n t:Nat)(wr:World):Prop:=∃F,ClS wr F p side n t (fun _=>none)∧(∀k,F k→V.heap.size≤k)∧Below V.heap.size V wr
theorem LL(w:World)(nts:Int)(PA:Option Addr)(pc:Nat)(PV:List Pv)(hP:PvR w PA PV)(LA:Option Addr)(cl:Nat)(labels:List Txt)(hlab:aX w LA (aE labels))
  (Fg:Nat→Prop) (pg:Nat) (G:Gr) (hG:GrS w Fg pg G) (ok:GOk G) (hT:qF w) (htab:1<w.heap.size) :
  Calls Tryz.prog 18 #[.agg #[.int .i64 nts,.slice PA PV.length pc],.slice LA labels.length cl,.pointer (some ⟨pg,0,none⟩)] w (SM w nts PV labels G):=by
 have b1:Below w.heap.size w (w.alloc (.cells #[.int .i64 nts,.slice PA PV.length pc] 24)):=bR.alloc (Nat.le_refl _) _;have k1:=Blk.new w 24 #[.int .i64 nts,.slice PA PV.length pc];have hlen:=MT _ Fg pg G (hG.below b1);obtain⟨n,hn⟩:∃n,G.N.length=n:=⟨_,rfl⟩;have hn32:n≤32:=by have:=ok.few;omega
 have H:=aI9 b1 k1 hP hlab hG ok hT htab hn;have HN0:=hIz (show SM w nts PV labels G=fun e w'=>(eW nts PV labels=2∧e=.returned (.tuple #[.pointer none,.int .i64 2])∧Below w.heap.size w w') ∨
  (eW nts PV labels=0∧∃(p:Nat) (F:Nat→Prop) (B:eG),e=.returned (.tuple #[.pointer (some ⟨p,0,none⟩),.int .i64 0])∧ClS w' F p (max 1 n) n nts.toNat B∧(∀k,F k→w.heap.size≤k)∧Below w.heap.size w w' ∧
  (∀k,k<nts.toNat→∀i j,dX (B k) i j=true↔qK (PV.map (·.pr)) (ElG G labels) n (k:Int) i j)∧∀k,WdO (B k)) from by subst hn;rfl)
 rw[hn] at hlen;have hthere:=fun V (hV:Below w.heap.size w V) (h0:n≤1)=>FH V Fg pg G (hG.below hV) ok (by omega)
 have HTH:=hIz hthere;have hcheck:=fun V (hV:Below w.heap.size w V)=>AL V nts PA pc PV (hP.below hV) LA cl labels (hlab.below3 hV)
 have HCK:=hIz hcheck;clear b1 k1 hP hlab hG ok hT htab hn hthere hcheck;obtain⟨m,hm⟩:∃m,PV.length=m:=⟨_,rfl⟩;obtain⟨l,hl⟩:∃l,labels.length=l:=⟨_,rfl⟩;rw[hm] at H HCK hlen ⊢;rw[hl] at HCK ⊢;have HM:=aI2 hm hl;clear hm hl;go_enter Tryz.func18,Tryz.ntmps18;go_wp2_with fail;refine hlen.mono ?_;clear hlen;rintro e V1 ⟨rfl,hb1⟩;have hbw1:=tHn H.out.1 hb1;have k1:=H.out.2.1.upd (upF hb1) id;have H1:=aI2 hbw1 k1;clear hbw1 k1 hb1;go_upto_region 2 with (fail);go_cut [29] from 19 (fun s29 wc=>s29=.bool false∧Hid (Below V1.heap.size V1 wc))
 case first =>
  by_cases hn0:n=0
  ·have hz:((n:Int)==0)=true:=by simp;omega
   have hth:=HTH.out V1 H1.out.1 (by omega);clear hn0;go_wp2_with fail;refine hth.mono ?_;clear hth hz;rintro e V2 ⟨rfl,hb2⟩;have HB:=hIz hb2;clear hb2;go_wp2;go_meet
   case rel=>exact⟨rfl,HB⟩
  ·have hz:((n:Int)==0)=false:=by simp;omega
   clear hn0;go_wp2;go_meet
   case rel=>exact⟨rfl,hIz bR⟩
 case rest =>
  obtain⟨rfl,hc⟩:=hcut;have hbc:=tHn H1.out.1 hc.out;have kc:=H1.out.2.upd (upF hc.out) id;have c0:wc.cell? ⟨w.heap.size,0,none⟩=some (.int .i64 nts):=kc.cell 0;have c1:wc.cell? ⟨w.heap.size,1,none⟩=some (.slice PA m pc):=kc.cell 1;have hck:=HCK.out wc hbc;have H2:=aI2 hbc kc;clear hbc kc hc H1;rcases mD nts PV labels with h2|⟨h0,hok⟩
  ·rw[h2] at hck;have HA:=hIz h2;clear h2;go_wp2_with fail;refine hck.mono ?_;clear hck;rintro e V3 ⟨rfl,hb3⟩;have FIN:=hIz (show SM w nts PV labels G (.returned (.tuple #[.pointer none,.int .i64 2])) V3 from .inl ⟨HA.out,rfl,tHn H2.out.1 hb3⟩);clear hb3;go_wp2;refine bodyPost_ret (v:=.tuple #[.pointer none,.int .i64 2]) (by simp[results,Tryz.f18,go_sem]) rfl FIN.out
  ·rw[h0] at hck;obtain⟨hl16,hn1,hn5,hp8,hup,hsh⟩:=hok;obtain⟨t5,rfl⟩:∃t5:Nat,nts=(t5:Int):=⟨nts.toNat,by omega⟩;have HA:=aI3 h0 hup hsh;clear h0 hup hsh;obtain⟨side,hside⟩:∃side,max 1 n=side:=⟨_,rfl⟩;have hmx:max (1:Int) (n:Int)=(side:Int):=by omega
   have hs1:1≤side:=by omega
   have hs32:side≤32:=by omega
   have HSD:=hIz hside;clear hside;go_wp2_with fail;refine hck.mono ?_;clear hck;rintro e V3 ⟨rfl,hb3⟩;have hbw3:=tHn H2.out.1 hb3;have k3:=H2.out.2.upd (upF hb3) id;have hcl:=LK V3 side n;have b4:Below V3.heap.size V3 (V3.alloc (.cells #[.int .i64 (n:Int),.slice none 0 0] 109)):=bR.alloc (Nat.le_refl _) _;have c0:(V3.alloc (.cells #[.int .i64 (n:Int),.slice none 0 0] 109)).cell? ⟨w.heap.size,0,none⟩=some (.int .i64 (t5:Int)):=(k3.alloc _).cell 0;have H3:=aI3 hbw3 k3 (show TT V3 V3.heap.size side n 0 (V3.alloc (.cells #[.int .i64 (n:Int),.slice none 0 0] 109)) from⟨_,hcl,fun k hk=>Nat.le_of_eq hk.symm,b4⟩);clear hbw3 k3 hcl b4 hb3;go_upto_region 8 with (fail);generalize V3.alloc (.cells #[.int .i64 (n:Int),.slice none 0 0] 109)=W4 at H3 c0 ⊢;go_wp2;clear c0;go_loopw [41] (fun i wr=>∃t:Nat,t≤t5∧i=.int .i64 (t:Int)∧Hid (TT V3 V3.heap.size side n t wr)) (fun i _=>t5-(intOf i).toNat)
   case atStart=>exact⟨0,Nat.zero_le _,rfl,hIz H3.out.2.2⟩
   case round =>
    obtain⟨t,ht,rfl,hq⟩:=hrel;by_cases hlt:t<t5
    ·have htI:(t:Int)<(t5:Int):=by omega
     obtain⟨F,hcl,hF,hbV⟩:=hq.out;have hnew:=mZ wr side hs1 (by omega);have HC:=aI3 hcl hF hbV;clear hcl hF hbV hq;go_wp2_with fail;refine hnew.mono ?_;clear hnew;rintro e V5 ⟨q,rfl,⟨Fq,hqs,hFq⟩,hb5⟩;obtain⟨A,c,A',c',W6,qa,happ,qa2,fa2,⟨F',hcl',hF'⟩,hu'⟩:=ClS.grow (HC.out.1.below hb5) hqs (fun k hk hf=>by have:=hFq k hk;have:=HC.out.1.lt k hf;omega) (by omega);have b6:Below V5.heap.size V5 (V5.alloc (.cells #[.pointer (some ⟨q,0,none⟩)] 110)):=bR.alloc (Nat.le_refl _) _;have FIN:=hIz (show TT V3 V3.heap.size side n (t+1) (W6.setCell ⟨V3.heap.size,1,none⟩ (.slice A' (t+1) c')) from by
      refine⟨F',hcl',fun k hk=>?_,?_⟩
      ·rcases hF' k hk with h|h|h
       ·exact HC.out.2.1 k h
       ·exact Nat.le_trans HC.out.2.2.size (hFq k h)
       ·exact Nat.le_trans (Nat.le_trans HC.out.2.2.size hb5.size) h
      ·have hb35:=tHn HC.out.2.2 hb5;exact hb35.trans (hu'.below (fun k _ hk=>HC.out.2.1 k hk) hb35.size))
     obtain⟨t1,ht1⟩:∃t1,t+1=t1:=⟨_,rfl⟩;rw[ht1] at happ FIN;have HT1:=hIz ht1;clear hqs hFq hcl' hF' hu' hb5 b6 ht1;go_wp2_with (at_builtin;refine wpList_append_run rfl _ _ _ rfl rfl rfl happ ?_);generalize W6.setCell ⟨V3.heap.size,1,none⟩ (.slice A' t1 c')=W7 at FIN ⊢;go_roundw
     case rel=>exact⟨t1,by have:=HT1.out;omega,by rw[← HT1.out];go_num,FIN⟩
     case measure=>simp[intOf];omega
    ·obtain rfl:t=t5:=by omega
     obtain⟨F,hcl,hF,hbV⟩:=hq.out;clear hq;have kz:=H3.out.2.1.upd (upF hbV) id;have z0:wr.cell? ⟨w.heap.size,0,none⟩=some (.int .i64 (t:Int)):=kz.cell 0;have z1:wr.cell? ⟨w.heap.size,1,none⟩=some (.slice PA m pc):=kz.cell 1;by_cases hn0:n=0
     ·have hnI:¬(0:Int)<(n:Int):=by omega
      have FIN:=hIz (show SM w (t:Int) PV labels G (.returned (.tuple #[.pointer (some ⟨V3.heap.size,0,none⟩),.int .i64 0])) wr from by
       rw[HN0.out];refine .inr ⟨HA.out.1,V3.heap.size,F,fun _=>none,rfl,?_,fun k hk=>Nat.le_trans H3.out.1.size (hF k hk),tHn H3.out.1 hbV,fun k _ i j=>⟨fun h=>(by cases h),fun d=>?_⟩,fun k r e=>(by cases e)⟩
       ·rw[HSD.out,Int.toNat_natCast];exact hcl
       ·have:=d.lt (fun k i j h=>by have:=h.lt;rwa [H.out.2.2.2.2.2.2.2.2] at this);omega)
      clear hcl hF hbV kz hn0;go_wp2;refine bodyPost_ret (v:=.tuple #[.pointer (some ⟨V3.heap.size,0,none⟩),.int .i64 0]) (by simp[results,Tryz.f18,go_sem]) rfl FIN.out
     ·have hnI:(0:Int)<(n:Int):=by omega
      have hsn:side=n:=by have:=HSD.out;omega
      have hfil:=LC V3 wr hbV F hF V3.heap.size n t (by rw[hsn] at hcl;exact hcl) PA pc PV LA cl labels Fg pg G
       ⟨H.out.2.2.1.below H3.out.1,H.out.2.2.2.1.below3 H3.out.1,H.out.2.2.2.2.1.below H3.out.1,H.out.2.2.2.2.2.1,H.out.2.2.2.2.2.2.2.2,by omega,H.out.2.2.2.2.2.2.1.upd (Upd.of_below H3.out.1 (fun _=>False)) H.out.2.2.2.2.2.2.2.1 id,Nat.lt_of_lt_of_le H.out.2.2.2.2.2.2.2.1 H3.out.1.size,fun v hv=>FF (HA.out.2.2 v hv),by omega,by omega,hp8⟩
      rw[HM.out.1,HM.out.2] at hfil;have HE:=aI3 hF hbV hsn;clear hcl hF hbV kz hsn;go_wp2_with fail;refine hfil.mono ?_;clear hfil;rintro e V9 ⟨rfl,B,hbit,hwd,F9,hcl9,hu9,hF9⟩;have FIN:=hIz (show SM w (t:Int) PV labels G (.returned (.tuple #[.pointer (some ⟨V3.heap.size,0,none⟩),.int .i64 0])) V9 from by
       rw[HN0.out];have hb9:Below V3.heap.size V3 V9:=HE.out.2.1.trans (hu9.below (fun k _ hk=>HE.out.1 k hk) HE.out.2.1.size);refine .inr ⟨HA.out.1,V3.heap.size,F9,B,rfl,?_,fun k hk=>?_,tHn H3.out.1 hb9,hbit,hwd⟩
       ·rw[HSD.out,Int.toNat_natCast,HE.out.2.2];exact hcl9
       ·rcases hF9 k hk with h|h
        ·exact Nat.le_trans H3.out.1.size (HE.out.1 k h)
        ·exact Nat.le_trans (Nat.le_trans H3.out.1.size HE.out.2.1.size) h)
      clear hbit hwd hcl9 hu9 hF9;go_wp2;refine bodyPost_ret (v:=.tuple #[.pointer (some ⟨V3.heap.size,0,none⟩),.int .i64 0]) (by simp[results,Tryz.f18,go_sem]) rfl FIN.out
open Go.RowKit Go.Shelf
theorem PW(w:World)(p g nts c:Nat)(q1:w.cell? ⟨p,1,none⟩=some (.slice (some ⟨g,0,none⟩) nts c)):Calls Tryz.prog 44 #[.pointer (some ⟨p,0,none⟩)] w (gB w (.bool true)):=by
 have qT:∀(w:World) (a:Option Addr) (n c n' c':Nat),(binOp .neq 107 (.slice a n c) (.slice none n' c')).run Tryz.prog w=.ok (.bool (!a.isNone)) w:=fun w a n c n' c'=>run_neq_slice_nil_any w _ _ a n c n' c' Tryz.underlying107
 go_enter Tryz.func44,Tryz.ntmps44;go_wp2;go_ret;exact⟨rfl,rfl⟩
def BJ(n nts:Nat)(B:eG)(k i j:Int):Value:=
 if 0≤k∧k<(nts:Int)∧0≤i∧i<(n:Int)∧0≤j∧j<(n:Int) then .tuple #[.bool (dX (B k.toNat) i.toNat j.toNat),.int .i64 0] else .tuple #[.bool false,.int .i64 4]
theorem LM(w:World)(F:Nat→Prop)(p side n nts:Nat)(B:eG)(h:ClS w F p side n nts B)(hn1:1≤nts)(hns:n≤side)(h64:side≤64)(k i j:Int) :
  Calls Tryz.prog 20 #[.pointer (some ⟨p,0,none⟩),.agg #[.int .i64 k,.int .i64 i,.int .i64 j]] w (Sam w (BJ n nts B k i j)):=by
 obtain⟨O,pv,ad,hi,rfl⟩:=h;obtain⟨g,gc,rfl,-,-,-,-,-⟩:=aN hi.rows (by omega);have b1:Below w.heap.size w (w.alloc (.cells #[.int .i64 k,.int .i64 i,.int .i64 j] 30)):=bR.alloc (Nat.le_refl _) _;have k1:=Blk.new w 30 #[.int .i64 k,.int .i64 i,.int .i64 j];have hi1:=hi.upd (upF b1) (fun _ _=>id);have his:=PW (w.alloc (.cells #[.int .i64 k,.int .i64 i,.int .i64 j] 30)) p g nts gc (hi1.blk.cell 1);have H:=aI3 b1 hi1 k1;have f0:(w.alloc (.cells #[.int .i64 k,.int .i64 i,.int .i64 j] 30)).cell? ⟨w.heap.size,0,none⟩=some (.int .i64 k):=k1.cell 0;have f1:(w.alloc (.cells #[.int .i64 k,.int .i64 i,.int .i64 j] 30)).cell? ⟨w.heap.size,1,none⟩=some (.int .i64 i):=k1.cell 1;have f2:(w.alloc (.cells #[.int .i64 k,.int .i64 i,.int .i64 j] 30)).cell? ⟨w.heap.size,2,none⟩=some (.int .i64 j):=k1.cell 2;have q0:(w.alloc (.cells #[.int .i64 k,.int .i64 i,.int .i64 j] 30)).cell? ⟨p,0,none⟩=some (.int .i64 (n:Int)):=hi1.blk.cell 0;have q1:(w.alloc (.cells #[.int .i64 k,.int .i64 i,.int .i64 j] 30)).cell? ⟨p,1,none⟩=some (.slice (some ⟨g,0,none⟩) nts gc):=hi1.blk.cell 1;clear hi b1 hi1 k1;go_enter Tryz.func20,Tryz.ntmps20;go_wp2_with fail;refine his.mono ?_;clear his;rintro e V ⟨rfl,hw⟩;subst V;go_upto_region 3 with (fail);generalize w.alloc (.cells #[.int .i64 k,.int .i64 i,.int .i64 j] 30)=W1 at H f0 f1 f2 q0 q1 ⊢;have hbd:=hIz (show ∀n,Below W1.heap.size W1 (W1.drewN n) from fun n=>⟨rfl,rfl,rfl,Nat.le_refl _,fun _ _=>rfl⟩);generalize w.heap.size=z at f0 f1 f2 ⊢;by_cases h0:k<0
 ·have FIN:=hIz (show BJ n nts B k i j=.tuple #[.bool false,.int .i64 4] from if_neg (by omega));go_quiet (fail)
  go_wp2;refine bodyPost_ret (v:=.tuple #[.bool false,.int .i64 4]) (by simp[results,Tryz.f20,go_sem]) rfl ⟨by rw[FIN.out],H.out.1.trans ((hbd.out _).mono H.out.1.size)⟩
 ·have _g0:=h0;by_cases h1:(nts:Int)≤k
  ·have FIN:=hIz (show BJ n nts B k i j=.tuple #[.bool false,.int .i64 4] from if_neg (by omega));go_quiet (fail)
   go_wp2;refine bodyPost_ret (v:=.tuple #[.bool false,.int .i64 4]) (by simp[results,Tryz.f20,go_sem]) rfl ⟨by rw[FIN.out],H.out.1.trans ((hbd.out _).mono H.out.1.size)⟩
  ·have _g1:=h1;by_cases h2:i<0
   ·have FIN:=hIz (show BJ n nts B k i j=.tuple #[.bool false,.int .i64 4] from if_neg (by omega));go_quiet (fail)
    go_wp2;refine bodyPost_ret (v:=.tuple #[.bool false,.int .i64 4]) (by simp[results,Tryz.f20,go_sem]) rfl ⟨by rw[FIN.out],H.out.1.trans ((hbd.out _).mono H.out.1.size)⟩
   ·have _g2:=h2;by_cases h3:(n:Int)≤i
    ·have FIN:=hIz (show BJ n nts B k i j=.tuple #[.bool false,.int .i64 4] from if_neg (by omega));go_quiet (fail)
     go_wp2;refine bodyPost_ret (v:=.tuple #[.bool false,.int .i64 4]) (by simp[results,Tryz.f20,go_sem]) rfl ⟨by rw[FIN.out],H.out.1.trans ((hbd.out _).mono H.out.1.size)⟩
    ·have _g3:=h3;by_cases h4:j<0
     ·have FIN:=hIz (show BJ n nts B k i j=.tuple #[.bool false,.int .i64 4] from if_neg (by omega));go_quiet (fail)
      go_wp2;refine bodyPost_ret (v:=.tuple #[.bool false,.int .i64 4]) (by simp[results,Tryz.f20,go_sem]) rfl ⟨by rw[FIN.out],H.out.1.trans ((hbd.out _).mono H.out.1.size)⟩
     ·have _g4:=h4;by_cases h5:(n:Int)≤j
      ·have FIN:=hIz (show BJ n nts B k i j=.tuple #[.bool false,.int .i64 4] from if_neg (by omega));go_quiet (fail)
       go_wp2;refine bodyPost_ret (v:=.tuple #[.bool false,.int .i64 4]) (by simp[results,Tryz.f20,go_sem]) rfl ⟨by rw[FIN.out],H.out.1.trans ((hbd.out _).mono H.out.1.size)⟩
      ·have _g5:=h5;obtain⟨a,rfl⟩:∃a:Nat,k=(a:Int):=⟨k.toNat,by omega⟩;obtain⟨x,rfl⟩:∃x:Nat,i=(x:Int):=⟨i.toNat,by omega⟩;obtain⟨y,rfl⟩:∃y:Nat,j=(y:Int):=⟨j.toNat,by omega⟩;have FIN:=hIz (show BJ n nts B (a:Int) (x:Int) (y:Int)=.tuple #[.bool (dX (B a) x y),.int .i64 0] from by
        unfold BJ;rw[if_pos (by omega),Int.toNat_natCast,Int.toNat_natCast,Int.toNat_natCast])
       go_quiet (fail)
       have haN:a<nts:=by omega
       have haI:(a:Int)<(nts:Int):=by omega
       go_upto_region 5 with (fail);clear q0;have hb1:=hbd.out nq;have hS:(fun X:World=>X.cell? ⟨p,1,none⟩=some (.slice (some ⟨g,0,none⟩) nts gc)∧X.cell? ⟨z,0,none⟩=some (.int .i64 (a:Int))∧X.cell? ⟨z,1,none⟩=some (.int .i64 (x:Int))∧X.cell? ⟨z,2,none⟩=some (.int .i64 (y:Int))∧X.cell? ⟨g,a,none⟩=some (.pointer (some ⟨ad a,0,none⟩))) (W1.drewN nq).drew:=by
        have hi2:=H.out.2.1.upd (Upd.of_below hb1.drew (fun _=>False)) (fun _ _=>id);obtain⟨g',c',e,-,-,-,-,hg⟩:=aN hi2.rows (by omega);injection e with e;injection e with e;injection e with e;subst e;exact⟨q1,f0,f1,f2,(hg a _ (qL (by omega))).1⟩
       have HB2:=hIz hb1.drew;clear hb1 f0 f1 f2 q1;refine bE (fun X:World=>X.cell? ⟨p,1,none⟩=some (.slice (some ⟨g,0,none⟩) nts gc)∧X.cell? ⟨z,0,none⟩=some (.int .i64 (a:Int))∧X.cell? ⟨z,1,none⟩=some (.int .i64 (x:Int))∧X.cell? ⟨z,2,none⟩=some (.int .i64 (y:Int))∧X.cell? ⟨g,a,none⟩=some (.pointer (some ⟨ad a,0,none⟩))) (aL 12) (by kernel_rfl) ?_;generalize (W1.drewN nq).drew=W2 at HB2 hS ⊢;intro hd;(refine aA 0 rfl hd hS ?_;clear hd;intro hd;(try simp only[Act.put,gA,gZ,sA,sZ,sS]))
       refine aA 1 rfl hd hS ?_;clear hd;intro hd;refine aA 2 rfl hd hS ?_;clear hd;intro hd;refine aA 3 rfl hd hS ?_;clear hd;intro hd;refine aA 4 rfl hd hS ?_;clear hd;intro hd;refine aA 5 rfl hd hS ?_;clear hd;intro hd;refine aA 6 rfl hd hS ?_;clear hd;intro hd;refine aA 7 rfl hd hS ?_;clear hd;intro hd;refine aA 8 rfl hd hS ?_;clear hd;intro hd;refine aA 9 rfl hd hS ?_;clear hd;intro hd;refine aA 10 rfl hd hS ?_;clear hd;intro hd;refine aA 11 rfl hd hS ?_;clear hd;intro hd;have hcon:Hid (Calls Tryz.prog 45 #[.pointer (some ⟨ad a,0,none⟩),.int .i64 (x:Int),.int .i64 (y:Int)] W2 (Sam W2 (.tuple #[.bool (dX (B a) x y),.int .i64 0]))):=hIz (by
        obtain⟨Fa,a1,-⟩:=(H.out.2.1.upd (upF HB2.out) (fun _ _=>id)).mats a (by omega);exact yC W2 Fa (ad a) side (B a) a1 x y (by omega) (by omega) (by omega) (by omega))
       clear hS;refine aO hd 12 ?_;clear hd;intro hd;refine aS (S:=(fun X:World=>X.cell? ⟨p,1,none⟩=some (.slice (some ⟨g,0,none⟩) nts gc)∧X.cell? ⟨z,0,none⟩=some (.int .i64 (a:Int))∧X.cell? ⟨z,1,none⟩=some (.int .i64 (x:Int))∧X.cell? ⟨z,2,none⟩=some (.int .i64 (y:Int))∧X.cell? ⟨g,a,none⟩=some (.pointer (some ⟨ad a,0,none⟩)))) (late:=aL 12) rfl rfl (fun K hK=>?_);go_simp;refine hcon.out.mono ?_;clear hcon;rintro e W3 ⟨rfl,hb3⟩;have HB3:=hIz (H.out.1.trans ((tHn HB2.out hb3).mono H.out.1.size));clear hb3;refine hK _ _ (fun h _=>absurd h (by decide)) ?_;clear hK K;(try simp only[Act.put,gA,gS,gZ,sA,sZ,sS])
       (refine aP (i:=13) (v:=?_) rfl (by kernel_rfl) hd (fun _ _ d _ _ h=>by cases d <;> exact h) (by first | with_reducible rfl | kernel_rfl) ?_ ?_;rotate_left;(focus (intro wS;go_simp;(try with_reducible rfl);done));clear hd;intro hd;(try simp only[Act.put,gA,gS,gZ,sA,sZ,sS]))
       (refine aP (i:=14) (v:=?_) rfl (by kernel_rfl) hd (fun _ _ d _ _ h=>by cases d <;> exact h) (by first | with_reducible rfl | kernel_rfl) ?_ ?_;rotate_left;(focus (intro wS;go_simp;(try with_reducible rfl);done));clear hd;intro hd;(try simp only[Act.put,gA,gS,gZ,sA,sZ,sS]))
       (refine aP (i:=15) (v:=?_) rfl (by kernel_rfl) hd (fun _ _ d _ _ h=>by cases d <;> exact h) (by first | with_reducible rfl | kernel_rfl) ?_ ?_;rotate_left;(focus (intro wS;go_simp;(try with_reducible rfl);done));clear hd;intro hd;(try simp only[Act.put,gA,gS,gZ,sA,sZ,sS]))
       (refine aP (i:=16) (v:=?_) rfl (by kernel_rfl) hd (fun _ _ d _ _ h=>by cases d <;> exact h) (by first | with_reducible rfl | kernel_rfl) ?_ ?_;rotate_left;(focus (intro wS;go_simp;(try with_reducible rfl);done));clear hd;intro hd;(try simp only[Act.put,gA,gS,gZ,sA,sZ,sS]))
       refine cL (by kernel_rfl) ?_;go_wp2;refine bodyPost_ret (v:=.tuple #[.bool (dX (B a) x y),.int .i64 0]) (by simp[results,Tryz.f20,go_sem]) rfl ⟨by rw[FIN.out],HB3.out⟩
open Go.RowKit Go.Sort Go.Shelf
theorem LN(w:World)(base:Nat)(A:Option Addr)(c:Nat)(L:List Ln)(h:w.ownsRow base 97 4 (.slice A L.length c) L.length (bP L))(hnd:L.Nodup)(hl:L.length≤140737488355328) :
  Calls Tryz.prog 58 #[.slice A L.length c,.func (.func 59) #[] #[]] w (fun e w'=>e=.returned (.tuple #[])∧∃M,M.Perm L∧M.Pairwise ltN∧w'.ownsRow base 97 4 (.slice A L.length c) L.length (bP M)∧Upd (fun q=>(Value.slice A L.length c).ownBlock=some q) w w'):=by
 by_cases h0:L.length=0
 ·have hL:=List.eq_nil_of_length_eq_zero h0;subst hL;have hs0:=AnyF.slices_SortFunc_none RW A c (.func (.func 59) #[] #[]) w;change Calls Tryz.prog 58 _ _ _ at hs0
  refine hs0.mono ?_;rintro e w' ⟨rfl,rfl⟩;exact⟨rfl,[],List.Perm.refl _,List.Pairwise.nil,h,Upd.refl _ _⟩
 ·obtain⟨g,c',e,-,-,-,-,-⟩:=aN h (by omega);injection e with e1 e2 e3;subst e1;subst e3;refine(LF w base g c L h hl).mono ?_;rintro e w' ⟨rfl,d,hi,own,hu⟩;refine⟨rfl,d.toList,hi.p,?_,own,hu.mono (fun i _ e=>by subst e;rfl)⟩;rw[List.pairwise_iff_getElem];intro i j hi' hj' hij;have h1:=hi.s i j hij (by simpa using hj');have e1:d.toList[i]=d[i]!:=by rw[getElem!_pos d i (by simpa using hi')];simp
  have e2:d.toList[j]=d[j]!:=by rw[getElem!_pos d j (by simpa using hj')];simp
  rw[e1,e2];have hne:d[i]! ≠ d[j]!:=by
   rw[← e1,← e2];exact fun e=>by have:=(List.getElem_inj (hi.p.nodup_iff.2 hnd)).1 e;omega
  cases h2:mU d[i]! d[j]! with
  | true=>exact yO.1 h2
  | false=>exact(hne (PE.tri _ _ h2 h1)).elim

theorem pC{α β:Type}(f:α→List β)(p:α→Bool):∀{l:List α},(∀v∈l,p v=false→f v=[])→l.flatMap f=(l.filter p).flatMap f
 | [],_=>rfl
 | v::l,h=>by
  have ih:=pC f p (l:=l) (fun u hu=>h u (List.mem_cons_of_mem _ hu));rw[List.flatMap_cons,ih];cases e:p v with
  | true=>rw[List.filter_cons_of_pos e,List.flatMap_cons]
  | false=>rw[List.filter_cons_of_neg (by simp[e]),h v List.mem_cons_self e,List.nil_append]
theorem yV{α β:Type}{f:α→List β}{l:List α}(h:∀x∈l,f x=[]):l.flatMap f=[]:=by
 rw[List.flatMap_eq_nil_iff];exact h
def kI(i:Nat)(K:List Ln)(n:Nat)(p:Pr)(x:Ln):List Ln:=if i=0 then PC K n p x else PD K n p x
theorem AS{i:Nat}{K:List Ln}{n:Nat}{p:Pr}{x:Ln}(h:p.body.length<2):kI i K n p x=[]:=by
 obtain⟨a,bd⟩:=p;unfold kI PC PD;match bd,h with
 | [],_=>split <;> exact yV (fun _ _=>rfl)
 | [s],_=>split <;> exact yV (fun _ _=>rfl)
 | _::_::_,h=>simp at h;omega
theorem yW(i:Nat)(K:List Ln)(n:Nat)(PV:List Pv)(x:Ln):(PV.map (·.pr)).flatMap (fun p=>kI i K n p x)=(eQ PV PV.length).flatMap (fun v=>kI i K n v.pr x):=by
 unfold eQ;rw[List.take_length,List.flatMap_map];refine pC _ _ (fun v _ hv=>AS ?_);simpa using hv
theorem FV(K:List Ln)(n:Nat)(PV:List Pv)(x:Ln):MW K n (PV.map (·.pr)) x=(List.range 2).flatMap (fun i=>(eQ PV PV.length).flatMap (fun v=>kI i K n v.pr x)):=by
 rw[show List.range 2=[0,1] from rfl,List.flatMap_cons,List.flatMap_cons,List.flatMap_nil,List.append_nil,← yW,← yW];rfl
theorem PX(K:List Ln)(n:Nat)(p:Pr)(x:Ln):(PC K n p x).length≤n:=by
 obtain⟨a,bd⟩:=p;unfold PC;refine Nat.le_trans (fP _ (fun v=>?_) _) (by simp);unfold mS;split
 ·split
  ·split
   ·exact iO _ _ _
   ·exact Nat.zero_le _
  ·exact Nat.zero_le _
 ·exact Nat.zero_le _
theorem PY(K:List Ln)(n:Nat)(p:Pr)(x:Ln):(PD K n p x).length≤n:=by
 obtain⟨a,bd⟩:=p;unfold PD;refine Nat.le_trans (fP _ (fun v=>?_) _) (by simp);unfold mT;split
 ·split
  ·split
   ·exact iO _ _ _
   ·exact Nat.zero_le _
  ·exact Nat.zero_le _
 ·exact Nat.zero_le _
theorem sL(i:Nat)(K:List Ln)(n:Nat)(p:Pr)(x:Ln):(kI i K n p x).length≤n:=by
 unfold kI;split
 ·exact PX _ _ _ _
 ·exact PY _ _ _ _
theorem dA{α β:Type}(f:α→List β)(n:Nat)(h:∀x,(f x).length≤n):∀l:List α,(l.flatMap f).length≤l.length*n
 | []=>by simp
 | x::l=>by
  rw[List.flatMap_cons,List.length_append,List.length_cons,Nat.add_mul];have:=h x;have:=dA f n h l;omega
theorem pE{nts n:Nat}{K:List Ln}(hd:(K.map (·.1)).Nodup)(hm:∀x∈K,x.1.1<nts∧x.1.2.1<n∧x.1.2.2<n):K.length≤nts*n*n:=by
 have h:=fX hd (M:=(List.range nts).flatMap (fun a=>(List.range n).flatMap (fun i=>(List.range n).map (fun j=>(a,i,j))))) (fun f hf=>by
  obtain⟨x,hx,rfl⟩:=List.mem_map.1 hf;obtain⟨h1,h2,h3⟩:=hm x hx;exact List.mem_flatMap.2 ⟨x.1.1,List.mem_range.2 h1,List.mem_flatMap.2 ⟨x.1.2.1,List.mem_range.2 h2,List.mem_map.2 ⟨x.1.2.2,List.mem_range.2 h3,rfl⟩⟩⟩)
 rw[List.length_map] at h;have h1:∀a i:Nat,((List.range n).map (fun j=>(a,i,j))).length≤n:=fun a i=>by simp
 have h2:∀a:Nat,((List.range n).flatMap (fun i=>(List.range n).map (fun j=>(a,i,j)))).length≤n*n:=fun a=>by
  have:=dA (fun i=>(List.range n).map (fun j=>(a,i,j))) n (h1 a) (List.range n);rwa [List.length_range] at this
 have h3:=dA _ (n*n) h2 (List.range nts);rw[List.length_range,← Nat.mul_assoc] at h3;omega
theorem FW{K K':List Ln}(h:(K.map (·.1)).Nodup)(hm:∀x,x∈K↔x∈K')(f:Fc):look K f=look K' f:=by
 cases e:look K' f with
 | some m=>exact(jZ h).2 ((hm _).2 (dO e))
 | none =>
  rw[gW] at e ⊢;exact fun x hx=>e x ((hm x).1 hx)
def FLS(w:World)(F:Nat→Prop)(z n nts:Nat)(B:eG)(K:List Ln):Prop:=∃r pc Fc rv K0,Blk w z 95 #[.int .i64 (nts:Int),.int .i64 (n:Int),.pointer (some ⟨pc,0,none⟩),.map (some r),rv]∧bW w Tryz.prog 30 r (kvL K0) ∧
 (K0.map (·.1)).Nodup∧(∀x,x∈K0↔x∈K)∧w.ownsRow 0 97 4 rv K.length (bP K)∧ClS w Fc pc (max 1 n) n nts B∧F=fun k=>k=z∨k=r∨rv.ownBlock=some k∨Fc k
theorem FLS.upd{w w':World}{F G:Nat→Prop}{z n nts:Nat}{B:eG}{K:List Ln}(h:FLS w F z n nts B K)(hu:Upd G w w')(hd:∀k,F k→¬G k):FLS w' F z n nts B K:=by
 obtain⟨r,pc,Fc,rv,K0,h1,h2,h3,h4,h5,h6,rfl⟩:=h;exact⟨r,pc,Fc,rv,K0,h1.upd hu (hd _ (.inl rfl)),h2.upd hu (hd _ (.inr (.inl rfl))),h3,h4,aB h5 hu (fun k hk=>hd _ (.inr (.inr (.inl hk)))),h6.upd hu (fun k hk=>hd _ (.inr (.inr (.inr hk)))),rfl⟩
theorem FLS.below{w w':World}{F:Nat→Prop}{z n nts:Nat}{B:eG}{K:List Ln}(h:FLS w F z n nts B K)(hb:Below w.heap.size w w'):FLS w' F z n nts B K:=h.upd (upF hb) (fun _ _=>id)
def PZ(w:World)(nts:Int)(PV:List Pv)(labels:List Txt)(G:Gr)(e:Ending)(w':World):Prop:=
 (eW nts PV labels=2∧e=.returned (.tuple #[.pointer none,.int .i64 2])∧Below w.heap.size w w') ∨
 (eW nts PV labels=0∧∃(z:Nat) (F:Nat→Prop) (B:eG) (K:List Ln),e=.returned (.tuple #[.pointer (some ⟨z,0,none⟩),.int .i64 0])∧FLS w' F z G.N.length nts.toNat B K∧(∀k,F k→w.heap.size≤k)∧Below w.heap.size w w' ∧
  (∀k,k<nts.toNat→∀i j,dX (B k) i j=true↔qK (PV.map (·.pr)) (ElG G labels) G.N.length (k:Int) i j)∧(∀k,WdO (B k))∧TB (PV.map (·.pr)) (ElG G labels) G.N.length nts.toNat K∧K.Pairwise ltN)
open Go.RowKit Go.Shelf
structure NwB(W:World)(p z r:Nat):Prop where
 lp:p<W.heap.size
 lz:z<W.heap.size
 lr:r<W.heap.size
 pz:¬p=z
 pr:¬p=r
 zr:¬z=r
structure NwS(W V:World)(p z r pc n:Nat)(nts:Int)(T:List Pv)(K L:List Ln)(lv rv tv:Value):Prop where
 q:QuN V p (.pointer (some ⟨z,0,none⟩)) tv lv L
 zb:Blk V z 95 #[.int .i64 nts,.int .i64 (n:Int),.pointer (some ⟨pc,0,none⟩),.map (some r),rv]
 mp:bW V Tryz.prog 30 r (kvL K)
 rr:V.ownsRow 0 97 4 rv K.length (bP K)
 tt:V.ownsRow 0 71 2 tv T.length (cY T)
 lw:∀q,lv.ownBlock=some q→W.heap.size≤q
 rw0:∀q,rv.ownBlock=some q→W.heap.size≤q∧lv.ownBlock≠some q
 tw:∀q,tv.ownBlock=some q→W.heap.size≤q∧lv.ownBlock≠some q∧rv.ownBlock≠some q
 up:Upd (fun q=>q=p∨q=z∨q=r) W V
theorem NwS.np{W V:World}{p z r pc n:Nat}{nts:Int}{T:List Pv}{K L:List Ln}{lv rv tv:Value}(h:NwS W V p z r pc n nts T K L lv rv tv)(hb:NwB W p z r):∀k,lv.ownBlock=some k→¬k=p:=fun k hk e=>by
 have:=h.lw k hk;have:=hb.lp;omega
theorem NwS.fn{W V:World}{p z r pc n:Nat}{nts:Int}{T:List Pv}{K L:List Ln}{lv rv tv:Value}(h:NwS W V p z r pc n nts T K L lv rv tv)(hb:NwB W p z r)(hn:n≤1000)(hs:∀y∈K,y.2≤64):FnK V p z r n K lv:=
 ⟨h.zb.cell 1,h.zb.cell 3,h.mp,h.zb.lt,fun e=>hb.pz e.symm,fun e=>hb.pr e.symm,fun e=>by have:=h.lw _ e;have:=hb.lz;omega,fun e=>by have:=h.lw _ e;have:=hb.lr;omega,hn,hs⟩
theorem NwS.below{W V V':World}{p z r pc n:Nat}{nts:Int}{T:List Pv}{K L:List Ln}{lv rv tv:Value}(h:NwS W V p z r pc n nts T K L lv rv tv)(hb:Below V.heap.size V V'):NwS W V' p z r pc n nts T K L lv rv tv:=by
 have u:=Upd.of_below hb (fun _=>False);exact⟨h.q.below hb,h.zb.upd u id,h.mp.upd u id,aB h.rr u (fun _ _=>id),aB h.tt u (fun _ _=>id),h.lw,h.rw0,h.tw,h.up.trans u (fun _ h=>h.elim)⟩
theorem NwS.queue{W V V':World}{p z r pc n:Nat}{nts:Int}{T:List Pv}{K L:List Ln}{lv rv tv:Value}{C:List Ln→Prop}(h:NwS W V p z r pc n nts T K L lv rv tv)(hb:NwB W p z r)(ht:QuT V p (.pointer (some ⟨z,0,none⟩)) tv lv C V'):∃lv' L',NwS W V' p z r pc n nts T K L' lv' rv tv∧C L':=by
 obtain⟨lv',L',h1,h2,h3,h4,h5⟩:=ht;have hs:=h.up.size;have hz:¬(z=p∨lv.ownBlock=some z):=fun e=>e.elim (fun e=>hb.pz e.symm) (fun e=>by have:=h.lw _ e;have:=hb.lz;omega)
 have hr:¬(r=p∨lv.ownBlock=some r):=fun e=>e.elim (fun e=>hb.pr e.symm) (fun e=>by have:=h.lw _ e;have:=hb.lr;omega)
 have hrl:=h.rr.lt;have htl:=h.tt.lt;refine⟨lv',L',⟨h1,h.zb.upd h3 hz,h.mp.upd h3 hr,aB h.rr h3 (fun q hq e=>e.elim (fun e=>by have:=(h.rw0 q hq).1;have:=hb.lp;omega) (h.rw0 q hq).2),aB h.tt h3 (fun q hq e=>e.elim (fun e=>by have:=(h.tw q hq).1;have:=hb.lp;omega) (h.tw q hq).2.1),fun q hq=>?_,fun q hq=>⟨(h.rw0 q hq).1,fun e=>?_⟩,fun q hq=>⟨(h.tw q hq).1,fun e=>?_,(h.tw q hq).2.2⟩,h.up.trans h3 (fun q hq=>hq.elim (fun e=>.inl (.inl e)) (fun e=>.inr (h.lw q e)))⟩,h2⟩
 ·rcases h4 q hq with e|e
  ·exact h.lw q e
  ·omega
 ·rcases h4 q e with e|e
  ·exact(h.rw0 q hq).2 e
  ·have:=(hrl q hq).2;omega
 ·rcases h4 q e with e|e
  ·exact(h.tw q hq).2.1 e
  ·have:=(htl q hq).2;omega
theorem NwS.known{W V:World}{p z r pc n:Nat}{nts:Int}{T:List Pv}{K L:List Ln}{lv rv tv:Value}(h:NwS W V p z r pc n nts T K L lv rv tv)(hb:NwB W p z r){x:Ln}(hx:look K x.1=none)(hf:FcB x.1) :
  ∃V',(Instr.mapUpdate 92 (.map (some r)) (fcV x.1) (.int .i64 (x.2:Int))).run Tryz.prog V=.ok () V'∧Upd (fun k=>k=r) V V'∧QuN V' p (.pointer (some ⟨z,0,none⟩)) tv lv L ∧
   Blk V' z 95 #[.int .i64 nts,.int .i64 (n:Int),.pointer (some ⟨pc,0,none⟩),.map (some r),rv]∧bW V' Tryz.prog 30 r (kvL (K++[x]))∧V'.ownsRow 0 97 4 rv K.length (bP K)∧V'.ownsRow 0 71 2 tv T.length (cY T):=by
 obtain⟨V',h1,h2,h3,-⟩:=h.mp.put_miss TS Tryz.underlying92 (.int .i64 (x.2:Int)) (FR hf) (yU hx);have u:Upd (fun k=>k=r) V V':=(Upd.of_grown h3).mono (fun k _ e=>by injection e with e;exact e.symm);have hr:=hb.lr;refine⟨V',h1,u,h.q.upd u hb.pr (fun k hk e=>by have:=h.lw k hk;omega),h.zb.upd u hb.zr,?_,aB h.rr u (fun k hk e=>by have:=(h.rw0 k hk).1;omega),aB h.tt u (fun k hk e=>by have:=(h.tw k hk).1;omega)⟩;have:kvL (K++[x])=kvL K++[(fcV x.1,.int .i64 (x.2:Int))]:=by simp[kvL]
 rw[this];exact h2
theorem NwS.row{W V V1:World}{p z r pc n:Nat}{nts:Int}{T:List Pv}{K L:List Ln}{lv rv tv:Value}(h:NwS W V p z r pc n nts T K L lv rv tv)(hb:NwB W p z r){x:Ln}(u:Upd (fun k=>k=r) V V1)(q:QuN V1 p (.pointer (some ⟨z,0,none⟩)) tv lv L)
  (zb:Blk V1 z 95 #[.int .i64 nts,.int .i64 (n:Int),.pointer (some ⟨pc,0,none⟩),.map (some r),rv]) (mp:bW V1 Tryz.prog 30 r (kvL (K++[x]))) (ro:V1.ownsRow 0 97 4 rv K.length (bP K)) (tt:V1.ownsRow 0 71 2 tv T.length (cY T)) (hl:K.length≤1000000000) :
  ∃A2 c2 W2,(Builtin.append_ #[93,93] 93 #[rv,.slice (some ⟨V1.heap.size,0,none⟩) 1 1]).run Tryz.prog (V1.alloc (.cells (lnC x).toArray 97))=.ok (.slice A2 (K.length+1) c2) W2∧Upd (fun k=>rv.ownBlock=some k) V1 W2 ∧
   Blk W2 z 95 #[.int .i64 nts,.int .i64 (n:Int),.pointer (some ⟨pc,0,none⟩),.map (some r),rv]∧NwS W (W2.setCell ⟨z,4,none⟩ (.slice A2 (K.length+1) c2)) p z r pc n nts T (K++[x]) L lv (.slice A2 (K.length+1) c2) tv:=by
 obtain⟨v2,W2,happ,own2,u2,p2⟩:=cI V1 0 93 97 4 32 _ Tryz.underlying93 FI rfl (by decide) rv K.length (bP K) ro (lnC x) 1 rfl (yS x) (by omega) (by unfold maxLen;omega) (Nat.zero_le _);obtain⟨A2,c2,rfl,-,-⟩:=aK own2;have hzW:=hb.lz;have hpW:=hb.lp;have hrW:=hb.lr;have hs:=h.up.size;have hs1:=u.size;have hll:=h.q.2.lt;have htl:=h.tt.lt;have hz2:Blk W2 z 95 #[.int .i64 nts,.int .i64 (n:Int),.pointer (some ⟨pc,0,none⟩),.map (some r),rv]:=zb.upd u2 (fun e=>by have:=(h.rw0 _ e).1;omega);have us:=(Upd.refl (fun q=>q=z) W2).setCell (p:=⟨z,4,none⟩) (.inl rfl) (.slice A2 (K.length+1) c2);have hnew:∀q,(Value.slice A2 (K.length+1) c2).ownBlock=some q→W.heap.size≤q∧lv.ownBlock≠some q∧tv.ownBlock≠some q:=fun q hq=>by
  rcases p2 q hq with e|e
  ·exact⟨(h.rw0 q e).1,(h.rw0 q e).2,fun e2=>(h.tw q e2).2.2 e⟩
  ·exact⟨by omega,fun e2=>by have:=(hll q e2).2;omega,fun e2=>by have:=(htl q e2).2;omega⟩
 refine⟨A2,c2,W2,happ,u2,hz2,?_⟩;refine⟨(q.upd u2 (fun e=>by have:=(h.rw0 _ e).1;omega) (fun k hk e=>(h.rw0 k e).2 hk)).upd us hb.pz (fun k hk e=>by have:=h.lw k hk;omega),hz2.set 4 _,(mp.upd u2 (fun e=>by have:=(h.rw0 _ e).1;omega)).upd us (fun e=>hb.zr e.symm),?_,aB (aB tt u2 (fun k hk e=>(h.tw k hk).2.2 e)) us (fun k hk e=>by have:=(h.tw k hk).1;omega),h.lw,fun q hq=>⟨(hnew q hq).1,(hnew q hq).2.1⟩,fun q hq=>⟨(h.tw q hq).1,(h.tw q hq).2.1,fun e=>(hnew q e).2.2 hq⟩,?_⟩
 ·have:=aB own2 us (fun k hk e=>by have:=(hnew k hk).1;omega);rw[show bP K++lnC x=bP (K++[x]) by simp[bP]] at this;rw[List.length_append];exact this
 ·exact((h.up.trans u (fun k hk=>.inl (.inr (.inr hk)))).trans u2 (fun k hk=>.inr (h.rw0 k hk).1)).trans us (fun k hk=>.inl (.inr (.inl hk)))
def iE(F C:Nat)(K L:List Ln):Nat:=(F-K.length)*C+L.length
theorem yX{F C:Nat}{K L R:List Ln}{x:Ln}(h:L.Perm (x::R)):iE F C K R+1≤iE F C K L:=by
 unfold iE;rw[h.length_eq,List.length_cons];omega
theorem LO{F C:Nat}{K L L' R A:List Ln}{x:Ln}(h:L.Perm (x::R))(h':L'.Perm (A++R))(hF:K.length+1≤F)(hA:A.length+1≤C):iE F C (K++[x]) L'+1≤iE F C K L:=by
 unfold iE;rw[h.length_eq,List.length_cons,h'.length_eq,List.length_append,List.length_append,List.length_singleton];have:(F-K.length)*C=(F-(K.length+1))*C+C:=by
  rw[show F-K.length=F-(K.length+1)+1 by omega,Nat.add_mul,Nat.one_mul]
 omega
def stF(i:Nat):FuncId:=if i=0 then 56 else 57
theorem AT(i:Nat):∀args w,(callFunc (stF i) args).run Tryz.prog w=.ok (.enter (stF i) args) w:=by
 unfold stF;split
 ·exact enters_of Tryz.func56 (by kernel_rfl) rfl
 ·exact enters_of Tryz.func57 (by kernel_rfl) rfl
theorem FX(i:Nat)(w:World)(p z r n:Nat)(tv lv:Value)(L K:List Ln)(h:QuN w p (.pointer (some ⟨z,0,none⟩)) tv lv L)(hne:∀k,lv.ownBlock=some k→¬k=p)(hl:L.length+n≤1000000000000)(hh:HpM L L.length)(hk:FnK w p z r n K lv)
  (a b c:Nat) (la lb:Bool) (gb go cap:Nat) (hr:aX w (some ⟨gb,go,none⟩) (dU [⟨la,(b:Int)⟩,⟨lb,(c:Int)⟩])) (hg:¬gb=p∧lv.ownBlock≠some gb) (x0 x1 x2 xn:Nat)
  (hb:a≤1000000∧b≤1000000∧c≤1000000∧x0≤1000000∧x1≤1000000∧x2≤1000000∧xn≤64) :
  Calls Tryz.prog (stF i) #[.pointer (some ⟨p,0,none⟩),.agg #[.int .i64 (a:Int),.slice (some ⟨gb,go,none⟩) 2 cap],.agg #[.int .i64 (x0:Int),.int .i64 (x1:Int),.int .i64 (x2:Int),.int .i64 (xn:Int)]] w
   (fun e w'=>e=.returned (.tuple #[])∧QuT w p (.pointer (some ⟨z,0,none⟩)) tv lv (kH (kI i K n ⟨(a:Int),[⟨la,(b:Int)⟩,⟨lb,(c:Int)⟩]⟩ ((x0,x1,x2),xn)) L) w'):=by
 unfold stF kI;by_cases e:i=0
 ·rw[if_pos e,if_pos e];exact wW w p z r n tv lv L K h hne hl hh hk a b c la lb gb go cap hr hg x0 x1 x2 xn hb
 ·rw[if_neg e,if_neg e];exact AQ w p z r n tv lv L K h hne hl hh hk a b c la lb gb go cap hr hg x0 x1 x2 xn hb
theorem SN{nts l:Nat}{v:Pv}(h:KY nts l v)(h2:2≤v.pr.body.length)(hn:nts≤512):∃a b c la lb,a≤1000000∧b≤1000000∧c≤1000000∧v.pr=⟨((a:Nat):Int),[⟨la,((b:Nat):Int)⟩,⟨lb,((c:Nat):Int)⟩]⟩:=by
 obtain⟨⟨hd,bd⟩,A,cc⟩:=v;have hf:=h.few;have hg:=h.g;dsimp only at h2 hf
 match bd,h2,hf,hg with
 | [s,t],_,_,hg =>
  obtain⟨g0,g1,g2⟩:=hg;obtain⟨⟨s0,s1⟩,t0,t1⟩:=g2 s t rfl;dsimp only at g0 g1
  obtain⟨sl,sx⟩:=s;obtain⟨tl,tx⟩:=t;dsimp only at s0 s1 t0 t1
  refine⟨hd.toNat,sx.toNat,tx.toNat,sl,tl,by omega,by omega,by omega,?_⟩;rw[Int.toNat_of_nonneg g0,Int.toNat_of_nonneg s0,Int.toNat_of_nonneg t0]
 | [],h,_,_=>simp at h
 | [_],h,_,_=>simp at h
 | _::_::_::_,_,h,_=>simp at h
end Go.Proofs.YteffnejneoocgaaGreatDoor
