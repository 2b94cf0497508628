/- AzimovFacts: azimov.Pairs of a closure; AzimovFacts: gone: the facts gone over, left early, and once more; AzimovFacts: the walk of the law. -/
import Derived.Test.YtddffnonlmfhdaaGreatDoorV16
set_option linter.unusedVariables false
set_option linter.unusedSimpArgs false
set_option maxHeartbeats 16000000
set_option maxRecDepth 100000
namespace Go.Proofs.YtddffnonlmfhdaaGreatDoor
open Go.RowKit Go.Shelf
attribute [local go_sem] Oper.semAt_some
theorem JQ(W:World)(B0 lb:Nat)(v:Value)(L:List (Nat × Nat))(m:Nat × Nat)(hb:Blk W lb 58 #[v])(own:W.ownsRow B0 83 2 v L.length (dF L))(hne:v.ownBlock≠some lb)(hl:(L.length+1)*16≤140737488355328)(hB:B0≤W.heap.size) :
  ∃v' W1,(Builtin.append_ #[58,58] 58 #[v,.slice (some ⟨W.heap.size,0,none⟩) 1 1]).run Tryz.prog (W.alloc (.cells (ceC m).toArray 83))=.ok v' W1 ∧
   Blk W1 lb 58 #[v]∧Blk (W1.setCell ⟨lb,0,none⟩ v') lb 58 #[v']∧(W1.setCell ⟨lb,0,none⟩ v').ownsRow B0 83 2 v' (L++[m]).length (dF (L++[m]))∧v'.ownBlock≠some lb ∧
   Upd (fun q=>q=lb∨v.ownBlock=some q) W (W1.setCell ⟨lb,0,none⟩ v')∧∀k,v'.ownBlock=some k→v.ownBlock=some k∨W.heap.size≤k:=by
 obtain⟨v',w',happ,own',up,pl⟩:=dJ W B0 58 83 2 16 _ Tryz.underlying58 rL rfl (by decide) v L.length _ own (ceC m) 1 rfl (PG m) hl (by unfold maxLen;omega) hB;have hne':v'.ownBlock≠some lb:=by
  intro e;rcases pl lb e with h|h
  ·exact hne h
  ·have:=hb.lt;omega
 have kb:=hb.upd up (fun e=>hne e);have us:Upd (fun q=>q=lb) w' (w'.setCell ⟨lb,0,none⟩ v'):=(Upd.refl (fun q=>q=lb) w').setCell (p:=⟨lb,0,none⟩) (.inl rfl) _;refine⟨v',w',happ,kb,kb.set 0 v',?_,hne',(up.mono (fun i _ h=>.inr h)).trans us (fun i h=>.inl (.inl h)),pl⟩;have h1:=aA own' us (fun k hk e=>hne' (by rw[hk,e]));rw[List.length_append,dF,List.flatMap_append];simpa[dF] using h1
structure LsK(w0 W:World)(lb:Nat)(L:List (Nat × Nat))(v:Value):Prop where
 b:Blk W lb 58 #[v]
 own:W.ownsRow w0.heap.size 83 2 v L.length (dF L)
 ne:v.ownBlock≠some lb
 u:Upd (fun q=>q=lb) w0 W
theorem LsK.rg{w0 W:World}{lb:Nat}{L:List (Nat × Nat)}{v:Value}(h:LsK w0 W lb L v):RgM lb W:=fun u q hu hq=>by
 have:=h.b.cell 0;simp only[List.getElem?_toArray,List.getElem?_cons_zero] at this
 rw[this] at hu;injection hu with e;subst e;exact(h.own.lt q hq).2
theorem LsK.grown{w0 W W':World}{lb:Nat}{F:Nat→Prop}{L:List (Nat × Nat)}{v:Value}{row:Option Nat}(h:LsK w0 W lb L v)(hF:F lb)(hg:W.grownBy W' row)(hr:∀k,row=some k→w0.heap.size≤k∧Prv lb F W k):LsK w0 W' lb L v:=
 ⟨h.b.grown hg (fun e=>(hr lb e.symm).2.2 (.inl hF)),tT h.own hg (fun q hq e=>(hr q e).2.2 (.inr ⟨v,h.b.cell 0,hq⟩)),h.ne,h.u.grown hg (fun k hk=>.inr (hr k hk).1)⟩
theorem LsK.step{w0 W:World}{lb:Nat}{L:List (Nat × Nat)}{v:Value}(h:LsK w0 W lb L v)(m:Nat × Nat)(hl:(L.length+1)*16≤140737488355328) :
  ∃v' W1,(Builtin.append_ #[58,58] 58 #[v,.slice (some ⟨W.heap.size,0,none⟩) 1 1]).run Tryz.prog (W.alloc (.cells #[.int .i64 (m.1:Int),.int .i64 (m.2:Int)] 83))=.ok v' W1 ∧
   Blk W1 lb 58 #[v]∧LsK w0 (W1.setCell ⟨lb,0,none⟩ v') lb (L++[m]) v'∧KpM lb (fun q=>q=lb) W (W1.setCell ⟨lb,0,none⟩ v'):=by
 obtain⟨v',W1,h1,h2,h4,h5,h6,h7,h8⟩:=JQ W w0.heap.size lb v L m h.b h.own h.ne hl h.u.size;refine⟨v',W1,h1,h2,⟨h4,h5,h6,h.u.trans h7 ?_⟩,VA (h.b.cell 0) (h4.cell 0) h7 (fun q hq=>(h5.lt q hq).2) h8⟩;intro i hi;rcases hi with hi|hi
 ·exact .inl hi
 ·exact .inr (h.own.lt i hi).1
def SL(w:World)(K:List (Nat × Nat))(e:Ending)(w':World):Prop:=∃A c,e=.returned (.tuple #[.slice A K.length c,.int .i64 0])∧w'.ownsRow w.heap.size 83 2 (.slice A K.length c) K.length (dF K)∧Below w.heap.size w w'
theorem JR{b:Option (List Nat)}(hw:Wd (dD b)){x:Nat × Nat}(hx:x∈qcL b):x.1<64∧x.2<64:=by
 have h:=(lW (B:=fun _=>b) (nts:=1) (fun _ _=>hw) (k:=0) (i:=x.1) (j:=x.2)).1 (by
  have:(0,x.1,x.2)∈fT (fun _=>b) 1:=by simp[fT,rI];exact hx
  exact this)
 exact⟨h.2.1,h.2.2.1⟩
theorem rP(w:World)(F:Nat→Prop)(p side n nts:Nat)(B:dA)(h:ClS w F p side n nts B)(hT:jC w)(h5:nts≤512)(k:Nat)(hk:k<nts) :
  Calls Tryz.prog 19 #[.pointer (some ⟨p,0,none⟩),.int .i64 (k:Int)] w (SL w (qcL (B k))):=by
 obtain⟨O,pv,ad,hi,rfl⟩:=h;obtain⟨g,gc,rfl,-,-,-,-,hrow⟩:=aL hi.rows (by omega);have his:=pQ w p g nts gc (hi.blk.cell 1);have q1:w.cell? ⟨p,1,none⟩=some (.slice (some ⟨g,0,none⟩) nts gc):=hi.blk.cell 1;have hkI:(k:Int)<(nts:Int):=by omega
 have hk0:¬(k:Int)<0:=by omega
 have hk1:¬(nts:Int)≤(k:Int):=by omega
 have qk:w.cell? ⟨g,k,none⟩=some (.pointer (some ⟨ad k,0,none⟩)):=(hrow k _ (kO hk)).1;have hwd:Wd (dD (B k)):=by
  obtain⟨Fk,hq,-⟩:=hi.mats k hk;exact hq.wd
 have HI:=aI4 hi hT hwd (show(qcL (B k)).length≤4096 from by rw[kU];exact fM hwd);clear hi hrow hT hwd;refine(callsIn_wide (n:=1)).1 ?_;refine callsIn_of_wp_marks Tryz.func19 rfl trivial ?_ rfl;simp only[Tryz.ntmps19,List.size_toArray,List.length_cons,List.length_nil,Nat.reduceAdd,Nat.reduceSub,Array.replicate_succ,Array.replicate_zero,List.push_toArray,List.append_toArray,List.nil_append,List.cons_append]
 refine wpIn_wide.2 ?_;go_wp2_with fail;refine his.mono ?_;clear his;rintro e V ⟨rfl,hw⟩;subst V;have b1:Below w.heap.size w (w.alloc (.cells #[.slice none 0 0] 58)):=bR.alloc (Nat.le_refl _) _;have k3:=Blk.new w 58 #[.slice none 0 0];have hz:(w.alloc (.cells #[.slice none 0 0] 58)).heap.size=w.heap.size+1:=by simp
 have hi1:=HI.out.1.upd (upF b1) (fun _ _=>id);have hT1:=HI.out.2.1.upd (upF b1) HI.out.2.1.lt id;have hcon:Calls Tryz.prog 74 #[.pointer (some ⟨ad k,0,none⟩)] (w.alloc (.cells #[.slice none 0 0] 58)) (fun e w'=>∃g A n c,(w.alloc (.cells #[.slice none 0 0] 58)).heap.size≤g∧e=.returned (.func (.func 120) #[] #[.pointer (some ⟨g,0,none⟩)])∧Blk w' g 192 #[.slice A n c]∧Below (w.alloc (.cells #[.slice none 0 0] 58)).heap.size (w.alloc (.cells #[.slice none 0 0] 58)) w'∧vS w' (w.alloc (.cells #[.slice none 0 0] 58)).heap.size A n c (B k)):=by
  obtain⟨Fk,hq,-⟩:=hi1.mats k hk;exact oZ _ Fk (ad k) side (B k) hq
 have q1':(w.alloc (.cells #[.slice none 0 0] 58)).cell? ⟨p,1,none⟩=some (.slice (some ⟨g,0,none⟩) nts gc):=hi1.blk.cell 1;have qk':(w.alloc (.cells #[.slice none 0 0] 58)).cell? ⟨g,k,none⟩=some (.pointer (some ⟨ad k,0,none⟩)):=bQ b1 qk;have H:=aI4 b1 k3 hT1 hz;clear b1 k3 hi1 hT1 hz;go_upto_region 6 with (fail);clear q1 qk;generalize w.alloc (.cells #[.slice none 0 0] 58)=W1 at H hcon q1' qk' ⊢;go_wp2_with fail;refine hcon.mono ?_;clear hcon q1' qk';rintro e W2 ⟨gq,A4,n4,c4,hgq,rfl,kq,b2,hch⟩;have hb12:Below w.heap.size w W2:=tHn H.out.1 b2;have kl:=H.out.2.1.upd (upF b2) id;have hlb2:w.heap.size<W2.heap.size:=kl.lt;have hQ:∀x∈qcL (B k),x.1<64∧x.2<64:=fun x hx=>JR HI.out.2.2.1 hx
 have hT2:=H.out.2.2.1.upd (upF b2) H.out.2.2.1.lt id;have hst:=nC W2 (B k) HI.out.2.2.1 hT2 gq c4 n4 A4 (fun x=>x.1<64∧x.2<64) (fun _ h=>h) hQ kq W1.heap.size hch;have hOw:∀q',yB gq (B k) (.slice A4 n4 c4) q'→q'<W2.heap.size∧q'≠w.heap.size:=by
  rintro q' (rfl|rfl|⟨hs,ho⟩)
  ·have:=HI.out.2.1.lt;exact⟨by omega,by omega⟩
  ·have:=H.out.2.2.2;exact⟨kq.lt,by omega⟩
  ·have h1:=hch.own hs ho;have:=H.out.2.2.2;exact⟨h1.2,by omega⟩
 have i0:LsK W2 W2 w.heap.size [] (.slice none 0 0):=⟨kl,World.ownsRow_nil _ _ _ _,by simp[Value.ownBlock],Upd.refl _ _⟩;have hOwn:iZ w.heap.size (fun q=>q=w.heap.size) W2.heap.size (fun (pre:List {x:Nat × Nat // x.1<64∧x.2<64}) V=>∃v,LsK W2 V w.heap.size (pre.map (·.1)) v):=by
  rintro s X Y row ⟨v,h⟩ hg hr;exact⟨v,h.grown (F:=fun q=>q=w.heap.size) rfl hg hr⟩
 have HS:=aI6 hst hOw i0 hOwn hb12 hQ;clear hst hOw i0 hOwn hb12 kl kq hch hgq b2 hT2;go_wp2;refine iC (gf:=120) (cap:=#[.pointer (some ⟨gq,0,none⟩)]) rfl (enters_of Tryz.func120 (by kernel_rfl) rfl) HS.out.1 bR (fun q hq=>(HS.out.2.1 q hq).1) (fun _=>rfl)
  w.heap.size (fun q=>q=w.heap.size) hlb2 HS.out.2.2.1.rg (fun q e=>⟨by omega,fun ho=>(HS.out.2.1 q ho).2 e⟩) (fun v q hv ho=>by
   have:=HS.out.2.2.1.b.cell 0;rw[this] at hv;simp only[List.getElem?_toArray,List.getElem?_cons_zero] at hv
   injection hv with hv;subst hv;cases ho)
  _ (fun _ _ _=>False) HS.out.2.2.2.1 (fun c s X Y row h _ _=>h) ⟨_,HS.out.2.2.1⟩
  (fun T y _=>(((T.setIfInBounds 33 (.int .i64 (y.1.1:Int))).setIfInBounds 34 (.int .i64 (y.1.2:Int))).setIfInBounds 7 (.int .i64 (y.1.1:Int))).setIfInBounds 8 (.int .i64 (y.1.2:Int)))
  (fun _ _ _=>True) ?hBx ?assign ?body ?done ?stop
 case hBx=>exact fun y b' s X Y row h hg hr=>trivial
 case assign =>
  rintro l2 pre y V Kc hrV hsV hi hK;dsimp only [SU]
  have HI2:=hIz hi;clear hi;gi_wp2
  exact hK 0 _ (KpM.refl _ _ _) HI2.out trivial
 case stop=>exact fun _ _ _ _ h=>h.elim
 case body =>
  rintro l2 pre ⟨⟨i,j⟩,hy⟩ b V hrV hsV ⟨v,hi⟩-hlt2;obtain⟨v9,V1,happ,kb1,hL,hk9⟩:=hi.step (i,j) (by rw[List.length_map];have:=HI.out.2.2.2;omega);obtain⟨A9,c9,hv9,-,-⟩:=aK hL.own;generalize (pre.map (·.1)++[(i,j)]).length=n9 at hv9;subst hv9;have c5:V.cell? ⟨w.heap.size,0,none⟩=some v:=hi.b.cell 0;have g5:V1.cell? ⟨w.heap.size,0,none⟩=some v:=kb1.cell 0;have f5:=kb1.frozen 0;have hfin:KpM w.heap.size (fun q=>q=w.heap.size) V (V1.setCell ⟨w.heap.size,0,none⟩ (.slice A9 n9 c9))∧∃v,LsK W2 (V1.setCell ⟨w.heap.size,0,none⟩ (.slice A9 n9 c9)) w.heap.size ((pre++[(⟨(i,j),hy⟩:{x:Nat × Nat // x.1<64∧x.2<64})]).map (·.1)) v:=⟨hk9,_,by rw[List.map_append];exact hL⟩;have HF:=hIz hfin;clear hfin hk9 hL kb1 hi hrV;simp only[sA,sZ,sS]
  gi_wp2_with (gi_at_builtin;refine kX rfl _ _ _ rfl rfl rfl happ ?_)
  exact HF.out
 case done =>
  rintro ys V rfl ⟨v,hi⟩ hrV pD hD;rw[nQ] at hi;obtain⟨A9,c9,hv9,-,-⟩:=aK hi.own;have q3:V.cell? ⟨w.heap.size,0,none⟩=some (.slice A9 (qcL (B k)).length c9):=by rw[← hv9];exact hi.b.cell 0
  subst hv9;have HD:=aI3 hi pD hD;clear hi pD hD hrV;go_wp2;refine fD (B:=W2.heap.size) (F:=fun q=>q=w.heap.size) (fun w1=>LsK W2 w1 w.heap.size (qcL (B k)) (.slice A9 (qcL (B k)).length c9)) ?_ hlb2 ?_ [W2.heap.size] V (by simp) (fun D hD'=>?_) HD.out.1.b.lt HD.out.1
  ·rintro s X Y row h2 hg hrr;exact h2.grown (F:=fun q=>q=w.heap.size) rfl hg hrr
  ·intro w1 h2;refine⟨.tuple #[.slice A9 (qcL (B k)).length c9,.int .i64 0],by simp[results,Tryz.f19,go_sem],A9,c9,rfl,aQ h2.own (fun q hq=>Nat.le_trans HS.out.2.2.2.2.1.size (h2.own.lt q hq).1),HS.out.2.2.2.2.1.trans (h2.u.below (fun q _ e=>by omega) (by omega))⟩
  ·simp only[List.mem_singleton] at hD'
   subst hD';exact⟨Nat.le_refl _,HD.out.2.1,HD.out.2.2⟩
open Go.RowKit Go.Shelf
attribute [local go_sem] Oper.semAt_some
structure GoU(V:World)(z:Nat)(MA:Option Addr)(l mc:Nat)(L:List (Nat × Nat × Nat))(early:Int)(gl c nts side:Nat)(A:Option Addr)(ad:Nat→Nat)(B:dA)(Oc:Nat→Prop):Prop where
 k4:Blk V z 74 #[.slice MA l mc]
 k5:Blk V (z+1) 3 #[.int .i64 early]
 al:aU V MA (dW L)
 fw:UZ V gl c nts side A ad B Oc
theorem GoU.upd{V W:World}{z:Nat}{MA:Option Addr}{l mc:Nat}{L:List (Nat × Nat × Nat)}{early:Int}{gl c nts side:Nat}{A:Option Addr}{ad:Nat→Nat}{B:dA}{Oc:Nat→Prop}(h:GoU V z MA l mc L early gl c nts side A ad B Oc)
  (hu:Upd (fun q=>q=z+2) V W) (h1:∀b o s,MA=some ⟨b,o,s⟩→b≠z+2) (h2:∀q,IW gl (.slice A nts c) Oc q→q≠z+2):GoU W z MA l mc L early gl c nts side A ad B Oc:=
 ⟨h.k4.upd hu (by omega),h.k5.upd hu (by omega),h.al.upd hu (fun b o s e=>h1 b o s e),h.fw.upd hu (fun q hq=>h2 q hq)⟩
theorem JS{L:List (Nat × Nat × Nat)}{Q:Nat × Nat × Nat→Prop}{hQ:∀x∈L,Q x}{pre:List {x:Nat × Nat × Nat // Q x}}{x:{x:Nat × Nat × Nat // Q x}}{y:Nat × Nat × Nat}(hy:L[pre.length]?=some y)(hne:x.1≠y):¬∃k,k≤L.length∧pre++[x]=(eR L Q hQ).take k:=by
 rintro⟨k,hk,e⟩;have e2:=congrArg (List.map (·.1)) e;rw[List.map_append,List.map_take,nQ] at e2;have e3:=congrArg (fun l=>l[pre.length]?) e2;rw[List.getElem?_append_right (by rw[List.length_map];exact Nat.le_refl _),List.length_map,Nat.sub_self] at e3;simp only[List.map_cons,List.map_nil,List.getElem?_cons_zero] at e3
 rw[List.getElem?_take] at e3;split at e3
 ·rw[hy] at e3;injection e3 with e3;exact hne e3
 ·cases e3
def GoX(W4:World)(nb lb z2:Nat)(L:List (Nat × Nat × Nat))(Q:Nat × Nat × Nat→Prop)(hQ:∀x∈L,Q x)(c:Code)(pre:List {x:Nat × Nat × Nat // Q x})(V:World):Prop:=
 (c=.ret∧¬∃k,k≤L.length∧pre=(eR L Q hQ).take k)∨(c=.exit 2∧Blk V nb 3 #[.int .i64 ((pre.length:Nat):Int)]∧Blk V z2 4 #[.bool false]∧KpM lb (fun q=>q=nb∨q=z2) W4 V)
def GoI(W4:World)(nb lb z2:Nat){Q:Nat × Nat × Nat→Prop}(pre:List {x:Nat × Nat × Nat // Q x})(V:World):Prop:=
 Blk V nb 3 #[.int .i64 ((pre.length:Nat):Int)]∧Blk V z2 4 #[.bool false]∧KpM lb (fun q=>q=nb∨q=z2) W4 V
theorem zE{W4:World}{nb lb z2:Nat}{Q:Nat × Nat × Nat→Prop}{k:IntKind}{n:Int}(hlb:W4.cell? ⟨lb,0,none⟩=some (.int k n))(h1:nb<W4.heap.size)(h2:z2<W4.heap.size)(h3:lb<W4.heap.size):iZ lb (fun q=>q=nb∨q=z2) W4.heap.size (GoI W4 nb lb z2 (Q:=Q)):=by
 rintro s X Y row ⟨a,b,c⟩ hg hr;exact⟨a.grown hg (fun e=>by have:=(hr _ e.symm).1;omega),b.grown hg (fun e=>by have:=(hr _ e.symm).1;omega),iQ (β:=Unit) (Nat.le_refl _) h3 (RgM.of_none hlb rfl) () X Y row c hg hr⟩
theorem SM{W4:World}{nb lb z2:Nat}{L:List (Nat × Nat × Nat)}{Q:Nat × Nat × Nat→Prop}{hQ:∀x∈L,Q x}{k:IntKind}{n:Int}(hlb:W4.cell? ⟨lb,0,none⟩=some (.int k n))(h1:nb<W4.heap.size)(h2:z2<W4.heap.size)(h3:lb<W4.heap.size)(c:Code):iZ lb (fun q=>q=nb∨q=z2) W4.heap.size (GoX W4 nb lb z2 L Q hQ c):=by
 rintro s X Y row h hg hr;rcases h with h|⟨h,hI⟩
 ·exact .inl h
 ·exact .inr ⟨h,zE (Q:=Q) hlb h1 h2 h3 s X Y row hI hg hr⟩
theorem tZ{W4 V:World}{nb lb z2:Nat}{k:IntKind}{n:Int}(hlb:W4.cell? ⟨lb,0,none⟩=some (.int k n))(kp:KpM lb (fun q=>q=nb∨q=z2) W4 V):Upd (fun q=>q=nb∨q=z2) W4 V:=
 (kp (RgM.of_none hlb rfl)).1.mono (fun q' _ ha=>ha.elim id (fun ⟨vv,h1,h2⟩=>((RgM.of_none hlb rfl).elim_int hlb h1 h2).elim))
theorem BJ(w:World)(F:Nat→Prop)(p side n nts:Nat)(B:dA)(h:ClS w F p side n nts B)(hT:jC w)(h1:1≤nts)(h5:nts≤512)(MA:Option Addr)(mc:Nat)(hM:aU w MA (dW (fT B nts)))(early:Int) :
  Calls Tryz.prog 34 #[.pointer (some ⟨p,0,none⟩),.slice MA (fT B nts).length mc,.int .i64 early] w (Sam w (.bool true)):=by
 obtain⟨O,pv,ad,hi,rfl⟩:=h;have hwd:∀k,k<nts→Wd (dD (B k)):=fun k hk=>by
  obtain⟨F,hq,-⟩:=hi.mats k hk;exact hq.wd
 have hQ:∀x∈fT B nts,x.1<512∧x.2.1<64∧x.2.2<64:=fun x hx=>by
  obtain⟨k,i,j⟩:=x;have:=(lW hwd).1 hx;exact⟨Nat.lt_of_lt_of_le this.1 h5,this.2.1,this.2.2.1⟩
 have hlen:(fT B nts).length≤512*4096:=Nat.le_trans (BA B nts 0 (fun j _ hj=>hwd j (by omega))) (Nat.mul_le_mul_right _ h5);obtain⟨l,hl⟩:∃l,(fT B nts).length=l:=⟨_,rfl⟩;rw[hl] at hlen ⊢;have b0:Below w.heap.size w (((w.alloc (.cells #[.slice MA l mc] 74)).alloc (.cells #[.int .i64 early] 3)).alloc (.cells #[.bool false] 4)):=by(repeat (first | exact Below.refl _ _ | apply Below.drew | refine Below.alloc ?_ (by first | exact Nat.le_refl _ | (simp;done) | (simp;omega)) _ | refine Below.setCell ?_ (by first | exact Nat.le_refl _ | (simp;done) | (simp;omega)) _))
 have k4:=((Blk.new w 74 #[.slice MA l mc]).alloc (.cells #[.int .i64 early] 3)).alloc (.cells #[.bool false] 4);have k5:=(Blk.new (w.alloc (.cells #[.slice MA l mc] 74)) 3 #[.int .i64 early]).alloc (.cells #[.bool false] 4);have k6:=Blk.new ((w.alloc (.cells #[.slice MA l mc] 74)).alloc (.cells #[.int .i64 early] 3)) 4 #[.bool false];simp only[World.size_alloc] at k5 k6
 have hi0:=hi.upd (upF b0) (fun _ _=>id);have hT0:=hT.upd (upF b0) hT.lt id;have hfa:=CW _ O p side n nts pv ad B hi0 h1 h5;have hMlt:∀b o s,MA=some ⟨b,o,s⟩→fT B nts≠[]→b<w.heap.size:=fun b o s e hne=>by
  obtain⟨x,hx⟩:=List.exists_mem_of_ne_nil _ hne;obtain⟨k,hk⟩:=List.getElem?_of_mem hx;obtain⟨b',o',e',c0,-⟩:=hM.fact hk;rw[e] at e';injection e' with e';injection e' with e1 e2;subst e1;exact World.block_lt_of_cell? _ _ c0
 have HE:=fun (W:World) (f:Fn) (x y:Array Value)=>yO W f x y
 have H:=aI12 b0 k4 k5 k6 hi0 hT0 (hM.below b0) hl hwd (fun q hq=>hi.lt q hq) hT.lt hMlt;have HQ:=hIz hQ;clear b0 k4 k5 k6 hi0 hT0 hi hT hM hl hwd hMlt;refine(callsIn_wide (n:=1)).1 ?_;refine callsIn_of_wp_marks Tryz.func34 rfl trivial ?_ rfl;simp only[Tryz.ntmps34,List.size_toArray,List.length_cons,List.length_nil,Nat.reduceAdd,Nat.reduceSub,Array.replicate_succ,Array.replicate_zero,List.push_toArray,List.append_toArray,List.nil_append,List.cons_append]
 refine wpIn_wide.2 ?_;go_upto_region 1 with (fail);generalize hW0:((w.alloc (.cells #[.slice MA l mc] 74)).alloc (.cells #[.int .i64 early] 3)).alloc (.cells #[.bool false] 4)=W0 at H hfa ⊢;have hz0:W0.heap.size=w.heap.size+3:=by rw[← hW0];simp
 clear hW0;go_wp2_with fail;refine hfa.mono ?_;clear hfa;rintro e W2 ⟨g,A,c,hg,rfl,kg,own,b2⟩;obtain⟨z,hz⟩:∃z,w.heap.size=z:=⟨_,rfl⟩;have hU2:GoU W2 z MA l mc (fT B nts) early g c nts side A ad B (fun q=>O q≠none):=by
  have hu:=Upd.of_below b2 (fun _=>False);rw[← hz];exact⟨H.out.2.1.upd hu id,H.out.2.2.1.upd hu id,H.out.2.2.2.2.2.2.1.below b2,⟨H.out.2.2.2.2.2.1.upd hu H.out.2.2.2.2.2.1.lt id,kg,aQ own (fun _ _=>Nat.zero_le _),fun k hk=>by
   obtain⟨F,hq,hF⟩:=H.out.2.2.2.2.1.mats k hk;exact⟨F,hq.below b2,fun q hq e=>by rw[hF q hq] at e;cases e⟩⟩⟩
 have hFo:∀q,IW g (.slice A nts c) (fun q=>O q≠none) q→q<W2.heap.size∧(q<z∨z+3≤q):=fun q hq=>by
  have hs2:=b2.size;rcases hq with rfl|rfl|hq|hq
  ·have:=H.out.2.2.2.2.2.2.2.2.2.2.1;exact⟨by omega,.inl (by omega)⟩
  ·have:=kg.lt;exact⟨by omega,.inr (by omega)⟩
  ·have:=own.lt q hq;exact⟨by omega,.inr (by omega)⟩
  ·have:=H.out.2.2.2.2.2.2.2.2.2.1 q hq;exact⟨by omega,.inl (by omega)⟩
 have k62:Blk W2 (z+2) 4 #[.bool false]:=by rw[← hz];exact H.out.2.2.2.1.upd (upF b2) id
 have hb2:Below z w W2:=by rw[← hz];exact H.out.1.trans (b2.mono (by omega))
 have hs2:z+3≤W2.heap.size:=by have:=b2.size;omega
 have hMA:∀b o s,MA=some ⟨b,o,s⟩→fT B nts≠[]→b≠z+2:=fun b o s e hne=>by have:=H.out.2.2.2.2.2.2.2.2.2.2.2 b o s e hne;omega
 have UP:=hIz (show ∀V,Upd (fun q=>q=z+2) W2 V→GoU V z MA l mc (fT B nts) early g c nts side A ad B (fun q=>O q≠none) from fun V hu=>by
  by_cases hne:fT B nts=[]
  ·refine⟨hU2.k4.upd hu (by omega),hU2.k5.upd hu (by omega),?_,hU2.fw.upd hu (fun q hq e=>by have:=(hFo q hq).2;omega)⟩;rw[hne];exact fun j u hj=>by simp[dW] at hj
  ·exact hU2.upd hu (fun b o s e=>hMA b o s e hne) (fun q hq e=>by have:=(hFo q hq).2;omega))
 have HL:=aI4 H.out.2.2.2.2.2.2.2.1 hFo k62 hb2;clear hg kg own b2 hU2 hFo k62 hb2 hMA;rw[hz];have HZ:=hIz hz;have hEq:=HE W2.drew (.func 76) #[] #[.pointer (some ⟨g,0,none⟩)];have hEq2:=HE W2 (.func 76) #[] #[.pointer (some ⟨g,0,none⟩)];clear hz hz0;go_wp2;clear hEq hEq2;refine wp_loop_rounds 3 ?_;rw[rounds_succ];have u24:Upd (fun q=>q=z+2) W2 ((W2.alloc (.cells #[.int .i64 0] 3)).alloc (.cells #[.int .i64 0] 3)):=((Upd.refl _ _).alloc _).alloc _;have kt4:=(Blk.new W2 3 #[.int .i64 0]).alloc (.cells #[.int .i64 0] 3);have kn4:=Blk.new (W2.alloc (.cells #[.int .i64 0] 3)) 3 #[.int .i64 0];simp only[World.size_alloc] at kn4
 have hG4:=UP.out _ u24;have k64:=(HL.out.2.2.1.alloc (.cells #[.int .i64 0] 3)).alloc (.cells #[.int .i64 0] 3);have hz4:((W2.alloc (.cells #[.int .i64 0] 3)).alloc (.cells #[.int .i64 0] 3)).heap.size=W2.heap.size+2:=by simp
 go_upto_region 8 with (fail);generalize (W2.alloc (.cells #[.int .i64 0] 3)).alloc (.cells #[.int .i64 0] 3)=W4 at u24 kt4 kn4 hG4 k64 hz4 ⊢;have HZ4:=hIz (show W2.heap.size+2=W4.heap.size from hz4.symm);obtain⟨tb0,htb0⟩:∃tb0,W2.heap.size=tb0:=⟨_,rfl⟩;obtain⟨nb0,hnb0⟩:∃nb0,W2.heap.size+1=nb0:=⟨_,rfl⟩;rw[hnb0] at kn4 ⊢;rw[htb0] at kt4 ⊢;have hst:=AX W4 g c nts side A ad B (fun q=>O q≠none) hG4.fw (fun q hq=>by have:=(HL.out.2.1 q (.inr (.inr (.inr hq)))).1;omega) h1 h5 (fun x=>x.1<512∧x.2.1<64∧x.2.2<64) (fun _ h=>h) HQ.out;have hFo4:∀q,IW g (.slice A nts c) (fun q=>O q≠none) q→q<W4.heap.size:=fun q hq=>by have:=(HL.out.2.1 q hq).1;omega
 have hF4:∀q,(q=nb0∨q=z+2)→q<W4.heap.size∧¬IW g (.slice A nts c) (fun q=>O q≠none) q:=fun q hq=>⟨by rcases hq with e | e <;> omega,fun ho=>by have:=HL.out.2.1 q ho;rcases hq with e | e <;> omega⟩
 have hI0:GoI W4 nb0 (z+1) (z+2) ([]:List {x:Nat × Nat × Nat // x.1<512∧x.2.1<64∧x.2.2<64}) W4:=⟨kn4,k64,KpM.refl _ _ _⟩;have hlb4:z+1<W4.heap.size:=by omega
 have hnb4:nb0<W4.heap.size:=kn4.lt;have hz24:z+2<W4.heap.size:=k64.lt;have HS0:=aI10 hst hFo4 hlb4 (show W4.cell? ⟨z+1,0,none⟩=some (.int .i64 early) from hG4.k5.cell 0) hF4 hnb4 hz24 hI0 (And.intro kt4 (show W2.heap.size≤nb0 by omega)) u24;have HT0:=hIz (show ¬tb0=nb0∧¬tb0=z+2 from⟨by omega,by omega⟩);have HT02:=hIz (show ¬z+1=nb0∧¬z+1=z+2∧¬z+2=nb0 from⟨by omega,by omega,by omega⟩);clear hst hFo4 hF4 hI0 hG4 kn4 k64 kt4 u24;go_wp2;refine iC (gf:=76) (cap:=#[.pointer (some ⟨g,0,none⟩)]) rfl (enters_of Tryz.func76 (by kernel_rfl) rfl) HS0.out.1 bR (fun q hq=>HS0.out.2.1 q hq) (fun _=>rfl)
  (z+1) (fun q=>q=nb0∨q=z+2) HS0.out.2.2.1 (RgM.of_none HS0.out.2.2.2.1 rfl) HS0.out.2.2.2.2.1 (fun v q hv ho=>absurd ((RgM.of_none (lb:=z+1) HS0.out.2.2.2.1 rfl).elim_int HS0.out.2.2.2.1 hv ho) id)
  (GoI W4 nb0 (z+1) (z+2)) (GoX W4 nb0 (z+1) (z+2) (fT B nts) _ HQ.out) (zE HS0.out.2.2.2.1 HS0.out.2.2.2.2.2.1 HS0.out.2.2.2.2.2.2.1 HS0.out.2.2.1) (SM HS0.out.2.2.2.1 HS0.out.2.2.2.2.2.1 HS0.out.2.2.2.2.2.2.1 HS0.out.2.2.1) HS0.out.2.2.2.2.2.2.2.1
  (fun T y b=>(T.setIfInBounds 20 (.agg #[.int .i64 (y.1.1:Int),.int .i64 (y.1.2.1:Int),.int .i64 (y.1.2.2:Int)])).setIfInBounds 10 (.pointer (some ⟨b,0,none⟩)))
  (fun y b V=>Blk V b 52 #[.int .i64 (y.1.1:Int),.int .i64 (y.1.2.1:Int),.int .i64 (y.1.2.2:Int)]∧W4.heap.size≤b)
  ?hBx ?assign ?body ?done ?stop
 case hBx =>
  rintro x b st X Y row ⟨h3,h4⟩ hg hr;exact⟨h3.keep hg hr,h4⟩
 case assign =>
  rintro l2 pre y V Kc hrV hsV hi hK;dsimp only [VU]
  have HI2:=hIz hi;clear hi;gi_wp2
  have hi:=HI2.out;have hb:Below V.heap.size V (V.alloc (.cells #[.int .i64 (y.1.1:Int),.int .i64 (y.1.2.1:Int),.int .i64 (y.1.2.2:Int)] 52)):=bR.alloc (Nat.le_refl _) _;have kb:=KpM.of_below (lb:=z+1) (F:=fun q=>q=nb0∨q=z+2) hb (by have:=HS0.out.2.2.1;omega);exact hK V.heap.size _ kb ⟨hi.1.alloc _,hi.2.1.alloc _,hi.2.2.trans kb⟩ ⟨Blk.new V _ _,hsV⟩
 case body =>
  rintro l2 pre ⟨⟨k,i,j⟩,hy⟩ b V hrV hsV ⟨hk9,hk6,hkp⟩ ⟨hb3,hb4⟩ hlt2;dsimp only at hb3
  have hu4:=tZ HS0.out.2.2.2.1 hkp;have hu2:Upd (fun q=>q=z+2) W2 V:=HS0.out.2.2.2.2.2.2.2.2.2.trans hu4 (fun q e=>e.elim (fun e=>.inr (by rw[e];exact HS0.out.2.2.2.2.2.2.2.2.1.2)) .inl);have hG:=UP.out V hu2;obtain⟨m,hm⟩:∃m,pre.length=m:=⟨_,rfl⟩;have hml:m<l:=by rw[← hm,← HL.out.1];exact hlt2
  obtain⟨⟨x0,x1,x2⟩,hx⟩:∃x,(fT B nts)[m]?=some x:=⟨(fT B nts)[m]'(by rw[HL.out.1];exact hml),gEz _⟩;obtain⟨mb,mo,rfl,-,-,-⟩:=hG.al.fact hx;have htb:Blk V tb0 3 #[.int .i64 0]:=HS0.out.2.2.2.2.2.2.2.2.1.1.upd hu4 (fun e=>e.elim HT0.out.1 HT0.out.2);have SV:=hIz (show ∀X,Below V.heap.size V X→((fun X=>X.cell? ⟨nb0,0,none⟩=some (.int .i64 (m:Int))∧X.cell? ⟨z,0,none⟩=some (.slice (some ⟨mb,mo,none⟩) l mc)∧X.cell? ⟨b,0,none⟩=some (.int .i64 (k:Int))∧X.cell? ⟨b,1,none⟩=some (.int .i64 (i:Int))∧X.cell? ⟨b,2,none⟩=some (.int .i64 (j:Int))∧X.cell? ⟨mb,mo+m*3,none⟩=some (.int .i64 (x0:Int))∧X.cell? ⟨mb,mo+m*3+1,none⟩=some (.int .i64 (x1:Int))∧X.cell? ⟨mb,mo+m*3+2,none⟩=some (.int .i64 (x2:Int)))) X from fun X hb=>by
   have hG:=UP.out X (hu2.trans (upF hb) (fun _ h=>h.elim));obtain⟨b1,o1,e,c0,c1,c2⟩:=hG.al.fact hx;injection e with e;injection e with e1 e2;subst e1;subst e2;have hub:=Upd.of_below hb (fun _=>False);have k9:=hk9.upd hub id;rw[hm] at k9;have k10:=hb3.upd hub id;exact⟨k9.cell 0,hG.k4.cell 0,k10.cell 0,k10.cell 1,k10.cell 2,c0,c1,c2⟩)
  rw[hm] at hk9;have hS:=SV.out V.drew bR.drew;have hmI:(m:Int)<(l:Int):=by omega
  have hm0:(0:Int)≤(m:Int):=by omega
  have hge:decide (l≤m)=false:=by simp;omega
  have hwr:IntKind.i64.wrap ((m:Int)+1)=((m+1:Nat):Int):=by rw[IntWalk.i64_in _ (by omega)];rfl
  have lbV:z+1<V.heap.size:=by have:=HS0.out.2.2.1;omega
  have d9:V.cell? ⟨nb0,0,none⟩=some (.int .i64 (m:Int)):=hk9.cell 0;have d5:V.cell? ⟨z+1,0,none⟩=some (.int .i64 early):=hG.k5.cell 0;have d8:V.cell? ⟨tb0,0,none⟩=some (.int .i64 0):=htb.cell 0;have d6:V.cell? ⟨z+2,0,none⟩=some (.bool false):=hk6.cell 0;have f9:=hk9.frozen 0;have f6:=hk6.frozen 0;have HBd:=aI7 hk9 hk6 hkp hm hx htb hG;clear hk9 hk6 hkp hb3 hu4 hu2 hG hm htb hx hrV;simp only[sA,sZ,sS]
  by_cases hxe:(k,i,j)=(x0,x1,x2)
  ·have hneq:∀W,(binOp .neq 52 (.agg #[.int .i64 (k:Int),.int .i64 (i:Int),.int .i64 (j:Int)]) (.agg #[.int .i64 (x0:Int),.int .i64 (x1:Int),.int .i64 (x2:Int)])).run Tryz.prog W=.ok (.bool false) W:=fun W=>by
    injection hxe with e1 e2;injection e2 with e2 e3;rw[nR,e1,e2,e3];simp
   clear hxe;gi_wp2
   refine cL (fun X=>X.cell? ⟨nb0,0,none⟩=some (.int .i64 (m:Int))∧X.cell? ⟨z,0,none⟩=some (.slice (some ⟨mb,mo,none⟩) l mc)∧X.cell? ⟨b,0,none⟩=some (.int .i64 (k:Int))∧X.cell? ⟨b,1,none⟩=some (.int .i64 (i:Int))∧X.cell? ⟨b,2,none⟩=some (.int .i64 (j:Int))∧X.cell? ⟨mb,mo+m*3,none⟩=some (.int .i64 (x0:Int))∧X.cell? ⟨mb,mo+m*3+1,none⟩=some (.int .i64 (x1:Int))∧X.cell? ⟨mb,mo+m*3+2,none⟩=some (.int .i64 (x2:Int))) 12 [(0,true),(1,true),(2,true),(3,true),(4,true),(5,true),(6,true),(7,true),(8,true),(9,true),(10,true),(11,true)] (by kernel_rfl) (by kernel_rfl) (by kernel_rfl) (fun ⟨_,_,h⟩=>h) (fun _ _ _ _ _ h=>h) hS ?_;clear hS SV
   iterate 12 refine aC rfl ?_
   refine aG ?_;have q9:V.drew.cell? ⟨nb0,0,none⟩=some (.int .i64 (m:Int)):=d9;have FIN:=hIz (show KpM (z+1) (fun q=>q=nb0∨q=z+2) V (V.drew.setCell ⟨nb0,0,none⟩ (.int .i64 ((m+1:Nat):Int)))∧Blk (V.drew.setCell ⟨nb0,0,none⟩ (.int .i64 ((m+1:Nat):Int))) nb0 3 #[.int .i64 ((m+1:Nat):Int)]∧Blk (V.drew.setCell ⟨nb0,0,none⟩ (.int .i64 ((m+1:Nat):Int))) (z+2) 4 #[.bool false] from by
    have k1:=KpM.of_below (lb:=z+1) (F:=fun q=>q=nb0∨q=z+2) (Below.refl V.heap.size V).drew lbV;have k2:=KpM.of_upd (lb:=z+1) (F:=fun q=>q=nb0∨q=z+2) ((Upd.refl (fun q=>q=nb0∨q=z+2) V.drew).setCell (p:=⟨nb0,0,none⟩) (.inl (.inl rfl)) (.int .i64 ((m+1:Nat):Int))) (by have:V.drew.heap.size=V.heap.size:=rfl;omega) (fun e=>e.elim HT02.out.1 HT02.out.2.1);exact⟨k1.trans k2,HBd.out.1.drew.set 0 _,(HBd.out.2.1.drew).far (fun e=>HT02.out.2.2 e) _⟩)
   by_cases hea:((m+1:Nat):Int)=early
   ·have heB:(((m+1:Nat):Int)==early)=true:=by rw[beq_iff_eq];exact hea
    clear hea;gi_wp2
    refine⟨FIN.out.1,.inr ⟨rfl,?_,FIN.out.2.2,HBd.out.2.2.1.trans FIN.out.1⟩⟩;rw[List.length_append,List.length_singleton,HBd.out.2.2.2.1];exact FIN.out.2.1
   ·have heB:(((m+1:Nat):Int)==early)=false:=by rw[beq_eq_false_iff_ne];exact hea
    clear hea;gi_wp2
    refine⟨FIN.out.1,?_,FIN.out.2.2,HBd.out.2.2.1.trans FIN.out.1⟩;rw[List.length_append,List.length_singleton,HBd.out.2.2.2.1];exact FIN.out.2.1
  ·have hneq:∀W,(binOp .neq 52 (.agg #[.int .i64 (k:Int),.int .i64 (i:Int),.int .i64 (j:Int)]) (.agg #[.int .i64 (x0:Int),.int .i64 (x1:Int),.int .i64 (x2:Int)])).run Tryz.prog W=.ok (.bool true) W:=fun W=>by
    rw[nR];congr 2
    simp only[Bool.not_eq_true',Bool.and_eq_false_iff,beq_eq_false_iff_ne]
    by_cases e1:k=x0
    ·by_cases e2:i=x1
     ·exact .inr (.inr (fun e3=>hxe (by rw[e1,e2,show j=x2 by omega])))
     ·exact .inr (.inl (by omega))
    ·exact .inl (by omega)
   have HX:=hIz hxe;clear hxe;gi_wp2
   refine cL (fun X=>X.cell? ⟨nb0,0,none⟩=some (.int .i64 (m:Int))∧X.cell? ⟨z,0,none⟩=some (.slice (some ⟨mb,mo,none⟩) l mc)∧X.cell? ⟨b,0,none⟩=some (.int .i64 (k:Int))∧X.cell? ⟨b,1,none⟩=some (.int .i64 (i:Int))∧X.cell? ⟨b,2,none⟩=some (.int .i64 (j:Int))∧X.cell? ⟨mb,mo+m*3,none⟩=some (.int .i64 (x0:Int))∧X.cell? ⟨mb,mo+m*3+1,none⟩=some (.int .i64 (x1:Int))∧X.cell? ⟨mb,mo+m*3+2,none⟩=some (.int .i64 (x2:Int))) 12 [(0,true),(1,true),(2,true),(3,true),(4,true),(5,true),(6,true),(7,true),(8,true),(9,true),(10,true),(11,true)] (by kernel_rfl) (by kernel_rfl) (by kernel_rfl) (fun ⟨_,_,h⟩=>h) (fun _ _ _ _ _ h=>h) hS ?_;clear hS SV
   iterate 12 refine aC rfl ?_
   refine aG ?_;have FIN:=hIz (show KpM (z+1) (fun q=>q=nb0∨q=z+2) V (V.drew.setCell ⟨z+2,0,none⟩ (.bool false)) from by
    have k1:=KpM.of_below (lb:=z+1) (F:=fun q=>q=nb0∨q=z+2) (Below.refl V.heap.size V).drew lbV;have k2:=KpM.of_upd (lb:=z+1) (F:=fun q=>q=nb0∨q=z+2) ((Upd.refl (fun q=>q=nb0∨q=z+2) V.drew).setCell (p:=⟨z+2,0,none⟩) (.inl (.inr rfl)) (.bool false)) (by have:V.drew.heap.size=V.heap.size:=rfl;omega) (fun e=>e.elim HT02.out.1 HT02.out.2.1);exact k1.trans k2)
   gi_wp2
   exact⟨FIN.out,.inl ⟨rfl,JS (by rw[HBd.out.2.2.2.1];exact HBd.out.2.2.2.2.1) HX.out⟩⟩
 all_goals
  first
   | rintro xs V rfl hI hrV pD hD
   | (rintro cc xs V hsp hI hrV pD hD;rcases hI with ⟨-,hI⟩ | ⟨rfl,hI⟩;exact absurd hsp hI)
  obtain⟨hk9,hk6,hkp⟩:=hI;have hu4:=tZ HS0.out.2.2.2.1 hkp;have hu2:Upd (fun q=>q=z+2) W2 V:=HS0.out.2.2.2.2.2.2.2.2.2.trans hu4 (fun q e=>e.elim (fun e=>.inr (by rw[e];exact HS0.out.2.2.2.2.2.2.2.2.1.2)) .inl);have htb:Blk V tb0 3 #[.int .i64 0]:=HS0.out.2.2.2.2.2.2.2.2.1.1.upd hu4 (fun e=>e.elim HT0.out.1 HT0.out.2);have d8:V.cell? ⟨tb0,0,none⟩=some (.int .i64 0):=htb.cell 0;have hsV:=hu4.size;have u24:Upd (fun q=>q=z+2) W2 ((V.alloc (.cells #[.int .i64 1] 3)).alloc (.cells #[.int .i64 0] 3)):=(hu2.alloc _).alloc _;have k64:=(hk6.alloc (.cells #[.int .i64 1] 3)).alloc (.cells #[.int .i64 0] 3);have kt4:=(Blk.new V 3 #[.int .i64 1]).alloc (.cells #[.int .i64 0] 3);have kn4:=Blk.new (V.alloc (.cells #[.int .i64 1] 3)) 3 #[.int .i64 0];simp only[World.size_alloc] at kn4
  have hG4:=UP.out _ u24;have hz4:((V.alloc (.cells #[.int .i64 1] 3)).alloc (.cells #[.int .i64 0] 3)).heap.size=V.heap.size+2:=by simp
  have hw4:W2.heap.size+2=W4.heap.size:=HZ4.out;have hb4:Below V.heap.size V ((V.alloc (.cells #[.int .i64 1] 3)).alloc (.cells #[.int .i64 0] 3)):=(bR.alloc (Nat.le_refl _) _).alloc (by simp) _;have HD1:=aI2 (show W4.heap.size<V.heap.size from pD.1) ((hb4.block _ pD.1).trans hD);clear hk9 hk6 hkp hu4 hu2 htb hrV pD hD hb4;try clear hsp
  go_upto_region 6 with (fail);clear d8;go_upto_region 8 with (rw[rounds_succ]);generalize (V.alloc (.cells #[.int .i64 1] 3)).alloc (.cells #[.int .i64 0] 3)=X4 at u24 k64 kt4 kn4 hG4 hz4 HD1 ⊢;obtain⟨tb1,htb1⟩:∃tb1,V.heap.size=tb1:=⟨_,rfl⟩;obtain⟨nb1,hnb1⟩:∃nb1,V.heap.size+1=nb1:=⟨_,rfl⟩;rw[hnb1] at kn4 ⊢;rw[htb1] at kt4 ⊢;have hst:=AX X4 g c nts side A ad B (fun q=>O q≠none) hG4.fw (fun q hq=>by have:=(HL.out.2.1 q (.inr (.inr (.inr hq)))).1;omega) h1 h5 (fun x=>x.1<512∧x.2.1<64∧x.2.2<64) (fun _ h=>h) HQ.out;have hFo4:∀q,IW g (.slice A nts c) (fun q=>O q≠none) q→q<X4.heap.size:=fun q hq=>by have:=(HL.out.2.1 q hq).1;omega
  have hF4:∀q,(q=nb1∨q=z+2)→q<X4.heap.size∧¬IW g (.slice A nts c) (fun q=>O q≠none) q:=fun q hq=>⟨by rcases hq with e | e <;> omega,fun ho=>by have:=HL.out.2.1 q ho;rcases hq with e | e <;> omega⟩
  have hI0:GoI X4 nb1 (z+1) (z+2) ([]:List {x:Nat × Nat × Nat // x.1<512∧x.2.1<64∧x.2.2<64}) X4:=⟨kn4,k64,KpM.refl _ _ _⟩;have hlb4:z+1<X4.heap.size:=by omega
  have hnb4:nb1<X4.heap.size:=kn4.lt;have hz24:z+2<X4.heap.size:=k64.lt;have HS1:=aI10 hst hFo4 hlb4 (show X4.cell? ⟨z+1,0,none⟩=some (.int .i64 early) from hG4.k5.cell 0) hF4 hnb4 hz24 hI0 (And.intro kt4 (show W2.heap.size≤nb1 by omega)) u24;have HT1:=hIz (show ¬tb1=nb1∧¬tb1=z+2 from⟨by omega,by omega⟩);have HT12:=hIz (show ¬z+1=nb1∧¬z+1=z+2∧¬z+2=nb1 from⟨by omega,by omega,by omega⟩);clear hst hFo4 hF4 hI0 hG4 kn4 k64 kt4 u24;go_wp2;refine iC (gf:=76) (cap:=#[.pointer (some ⟨g,0,none⟩)]) rfl (enters_of Tryz.func76 (by kernel_rfl) rfl) HS1.out.1 bR (fun q hq=>HS1.out.2.1 q hq) (fun _=>rfl)
   (z+1) (fun q=>q=nb1∨q=z+2) HS1.out.2.2.1 (RgM.of_none HS1.out.2.2.2.1 rfl) HS1.out.2.2.2.2.1 (fun v q hv ho=>absurd ((RgM.of_none (lb:=z+1) HS1.out.2.2.2.1 rfl).elim_int HS1.out.2.2.2.1 hv ho) id)
   (GoI X4 nb1 (z+1) (z+2)) (fun c pre _=>c=.ret∧¬∃k,k≤(fT B nts).length∧pre=(eR (fT B nts) (fun x=>x.1<512∧x.2.1<64∧x.2.2<64) HQ.out).take k) (zE HS1.out.2.2.2.1 HS1.out.2.2.2.2.2.1 HS1.out.2.2.2.2.2.2.1 HS1.out.2.2.1) (fun _ _ _ _ _ h _ _=>h) HS1.out.2.2.2.2.2.2.2.1
   (fun T y b=>(T.setIfInBounds 20 (.agg #[.int .i64 (y.1.1:Int),.int .i64 (y.1.2.1:Int),.int .i64 (y.1.2.2:Int)])).setIfInBounds 10 (.pointer (some ⟨b,0,none⟩)))
   (fun y b V=>Blk V b 52 #[.int .i64 (y.1.1:Int),.int .i64 (y.1.2.1:Int),.int .i64 (y.1.2.2:Int)]∧X4.heap.size≤b)
   ?_ ?_ ?_ ?_ ?_
  ·rintro x b st X Y row ⟨h3,h4⟩ hg hr;exact⟨h3.keep hg hr,h4⟩
  ·rintro l2 pre y V Kc hrV hsV hi hK;dsimp only [VU]
   have HI2:=hIz hi;clear hi;gi_wp2
   have hi:=HI2.out;have hb:Below V.heap.size V (V.alloc (.cells #[.int .i64 (y.1.1:Int),.int .i64 (y.1.2.1:Int),.int .i64 (y.1.2.2:Int)] 52)):=bR.alloc (Nat.le_refl _) _;have kb:=KpM.of_below (lb:=z+1) (F:=fun q=>q=nb1∨q=z+2) hb (by have:=HS1.out.2.2.1;omega);exact hK V.heap.size _ kb ⟨hi.1.alloc _,hi.2.1.alloc _,hi.2.2.trans kb⟩ ⟨Blk.new V _ _,hsV⟩
  ·rintro l2 pre ⟨⟨k,i,j⟩,hy⟩ b V hrV hsV ⟨hk9,hk6,hkp⟩ ⟨hb3,hb4⟩ hlt2;dsimp only at hb3
   have hu4:=tZ HS1.out.2.2.2.1 hkp;have hu2:Upd (fun q=>q=z+2) W2 V:=HS1.out.2.2.2.2.2.2.2.2.2.trans hu4 (fun q e=>e.elim (fun e=>.inr (by rw[e];exact HS1.out.2.2.2.2.2.2.2.2.1.2)) .inl);have hG:=UP.out V hu2;obtain⟨m,hm⟩:∃m,pre.length=m:=⟨_,rfl⟩;have hml:m<l:=by rw[← hm,← HL.out.1];exact hlt2
   obtain⟨⟨x0,x1,x2⟩,hx⟩:∃x,(fT B nts)[m]?=some x:=⟨(fT B nts)[m]'(by rw[HL.out.1];exact hml),gEz _⟩;obtain⟨mb,mo,rfl,-,-,-⟩:=hG.al.fact hx;have htb:Blk V tb1 3 #[.int .i64 1]:=HS1.out.2.2.2.2.2.2.2.2.1.1.upd hu4 (fun e=>e.elim HT1.out.1 HT1.out.2);have SV:=hIz (show ∀X,Below V.heap.size V X→((fun X=>X.cell? ⟨nb1,0,none⟩=some (.int .i64 (m:Int))∧X.cell? ⟨z,0,none⟩=some (.slice (some ⟨mb,mo,none⟩) l mc)∧X.cell? ⟨b,0,none⟩=some (.int .i64 (k:Int))∧X.cell? ⟨b,1,none⟩=some (.int .i64 (i:Int))∧X.cell? ⟨b,2,none⟩=some (.int .i64 (j:Int))∧X.cell? ⟨mb,mo+m*3,none⟩=some (.int .i64 (x0:Int))∧X.cell? ⟨mb,mo+m*3+1,none⟩=some (.int .i64 (x1:Int))∧X.cell? ⟨mb,mo+m*3+2,none⟩=some (.int .i64 (x2:Int)))) X from fun X hb=>by
    have hG:=UP.out X (hu2.trans (upF hb) (fun _ h=>h.elim));obtain⟨b1,o1,e,c0,c1,c2⟩:=hG.al.fact hx;injection e with e;injection e with e1 e2;subst e1;subst e2;have hub:=Upd.of_below hb (fun _=>False);have k9:=hk9.upd hub id;rw[hm] at k9;have k10:=hb3.upd hub id;exact⟨k9.cell 0,hG.k4.cell 0,k10.cell 0,k10.cell 1,k10.cell 2,c0,c1,c2⟩)
   rw[hm] at hk9;have hS:=SV.out V.drew bR.drew;have hmI:(m:Int)<(l:Int):=by omega
   have hm0:(0:Int)≤(m:Int):=by omega
   have hge:decide (l≤m)=false:=by simp;omega
   have hwr:IntKind.i64.wrap ((m:Int)+1)=((m+1:Nat):Int):=by rw[IntWalk.i64_in _ (by omega)];rfl
   have lbV:z+1<V.heap.size:=by have:=HS1.out.2.2.1;omega
   have d9:V.cell? ⟨nb1,0,none⟩=some (.int .i64 (m:Int)):=hk9.cell 0;have d5:V.cell? ⟨z+1,0,none⟩=some (.int .i64 early):=hG.k5.cell 0;have d8:V.cell? ⟨tb1,0,none⟩=some (.int .i64 1):=htb.cell 0;have d6:V.cell? ⟨z+2,0,none⟩=some (.bool false):=hk6.cell 0;have f9:=hk9.frozen 0;have f6:=hk6.frozen 0;have HBd:=aI7 hk9 hk6 hkp hm hx htb hG;clear hk9 hk6 hkp hb3 hu4 hu2 hG hm htb hx hrV;simp only[sA,sZ,sS]
   by_cases hxe:(k,i,j)=(x0,x1,x2)
   ·have hneq:∀W,(binOp .neq 52 (.agg #[.int .i64 (k:Int),.int .i64 (i:Int),.int .i64 (j:Int)]) (.agg #[.int .i64 (x0:Int),.int .i64 (x1:Int),.int .i64 (x2:Int)])).run Tryz.prog W=.ok (.bool false) W:=fun W=>by
     injection hxe with e1 e2;injection e2 with e2 e3;rw[nR,e1,e2,e3];simp
    clear hxe;gi_wp2
    refine cL (fun X=>X.cell? ⟨nb1,0,none⟩=some (.int .i64 (m:Int))∧X.cell? ⟨z,0,none⟩=some (.slice (some ⟨mb,mo,none⟩) l mc)∧X.cell? ⟨b,0,none⟩=some (.int .i64 (k:Int))∧X.cell? ⟨b,1,none⟩=some (.int .i64 (i:Int))∧X.cell? ⟨b,2,none⟩=some (.int .i64 (j:Int))∧X.cell? ⟨mb,mo+m*3,none⟩=some (.int .i64 (x0:Int))∧X.cell? ⟨mb,mo+m*3+1,none⟩=some (.int .i64 (x1:Int))∧X.cell? ⟨mb,mo+m*3+2,none⟩=some (.int .i64 (x2:Int))) 12 [(0,true),(1,true),(2,true),(3,true),(4,true),(5,true),(6,true),(7,true),(8,true),(9,true),(10,true),(11,true)] (by kernel_rfl) (by kernel_rfl) (by kernel_rfl) (fun ⟨_,_,h⟩=>h) (fun _ _ _ _ _ h=>h) hS ?_;clear hS SV
    iterate 12 refine aC rfl ?_
    refine aG ?_;have q9:V.drew.cell? ⟨nb1,0,none⟩=some (.int .i64 (m:Int)):=d9;have FIN:=hIz (show KpM (z+1) (fun q=>q=nb1∨q=z+2) V (V.drew.setCell ⟨nb1,0,none⟩ (.int .i64 ((m+1:Nat):Int)))∧Blk (V.drew.setCell ⟨nb1,0,none⟩ (.int .i64 ((m+1:Nat):Int))) nb1 3 #[.int .i64 ((m+1:Nat):Int)]∧Blk (V.drew.setCell ⟨nb1,0,none⟩ (.int .i64 ((m+1:Nat):Int))) (z+2) 4 #[.bool false] from by
     have k1:=KpM.of_below (lb:=z+1) (F:=fun q=>q=nb1∨q=z+2) (Below.refl V.heap.size V).drew lbV;have k2:=KpM.of_upd (lb:=z+1) (F:=fun q=>q=nb1∨q=z+2) ((Upd.refl (fun q=>q=nb1∨q=z+2) V.drew).setCell (p:=⟨nb1,0,none⟩) (.inl (.inl rfl)) (.int .i64 ((m+1:Nat):Int))) (by have:V.drew.heap.size=V.heap.size:=rfl;omega) (fun e=>e.elim HT12.out.1 HT12.out.2.1);exact⟨k1.trans k2,HBd.out.1.drew.set 0 _,(HBd.out.2.1.drew).far (fun e=>HT12.out.2.2 e) _⟩)
    gi_wp2
    refine⟨FIN.out.1,?_,FIN.out.2.2,HBd.out.2.2.1.trans FIN.out.1⟩;rw[List.length_append,List.length_singleton,HBd.out.2.2.2.1];exact FIN.out.2.1
   ·have hneq:∀W,(binOp .neq 52 (.agg #[.int .i64 (k:Int),.int .i64 (i:Int),.int .i64 (j:Int)]) (.agg #[.int .i64 (x0:Int),.int .i64 (x1:Int),.int .i64 (x2:Int)])).run Tryz.prog W=.ok (.bool true) W:=fun W=>by
     rw[nR];congr 2
     simp only[Bool.not_eq_true',Bool.and_eq_false_iff,beq_eq_false_iff_ne]
     by_cases e1:k=x0
     ·by_cases e2:i=x1
      ·exact .inr (.inr (fun e3=>hxe (by rw[e1,e2,show j=x2 by omega])))
      ·exact .inr (.inl (by omega))
     ·exact .inl (by omega)
    have HX:=hIz hxe;clear hxe;gi_wp2
    refine cL (fun X=>X.cell? ⟨nb1,0,none⟩=some (.int .i64 (m:Int))∧X.cell? ⟨z,0,none⟩=some (.slice (some ⟨mb,mo,none⟩) l mc)∧X.cell? ⟨b,0,none⟩=some (.int .i64 (k:Int))∧X.cell? ⟨b,1,none⟩=some (.int .i64 (i:Int))∧X.cell? ⟨b,2,none⟩=some (.int .i64 (j:Int))∧X.cell? ⟨mb,mo+m*3,none⟩=some (.int .i64 (x0:Int))∧X.cell? ⟨mb,mo+m*3+1,none⟩=some (.int .i64 (x1:Int))∧X.cell? ⟨mb,mo+m*3+2,none⟩=some (.int .i64 (x2:Int))) 12 [(0,true),(1,true),(2,true),(3,true),(4,true),(5,true),(6,true),(7,true),(8,true),(9,true),(10,true),(11,true)] (by kernel_rfl) (by kernel_rfl) (by kernel_rfl) (fun ⟨_,_,h⟩=>h) (fun _ _ _ _ _ h=>h) hS ?_;clear hS SV
    iterate 12 refine aC rfl ?_
    refine aG ?_;have FIN:=hIz (show KpM (z+1) (fun q=>q=nb1∨q=z+2) V (V.drew.setCell ⟨z+2,0,none⟩ (.bool false)) from by
     have k1:=KpM.of_below (lb:=z+1) (F:=fun q=>q=nb1∨q=z+2) (Below.refl V.heap.size V).drew lbV;have k2:=KpM.of_upd (lb:=z+1) (F:=fun q=>q=nb1∨q=z+2) ((Upd.refl (fun q=>q=nb1∨q=z+2) V.drew).setCell (p:=⟨z+2,0,none⟩) (.inl (.inr rfl)) (.bool false)) (by have:V.drew.heap.size=V.heap.size:=rfl;omega) (fun e=>e.elim HT12.out.1 HT12.out.2.1);exact k1.trans k2)
    gi_wp2
    exact⟨FIN.out,⟨rfl,JS (by rw[HBd.out.2.2.2.1];exact HBd.out.2.2.2.2.1) HX.out⟩⟩
  ·rintro xs V2 rfl ⟨hk9,hk6,hkp⟩ hrV2 pD2 hD2;rw[iR,HL.out.1] at hk9;have hu4:=tZ HS1.out.2.2.2.1 hkp;have hu2:Upd (fun q=>q=z+2) W2 V2:=HS1.out.2.2.2.2.2.2.2.2.2.trans hu4 (fun q e=>e.elim (fun e=>.inr (by rw[e];exact HS1.out.2.2.2.2.2.2.2.2.1.2)) .inl);have hG:=UP.out V2 hu2;have htb:Blk V2 tb1 3 #[.int .i64 1]:=HS1.out.2.2.2.2.2.2.2.2.1.1.upd hu4 (fun e=>e.elim HT1.out.1 HT1.out.2);have d8:V2.cell? ⟨tb1,0,none⟩=some (.int .i64 1):=htb.cell 0;have d9:V2.cell? ⟨nb1,0,none⟩=some (.int .i64 (l:Int)):=hk9.cell 0;have d4:V2.cell? ⟨z,0,none⟩=some (.slice MA l mc):=hG.k4.cell 0;have hsV2:=hu4.size;have hDb:=HD1.out;have k6f:=(hk6.alloc (.cells #[.int .i64 2] 3)).set 0 (.bool true);have d6:(V2.alloc (.cells #[.int .i64 2] 3)).cell? ⟨z+2,0,none⟩=some (.bool false):=(hk6.alloc (.cells #[.int .i64 2] 3)).cell 0;have f6:=(hk6.alloc (.cells #[.int .i64 2] 3)).frozen 0;have uf:Upd (fun q=>q=z+2) V2 ((V2.alloc (.cells #[.int .i64 2] 3)).setCell ⟨z+2,0,none⟩ (.bool true)):=((Upd.refl (fun q=>q=z+2) V2).alloc _).setCell (p:=⟨z+2,0,none⟩) (.inl rfl) _;have k5f:=hG.k5.upd uf (by omega);have hbf:Below z w ((V2.alloc (.cells #[.int .i64 2] 3)).setCell ⟨z+2,0,none⟩ (.bool true)):=HL.out.2.2.2.trans ((hu2.trans uf (fun _ h=>.inl h)).below (fun q _ e=>by omega) (by omega));have hsf:=uf.size;have hDf:∀D∈[X4.heap.size,W4.heap.size],W4.heap.size≤D∧Prv (z+1) (fun _=>False) ((V2.alloc (.cells #[.int .i64 2] 3)).setCell ⟨z+2,0,none⟩ (.bool true)) D∧((V2.alloc (.cells #[.int .i64 2] 3)).setCell ⟨z+2,0,none⟩ (.bool true)).heap[D]?=some (.deferred (some [])):=fun D hD=>by
    have c5:((V2.alloc (.cells #[.int .i64 2] 3)).setCell ⟨z+2,0,none⟩ (.bool true)).cell? ⟨z+1,0,none⟩=some (.int .i64 early):=k5f.cell 0;have pv:∀D,D<V2.heap.size→Prv (z+1) (fun _=>False) ((V2.alloc (.cells #[.int .i64 2] 3)).setCell ⟨z+2,0,none⟩ (.bool true)) D:=fun D hD=>⟨Nat.lt_of_lt_of_le hD hsf,fun ha=>ha.elim id (fun ⟨v,hv,ho⟩=>(RgM.of_none (lb:=z+1) c5 rfl).elim_int c5 hv ho)⟩
    simp only[List.mem_cons,List.not_mem_nil,or_false] at hD
    rcases hD with rfl|rfl
    ·exact⟨by omega,pv _ pD2.1,(uf.block _ pD2.1 (by omega)).trans hD2⟩
    ·have h8:W4.heap.size<V2.heap.size:=by omega
     exact⟨Nat.le_refl _,pv _ h8,(uf.block _ h8 (by omega)).trans ((hu4.block _ (by omega) (fun e=>by rcases e with e | e <;> omega)).trans hDb.2)⟩
   have HF:=aI4 hDf k6f hbf k5f.lt;have hnd:[X4.heap.size,W4.heap.size].Nodup:=by simp;omega
   have HND:=hIz hnd;clear hk9 hk6 hkp hu4 hu2 hG htb hrV2 pD2 hD2 hDb k6f uf k5f hbf hDf hnd;go_upto_region 6 with (fail);clear d8 d9 d4;go_wp2_with (rw[rounds_succ]);generalize (V2.alloc (.cells #[.int .i64 2] 3)).setCell ⟨z+2,0,none⟩ (.bool true)=WF at HF ⊢;refine fD (B:=W4.heap.size) (lb:=z+1) (F:=fun _=>False) (fun w1=>Below z w w1∧Blk w1 (z+2) 4 #[.bool true]) ?_ (by omega) ?_ [X4.heap.size,W4.heap.size] _ HND.out HF.out.1 HF.out.2.2.2 ⟨HF.out.2.2.1,HF.out.2.1⟩
   ·rintro s X Y row ⟨a1,a2⟩ hg hrr;refine⟨a1.trans ?_,a2.grown hg (fun e=>by have:=(hrr _ e.symm).1;omega)⟩;exact(Upd.of_grown hg).below (fun i _ e=>by have:=(hrr i e).1;omega) (by have:=a1.size;have:=HZ.out;omega)
   ·rintro w1 ⟨a1,a2⟩;have hc8:=a2.cell 0;simp only[List.getElem?_toArray,List.getElem?_cons_zero] at hc8
    exact⟨.bool true,by simp[results,Tryz.f34,go_sem,hc8],rfl,by rw[HZ.out];exact a1⟩
  ·rintro cc xs V2 hsp ⟨-,hI⟩ hrV2 pD2 hD2;exact absurd hsp hI
open Go.RowKit Go.Shelf
theorem DH{nts:Int}{L PV:List Pv}{labels:List Txt}(h:L.map (·.pr)=PV.map (·.pr)):cO nts L labels=cO nts PV labels:=by
 have hl:L.length=PV.length:=by have:=congrArg List.length h;simpa using this
 have hiff:(∀v∈L,aT v.pr nts labels.length=true)↔∀v∈PV,aT v.pr nts labels.length=true:=by
  have e:∀M:List Pv,(∀v∈M,aT v.pr nts labels.length=true)↔∀p∈M.map (·.pr),aT p nts labels.length=true:=fun M=>⟨fun h p hp=>by
   obtain⟨v,hv,rfl⟩:=List.mem_map.1 hp;exact h v hv,fun h v hv=>h _ (List.mem_map.2 ⟨v,hv,rfl⟩)⟩
  rw[e L,e PV,h]
 unfold cO;rw[hl];simp only[hiff]
theorem oC{w:World}{base e size n c:Nat}{A:Option Addr}{xs:List Value}(h:w.ownsRow base e size (.slice A n c) n xs):∀g,(Value.slice A n c).ownBlock=some g→∃cur,Blk w g e cur∧n*size≤cur.size:=fun g hg=>by
 rcases h.2 with ⟨e1,-⟩|⟨g',cap,cur,e1,-,hb,hc,-,hs,-⟩
 ·injection e1 with e1;subst e1;cases hg
 ·injection e1 with e1 e2 e3;subst e1;have e:g'=g:=by simpa[Value.ownBlock] using hg
  subst e;exact⟨cur,hb,by rw[hs];exact Nat.mul_le_mul_right _ hc⟩
structure AfU(V:World)(z:Nat)(nts:Int)(PA:Option Addr)(m pc:Nat)(PV:List Pv)(LA:Option Addr)(labels:List Txt)(A:Option Addr)(c:Nat)(B:Option Addr)(d:Nat)(N:List Txt)(E:List Ed)(k i j:Int):Prop where
 k5:Blk V z 50 #[.int .i64 nts,.slice PA m pc]
 k7:Blk V (z+1) 34 #[.slice A N.length c,.slice B E.length d]
 k8:Blk V (z+2) 52 #[.int .i64 k,.int .i64 i,.int .i64 j]
 pv:PvR V PA PV
 lab:aU V LA (aE labels)
 ed:lB V A c B d N E
 tab:jC V
theorem AfU.upd{V W:World}{z:Nat}{nts:Int}{PA:Option Addr}{m pc:Nat}{PV:List Pv}{LA:Option Addr}{labels:List Txt}{A:Option Addr}{c:Nat}{B:Option Addr}{d:Nat}{N:List Txt}{E:List Ed}{k i j:Int}
  (h:AfU V z nts PA m pc PV LA labels A c B d N E k i j) (hb:Below V.heap.size V W):AfU W z nts PA m pc PV LA labels A c B d N E k i j:=by
 have hu:=Upd.of_below hb (fun _=>False);exact⟨h.k5.upd hu id,h.k7.upd hu id,h.k8.upd hu id,h.pv.below hb,h.lab.below hb,h.ed.below hb,h.tab.upd hu h.tab.lt id⟩
theorem DI(w:World)(hT:jC w)(nts:Int)(PA:Option Addr)(pc:Nat)(PV:List Pv)(hP:PvR w PA PV)(hfit:∀v∈PV,v.pr.body.length*16≤140737488355328)(hpl:PV.length*32≤140737488355328)(LA:Option Addr)(cl:Nat)(labels:List Txt)(hlab:aU w LA (aE labels))(hlf:labels.length*16≤140737488355328)
  (A:Option Addr) (c:Nat) (B:Option Addr) (d:Nat) (N:List Txt) (E:List Ed) (hE:lB w A c B d N E) (qk qi qj early:Int) :
  Calls Tryz.prog 5 #[.agg #[.int .i64 nts,.slice PA PV.length pc],.slice LA labels.length cl,cP A N.length c B E.length d,.agg #[.int .i64 qk,.int .i64 qi,.int .i64 qj],.int .i64 early] w (Sam w (.bool true)):=by
 obtain⟨m,hm⟩:∃m,PV.length=m:=⟨_,rfl⟩;obtain⟨n,hn⟩:∃n,N.length=n:=⟨_,rfl⟩;obtain⟨ln,hln⟩:∃ln,labels.length=ln:=⟨_,rfl⟩;rw[hm] at hpl ⊢;rw[hln] at hlf ⊢;have b0:Below w.heap.size w (((w.alloc (.cells #[.int .i64 nts,.slice PA m pc] 50)).alloc (.cells #[.slice A N.length c,.slice B E.length d] 34)).alloc (.cells #[.int .i64 qk,.int .i64 qi,.int .i64 qj] 52)):=by(repeat (first | exact Below.refl _ _ | apply Below.drew | refine Below.alloc ?_ (by first | exact Nat.le_refl _ | (simp;done) | (simp;omega)) _ | refine Below.setCell ?_ (by first | exact Nat.le_refl _ | (simp;done) | (simp;omega)) _))
 have k5:=((Blk.new w 50 #[.int .i64 nts,.slice PA m pc]).alloc (.cells #[.slice A N.length c,.slice B E.length d] 34)).alloc (.cells #[.int .i64 qk,.int .i64 qi,.int .i64 qj] 52);have k7:=(Blk.new (w.alloc (.cells #[.int .i64 nts,.slice PA m pc] 50)) 34 #[.slice A N.length c,.slice B E.length d]).alloc (.cells #[.int .i64 qk,.int .i64 qi,.int .i64 qj] 52);have k8:=Blk.new ((w.alloc (.cells #[.int .i64 nts,.slice PA m pc] 50)).alloc (.cells #[.slice A N.length c,.slice B E.length d] 34)) 52 #[.int .i64 qk,.int .i64 qi,.int .i64 qj];simp only[World.size_alloc] at k7 k8
 have HU:=hIz (show AfU _ w.heap.size nts PA m pc PV LA labels A c B d N E qk qi qj from⟨k5,k7,k8,hP.below b0,hlab.below b0,hE.below b0,hT.upd (upF b0) hT.lt id⟩);have HB0:=hIz b0;have HM:=aI4 hm hn hln hfit;clear b0 k5 k7 k8 hP hlab hE hT hm hln hfit;unfold cP;rw[hn] at HU HB0 ⊢;clear hn;go_enter Tryz.func5,Tryz.ntmps5;go_upto_region 1 with (fail);generalize ((w.alloc (.cells #[.int .i64 nts,.slice PA m pc] 50)).alloc (.cells #[.slice A n c,.slice B E.length d] 34)).alloc (.cells #[.int .i64 qk,.int .i64 qi,.int .i64 qj] 52)=W0 at HU HB0 ⊢;have hz0:w.heap.size+2<W0.heap.size:=HU.out.k8.lt;have SAY:=hIz (show ∀V,Below W0.heap.size W0 V→Calls Tryz.prog 22 #[] V (fun e V'=>e=.returned (.bool true)∧Below w.heap.size w V') from fun V hb=>by
  have h:=HU.out.upd hb;refine(CV V h.tab h.tab.lt).mono ?_;rintro e V' ⟨rfl,b⟩;exact⟨rfl,(tHn HB0.out hb).trans (b.mono (tHn HB0.out hb).size)⟩)
 have k7:=HU.out.k7;rw[HM.out.2.1] at k7;have q70:W0.cell? ⟨w.heap.size+1,0,none⟩=some (.slice A n c):=k7.cell 0;have q71:W0.cell? ⟨w.heap.size+1,1,none⟩=some (.slice B E.length d):=k7.cell 1;have hcon:=JM W0 A c B d N E HU.out.ed;unfold cP at hcon;rw[HM.out.2.1] at hcon;obtain⟨ci,hci⟩:∃ci,cJ N E=ci:=⟨_,rfl⟩;have HC:=hIz hci;clear hci k7;go_wp2_with fail;refine hcon.mono ?_;clear hcon q70 q71;rintro e W1 ⟨b1,hq0⟩;obtain⟨bg,NA,nl,nc,EA,el,ec,he,hq⟩:∃bg NA nl nc EA el ec,e=.returned (.tuple #[.agg #[.bool bg,.slice NA nl nc,.slice EA el ec],.int .i64 ci])∧(ci≠0∨(ci=0∧bg=true∧nl=n∧el=E.length∧aU W1 NA (aE N)∧aU W1 EA (aP E))):=by
  rcases hq0 with ⟨h1,h2⟩|⟨h1,A',c',B',d',h2,h3,h4,-⟩
  ·rw[HC.out] at h1 h2;exact⟨_,_,_,_,_,_,_,h2,.inl h1⟩
  ·rw[HC.out] at h1;subst h1;rw[HM.out.2.1] at h2;exact⟨_,_,_,_,_,_,_,h2,.inr ⟨rfl,rfl,rfl,rfl,h3,h4⟩⟩
 clear hq0;subst he;have k11:=Blk.new W1 29 #[.bool bg,.slice NA nl nc,.slice EA el ec];have b11:Below W1.heap.size W1 (W1.alloc (.cells #[.bool bg,.slice NA nl nc,.slice EA el ec] 29)):=bR.alloc (Nat.le_refl _) _;have HB1:=aI4 b1 k11 (tHn b1 b11) b11;clear b1 k11 b11;have hU1:=HU.out.upd HB1.out.2.2.1;have q0:(W1.alloc (.cells #[.bool bg,.slice NA nl nc,.slice EA el ec] 29)).cell? ⟨w.heap.size,0,none⟩=some (.int .i64 nts):=hU1.k5.cell 0;have q1:(W1.alloc (.cells #[.bool bg,.slice NA nl nc,.slice EA el ec] 29)).cell? ⟨w.heap.size,1,none⟩=some (.slice PA m pc):=hU1.k5.cell 1;have hma:=IY (W1.alloc (.cells #[.bool bg,.slice NA nl nc,.slice EA el ec] 29)) nts PA m pc;clear hU1;obtain⟨mn,hmn⟩:∃mn,NR nts m=mn:=⟨_,rfl⟩;rw[hmn] at hma;have HMn:=hIz hmn;clear hmn;go_wp2_with fail;refine hma.mono ?_;clear hma;rintro e W2 ⟨rfl,b2⟩;have HB2:=aI2 (tHn HB1.out.2.2.1 b2) (HB1.out.2.1.upd (upF b2) id);have HB12:=hIz (tHn HB1.out.2.2.2 b2);clear b2 q0 q1;by_cases hbad:mn=true∨ci≠0
 ·have haw:=SAY.out W2 HB2.out.1;rcases hbad with rfl|hne
  ·go_wp2_with fail;refine haw.mono ?_;rintro e V ⟨rfl,hb⟩;go_wp2;go_ret;exact⟨rfl,hb⟩
  ·have hne2:(ci != 0)=true:=by simpa using hne
   have hne3:(ci==0)=false:=by simpa using hne
   clear hne;cases mn
   ·go_wp2_with fail;refine haw.mono ?_;rintro e V ⟨rfl,hb⟩;go_wp2;go_ret;exact⟨rfl,hb⟩
   ·go_wp2_with fail;refine haw.mono ?_;rintro e V ⟨rfl,hb⟩;go_wp2;go_ret;exact⟨rfl,hb⟩
 ·have hmf:mn=false:=by
   cases mn with
   | false=>rfl
   | true=>exact absurd (.inl rfl) hbad
  subst hmf;have hc0:ci=0:=by
   by_cases h:ci=0
   ·exact h
   ·exact absurd (.inr h) hbad
  clear hbad;rcases hq with hne|⟨-,rfl,hnl,hel,rN,rE⟩
  ·exact absurd hc0 hne
  obtain rfl:n=nl:=hnl.symm;subst hel;have okG:GOk ⟨N,E⟩:=VB (HC.out.trans hc0);subst hc0;have HR:=aI3 (rN.below HB12.out) (rE.below HB12.out) okG;clear rN rE okG;have hU:=HU.out.upd HB2.out.1;have k7:=hU.k7;rw[HM.out.2.1] at k7;have q70:W2.cell? ⟨w.heap.size+1,0,none⟩=some (.slice A n c):=k7.cell 0;have q71:W2.cell? ⟨w.heap.size+1,1,none⟩=some (.slice B E.length d):=k7.cell 1;have hof:=RB W2 A c B d N E hU.ed;unfold cP at hof;rw[HM.out.2.1] at hof;clear hU k7;go_upto_region 4 with (fail);-- MARK
  go_wp2_with fail;refine hof.mono ?_;clear hof q70 q71;rintro e W3 hq0;obtain⟨pg,he,hb3,F1,g1,n1⟩:∃p,e=.returned (.tuple #[.pointer (some ⟨p,0,none⟩),.int .i64 0])∧Below W2.heap.size W2 W3∧gG W2.heap.size p ⟨N,E⟩ W3:=by
   rcases hq0 with ⟨h1,-⟩|⟨-,p,h2,h3,h4⟩
   ·exact absurd HC.out h1
   ·exact⟨p,h2,h4,h3⟩
  clear hq0;subst he;have HB3:=aI2 (tHn HB2.out.1 hb3) hb3;have HG:=aI3 g1 n1 HR.out.2.2;clear hb3 g1 n1;have hU:=HU.out.upd HB3.out.1;have q0:W3.cell? ⟨w.heap.size,0,none⟩=some (.int .i64 nts):=hU.k5.cell 0;have q1:W3.cell? ⟨w.heap.size,1,none⟩=some (.slice PA m pc):=hU.k5.cell 1;have hown:=JP W3 nts PA pc PV hU.pv HM.out.2.2.2 (by rw[HM.out.1];exact hpl);unfold BI at hown;rw[HM.out.1] at hown;clear hU;go_wp2_with fail;refine hown.mono ?_;clear hown q0 q1;rintro e W4 ⟨MA,mc,L,rfl,ownM,hLp,hLr,b4⟩;have b5:Below W4.heap.size W4 (W4.alloc (.cells #[.int .i64 nts,.slice MA m mc] 50)):=bR.alloc (Nat.le_refl _) _;have k15:=Blk.new W4 50 #[.int .i64 nts,.slice MA m mc];have ownM5:=aA ownM (upF b5) (fun _ _=>id);have hPL:PvR (W4.alloc (.cells #[.int .i64 nts,.slice MA m mc] 50)) MA L:=⟨aU.of_own ownM5,fun v hv=>(hLr v hv).1.below3 b5⟩;have hLl:L.length=m:=by have:=congrArg List.length hLp;rw[List.length_map,List.length_map,HM.out.1] at this;exact this
  have HMi:=aI8 k15 ownM5 hPL hLp hLl (tHn b4 b5) b4.size (ownM.lt);clear ownM hLr b4 b5 k15 ownM5 hPL hLl hLp;go_upto_region 6 with (fail);generalize W4.alloc (.cells #[.int .i64 nts,.slice MA m mc] 50)=W5 at HMi ⊢;obtain⟨zm,hzm⟩:∃zm,W4.heap.size=zm:=⟨_,rfl⟩;rw[hzm] at HMi ⊢;clear hzm;have hS:(fun V:World=>V.cell? ⟨zm,0,none⟩=some (.int .i64 nts)∧V.cell? ⟨zm,1,none⟩=some (.slice MA m mc)) W5.drew:=⟨HMi.out.1.cell 0,HMi.out.1.cell 1⟩;have b05:=tHn HB3.out.1 HMi.out.2.2.2.2.2.1;have hB0:Below W5.heap.size W5 W5.drew:=bR.drew;have hBz:Below W5.heap.size W5 (W5.drew.alloc (.cells #[] 9)):=hB0.alloc hB0.size _;have oz:(W5.drew.alloc (.cells #[] 9)).ownsRow W5.heap.size 9 1 (.slice (some ⟨W5.heap.size,0,none⟩) 0 0) 0 []:=gP W5.drew _ 1;have hrl:=(HU.out.upd (tHn b05 hBz)).lab;obtain⟨A8,c8,V2,happ8,own8,up8,-⟩:=aY (W5.drew.alloc (.cells #[] 9)) W5.heap.size 26 9 1 16 _ Tryz.underlying26 bI rfl (by decide) (by decide) (some ⟨W5.heap.size,0,none⟩) 0 0 [] oz LA ln cl (aE labels) hrl (by rw[cD,HM.out.2.2.1]) (jH labels) (by omega) hBz.size;rw[Nat.zero_add] at happ8 own8;rw[List.nil_append] at own8;have hB2:Below W5.heap.size W5 V2:=hBz.trans (up8.below (fun q _ hq=>(oz.lt q hq).1) hBz.size);have b02:=tHn b05 hB2;have hU2:=HU.out.upd b02;have k152:=HMi.out.1.upd (upF hB2) id;have hS1:(fun V:World=>V.cell? ⟨zm,0,none⟩=some (.int .i64 nts)∧V.cell? ⟨zm,1,none⟩=some (.slice MA m mc)) (W5.drew.alloc (.cells #[] 9)):=by
   have:=HMi.out.1.upd (upF hBz) id;exact⟨this.cell 0,this.cell 1⟩
  have hS2:(fun V:World=>V.cell? ⟨zm,0,none⟩=some (.int .i64 nts)∧V.cell? ⟨zm,1,none⟩=some (.slice MA m mc)) V2:=⟨k152.cell 0,k152.cell 1⟩;have b32:=tHn HMi.out.2.2.2.2.2.1 hB2;have hnew:=(tP V2 nts MA mc L (HMi.out.2.2.1.below hB2) A8 c8 labels (aU.of_own own8) F1 pg ⟨N,E⟩ (HG.out.1.below b32) HG.out.2.2 hU2.tab hU2.tab.lt).mono (fun _ _ h=>VE h);rw[HMi.out.2.2.2.2.1,HM.out.2.2.1] at hnew;have HB5:=aI3 b02 b32 hB2;clear b05 hB0 hBz oz hrl own8 up8 hB2 b02 hU2 k152 b32;refine aF (fun V:World=>V.cell? ⟨zm,0,none⟩=some (.int .i64 nts)∧V.cell? ⟨zm,1,none⟩=some (.slice MA m mc)) 11 [(0,true),(2,true),(4,true),(1,false),(3,false),(5,false),(6,true),(7,true),(8,true),(9,true),(10,true)] hS ?_;clear hS
  iterate 3 refine aC rfl ?_
  refine aN rfl rfl (fun K hK=>?_);go_simp;refine hK _ _ (fun _=>hS1) ?_;clear hK K hS1;(try simp only[Act.put,gA,gS,gZ,sA,sZ,sS])
  refine aN rfl rfl (fun K hK=>?_);refine bX _ _ _ rfl rfl rfl happ8 ?_;refine hK _ _ (fun _=>hS2) ?_;clear hK K happ8 hS2;(try simp only[Act.put,gA,gS,gZ,sA,sZ,sS])
  refine aN rfl rfl (fun K hK=>?_);go_simp;refine hnew.mono ?_;clear hnew;rintro e W6 ⟨vx,ex,rfl,hN⟩;have HB6:=aI3 (tHn HB5.out.1 hN.1) (tHn HB5.out.2.1 hN.1) (tHn HB5.out.2.2 hN.1);have hS:(fun V:World=>V.cell? ⟨zm,0,none⟩=some (.int .i64 nts)∧V.cell? ⟨zm,1,none⟩=some (.slice MA m mc)) W6:=by
   have:=HMi.out.1.upd (Upd.of_below HB6.out.2.2 (fun _=>False)) id;exact⟨this.cell 0,this.cell 1⟩
  refine hK _ _ (fun _=>hS) ?_;clear hK K hS;(try simp only[Act.put,gA,gS,gZ,sA,sZ,sS])
  iterate 5 refine aC rfl ?_
  refine aG ?_;obtain⟨ak,hak⟩:∃ak,cO nts PV labels=ak:=⟨_,rfl⟩;have hakL:cO nts L labels=ak:=by rw[DH HMi.out.2.2.2.1];exact hak
  have HK:=aI2 hak hakL;have hU:=HU.out.upd HB6.out.1;have q0:W6.cell? ⟨w.heap.size,0,none⟩=some (.int .i64 nts):=hU.k5.cell 0;have q1:W6.cell? ⟨w.heap.size,1,none⟩=some (.slice PA m pc):=hU.k5.cell 1;have hcon:=DG W6 nts PA pc PV hU.pv LA cl labels hU.lab;rw[HM.out.1,HM.out.2.2.1,hak] at hcon;have HN:=hIz hN;clear hU hN hak hakL;go_wp2_with fail;refine hcon.mono ?_;clear hcon q0 q1;rintro e W7 ⟨rfl,b7⟩;have HB7:=aI4 (tHn HB6.out.1 b7) (tHn HB6.out.2.1 b7) (tHn HB6.out.2.2 b7) b7;clear b7;have km:=HMi.out.1.upd (Upd.of_below HB7.out.2.2.1 (fun _=>False)) id;have q0:W7.cell? ⟨zm,0,none⟩=some (.int .i64 nts):=km.cell 0;have q1:W7.cell? ⟨zm,1,none⟩=some (.slice MA m mc):=km.cell 1;have hcon:=rF W7 nts MA mc L (HMi.out.2.2.1.below HB7.out.2.2.1) LA cl labels (HU.out.upd HB7.out.1).lab;rw[HMi.out.2.2.2.2.1,HM.out.2.2.1,HK.out.2] at hcon;clear km;rcases HN.out.2 with ⟨a1,rfl,rfl⟩|⟨a1,rfl,px,Fx,Bx,rfl,cx,nx,dx,wx⟩
  ·have hak2:ak=2:=by rw[← HK.out.2];exact a1
   subst hak2;clear a1;go_wp2_with fail;refine hcon.mono ?_;clear hcon q0 q1;rintro e W8 ⟨rfl,b8⟩;have HB8:=aI4 (tHn HB7.out.1 b8) (tHn HB7.out.2.1 b8) (tHn HB7.out.2.2.1 b8) (tHn HB7.out.2.2.2 b8);have ownM8:=aA HMi.out.2.1 (Upd.of_below HB8.out.2.2.1 (fun _=>False)) (fun _ _=>id);have HO8:=aI2 ownM8 (oC ownM8);clear b8 ownM8;go_wp2;go_loopw [18] (fun iv wr=>∃t:Nat,t≤m∧iv=.int .i64 (t:Int)∧Hid (Upd (fun q=>(Value.slice MA m mc).ownBlock=some q) W8 wr∧∀g,(Value.slice MA m mc).ownBlock=some g→∃cur,Blk wr g 71 cur∧m*2≤cur.size)) (fun iv _=>m-(intOf iv).toNat)
   case atStart=>exact⟨0,Nat.zero_le _,rfl,hIz ⟨Upd.refl _ _,HO8.out.2⟩⟩
   case round =>
    obtain⟨t,ht,rfl,hr⟩:=hrel;have hmz:∀q,(Value.slice MA m mc).ownBlock=some q→W3.heap.size≤q∧q<zm:=fun q hq=>by have:=HMi.out.2.2.2.2.2.2.2 q hq;exact this
    have km:=(HMi.out.1.upd (Upd.of_below HB8.out.2.2.1 (fun _=>False)) id).upd hr.out.1 (fun h=>by have:=hmz _ h;omega);have q1:wr.cell? ⟨zm,1,none⟩=some (.slice MA m mc):=km.cell 1;by_cases htm:t<m
    ·have htI:(t:Int)<(m:Int):=by omega
     have hkw:IntKind.i64.wrap ((t:Int)+1)=(t:Int)+1:=IntWalk.i64_in _ (by omega);obtain⟨gm,cc,e9,hob,-,-,-,-⟩:=aL HO8.out.1 (by omega);injection e9 with e1 e2 e3;subst e1;obtain⟨cur,kc,hcs⟩:=hr.out.2 gm rfl;obtain⟨u,hu⟩:∃u,cur[t*2]?=some u:=⟨cur[t*2]'(by omega),Array.getElem?_eq_getElem _⟩;have c0:wr.cell? ⟨gm,t*2,none⟩=some u:=by rw[kc.cell];exact hu
     have f0:=kc.frozen (t*2);have HN9:=hIz (show Upd (fun q=>(Value.slice (some ⟨gm,0,none⟩) m mc).ownBlock=some q) W8 (wr.setCell ⟨gm,t*2,none⟩ (.int .i64 0))∧∀g,(Value.slice (some ⟨gm,0,none⟩) m mc).ownBlock=some g→∃cur,Blk (wr.setCell ⟨gm,t*2,none⟩ (.int .i64 0)) g 71 cur∧m*2≤cur.size from⟨hr.out.1.setCell (p:=⟨gm,t*2,none⟩) (.inl rfl) _,fun g hg=>by
      have e:gm=g:=by simpa[Value.ownBlock] using hg
      subst e;exact⟨_,kc.set (t*2) _,by simpa using hcs⟩⟩)
     clear km kc hu hob e3;go_wp2;clear c0 f0 q1;go_roundw
     case rel=>exact⟨t+1,by omega,by go_num,HN9⟩
     case measure=>simp[intOf];omega
    ·obtain rfl:m=t:=by omega
     have htI:¬(m:Int)<(m:Int):=by omega
     have hb3r:Below W3.heap.size W8 wr:=hr.out.1.below (fun q _ hq=>(hmz q hq).1) (by have:=HB8.out.2.1.size;omega);have b3r:=HB8.out.2.1.trans hb3r;have hadd:=kH wr F1 pg ⟨N,E⟩ (HG.out.1.below b3r) HG.out.2.2 ed1 (by unfold uM eP;decide);unfold ed1 sX sAq sY at hadd;dsimp only at hadd
     have HRr:=aI3 hr.out.1 b3r hmz;clear hb3r b3r hr hmz km;go_wp2_with fail;refine hadd.mono ?_;clear hadd q1;rintro e W9 ⟨rfl,F2,g2,u2,-⟩;have b29:Below W2.heap.size W2 W9:=(tHn HB3.out.2 HRr.out.2.1).trans (u2.below (fun q _ hq=>HG.out.2.1 q hq) (by have:=HB3.out.2.size;have:=HRr.out.2.1.size;omega));have HB9:=aI2 (tHn HB2.out.1 b29) b29;clear g2 u2 b29;have haw:=SAY.out W9 HB9.out.1;go_wp2_with fail;refine haw.mono ?_;rintro e V ⟨rfl,hb⟩;go_wp2;go_ret;exact⟨rfl,hb⟩
  ·have hak0:ak=0:=by rw[← HK.out.2];exact a1
   have HX:=aI4 cx nx dx wx;subst hak0;clear a1 cx nx dx wx;go_wp2_with fail;refine hcon.mono ?_;clear hcon q0 q1;rintro e W8 ⟨rfl,b8⟩;have HB8:=aI4 (tHn HB7.out.1 b8) (tHn HB7.out.2.1 b8) (tHn HB7.out.2.2.1 b8) (tHn HB7.out.2.2.2 b8);have ownM8:=aA HMi.out.2.1 (Upd.of_below HB8.out.2.2.1 (fun _=>False)) (fun _ _=>id);have HO8:=aI2 ownM8 (oC ownM8);clear b8 ownM8;go_wp2;go_loopw [18] (fun iv wr=>∃t:Nat,t≤m∧iv=.int .i64 (t:Int)∧Hid (Upd (fun q=>(Value.slice MA m mc).ownBlock=some q) W8 wr∧∀g,(Value.slice MA m mc).ownBlock=some g→∃cur,Blk wr g 71 cur∧m*2≤cur.size)) (fun iv _=>m-(intOf iv).toNat)
   case atStart=>exact⟨0,Nat.zero_le _,rfl,hIz ⟨Upd.refl _ _,HO8.out.2⟩⟩
   case round =>
    obtain⟨t,ht,rfl,hr⟩:=hrel;have hmz:∀q,(Value.slice MA m mc).ownBlock=some q→W3.heap.size≤q∧q<zm:=fun q hq=>by have:=HMi.out.2.2.2.2.2.2.2 q hq;exact this
    have km:=(HMi.out.1.upd (Upd.of_below HB8.out.2.2.1 (fun _=>False)) id).upd hr.out.1 (fun h=>by have:=hmz _ h;omega);have q1:wr.cell? ⟨zm,1,none⟩=some (.slice MA m mc):=km.cell 1;by_cases htm:t<m
    ·have htI:(t:Int)<(m:Int):=by omega
     have hkw:IntKind.i64.wrap ((t:Int)+1)=(t:Int)+1:=IntWalk.i64_in _ (by omega);obtain⟨gm,cc,e9,hob,-,-,-,-⟩:=aL HO8.out.1 (by omega);injection e9 with e1 e2 e3;subst e1;obtain⟨cur,kc,hcs⟩:=hr.out.2 gm rfl;obtain⟨u,hu⟩:∃u,cur[t*2]?=some u:=⟨cur[t*2]'(by omega),Array.getElem?_eq_getElem _⟩;have c0:wr.cell? ⟨gm,t*2,none⟩=some u:=by rw[kc.cell];exact hu
     have f0:=kc.frozen (t*2);have HN9:=hIz (show Upd (fun q=>(Value.slice (some ⟨gm,0,none⟩) m mc).ownBlock=some q) W8 (wr.setCell ⟨gm,t*2,none⟩ (.int .i64 0))∧∀g,(Value.slice (some ⟨gm,0,none⟩) m mc).ownBlock=some g→∃cur,Blk (wr.setCell ⟨gm,t*2,none⟩ (.int .i64 0)) g 71 cur∧m*2≤cur.size from⟨hr.out.1.setCell (p:=⟨gm,t*2,none⟩) (.inl rfl) _,fun g hg=>by
      have e:gm=g:=by simpa[Value.ownBlock] using hg
      subst e;exact⟨_,kc.set (t*2) _,by simpa using hcs⟩⟩)
     clear km kc hu hob e3;go_wp2;clear c0 f0 q1;go_roundw
     case rel=>exact⟨t+1,by omega,by go_num,HN9⟩
     case measure=>simp[intOf];omega
    ·obtain rfl:m=t:=by omega
     have htI:¬(m:Int)<(m:Int):=by omega
     have hb3r:Below W3.heap.size W8 wr:=hr.out.1.below (fun q _ hq=>(hmz q hq).1) (by have:=HB8.out.2.1.size;omega);have b3r:=HB8.out.2.1.trans hb3r;have hadd:=kH wr F1 pg ⟨N,E⟩ (HG.out.1.below b3r) HG.out.2.2 ed1 (by unfold uM eP;decide);unfold ed1 sX sAq sY at hadd;dsimp only at hadd
     have HRr:=aI3 hr.out.1 b3r hmz;clear hb3r b3r hr hmz km;go_wp2_with fail;refine hadd.mono ?_;clear hadd q1;rintro e W9 ⟨rfl,F2,g2,u2,-⟩;have b29:Below W2.heap.size W2 W9:=(tHn HB3.out.2 HRr.out.2.1).trans (u2.below (fun q _ hq=>HG.out.2.1 q hq) (by have:=HB3.out.2.size;have:=HRr.out.2.1.size;omega));have HB9:=aI2 (tHn HB2.out.1 b29) b29;have hux:∀q,Fx q→¬(Value.slice MA m mc).ownBlock=some q:=fun q hq h=>by
      have h1:=HX.out.2.1 q hq;have h2:=HRr.out.2.2 q h;have h3:=HMi.out.1.lt;have h4:=HB5.out.2.2.size;omega
     have hux2:∀q,Fx q→¬F1 q:=fun q hq h=>by
      have h1:=HX.out.2.1 q hq;have h2:=HG.out.1.lt q h;have h4:=HB5.out.2.1.size;omega
     have HXc:=hIz (((HX.out.1.below HB8.out.2.2.2).upd HRr.out.1 hux).upd u2 hux2);clear hux hux2;clear g2 u2 b29;have hach:labels.length≤16∧1≤nts∧nts≤512∧PV.length≤8192∧upB ltT labels=true∧∀v∈PV,aT v.pr nts labels.length=true:=by
      rcases rG nts PV labels with h|h
      ·rw[HK.out.1] at h;cases h
      ·exact h.2
     obtain⟨-,hn1,hn5,hm8,-,hsh⟩:=hach;obtain⟨T,hT⟩:∃T:Nat,nts=(T:Int):=⟨nts.toNat,by omega⟩;subst hT;have hT1:1≤T:=by omega
     have hT5:T≤512:=by omega
     have hn32:n≤32:=by have:=HR.out.2.2.few.1;have h2:=HM.out.2.1;dsimp only at this;omega
     obtain⟨side,hside⟩:∃side,max 1 n=side:=⟨_,rfl⟩;have hs1:1≤side:=by omega
     have hs64:side≤64:=by omega
     have hns:n≤side:=by omega
     have hxc:=HXc.out;have hdx:=HX.out.2.2.1;rw[HMi.out.2.2.2.1] at hdx;rw[HM.out.2.1,Int.toNat_natCast] at hxc hdx;rw[hside] at hxc;have hhead:∀p∈PV.map (·.pr),0≤p.head∧p.head<(T:Int):=fun p hp=>by
      obtain⟨y,hy,rfl⟩:=List.mem_map.1 hp;exact kJ (hsh y hy)
     have hEl:∀k i j,ElG ⟨N,E⟩ labels k i j→i<n∧j<n:=fun k i j h=>by
      have h2:=ElG.lt h;rw[← HM.out.2.1];exact h2
     have hU9:=HU.out.upd HB9.out.1;have k11:=HB2.out.2.upd (Upd.of_below HB9.out.2 (fun _=>False)) id;have q0:W9.cell? ⟨w.heap.size,0,none⟩=some (.int .i64 (T:Int)):=hU9.k5.cell 0;have q1:W9.cell? ⟨w.heap.size,1,none⟩=some (.slice PA m pc):=hU9.k5.cell 1;have g0:W9.cell? ⟨W1.heap.size,0,none⟩=some (.bool true):=k11.cell 0;have g1:W9.cell? ⟨W1.heap.size,1,none⟩=some (.slice NA n nc):=k11.cell 1;have g2:W9.cell? ⟨W1.heap.size,2,none⟩=some (.slice EA E.length ec):=k11.cell 2;have hcon:=DF W9 T PA pc PV hU9.pv LA cl labels hU9.lab NA nc N (HR.out.1.below HB9.out.2) EA ec E (HR.out.2.1.below HB9.out.2) hT5 (by rw[HM.out.2.1];omega) HR.out.2.2.nd HR.out.2.2.ends hsh (by have:=HR.out.2.2.few.2;dsimp only at this;omega) hm8;unfold XA DrA at hcon;rw[HM.out.1,HM.out.2.2.1,HM.out.2.1] at hcon;have HX2:=aI5 hxc hdx hhead hEl (fun k=>HX.out.2.2.2 k);clear hU9 k11 hxc hdx hhead hEl hsh hm8 hn1 hn5;go_wp2_with fail;refine hcon.mono ?_;clear hcon q0 q1 g0 g1 g2;rintro e W10 ⟨hb,A9,l9,c9,L9,rfl,se9,b10,hmem⟩;have hfo:fA n L9 T=fT Bx T∧(∀a i j,(a,i,j)∈L9↔a<T∧i<n∧j<n∧cV (Bx a) i j=true)∧∀a i j,a<T→cV (Bx a) i j=true→i<n∧j<n:=by
      have h2:∀a i j,a<T→cV (Bx a) i j=true→i<n∧j<n:=fun a i j ha hbt=>yQ HX2.out.2.2.2.1 ((HX2.out.2.1 a ha i j).1 hbt)
      have h1:∀a i j,(a,i,j)∈L9↔a<T∧i<n∧j<n∧cV (Bx a) i j=true:=fun a i j=>by
       rw[hmem];constructor
       ·intro hd;obtain⟨k,e,hk⟩:=wO (T:=T) HX2.out.2.2.1 hd;have e:a=k:=by dsimp only at e;omega
        subst e;have h3:=yQ HX2.out.2.2.2.1 hd;exact⟨hk,h3.1,h3.2,(HX2.out.2.1 a hk i j).2 hd⟩
       ·rintro⟨ha,-,-,hbt⟩;exact(HX2.out.2.1 a ha i j).1 hbt
      exact⟨yW (fun k _=>(HX2.out.2.2.2.2 k).old) (by omega) h1 h2,h1,h2⟩
     have b11:Below W10.heap.size W10 (W10.alloc (.cells #[.int .i64 (T:Int),.int .i64 (n:Int),.slice (some ⟨hb,0,none⟩) (T*n*n) (T*n*n),.slice A9 l9 c9] 76)):=bR.alloc (Nat.le_refl _) _;have ks:=Blk.new W10 76 #[.int .i64 (T:Int),.int .i64 (n:Int),.slice (some ⟨hb,0,none⟩) (T*n*n) (T*n*n),.slice A9 l9 c9];have HS9:=aI4 ks (se9.below b11) (tHn b10 b11) hfo;clear ks se9 b10 b11 hmem hfo;unfold kY;go_upto_region 18 with (fail);generalize W10.alloc (.cells #[.int .i64 (T:Int),.int .i64 (n:Int),.slice (some ⟨hb,0,none⟩) (T*n*n) (T*n*n),.slice A9 l9 c9] 76)=W11 at HS9 ⊢;obtain⟨zs,hzs⟩:∃zs,W10.heap.size=zs:=⟨_,rfl⟩;rw[hzs] at HS9 ⊢;clear hzs;have FV:=hIz (show ∀V,Below W11.heap.size W11 V→AfU V w.heap.size (T:Int) PA m pc PV LA labels A c B d N E qk qi qj∧ClS V Fx px side n T Bx∧Blk V zs 76 #[.int .i64 (T:Int),.int .i64 (n:Int),.slice (some ⟨hb,0,none⟩) (T*n*n) (T*n*n),.slice A9 l9 c9]∧SeI V W9.heap.size hb T n A9 l9 c9 L9∧Below W0.heap.size W0 V from fun V hb2=>by
      have hb9:=tHn HS9.out.2.2.1 hb2;have hb0:=tHn HB9.out.1 hb9;exact⟨HU.out.upd hb0,HX2.out.1.below hb9,HS9.out.1.upd (upF hb2) id,HS9.out.2.1.below hb2,hb0⟩)
     have d0:W11.cell? ⟨zs,0,none⟩=some (.int .i64 (T:Int)):=(HS9.out.1).cell 0;have d1:W11.cell? ⟨zs,1,none⟩=some (.int .i64 (n:Int)):=(HS9.out.1).cell 1;have d2:W11.cell? ⟨zs,2,none⟩=some (.slice (some ⟨hb,0,none⟩) (T*n*n) (T*n*n)):=(HS9.out.1).cell 2;have d3:W11.cell? ⟨zs,3,none⟩=some (.slice A9 l9 c9):=(HS9.out.1).cell 3;have hcon:=BH W11 W9.heap.size hb T n l9 c9 A9 L9 HS9.out.2.1 hT5 (by omega);unfold kY WW at hcon;obtain⟨lf,hlf⟩:∃lf,(fT Bx T).length=lf:=⟨_,rfl⟩;rw[HS9.out.2.2.2.1,hlf] at hcon;have hlm:CU Bx T=lf:=by rw[← NP];exact hlf
     go_wp2_with fail;refine hcon.mono ?_;clear hcon d0 d1 d2 d3;rintro e W12 ⟨FA,fc,rfl,ownF,b12⟩;have HB12:=aI4 ownF b12 hlf hlm;clear ownF b12 hlf hlm;have p0:W12.cell? ⟨w.heap.size+2,0,none⟩=some (.int .i64 qk):=(FV.out W12 HB12.out.2.1).1.k8.cell 0;have p1:W12.cell? ⟨w.heap.size+2,1,none⟩=some (.int .i64 qi):=(FV.out W12 HB12.out.2.1).1.k8.cell 1;have p2:W12.cell? ⟨w.heap.size+2,2,none⟩=some (.int .i64 qj):=(FV.out W12 HB12.out.2.1).1.k8.cell 2;have hcon:=tQ W12 Fx px side n T Bx (FV.out W12 HB12.out.2.1).2.1 hT1 hns hs64 qk qi qj;unfold AU at hcon;by_cases hin:0≤qk∧qk<(T:Int)∧0≤qi∧qi<(n:Int)∧0≤qj∧qj<(n:Int)
     ·obtain⟨k,hk⟩:∃k:Nat,qk=(k:Int):=⟨qk.toNat,by omega⟩;obtain⟨i,hi⟩:∃i:Nat,qi=(i:Int):=⟨qi.toNat,by omega⟩;obtain⟨j,hj⟩:∃j:Nat,qj=(j:Int):=⟨qj.toNat,by omega⟩;subst hk;subst hi;subst hj;have hkT:k<T:=by omega
      have hin':i<n:=by omega
      have hjn:j<n:=by omega
      rw[if_pos hin,Int.toNat_natCast,Int.toNat_natCast,Int.toNat_natCast] at hcon;have hS1:inS (T:Int) (n:Int) (k:Int) (i:Int) (j:Int)=true:=IZ.2 hin;obtain⟨bt,hbt⟩:∃bt,cV (Bx k) i j=bt:=⟨_,rfl⟩;have hdc:decide ((k,i,j)∈L9)=bt:=by
       have h:=HS9.out.2.2.2.2.1 k i j;cases hb2:bt with
       | true=>rw[hb2] at hbt;exact decide_eq_true (h.2 ⟨hkT,hin',hjn,hbt⟩)
       | false=>rw[hb2] at hbt;exact decide_eq_false (fun hm=>by rw[(h.1 hm).2.2.2] at hbt;cases hbt)
      rw[hbt] at hcon;have HIn:=aI2 hS1 hdc;clear hin hS1 hbt hdc;go_wp2_with fail;refine hcon.mono ?_;clear hcon p1 p2;rintro e W13 ⟨rfl,b13⟩;have HB13:=hIz (tHn HB12.out.2.1 b13);have b1213:=b13;have hU13:=(FV.out W13 HB13.out).1;have p0:W13.cell? ⟨w.heap.size+2,0,none⟩=some (.int .i64 (k:Int)):=hU13.k8.cell 0;have hcon:=rP W13 Fx px side n T Bx (FV.out W13 HB13.out).2.1 hU13.tab hT5 k hkT;unfold SL at hcon;obtain⟨lc,hlc⟩:∃lc,(qcL (Bx k)).length=lc:=⟨_,rfl⟩;rw[hlc] at hcon;clear b13 hU13;go_wp2_with fail;refine hcon.mono ?_;clear hcon p0;rintro e W14 ⟨CA,cc,rfl,ownC,b14⟩;have HB14:=aI5 ownC (tHn HB13.out b14) hlc b1213 b14;clear ownC b14 hlc;have ks:=(FV.out W14 HB14.out.2.1).2.2.1;have d0:W14.cell? ⟨zs,0,none⟩=some (.int .i64 (T:Int)):=(ks).cell 0;have d1:W14.cell? ⟨zs,1,none⟩=some (.int .i64 (n:Int)):=(ks).cell 1;have d2:W14.cell? ⟨zs,2,none⟩=some (.slice (some ⟨hb,0,none⟩) (T*n*n) (T*n*n)):=(ks).cell 2;have d3:W14.cell? ⟨zs,3,none⟩=some (.slice A9 l9 c9):=(ks).cell 3;clear ks;have p0:W14.cell? ⟨w.heap.size+2,0,none⟩=some (.int .i64 (k:Int)):=(FV.out W14 HB14.out.2.1).1.k8.cell 0;have p1:W14.cell? ⟨w.heap.size+2,1,none⟩=some (.int .i64 (i:Int)):=(FV.out W14 HB14.out.2.1).1.k8.cell 1;have p2:W14.cell? ⟨w.heap.size+2,2,none⟩=some (.int .i64 (j:Int)):=(FV.out W14 HB14.out.2.1).1.k8.cell 2;have hcon:=yR W14 (T:Int) (n:Int) (k:Int) (i:Int) (j:Int) (.slice (some ⟨hb,0,none⟩) (T*n*n) (T*n*n)) (.slice A9 l9 c9);rw[HIn.out.1] at hcon;go_wp2_with fail;refine hcon.mono ?_;clear hcon d0 d1 d2 d3 p0 p1 p2
      rintro e W15 ⟨rfl,b15⟩;have HB15:=hIz (tHn HB14.out.2.1 b15);have HC15:=hIz b15;clear b15;have ks:=(FV.out W15 HB15.out).2.2.1;have d0:W15.cell? ⟨zs,0,none⟩=some (.int .i64 (T:Int)):=(ks).cell 0;have d1:W15.cell? ⟨zs,1,none⟩=some (.int .i64 (n:Int)):=(ks).cell 1;have d2:W15.cell? ⟨zs,2,none⟩=some (.slice (some ⟨hb,0,none⟩) (T*n*n) (T*n*n)):=(ks).cell 2;have d3:W15.cell? ⟨zs,3,none⟩=some (.slice A9 l9 c9):=(ks).cell 3;clear ks;have p0:W15.cell? ⟨w.heap.size+2,0,none⟩=some (.int .i64 (k:Int)):=(FV.out W15 HB15.out).1.k8.cell 0;have p1:W15.cell? ⟨w.heap.size+2,1,none⟩=some (.int .i64 (i:Int)):=(FV.out W15 HB15.out).1.k8.cell 1;have p2:W15.cell? ⟨w.heap.size+2,2,none⟩=some (.int .i64 (j:Int)):=(FV.out W15 HB15.out).1.k8.cell 2;have hcon:=lY W15 W9.heap.size hb T n l9 c9 A9 L9 (FV.out W15 HB15.out).2.2.2.1 hT5 (by omega) k i j hkT hin' hjn;unfold kY at hcon;rw[HIn.out.2] at hcon;go_wp2_with fail;refine hcon.mono ?_;clear hcon d0 d1 d2 d3 p0 p1 p2;rintro e W16 ⟨rfl,b16⟩;have HB16:=hIz (tHn HB15.out b16);have HC16:=hIz (tHn HC15.out b16);clear b16;have hlen:=nP W16 Fx px side n T Bx (FV.out W16 HB16.out).2.1 hT1 hT5 hs1;rw[HB12.out.2.2.2] at hlen;cases bt
      all_goals
       go_wp2_with fail;refine hlen.mono ?_;clear hlen;rintro e W17 ⟨rfl,b17⟩;have HB17:=hIz (tHn HB16.out b17);have HC17:=hIz (tHn HC16.out b17);clear b17;have hU17:=(FV.out W17 HB17.out).1;have p0:W17.cell? ⟨w.heap.size+2,0,none⟩=some (.int .i64 (k:Int)):=hU17.k8.cell 0;have q0:W17.cell? ⟨w.heap.size,0,none⟩=some (.int .i64 (T:Int)):=hU17.k5.cell 0;have ks:=(FV.out W17 HB17.out).2.2.1;have d0:W17.cell? ⟨zs,0,none⟩=some (.int .i64 (T:Int)):=(ks).cell 0;have d1:W17.cell? ⟨zs,1,none⟩=some (.int .i64 (n:Int)):=(ks).cell 1;have d2:W17.cell? ⟨zs,2,none⟩=some (.slice (some ⟨hb,0,none⟩) (T*n*n) (T*n*n)):=(ks).cell 2;have d3:W17.cell? ⟨zs,3,none⟩=some (.slice A9 l9 c9):=(ks).cell 3;have hk0:¬(k:Int)<0:=by omega
       have hk1:¬(T:Int)≤(k:Int):=by omega
       have hk2:decide (T≤k)=false:=by simp;omega
       have hcon:=rO W17 W9.heap.size hb T n l9 c9 A9 L9 (FV.out W17 HB17.out).2.2.2.1 hT5 (by omega) k;have hpc:ntC k (fA n L9 T)=qcL (Bx k):=by
        unfold ntC;rw[VG hkT];exact BE (fun k _=>HX2.out.2.2.2.2 k) (by omega) HS9.out.2.2.2.2.1 HS9.out.2.2.2.2.2 hkT
       unfold kY VW at hcon;rw[hpc,HB14.out.2.2.1] at hcon;clear hU17 ks hpc;go_wp2_with fail;refine hcon.mono ?_;clear hcon d0 d1 d2 d3 p0 q0;rintro e W18 ⟨DA,dc,rfl,ownD,b18⟩;have HB18:=aI2 (tHn HB17.out b18) (tHn HC17.out b18);have rC:aU W18 CA (dF (qcL (Bx k))):=(aU.of_own HB14.out.1).below HB18.out.2;have hcon:=lX W18 CA DA cc dc (qcL (Bx k)) rC (aU.of_own ownD) (by rw[kU];have:=fM (HX2.out.2.2.2.2 k).old;omega);rw[HB14.out.2.2.1] at hcon;clear b18 rC ownD;go_wp2_with fail;refine hcon.mono ?_;clear hcon;rintro e W19 ⟨rfl,b19⟩;have HB19:=aI2 (tHn HB18.out.1 b19) (tHn HB18.out.2 b19);have own19:=aA HB14.out.1 (Upd.of_below HB19.out.2 (fun _=>False)) (fun _ _=>id);have HO19:=aI2 own19 (oC own19);have hlc4:lc≤4096:=by rw[← HB14.out.2.2.1,kU];exact fM (HX2.out.2.2.2.2 k).old
       clear b19 own19;go_wp2;go_loopw [24] (fun iv wr=>∃t:Nat,t≤lc∧iv=.int .i64 (t:Int)∧Hid (Upd (fun q=>(Value.slice CA lc cc).ownBlock=some q) W19 wr∧∀g,(Value.slice CA lc cc).ownBlock=some g→∃cur,Blk wr g 83 cur∧lc*2≤cur.size)) (fun iv _=>lc-(intOf iv).toNat)
       case atStart=>exact⟨0,Nat.zero_le _,rfl,hIz ⟨Upd.refl _ _,HO19.out.2⟩⟩
       case round =>
        obtain⟨t,ht,rfl,hr⟩:=hrel;by_cases htm:t<lc
        ·have htI:(t:Int)<(lc:Int):=by omega
         have hkw:IntKind.i64.wrap ((t:Int)+1)=(t:Int)+1:=IntWalk.i64_in _ (by omega);obtain⟨gm,cd,e9,hob,-,-,-,-⟩:=aL HO19.out.1 (by omega);injection e9 with e1 e2 e3;subst e1;obtain⟨cur,kc,hcs⟩:=hr.out.2 gm rfl;obtain⟨u,hu⟩:∃u,cur[t*2]?=some u:=⟨cur[t*2]'(by omega),Array.getElem?_eq_getElem _⟩;obtain⟨u2,hu2⟩:∃u,cur[t*2+1]?=some u:=⟨cur[t*2+1]'(by omega),Array.getElem?_eq_getElem _⟩;have c0:wr.cell? ⟨gm,t*2,none⟩=some u:=by rw[kc.cell];exact hu
         have c1:wr.cell? ⟨gm,t*2+1,none⟩=some u2:=by rw[kc.cell];exact hu2
         have f0:=kc.frozen (t*2);have f1:=kc.frozen (t*2+1);have HN9:=hIz (show Upd (fun q=>(Value.slice (some ⟨gm,0,none⟩) lc cc).ownBlock=some q) W19 ((wr.setCell ⟨gm,t*2,none⟩ (.int .i64 77)).setCell ⟨gm,t*2+1,none⟩ (.int .i64 0))∧∀g,(Value.slice (some ⟨gm,0,none⟩) lc cc).ownBlock=some g→∃cur,Blk ((wr.setCell ⟨gm,t*2,none⟩ (.int .i64 77)).setCell ⟨gm,t*2+1,none⟩ (.int .i64 0)) g 83 cur∧lc*2≤cur.size from⟨(hr.out.1.setCell (p:=⟨gm,t*2,none⟩) (.inl rfl) _).setCell (p:=⟨gm,t*2+1,none⟩) (.inl rfl) _,fun g hg=>by
          have e:gm=g:=by simpa[Value.ownBlock] using hg
          subst e;exact⟨_,(kc.set (t*2) _).set (t*2+1) _,by simpa using hcs⟩⟩)
         clear kc hu hu2 hob e3;go_wp2;clear c0 c1 f0 f1;go_roundw
         case rel=>exact⟨t+1,by omega,by go_num,HN9⟩
         case measure=>simp[intOf];omega
        ·obtain rfl:lc=t:=by omega
         have htI:¬(lc:Int)<(lc:Int):=by omega
         have b13r:Below W13.heap.size W19 wr:=hr.out.1.below (fun q _ hq=>(HB14.out.1.lt q hq).1) (by have:=HB14.out.2.2.2.2.size;have:=HB19.out.2.size;omega);have b11r:Below W11.heap.size W11 wr:=HB19.out.1.trans (b13r.mono (HB13.out.size));have bFr:Below W12.heap.size W12 wr:=HB14.out.2.2.2.1.trans ((HB14.out.2.2.2.2.trans ((HB19.out.2.mono HB14.out.2.2.2.2.size).trans b13r)).mono HB14.out.2.2.2.1.size);have hcon:=BJ wr Fx px side n T Bx (FV.out wr b11r).2.1 (FV.out wr b11r).1.tab hT1 hT5 FA fc ((aU.of_own (by have h:=HB12.out.1;exact h)).below bFr) early;rw[HB12.out.2.2.1] at hcon;have HB20:=hIz b11r;clear b13r b11r bFr hr;go_wp2_with fail;refine hcon.mono ?_;clear hcon;rintro e W21 ⟨rfl,b21⟩;have haw:=SAY.out W21 (FV.out W21 (tHn HB20.out b21)).2.2.2.2;clear b21;go_wp2_with fail;refine haw.mono ?_;rintro e V ⟨rfl,hb⟩;go_wp2;go_ret;exact⟨rfl,hb⟩
     ·rw[if_neg hin] at hcon;have hS1:inS (T:Int) (n:Int) qk qi qj=false:=by
       cases h:inS (T:Int) (n:Int) qk qi qj with
       | false=>rfl
       | true=>exact absurd (IZ.1 h) hin
      have HIn:=hIz hS1;clear hin hS1;go_wp2_with fail;refine hcon.mono ?_;clear hcon p1 p2;rintro e W13 ⟨rfl,b13⟩;have HB13:=hIz (tHn HB12.out.2.1 b13);have b1213:=b13;have hU13:=(FV.out W13 HB13.out).1;have p0:W13.cell? ⟨w.heap.size+2,0,none⟩=some (.int .i64 qk):=hU13.k8.cell 0;by_cases hnt:0≤qk∧qk<(T:Int)
      ·obtain⟨k,hk⟩:∃k:Nat,qk=(k:Int):=⟨qk.toNat,by omega⟩;subst hk;have hkT:k<T:=by omega
       clear hnt;have hcon:=rP W13 Fx px side n T Bx (FV.out W13 HB13.out).2.1 hU13.tab hT5 k hkT;unfold SL at hcon;obtain⟨lc,hlc⟩:∃lc,(qcL (Bx k)).length=lc:=⟨_,rfl⟩;rw[hlc] at hcon;clear b13 hU13;go_wp2_with fail;refine hcon.mono ?_;clear hcon p0;rintro e W14 ⟨CA,cc,rfl,ownC,b14⟩;have HB14:=aI5 ownC (tHn HB13.out b14) hlc b1213 b14;clear ownC b14 hlc;have ks:=(FV.out W14 HB14.out.2.1).2.2.1;have d0:W14.cell? ⟨zs,0,none⟩=some (.int .i64 (T:Int)):=(ks).cell 0;have d1:W14.cell? ⟨zs,1,none⟩=some (.int .i64 (n:Int)):=(ks).cell 1;have d2:W14.cell? ⟨zs,2,none⟩=some (.slice (some ⟨hb,0,none⟩) (T*n*n) (T*n*n)):=(ks).cell 2;have d3:W14.cell? ⟨zs,3,none⟩=some (.slice A9 l9 c9):=(ks).cell 3;clear ks;have p0:W14.cell? ⟨w.heap.size+2,0,none⟩=some (.int .i64 (k:Int)):=(FV.out W14 HB14.out.2.1).1.k8.cell 0;have p1:W14.cell? ⟨w.heap.size+2,1,none⟩=some (.int .i64 qi):=(FV.out W14 HB14.out.2.1).1.k8.cell 1;have p2:W14.cell? ⟨w.heap.size+2,2,none⟩=some (.int .i64 qj):=(FV.out W14 HB14.out.2.1).1.k8.cell 2;have hcon:=yR W14 (T:Int) (n:Int) (k:Int) qi qj (.slice (some ⟨hb,0,none⟩) (T*n*n) (T*n*n)) (.slice A9 l9 c9);rw[HIn.out] at hcon;go_wp2_with fail;refine hcon.mono ?_;clear hcon d0 d1 d2 d3 p0 p1 p2;rintro e W15 ⟨rfl,b15⟩;have HB15:=hIz (tHn HB14.out.2.1 b15);have HC15:=hIz b15;clear b15;have hlen:=nP W15 Fx px side n T Bx (FV.out W15 HB15.out).2.1 hT1 hT5 hs1;rw[HB12.out.2.2.2] at hlen;go_wp2_with fail;refine hlen.mono ?_;clear hlen;rintro e W17 ⟨rfl,b17⟩;have HB17:=hIz (tHn HB15.out b17);have HC17:=hIz (tHn HC15.out b17)
       clear b17;have hU17:=(FV.out W17 HB17.out).1;have p0:W17.cell? ⟨w.heap.size+2,0,none⟩=some (.int .i64 (k:Int)):=hU17.k8.cell 0;have q0:W17.cell? ⟨w.heap.size,0,none⟩=some (.int .i64 (T:Int)):=hU17.k5.cell 0;have ks:=(FV.out W17 HB17.out).2.2.1;have d0:W17.cell? ⟨zs,0,none⟩=some (.int .i64 (T:Int)):=(ks).cell 0;have d1:W17.cell? ⟨zs,1,none⟩=some (.int .i64 (n:Int)):=(ks).cell 1;have d2:W17.cell? ⟨zs,2,none⟩=some (.slice (some ⟨hb,0,none⟩) (T*n*n) (T*n*n)):=(ks).cell 2;have d3:W17.cell? ⟨zs,3,none⟩=some (.slice A9 l9 c9):=(ks).cell 3;have hk0:¬(k:Int)<0:=by omega
       have hk1:¬(T:Int)≤(k:Int):=by omega
       have hk2:decide (T≤k)=false:=by simp;omega
       have hcon:=rO W17 W9.heap.size hb T n l9 c9 A9 L9 (FV.out W17 HB17.out).2.2.2.1 hT5 (by omega) k;have hpc:ntC k (fA n L9 T)=qcL (Bx k):=by
        unfold ntC;rw[VG hkT];exact BE (fun k _=>HX2.out.2.2.2.2 k) (by omega) HS9.out.2.2.2.2.1 HS9.out.2.2.2.2.2 hkT
       unfold kY VW at hcon;rw[hpc,HB14.out.2.2.1] at hcon;clear hU17 ks hpc;go_wp2_with fail;refine hcon.mono ?_;clear hcon d0 d1 d2 d3 p0 q0;rintro e W18 ⟨DA,dc,rfl,ownD,b18⟩;have HB18:=aI2 (tHn HB17.out b18) (tHn HC17.out b18);have rC:aU W18 CA (dF (qcL (Bx k))):=(aU.of_own HB14.out.1).below HB18.out.2;have hcon:=lX W18 CA DA cc dc (qcL (Bx k)) rC (aU.of_own ownD) (by rw[kU];have:=fM (HX2.out.2.2.2.2 k).old;omega);rw[HB14.out.2.2.1] at hcon;clear b18 rC ownD;go_wp2_with fail;refine hcon.mono ?_;clear hcon;rintro e W19 ⟨rfl,b19⟩;have HB19:=aI2 (tHn HB18.out.1 b19) (tHn HB18.out.2 b19);have own19:=aA HB14.out.1 (Upd.of_below HB19.out.2 (fun _=>False)) (fun _ _=>id);have HO19:=aI2 own19 (oC own19);have hlc4:lc≤4096:=by rw[← HB14.out.2.2.1,kU];exact fM (HX2.out.2.2.2.2 k).old
       clear b19 own19;go_wp2;go_loopw [24] (fun iv wr=>∃t:Nat,t≤lc∧iv=.int .i64 (t:Int)∧Hid (Upd (fun q=>(Value.slice CA lc cc).ownBlock=some q) W19 wr∧∀g,(Value.slice CA lc cc).ownBlock=some g→∃cur,Blk wr g 83 cur∧lc*2≤cur.size)) (fun iv _=>lc-(intOf iv).toNat)
       case atStart=>exact⟨0,Nat.zero_le _,rfl,hIz ⟨Upd.refl _ _,HO19.out.2⟩⟩
       case round =>
        obtain⟨t,ht,rfl,hr⟩:=hrel;by_cases htm:t<lc
        ·have htI:(t:Int)<(lc:Int):=by omega
         have hkw:IntKind.i64.wrap ((t:Int)+1)=(t:Int)+1:=IntWalk.i64_in _ (by omega);obtain⟨gm,cd,e9,hob,-,-,-,-⟩:=aL HO19.out.1 (by omega);injection e9 with e1 e2 e3;subst e1;obtain⟨cur,kc,hcs⟩:=hr.out.2 gm rfl;obtain⟨u,hu⟩:∃u,cur[t*2]?=some u:=⟨cur[t*2]'(by omega),Array.getElem?_eq_getElem _⟩;obtain⟨u2,hu2⟩:∃u,cur[t*2+1]?=some u:=⟨cur[t*2+1]'(by omega),Array.getElem?_eq_getElem _⟩;have c0:wr.cell? ⟨gm,t*2,none⟩=some u:=by rw[kc.cell];exact hu
         have c1:wr.cell? ⟨gm,t*2+1,none⟩=some u2:=by rw[kc.cell];exact hu2
         have f0:=kc.frozen (t*2);have f1:=kc.frozen (t*2+1);have HN9:=hIz (show Upd (fun q=>(Value.slice (some ⟨gm,0,none⟩) lc cc).ownBlock=some q) W19 ((wr.setCell ⟨gm,t*2,none⟩ (.int .i64 77)).setCell ⟨gm,t*2+1,none⟩ (.int .i64 0))∧∀g,(Value.slice (some ⟨gm,0,none⟩) lc cc).ownBlock=some g→∃cur,Blk ((wr.setCell ⟨gm,t*2,none⟩ (.int .i64 77)).setCell ⟨gm,t*2+1,none⟩ (.int .i64 0)) g 83 cur∧lc*2≤cur.size from⟨(hr.out.1.setCell (p:=⟨gm,t*2,none⟩) (.inl rfl) _).setCell (p:=⟨gm,t*2+1,none⟩) (.inl rfl) _,fun g hg=>by
          have e:gm=g:=by simpa[Value.ownBlock] using hg
          subst e;exact⟨_,(kc.set (t*2) _).set (t*2+1) _,by simpa using hcs⟩⟩)
         clear kc hu hu2 hob e3;go_wp2;clear c0 c1 f0 f1;go_roundw
         case rel=>exact⟨t+1,by omega,by go_num,HN9⟩
         case measure=>simp[intOf];omega
        ·obtain rfl:lc=t:=by omega
         have htI:¬(lc:Int)<(lc:Int):=by omega
         have b13r:Below W13.heap.size W19 wr:=hr.out.1.below (fun q _ hq=>(HB14.out.1.lt q hq).1) (by have:=HB14.out.2.2.2.2.size;have:=HB19.out.2.size;omega);have b11r:Below W11.heap.size W11 wr:=HB19.out.1.trans (b13r.mono (HB13.out.size));have bFr:Below W12.heap.size W12 wr:=HB14.out.2.2.2.1.trans ((HB14.out.2.2.2.2.trans ((HB19.out.2.mono HB14.out.2.2.2.2.size).trans b13r)).mono HB14.out.2.2.2.1.size);have hcon:=BJ wr Fx px side n T Bx (FV.out wr b11r).2.1 (FV.out wr b11r).1.tab hT1 hT5 FA fc ((aU.of_own (by have h:=HB12.out.1;exact h)).below bFr) early;rw[HB12.out.2.2.1] at hcon;have HB20:=hIz b11r;clear b13r b11r bFr hr;go_wp2_with fail;refine hcon.mono ?_;clear hcon;rintro e W21 ⟨rfl,b21⟩;have haw:=SAY.out W21 (FV.out W21 (tHn HB20.out b21)).2.2.2.2;clear b21;go_wp2_with fail;refine haw.mono ?_;rintro e V ⟨rfl,hb⟩;go_wp2;go_ret;exact⟨rfl,hb⟩
      ·have hcon:=rH W13 Fx px side n T Bx (FV.out W13 HB13.out).2.1 hT1 qk (by omega);clear b13 hU13;go_wp2_with fail;refine hcon.mono ?_;clear hcon p0;rintro e W14 ⟨rfl,b14⟩;have HB14:=aI3 True.intro (tHn HB13.out b14) True.intro;clear b14;have ks:=(FV.out W14 HB14.out.2.1).2.2.1;have d0:W14.cell? ⟨zs,0,none⟩=some (.int .i64 (T:Int)):=(ks).cell 0;have d1:W14.cell? ⟨zs,1,none⟩=some (.int .i64 (n:Int)):=(ks).cell 1;have d2:W14.cell? ⟨zs,2,none⟩=some (.slice (some ⟨hb,0,none⟩) (T*n*n) (T*n*n)):=(ks).cell 2;have d3:W14.cell? ⟨zs,3,none⟩=some (.slice A9 l9 c9):=(ks).cell 3;clear ks;have p0:W14.cell? ⟨w.heap.size+2,0,none⟩=some (.int .i64 qk):=(FV.out W14 HB14.out.2.1).1.k8.cell 0;have p1:W14.cell? ⟨w.heap.size+2,1,none⟩=some (.int .i64 qi):=(FV.out W14 HB14.out.2.1).1.k8.cell 1;have p2:W14.cell? ⟨w.heap.size+2,2,none⟩=some (.int .i64 qj):=(FV.out W14 HB14.out.2.1).1.k8.cell 2;have hcon:=yR W14 (T:Int) (n:Int) qk qi qj (.slice (some ⟨hb,0,none⟩) (T*n*n) (T*n*n)) (.slice A9 l9 c9);rw[HIn.out] at hcon;go_wp2_with fail;refine hcon.mono ?_;clear hcon d0 d1 d2 d3 p0 p1 p2;rintro e W15 ⟨rfl,b15⟩;have HB15:=hIz (tHn HB14.out.2.1 b15);have HC15:=hIz b15;clear b15;have hlen:=nP W15 Fx px side n T Bx (FV.out W15 HB15.out).2.1 hT1 hT5 hs1;rw[HB12.out.2.2.2] at hlen;go_wp2_with fail;refine hlen.mono ?_;clear hlen;rintro e W17 ⟨rfl,b17⟩;have HB17:=hIz (tHn HB15.out b17);have HC17:=hIz (tHn HC15.out b17);clear b17;have hU17:=(FV.out W17 HB17.out).1;have p0:W17.cell? ⟨w.heap.size+2,0,none⟩=some (.int .i64 qk):=hU17.k8.cell 0
       have q0:W17.cell? ⟨w.heap.size,0,none⟩=some (.int .i64 (T:Int)):=hU17.k5.cell 0;have haw:=SAY.out W17 (FV.out W17 HB17.out).2.2.2.2;clear hU17;by_cases hq0:qk<0
       ·clear hnt;go_wp2_with fail;refine haw.mono ?_;rintro e V ⟨rfl,hb⟩;go_wp2;go_ret;exact⟨rfl,hb⟩
       ·have hq1:(T:Int)≤qk:=by omega
        clear hnt;go_wp2_with fail;refine haw.mono ?_;rintro e V ⟨rfl,hb⟩;go_wp2;go_ret;exact⟨rfl,hb⟩
end Go.Proofs.YtddffnonlmfhdaaGreatDoor
