/- far: the queue: its length, its order, Swap, Push, Pop; container/heap over far's queue: up, down: the list is permuted and a heap. (Written by mkFrE.py.); container/heap's Push and Pop over far's queue: a heap stays one, and the least comes out; far: put: a fact with a length is put into the queue, if it is not known and not too long; far: what a fact makes with those that are known: behind, ahead. (Written by mkFrH.py.). -/
import Derived.Test.YteffnejneoocgaaGreatDoorF12
import Derived.Test.YteffnejneoocgaaGreatDoorF11
set_option linter.unusedVariables false
set_option linter.unusedSimpArgs false
set_option maxHeartbeats 16000000
set_option maxRecDepth 100000
namespace Go.Proofs.YteffnejneoocgaaGreatDoor
open Go.RowKit Go.Shelf
def PO:List Value→Nat→List Value→List Value
 | xs,_,[]=>xs
 | xs,o,v::r=>PO (xs.set o v) (o+1) r
theorem jM(a:Value):∀(vs:List Value) (X:List Value) (k:Nat),PO (a::X) (k+1) vs=a::PO X k vs
 | [],_,_=>rfl
 | v::r,X,k=>by
  show PO ((a::X).set (k+1) v) (k+1+1) r=_
  rw[List.set_cons_succ,jM a r];rfl
theorem wT:∀(L:List Ln) (i:Nat) (y:Ln),i<L.length→PO (bP L) (i*4) (lnC y)=bP (L.set i y)
 | [],_,_,h=>(by simp at h)
 | z::L,0,y,_=>rfl
 | z::L,i+1,y,h=>by
  rw[show(i+1)*4=i*4+1+1+1+1 by omega];show PO (_::_::_::_::bP L) _ _=_
  rw[jM,jM,jM,jM,wT L i y (by simpa using h)];rfl
theorem jN{base e size n g cap:Nat}:∀(vs:List Value) (o:Nat) {w:World} {xs:List Value},w.ownsRow base e size (.slice (some ⟨g,0,none⟩) n cap) n xs→o+vs.length≤n*size→(w.setCells g o vs).ownsRow base e size (.slice (some ⟨g,0,none⟩) n cap) n (PO xs o vs)
 | [],_,_,_,h,_=>h
 | v::r,o,_,_,h,hl=>by
  rw[List.length_cons] at hl;exact jN r (o+1) (cC h (i:=o) (by omega) v) (by omega)
theorem SE{L:List Ln}{i:Nat}{x:Ln}(h:L[i]?=some x){r:Nat}(hr:r<4):(bP L)[i*4+r]?=(lnC x)[r]?:=cO lnC 4 (fun _=>rfl) L i r x h hr
def QuN(w:World)(p:Nat)(lp tv lv:Value)(L:List Ln):Prop:=Blk w p 125 #[lp,tv,lv]∧w.ownsRow 0 97 4 lv L.length (bP L)
theorem QuN.range{w:World}{p:Nat}{lp tv lv:Value}{L:List Ln}(h:QuN w p lp tv lv L){g n c:Nat}(e:lv=.slice (some ⟨g,0,none⟩) n c){i:Nat}{x:Ln}(hi:L[i]?=some x):w.rangeAt g (i*4) (lnC x):=fun j v hj=>by
 obtain⟨g',c',e',-,-,-,-,hc⟩:=aN h.2 (by have:=(gO.1 hi).1;omega);rw[e] at e';injection e' with e';injection e' with e';injection e' with e';subst e';have hj4:j<4:=(gO.1 hj).1;exact(hc _ _ ((SE hi hj4).trans hj)).1
theorem QuN.there{w:World}{p:Nat}{lp tv lv:Value}{L:List Ln}(h:QuN w p lp tv lv L){g n c:Nat}(e:lv=.slice (some ⟨g,0,none⟩) n c){i:Nat}(hi:i<L.length):w.there g (i*4) 4:=fun j hj=>by
 obtain⟨g',c',e',-,-,-,-,hc⟩:=aN h.2 (by omega);rw[e] at e';injection e' with e';injection e' with e';injection e' with e';subst e';have hx:L[i]?=some L[i]:=gEz hi;obtain⟨v,hv⟩:∃v,(lnC L[i])[j]?=some v:=⟨_,gEz hj⟩;have h1:=hc _ _ ((SE hx hj).trans hv);exact⟨by rw[h1.1];rfl,h1.2⟩
theorem QuN.upd{w w':World}{p:Nat}{lp tv lv:Value}{L:List Ln}{F:Nat→Prop}(h:QuN w p lp tv lv L)(hu:Upd F w w')(hp:¬F p)(hl:∀k,lv.ownBlock=some k→¬F k):QuN w' p lp tv lv L:=⟨h.1.upd hu hp,aB h.2 hu hl⟩
theorem QuN.below{w w':World}{p:Nat}{lp tv lv:Value}{L:List Ln}(h:QuN w p lp tv lv L)(hb:Below w.heap.size w w'):QuN w' p lp tv lv L:=h.upd (upF hb) id (fun _ _=>id)
theorem nC(x:Ln):(Tryz.prog.info? 97).map (·.size)=some (lnC x).length:=by kernel_rfl
def QuT(w:World)(p:Nat)(lp tv lv:Value)(C:List Ln→Prop)(w':World):Prop:=
 ∃lv' L',QuN w' p lp tv lv' L'∧C L'∧Upd (fun k=>k=p∨lv.ownBlock=some k) w w'∧(∀k,lv'.ownBlock=some k→lv.ownBlock=some k∨w.heap.size≤k)∧∀k,lv'.ownBlock=some k→¬k=p
section
variable {P:Program} {ops:Array Oper} {Q:Exit→Act→World→Prop} {S:World→Prop}
theorem vB{w:World}{a:Act}{oi:Oper}(ty:TypeId)(x:Operand)(ho:oi.op=.load ty x)(b o:Nat)(hx:a.eval x=.pointer (some ⟨b,o,none⟩))(cs:List Value)(d:TypeDesc)(hS:w.rangeAt b o cs)
  (hu:P.underlying ty=some d) (hd:d.isRow=true) (hz:(P.info? ty).map (·.size)=some cs.length):(execOp a.eval oi).run P w=.ok (.value (.agg cs.toArray)) w:=by
 unfold execOp;simp only[ho,hx,Instr.loadAt,Instr.sureAddr,Sem.run_bind,Sem.run_pure,Result.andThen_ok,run_loadVar_mid w b o ty cs d hS hu hd hz]
end
theorem oX(w:World)(A:Option Addr)(n c:Nat):Calls Tryz.prog 54 #[.slice A n c] w (gB w (.int .i64 (n:Int))):=by
 go_enter Tryz.func54,Tryz.ntmps54;go_wp2;go_ret;exact⟨rfl,rfl⟩
theorem iC(w:World)(p:Nat)(lp tv:Value)(g n c:Nat)(L:List Ln)(h:QuN w p lp tv (.slice (some ⟨g,0,none⟩) n c) L)(hn:L.length=n)(i j:Nat)(x y:Ln)(hi:L[i]?=some x)(hj:L[j]?=some y) :
  Calls Tryz.prog 266 #[.slice (some ⟨g,0,none⟩) n c,.int .i64 (i:Int),.int .i64 (j:Int)] w (fun e w'=>e=.returned (.bool (mU x y))∧Below w.heap.size w w'):=by
 subst hn;have hi2:=(gO.1 hi).1;have hj2:=(gO.1 hj).1;have SR:=hIz (show ∀W,Below w.heap.size w W→W.rangeAt g (i*4) (lnC x)∧W.rangeAt g (j*4) (lnC y) from fun W hb=>⟨(h.below hb).range rfl hi,(h.below hb).range rfl hj⟩);have z1:(i:Int)<(L.length:Int):=by omega
 have z2:(j:Int)<(L.length:Int):=by omega
 have HS:=hIz (fun W=>yT x y W);have B0:=hIz (show Below w.heap.size w w.drew from⟨rfl,rfl,rfl,Nat.le_refl _,fun _ _=>rfl⟩);have HV:=hIz (wR x y);have hS:=SR.out _ B0.out;have hsx:=hIz (nC x);have hsy:=hIz (nC y);clear h hi hj;generalize L.length=n at z1 z2 hi2 hj2 ⊢;go_enter Tryz.func266,Tryz.ntmps266;go_upto_region 1 with (fail);refine aF (fun W:World=>W.rangeAt g (i*4) (lnC x)∧W.rangeAt g (j*4) (lnC y)) 11 [(0,true),(1,true),(2,true),(3,true),(4,true),(5,true),(6,true),(7,true),(8,false),(9,true),(10,true)] hS ?_;generalize w.drew=V0 at B0 hS ⊢
 iterate 3 refine aC rfl ?_
 (refine eZ rfl (by first | with_reducible rfl | kernel_rfl) 97 _ rfl g (i*4) rfl (lnC x) (.struct _) (fun _ h=>h.1) Tryz.underlying97 rfl hsx.out ?_;(try simp only[Act.put,gA,gS,gZ,sA,sZ,sS]))
 iterate 3 refine aC rfl ?_
 (refine eZ rfl (by first | with_reducible rfl | kernel_rfl) 97 _ rfl g (j*4) rfl (lnC y) (.struct _) (fun _ h=>h.2) Tryz.underlying97 rfl hsy.out ?_;(try simp only[Act.put,gA,gS,gZ,sA,sZ,sS]))
 refine aM rfl rfl (fun K hK=>?_);have hcon:=HS.out V0;go_simp;refine hcon.mono ?_;clear hcon;intro e W hl;have hb:=hIz (tHn B0.out hl.below);obtain⟨rfl,-⟩:=hl;refine hK _ _ (fun _=>SR.out _ hb.out) ?_;clear hK K;have hS:=SR.out _ hb.out;(try simp only[Act.put,gA,gS,gZ,sA,sZ,sS])
 generalize IA x y=cv at HV
 iterate 2 refine aC rfl ?_
 refine aG ?_;go_wp2;go_ret;exact⟨by rw[← HV.out];rfl,hb.out⟩
def PP(w:World)(g i j:Nat)(x y:Ln):World:=(w.setCells g (i*4) (lnC y)).setCells g (j*4) (lnC x)
theorem iD(w:World)(p:Nat)(lp tv:Value)(g n c:Nat)(L:List Ln)(h:QuN w p lp tv (.slice (some ⟨g,0,none⟩) n c) L)(hn:L.length=n)(hgp:¬g=p)(i j:Nat)(x y:Ln)(hi:L[i]?=some x)(hj:L[j]?=some y) :
  Calls Tryz.prog 267 #[.slice (some ⟨g,0,none⟩) n c,.int .i64 (i:Int),.int .i64 (j:Int)] w (fun e w'=>e=.returned (.tuple #[])∧QuN w' p lp tv (.slice (some ⟨g,0,none⟩) n c) (dJ L i j x y)∧Upd (fun k=>k=g) w w'):=by
 subst hn;have hi2:=(gO.1 hi).1;have hj2:=(gO.1 hj).1;have hd:=h.upd (Upd.refl (fun _=>False) w).drew id (fun _ _=>id);have HU:=hIz (show Upd (fun k=>k=g) w (PP w.drew g i j x y) from Upd.setCells (F:=fun k=>k=g) (b:=g) (.inl rfl) _ _ (Upd.setCells (F:=fun k=>k=g) (b:=g) (.inl rfl) _ _ (Upd.refl _ w).drew));have HS:=hIz (show QuN (PP w.drew g i j x y) p lp tv (.slice (some ⟨g,0,none⟩) L.length c) (dJ L i j x y) from by
  refine⟨h.1.upd HU.out (fun e=>hgp e.symm),?_⟩;have o1:=jN (lnC y) (i*4) hd.2 (by show i*4+4≤_;omega);rw[wT L i y hi2] at o1;have o2:=jN (lnC x) (j*4) o1 (by show j*4+4≤_;omega);rw[wT (L.set i y) j x (by simpa using hj2)] at o2;rw[uT];exact o2)
 have hS:(fun W:World=>W.rangeAt g (i*4) (lnC x)∧W.rangeAt g (j*4) (lnC y)) w.drew:=⟨hd.range rfl hi,hd.range rfl hj⟩;have T1:=hIz (hd.there rfl hi2);have T2:=hIz (World.there_setCells (hd.there rfl hj2) g (i*4) (lnC y));have z1:(i:Int)<(L.length:Int):=by omega
 have z2:(j:Int)<(L.length:Int):=by omega
 have hsx:=hIz (nC x);have hsy:=hIz (nC y);clear h hi hj hd;generalize dJ L i j x y=L2 at HS ⊢;generalize L.length=n at HU HS hS z1 z2 hi2 hj2 ⊢;go_enter Tryz.func267,Tryz.ntmps267;refine bE (fun W:World=>W.rangeAt g (i*4) (lnC x)∧W.rangeAt g (j*4) (lnC y)) (aL 13) (by kernel_rfl) ?_;generalize w.drew=V0 at HU HS hS T1 T2 ⊢;intro hd;(refine aA 0 rfl hd hS ?_;clear hd;intro hd;(try simp only[Act.put,gA,gZ,sA,sZ,sS]))
 refine aA 1 rfl hd hS ?_;clear hd;intro hd;(refine aP (i:=2) (v:=?_) rfl (by kernel_rfl) hd (fun _ _ d _ _ h=>by cases d <;> exact h) (by first | with_reducible rfl | kernel_rfl) ?_ ?_;rotate_left;(focus (intro wS;go_simp;(try with_reducible rfl);done));clear hd;intro hd;(try simp only[Act.put,gA,gS,gZ,sA,sZ,sS]))
 (refine aP (i:=3) (v:=?_) rfl (by kernel_rfl) hd (fun _ _ d _ _ h=>by cases d <;> exact h) (by first | with_reducible rfl | kernel_rfl) ?_ ?_;rotate_left;(focus (intro wS;go_simp;(try with_reducible rfl);done));clear hd;intro hd;(try simp only[Act.put,gA,gS,gZ,sA,sZ,sS]))
 refine aA 4 rfl hd hS ?_;clear hd;intro hd;refine aA 5 rfl hd hS ?_;clear hd;intro hd;refine aA 6 rfl hd hS ?_;clear hd;intro hd;(refine oB (i:=7) (v:=.agg (lnC y).toArray) rfl (by kernel_rfl) hd (fun _ _ d _ _ h=>by cases d <;> exact h) hS (by first | with_reducible rfl | kernel_rfl) (fun _ h=>vB 97 _ rfl g (j*4) rfl (lnC y) (.struct _) h.2 Tryz.underlying97 rfl hsy.out) ?_;clear hd;intro hd;(try simp only[Act.put,gA,gS,gZ,sA,sZ,sS]))
 refine aA 8 rfl hd hS ?_;clear hd;intro hd;refine aA 9 rfl hd hS ?_;clear hd;intro hd;refine aA 10 rfl hd hS ?_;clear hd;intro hd;(refine oB (i:=11) (v:=.agg (lnC x).toArray) rfl (by kernel_rfl) hd (fun _ _ d _ _ h=>by cases d <;> exact h) hS (by first | with_reducible rfl | kernel_rfl) (fun _ h=>vB 97 _ rfl g (i*4) rfl (lnC x) (.struct _) h.1 Tryz.underlying97 rfl hsx.out) ?_;clear hd;intro hd;(try simp only[Act.put,gA,gS,gZ,sA,sZ,sS]))
 refine aA 12 rfl hd hS ?_;clear hd;intro hd;refine aO hd 13 ?_;clear hd;intro hd;refine aS (S:=fun W:World=>W.rangeAt g (i*4) (lnC x)∧W.rangeAt g (j*4) (lnC y)) (late:=aL 13) rfl rfl (fun K hK=>?_);refine wp_store_mid 97 _ _ rfl g (i*4) (lnC y).toArray rfl rfl T1.out (by rw[List.size_toArray];exact hsy.out) (all_oneCell_toArray (yS y)) ?_;refine hK _ _ (fun h _=>absurd h (by decide)) ?_;clear hK K hS;(try simp only[Act.put,gA,gS,gZ,sA,sZ,sS])
 (refine aP (i:=14) (v:=?_) rfl (by kernel_rfl) hd (fun _ _ d _ _ h=>by cases d <;> exact h) (by first | with_reducible rfl | kernel_rfl) ?_ ?_;rotate_left;(focus (intro wS;go_simp;(try with_reducible rfl);done));clear hd;intro hd;(try simp only[Act.put,gA,gS,gZ,sA,sZ,sS]))
 refine aO hd 15 ?_;clear hd;intro hd;refine aS (S:=fun W:World=>W.rangeAt g (i*4) (lnC x)∧W.rangeAt g (j*4) (lnC y)) (late:=aL 13) rfl rfl (fun K hK=>?_);refine wp_store_mid 97 _ _ rfl g (j*4) (lnC x).toArray rfl rfl T2.out (by rw[List.size_toArray];exact hsx.out) (all_oneCell_toArray (yS x)) ?_;refine hK _ _ (fun h _=>absurd h (by decide)) ?_;clear hK K;(try simp only[Act.put,gA,gS,gZ,sA,sZ,sS])
 refine cL (by kernel_rfl) ?_;unfold PP at HU HS;generalize (V0.setCells g (i*4) (lnC y)).setCells g (j*4) (lnC x)=WF at HU HS ⊢;go_wp2;exact bodyPost_end (results_none rfl _ _ _) rfl ⟨rfl,HS.out,HU.out⟩
theorem AM(w:World)(p:Nat)(lp tv lv:Value)(L:List Ln)(h:QuN w p lp tv lv L)(hne:∀k,lv.ownBlock=some k→¬k=p)(hl:L.length≤1000000000000)(x:Ln) :
  Calls Tryz.prog 269 #[.pointer (some ⟨p,2,none⟩),.iface 97 (.agg (lnC x).toArray)] w (fun e w'=>e=.returned (.tuple #[])∧QuT w p lp tv lv (fun L'=>L'=L++[x]) w'):=by
 have hS:w.drew.cell? ⟨p,2,none⟩=some lv:=h.1.cell 2;obtain⟨v2,W2,happ,own2,u2,p2⟩:=cI w.drew 0 123 97 4 32 _ Tryz.underlying123 FI rfl (by decide) lv L.length (bP L) (aB h.2 (Upd.refl (fun _=>False) w).drew (fun _ _=>id)) (lnC x) 1 rfl (yS x) (by omega) (by unfold maxLen;omega) (Nat.zero_le _);obtain⟨A2,c2,rfl,-,-⟩:=aK own2;have hb:Blk W2 p 125 #[lp,tv,lv]:=(h.1.drew).upd u2 (fun e=>hne _ e rfl);have hvp:∀k,(Value.slice A2 (L.length+1) c2).ownBlock=some k→¬k=p:=fun k hk e=>by
  subst e;rcases p2 _ hk with h1|h1
  ·exact hne _ h1 rfl
  ·have:=h.1.lt;have:w.heap.size≤k:=h1;omega
 have FIN:=hIz (show QuT w p lp tv lv (fun L'=>L'=L++[x]) (W2.setCell ⟨p,2,none⟩ (.slice A2 (L.length+1) c2)) from by
  refine⟨.slice A2 (L.length+1) c2,L++[x],⟨hb.set 2 _,?_⟩,rfl,?_,p2,hvp⟩
  ·have:=aB own2 ((Upd.refl (fun k=>k=p) W2).setCell (p:=⟨p,2,none⟩) (.inl rfl) (.slice A2 (L.length+1) c2)) hvp;rw[show bP L++lnC x=bP (L++[x]) by simp[bP]] at this;rw[List.length_append];exact this
  ·exact((((Upd.refl _ w).drew).trans (u2.mono (fun k _ hk=>.inr hk)) (fun k hk=>.inl hk))).setCell (p:=⟨p,2,none⟩) (.inl (.inl rfl)) _)
 have cc2:W2.cell? ⟨p,2,none⟩=some lv:=hb.cell 2;have f2:W2.frozen? ⟨p,2,none⟩=false:=hb.frozen 2;have ha:(w.drew.alloc (.cells (lnC x).toArray 97)).cell? ⟨p,2,none⟩=some lv:=((h.1.drew).alloc _).cell 2;clear h hne own2 u2 p2 hb hvp;obtain⟨n1,hn1⟩:∃n1,L.length+1=n1:=⟨_,rfl⟩;rw[hn1] at FIN happ;clear hn1;unfold lnC at happ ha ⊢;go_enter Tryz.func269,Tryz.ntmps269;refine aF (fun W:World=>W.cell? ⟨p,2,none⟩=some lv) 9 [(0,true),(1,true),(2,true),(3,true),(4,true),(5,false),(6,false),(7,false),(8,true),(9,false)] hS ?_;generalize w.drew=V0 at hS happ ha ⊢
 iterate 5 refine aC rfl ?_
 refine aM rfl rfl (fun K hK=>?_);go_simp;refine hK _ _ (fun _=>hS) ?_;clear hK K;(try simp only[Act.put,gA,gS,gZ,sA,sZ,sS])
 refine aM rfl rfl (fun K hK=>?_);go_simp;refine hK _ _ (fun _=>ha) ?_;clear hK K;(try simp only[Act.put,gA,gS,gZ,sA,sZ,sS])
 refine aM rfl rfl (fun K hK=>?_);refine fE _ _ _ rfl rfl rfl happ ?_;refine hK _ _ (fun _=>cc2) ?_;clear hK K;(try simp only[Act.put,gA,gS,gZ,sA,sZ,sS])
 have hS:=cc2;refine aC rfl ?_;refine aM rfl rfl (fun K hK=>?_);go_simp;refine hK _ _ (fun h=>absurd rfl h) ?_;clear hK K;(try simp only[Act.put,gA,gS,gZ,sA,sZ,sS])
 refine aG ?_;generalize W2.setCell ⟨p,2,none⟩ (.slice A2 n1 c2)=WF at FIN ⊢;go_wp2;exact bodyPost_end (results_none rfl _ _ _) rfl ⟨rfl,FIN.out⟩
theorem FL(w:World)(p:Nat)(lp tv lv:Value)(L:List Ln)(h:QuN w p lp tv lv L)(hne:∀k,lv.ownBlock=some k→¬k=p)(hl:L.length≤1000000000000)(L0:List Ln)(x:Ln)(hL:L=L0++[x]) :
  Calls Tryz.prog 268 #[.pointer (some ⟨p,2,none⟩)] w (fun e w'=>e=.returned (.iface 97 (.agg (lnC x).toArray))∧QuT w p lp tv lv (fun L'=>L'=L0) w'):=by
 obtain⟨n,hn⟩:∃n,L0.length=n:=⟨_,rfl⟩;have hlen:L.length=n+1:=by rw[hL,List.length_append,hn];rfl
 have hx:L[n]?=some x:=by rw[hL];simp[← hn]
 obtain⟨g,c,rfl,-,hcn,hglt,-,hc⟩:=aN h.2 (by omega);have hgp:¬g=p:=hne g rfl;rw[hlen] at hcn;have q0:w.cell? ⟨p,2,none⟩=some (.slice (some ⟨g,0,none⟩) (n+1) c):=by rw[← hlen];exact h.1.cell 2
 have hr:=h.range rfl hx;have x0:w.cell? ⟨g,n*4,none⟩=some (.int .i64 (x.1.1:Int)):=hr 0 _ rfl;have x1:w.cell? ⟨g,n*4+1,none⟩=some (.int .i64 (x.1.2.1:Int)):=hr 1 _ rfl;have x2:w.cell? ⟨g,n*4+2,none⟩=some (.int .i64 (x.1.2.2:Int)):=hr 2 _ rfl;have x3:w.cell? ⟨g,n*4+3,none⟩=some (.int .i64 (x.2:Int)):=hr 3 _ rfl;have bA:Below w.heap.size w (w.alloc (.cells (lnC x).toArray 97)):=bR.alloc (Nat.le_refl _) _;have kA:=Blk.new w 97 (lnC x).toArray;have kP:=(h.below bA).1;have HW:=hIz (show QuT w p lp tv (.slice (some ⟨g,0,none⟩) L.length c) (fun L'=>L'=L0) ((w.alloc (.cells (lnC x).toArray 97)).setCell ⟨p,2,none⟩ (.slice (some ⟨g,0,none⟩) n c))∧Blk ((w.alloc (.cells (lnC x).toArray 97)).setCell ⟨p,2,none⟩ (.slice (some ⟨g,0,none⟩) n c)) w.heap.size 97 (lnC x).toArray from by
  have up:=(Upd.refl (fun k=>k=p) (w.alloc (.cells (lnC x).toArray 97))).setCell (p:=⟨p,2,none⟩) (.inl rfl) (.slice (some ⟨g,0,none⟩) n c);refine⟨⟨.slice (some ⟨g,0,none⟩) n c,L0,⟨kP.set 2 _,?_⟩,rfl,((Upd.of_below bA (fun k=>k=p)).trans up (fun k hk=>.inl hk)).mono (fun k _ hk=>.inl hk),fun k hk=>.inl hk,fun k hk=>hne k hk⟩,kA.upd up (by have:=h.1.lt;omega)⟩;have o:=(h.below bA).2;rw[hlen,hL] at o;have o2:=ownsRow_pop (n:=n) (xs:=bP L0) (last:=lnC x) (size:=4) (by rw[oW,hn]) (by simpa[bP] using o);rw[hn];exact aB o2 up hne)
 have a0:(w.alloc (.cells (lnC x).toArray 97)).cell? ⟨p,2,none⟩=some (.slice (some ⟨g,0,none⟩) L.length c):=kP.cell 2;have f0:(w.alloc (.cells (lnC x).toArray 97)).frozen? ⟨p,2,none⟩=false:=kP.frozen 2;rw[hlen] at a0;have hw1:IntKind.i64.wrap (((n+1:Nat):Int)-1)=(n:Int):=by rw[IntWalk.i64_in (((n+1:Nat):Int)-1) (by omega)];omega
 have z1:(n:Int)<((n+1:Nat):Int):=by omega
 have z2:n≤c:=by omega
 have z3:n<n+1:=by omega
 have z4:n<1000000000000:=by omega
 clear h hc hL hlen hn hne hgp hx hr bA kA kP hl hglt;unfold lnC at HW a0 f0 ⊢;go_enter Tryz.func268,Tryz.ntmps268;go_upto_region 4 with (fail);generalize (w.alloc (.cells _ 97)).setCell ⟨p,2,none⟩ (.slice (some ⟨g,0,none⟩) n c)=W1 at HW ⊢;have y0:W1.cell? ⟨w.heap.size,0,none⟩=some (.int .i64 (x.1.1:Int)):=HW.out.2.cell 0;have y1:W1.cell? ⟨w.heap.size,1,none⟩=some (.int .i64 (x.1.2.1:Int)):=HW.out.2.cell 1;have y2:W1.cell? ⟨w.heap.size,2,none⟩=some (.int .i64 (x.1.2.2:Int)):=HW.out.2.cell 2;have y3:W1.cell? ⟨w.heap.size,3,none⟩=some (.int .i64 (x.2:Int)):=HW.out.2.cell 3;go_wp2;go_ret;exact⟨rfl,HW.out.1⟩
open Go.RowKit Go.Shelf
def quV(p:Nat):Value:=.iface 127 (.pointer (some ⟨p,2,none⟩))
theorem wU(w:World)(p:Nat)(lv:Value)(h:w.cell? ⟨p,2,none⟩=some lv):(loadVar 123 ⟨p,2,none⟩).run Tryz.prog w=.ok lv w:=by
 go_simp
theorem FM(p:Nat)(nm:String)(w:World):(receiverAt 127 (.val (.pointer (some ⟨p,2,none⟩))) false (some nm)).run Tryz.prog w=(loadVar 123 ⟨p,2,none⟩).run Tryz.prog w:=by kernel_rfl
theorem PQ(p n : Nat)(w : World) : (method (n + 1) 127 (.pointer (some ⟨p, 2, none⟩)) "Len").run Tryz.prog w = (receiverAt 127 (.val (.pointer (some ⟨p, 2, none⟩))) false (some "Len") >>= fun v => pure (54, v)).run Tryz.prog w := by kernel_rfl
theorem MX{p : Nat}{w : World}{lv : Value}(h : w.cell? ⟨p, 2, none⟩ = some lv)(n : Nat) : (method (n + 1) 127 (.pointer (some ⟨p, 2, none⟩)) "Len").run Tryz.prog w = .ok (54, lv) w := by
 rw[PQ,Sem.run_bind,FM,wU w p lv h];rfl
theorem LG(p n : Nat)(w : World) : (method (n + 1) 127 (.pointer (some ⟨p, 2, none⟩)) "Less").run Tryz.prog w = (receiverAt 127 (.val (.pointer (some ⟨p, 2, none⟩))) false (some "Less") >>= fun v => pure (266, v)).run Tryz.prog w := by kernel_rfl
theorem oY{p : Nat}{w : World}{lv : Value}(h : w.cell? ⟨p, 2, none⟩ = some lv)(n : Nat) : (method (n + 1) 127 (.pointer (some ⟨p, 2, none⟩)) "Less").run Tryz.prog w = .ok (266, lv) w := by
 rw[LG,Sem.run_bind,FM,wU w p lv h];rfl
theorem LH(p n : Nat)(w : World) : (method (n + 1) 127 (.pointer (some ⟨p, 2, none⟩)) "Swap").run Tryz.prog w = (receiverAt 127 (.val (.pointer (some ⟨p, 2, none⟩))) false (some "Swap") >>= fun v => pure (267, v)).run Tryz.prog w := by kernel_rfl
theorem oZ{p : Nat}{w : World}{lv : Value}(h : w.cell? ⟨p, 2, none⟩ = some lv)(n : Nat) : (method (n + 1) 127 (.pointer (some ⟨p, 2, none⟩)) "Swap").run Tryz.prog w = .ok (267, lv) w := by
 rw[LH,Sem.run_bind,FM,wU w p lv h];rfl
theorem PR(p n : Nat)(w : World) : (method (n + 1) 127 (.pointer (some ⟨p, 2, none⟩)) "Push").run Tryz.prog w = .ok (269, .pointer (some ⟨p, 2, none⟩)) w := by kernel_rfl
theorem SG(p n : Nat)(w : World) : (method (n + 1) 127 (.pointer (some ⟨p, 2, none⟩)) "Pop").run Tryz.prog w = .ok (268, .pointer (some ⟨p, 2, none⟩)) w := by kernel_rfl
def QuP(w:World)(p:Nat)(lp tv:Value)(g n c:Nat)(L:List Ln)(C:List Ln→Prop)(w':World):Prop:=∃L',L'.Perm L∧C L'∧QuN w' p lp tv (.slice (some ⟨g,0,none⟩) n c) L'∧Upd (fun k=>k=g) w w'
theorem vC{k j1 j2 i:Nat}{C:Prop}(h1:2*k+1=j1)(h2:j1+1=j2)(h0:0<i)(h3:(i-1) / 2=k)(a:i=j1→C)(b:i=j2→C):C:=by
 rcases (by omega:i=j1∨i=j2) with e|e
 ·exact a e
 ·exact b e
theorem FO{k j1 m i:Nat}{C:Prop}(h1:2*k+1=j1)(h0:0<i)(h2:i<m)(h3:(i-1) / 2=k)(hn:¬((j1:Int)+1<(m:Int)))(a:i=j1→C):C:=a (by omega)
theorem PS(w:World)(p:Nat)(lp tv:Value)(g n c:Nat)(L:List Ln)(h:QuN w p lp tv (.slice (some ⟨g,0,none⟩) n c) L)(hn:L.length=n)(hgp:¬g=p)(hl:n≤2000000000000)(j:Nat)(hj:j<n)(hh:HpU L n j) :
  Calls Tryz.prog 152 #[quV p,.int .i64 (j:Int)] w (fun e w'=>e=.returned (.tuple #[])∧QuP w p lp tv g n c L (fun L'=>HpM L' n) w'):=by
 have H:=aI4 h hgp hn hh;clear h hgp hn hh;unfold quV;go_enter Tryz.func152,Tryz.ntmps152;go_wp2;go_loopw [1,4] (fun jv _ wr=>∃(k:Nat) (L1:List Ln),k<n∧jv=.int .i64 (k:Int)∧Hid (L1.Perm L∧HpU L1 n k∧QuN wr p lp tv (.slice (some ⟨g,0,none⟩) n c) L1∧Upd (fun k=>k=g) w wr)) (fun jv _ _=>(intOf jv).toNat)
 case atStart=>exact⟨j,L,hj,rfl,hIz ⟨List.Perm.refl _,H.out.2.2.2,H.out.1,Upd.refl _ _⟩⟩
 case round =>
  obtain⟨k,L1,hk,rfl,hq⟩:=hrel;have hlen:Hid (L1.length=n):=hIz (by rw[hq.out.1.length_eq];exact H.out.2.2.1);by_cases h0:k=0
  ·subst h0;have FIN:=hIz (show QuP w p lp tv g n c L (fun L'=>HpM L' n) wr from⟨L1,hq.out.1,hq.out.2.1.stop0,hq.out.2.2⟩);clear hq hlen;have e1:IntKind.i64.wrap (((0:Nat):Int)-1) = -1:=by decide
   go_wp2;exact bodyPost_end (results_none rfl _ _ _) rfl ⟨rfl,FIN.out⟩
  ·obtain⟨q,hqd⟩:∃q,(k-1) / 2=q:=⟨_,rfl⟩;have HK:=hIz (show 0<k∧(k-1) / 2=q from⟨by omega,hqd⟩);have e1:IntKind.i64.wrap ((k:Int)-1)=(k:Int)-1:=IntWalk.i64_in _ (by omega);have e2:((k:Int)-1).tdiv 2=(q:Int):=by
    rw[Int.tdiv_eq_ediv_of_nonneg (by omega)];omega
   have e4:((k:Int)-1) / 2=(q:Int):=by omega
   have e3:(((q:Int))==(k:Int))=false:=by simp;omega
   have hqk:q<k:=by omega
   clear hqd;obtain⟨y,hy⟩:∃x,L1[k]?=some x:=⟨_,gEz (by rw[hlen.out];exact hk)⟩;obtain⟨x,hx⟩:∃x,L1[q]?=some x:=⟨_,gEz (by rw[hlen.out];omega)⟩;have hle:=iC wr p lp tv g n c L1 hq.out.2.2.1 hlen.out k q y x hy hx;have hm1:=fun n=>oY (hq.out.2.2.1.1.cell 2) n
   have HX:=aI2 hx hy;clear hx hy;go_wp2_with fail;refine hle.mono ?_;clear hle hm1;rintro e V ⟨rfl,hb⟩;have H1:=aI2 (hq.out.2.2.1.below hb) (hq.out.2.2.2.trans (upF hb) (fun _ h=>h.elim));clear hb;cases hlt:mU y x with
   | true =>
    have hsw:=iD V p lp tv g n c L1 H1.out.1 hlen.out H.out.2.1 q k x y HX.out.1 HX.out.2;have hm1:=fun n=>oZ (H1.out.1.1.cell 2) n
    have HL:=hIz hlt;clear hlt;go_wp2_with fail;refine hsw.mono ?_;clear hsw hm1;rintro e V2 ⟨rfl,hs,hu⟩;have H2:=hIz (show(dJ L1 q k x y).Perm L∧HpU (dJ L1 q k x y) n q∧QuN V2 p lp tv (.slice (some ⟨g,0,none⟩) n c) (dJ L1 q k x y)∧Upd (fun k=>k=g) w V2 from⟨(gX HX.out.1 HX.out.2).trans hq.out.1,hq.out.2.1.step HK.out.1 hk HK.out.2 HX.out.2 HX.out.1 HL.out,hs,H1.out.2.trans hu (fun _ h=>.inl h)⟩);clear hs hu;go_wp2;go_roundw
    case rel=>exact⟨q,dJ L1 q k x y,by omega,rfl,H2⟩
    case measure=>simp[intOf];omega
   | false =>
    have FIN:=hIz (show QuP w p lp tv g n c L (fun L'=>HpM L' n) V from⟨L1,hq.out.1,hq.out.2.1.stop HX.out.2 (by rw[HK.out.2];exact HX.out.1) hlt,H1.out⟩);clear hlt;go_wp2;exact bodyPost_end (results_none rfl _ _ _) rfl ⟨rfl,FIN.out⟩
theorem FP(w:World)(p:Nat)(lp tv:Value)(g n c:Nat)(L:List Ln)(h:QuN w p lp tv (.slice (some ⟨g,0,none⟩) n c) L)(hn:L.length=n)(hgp:¬g=p)(hl:n≤2000000000000)(m:Nat)(hm:m<n)(hh:HpD L m 0) :
  Calls Tryz.prog 89 #[quV p,.int .i64 0,.int .i64 (m:Int)] w (fun e w'=>(∃b,e=.returned (.bool b))∧QuP w p lp tv g n c L (fun L'=>HpM L' m∧L'[m]?=L[m]?) w'):=by
 have H:=aI4 h hgp hn hh;clear h hgp hn hh;unfold quV;go_enter Tryz.func89,Tryz.ntmps89;go_wp2;go_loopw [7] (fun iv wr=>∃(k:Nat) (L1:List Ln),k≤n∧iv=.int .i64 (k:Int)∧Hid (L1.Perm L∧HpD L1 m k∧L1[m]?=L[m]?∧QuN wr p lp tv (.slice (some ⟨g,0,none⟩) n c) L1∧Upd (fun k=>k=g) w wr)) (fun iv _=>n-(intOf iv).toNat)
 case atStart=>exact⟨0,L,by omega,rfl,hIz ⟨List.Perm.refl _,H.out.2.2.2,rfl,H.out.1,Upd.refl _ _⟩⟩
 case round =>
  obtain⟨k,L1,hk,rfl,hq⟩:=hrel;have hlen:Hid (L1.length=n):=hIz (by rw[hq.out.1.length_eq];exact H.out.2.2.1);have e1:IntKind.i64.wrap (2*(k:Int))=2*(k:Int):=IntWalk.i64_in _ (by omega);have e2:IntKind.i64.wrap (2*(k:Int)+1)=2*(k:Int)+1:=IntWalk.i64_in _ (by omega);by_cases h0:2*k+1<m
  ·have h0':2*(k:Int)+1<(m:Int):=by omega
   obtain⟨j1,hj1⟩:∃j1,2*k+1=j1:=⟨_,rfl⟩;have HJ:=hIz hj1;have e3:2*(k:Int)+1=(j1:Int):=by omega
   have e4:IntKind.i64.wrap ((j1:Int)+1)=(j1:Int)+1:=IntWalk.i64_in _ (by omega);have hkn:k<n:=by omega
   obtain⟨x,hx⟩:∃x,L1[k]?=some x:=⟨_,gEz (by rw[hlen.out];omega)⟩;obtain⟨y1,hy1⟩:∃x,L1[j1]?=some x:=⟨_,gEz (by rw[hlen.out];omega)⟩;have hkj:k<j1:=by omega
   have hjm:(j1:Int)<(m:Int):=by omega
   have hjm2:j1<m:=by omega
   have hj0:¬((j1:Int)<0):=by omega
   have H0:=hIz (show QuN wr p lp tv (.slice (some ⟨g,0,none⟩) n c) L1∧Upd (fun k=>k=g) w wr from hq.out.2.2.2);clear hj1 h0 h0';by_cases h2:j1+1<m
   ·obtain⟨j2,hj2⟩:∃j2,j1+1=j2:=⟨_,rfl⟩;have HJ2:=hIz hj2;have e5:(j1:Int)+1=(j2:Int):=by omega
    have h2':(j2:Int)<(m:Int):=by omega
    have h2m:j2<m:=by omega
    have hkj2:k<j2:=by omega
    clear hj2 h2;obtain⟨y2,hy2⟩:∃x,L1[j2]?=some x:=⟨_,gEz (by rw[hlen.out];omega)⟩;have hle:=iC wr p lp tv g n c L1 H0.out.1 hlen.out j2 j1 y2 y1 hy2 hy1;have hm1:=fun n=>oY (H0.out.1.1.cell 2) n
    have HY:=aI3 hx hy1 hy2;clear hx hy1 hy2;go_wp2_with fail;refine hle.mono ?_;clear hle hm1;rintro e W0 ⟨rfl,hb⟩;have H1:=aI2 (H0.out.1.below hb) (H0.out.2.trans (upF hb) (fun _ h=>h.elim));clear hb;cases hl2:mU y2 y1 with
    | true =>
     have HL2:=hIz hl2;clear hl2;have hx:=HY.out.1;have hjx:=HY.out.2.2;have hle:=iC W0 p lp tv g n c L1 H1.out.1 hlen.out j2 k y2 x hjx hx;have hm1:=fun n=>oY (H1.out.1.1.cell 2) n
     have HX:=aI2 hjx hx;have HC:=hIz (show ∀i v,0<i→i<m→(i-1) / 2=k→L1[i]?=some v→leN y2 v from fun i v h1 h2 h3 h4=>vC HJ.out HJ2.out h1 h3 (fun e=>by subst e;rw[HY.out.2.1] at h4;obtain rfl:=Option.some.inj h4;exact .of HL2.out) (fun e=>by subst e;rw[HY.out.2.2] at h4;obtain rfl:=Option.some.inj h4;exact .refl _));clear hjx hx;go_wp2_with fail;refine hle.mono ?_;clear hle hm1;rintro e W1 ⟨rfl,hb⟩;have H5:=aI2 (H1.out.1.below hb) (H1.out.2.trans (upF hb) (fun _ h=>h.elim));clear hb;cases hlt:mU y2 x with
     | true =>
      have hsw:=iD W1 p lp tv g n c L1 H5.out.1 hlen.out H.out.2.1 k j2 x y2 HX.out.2 HX.out.1;have hm1:=fun n=>oZ (H5.out.1.1.cell 2) n
      have HL:=hIz hlt;clear hlt;go_wp2_with fail;refine hsw.mono ?_;clear hsw hm1;rintro e V9 ⟨rfl,hs,hu⟩;have H6:=hIz (show(dJ L1 k j2 x y2).Perm L∧HpD (dJ L1 k j2 x y2) m j2∧(dJ L1 k j2 x y2)[m]?=L[m]?∧QuN V9 p lp tv (.slice (some ⟨g,0,none⟩) n c) (dJ L1 k j2 x y2)∧Upd (fun k=>k=g) w V9 from⟨(gX HX.out.2 HX.out.1).trans hq.out.1,hq.out.2.1.step (by omega) (by omega) (by have:=HJ.out;have:=HJ2.out;omega) HX.out.2 HX.out.1 HC.out HL.out,(by rw[fA HX.out.2 HX.out.1,if_neg (by omega),if_neg (by omega)];exact hq.out.2.2.1),hs,H5.out.2.trans hu (fun _ h=>.inl h)⟩);clear hs hu;go_wp2;go_roundw
      case rel=>exact⟨j2,dJ L1 k j2 x y2,by omega,rfl,H6⟩
      case measure=>simp[intOf];omega
     | false =>
      have FIN:=hIz (show QuP w p lp tv g n c L (fun L'=>HpM L' m∧L'[m]?=L[m]?) W1 from⟨L1,hq.out.1,⟨hq.out.2.1.stop HX.out.2 HC.out hlt,hq.out.2.2.1⟩,H5.out⟩);clear hlt hq hlen H5;go_wp2;go_ret;exact⟨⟨_,rfl⟩,FIN.out⟩
    | false =>
     have HL2:=hIz hl2;clear hl2;have hx:=HY.out.1;have hjx:=HY.out.2.1;have hle:=iC W0 p lp tv g n c L1 H1.out.1 hlen.out j1 k y1 x hjx hx;have hm1:=fun n=>oY (H1.out.1.1.cell 2) n
     have HX:=aI2 hjx hx;have HC:=hIz (show ∀i v,0<i→i<m→(i-1) / 2=k→L1[i]?=some v→leN y1 v from fun i v h1 h2 h3 h4=>vC HJ.out HJ2.out h1 h3 (fun e=>by subst e;rw[HY.out.2.1] at h4;obtain rfl:=Option.some.inj h4;exact .refl _) (fun e=>by subst e;rw[HY.out.2.2] at h4;obtain rfl:=Option.some.inj h4;exact HL2.out));clear hjx hx;go_wp2_with fail;refine hle.mono ?_;clear hle hm1;rintro e W1 ⟨rfl,hb⟩;have H5:=aI2 (H1.out.1.below hb) (H1.out.2.trans (upF hb) (fun _ h=>h.elim));clear hb;cases hlt:mU y1 x with
     | true =>
      have hsw:=iD W1 p lp tv g n c L1 H5.out.1 hlen.out H.out.2.1 k j1 x y1 HX.out.2 HX.out.1;have hm1:=fun n=>oZ (H5.out.1.1.cell 2) n
      have HL:=hIz hlt;clear hlt;go_wp2_with fail;refine hsw.mono ?_;clear hsw hm1;rintro e V9 ⟨rfl,hs,hu⟩;have H6:=hIz (show(dJ L1 k j1 x y1).Perm L∧HpD (dJ L1 k j1 x y1) m j1∧(dJ L1 k j1 x y1)[m]?=L[m]?∧QuN V9 p lp tv (.slice (some ⟨g,0,none⟩) n c) (dJ L1 k j1 x y1)∧Upd (fun k=>k=g) w V9 from⟨(gX HX.out.2 HX.out.1).trans hq.out.1,hq.out.2.1.step (by omega) (by omega) (by have:=HJ.out;omega) HX.out.2 HX.out.1 HC.out HL.out,(by rw[fA HX.out.2 HX.out.1,if_neg (by omega),if_neg (by omega)];exact hq.out.2.2.1),hs,H5.out.2.trans hu (fun _ h=>.inl h)⟩);clear hs hu;go_wp2;go_roundw
      case rel=>exact⟨j1,dJ L1 k j1 x y1,by omega,rfl,H6⟩
      case measure=>simp[intOf];omega
     | false =>
      have FIN:=hIz (show QuP w p lp tv g n c L (fun L'=>HpM L' m∧L'[m]?=L[m]?) W1 from⟨L1,hq.out.1,⟨hq.out.2.1.stop HX.out.2 HC.out hlt,hq.out.2.2.1⟩,H5.out⟩);clear hlt hq hlen H5;go_wp2;go_ret;exact⟨⟨_,rfl⟩,FIN.out⟩
   ·have h2':(m:Int)≤(j1:Int)+1:=by omega
    have h2n:¬((j1:Int)+1<(m:Int)):=by omega
    have HY:=aI2 hx hy1;clear hx hy1;have hx:=HY.out.1;have hjx:=HY.out.2;have hle:=iC wr p lp tv g n c L1 H0.out.1 hlen.out j1 k y1 x hjx hx;have hm1:=fun n=>oY (H0.out.1.1.cell 2) n
    have HX:=aI2 hjx hx;have HC:=hIz (show ∀i v,0<i→i<m→(i-1) / 2=k→L1[i]?=some v→leN y1 v from fun i v h1 h2 h3 h4=>FO HJ.out h1 h2 h3 h2n (fun e=>by subst e;rw[HY.out.2] at h4;obtain rfl:=Option.some.inj h4;exact .refl _));clear hjx hx;go_wp2_with fail;refine hle.mono ?_;clear hle hm1;rintro e W1 ⟨rfl,hb⟩;have H5:=aI2 (H0.out.1.below hb) (H0.out.2.trans (upF hb) (fun _ h=>h.elim));clear hb;cases hlt:mU y1 x with
    | true =>
     have hsw:=iD W1 p lp tv g n c L1 H5.out.1 hlen.out H.out.2.1 k j1 x y1 HX.out.2 HX.out.1;have hm1:=fun n=>oZ (H5.out.1.1.cell 2) n
     have HL:=hIz hlt;clear hlt;go_wp2_with fail;refine hsw.mono ?_;clear hsw hm1;rintro e V9 ⟨rfl,hs,hu⟩;have H6:=hIz (show(dJ L1 k j1 x y1).Perm L∧HpD (dJ L1 k j1 x y1) m j1∧(dJ L1 k j1 x y1)[m]?=L[m]?∧QuN V9 p lp tv (.slice (some ⟨g,0,none⟩) n c) (dJ L1 k j1 x y1)∧Upd (fun k=>k=g) w V9 from⟨(gX HX.out.2 HX.out.1).trans hq.out.1,hq.out.2.1.step (by omega) (by omega) (by have:=HJ.out;omega) HX.out.2 HX.out.1 HC.out HL.out,(by rw[fA HX.out.2 HX.out.1,if_neg (by omega),if_neg (by omega)];exact hq.out.2.2.1),hs,H5.out.2.trans hu (fun _ h=>.inl h)⟩);clear hs hu;go_wp2;go_roundw
     case rel=>exact⟨j1,dJ L1 k j1 x y1,by omega,rfl,H6⟩
     case measure=>simp[intOf];omega
    | false =>
     have FIN:=hIz (show QuP w p lp tv g n c L (fun L'=>HpM L' m∧L'[m]?=L[m]?) W1 from⟨L1,hq.out.1,⟨hq.out.2.1.stop HX.out.2 HC.out hlt,hq.out.2.2.1⟩,H5.out⟩);clear hlt hq hlen H5;go_wp2;go_ret;exact⟨⟨_,rfl⟩,FIN.out⟩
  ·have h0':(m:Int)≤2*(k:Int)+1:=by omega
   have FIN:=hIz (show QuP w p lp tv g n c L (fun L'=>HpM L' m∧L'[m]?=L[m]?) wr from⟨L1,hq.out.1,⟨hq.out.2.1.none (by omega),hq.out.2.2.1⟩,hq.out.2.2.2⟩);clear hq hlen;go_wp2;go_ret;exact⟨⟨_,rfl⟩,FIN.out⟩
open Go.RowKit Go.Shelf
theorem HpM.push{L:List Ln}{n:Nat}(h:HpM L n)(hn:L.length=n)(x:Ln):HpM (L++[x]) n:=fun i u v h0 h1 hu hv=>by
 rw[List.getElem?_append_left (by omega)] at hu hv;exact h i u v h0 h1 hu hv
theorem HpM.drop{L L0:List Ln}{n:Nat}{a:Ln}(h:HpM L n)(hn:L0.length=n)(e:L=L0++[a]):HpM L0 n:=fun i u v h0 h1 hu hv=>by
 subst e;exact h i u v h0 h1 (by rw[List.getElem?_append_left (by omega)];exact hu) (by rw[List.getElem?_append_left (by omega)];exact hv)
theorem AN{L:List Ln}{n:Nat}{a:Ln}(hn:L.length=n+1)(h:L[n]?=some a):∃L0,L=L0++[a]∧L0.length=n:=by
 have hne:L≠[]:=fun e=>by rw[e] at hn;cases hn
 refine⟨L.dropLast,?_,by rw[List.length_dropLast,hn];rfl⟩;have h2:=List.getLast?_eq_getElem? (l:=L);rw[hn,Nat.add_sub_cancel,h,List.getLast?_eq_some_getLast hne] at h2;rw[← Option.some.inj h2];exact(List.dropLast_concat_getLast hne).symm
theorem QuT.after{w w1 w':World}{p:Nat}{lp tv lv:Value}{C:List Ln→Prop}(h:QuT w1 p lp tv lv C w')(hb:Upd (fun k=>k=p∨lv.ownBlock=some k) w w1):QuT w p lp tv lv C w':=by
 obtain⟨lv',L',h1,h2,h3,h4,h5⟩:=h;exact⟨lv',L',h1,h2,hb.trans h3 (fun k hk=>.inl hk),fun k hk=>(h4 k hk).imp id (fun h=>Nat.le_trans hb.size h),h5⟩
theorem AO(w:World)(p:Nat)(lp tv lv:Value)(L:List Ln)(h:QuN w p lp tv lv L)(hne:∀k,lv.ownBlock=some k→¬k=p)(hl:L.length≤1000000000000)(hh:HpM L L.length)(x:Ln) :
  Calls Tryz.prog 113 #[quV p,.iface 97 (.agg (lnC x).toArray)] w (fun e w'=>e=.returned (.tuple #[])∧QuT w p lp tv lv (fun L'=>L'.Perm (x::L)∧HpM L' L'.length) w'):=by
 have hpu:=AM w p lp tv lv L h hne hl x;have hm1:=fun n=>PR p n w
 have HL:=aI2 hl hh;clear h hne hl hh;unfold quV;go_enter Tryz.func113,Tryz.ntmps113;go_wp2_with fail;refine hpu.mono ?_;clear hpu hm1;rintro e W1 ⟨rfl,lv1,L1,h1,hL1,hu1,ho1,hn1⟩;obtain⟨n,hn⟩:∃n,L.length=n:=⟨_,rfl⟩;have hl2:L1.length=n+1:=by rw[hL1,List.length_append,hn];rfl
 obtain⟨g,c,e,-,-,-,-,-⟩:=aN h1.2 (by omega);rw[hl2] at e;subst e;have hgp:¬g=p:=hn1 g rfl;have hlen:=oX W1 (some ⟨g,0,none⟩) (n+1) c;have hm1:=fun n=>MX (h1.1.cell 2) n
 have hn9:n≤1000000000000:=by have:=HL.out.1;omega
 have hup:=PS W1 p lp tv g (n+1) c L1 h1 hl2 hgp (by omega) n (by omega) (.start (by rw[hL1];exact HpM.push (by have:=HL.out.2;rwa [hn] at this) hn x));unfold quV at hup;have H1:=aI5 hu1 ho1 hn1 hL1 hl2;clear h1 hu1 ho1 hn1 hL1 hl2 hn HL hgp;go_wp2_with fail;refine hlen.mono ?_;clear hlen hm1;rintro e W2 ⟨rfl,hw⟩;subst W2;have e1:IntKind.i64.wrap (((n+1:Nat):Int)-1)=(n:Int):=by
  rw[IntWalk.i64_in (((n+1:Nat):Int)-1) (by omega)];omega
 go_wp2_with fail;refine hup.mono ?_;clear hup;rintro e W3 ⟨rfl,L3,hp3,hh3,hs3,hu3⟩;have FIN:=hIz (show QuT w p lp tv lv (fun L'=>L'.Perm (x::L)∧HpM L' L'.length) W3 from⟨_,L3,hs3,⟨hp3.trans (by rw[H1.out.2.2.2.1];exact List.perm_append_singleton x L),by rw[hp3.length_eq,H1.out.2.2.2.2];exact hh3⟩,H1.out.1.trans hu3 (fun k hk=>(H1.out.2.1 k (by rw[hk];rfl)).imp (fun h=>.inr h) id),H1.out.2.1,H1.out.2.2.1⟩);clear hp3 hs3 hu3 hh3;go_wp2;exact bodyPost_end (results_none rfl _ _ _) rfl ⟨rfl,FIN.out⟩
def SH(w:World)(p:Nat)(lp tv lv:Value)(L:List Ln)(e:Ending)(w':World):Prop:=∃x,e=.returned (.iface 97 (.agg (lnC x).toArray))∧QuT w p lp tv lv (fun L'=>L.Perm (x::L')∧(∀y∈L',leN x y)∧HpM L' L'.length) w'
theorem FQ(w:World)(p:Nat)(lp tv lv:Value)(L:List Ln)(h:QuN w p lp tv lv L)(hne:∀k,lv.ownBlock=some k→¬k=p)(hl:L.length≤1000000000000)(h0:0<L.length)(hh:HpM L L.length) :
  Calls Tryz.prog 55 #[quV p] w (SH w p lp tv lv L):=by
 obtain⟨n,hn⟩:∃n,L.length=n+1:=⟨L.length-1,by omega⟩;have hnl:n+1≤1000000000000:=by omega
 obtain⟨g,c,rfl,-,-,-,-,-⟩:=aN h.2 h0;rw[hn] at h hne;have hgp:¬g=p:=hne g rfl;have hlen:=oX w (some ⟨g,0,none⟩) (n+1) c;have hm1:=fun n=>MX (h.1.cell 2) n
 have H:=aI4 h hgp hn (by rw[hn] at hh;exact hh:HpM L (n+1));rw[hn];clear h hne hl h0 hn hh hgp;unfold quV;go_enter Tryz.func55,Tryz.ntmps55;go_wp2_with fail;refine hlen.mono ?_;clear hlen hm1;rintro e W2 ⟨rfl,hw⟩;subst W2;have e1:IntKind.i64.wrap (((n+1:Nat):Int)-1)=(n:Int):=by
  rw[IntWalk.i64_in (((n+1:Nat):Int)-1) (by omega)];omega
 obtain⟨a,ha⟩:∃x,L[0]?=some x:=⟨_,gEz (by rw[H.out.2.2.1];omega)⟩;obtain⟨b,hb⟩:∃x,L[n]?=some x:=⟨_,gEz (by rw[H.out.2.2.1];omega)⟩;have hsw:=iD w p lp tv g (n+1) c L H.out.1 H.out.2.2.1 H.out.2.1 0 n a b ha hb;have HP:=aI4 (gX ha hb) (HpD.start H.out.2.2.2 ha hb) (H.out.2.2.2.root (Nat.le_of_eq H.out.2.2.1.symm) ha) (show(dJ L 0 n a b)[n]?=some a by rw[fA ha hb,if_pos rfl]);have hm1:=fun n=>oZ (H.out.1.1.cell 2) n
 clear ha hb;go_wp2_with fail;refine hsw.mono ?_;clear hsw hm1;rintro e W3 ⟨rfl,hs3,hu3⟩;have hl3:(dJ L 0 n a b).length=n+1:=by rw[uT,H.out.2.2.1]
 have hdn:=FP W3 p lp tv g (n+1) c _ hs3 hl3 H.out.2.1 (by omega) n (by omega) HP.out.2.1;unfold quV at hdn;have H3:=aI2 hu3 hl3;clear hs3 hu3 hl3;go_wp2_with fail;refine hdn.mono ?_;clear hdn;rintro e W4 ⟨⟨bb,rfl⟩,L4,hp4,⟨hh4,ha4⟩,hs4,hu4⟩;have hL4:L4.length=n+1:=by rw[hp4.length_eq,H3.out.2]
 obtain⟨L5,e5,hl5⟩:=AN hL4 (ha4.trans HP.out.2.2.2);have hpp:=FL W4 p lp tv _ L4 hs4 (fun k hk=>by injection hk with hk;rw[← hk];exact H.out.2.1) (by omega) L5 a e5;have hperm:L.Perm (a::L5):=by
  refine(hp4.trans HP.out.1).symm.trans ?_;rw[e5];exact List.perm_append_singleton a L5
 have H4:=hIz (show L.Perm (a::L5)∧(∀y∈L5,leN a y)∧HpM L5 L5.length∧Upd (fun k=>k=p∨(Value.slice (some ⟨g,0,none⟩) (n+1) c).ownBlock=some k) w W4 from⟨hperm,fun y hy=>by
  obtain⟨i,hi⟩:=List.getElem?_of_mem (hperm.mem_iff.2 (List.mem_cons_of_mem _ hy));exact HP.out.2.2.1 i y (by have:=(gO.1 hi).1;rw[H.out.2.2.1] at this;exact this) hi,by rw[hl5];exact hh4.drop hl5 e5,(H3.out.1.trans hu4 (fun k hk=>.inl hk)).mono (fun k _ hk=>.inr (by rw[hk];rfl))⟩)
 have hm1:=fun n=>SG p n W4
 clear hp4 hh4 ha4 hs4 hu4 hL4 e5 hl5 hperm;go_wp2_with fail;refine hpp.mono ?_;clear hpp hm1;rintro e W5 ⟨rfl,ht⟩;have FIN:=hIz (show SH w p lp tv (.slice (some ⟨g,0,none⟩) (n+1) c) L (.returned (.iface 97 (.agg (lnC a).toArray))) W5 from⟨a,rfl,by
  obtain⟨lv',L',h1,h2,h3⟩:=ht.after H4.out.2.2.2;exact⟨lv',L',h1,by rw[h2];exact⟨H4.out.1,H4.out.2.1,H4.out.2.2.1⟩,h3⟩⟩)
 clear ht;go_wp2;go_ret;exact FIN.out
open Go.RowKit Go.Shelf
def fcV(f:Fc):Value:=.agg (faC f).toArray
def kvL(K:List Ln):List (Value × Value):=K.map (fun x=>(fcV x.1,.int .i64 (x.2:Int)))
theorem TS:Maps.Keyed Tryz.prog 30:=Maps.Keyed.of_law (deep_law_laid (by kernel_rfl) (m:=3) (by omega) (by decide +kernel) (by kernel_rfl) (by kernel_rfl))
theorem SI:∃m,Tryz.prog.types.size=m+3:=⟨Tryz.prog.types.size-3,by kernel_rfl⟩
def FcB(f:Fc):Prop:=f.1≤1000000∧f.2.1≤1000000∧f.2.2≤1000000
theorem SJ:Tryz.prog.keyType 30=true:=by kernel_rfl
theorem SK:Tryz.prog.cellsOf 30=3:=by kernel_rfl
theorem SL:Tryz.prog.cellsOf 3=1:=by kernel_rfl
theorem FR{f:Fc}(hf:FcB f):∃l,keyOf Tryz.prog 30 (fcV f)=some l:=by
 obtain⟨h1,h2,h3⟩:=hf;have hw:∀x:Nat,x≤1000000→(Lit.int .i64 (x:Int)).wf=true:=fun x hx=>by
  unfold Lit.wf;rw[Bool.and_eq_true,decide_eq_true_eq,decide_eq_true_eq,show IntKind.i64.min = -9223372036854775808 from rfl,show IntKind.i64.max=9223372036854775807 from rfl];omega
 have w1:=hw _ h1;have w2:=hw _ h2;have w3:=hw _ h3;unfold keyOf fcV faC;obtain⟨m,hm⟩:=SI;rw[hm];clear hm;simp[Tryz.underlying30,SJ,Value.formed,Value.cells,SK,SL,Program.keyLits,Tryz.underlying3,w1,w2,w3]
theorem PT{f g:Fc}(h:fcV f=fcV g):f=g:=by
 obtain⟨a,b,c⟩:=f;obtain⟨a',b',c'⟩:=g;simp only[fcV,faC,Value.agg.injEq] at h
 simp at h
 obtain⟨h1,h2,h3⟩:=h;rw[Int.ofNat_inj.1 h1,Int.ofNat_inj.1 h2,Int.ofNat_inj.1 h3]
theorem yU{K:List Ln}{f:Fc}(h:look K f=none):∀p∈kvL K,p.1≠fcV f:=fun p hp e=>by
 obtain⟨x,hx,rfl⟩:=List.mem_map.1 hp;exact gW.1 h x hx (PT e)
theorem jO{w:World}{r:Nat}{K:List Ln}(h:bW w Tryz.prog 30 r (kvL K)){f:Fc}(hf:FcB f):(Instr.lookup 92 (.map (some r)) (fcV f) true).run Tryz.prog w=.ok (.tuple #[.int .i64 (((look K f).getD 0:Nat):Int),.bool (look K f).isSome]) w:=by
 cases e:look K f with
 | some m=>exact h.look_hit TS Tryz.underlying92 (List.mem_map.2 ⟨(f,m),dO e,rfl⟩) true
 | none=>exact h.look_miss TS Tryz.underlying92 (FR hf) (yU e) (by kernel_rfl) true
theorem QuT.trans{w w1 w':World}{p:Nat}{lp tv lv lv1:Value}{C:List Ln→Prop}(hu:Upd (fun k=>k=p∨lv.ownBlock=some k) w w1)(ho:∀k,lv1.ownBlock=some k→lv.ownBlock=some k∨w.heap.size≤k)(h:QuT w1 p lp tv lv1 C w'):QuT w p lp tv lv C w':=by
 obtain⟨lv',L',h1,h2,h3,h4,h5⟩:=h;refine⟨lv',L',h1,h2,hu.trans h3 (fun k hk=>?_),fun k hk=>?_,h5⟩
 ·rcases hk with hk|hk
  ·exact .inl (.inl hk)
  ·exact(ho k hk).imp .inr id
 ·rcases h4 k hk with h|h
  ·exact ho k h
  ·exact .inr (Nat.le_trans hu.size h)
theorem QuT.imp{w w':World}{p:Nat}{lp tv lv:Value}{C D:List Ln→Prop}(h:QuT w p lp tv lv C w')(hi:∀L,C L→D L):QuT w p lp tv lv D w':=by
 obtain⟨lv',L',h1,h2,h3⟩:=h;exact⟨lv',L',h1,hi _ h2,h3⟩
def MY(K L:List Ln)(f:Fc)(m:Nat)(L':List Ln):Prop:=L'.Perm (eO K f m++L)∧HpM L' L'.length
theorem nD(w:World)(p z r:Nat)(tv lv:Value)(L K:List Ln)(h:QuN w p (.pointer (some ⟨z,0,none⟩)) tv lv L)(hne:∀k,lv.ownBlock=some k→¬k=p)(hl:L.length≤1000000000000)(hh:HpM L L.length)
  (hz:z<w.heap.size) (hzr:w.cell? ⟨z,3,none⟩=some (.map (some r))) (hm:bW w Tryz.prog 30 r (kvL K)) (f:Fc) (hf:FcB f) (m:Nat) (hm1:m≤1000000) :
  Calls Tryz.prog 87 #[.pointer (some ⟨p,0,none⟩),.agg #[.int .i64 (f.1:Int),.int .i64 (f.2.1:Int),.int .i64 (f.2.2:Int)],.int .i64 (m:Int)] w (fun e w'=>e=.returned (.tuple #[])∧QuT w p (.pointer (some ⟨z,0,none⟩)) tv lv (MY K L f m) w'):=by
 have bA:Below w.heap.size w (w.alloc (.cells #[.int .i64 (f.1:Int),.int .i64 (f.2.1:Int),.int .i64 (f.2.2:Int)] 30)):=bR.alloc (Nat.le_refl _) _;have kA:=Blk.new w 30 #[.int .i64 (f.1:Int),.int .i64 (f.2.1:Int),.int .i64 (f.2.2:Int)];have c0:=(h.below bA).1.cell 0;have c3:(w.alloc (.cells #[.int .i64 (f.1:Int),.int .i64 (f.2.1:Int),.int .i64 (f.2.2:Int)] 30)).cell? ⟨z,3,none⟩=some (.map (some r)):=by
  rw[(upF bA).cell hz id];exact hzr
 have HX:=aI6 bA (h.below bA) hne hl hh (hm.upd (upF bA) id);clear h hne hl hh hz hzr hm bA;go_enter Tryz.func87,Tryz.ntmps87;go_upto_region 1 with (fail);generalize w.alloc (.cells #[.int .i64 (f.1:Int),.int .i64 (f.2.1:Int),.int .i64 (f.2.2:Int)] 30)=W1 at kA c0 c3 HX ⊢;have a0:W1.cell? ⟨w.heap.size,0,none⟩=some (.int .i64 (f.1:Int)):=kA.cell 0;have a1:W1.cell? ⟨w.heap.size,1,none⟩=some (.int .i64 (f.2.1:Int)):=kA.cell 1;have a2:W1.cell? ⟨w.heap.size,2,none⟩=some (.int .i64 (f.2.2:Int)):=kA.cell 2;have hlk:∀n,(Instr.lookup 92 (.map (some r)) (.agg #[.int .i64 (f.1:Int),.int .i64 (f.2.1:Int),.int .i64 (f.2.2:Int)]) true).run Tryz.prog (W1.drewN n)=.ok (.tuple #[.int .i64 (((look K f).getD 0:Nat):Int),.bool (look K f).isSome]) (W1.drewN n):=fun n=>jO (HX.out.2.2.2.2.2.drewN n) hf
 have SR:=hIz (show ∀V,Below W1.heap.size W1 V→V.cell? ⟨p,0,none⟩=some (.pointer (some ⟨z,0,none⟩))∧V.cell? ⟨w.heap.size,0,none⟩=some (.int .i64 (f.1:Int))∧V.cell? ⟨w.heap.size,1,none⟩=some (.int .i64 (f.2.1:Int))∧V.cell? ⟨w.heap.size,2,none⟩=some (.int .i64 (f.2.2:Int)) from fun V hb=>by
  have u:=Upd.of_below hb (fun _=>False);exact⟨(HX.out.2.1.1.upd u id).cell 0,(kA.upd u id).cell 0,(kA.upd u id).cell 1,(kA.upd u id).cell 2⟩)
 have HD:=hIz (show ∀n,Below W1.heap.size W1 (W1.drewN n) from fun n=>⟨rfl,rfl,rfl,Nat.le_refl _,fun _ _=>rfl⟩);have HF:=hIz (show ∀V,Below W1.heap.size W1 V→MY K L f m L→QuT w p (.pointer (some ⟨z,0,none⟩)) tv lv (MY K L f m) V from fun V hb hq=>⟨lv,L,HX.out.2.1.below hb,hq,Upd.of_below (tHn HX.out.1 hb) _,fun k hk=>.inl hk,HX.out.2.2.1⟩);clear kA;cases hk:look K f with
 | some k =>
  have FIN:=hIz (show MY K L f m L from⟨by unfold eO;rw[hk];simp,HX.out.2.2.2.2.1⟩);rw[hk] at hlk;clear hk;go_quiet (fail)
  go_wp2;exact bodyPost_end (results_none rfl _ _ _) rfl ⟨rfl,HF.out _ (HD.out _) FIN.out⟩
 | none =>
  by_cases h64:m≤64
  ·have h64':(m:Int)≤64:=by omega
   have HC:=hIz (show eO K f m=[(f,m)] from by unfold eO;rw[hk,if_neg (by simp;omega)]);rw[hk] at hlk;clear hk;go_quiet (fail)
   go_upto_region 3 with (fail);have HB2:=hIz (show Below W1.heap.size W1 (W1.drewN nq).drew from HD.out (nq+1));have hS:=SR.out _ HB2.out;have hhp:=fun V (hb:Below W1.heap.size W1 V)=>AO V p (.pointer (some ⟨z,0,none⟩)) tv lv L (HX.out.2.1.below hb) HX.out.2.2.1 HX.out.2.2.2.1 HX.out.2.2.2.2.1 (f,m)
   unfold quV lnC at hhp;dsimp only at hhp
   have HP:=hIz hhp;clear hhp;refine aF (fun V=>V.cell? ⟨p,0,none⟩=some (.pointer (some ⟨z,0,none⟩))∧V.cell? ⟨w.heap.size,0,none⟩=some (.int .i64 (f.1:Int))∧V.cell? ⟨w.heap.size,1,none⟩=some (.int .i64 (f.2.1:Int))∧V.cell? ⟨w.heap.size,2,none⟩=some (.int .i64 (f.2.2:Int))) 8 [(0,true),(1,true),(2,true),(3,true),(4,true),(5,true),(6,true),(7,true),(8,false)] hS ?_;generalize (W1.drewN nq).drew=V0 at HB2 hS ⊢
   iterate 8 refine aC rfl ?_
   refine aM rfl rfl (fun K hK=>?_);go_simp;refine(HP.out V0 HB2.out).mono ?_;rintro e V ⟨rfl,ht⟩;refine hK _ _ (fun h=>absurd rfl h) ?_;clear hK K;have FIN:=hIz (show QuT w p (.pointer (some ⟨z,0,none⟩)) tv lv (MY K L f m) V from(ht.imp (D:=MY K L f m) (fun L' h=>⟨by rw[HC.out];exact h.1,h.2⟩)).after (Upd.of_below (tHn HX.out.1 HB2.out) _));clear ht;(try simp only[Act.put,gA,gS,gZ,sA,sZ,sS])
   refine aG ?_;go_wp2;exact bodyPost_end (results_none rfl _ _ _) rfl ⟨rfl,FIN.out⟩
  ·have h64':¬((m:Int)≤64):=by omega
   have FIN:=hIz (show MY K L f m L from⟨by unfold eO;rw[if_pos (.inr (by omega))];exact List.Perm.refl _,HX.out.2.2.2.2.1⟩);rw[hk] at hlk;clear hk h64;go_quiet (fail)
   go_wp2;exact bodyPost_end (results_none rfl _ _ _) rfl ⟨rfl,HF.out _ (HD.out _) FIN.out⟩
open Go.RowKit Go.Shelf
theorem iO(K:List Ln)(f:Fc)(m:Nat):(eO K f m).length≤1:=by
 unfold eO;split <;> simp
theorem fP{α β:Type}(f:α→List β)(h:∀x,(f x).length≤1):∀l:List α,(l.flatMap f).length≤l.length
 | []=>by simp
 | x::l=>by
  rw[List.flatMap_cons,List.length_append,List.length_cons];have:=h x;have:=fP f h l;omega
theorem fR{β:Type}(f:Nat→List β)(k:Nat):(List.range (k+1)).flatMap f=(List.range k).flatMap f++f k:=by
 rw[List.range_succ,List.flatMap_append,List.flatMap_singleton]
def kH(G L L':List Ln):Prop:=L'.Perm (G++L)∧HpM L' L'.length
theorem kH.more{G L L1 L2:List Ln}{K:List Ln}{f:Fc}{m:Nat}(h:kH G L L1)(h2:MY K L1 f m L2):kH (G++eO K f m) L L2:=
 ⟨h2.1.trans ((h.1.append_left _).trans (by rw[← List.append_assoc];exact(List.perm_append_comm).append_right _)),h2.2⟩
theorem QuT.still{w w1 w2:World}{p:Nat}{lp tv lv:Value}{C:List Ln→Prop}(h:QuT w p lp tv lv C w1)(hb:Below w1.heap.size w1 w2):QuT w p lp tv lv C w2:=by
 obtain⟨lv',L',h1,h2,h3,h4,h5⟩:=h;exact⟨lv',L',h1.below hb,h2,h3.trans (upF hb) (fun _ h=>h.elim),h4,h5⟩
theorem FS{K:List Ln}{f:Fc}{m:Nat}(hK:∀y∈K,y.2≤64)(h:look K f=some m):m≤64:=hK _ (dO h)
theorem aX.two{w:World}{gb go:Nat}{la lb:Bool}{b c:Int}(hr:aX w (some ⟨gb,go,none⟩) (dU [⟨la,b⟩,⟨lb,c⟩])):w.cell? ⟨gb,go+1,none⟩=some (.int .i64 b)∧w.cell? ⟨gb,go+3,none⟩=some (.int .i64 c):=by
 obtain⟨b',o',e,c1⟩:=hr 1 (.int .i64 b) rfl;injection e with e;injection e with e1 e2;subst e1;subst e2;obtain⟨b',o',e,c3⟩:=hr 3 (.int .i64 c) rfl;injection e with e;injection e with e1 e2;subst e1;subst e2;exact⟨c1,c3⟩
theorem aX.keep{w w':World}{b o:Nat}{xs:List Value}{F:Nat→Prop}(h:aX w (some ⟨b,o,none⟩) xs)(hu:Upd F w w')(hb:¬F b):aX w' (some ⟨b,o,none⟩) xs:=h.upd hu (fun b0 o0 s0 e0=>by
 injection e0 with e0;injection e0 with e1;rw[← e1];exact hb)
structure FnK(w:World)(p z r n:Nat)(K:List Ln)(lv:Value):Prop where
 nodes:w.cell? ⟨z,1,none⟩=some (.int .i64 (n:Int))
 map:w.cell? ⟨z,3,none⟩=some (.map (some r))
 known:bW w Tryz.prog 30 r (kvL K)
 zlt:z<w.heap.size
 zp:¬z=p
 rp:¬r=p
 zl:lv.ownBlock≠some z
 rl:lv.ownBlock≠some r
 few:n≤1000
 short:∀y∈K,y.2≤64
theorem FnK.upd{w w':World}{p z r n:Nat}{K:List Ln}{lv:Value}(h:FnK w p z r n K lv)(hu:Upd (fun k=>k=p∨lv.ownBlock=some k) w w'):FnK w' p z r n K lv:=by
 have hz:¬(z=p∨lv.ownBlock=some z):=fun e=>e.elim h.zp h.zl
 have hr:¬(r=p∨lv.ownBlock=some r):=fun e=>e.elim h.rp h.rl
 exact⟨by rw[hu.cell h.zlt hz];exact h.nodes,by rw[hu.cell h.zlt hz];exact h.map,h.known.upd hu hr,Nat.lt_of_lt_of_le h.zlt hu.size,h.zp,h.rp,h.zl,h.rl,h.few,h.short⟩
theorem FnK.below{w w':World}{p z r n:Nat}{K:List Ln}{lv:Value}(h:FnK w p z r n K lv)(hb:Below w.heap.size w w'):FnK w' p z r n K lv:=h.upd (Upd.of_below hb _)
theorem pA(K:List Ln)(a b c:Nat)(la lb:Bool)(x0 x1 x2 xn v:Nat):mS K ⟨(a:Int),[⟨la,(b:Int)⟩,⟨lb,(c:Int)⟩]⟩ ((x0,x1,x2),xn) v=match look K (c,x2,v) with
  | some m=>if b=x0 then eO K (a,x1,v) (xn+m) else []
  | none=>[]:=by
 show(match look K (c,x2,v) with
  | some m=>if (b:Int)=(x0:Int) then eO K (a,x1,v) (xn+m) else []
  | none=>[])=_
 cases look K (c,x2,v) with
 | none=>rfl
 | some m =>
  by_cases e:b=x0
  ·dsimp only
   rw[if_pos e,if_pos (by omega)]
  ·dsimp only
   rw[if_neg e,if_neg (by omega)]
theorem wV(K:List Ln)(a b c:Nat)(la lb:Bool)(x0 x1 x2 xn v:Nat):(mS K ⟨(a:Int),[⟨la,(b:Int)⟩,⟨lb,(c:Int)⟩]⟩ ((x0,x1,x2),xn) v).length≤1:=by
 rw[pA];split
 ·split
  ·exact iO _ _ _
  ·exact Nat.zero_le _
 ·exact Nat.zero_le _
theorem wW(w:World)(p z r n:Nat)(tv lv:Value)(L K:List Ln)(h:QuN w p (.pointer (some ⟨z,0,none⟩)) tv lv L)(hne:∀k,lv.ownBlock=some k→¬k=p)(hl:L.length+n≤1000000000000)(hh:HpM L L.length)(hk:FnK w p z r n K lv)
  (a b c:Nat) (la lb:Bool) (gb go cap:Nat) (hr:aX w (some ⟨gb,go,none⟩) (dU [⟨la,(b:Int)⟩,⟨lb,(c:Int)⟩])) (hg:¬gb=p∧lv.ownBlock≠some gb) (x0 x1 x2 xn:Nat)
  (hb:a≤1000000∧b≤1000000∧c≤1000000∧x0≤1000000∧x1≤1000000∧x2≤1000000∧xn≤64) :
  Calls Tryz.prog 56 #[.pointer (some ⟨p,0,none⟩),.agg #[.int .i64 (a:Int),.slice (some ⟨gb,go,none⟩) 2 cap],.agg #[.int .i64 (x0:Int),.int .i64 (x1:Int),.int .i64 (x2:Int),.int .i64 (xn:Int)]] w
   (fun e w'=>e=.returned (.tuple #[])∧QuT w p (.pointer (some ⟨z,0,none⟩)) tv lv (kH (PC K n ⟨(a:Int),[⟨la,(b:Int)⟩,⟨lb,(c:Int)⟩]⟩ ((x0,x1,x2),xn)) L) w'):=by
 have b1:Below w.heap.size w ((w.alloc (.cells #[.int .i64 (a:Int),.slice (some ⟨gb,go,none⟩) 2 cap] 71)).alloc (.cells #[.int .i64 (x0:Int),.int .i64 (x1:Int),.int .i64 (x2:Int),.int .i64 (xn:Int)] 97)):=(bR.alloc (Nat.le_refl _) _).alloc (by simp) _;have kP:=(Blk.new w 71 #[.int .i64 (a:Int),.slice (some ⟨gb,go,none⟩) 2 cap]).alloc (.cells #[.int .i64 (x0:Int),.int .i64 (x1:Int),.int .i64 (x2:Int),.int .i64 (xn:Int)] 97);have kX:=Blk.new (w.alloc (.cells #[.int .i64 (a:Int),.slice (some ⟨gb,go,none⟩) 2 cap] 71)) 97 #[.int .i64 (x0:Int),.int .i64 (x1:Int),.int .i64 (x2:Int),.int .i64 (xn:Int)];simp only[World.size_alloc] at kX
 have hln:=h.2.lt;have hplt:=h.1.lt;have H:=aI11 b1 (h.below b1) hne hh (hk.below b1) kP kX (hr.below3 b1) hg hln hplt;have z1:=(hk.below b1).nodes;have c0:=(h.below b1).1.cell 0;have hfew:=hk.few;clear h hne hh hk kP kX hr hg b1 hln hplt;go_enter Tryz.func56,Tryz.ntmps56;go_upto_region 1 with (fail);generalize (w.alloc (.cells #[.int .i64 (a:Int),.slice (some ⟨gb,go,none⟩) 2 cap] 71)).alloc (.cells #[.int .i64 (x0:Int),.int .i64 (x1:Int),.int .i64 (x2:Int),.int .i64 (xn:Int)] 97)=W1 at H z1 c0 ⊢;obtain⟨s,hs⟩:∃s,w.heap.size=s:=⟨_,rfl⟩;have HS:=hIz hs;rw[hs] at H ⊢;clear hs;go_wp2_with fail;clear z1 c0;go_loopw [16] (fun kv wr=>∃k:Nat,k≤n∧kv=.int .i64 (k:Int)∧Hid (QuT W1 p (.pointer (some ⟨z,0,none⟩)) tv lv (kH ((List.range k).flatMap (mS K ⟨(a:Int),[⟨la,(b:Int)⟩,⟨lb,(c:Int)⟩]⟩ ((x0,x1,x2),xn))) L) wr)) (fun kv _=>n-(intOf kv).toNat)
 case atStart=>exact⟨0,by omega,rfl,hIz ⟨lv,L,H.out.2.1,⟨List.Perm.refl _,H.out.2.2.2.1⟩,Upd.refl _ _,fun k hk=>.inl hk,H.out.2.2.1⟩⟩
 case round =>
  obtain⟨k,hkn,rfl,hq⟩:=hrel;by_cases hlt:k<n
  ·have hltI:(k:Int)<(n:Int):=by omega
   obtain⟨lv1,L1,q1,qC,qu,qo,qn⟩:=hq.out;have FK:=H.out.2.2.2.2.1.upd qu;have nF:∀q,s≤q→¬(q=p∨lv.ownBlock=some q):=fun q hsq e=>e.elim (fun e=>by have:=H.out.2.2.2.2.2.2.2.2.2.2;have:=HS.out;omega) (fun e=>by have:=(H.out.2.2.2.2.2.2.2.2.2.1 _ e).2;have:=HS.out;omega)
   have kP:=H.out.2.2.2.2.2.1.upd qu (nF s (Nat.le_refl _));have kX:=H.out.2.2.2.2.2.2.1.upd qu (nF (s+1) (Nat.le_succ _));have hrw:=aX.two ((H.out.2.2.2.2.2.2.2.1).keep qu (fun e=>e.elim (fun e=>H.out.2.2.2.2.2.2.2.2.1.1 e) (fun e=>H.out.2.2.2.2.2.2.2.2.1.2 e)));have c0:=q1.1.cell 0;have z3:=FK.map;have p0:wr.cell? ⟨s,0,none⟩=some (.int .i64 (a:Int)):=kP.cell 0;have p1:wr.cell? ⟨s,1,none⟩=some (.slice (some ⟨gb,go,none⟩) 2 cap):=kP.cell 1;have y0:wr.cell? ⟨s+1,0,none⟩=some (.int .i64 (x0:Int)):=kX.cell 0;have y1:wr.cell? ⟨s+1,1,none⟩=some (.int .i64 (x1:Int)):=kX.cell 1;have y2:wr.cell? ⟨s+1,2,none⟩=some (.int .i64 (x2:Int)):=kX.cell 2;have y3:wr.cell? ⟨s+1,3,none⟩=some (.int .i64 (xn:Int)):=kX.cell 3;obtain⟨d1,d3⟩:=hrw;have hlk:∀n,(Instr.lookup 92 (.map (some r)) (.agg #[.int .i64 (c:Int),.int .i64 (x2:Int),.int .i64 (k:Int)]) true).run Tryz.prog (wr.drewN n)=.ok (.tuple #[.int .i64 (((look K (c,x2,k)).getD 0:Nat):Int),.bool (look K (c,x2,k)).isSome]) (wr.drewN n):=fun n=>jO (f:=(c,x2,k)) (FK.known.drewN n) ⟨by show c≤1000000;omega,by show x2≤1000000;omega,by show k≤1000000;omega⟩
   have HD:=hIz (show ∀n,Below wr.heap.size wr (wr.drewN n) from fun n=>⟨rfl,rfl,rfl,Nat.le_refl _,fun _ _=>rfl⟩);have HL:=hIz (show L1.length≤1000000000000 from by
    have h1:=qC.1.length_eq;rw[List.length_append] at h1;have h2:=fP _ (fun v=>wV K a b c la lb x0 x1 x2 xn v) (List.range k);rw[List.length_range] at h2;omega)
   have HQ:=aI6 q1 qC qn FK qu qo;have HN:=hIz (show ∀V,Below wr.heap.size wr V→mS K ⟨(a:Int),[⟨la,(b:Int)⟩,⟨lb,(c:Int)⟩]⟩ ((x0,x1,x2),xn) k=[]→QuT W1 p (.pointer (some ⟨z,0,none⟩)) tv lv (kH ((List.range (k+1)).flatMap (mS K ⟨(a:Int),[⟨la,(b:Int)⟩,⟨lb,(c:Int)⟩]⟩ ((x0,x1,x2),xn))) L) V from fun V hb e=>by
    rw[fR,e,List.append_nil];exact hq.out.still hb)
   clear q1 qC qu qo qn FK kP kX hq;have HI:=hIz (pA K a b c la lb x0 x1 x2 xn k);cases hlook:look K (c,x2,k) with
   | none =>
    have HE:=hIz (show mS K ⟨(a:Int),[⟨la,(b:Int)⟩,⟨lb,(c:Int)⟩]⟩ ((x0,x1,x2),xn) k=[] from by rw[HI.out,hlook]);rw[hlook] at hlk;clear hlook HI;go_wp2_with fail;go_quiet (fail)
    go_wp2_with fail;go_quiet (fail)
    have FIN:=hIz (fun n=>HN.out _ (HD.out n) HE.out);go_wp2;go_roundw
    case rel=>exact⟨k+1,by omega,by simp,hIz (FIN.out _)⟩
    case measure=>simp[intOf];omega
   | some m =>
    have hm:=hIz (FS H.out.2.2.2.2.1.short hlook);by_cases hbx:b=x0
    ·have HE:=hIz (show mS K ⟨(a:Int),[⟨la,(b:Int)⟩,⟨lb,(c:Int)⟩]⟩ ((x0,x1,x2),xn) k=eO K (a,x1,k) (xn+m) from by rw[HI.out,hlook];exact if_pos hbx);rw[hlook] at hlk;clear hlook HI;have e1:IntKind.i64.wrap ((xn:Int)+(m:Int))=(((xn+m:Nat)):Int):=by rw[IntWalk.i64_in _ (by have:=hm.out;omega)];omega
     have e2:((b:Int)==(x0:Int))=true:=by simp only[beq_iff_eq];omega
     go_wp2_with fail;go_quiet (fail)
     go_wp2_with fail;go_quiet (fail)
     have HP:=hIz (fun V (hV:Below wr.heap.size wr V)=>nD V p z r tv lv1 L1 K (HQ.out.1.below hV) HQ.out.2.2.1 HL.out HQ.out.2.1.2 (HQ.out.2.2.2.1.below hV).zlt (HQ.out.2.2.2.1.below hV).map (HQ.out.2.2.2.1.below hV).known (a,x1,k) ⟨by show a≤1000000;omega,by show x1≤1000000;omega,by show k≤1000000;omega⟩ (xn+m) (by have:=hm.out;omega));go_wp2_with fail;refine(HP.out _ (HD.out _)).mono ?_;rintro e V ⟨rfl,ht⟩;have FIN:=hIz (show QuT W1 p (.pointer (some ⟨z,0,none⟩)) tv lv (kH ((List.range (k+1)).flatMap (mS K ⟨(a:Int),[⟨la,(b:Int)⟩,⟨lb,(c:Int)⟩]⟩ ((x0,x1,x2),xn))) L) V from by
      rw[fR,HE.out];exact .trans (HQ.out.2.2.2.2.1.trans (Upd.of_below (HD.out _) (fun _=>False)) (fun _ h=>h.elim)) HQ.out.2.2.2.2.2 (ht.imp (fun _ h=>HQ.out.2.1.more h)))
     clear ht;go_wp2;go_roundw
     case rel=>exact⟨k+1,by omega,by simp,FIN⟩
     case measure=>simp[intOf];omega
    ·have HE:=hIz (show mS K ⟨(a:Int),[⟨la,(b:Int)⟩,⟨lb,(c:Int)⟩]⟩ ((x0,x1,x2),xn) k=[] from by rw[HI.out,hlook];exact if_neg hbx);rw[hlook] at hlk;clear hlook HI;have e2:((b:Int)==(x0:Int))=false:=by simp only[beq_eq_false_iff_ne,ne_eq];omega
     go_wp2_with fail;go_quiet (fail)
     go_wp2_with fail;go_quiet (fail)
     have FIN:=hIz (fun n=>HN.out _ (HD.out n) HE.out);go_wp2;go_roundw
     case rel=>exact⟨k+1,by omega,by simp,hIz (FIN.out _)⟩
     case measure=>simp[intOf];omega
  ·obtain rfl:k=n:=by omega
   have FIN:=hIz (show QuT w p (.pointer (some ⟨z,0,none⟩)) tv lv (kH (PC K k ⟨(a:Int),[⟨la,(b:Int)⟩,⟨lb,(c:Int)⟩]⟩ ((x0,x1,x2),xn)) L) wr from hq.out.after (Upd.of_below (by have:=H.out.1;rwa [← HS.out] at this) _));have hn0:¬((k:Int)<(k:Int)):=by omega
   clear hq hlt;go_wp2;exact bodyPost_end (results_none rfl _ _ _) rfl ⟨rfl,FIN.out⟩
theorem qO(K:List Ln)(a b c:Nat)(la lb:Bool)(x0 x1 x2 xn v:Nat):mT K ⟨(a:Int),[⟨la,(b:Int)⟩,⟨lb,(c:Int)⟩]⟩ ((x0,x1,x2),xn) v=match look K (b,v,x1) with
  | some m=>if c=x0 then eO K (a,v,x2) (m+xn) else []
  | none=>[]:=by
 show(match look K (b,v,x1) with
  | some m=>if (c:Int)=(x0:Int) then eO K (a,v,x2) (m+xn) else []
  | none=>[])=_
 cases look K (b,v,x1) with
 | none=>rfl
 | some m =>
  by_cases e:c=x0
  ·dsimp only
   rw[if_pos e,if_pos (by omega)]
  ·dsimp only
   rw[if_neg e,if_neg (by omega)]
theorem AP(K:List Ln)(a b c:Nat)(la lb:Bool)(x0 x1 x2 xn v:Nat):(mT K ⟨(a:Int),[⟨la,(b:Int)⟩,⟨lb,(c:Int)⟩]⟩ ((x0,x1,x2),xn) v).length≤1:=by
 rw[qO];split
 ·split
  ·exact iO _ _ _
  ·exact Nat.zero_le _
 ·exact Nat.zero_le _
theorem AQ(w:World)(p z r n:Nat)(tv lv:Value)(L K:List Ln)(h:QuN w p (.pointer (some ⟨z,0,none⟩)) tv lv L)(hne:∀k,lv.ownBlock=some k→¬k=p)(hl:L.length+n≤1000000000000)(hh:HpM L L.length)(hk:FnK w p z r n K lv)
  (a b c:Nat) (la lb:Bool) (gb go cap:Nat) (hr:aX w (some ⟨gb,go,none⟩) (dU [⟨la,(b:Int)⟩,⟨lb,(c:Int)⟩])) (hg:¬gb=p∧lv.ownBlock≠some gb) (x0 x1 x2 xn:Nat)
  (hb:a≤1000000∧b≤1000000∧c≤1000000∧x0≤1000000∧x1≤1000000∧x2≤1000000∧xn≤64) :
  Calls Tryz.prog 57 #[.pointer (some ⟨p,0,none⟩),.agg #[.int .i64 (a:Int),.slice (some ⟨gb,go,none⟩) 2 cap],.agg #[.int .i64 (x0:Int),.int .i64 (x1:Int),.int .i64 (x2:Int),.int .i64 (xn:Int)]] w
   (fun e w'=>e=.returned (.tuple #[])∧QuT w p (.pointer (some ⟨z,0,none⟩)) tv lv (kH (PD K n ⟨(a:Int),[⟨la,(b:Int)⟩,⟨lb,(c:Int)⟩]⟩ ((x0,x1,x2),xn)) L) w'):=by
 have b1:Below w.heap.size w ((w.alloc (.cells #[.int .i64 (a:Int),.slice (some ⟨gb,go,none⟩) 2 cap] 71)).alloc (.cells #[.int .i64 (x0:Int),.int .i64 (x1:Int),.int .i64 (x2:Int),.int .i64 (xn:Int)] 97)):=(bR.alloc (Nat.le_refl _) _).alloc (by simp) _;have kP:=(Blk.new w 71 #[.int .i64 (a:Int),.slice (some ⟨gb,go,none⟩) 2 cap]).alloc (.cells #[.int .i64 (x0:Int),.int .i64 (x1:Int),.int .i64 (x2:Int),.int .i64 (xn:Int)] 97);have kX:=Blk.new (w.alloc (.cells #[.int .i64 (a:Int),.slice (some ⟨gb,go,none⟩) 2 cap] 71)) 97 #[.int .i64 (x0:Int),.int .i64 (x1:Int),.int .i64 (x2:Int),.int .i64 (xn:Int)];simp only[World.size_alloc] at kX
 have hln:=h.2.lt;have hplt:=h.1.lt;have H:=aI11 b1 (h.below b1) hne hh (hk.below b1) kP kX (hr.below3 b1) hg hln hplt;have z1:=(hk.below b1).nodes;have c0:=(h.below b1).1.cell 0;have hfew:=hk.few;clear h hne hh hk kP kX hr hg b1 hln hplt;go_enter Tryz.func57,Tryz.ntmps57;go_upto_region 1 with (fail);generalize (w.alloc (.cells #[.int .i64 (a:Int),.slice (some ⟨gb,go,none⟩) 2 cap] 71)).alloc (.cells #[.int .i64 (x0:Int),.int .i64 (x1:Int),.int .i64 (x2:Int),.int .i64 (xn:Int)] 97)=W1 at H z1 c0 ⊢;obtain⟨s,hs⟩:∃s,w.heap.size=s:=⟨_,rfl⟩;have HS:=hIz hs;rw[hs] at H ⊢;clear hs;go_wp2_with fail;clear z1 c0;go_loopw [16] (fun kv wr=>∃k:Nat,k≤n∧kv=.int .i64 (k:Int)∧Hid (QuT W1 p (.pointer (some ⟨z,0,none⟩)) tv lv (kH ((List.range k).flatMap (mT K ⟨(a:Int),[⟨la,(b:Int)⟩,⟨lb,(c:Int)⟩]⟩ ((x0,x1,x2),xn))) L) wr)) (fun kv _=>n-(intOf kv).toNat)
 case atStart=>exact⟨0,by omega,rfl,hIz ⟨lv,L,H.out.2.1,⟨List.Perm.refl _,H.out.2.2.2.1⟩,Upd.refl _ _,fun k hk=>.inl hk,H.out.2.2.1⟩⟩
 case round =>
  obtain⟨k,hkn,rfl,hq⟩:=hrel;by_cases hlt:k<n
  ·have hltI:(k:Int)<(n:Int):=by omega
   obtain⟨lv1,L1,q1,qC,qu,qo,qn⟩:=hq.out;have FK:=H.out.2.2.2.2.1.upd qu;have nF:∀q,s≤q→¬(q=p∨lv.ownBlock=some q):=fun q hsq e=>e.elim (fun e=>by have:=H.out.2.2.2.2.2.2.2.2.2.2;have:=HS.out;omega) (fun e=>by have:=(H.out.2.2.2.2.2.2.2.2.2.1 _ e).2;have:=HS.out;omega)
   have kP:=H.out.2.2.2.2.2.1.upd qu (nF s (Nat.le_refl _));have kX:=H.out.2.2.2.2.2.2.1.upd qu (nF (s+1) (Nat.le_succ _));have hrw:=aX.two ((H.out.2.2.2.2.2.2.2.1).keep qu (fun e=>e.elim (fun e=>H.out.2.2.2.2.2.2.2.2.1.1 e) (fun e=>H.out.2.2.2.2.2.2.2.2.1.2 e)));have c0:=q1.1.cell 0;have z3:=FK.map;have p0:wr.cell? ⟨s,0,none⟩=some (.int .i64 (a:Int)):=kP.cell 0;have p1:wr.cell? ⟨s,1,none⟩=some (.slice (some ⟨gb,go,none⟩) 2 cap):=kP.cell 1;have y0:wr.cell? ⟨s+1,0,none⟩=some (.int .i64 (x0:Int)):=kX.cell 0;have y1:wr.cell? ⟨s+1,1,none⟩=some (.int .i64 (x1:Int)):=kX.cell 1;have y2:wr.cell? ⟨s+1,2,none⟩=some (.int .i64 (x2:Int)):=kX.cell 2;have y3:wr.cell? ⟨s+1,3,none⟩=some (.int .i64 (xn:Int)):=kX.cell 3;obtain⟨d1,d3⟩:=hrw;have hlk:∀n,(Instr.lookup 92 (.map (some r)) (.agg #[.int .i64 (b:Int),.int .i64 (k:Int),.int .i64 (x1:Int)]) true).run Tryz.prog (wr.drewN n)=.ok (.tuple #[.int .i64 (((look K (b,k,x1)).getD 0:Nat):Int),.bool (look K (b,k,x1)).isSome]) (wr.drewN n):=fun n=>jO (f:=(b,k,x1)) (FK.known.drewN n) ⟨by show b≤1000000;omega,by show k≤1000000;omega,by show x1≤1000000;omega⟩
   have HD:=hIz (show ∀n,Below wr.heap.size wr (wr.drewN n) from fun n=>⟨rfl,rfl,rfl,Nat.le_refl _,fun _ _=>rfl⟩);have HL:=hIz (show L1.length≤1000000000000 from by
    have h1:=qC.1.length_eq;rw[List.length_append] at h1;have h2:=fP _ (fun v=>AP K a b c la lb x0 x1 x2 xn v) (List.range k);rw[List.length_range] at h2;omega)
   have HQ:=aI6 q1 qC qn FK qu qo;have HN:=hIz (show ∀V,Below wr.heap.size wr V→mT K ⟨(a:Int),[⟨la,(b:Int)⟩,⟨lb,(c:Int)⟩]⟩ ((x0,x1,x2),xn) k=[]→QuT W1 p (.pointer (some ⟨z,0,none⟩)) tv lv (kH ((List.range (k+1)).flatMap (mT K ⟨(a:Int),[⟨la,(b:Int)⟩,⟨lb,(c:Int)⟩]⟩ ((x0,x1,x2),xn))) L) V from fun V hb e=>by
    rw[fR,e,List.append_nil];exact hq.out.still hb)
   clear q1 qC qu qo qn FK kP kX hq;have HI:=hIz (qO K a b c la lb x0 x1 x2 xn k);cases hlook:look K (b,k,x1) with
   | none =>
    have HE:=hIz (show mT K ⟨(a:Int),[⟨la,(b:Int)⟩,⟨lb,(c:Int)⟩]⟩ ((x0,x1,x2),xn) k=[] from by rw[HI.out,hlook]);rw[hlook] at hlk;clear hlook HI;go_wp2_with fail;go_quiet (fail)
    go_wp2_with fail;go_quiet (fail)
    have FIN:=hIz (fun n=>HN.out _ (HD.out n) HE.out);go_wp2;go_roundw
    case rel=>exact⟨k+1,by omega,by simp,hIz (FIN.out _)⟩
    case measure=>simp[intOf];omega
   | some m =>
    have hm:=hIz (FS H.out.2.2.2.2.1.short hlook);by_cases hbx:c=x0
    ·have HE:=hIz (show mT K ⟨(a:Int),[⟨la,(b:Int)⟩,⟨lb,(c:Int)⟩]⟩ ((x0,x1,x2),xn) k=eO K (a,k,x2) (m+xn) from by rw[HI.out,hlook];exact if_pos hbx);rw[hlook] at hlk;clear hlook HI;have e1:IntKind.i64.wrap ((m:Int)+(xn:Int))=(((m+xn:Nat)):Int):=by rw[IntWalk.i64_in _ (by have:=hm.out;omega)];omega
     have e2:((c:Int)==(x0:Int))=true:=by simp only[beq_iff_eq];omega
     go_wp2_with fail;go_quiet (fail)
     go_wp2_with fail;go_quiet (fail)
     have HP:=hIz (fun V (hV:Below wr.heap.size wr V)=>nD V p z r tv lv1 L1 K (HQ.out.1.below hV) HQ.out.2.2.1 HL.out HQ.out.2.1.2 (HQ.out.2.2.2.1.below hV).zlt (HQ.out.2.2.2.1.below hV).map (HQ.out.2.2.2.1.below hV).known (a,k,x2) ⟨by show a≤1000000;omega,by show k≤1000000;omega,by show x2≤1000000;omega⟩ (m+xn) (by have:=hm.out;omega));go_wp2_with fail;refine(HP.out _ (HD.out _)).mono ?_;rintro e V ⟨rfl,ht⟩;have FIN:=hIz (show QuT W1 p (.pointer (some ⟨z,0,none⟩)) tv lv (kH ((List.range (k+1)).flatMap (mT K ⟨(a:Int),[⟨la,(b:Int)⟩,⟨lb,(c:Int)⟩]⟩ ((x0,x1,x2),xn))) L) V from by
      rw[fR,HE.out];exact .trans (HQ.out.2.2.2.2.1.trans (Upd.of_below (HD.out _) (fun _=>False)) (fun _ h=>h.elim)) HQ.out.2.2.2.2.2 (ht.imp (fun _ h=>HQ.out.2.1.more h)))
     clear ht;go_wp2;go_roundw
     case rel=>exact⟨k+1,by omega,by simp,FIN⟩
     case measure=>simp[intOf];omega
    ·have HE:=hIz (show mT K ⟨(a:Int),[⟨la,(b:Int)⟩,⟨lb,(c:Int)⟩]⟩ ((x0,x1,x2),xn) k=[] from by rw[HI.out,hlook];exact if_neg hbx);rw[hlook] at hlk;clear hlook HI;have e2:((c:Int)==(x0:Int))=false:=by simp only[beq_eq_false_iff_ne,ne_eq];omega
     go_wp2_with fail;go_quiet (fail)
     go_wp2_with fail;go_quiet (fail)
     have FIN:=hIz (fun n=>HN.out _ (HD.out n) HE.out);go_wp2;go_roundw
     case rel=>exact⟨k+1,by omega,by simp,hIz (FIN.out _)⟩
     case measure=>simp[intOf];omega
  ·obtain rfl:k=n:=by omega
   have FIN:=hIz (show QuT w p (.pointer (some ⟨z,0,none⟩)) tv lv (kH (PD K k ⟨(a:Int),[⟨la,(b:Int)⟩,⟨lb,(c:Int)⟩]⟩ ((x0,x1,x2),xn)) L) wr from hq.out.after (Upd.of_below (by have:=H.out.1;rwa [← HS.out] at this) _));have hn0:¬((k:Int)<(k:Int)):=by omega
   clear hq hlt;go_wp2;exact bodyPost_end (results_none rfl _ _ _) rfl ⟨rfl,FIN.out⟩
end Go.Proofs.YteffnejneoocgaaGreatDoor
