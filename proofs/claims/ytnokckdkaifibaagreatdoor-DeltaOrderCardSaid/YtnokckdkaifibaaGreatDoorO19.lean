/- A graph, a list of texts, a list of edges that come in, read: the slices lie in memory, and none is too great; An edge, a row of texts, a row of edges that come in, read; A grammar in weak normal form, a fact, a production that come in, read. -/
import Derived.ProofKit
import Derived.OpenShut
import Derived.ShutString
import Derived.ChangeOld
import Derived.ChangeSame
import Derived.Below
import Derived.Deep.Slices
import Derived.MapViews
import Derived.SizedLaws
import Derived.Test.YtnokckdkaifibaaGreatDoorO01
import Derived.Test.YtnokckdkaifibaaGreatDoorO12
set_option linter.unusedVariables false
set_option linter.unusedSimpArgs false
set_option maxHeartbeats 16000000
set_option maxRecDepth 100000
namespace Go.Proofs.YtnokckdkaifibaaGreatDoor.edRead
open Go.ChangeShapes Go.WideShapes Go.ChangeAt Go.RowKit
set_option linter.unusedVariables false
theorem own:ownKnob Tryz.prog.godebug=none:=by kernel_rfl
theorem xV:laidOutB Tryz.prog=true:=by kernel_rfl

section
variable {H:Type} {enc:TypeId × Value→H} {P:Program} {w:World}
theorem nC{t e m fuel:Nat}{v:Value}{x:DataW H × List MemPlace}(ht:P.underlying t=some (.slice e))(hk:P.keyTypeAt m e=true)
  (h:DataW.trod enc P w 0 (fun _=>true) true fuel t [v]=some x) (hz:∀n∈x.1.weights P t,n≤reachBytes) :
  v=.slice none 0 0∨∃a n c,v=.slice (some a) n c∧n≤c∧c*P.bytesOf e≤reachBytes∧∀i,i<c→∃cs L,cs.length=P.cellsOf e∧(∀j,j<P.cellsOf e→w.cell? (a.add (i*P.cellsOf e+j))=cs[j]?)∧P.keyLits m e cs=some L:=by
 rcases Deep.open_slice ht h with ⟨hcs,_⟩|⟨a,len,cap,m',n',D,Pl,hcs,_,hl,hm,hmm,hx,hi⟩
 ·injection hcs with hcs;exact .inl hcs
 ·injection hcs with hcs;subst hcs;obtain rfl:m'=cap:=by rw[hmm];exact if_pos rfl
  refine .inr ⟨a,len,m',rfl,hl,?_,fun i hic=>?_⟩
  ·subst hx;exact hz (m'*P.bytesOf e) (by
    simp only[DataW.weights,ht,List.length_map,List.length_range,show len+(m'-len)=m' by omega]
    simp)
  ·obtain⟨cs',hc,ht'⟩:=hi i (by simpa using hic);obtain⟨_,hlen,hat⟩:=World.cells?_some hc;exact⟨cs',_,hlen,fun j hj=>by rw[← Deep.add_add];exact hat j hj,(keyLits_of_trod m e hk n' cs' _ ht').1⟩
end
theorem wF:Tryz.prog.cellsOf 9=1:=by kernel_rfl
theorem oC{n:Nat}{c:Value}{l:List Lit}(h:Tryz.prog.keyLits n 9 [c]=some l):∃s:Txt,c=.string s∧dA s:=by
 cases n with
 | zero=>simp[Program.keyLits] at h
 | succ n =>
  unfold Program.keyLits at h;simp only[Tryz.underlying9] at h
  cases c <;> simp at h;obtain⟨hw,_⟩:=h;refine⟨_,rfl,?_⟩;unfold dA;unfold maxLen at hw;omega
theorem len_one{α:Type}:∀{l:List α},l.length=1→∃a,l=[a]
 | [a],_=>⟨a,rfl⟩
theorem tT{α:Type}:∀{l:List α},l.length=2→∃a b,l=[a,b]
 | [a,b],_=>⟨a,b,rfl⟩
theorem IR{α:Type}:∀{l:List α},l.length=3→∃a b c,l=[a,b,c]
 | [a,b,c],_=>⟨a,b,c,rfl⟩
theorem CF:Tryz.prog.cellsOf 23=3:=by kernel_rfl
theorem IS:Tryz.prog.bytesOf 9=16:=by kernel_rfl
theorem CG:Tryz.prog.bytesOf 23=48:=by kernel_rfl
theorem QQ{cs:List Value}{L:List Lit}(hl:cs.length=3)(h:Tryz.prog.keyLits 2 23 cs=some L):∃x:Ed,cs=x.cells∧oD x:=by
 obtain⟨c0,c1,c2,rfl⟩:=IR hl;rw[show(2:Nat)=1+1 from rfl] at h;unfold Program.keyLits at h;simp only[Tryz.underlying23] at h
 split at h
 ·obtain⟨l,hl',_⟩:=Option.map_eq_some_iff.1 h;simp only[wF,List.mapM_cons,List.mapM_nil,bind,Option.bind_eq_some_iff] at hl'
  obtain⟨l0,h0,q0,⟨l1,h1,q1,⟨l2,h2,-⟩,-⟩,-⟩:=hl';simp at h0 h1 h2
  obtain⟨x,rfl,hx⟩:=oC h0;obtain⟨y,rfl,hy⟩:=oC h1;obtain⟨z,rfl,hz⟩:=oC h2;exact⟨⟨x,y,z⟩,rfl,hx,hy,hz⟩
 ·cases h

theorem zX{α:Type}[Inhabited α](cells:α→List Value)(k:Nat)(hlen:∀x,(cells x).length=k)(h0:0<k){W:World}{a:Addr}{n:Nat}(Q:α→Prop)(hg:∀i,i<n→∃x:α,Q x∧∀j,j<k→W.cell? (a.add (i*k+j))=(cells x)[j]?) :
  ∃l:List α,l.length=n∧(∀x∈l,Q x)∧bO W (some a) (l.flatMap cells):=by
 obtain⟨f,hf⟩:=Deep.choose_lt hg;refine⟨(List.range n).map f,by simp,?_,?_⟩
 ·intro x hx;obtain⟨i,hi,rfl⟩:=List.mem_map.1 hx;exact(hf i (List.mem_range.1 hi)).1
 ·intro j u hj;have hlt:=(gO.1 hj).1;rw[eC cells k hlen] at hlt;simp only[List.length_map,List.length_range] at hlt
  have hi:j / k<n:=Nat.div_lt_of_lt_mul (by rw[Nat.mul_comm];exact hlt);have hjm:j % k<k:=Nat.mod_lt _ h0;have hjd:j / k*k+j % k=j:=by rw[Nat.mul_comm];exact Nat.div_add_mod j k
  have h1:=dN cells k hlen ((List.range n).map f) (j / k) (j % k) (f (j / k)) (by rw[List.getElem?_map,List.getElem?_range hi];rfl) hjm;rw[hjd,hj] at h1;have h2:=(hf (j / k) hi).2 (j % k) hjm;rw[hjd,← h1] at h2;have h3:=(hf 0 (Nat.lt_of_le_of_lt (Nat.zero_le _) hi)).2 0 h0;have hlen0:=hlen (f 0);rw[gEz (by omega)] at h3;have hs:=World.cell?_spot h3;obtain⟨b,o,s⟩:=a;obtain rfl:s=none:=by simpa[Addr.add] using hs
  rw[Addr.add_lit] at h2;exact⟨b,o,rfl,h2⟩
instance:Inhabited Txt:=⟨ByteArray.empty⟩
instance:Inhabited Ed:=⟨⟨default,default,default⟩⟩
theorem MU(l:List Txt):(l.flatMap fun s=>[Value.string s])=aG l:=by
 induction l with
 | nil=>rfl
 | cons x l ih=>rw[List.flatMap_cons,ih];rfl

theorem wG{H:Type}{enc:TypeId × Value→H}{W:World}{fuel:Nat}{v:Value}{y:DataW H × List MemPlace}(t0:DataW.trod enc Tryz.prog W 0 (fun _=>true) true fuel 34 [v]=some y)
  (w0:∀n∈y.1.weights Tryz.prog 34,n≤reachBytes):∃A c N,v=.slice A (List.length N) c∧bO W A (aG N)∧N.length≤c∧N.length*16≤140737488355328∧∀s∈N,dA s:=by
 rcases nC Tryz.underlying34 (m:=2) (by kernel_rfl) t0 w0 with rfl|⟨a,n,c,rfl,hnc,hb,hi⟩
 ·exact⟨none,0,[],rfl,fun j u hj=>by simp[aG] at hj,Nat.le_refl _,by simp,by simp⟩
 ·obtain⟨l,hl,hq,hr⟩:=zX (fun s:Txt=>[Value.string s]) 1 (fun _=>rfl) (by decide) (W:=W) (a:=a) (n:=n) dA (fun i hin=>by
   obtain⟨cs,L,hlen,hat,hL⟩:=hi i (by omega);rw[wF] at hat hlen;obtain⟨c0,rfl⟩:=len_one hlen;obtain⟨s,rfl,hs⟩:=oC hL;exact⟨s,hs,hat⟩)
  subst hl;rw[IS] at hb;simp only[reachBytes] at hb
  rw[MU] at hr;exact⟨_,c,l,rfl,hr,hnc,by omega,hq⟩
theorem MV{H:Type}{enc:TypeId × Value→H}{W:World}{fuel:Nat}{v:Value}{y:DataW H × List MemPlace}(t0:DataW.trod enc Tryz.prog W 0 (fun _=>true) true fuel 40 [v]=some y)
  (w0:∀n∈y.1.weights Tryz.prog 40,n≤reachBytes):∃A c E,v=.slice A (List.length E) c∧bO W A (aT E)∧E.length≤c∧E.length*48≤140737488355328∧∀x∈E,oD x:=by
 rcases nC Tryz.underlying40 (m:=2) (by kernel_rfl) t0 w0 with rfl|⟨a,n,c,rfl,hnc,hb,hi⟩
 ·exact⟨none,0,[],rfl,fun j u hj=>by simp[aT] at hj,Nat.le_refl _,by simp,by simp⟩
 ·obtain⟨l,hl,hq,hr⟩:=zX Ed.cells 3 (fun _=>rfl) (by decide) (W:=W) (a:=a) (n:=n) oD (fun i hin=>by
   obtain⟨cs,L,hlen,hat,hL⟩:=hi i (by omega);rw[CF] at hat hlen;obtain⟨f,rfl,hw⟩:=QQ hlen hL;exact⟨f,hw,hat⟩)
  subst hl;rw[CG] at hb;simp only[reachBytes] at hb
  exact⟨_,c,l,rfl,hr,hnc,by omega,hq⟩
theorem xW:Tryz.prog.cellsOf 52=2:=by kernel_rfl
theorem CH:Tryz.prog.cellsOf 34=1:=by kernel_rfl
theorem IT:Tryz.prog.cellsOf 40=1:=by kernel_rfl

theorem CI{H:Type}{enc:TypeId × Value→H}{W:World}{base:Nat}{v:Value}{d0:DataW H}{p0:List MemPlace}(hv:Value.okWide Tryz.prog W .any base 52 v)(h:DataW.Trod enc Tryz.prog W 0 (fun _=>true) true 52 v d0 p0)
  (hz:∀n∈d0.weights Tryz.prog 52,n≤reachBytes):∃A c B d N E,v=dX A (List.length N) c B (List.length E) d∧qL W A c B d N E:=by
 obtain⟨cs,rfl,hcs⟩:=okWide_struct Tryz.underlying52 hv;rw[xW] at hcs;obtain⟨c0,c1,hc⟩:=tT (l:=cs.toList) (by simpa using hcs);obtain rfl:cs=#[c0,c1]:=by cases cs;simp_all
 obtain⟨fuel,hf⟩:=h;obtain⟨y0,y1,n,hx,-,t0,t1⟩:=trod_struct2 Tryz.underlying52 hf;simp only[Value.cells,CH,IT,List.drop_zero,List.take_succ_cons,List.take_zero,List.drop_succ_cons] at t0 t1
 injection hx with hx1 hx2;subst hx1;have w0:∀n∈y0.1.weights Tryz.prog 34,n≤reachBytes:=fun n hn=>hz n (by
  simp only[DataW.weights,Tryz.underlying52,DataW.weightsEach,List.map_cons,List.map_nil,List.mem_append]
  exact .inl hn)
 have w1:∀n∈y1.1.weights Tryz.prog 40,n≤reachBytes:=fun n hn=>hz n (by
  simp only[DataW.weights,Tryz.underlying52,DataW.weightsEach,List.map_cons,List.map_nil,List.mem_append]
  exact .inr (.inl hn))
 obtain⟨A,c,N,rfl,hr0,hc0,hb0,hq0⟩:=wG t0 w0;obtain⟨B,d,E,rfl,hr1,hc1,hb1,hq1⟩:=MV t1 w1;exact⟨A,c,B,d,N,E,rfl,hr0,hr1,hc0,hc1,hb0,hb1,hq0,hq1⟩
end Go.Proofs.YtnokckdkaifibaaGreatDoor.edRead
namespace Go.Proofs.YtnokckdkaifibaaGreatDoor.edRead
open Go.ChangeShapes Go.WideShapes Go.ChangeAt Go.RowKit
theorem MW{H:Type}{enc:TypeId × Value→H}{W:World}{base:Nat}{v:Value}{d0:DataW H}{p0:List MemPlace}(hv:Value.okWide Tryz.prog W .any base 34 v)(h:DataW.Trod enc Tryz.prog W 0 (fun _=>true) true 34 v d0 p0)
  (hz:∀n∈d0.weights Tryz.prog 34,n≤reachBytes):∃A c N,v=.slice A (List.length N) c∧bO W A (aG N)∧N.length≤c∧N.length*16≤140737488355328∧∀s∈N,dA s:=by
 obtain⟨a,len,cap,rfl⟩:=okWide_slice Tryz.underlying34 hv;obtain⟨fuel,hf⟩:=h;exact wG (y:=(d0,p0)) hf hz
end Go.Proofs.YtnokckdkaifibaaGreatDoor.edRead
namespace Go.Proofs.YtnokckdkaifibaaGreatDoor.edRead
open Go.ChangeShapes Go.WideShapes Go.ChangeAt Go.RowKit
set_option linter.unusedVariables false
theorem MX{n:Nat}{c:Value}{l:List Lit}(h:Tryz.prog.keyLits n 3 [c]=some l):∃x,c=.int .i64 x∧Wf x:=by
 cases n with
 | zero=>simp[Program.keyLits] at h
 | succ n =>
  unfold Program.keyLits at h;simp only[Tryz.underlying3] at h
  cases c <;> simp at h;rename_i k v
  obtain⟨⟨rfl,hw⟩,_⟩:=h;exact⟨v,rfl,hw⟩
theorem IU{n:Nat}{c:Value}{l:List Lit}(h:Tryz.prog.keyLits n 4 [c]=some l):∃x,c=.bool x:=by
 cases n with
 | zero=>simp[Program.keyLits] at h
 | succ n =>
  unfold Program.keyLits at h;simp only[Tryz.underlying4] at h
  cases c <;> simp at h;exact⟨_,rfl⟩
theorem pY:Tryz.prog.cellsOf 3=1:=by kernel_rfl
theorem CJ:Tryz.prog.cellsOf 4=1:=by kernel_rfl
theorem IV:Tryz.prog.cellsOf 101=2:=by kernel_rfl
theorem CK:Tryz.prog.cellsOf 74=1:=by kernel_rfl
theorem CM:Tryz.prog.cellsOf 76=2:=by kernel_rfl
theorem xX:Tryz.prog.cellsOf 30=1:=by kernel_rfl
theorem IW:Tryz.prog.cellsOf 32=2:=by kernel_rfl
theorem IX:Tryz.prog.bytesOf 101=16:=by kernel_rfl
theorem CN:Tryz.prog.bytesOf 76=32:=by kernel_rfl
instance:Inhabited Sy:=⟨⟨false,0⟩⟩
instance:Inhabited Pv:=⟨⟨⟨0,[]⟩,none,0⟩⟩
theorem MY{cs:List Value}{L:List Lit}(hl:cs.length=2)(h:Tryz.prog.keyLits 2 101 cs=some L):∃s:Sy,cs=s.cells∧Wf s.at_:=by
 obtain⟨c0,c1,rfl⟩:=tT hl;rw[show(2:Nat)=1+1 from rfl] at h;unfold Program.keyLits at h;simp only[Tryz.underlying101] at h
 split at h
 ·obtain⟨l,hl',_⟩:=Option.map_eq_some_iff.1 h;simp only[CJ,pY,List.mapM_cons,List.mapM_nil,bind,Option.bind_eq_some_iff] at hl'
  obtain⟨l0,h0,q0,⟨l1,h1,-⟩,-⟩:=hl';simp at h0 h1
  obtain⟨x,rfl⟩:=IU h0;obtain⟨y,rfl,hy⟩:=MX h1;exact⟨⟨x,y⟩,rfl,hy⟩
 ·cases h
theorem IY{H:Type}{enc:TypeId × Value→H}{W:World}{fuel:Nat}{v:Value}{y:DataW H × List MemPlace}(t0:DataW.trod enc Tryz.prog W 0 (fun _=>true) true fuel 74 [v]=some y)
  (w0:∀n∈y.1.weights Tryz.prog 74,n≤reachBytes):∃A c S,v=.slice A (List.length S) c∧bO W A (dM S)∧S.length≤c∧S.length*16≤140737488355328∧∀s∈S,Wf s.at_:=by
 rcases nC Tryz.underlying74 (m:=2) (by kernel_rfl) t0 w0 with rfl|⟨a,n,c,rfl,hnc,hb,hi⟩
 ·exact⟨none,0,[],rfl,fun j u hj=>by simp[dM] at hj,Nat.le_refl _,by simp,by simp⟩
 ·obtain⟨l,hl,hq,hr⟩:=zX Sy.cells 2 (fun _=>rfl) (by decide) (W:=W) (a:=a) (n:=n) (fun s=>Wf s.at_) (fun i hin=>by
   obtain⟨cs,L,hlen,hat,hL⟩:=hi i (by omega);rw[IV] at hat hlen;obtain⟨f,rfl,hw⟩:=MY hlen hL;exact⟨f,hw,hat⟩)
  subst hl;rw[IX] at hb;simp only[reachBytes] at hb
  exact⟨_,c,l,rfl,hr,hnc,by omega,hq⟩
def IZ(v:Pv):Prop:=Wf v.pr.head∧v.pr.body.length≤v.cap∧v.pr.body.length*16≤140737488355328∧∀s∈v.pr.body,Wf s.at_
theorem pZ{H:Type}{P:Program}{e:TypeId}{d:DataW H}:∀{l:List (DataW H)},d∈l→∀n∈d.weights P e,n∈DataW.weightsAll P e l
 | x::l,h,n,hn=>by
  rw[DataW.weightsAll,List.mem_append];rcases List.mem_cons.1 h with rfl|h
  ·exact .inl hn
  ·exact .inr (pZ h n hn)
theorem JA{H:Type}{enc:TypeId × Value→H}{W:World}{fuel:Nat}{cs:List Value}{y:DataW H × List MemPlace}(hl:cs.length=2)(t:DataW.trod enc Tryz.prog W 0 (fun _=>true) true fuel 76 cs=some y)
  (hz:∀n∈y.1.weights Tryz.prog 76,n≤reachBytes):∃v:Pv,cs=v.cells∧bO W v.adr (dM v.pr.body)∧IZ v:=by
 obtain⟨c0,c1,rfl⟩:=tT hl;obtain⟨y0,y1,n,hx,-,t0,t1⟩:=trod_struct2 Tryz.underlying76 t;simp only[pY,CK,List.drop_zero,List.take_succ_cons,List.take_zero,List.drop_succ_cons] at t0 t1
 subst hx;have w1:∀n∈y1.1.weights Tryz.prog 74,n≤reachBytes:=fun n hn=>hz n (by
  simp only[DataW.weights,Tryz.underlying76,DataW.weightsEach,List.map_cons,List.map_nil,List.mem_append]
  exact .inr (.inl hn))
 obtain⟨h,e,-,hw⟩:=DataW.trod_int Tryz.underlying3 t0;injection e with e _;subst e;obtain⟨A,c,S,rfl,hr,h1,h2,h3⟩:=IY t1 w1;exact⟨⟨⟨h,S⟩,A,c⟩,rfl,hr,hw,h1,h2,h3⟩
theorem CO{H:Type}{enc:TypeId × Value→H}{W:World}{fuel:Nat}{v:Value}{y:DataW H × List MemPlace}(t0:DataW.trod enc Tryz.prog W 0 (fun _=>true) true fuel 30 [v]=some y)
  (w0:∀n∈y.1.weights Tryz.prog 30,n≤reachBytes):∃A c PV,v=.slice A (List.length PV) c∧PvR W A PV∧PV.length≤c∧PV.length*32≤140737488355328∧∀x∈PV,IZ x:=by
 rcases Deep.open_slice Tryz.underlying30 t0 with ⟨hcs,_⟩|⟨a,len,cap,m',n',D,Pl,hcs,_,hl,hm,hmm,hx,hi⟩
 ·injection hcs with hcs;subst hcs;exact⟨none,0,[],rfl,⟨fun j u hj=>by simp[cQ] at hj,by simp⟩,Nat.le_refl _,by simp,by simp⟩
 ·injection hcs with hcs;subst hcs;obtain rfl:m'=cap:=by rw[hmm];exact if_pos rfl
  subst hx;have hb:=w0 (m'*Tryz.prog.bytesOf 76) (by
   simp only[DataW.weights,Tryz.underlying30,List.length_map,List.length_range,show len+(m'-len)=m' by omega]
   simp)
  have hd:∀i,i<len→∀n∈(D i).weights Tryz.prog 76,n≤reachBytes:=fun i hi' n hn=>w0 n (by
   simp only[DataW.weights,Tryz.underlying30,List.mem_cons,List.mem_append]
   exact .inr (.inl (pZ (List.mem_map.2 ⟨i,List.mem_range.2 hi',rfl⟩) n hn)))
  obtain⟨l,hll,hq,hr⟩:=zX Pv.cells 2 (fun _=>rfl) (by decide) (W:=W) (a:=a) (n:=len) (fun v=>bO W v.adr (dM v.pr.body)∧IZ v) (fun i hin=>by
   obtain⟨cs',hc,ht'⟩:=hi i (by omega);obtain⟨_,hlen,hat⟩:=World.cells?_some hc;rw[CM] at hlen hat;obtain⟨v,rfl,h1,h2⟩:=JA hlen ht' (hd i hin);exact⟨v,⟨h1,h2⟩,fun j hj=>by
    have:=hat j hj;rw[Deep.add_add] at this;exact this⟩)
  subst hll;rw[CN] at hb;simp only[reachBytes] at hb
  exact⟨_,m',l,rfl,⟨hr,fun v hv=>(hq v hv).1⟩,hl,by omega,fun v hv=>(hq v hv).2⟩
theorem QR{H:Type}{enc:TypeId × Value→H}{W:World}{base:Nat}{v:Value}{d0:DataW H}{p0:List MemPlace}(hv:Value.okWide Tryz.prog W .any base 32 v)(h:DataW.Trod enc Tryz.prog W 0 (fun _=>true) true 32 v d0 p0)
  (hz:∀n∈d0.weights Tryz.prog 32,n≤reachBytes):∃(nts:Int) (A:Option Addr) (c:Nat) (PV:List Pv),v=.agg #[.int .i64 nts,.slice A PV.length c]∧Wf nts∧PvR W A PV∧PV.length≤c∧PV.length*32≤140737488355328∧∀x∈PV,IZ x:=by
 obtain⟨cs,rfl,hcs⟩:=okWide_struct Tryz.underlying32 hv;rw[IW] at hcs;obtain⟨c0,c1,hc⟩:=tT (l:=cs.toList) (by simpa using hcs);obtain rfl:cs=#[c0,c1]:=by cases cs;simp_all
 obtain⟨fuel,hf⟩:=h;obtain⟨y0,y1,n,hx,-,t0,t1⟩:=trod_struct2 Tryz.underlying32 hf;simp only[Value.cells,pY,xX,List.drop_zero,List.take_succ_cons,List.take_zero,List.drop_succ_cons] at t0 t1
 injection hx with hx1 hx2;subst hx1;have w1:∀n∈y1.1.weights Tryz.prog 30,n≤reachBytes:=fun n hn=>hz n (by
  simp only[DataW.weights,Tryz.underlying32,DataW.weightsEach,List.map_cons,List.map_nil,List.mem_append]
  exact .inr (.inl hn))
 obtain⟨nts,e,-,hw⟩:=DataW.trod_int Tryz.underlying3 t0;injection e with e _;subst e;obtain⟨A,c,PV,rfl,h1⟩:=CO t1 w1;exact⟨nts,A,c,PV,rfl,hw,h1⟩
end Go.Proofs.YtnokckdkaifibaaGreatDoor.edRead
