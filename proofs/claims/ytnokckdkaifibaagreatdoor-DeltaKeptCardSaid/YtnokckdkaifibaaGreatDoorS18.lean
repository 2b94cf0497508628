/- A graph, a list of texts, a list of edges that come in, read: the slices lie in memory, and none is too great; An edge, a row of texts, a row of edges that come in, read; A grammar in weak normal form, a fact, a production that come in, read. -/
import Derived.ProofKit
import Derived.OpenShut
import Derived.ShutString
import Derived.ChangeOld
import Derived.ChangeSame
import Derived.Below
import Derived.Deep.Slices
import Derived.MapViews
import Derived.SizedLaws
import Derived.Test.YtnokckdkaifibaaGreatDoorS01
import Derived.Test.YtnokckdkaifibaaGreatDoorS12
set_option linter.unusedVariables false
set_option linter.unusedSimpArgs false
set_option maxHeartbeats 16000000
set_option maxRecDepth 100000
namespace Go.Proofs.YtnokckdkaifibaaGreatDoor.edRead
open Go.ChangeShapes Go.WideShapes Go.ChangeAt Go.RowKit
set_option linter.unusedVariables false
theorem own:ownKnob Tryz.prog.godebug=none:=by kernel_rfl
theorem tP:laidOutB Tryz.prog=true:=by kernel_rfl

section
variable {H:Type} {enc:TypeId × Value→H} {P:Program} {w:World}
theorem mT{t e m fuel:Nat}{v:Value}{x:DataW H × List MemPlace}(ht:P.underlying t=some (.slice e))(hk:P.keyTypeAt m e=true)
  (h:DataW.trod enc P w 0 (fun _=>true) true fuel t [v]=some x) (hz:∀n∈x.1.weights P t,n≤reachBytes) :
  v=.slice none 0 0∨∃a n c,v=.slice (some a) n c∧n≤c∧c*P.bytesOf e≤reachBytes∧∀i,i<c→∃cs L,cs.length=P.cellsOf e∧(∀j,j<P.cellsOf e→w.cell? (a.add (i*P.cellsOf e+j))=cs[j]?)∧P.keyLits m e cs=some L:=by
 rcases Deep.open_slice ht h with ⟨hcs,_⟩|⟨a,len,cap,m',n',D,Pl,hcs,_,hl,hm,hmm,hx,hi⟩
 ·injection hcs with hcs;exact .inl hcs
 ·injection hcs with hcs;subst hcs;obtain rfl:m'=cap:=by rw[hmm];exact if_pos rfl
  refine .inr ⟨a,len,m',rfl,hl,?_,fun i hic=>?_⟩
  ·subst hx;exact hz (m'*P.bytesOf e) (by
    simp only[DataW.weights,ht,List.length_map,List.length_range,show len+(m'-len)=m' by omega]
    simp)
  ·obtain⟨cs',hc,ht'⟩:=hi i (by simpa using hic);obtain⟨_,hlen,hat⟩:=World.cells?_some hc;exact⟨cs',_,hlen,fun j hj=>by rw[← Deep.add_add];exact hat j hj,(keyLits_of_trod m e hk n' cs' _ ht').1⟩
end
theorem wD:Tryz.prog.cellsOf 9=1:=by kernel_rfl
theorem nX{n:Nat}{c:Value}{l:List Lit}(h:Tryz.prog.keyLits n 9 [c]=some l):∃s:Txt,c=.string s∧dR s:=by
 cases n with
 | zero=>simp[Program.keyLits] at h
 | succ n =>
  unfold Program.keyLits at h;simp only[Tryz.underlying9] at h
  cases c <;> simp at h;obtain⟨hw,_⟩:=h;refine⟨_,rfl,?_⟩;unfold dR;unfold maxLen at hw;omega
theorem len_one{α:Type}:∀{l:List α},l.length=1→∃a,l=[a]
 | [a],_=>⟨a,rfl⟩
theorem tQ{α:Type}:∀{l:List α},l.length=2→∃a b,l=[a,b]
 | [a,b],_=>⟨a,b,rfl⟩
theorem IF{α:Type}:∀{l:List α},l.length=3→∃a b c,l=[a,b,c]
 | [a,b,c],_=>⟨a,b,c,rfl⟩
theorem BX:Tryz.prog.cellsOf 23=3:=by kernel_rfl
theorem IG:Tryz.prog.bytesOf 9=16:=by kernel_rfl
theorem BY:Tryz.prog.bytesOf 23=48:=by kernel_rfl
theorem QO{cs:List Value}{L:List Lit}(hl:cs.length=3)(h:Tryz.prog.keyLits 2 23 cs=some L):∃x:Ed,cs=x.cells∧nI x:=by
 obtain⟨c0,c1,c2,rfl⟩:=IF hl;rw[show(2:Nat)=1+1 from rfl] at h;unfold Program.keyLits at h;simp only[Tryz.underlying23] at h
 split at h
 ·obtain⟨l,hl',_⟩:=Option.map_eq_some_iff.1 h;simp only[wD,List.mapM_cons,List.mapM_nil,bind,Option.bind_eq_some_iff] at hl'
  obtain⟨l0,h0,q0,⟨l1,h1,q1,⟨l2,h2,-⟩,-⟩,-⟩:=hl';simp at h0 h1 h2
  obtain⟨x,rfl,hx⟩:=nX h0;obtain⟨y,rfl,hy⟩:=nX h1;obtain⟨z,rfl,hz⟩:=nX h2;exact⟨⟨x,y,z⟩,rfl,hx,hy,hz⟩
 ·cases h

theorem zP{α:Type}[Inhabited α](cells:α→List Value)(k:Nat)(hlen:∀x,(cells x).length=k)(h0:0<k){W:World}{a:Addr}{n:Nat}(Q:α→Prop)(hg:∀i,i<n→∃x:α,Q x∧∀j,j<k→W.cell? (a.add (i*k+j))=(cells x)[j]?) :
  ∃l:List α,l.length=n∧(∀x∈l,Q x)∧bJ W (some a) (l.flatMap cells):=by
 obtain⟨f,hf⟩:=Deep.choose_lt hg;refine⟨(List.range n).map f,by simp,?_,?_⟩
 ·intro x hx;obtain⟨i,hi,rfl⟩:=List.mem_map.1 hx;exact(hf i (List.mem_range.1 hi)).1
 ·intro j u hj;have hlt:=(gO.1 hj).1;rw[dV cells k hlen] at hlt;simp only[List.length_map,List.length_range] at hlt
  have hi:j / k<n:=Nat.div_lt_of_lt_mul (by rw[Nat.mul_comm];exact hlt);have hjm:j % k<k:=Nat.mod_lt _ h0;have hjd:j / k*k+j % k=j:=by rw[Nat.mul_comm];exact Nat.div_add_mod j k
  have h1:=dG cells k hlen ((List.range n).map f) (j / k) (j % k) (f (j / k)) (by rw[List.getElem?_map,List.getElem?_range hi];rfl) hjm;rw[hjd,hj] at h1;have h2:=(hf (j / k) hi).2 (j % k) hjm;rw[hjd,← h1] at h2;have h3:=(hf 0 (Nat.lt_of_le_of_lt (Nat.zero_le _) hi)).2 0 h0;have hlen0:=hlen (f 0);rw[gEz (by omega)] at h3;have hs:=World.cell?_spot h3;obtain⟨b,o,s⟩:=a;obtain rfl:s=none:=by simpa[Addr.add] using hs
  rw[Addr.add_lit] at h2;exact⟨b,o,rfl,h2⟩
instance:Inhabited Txt:=⟨ByteArray.empty⟩
instance:Inhabited Ed:=⟨⟨default,default,default⟩⟩
theorem MN(l:List Txt):(l.flatMap fun s=>[Value.string s])=aE l:=by
 induction l with
 | nil=>rfl
 | cons x l ih=>rw[List.flatMap_cons,ih];rfl

theorem wE{H:Type}{enc:TypeId × Value→H}{W:World}{fuel:Nat}{v:Value}{y:DataW H × List MemPlace}(t0:DataW.trod enc Tryz.prog W 0 (fun _=>true) true fuel 34 [v]=some y)
  (w0:∀n∈y.1.weights Tryz.prog 34,n≤reachBytes):∃A c N,v=.slice A (List.length N) c∧bJ W A (aE N)∧N.length≤c∧N.length*16≤140737488355328∧∀s∈N,dR s:=by
 rcases mT Tryz.underlying34 (m:=2) (by kernel_rfl) t0 w0 with rfl|⟨a,n,c,rfl,hnc,hb,hi⟩
 ·exact⟨none,0,[],rfl,fun j u hj=>by simp[aE] at hj,Nat.le_refl _,by simp,by simp⟩
 ·obtain⟨l,hl,hq,hr⟩:=zP (fun s:Txt=>[Value.string s]) 1 (fun _=>rfl) (by decide) (W:=W) (a:=a) (n:=n) dR (fun i hin=>by
   obtain⟨cs,L,hlen,hat,hL⟩:=hi i (by omega);rw[wD] at hat hlen;obtain⟨c0,rfl⟩:=len_one hlen;obtain⟨s,rfl,hs⟩:=nX hL;exact⟨s,hs,hat⟩)
  subst hl;rw[IG] at hb;simp only[reachBytes] at hb
  rw[MN] at hr;exact⟨_,c,l,rfl,hr,hnc,by omega,hq⟩
theorem zQ{H:Type}{enc:TypeId × Value→H}{W:World}{fuel:Nat}{v:Value}{y:DataW H × List MemPlace}(t0:DataW.trod enc Tryz.prog W 0 (fun _=>true) true fuel 40 [v]=some y)
  (w0:∀n∈y.1.weights Tryz.prog 40,n≤reachBytes):∃A c E,v=.slice A (List.length E) c∧bJ W A (aU E)∧E.length≤c∧E.length*48≤140737488355328∧∀x∈E,nI x:=by
 rcases mT Tryz.underlying40 (m:=2) (by kernel_rfl) t0 w0 with rfl|⟨a,n,c,rfl,hnc,hb,hi⟩
 ·exact⟨none,0,[],rfl,fun j u hj=>by simp[aU] at hj,Nat.le_refl _,by simp,by simp⟩
 ·obtain⟨l,hl,hq,hr⟩:=zP Ed.cells 3 (fun _=>rfl) (by decide) (W:=W) (a:=a) (n:=n) nI (fun i hin=>by
   obtain⟨cs,L,hlen,hat,hL⟩:=hi i (by omega);rw[BX] at hat hlen;obtain⟨f,rfl,hw⟩:=QO hlen hL;exact⟨f,hw,hat⟩)
  subst hl;rw[BY] at hb;simp only[reachBytes] at hb
  exact⟨_,c,l,rfl,hr,hnc,by omega,hq⟩
theorem xS:Tryz.prog.cellsOf 52=2:=by kernel_rfl
theorem CA:Tryz.prog.cellsOf 34=1:=by kernel_rfl
theorem II:Tryz.prog.cellsOf 40=1:=by kernel_rfl

theorem CB{H:Type}{enc:TypeId × Value→H}{W:World}{base:Nat}{v:Value}{d0:DataW H}{p0:List MemPlace}(hv:Value.okWide Tryz.prog W .any base 52 v)(h:DataW.Trod enc Tryz.prog W 0 (fun _=>true) true 52 v d0 p0)
  (hz:∀n∈d0.weights Tryz.prog 52,n≤reachBytes):∃A c B d N E,v=dS A (List.length N) c B (List.length E) d∧qI W A c B d N E:=by
 obtain⟨cs,rfl,hcs⟩:=okWide_struct Tryz.underlying52 hv;rw[xS] at hcs;obtain⟨c0,c1,hc⟩:=tQ (l:=cs.toList) (by simpa using hcs);obtain rfl:cs=#[c0,c1]:=by cases cs;simp_all
 obtain⟨fuel,hf⟩:=h;obtain⟨y0,y1,n,hx,-,t0,t1⟩:=trod_struct2 Tryz.underlying52 hf;simp only[Value.cells,CA,II,List.drop_zero,List.take_succ_cons,List.take_zero,List.drop_succ_cons] at t0 t1
 injection hx with hx1 hx2;subst hx1;have w0:∀n∈y0.1.weights Tryz.prog 34,n≤reachBytes:=fun n hn=>hz n (by
  simp only[DataW.weights,Tryz.underlying52,DataW.weightsEach,List.map_cons,List.map_nil,List.mem_append]
  exact .inl hn)
 have w1:∀n∈y1.1.weights Tryz.prog 40,n≤reachBytes:=fun n hn=>hz n (by
  simp only[DataW.weights,Tryz.underlying52,DataW.weightsEach,List.map_cons,List.map_nil,List.mem_append]
  exact .inr (.inl hn))
 obtain⟨A,c,N,rfl,hr0,hc0,hb0,hq0⟩:=wE t0 w0;obtain⟨B,d,E,rfl,hr1,hc1,hb1,hq1⟩:=zQ t1 w1;exact⟨A,c,B,d,N,E,rfl,hr0,hr1,hc0,hc1,hb0,hb1,hq0,hq1⟩
end Go.Proofs.YtnokckdkaifibaaGreatDoor.edRead
namespace Go.Proofs.YtnokckdkaifibaaGreatDoor.edRead
open Go.ChangeShapes Go.WideShapes Go.ChangeAt Go.RowKit
theorem MO{H:Type}{enc:TypeId × Value→H}{W:World}{base:Nat}{v:Value}{d0:DataW H}{p0:List MemPlace}(hv:Value.okWide Tryz.prog W .any base 34 v)(h:DataW.Trod enc Tryz.prog W 0 (fun _=>true) true 34 v d0 p0)
  (hz:∀n∈d0.weights Tryz.prog 34,n≤reachBytes):∃A c N,v=.slice A (List.length N) c∧bJ W A (aE N)∧N.length≤c∧N.length*16≤140737488355328∧∀s∈N,dR s:=by
 obtain⟨a,len,cap,rfl⟩:=okWide_slice Tryz.underlying34 hv;obtain⟨fuel,hf⟩:=h;exact wE (y:=(d0,p0)) hf hz
theorem QP{H:Type}{enc:TypeId × Value→H}{W:World}{base:Nat}{v:Value}{d0:DataW H}{p0:List MemPlace}(hv:Value.okWide Tryz.prog W .any base 40 v)(h:DataW.Trod enc Tryz.prog W 0 (fun _=>true) true 40 v d0 p0)
  (hz:∀n∈d0.weights Tryz.prog 40,n≤reachBytes):∃A c E,v=.slice A (List.length E) c∧bJ W A (aU E)∧E.length≤c∧E.length*48≤140737488355328∧∀x∈E,nI x:=by
 obtain⟨a,len,cap,rfl⟩:=okWide_slice Tryz.underlying40 hv;obtain⟨fuel,hf⟩:=h;exact zQ (y:=(d0,p0)) hf hz
end Go.Proofs.YtnokckdkaifibaaGreatDoor.edRead
namespace Go.Proofs.YtnokckdkaifibaaGreatDoor.edRead
open Go.ChangeShapes Go.WideShapes Go.ChangeAt Go.RowKit
set_option linter.unusedVariables false
theorem MP{n:Nat}{c:Value}{l:List Lit}(h:Tryz.prog.keyLits n 3 [c]=some l):∃x,c=.int .i64 x∧Wf x:=by
 cases n with
 | zero=>simp[Program.keyLits] at h
 | succ n =>
  unfold Program.keyLits at h;simp only[Tryz.underlying3] at h
  cases c <;> simp at h;rename_i k v
  obtain⟨⟨rfl,hw⟩,_⟩:=h;exact⟨v,rfl,hw⟩
theorem IJ{n:Nat}{c:Value}{l:List Lit}(h:Tryz.prog.keyLits n 4 [c]=some l):∃x,c=.bool x:=by
 cases n with
 | zero=>simp[Program.keyLits] at h
 | succ n =>
  unfold Program.keyLits at h;simp only[Tryz.underlying4] at h
  cases c <;> simp at h;exact⟨_,rfl⟩
theorem pU:Tryz.prog.cellsOf 3=1:=by kernel_rfl
theorem CC:Tryz.prog.cellsOf 4=1:=by kernel_rfl
theorem IK:Tryz.prog.cellsOf 101=2:=by kernel_rfl
theorem CD:Tryz.prog.cellsOf 74=1:=by kernel_rfl
theorem CE:Tryz.prog.cellsOf 76=2:=by kernel_rfl
theorem xT:Tryz.prog.cellsOf 30=1:=by kernel_rfl
theorem IL:Tryz.prog.cellsOf 32=2:=by kernel_rfl
theorem IM:Tryz.prog.bytesOf 101=16:=by kernel_rfl
theorem CF:Tryz.prog.bytesOf 76=32:=by kernel_rfl
instance:Inhabited Sy:=⟨⟨false,0⟩⟩
instance:Inhabited Pv:=⟨⟨⟨0,[]⟩,none,0⟩⟩
theorem MQ{cs:List Value}{L:List Lit}(hl:cs.length=2)(h:Tryz.prog.keyLits 2 101 cs=some L):∃s:Sy,cs=s.cells∧Wf s.at_:=by
 obtain⟨c0,c1,rfl⟩:=tQ hl;rw[show(2:Nat)=1+1 from rfl] at h;unfold Program.keyLits at h;simp only[Tryz.underlying101] at h
 split at h
 ·obtain⟨l,hl',_⟩:=Option.map_eq_some_iff.1 h;simp only[CC,pU,List.mapM_cons,List.mapM_nil,bind,Option.bind_eq_some_iff] at hl'
  obtain⟨l0,h0,q0,⟨l1,h1,-⟩,-⟩:=hl';simp at h0 h1
  obtain⟨x,rfl⟩:=IJ h0;obtain⟨y,rfl,hy⟩:=MP h1;exact⟨⟨x,y⟩,rfl,hy⟩
 ·cases h
theorem IN{H:Type}{enc:TypeId × Value→H}{W:World}{fuel:Nat}{v:Value}{y:DataW H × List MemPlace}(t0:DataW.trod enc Tryz.prog W 0 (fun _=>true) true fuel 74 [v]=some y)
  (w0:∀n∈y.1.weights Tryz.prog 74,n≤reachBytes):∃A c S,v=.slice A (List.length S) c∧bJ W A (dF S)∧S.length≤c∧S.length*16≤140737488355328∧∀s∈S,Wf s.at_:=by
 rcases mT Tryz.underlying74 (m:=2) (by kernel_rfl) t0 w0 with rfl|⟨a,n,c,rfl,hnc,hb,hi⟩
 ·exact⟨none,0,[],rfl,fun j u hj=>by simp[dF] at hj,Nat.le_refl _,by simp,by simp⟩
 ·obtain⟨l,hl,hq,hr⟩:=zP Sy.cells 2 (fun _=>rfl) (by decide) (W:=W) (a:=a) (n:=n) (fun s=>Wf s.at_) (fun i hin=>by
   obtain⟨cs,L,hlen,hat,hL⟩:=hi i (by omega);rw[IK] at hat hlen;obtain⟨f,rfl,hw⟩:=MQ hlen hL;exact⟨f,hw,hat⟩)
  subst hl;rw[IM] at hb;simp only[reachBytes] at hb
  exact⟨_,c,l,rfl,hr,hnc,by omega,hq⟩
def IP(v:Pv):Prop:=Wf v.pr.head∧v.pr.body.length≤v.cap∧v.pr.body.length*16≤140737488355328∧∀s∈v.pr.body,Wf s.at_
theorem pV{H:Type}{P:Program}{e:TypeId}{d:DataW H}:∀{l:List (DataW H)},d∈l→∀n∈d.weights P e,n∈DataW.weightsAll P e l
 | x::l,h,n,hn=>by
  rw[DataW.weightsAll,List.mem_append];rcases List.mem_cons.1 h with rfl|h
  ·exact .inl hn
  ·exact .inr (pV h n hn)
theorem IQ{H:Type}{enc:TypeId × Value→H}{W:World}{fuel:Nat}{cs:List Value}{y:DataW H × List MemPlace}(hl:cs.length=2)(t:DataW.trod enc Tryz.prog W 0 (fun _=>true) true fuel 76 cs=some y)
  (hz:∀n∈y.1.weights Tryz.prog 76,n≤reachBytes):∃v:Pv,cs=v.cells∧bJ W v.adr (dF v.pr.body)∧IP v:=by
 obtain⟨c0,c1,rfl⟩:=tQ hl;obtain⟨y0,y1,n,hx,-,t0,t1⟩:=trod_struct2 Tryz.underlying76 t;simp only[pU,CD,List.drop_zero,List.take_succ_cons,List.take_zero,List.drop_succ_cons] at t0 t1
 subst hx;have w1:∀n∈y1.1.weights Tryz.prog 74,n≤reachBytes:=fun n hn=>hz n (by
  simp only[DataW.weights,Tryz.underlying76,DataW.weightsEach,List.map_cons,List.map_nil,List.mem_append]
  exact .inr (.inl hn))
 obtain⟨h,e,-,hw⟩:=DataW.trod_int Tryz.underlying3 t0;injection e with e _;subst e;obtain⟨A,c,S,rfl,hr,h1,h2,h3⟩:=IN t1 w1;exact⟨⟨⟨h,S⟩,A,c⟩,rfl,hr,hw,h1,h2,h3⟩
theorem CG{H:Type}{enc:TypeId × Value→H}{W:World}{fuel:Nat}{v:Value}{y:DataW H × List MemPlace}(t0:DataW.trod enc Tryz.prog W 0 (fun _=>true) true fuel 30 [v]=some y)
  (w0:∀n∈y.1.weights Tryz.prog 30,n≤reachBytes):∃A c PV,v=.slice A (List.length PV) c∧PvR W A PV∧PV.length≤c∧PV.length*32≤140737488355328∧∀x∈PV,IP x:=by
 rcases Deep.open_slice Tryz.underlying30 t0 with ⟨hcs,_⟩|⟨a,len,cap,m',n',D,Pl,hcs,_,hl,hm,hmm,hx,hi⟩
 ·injection hcs with hcs;subst hcs;exact⟨none,0,[],rfl,⟨fun j u hj=>by simp[cO] at hj,by simp⟩,Nat.le_refl _,by simp,by simp⟩
 ·injection hcs with hcs;subst hcs;obtain rfl:m'=cap:=by rw[hmm];exact if_pos rfl
  subst hx;have hb:=w0 (m'*Tryz.prog.bytesOf 76) (by
   simp only[DataW.weights,Tryz.underlying30,List.length_map,List.length_range,show len+(m'-len)=m' by omega]
   simp)
  have hd:∀i,i<len→∀n∈(D i).weights Tryz.prog 76,n≤reachBytes:=fun i hi' n hn=>w0 n (by
   simp only[DataW.weights,Tryz.underlying30,List.mem_cons,List.mem_append]
   exact .inr (.inl (pV (List.mem_map.2 ⟨i,List.mem_range.2 hi',rfl⟩) n hn)))
  obtain⟨l,hll,hq,hr⟩:=zP Pv.cells 2 (fun _=>rfl) (by decide) (W:=W) (a:=a) (n:=len) (fun v=>bJ W v.adr (dF v.pr.body)∧IP v) (fun i hin=>by
   obtain⟨cs',hc,ht'⟩:=hi i (by omega);obtain⟨_,hlen,hat⟩:=World.cells?_some hc;rw[CE] at hlen hat;obtain⟨v,rfl,h1,h2⟩:=IQ hlen ht' (hd i hin);exact⟨v,⟨h1,h2⟩,fun j hj=>by
    have:=hat j hj;rw[Deep.add_add] at this;exact this⟩)
  subst hll;rw[CF] at hb;simp only[reachBytes] at hb
  exact⟨_,m',l,rfl,⟨hr,fun v hv=>(hq v hv).1⟩,hl,by omega,fun v hv=>(hq v hv).2⟩
theorem QQ{H:Type}{enc:TypeId × Value→H}{W:World}{base:Nat}{v:Value}{d0:DataW H}{p0:List MemPlace}(hv:Value.okWide Tryz.prog W .any base 32 v)(h:DataW.Trod enc Tryz.prog W 0 (fun _=>true) true 32 v d0 p0)
  (hz:∀n∈d0.weights Tryz.prog 32,n≤reachBytes):∃(nts:Int) (A:Option Addr) (c:Nat) (PV:List Pv),v=.agg #[.int .i64 nts,.slice A PV.length c]∧Wf nts∧PvR W A PV∧PV.length≤c∧PV.length*32≤140737488355328∧∀x∈PV,IP x:=by
 obtain⟨cs,rfl,hcs⟩:=okWide_struct Tryz.underlying32 hv;rw[IL] at hcs;obtain⟨c0,c1,hc⟩:=tQ (l:=cs.toList) (by simpa using hcs);obtain rfl:cs=#[c0,c1]:=by cases cs;simp_all
 obtain⟨fuel,hf⟩:=h;obtain⟨y0,y1,n,hx,-,t0,t1⟩:=trod_struct2 Tryz.underlying32 hf;simp only[Value.cells,pU,xT,List.drop_zero,List.take_succ_cons,List.take_zero,List.drop_succ_cons] at t0 t1
 injection hx with hx1 hx2;subst hx1;have w1:∀n∈y1.1.weights Tryz.prog 30,n≤reachBytes:=fun n hn=>hz n (by
  simp only[DataW.weights,Tryz.underlying32,DataW.weightsEach,List.map_cons,List.map_nil,List.mem_append]
  exact .inr (.inl hn))
 obtain⟨nts,e,-,hw⟩:=DataW.trod_int Tryz.underlying3 t0;injection e with e _;subst e;obtain⟨A,c,PV,rfl,h1⟩:=CG t1 w1;exact⟨nts,A,c,PV,rfl,hw,h1⟩
end Go.Proofs.YtnokckdkaifibaaGreatDoor.edRead
