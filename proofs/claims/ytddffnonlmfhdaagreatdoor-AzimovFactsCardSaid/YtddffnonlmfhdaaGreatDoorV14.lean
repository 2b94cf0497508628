/- AzimovFacts: many, In, SameCells; AzimovFacts: the document's set of facts, by a work list: the plain law; AzimovFacts: the document's set of facts in memory; AzimovFacts: the document's set of facts: Put, Empty; AzimovFacts: the document's set of facts: All, Pairs; AzimovFacts: the document's Check of a grammar; The document's answer of layer 16: two rising lists as one (plain); The document's answer of layer 16: a name, a label, an edge ahead of another one, a text among a rising list. -/
import Derived.Test.YtddffnonlmfhdaaGreatDoorV13
import Derived.Test.YtddffnonlmfhdaaGreatDoorV01
import Derived.Test.YtddffnonlmfhdaaGreatDoorV02
import Derived.Test.YtddffnonlmfhdaaGreatDoorV11
set_option linter.unusedVariables false
set_option linter.unusedSimpArgs false
set_option maxHeartbeats 16000000
set_option maxRecDepth 100000
namespace Go.Proofs.YtddffnonlmfhdaaGreatDoor
open Go.RowKit Go.Shelf
def NR(nts m:Int):Bool:=(decide (40<nts)&&decide (nts≤512))||(decide (120<m)&&decide (m≤8192))
theorem IY(w:World)(nts:Int)(PA:Option Addr)(m pc:Nat):Calls Tryz.prog 23 #[.agg #[.int .i64 nts,.slice PA m pc]] w (Sam w (.bool (NR nts m))):=by
 have b1:Below w.heap.size w (w.alloc (.cells #[.int .i64 nts,.slice PA m pc] 50)):=bR.alloc (Nat.le_refl _) _;have k1:=Blk.new w 50 #[.int .i64 nts,.slice PA m pc];have q0:(w.alloc (.cells #[.int .i64 nts,.slice PA m pc] 50)).cell? ⟨w.heap.size,0,none⟩=some (.int .i64 nts):=k1.cell 0;have q1:(w.alloc (.cells #[.int .i64 nts,.slice PA m pc] 50)).cell? ⟨w.heap.size,1,none⟩=some (.slice PA m pc):=k1.cell 1;have H:=hIz b1;clear b1 k1;obtain⟨r,hr⟩:∃r,NR nts m=r:=⟨_,rfl⟩;rw[hr];unfold NR at hr;by_cases h1:40<nts
 ·by_cases h2:nts≤512
  ·simp only[h1,h2,decide_true,decide_false,Bool.and_true,Bool.and_false,Bool.true_and,Bool.false_and,Bool.or_true,Bool.or_false,Bool.true_or,Bool.false_or] at hr
   subst hr;go_enter Tryz.func23,Tryz.ntmps23;go_wp2;go_ret;exact⟨rfl,H.out⟩
  ·by_cases h3:(120:Int)<(m:Int)
   ·by_cases h4:(m:Int)≤8192
    ·simp only[h1,h2,h3,h4,decide_true,decide_false,Bool.and_true,Bool.and_false,Bool.true_and,Bool.false_and,Bool.or_true,Bool.or_false,Bool.true_or,Bool.false_or] at hr
     subst hr;go_enter Tryz.func23,Tryz.ntmps23;go_wp2;go_ret;exact⟨rfl,H.out⟩
    ·simp only[h1,h2,h3,h4,decide_true,decide_false,Bool.and_true,Bool.and_false,Bool.true_and,Bool.false_and,Bool.or_true,Bool.or_false,Bool.true_or,Bool.false_or] at hr
     subst hr;go_enter Tryz.func23,Tryz.ntmps23;go_wp2;go_ret;exact⟨rfl,H.out⟩
   ·simp only[h1,h2,h3,decide_true,decide_false,Bool.and_true,Bool.and_false,Bool.true_and,Bool.false_and,Bool.or_true,Bool.or_false,Bool.true_or,Bool.false_or] at hr
    subst hr;go_enter Tryz.func23,Tryz.ntmps23;go_wp2;go_ret;exact⟨rfl,H.out⟩
 ·by_cases h3:(120:Int)<(m:Int)
  ·by_cases h4:(m:Int)≤8192
   ·simp only[h1,h3,h4,decide_true,decide_false,Bool.and_true,Bool.and_false,Bool.true_and,Bool.false_and,Bool.or_true,Bool.or_false,Bool.true_or,Bool.false_or] at hr
    subst hr;go_enter Tryz.func23,Tryz.ntmps23;go_wp2;go_ret;exact⟨rfl,H.out⟩
   ·simp only[h1,h3,h4,decide_true,decide_false,Bool.and_true,Bool.and_false,Bool.true_and,Bool.false_and,Bool.or_true,Bool.or_false,Bool.true_or,Bool.false_or] at hr
    subst hr;go_enter Tryz.func23,Tryz.ntmps23;go_wp2;go_ret;exact⟨rfl,H.out⟩
  ·simp only[h1,h3,decide_true,decide_false,Bool.and_true,Bool.and_false,Bool.true_and,Bool.false_and,Bool.or_true,Bool.or_false,Bool.true_or,Bool.false_or] at hr
   subst hr;go_enter Tryz.func23,Tryz.ntmps23;go_wp2;go_ret;exact⟨rfl,H.out⟩
def inS(nts n f0 f1 f2:Int):Bool:=((((decide (0≤f0)&&decide (f0<nts))&&decide (0≤f1))&&decide (f1<n))&&decide (0≤f2))&&decide (f2<n)
theorem yR(w:World)(nts n f0 f1 f2:Int)(u v:Value):Calls Tryz.prog 30 #[.agg #[.int .i64 nts,.int .i64 n,u,v],.agg #[.int .i64 f0,.int .i64 f1,.int .i64 f2]] w (Sam w (.bool (inS nts n f0 f1 f2))):=by
 have b1:Below w.heap.size w ((w.alloc (.cells #[.int .i64 nts,.int .i64 n,u,v] 76)).alloc (.cells #[.int .i64 f0,.int .i64 f1,.int .i64 f2] 52)):=by(repeat (first | exact Below.refl _ _ | apply Below.drew | refine Below.alloc ?_ (by first | exact Nat.le_refl _ | (simp;done) | (simp;omega)) _ | refine Below.setCell ?_ (by first | exact Nat.le_refl _ | (simp;done) | (simp;omega)) _))
 have k1:=(Blk.new w 76 #[.int .i64 nts,.int .i64 n,u,v]).alloc (.cells #[.int .i64 f0,.int .i64 f1,.int .i64 f2] 52);have k2:=Blk.new (w.alloc (.cells #[.int .i64 nts,.int .i64 n,u,v] 76)) 52 #[.int .i64 f0,.int .i64 f1,.int .i64 f2];simp only[World.size_alloc] at k2
 have H:=aI3 b1 k1 k2;clear b1 k1 k2;obtain⟨r,hr⟩:∃r,inS nts n f0 f1 f2=r:=⟨_,rfl⟩;rw[hr];unfold inS at hr;go_enter Tryz.func30,Tryz.ntmps30;go_upto_region 1 with (fail);generalize (w.alloc (.cells #[.int .i64 nts,.int .i64 n,u,v] 76)).alloc (.cells #[.int .i64 f0,.int .i64 f1,.int .i64 f2] 52)=W0 at H ⊢;have q0:W0.cell? ⟨w.heap.size,0,none⟩=some (.int .i64 nts):=H.out.2.1.cell 0;have q1:W0.cell? ⟨w.heap.size,1,none⟩=some (.int .i64 n):=H.out.2.1.cell 1;have p0:W0.cell? ⟨w.heap.size+1,0,none⟩=some (.int .i64 f0):=H.out.2.2.cell 0;have p1:W0.cell? ⟨w.heap.size+1,1,none⟩=some (.int .i64 f1):=H.out.2.2.cell 1;have p2:W0.cell? ⟨w.heap.size+1,2,none⟩=some (.int .i64 f2):=H.out.2.2.cell 2;by_cases h1:0≤f0
 ·by_cases h2:f0<nts
  ·by_cases h3:0≤f1
   ·by_cases h4:f1<n
    ·by_cases h5:0≤f2
     ·by_cases h6:f2<n
      ·simp only[h1,h2,h3,h4,h5,h6,decide_true,Bool.and_true] at hr;subst hr;go_wp2;go_ret;exact⟨rfl,H.out.1⟩
      ·simp only[h6,decide_false,Bool.and_false] at hr;subst hr;go_wp2;go_ret;exact⟨rfl,H.out.1⟩
     ·simp only[h5,decide_false,Bool.and_false,Bool.false_and] at hr;subst hr;go_wp2;go_ret;exact⟨rfl,H.out.1⟩
    ·simp only[h4,decide_false,Bool.and_false,Bool.false_and] at hr;subst hr;go_wp2;go_ret;exact⟨rfl,H.out.1⟩
   ·simp only[h3,decide_false,Bool.and_false,Bool.false_and] at hr;subst hr;go_wp2;go_ret;exact⟨rfl,H.out.1⟩
  ·simp only[h2,decide_false,Bool.and_false,Bool.false_and] at hr;subst hr;go_wp2;go_ret;exact⟨rfl,H.out.1⟩
 ·simp only[h1,decide_false,Bool.false_and] at hr;subst hr;go_wp2;go_ret;exact⟨rfl,H.out.1⟩
theorem IZ{nts n f0 f1 f2:Int}:inS nts n f0 f1 f2=true↔0≤f0∧f0<nts∧0≤f1∧f1<n∧0≤f2∧f2<n:=by
 unfold inS;simp only[Bool.and_eq_true,decide_eq_true_eq,and_assoc]
def ceC(x:Nat × Nat):List Value:=[.int .i64 (x.1:Int),.int .i64 (x.2:Int)]
def dF(L:List (Nat × Nat)):List Value:=L.flatMap ceC
theorem PG(x:Nat × Nat):∀u∈ceC x,u.oneCell'=true:=by
 intro u hf;simp[ceC] at hf
 rcases hf with rfl|rfl <;> rfl
theorem CY:Tryz.prog.stoodInHeld 83=false:=by kernel_rfl
theorem wP(W:World)(a b:Int)(k:Nat)(x:Int)(h:[a,b][k]?=some x):(part 3 #[.int .i64 a,.int .i64 b] k).run Tryz.prog W=.ok (.int .i64 x) W:=by
 match k,h with
 | 0,h=>simp at h;subst h;simp[part,isAgg,run_underlying Tryz.underlying3]
 | 1,h=>simp at h;subst h;simp[part,isAgg,run_underlying Tryz.underlying3]
 | k+2,h=>simp at h
theorem NS(W:World)(a0 a1 b0 b1:Int):(binOp .neq 83 (.agg #[.int .i64 a0,.int .i64 a1]) (.agg #[.int .i64 b0,.int .i64 b1])).run Tryz.prog W=.ok (.bool (!(a0==b0&&a1==b1))) W:=by
 have hs:Tryz.prog.underlying 83=some (.struct (Tryz.prog.fieldsOf 83)):=by kernel_rfl
 have h9:=fun a b=>run_equalIn_int (P:=Tryz.prog) W 9998 3 .i64 .i64 a b Tryz.underlying3
 have pa:=wP W a0 a1;have pb:=wP W b0 b1;have e:(Op.equal 83 (.agg #[.int .i64 a0,.int .i64 a1]) (.agg #[.int .i64 b0,.int .i64 b1])).run Tryz.prog W=.ok (a0==b0&&a1==b1) W:=by
  show(Op.equalIn (9999+1) _ _ _).run _ _=_
  rw[run_equalIn_struct (P:=Tryz.prog) W 9999 _ _ _ hs CY];simp only[Program.fieldsOf,Tryz.underlying83,Op.eqFields]
  rw[if_pos (by decide),if_pos (by decide)];simp only[Sem.run_bind,pa 0 a0 rfl,pb 0 b0 rfl,h9,Result.andThen_ok]
  cases a0==b0
  ·simp
  ·simp only[Bool.not_true,Bool.false_eq_true,if_false,Sem.run_bind,pa 1 a1 rfl,pb 1 b1 rfl,h9,Result.andThen_ok,Bool.true_and]
   cases a1==b1 <;> simp
 clear pa pb h9 hs;simp only[binOp]
 simp[e]
theorem aU.ce{w:World}{A:Option Addr}{L:List (Nat × Nat)}(h:aU w A (dF L)){k:Nat}{x:Nat × Nat}(hk:L[k]?=some x) :
  ∃b o,A=some ⟨b,o,none⟩∧w.cell? ⟨b,o+k*2,none⟩=some (.int .i64 (x.1:Int))∧w.cell? ⟨b,o+k*2+1,none⟩=some (.int .i64 (x.2:Int)):=by
 have hg:=fun j (hj:j<2)=>cW ceC 2 (fun _=>rfl) L k j x hk hj
 obtain⟨b,o,rfl,h0⟩:=h _ _ (hg 0 (by omega));obtain⟨b1,o1,e1,h1⟩:=h _ _ (hg 1 (by omega));injection e1 with e1;injection e1 with e1 e1';subst e1;subst e1';exact⟨_,_,rfl,h0,h1⟩
theorem lX(w:World)(A B:Option Addr)(c d:Nat)(L:List (Nat × Nat))(hA:aU w A (dF L))(hB:aU w B (dF L))(hl:L.length≤2097152) :
  Calls Tryz.prog 32 #[.slice A L.length c,.slice B L.length d] w (Sam w (.bool true)):=by
 obtain⟨m,hm⟩:∃m,L.length=m:=⟨_,rfl⟩;have HM:=hIz hm;have hm1:m≤2097152:=by omega
 rw[hm];have H:=aI2 hA hB;clear hA hB hm hl;go_enter Tryz.func32,Tryz.ntmps32;go_wp2_with fail;go_loopw [5] (fun iv wr=>∃k:Nat,k≤m∧iv=.int .i64 k∧Hid (Below w.heap.size w wr)) (fun iv _=>m-(intOf iv).toNat)
 case atStart=>exact⟨0,Nat.zero_le _,rfl,hIz bR⟩
 case round =>
  obtain⟨k,hk,rfl,hbw⟩:=hrel;by_cases hlt:k<m
  ·have hltI:(k:Int)<(m:Int):=by omega
   have hkw:IntKind.i64.wrap ((k:Int)+1)=(k:Int)+1:=IntWalk.i64_in _ (by omega);obtain⟨⟨x0,x1⟩,hx⟩:∃x,L[k]?=some x:=⟨L[k]'(by rw[HM.out];exact hlt),gEz _⟩;obtain⟨ab,ao,rfl,a0,a1⟩:=(H.out.1.below hbw.out).ce hx;obtain⟨bb,bo,rfl,b0,b1⟩:=(H.out.2.below hbw.out).ce hx;dsimp only at a0 a1 b0 b1
   have hneq:∀W,(binOp .neq 83 (.agg #[.int .i64 (x0:Int),.int .i64 (x1:Int)]) (.agg #[.int .i64 (x0:Int),.int .i64 (x1:Int)])).run Tryz.prog W=.ok (.bool false) W:=fun W=>by
    rw[NS];simp
   clear hx;go_upto_region 6 with (fail);refine aW (fun w'=>w'.cell? ⟨ab,ao+k*2,none⟩=some (.int .i64 (x0:Int))∧w'.cell? ⟨ab,ao+k*2+1,none⟩=some (.int .i64 (x1:Int))∧w'.cell? ⟨bb,bo+k*2,none⟩=some (.int .i64 (x0:Int))∧w'.cell? ⟨bb,bo+k*2+1,none⟩=some (.int .i64 (x1:Int))) 9 [(0,true),(1,true),(2,true),(3,true),(4,true),(5,true),(6,true),(7,true),(8,true)] (by kernel_rfl) (by kernel_rfl) (fun _ _ d _ _ h=>by cases d <;> exact h) ⟨a0,a1,b0,b1⟩ ?_
   iterate 9 refine aC rfl ?_
   refine aG ?_;go_wp2;go_roundw
   case rel=>exact⟨k+1,by omega,by go_num,hIz hbw.out.drew⟩
   case measure=>simp[intOf];omega
  ·obtain rfl:k=m:=by omega
   go_wp2;go_ret;exact⟨rfl,hbw.out⟩
open Go.RowKit Go.Shelf
def ixF(n a u v:Nat):Nat:=(a*n+u)*n+v
theorem wQ{T n a u v:Nat}(ha:a<T)(hu:u<n)(hv:v<n):ixF n a u v<T*n*n:=by
 unfold ixF;have h1:a*n+u<T*n:=Nat.lt_of_lt_of_le (show a*n+u<(a+1)*n by rw[Nat.succ_mul];omega) (Nat.mul_le_mul_right _ ha);exact Nat.lt_of_lt_of_le (show(a*n+u)*n+v<(a*n+u+1)*n by rw[Nat.succ_mul];omega) (Nat.mul_le_mul_right _ h1)
theorem rJ{n a u b x:Nat}(hu:u<n)(hx:x<n)(h:a*n+u=b*n+x):a=b∧u=x:=by
 have e1:(a*n+u) % n=u:=by rw[Nat.mul_comm,Nat.mul_add_mod,Nat.mod_eq_of_lt hu]
 have e2:(b*n+x) % n=x:=by rw[Nat.mul_comm,Nat.mul_add_mod,Nat.mod_eq_of_lt hx]
 have e3:u=x:=by rw[← e1,← e2,h]
 refine⟨?_,e3⟩;subst e3;exact Nat.eq_of_mul_eq_mul_right (by omega) (Nat.add_right_cancel h)
theorem JA{n a u v b x y:Nat}(hu:u<n)(hv:v<n)(hx:x<n)(hy:y<n)(h:ixF n a u v=ixF n b x y):(a,u,v)=(b,x,y):=by
 obtain⟨h1,rfl⟩:=rJ hv hy h;obtain⟨rfl,rfl⟩:=rJ hu hx h1;rfl
def yS(L:List (Nat × Nat × Nat))(x:Nat × Nat × Nat):List (Nat × Nat × Nat):=if x∈L then L else L++[x]
theorem nS{L:List (Nat × Nat × Nat)}{x y:Nat × Nat × Nat}:y∈yS L x↔y∈L∨y=x:=by
 unfold yS;split
 ·rename_i h
  exact⟨.inl,fun h2=>h2.elim id (fun e=>by rw[e];exact h)⟩
 ·rw[List.mem_append,List.mem_singleton]
theorem BB(L:List (Nat × Nat × Nat))(x:Nat × Nat × Nat):L <+: yS L x:=by
 unfold yS;split
 ·exact List.prefix_refl _
 ·exact List.prefix_append _ _
theorem BC{α:Type}[DecidableEq α]:∀(L R:List α),L.Nodup→(∀x∈L,x∈R)→L.length≤R.length
 | [],R,_,_=>Nat.zero_le _
 | x::L,R,h,hm=>by
  obtain⟨h1,h2⟩:=List.nodup_cons.1 h;have hx:=hm x List.mem_cons_self;have:=BC L (R.erase x) h2 (fun y hy=>(List.mem_erase_of_ne (fun e=>h1 (by rw[← e];exact hy))).2 (hm y (List.mem_cons_of_mem _ hy)));rw[List.length_erase_of_mem hx] at this;have h3:=List.length_pos_of_mem hx;rw[List.length_cons];omega
structure Okf(Der C:Nat × Nat × Nat→Prop)(L:List (Nat × Nat × Nat)):Prop where
 snd:∀x∈L,Der x
 nd:L.Nodup
 has:∀x,C x→x∈L
theorem Okf.put{Der C:Nat × Nat × Nat→Prop}{L:List (Nat × Nat × Nat)}(h:Okf Der C L){y:Nat × Nat × Nat}(hy:Der y):Okf Der (fun x=>C x∨x=y) (yS L y):=by
 refine⟨fun x hx=>?_,?_,fun x hx=>nS.2 (hx.elim (fun c=>.inl (h.has x c)) .inr)⟩
 ·rcases nS.1 hx with hx|rfl
  ·exact h.snd x hx
  ·exact hy
 ·unfold yS;split
  ·exact h.nd
  ·rename_i hn
   exact List.nodup_append.2 ⟨h.nd,by simp,fun a ha b hb e=>hn (by rw[List.mem_singleton] at hb;rw[← hb,← e];exact ha)⟩
theorem Okf.mono{Der C C':Nat × Nat × Nat→Prop}{L:List (Nat × Nat × Nat)}(h:Okf Der C L)(hc:∀x,C' x→C x):Okf Der C' L:=⟨h.snd,h.nd,fun x hx=>h.has x (hc x hx)⟩
theorem Okf.len{Der C:Nat × Nat × Nat→Prop}{L:List (Nat × Nat × Nat)}{T n:Nat}(h:Okf Der C L)(hD:∀x,Der x→x.1<T∧x.2.1<n∧x.2.2<n):L.length≤T*n*n:=by
 have h2:(L.map (fun x=>ixF n x.1 x.2.1 x.2.2)).Nodup:=IX h.nd (fun a ha b hb e=>by
  obtain⟨a0,a1,a2⟩:=a;obtain⟨b0,b1,b2⟩:=b;have da:=hD _ (h.snd _ ha);have db:=hD _ (h.snd _ hb);exact JA da.2.1 da.2.2 db.2.1 db.2.2 e)
 have:=BC _ (List.range (T*n*n)) h2 (fun y hy=>by
  obtain⟨x,hx,rfl⟩:=List.mem_map.1 hy;have d:=hD _ (h.snd _ hx);exact List.mem_range.2 (wQ d.1 d.2.1 d.2.2))
 simpa using this
def JB(El:Int→Nat→Nat→Prop)(n:Nat)(p:Pr)(x:Nat × Nat × Nat):Prop:=
 (p.body=[]∧x.2.1<n∧x.2.1=x.2.2∧x.1=p.head.toNat)∨∃s,p.body=[s]∧El s.at_ x.2.1 x.2.2∧x.1=p.head.toNat
def NT(p:Pr)(f g x:Nat × Nat × Nat):Prop:=∃s t,p.body=[s,t]∧s.at_=(f.1:Int)∧t.at_=(g.1:Int)∧f.2.2=g.2.1∧x=(p.head.toNat,f.2.1,g.2.2)
def RY(P:List Pr)(El:Int→Nat→Nat→Prop)(n:Nat)(x:Nat × Nat × Nat):Prop:=qD P El n (x.1:Int) x.2.1 x.2.2
theorem BD{P:List Pr}{El:Int→Nat→Nat→Prop}{n:Nat}{p:Pr}(hp:p∈P)(h0:0≤p.head){x:Nat × Nat × Nat}(h:JB El n p x):RY P El n x:=by
 obtain⟨hd,b⟩:=p;obtain⟨x0,x1,x2⟩:=x;dsimp only at h0
 have e:∀k:Nat,k=hd.toNat→hd=(k:Int):=fun k hk=>by omega
 rcases h with ⟨h1,h2,h3,h4⟩|⟨s,h1,h2,h4⟩
 ·have h1:b=[]:=h1;have h3:x1=x2:=h3;subst h1;subst h3;have:=e x0 h4;subst this;exact .eps hp h2
 ·have h1:b=[s]:=h1;subst h1;have:=e x0 h4;subst this;exact .one hp h2
theorem JC{P:List Pr}{El:Int→Nat→Nat→Prop}{n:Nat}{p:Pr}(hp:p∈P)(h0:0≤p.head){f g x:Nat × Nat × Nat}(hf:RY P El n f)(hg:RY P El n g)(h:NT p f g x):RY P El n x:=by
 obtain⟨hd,b⟩:=p;obtain⟨s,t,h1,h2,h3,h4,rfl⟩:=h;have h1:b=[s,t]:=h1;subst h1;unfold RY at hf hg ⊢;dsimp only at h0 ⊢
 rw[show((hd.toNat:Nat):Int)=hd by omega];rw[← h2] at hf;rw[← h3,← h4] at hg;exact .two hp hf hg
theorem RZ{P:List Pr}{El:Int→Nat→Nat→Prop}{n:Nat}(hP:∀p∈P,0≤p.head){L:List (Nat × Nat × Nat)}(h1:∀p∈P,∀x,JB El n p x→x∈L)(h2:∀p∈P,∀f∈L,∀g∈L,∀x,NT p f g x→x∈L){x:Nat × Nat × Nat}(d:RY P El n x):x∈L:=by
 have closed:wC P El n (fun a i j=>∃k:Nat,a=(k:Int)∧(k,i,j)∈L):=by
  refine⟨fun a i hp hi=>?_,fun a s i j hp he=>?_,fun a s t i k j hp g1 g2=>?_⟩
  ·have:=hP _ hp;exact⟨a.toNat,by dsimp only at this;omega,h1 _ hp _ (.inl ⟨rfl,hi,rfl,rfl⟩)⟩
  ·have:=hP _ hp;exact⟨a.toNat,by dsimp only at this;omega,h1 _ hp _ (.inr ⟨s,rfl,he,rfl⟩)⟩
  ·have:=hP _ hp;obtain⟨u,e1,m1⟩:=g1;obtain⟨v,e2,m2⟩:=g2;exact⟨a.toNat,by dsimp only at this;omega,h2 _ hp _ m1 _ m2 _ ⟨s,t,rfl,e1,e2,rfl,rfl⟩⟩
 obtain⟨a,i,j⟩:=x;obtain⟨k,e,hk⟩:=closed.least d;have e:a=k:=by omega
 subst e;exact hk
def fV(L:List (Nat × Nat × Nat))(a u v:Nat):List (Nat × Nat × Nat):=((List.range v).filter (fun v=>decide ((a,u,v)∈L))).map (fun v=>(a,u,v))
def fU(n:Nat)(L:List (Nat × Nat × Nat))(a u:Nat):List (Nat × Nat × Nat):=(List.range u).flatMap (fun u=>fV L a u n)
def fA(n:Nat)(L:List (Nat × Nat × Nat))(a:Nat):List (Nat × Nat × Nat):=(List.range a).flatMap (fun a=>fU n L a n)
theorem JD(L:List (Nat × Nat × Nat))(a u v:Nat):fV L a u (v+1)=if (a,u,v)∈L then fV L a u v++[(a,u,v)] else fV L a u v:=by
 unfold fV;rw[List.range_succ,List.filter_append,List.map_append];by_cases h:(a,u,v)∈L <;> simp[h]
theorem yT(n:Nat)(L:List (Nat × Nat × Nat))(a u:Nat):fU n L a (u+1)=fU n L a u++fV L a u n:=by
 unfold fU;rw[List.range_succ,List.flatMap_append];simp
theorem yU(n:Nat)(L:List (Nat × Nat × Nat))(a:Nat):fA n L (a+1)=fA n L a++fU n L a n:=by
 unfold fA;rw[List.range_succ,List.flatMap_append];simp
theorem PH{L:List (Nat × Nat × Nat)}{a u v:Nat}{x:Nat × Nat × Nat}:x∈fV L a u v↔x∈L∧x.1=a∧x.2.1=u∧x.2.2<v:=by
 unfold fV;obtain⟨x0,x1,x2⟩:=x;simp only[List.mem_map,List.mem_filter,List.mem_range,decide_eq_true_eq,Prod.mk.injEq]
 constructor
 ·rintro⟨k,⟨h1,h2⟩,rfl,rfl,rfl⟩;exact⟨h2,rfl,rfl,h1⟩
 ·rintro⟨h1,rfl,rfl,h2⟩;exact⟨x2,⟨h2,h1⟩,rfl,rfl,rfl⟩
theorem wR{n:Nat}{L:List (Nat × Nat × Nat)}{a u:Nat}{x:Nat × Nat × Nat}:x∈fU n L a u↔x∈L∧x.1=a∧x.2.1<u∧x.2.2<n:=by
 unfold fU;simp only[List.mem_flatMap,List.mem_range,PH]
 constructor
 ·rintro⟨k,h1,h2,h3,rfl,h4⟩;exact⟨h2,h3,h1,h4⟩
 ·rintro⟨h1,h2,h3,h4⟩;exact⟨_,h3,h1,h2,rfl,h4⟩
theorem JE{n:Nat}{L:List (Nat × Nat × Nat)}{a:Nat}{x:Nat × Nat × Nat}:x∈fA n L a↔x∈L∧x.1<a∧x.2.1<n∧x.2.2<n:=by
 unfold fA;simp only[List.mem_flatMap,List.mem_range,wR]
 constructor
 ·rintro⟨k,h1,h2,rfl,h3,h4⟩;exact⟨h2,h1,h3,h4⟩
 ·rintro⟨h1,h2,h3,h4⟩;exact⟨_,h2,h1,rfl,h3,h4⟩
def ltF(a b:Nat × Nat × Nat):Prop:=a.1<b.1∨a.1=b.1∧(a.2.1<b.2.1∨a.2.1=b.2.1∧a.2.2<b.2.2)
theorem yV{a b:Nat × Nat × Nat}(h:ltF a b)(h2:ltF b a):False:=by
 unfold ltF at h h2;omega
theorem tU{α:Type}{lt:α→α→Prop}(irr:∀a b,lt a b→lt b a→False):∀(L M:List α),L.Pairwise lt→M.Pairwise lt→(∀x,x∈L↔x∈M)→L=M
 | [],[],_,_,_=>rfl
 | [],y::M,_,_,h=>by
  have:=(h y).2 List.mem_cons_self;cases this
 | x::L,[],_,_,h=>by
  have:=(h x).1 List.mem_cons_self;cases this
 | x::L,y::M,h1,h2,h=>by
  obtain⟨a1,a2⟩:=List.pairwise_cons.1 h1;obtain⟨b1,b2⟩:=List.pairwise_cons.1 h2;have e:x=y:=by
   rcases List.mem_cons.1 ((h x).1 List.mem_cons_self) with e|hx
   ·exact e
   ·rcases List.mem_cons.1 ((h y).2 List.mem_cons_self) with e|hy
    ·exact e.symm
    ·exact(irr _ _ (a1 y hy) (b1 x hx)).elim
  subst e;rw[tU irr L M a2 b2 (fun z=>?_)];constructor
  ·intro hz;rcases List.mem_cons.1 ((h z).1 (List.mem_cons_of_mem _ hz)) with e|hz2
   ·subst e;exact(irr _ _ (a1 z hz) (a1 z hz)).elim
   ·exact hz2
  ·intro hz;rcases List.mem_cons.1 ((h z).2 (List.mem_cons_of_mem _ hz)) with e|hz2
   ·subst e;exact(irr _ _ (b1 z hz) (b1 z hz)).elim
   ·exact hz2
theorem WX(L:List (Nat × Nat × Nat))(a u v:Nat):(fV L a u v).Pairwise ltF:=by
 unfold fV;rw[List.pairwise_map];exact(List.Pairwise.filter _ List.pairwise_lt_range).imp (fun h=>.inr ⟨rfl,.inr ⟨rfl,h⟩⟩)
theorem NU(n:Nat)(L:List (Nat × Nat × Nat))(a:Nat):∀u,(fU n L a u).Pairwise ltF
 | 0=>List.Pairwise.nil
 | u+1=>by
  rw[yT,List.pairwise_append];refine⟨NU n L a u,WX L a u n,fun x hx y hy=>?_⟩;have h1:=wR.1 hx;have h2:=PH.1 hy;exact .inr ⟨h1.2.1.trans h2.2.1.symm,.inl (by omega)⟩
theorem SB(n:Nat)(L:List (Nat × Nat × Nat)):∀a,(fA n L a).Pairwise ltF
 | 0=>List.Pairwise.nil
 | a+1=>by
  rw[yU,List.pairwise_append];refine⟨SB n L a,NU n L a n,fun x hx y hy=>?_⟩;have h1:=JE.1 hx;have h2:=wR.1 hy;exact .inl (by omega)
theorem wT{B:dA}:∀{n k:Nat} {x:Nat × Nat × Nat},x∈rI B k n→k≤x.1
 | 0,k,x,h=>by cases h
 | n+1,k,x,h=>by
  rw[rI,List.mem_append,List.mem_map] at h;rcases h with ⟨y,-,rfl⟩|h
  ·exact Nat.le_refl _
  ·have:=wT h;omega
theorem JF(B:dA):∀(n k:Nat),(rI B k n).Pairwise ltF
 | 0,k=>List.Pairwise.nil
 | n+1,k=>by
  rw[rI,List.pairwise_append];refine⟨?_,JF B n (k+1),fun x hx y hy=>?_⟩
  ·rw[List.pairwise_map];exact(OV (B k)).imp (fun h=>.inr ⟨rfl,h⟩)
  ·obtain⟨z,-,rfl⟩:=List.mem_map.1 hx;exact .inl (Nat.lt_of_lt_of_le (Nat.lt_succ_self k) (wT hy))
theorem yW{B:dA}{T n:Nat}{L:List (Nat × Nat × Nat)}(hw:∀k,k<T→Wd (dD (B k)))(hn:n≤64)(h:∀a i j,(a,i,j)∈L↔a<T∧i<n∧j<n∧cV (B a) i j=true)(hlt:∀a i j,a<T→cV (B a) i j=true→i<n∧j<n):fA n L T=fT B T:=by
 refine tU (lt:=ltF) (fun _ _=>yV) _ _ (SB n L T) (JF B T 0) (fun x=>?_);obtain⟨a,i,j⟩:=x;rw[JE,h,lW hw];constructor
 ·rintro⟨⟨h1,h2,h3,h4⟩,-⟩;exact⟨h1,by omega,by omega,h4⟩
 ·rintro⟨h1,-,-,h4⟩;have:=hlt a i j h1 h4;exact⟨⟨h1,this.1,this.2,h4⟩,h1,this⟩
theorem VG{n T:Nat}{L:List (Nat × Nat × Nat)}{k:Nat}(hk:k<T):(fA n L T).filter (fun x=>decide (x.1=k))=fU n L k n:=by
 refine tU (lt:=ltF) (fun _ _=>yV) _ _ (List.Pairwise.filter _ (SB n L T)) (NU n L k n) (fun x=>?_);rw[List.mem_filter,JE,wR,decide_eq_true_eq];constructor
 ·rintro⟨⟨h1,h2,h3,h4⟩,h5⟩;exact⟨h1,h5,h3,h4⟩
 ·rintro⟨h1,h2,h3,h4⟩;exact⟨⟨h1,by omega,h3,h4⟩,h2⟩
theorem BE{B:dA}{T n:Nat}{L:List (Nat × Nat × Nat)}(hw:∀k,k<T→WdO (B k))(hn:n≤64)(h:∀a i j,(a,i,j)∈L↔a<T∧i<n∧j<n∧cV (B a) i j=true)(hlt:∀a i j,a<T→cV (B a) i j=true→i<n∧j<n){k:Nat}(hk:k<T):(fU n L k n).map (·.2)=qcL (B k):=by
 have e:fU n L k n=(qcL (B k)).map (fun y=>(k,y)):=by
  refine tU (lt:=ltF) (fun _ _=>yV) _ _ (NU n L k n) ?_ (fun x=>?_)
  ·rw[List.pairwise_map];exact(OV (B k)).imp (fun h=>.inr ⟨rfl,h⟩)
  ·have h1:(k,x.2)∈fT B T↔_:=lW (fun k hk=>(hw k hk).old);rw[wR,List.mem_map];have hq:∀y:Nat × Nat,y∈qcL (B k)↔(k,y)∈rI B k 1:=fun y=>by simp[rI]
   have hq2:∀y:Nat × Nat,y∈qcL (B k)↔y.1<64∧y.2<64∧cV (B k) y.1 y.2=true:=fun y=>by
    rw[hq y];have:=lW (B:=fun _=>B k) (nts:=1) (fun _ _=>(hw k hk).old) (k:=0) (i:=y.1) (j:=y.2);have e2:y∈qcL (B k)↔(0,y.1,y.2)∈fT (fun _=>B k) 1:=by simp[fT,rI]
    rw[← hq y,e2,this];simp
   obtain⟨a,i,j⟩:=x;constructor
   ·rintro⟨h2,rfl,h3,h4⟩;have h5:=(h _ _ _).1 h2;exact⟨(i,j),(hq2 _).2 ⟨by omega,by omega,h5.2.2.2⟩,rfl⟩
   ·rintro⟨⟨y1,y2⟩,hy,e⟩;injection e with e1 e2;injection e2 with e2 e3;subst e1;subst e2;subst e3;have h5:=(hq2 _).1 hy;have h6:=hlt k y1 y2 hk h5.2.2;exact⟨(h _ _ _).2 ⟨hk,h6.1,h6.2,h5.2.2⟩,rfl,h6.1,h6.2⟩
 rw[e,List.map_map];exact(List.map_congr_left (fun _ _=>rfl)).trans (List.map_id _)
open Go.RowKit Go.Shelf
def eV(b:List Bool):Array Value:=(b.map Value.bool).toArray
theorem rK{b:List Bool}{i:Nat}{x:Bool}(h:b[i]?=some x):(eV b)[i]?=some (.bool x):=by simp[eV,h]
theorem CZ(b:List Bool)(i:Nat)(x:Bool):(eV b).setIfInBounds i (.bool x)=eV (b.set i x):=by simp[eV,List.map_set]
theorem yX(n:Nat):madeCells #[Value.bool false] n=eV (List.replicate n false):=by
 apply Array.ext
 ·simp[madeCells,eV]
 ·intro i h1 h2;simp[madeCells,eV,Nat.mod_one]
theorem JG(w:World)(n:Nat)(hn:n≤140737488355328):(Instr.makeSlice 73 (.int .i64 (n:Int)) (.int .i64 (n:Int))).run Tryz.prog w=.ok (.slice (some ⟨w.heap.size,0,none⟩) n n) (w.alloc (.cells (eV (List.replicate n false)) 4)):=by
 obtain⟨i0,hi0,hz0,hz1,hz2⟩:=info_parts rD;have hr:=run_make (P:=Tryz.prog) w 73 4 i0 _ Tryz.underlying73 hi0 hz0 .i64 .i64 n n (by omega) (Int.le_refl _) (by rw[hz2];omega) (by omega);rw[hz1] at hr;simp only[Int.toNat_natCast,Nat.mul_one] at hr
 rw[← yX];exact hr
structure SeI(V:World)(base hb T n:Nat)(A:Option Addr)(l c:Nat)(L:List (Nat × Nat × Nat)):Prop where
 has:∃bl:List Bool,Blk V hb 4 (eV bl)∧bl.length=T*n*n∧∀a u v,a<T→u<n→v<n→bl[ixF n a u v]?=some (decide ((a,u,v)∈L))
 own:V.ownsRow base 52 3 (.slice A l c) l (dW L)
 len:L.length=l
 ne:(Value.slice A l c).ownBlock≠some hb
 h0:base≤hb
def SeO(hb:Nat)(A:Option Addr)(l c:Nat)(q:Nat):Prop:=q=hb∨(Value.slice A l c).ownBlock=some q
theorem SeI.upd{V W:World}{base hb T n l c:Nat}{A:Option Addr}{L:List (Nat × Nat × Nat)}{F:Nat→Prop}(h:SeI V base hb T n A l c L)(hu:Upd F V W)(hF:∀q,SeO hb A l c q→¬F q):SeI W base hb T n A l c L:=by
 obtain⟨bl,h1,h2⟩:=h.has;exact⟨⟨bl,h1.upd hu (hF _ (.inl rfl)),h2⟩,aA h.own hu (fun k hk=>hF _ (.inr hk)),h.len,h.ne,h.h0⟩
theorem SeI.below{V W:World}{base hb T n l c:Nat}{A:Option Addr}{L:List (Nat × Nat × Nat)}(h:SeI V base hb T n A l c L)(hb':Below V.heap.size V W):SeI W base hb T n A l c L:=h.upd (Upd.of_below hb' (fun _=>False)) (fun _ _=>id)
theorem SeI.ltb{V:World}{base hb T n l c:Nat}{A:Option Addr}{L:List (Nat × Nat × Nat)}(h:SeI V base hb T n A l c L):∀q,SeO hb A l c q→base≤q∧q<V.heap.size:=fun q hq=>by
 rcases hq with rfl|hq
 ·obtain⟨bl,h1,-⟩:=h.has;exact⟨h.h0,h1.lt⟩
 ·exact h.own.lt q hq
def kY(T n hb:Nat)(A:Option Addr)(l c:Nat):Value:=.agg #[.int .i64 (T:Int),.int .i64 (n:Int),.slice (some ⟨hb,0,none⟩) (T*n*n) (T*n*n),.slice A l c]
theorem BG{T n a u v:Nat}(ha:a<T)(hu:u<n)(hv:v<n)(hT:T≤512)(hn:n≤64):IntKind.i64.wrap ((a:Int)*(n:Int))=((a*n:Nat):Int)∧IntKind.i64.wrap (((a*n:Nat):Int)+(u:Int))=((a*n+u:Nat):Int)∧IntKind.i64.wrap (((a*n+u:Nat):Int)*(n:Int))=(((a*n+u)*n:Nat):Int)∧IntKind.i64.wrap ((((a*n+u)*n:Nat):Int)+(v:Int))=((ixF n a u v:Nat):Int):=by
 have h1:a*n≤512*64:=Nat.mul_le_mul (by omega) hn;have h2:(a*n+u)*n≤(512*64+64)*64:=Nat.mul_le_mul (by omega) hn;refine⟨?_,?_,?_,?_⟩
 ·rw[← Int.natCast_mul];exact IntWalk.i64_in _ (by omega)
 ·rw[← Int.natCast_add];exact IntWalk.i64_in _ (by omega)
 ·rw[← Int.natCast_mul];exact IntWalk.i64_in _ (by omega)
 ·rw[← Int.natCast_add];unfold ixF;exact IntWalk.i64_in _ (by omega)
theorem lY(w:World)(base hb T n l c:Nat)(A:Option Addr)(L:List (Nat × Nat × Nat))(h:SeI w base hb T n A l c L)(hT:T≤512)(hn:n≤64)(a u v:Nat)(ha:a<T)(hu:u<n)(hv:v<n) :
  Calls Tryz.prog 31 #[kY T n hb A l c,.agg #[.int .i64 (a:Int),.int .i64 (u:Int),.int .i64 (v:Int)]] w (Sam w (.bool (decide ((a,u,v)∈L)))):=by
 obtain⟨r,hr⟩:∃r,decide ((a,u,v)∈L)=r:=⟨_,rfl⟩;obtain⟨bl,hbk,hbl,hat⟩:=h.has;have hat:=hat a u v ha hu hv;obtain⟨tot,htot⟩:∃tot,T*n*n=tot:=⟨_,rfl⟩;have hix:=wQ ha hu hv;obtain⟨w1,w2,w3,w4⟩:=BG ha hu hv hT hn;unfold kY;rw[htot] at hix ⊢;rw[hr] at hat ⊢;obtain⟨ix,hixe⟩:∃ix,ixF n a u v=ix:=⟨_,rfl⟩;obtain⟨an,hane⟩:∃an,a*n=an:=⟨_,rfl⟩;obtain⟨au,haue⟩:∃au,an+u=au:=⟨_,rfl⟩;obtain⟨aun,haune⟩:∃aun,au*n=aun:=⟨_,rfl⟩;rw[hane] at w1 w2 w3 w4;rw[haue] at w2 w3 w4;rw[haune] at w3 w4;rw[hixe] at w4 hat hix;have hixI:(ix:Int)<(tot:Int):=by omega
 have b1:Below w.heap.size w ((w.alloc (.cells #[.int .i64 (T:Int),.int .i64 (n:Int),.slice (some ⟨hb,0,none⟩) tot tot,.slice A l c] 76)).alloc (.cells #[.int .i64 (a:Int),.int .i64 (u:Int),.int .i64 (v:Int)] 52)):=by(repeat (first | exact Below.refl _ _ | apply Below.drew | refine Below.alloc ?_ (by first | exact Nat.le_refl _ | (simp;done) | (simp;omega)) _ | refine Below.setCell ?_ (by first | exact Nat.le_refl _ | (simp;done) | (simp;omega)) _))
 have k1:=(Blk.new w 76 #[.int .i64 (T:Int),.int .i64 (n:Int),.slice (some ⟨hb,0,none⟩) tot tot,.slice A l c]).alloc (.cells #[.int .i64 (a:Int),.int .i64 (u:Int),.int .i64 (v:Int)] 52);have k2:=Blk.new (w.alloc (.cells #[.int .i64 (T:Int),.int .i64 (n:Int),.slice (some ⟨hb,0,none⟩) tot tot,.slice A l c] 76)) 52 #[.int .i64 (a:Int),.int .i64 (u:Int),.int .i64 (v:Int)];simp only[World.size_alloc] at k2
 have k3:=hbk.upd (upF b1) id;have H:=aI5 b1 k1 k2 k3 hat;clear b1 k1 k2 k3 hat hbk hbl h htot hr hixe hane haue haune;go_enter Tryz.func31,Tryz.ntmps31;go_upto_region 1 with (fail);generalize (w.alloc (.cells #[.int .i64 (T:Int),.int .i64 (n:Int),.slice (some ⟨hb,0,none⟩) tot tot,.slice A l c] 76)).alloc (.cells #[.int .i64 (a:Int),.int .i64 (u:Int),.int .i64 (v:Int)] 52)=W0 at H ⊢;have q1:W0.cell? ⟨w.heap.size,1,none⟩=some (.int .i64 (n:Int)):=H.out.2.1.cell 1;have q2:W0.cell? ⟨w.heap.size,2,none⟩=some (.slice (some ⟨hb,0,none⟩) tot tot):=H.out.2.1.cell 2;have p0:W0.cell? ⟨w.heap.size+1,0,none⟩=some (.int .i64 (a:Int)):=H.out.2.2.1.cell 0;have p1:W0.cell? ⟨w.heap.size+1,1,none⟩=some (.int .i64 (u:Int)):=H.out.2.2.1.cell 1;have p2:W0.cell? ⟨w.heap.size+1,2,none⟩=some (.int .i64 (v:Int)):=H.out.2.2.1.cell 2;have r0:W0.cell? ⟨hb,ix,none⟩=some (.bool r):=by rw[H.out.2.2.2.1.cell];exact rK H.out.2.2.2.2
 go_wp2;go_ret;exact⟨rfl,H.out.1⟩
def WY(w:World)(base hb T n:Nat)(A:Option Addr)(l c:Nat)(L:List (Nat × Nat × Nat))(x:Nat × Nat × Nat)(e:Ending)(w':World):Prop:=
 ∃A' l' c',e=.returned (kY T n hb A' l' c')∧SeI w' base hb T n A' l' c' (yS L x)∧Upd (SeO hb A l c) w w'∧∀q,(Value.slice A' l' c').ownBlock=some q→(Value.slice A l c).ownBlock=some q∨w.heap.size≤q
open Go.RowKit Go.Shelf
theorem NV(w:World)(hb T n:Nat)(hk:Blk w hb 4 (eV (List.replicate (T*n*n) false)))(base:Nat)(h0:base≤hb):SeI w base hb T n none 0 0 []:=
 ⟨⟨_,hk,by simp,fun a u v ha hu hv=>by
  have:=wQ ha hu hv;simp[List.getElem?_replicate,this]⟩,World.ownsRow_nil _ _ _ _,rfl,by simp[Value.ownBlock],h0⟩
theorem DB(w:World)(T n:Nat)(hT:T≤512)(hn:n≤64) :
  Calls Tryz.prog 83 #[.int .i64 (T:Int),.int .i64 (n:Int)] w (fun e w'=>∃hb,e=.returned (kY T n hb none 0 0)∧SeI w' w.heap.size hb T n none 0 0 []∧Below w.heap.size w w'):=by
 obtain⟨tn,htn⟩:∃tn,T*n=tn:=⟨_,rfl⟩;obtain⟨tot,htot⟩:∃tot,tn*n=tot:=⟨_,rfl⟩;have h1:tn≤512*64:=by rw[← htn];exact Nat.mul_le_mul hT hn
 have h2:tot≤512*64*64:=by rw[← htot];exact Nat.mul_le_mul h1 hn
 have w1:IntKind.i64.wrap ((T:Int)*(n:Int))=(tn:Int):=by rw[← Int.natCast_mul,htn];exact IntWalk.i64_in _ (by omega)
 have w2:IntKind.i64.wrap ((tn:Int)*(n:Int))=(tot:Int):=by rw[← Int.natCast_mul,htot];exact IntWalk.i64_in _ (by omega)
 have hmk:=fun w:World=>JG w tot (by omega)
 have FIN:=hIz (show ∀W,Blk W (w.heap.size+1) 4 (eV (List.replicate tot false))→Below w.heap.size w W→(∃hb,Ending.returned (.agg #[.int .i64 (T:Int),.int .i64 (n:Int),.slice (some ⟨w.heap.size+1,0,none⟩) tot tot,.slice none 0 0])=.returned (kY T n hb none 0 0)∧SeI W w.heap.size hb T n none 0 0 []∧Below w.heap.size w W) from fun W hk hb=>⟨w.heap.size+1,by unfold kY;rw[htn,htot],NV W _ T n (by rw[htn,htot];exact hk) _ (by omega),hb⟩);have HM:=aI2 htn htot;clear htn htot h1 h2;have b1:Below w.heap.size w ((w.alloc (.cells #[.int .i64 (T:Int),.int .i64 (n:Int),.slice (some ⟨w.heap.size+1,0,none⟩) tot tot,.slice none 0 0] 76)).alloc (.cells (eV (List.replicate tot false)) 4)):=by(repeat (first | exact Below.refl _ _ | apply Below.drew | refine Below.alloc ?_ (by first | exact Nat.le_refl _ | (simp;done) | (simp;omega)) _ | refine Below.setCell ?_ (by first | exact Nat.le_refl _ | (simp;done) | (simp;omega)) _))
 have k0:=(Blk.new w 76 #[.int .i64 (T:Int),.int .i64 (n:Int),.slice (some ⟨w.heap.size+1,0,none⟩) tot tot,.slice none 0 0]).alloc (.cells (eV (List.replicate tot false)) 4);have kb:=Blk.new (w.alloc (.cells #[.int .i64 (T:Int),.int .i64 (n:Int),.slice (some ⟨w.heap.size+1,0,none⟩) tot tot,.slice none 0 0] 76)) 4 (eV (List.replicate tot false));simp only[World.size_alloc] at kb
 have y0:=k0.cell 0;have y1:=k0.cell 1;have y2:=k0.cell 2;have y3:=k0.cell 3;simp only[List.getElem?_toArray,List.getElem?_cons_succ,List.getElem?_cons_zero] at y0 y1 y2 y3
 have H:=aI2 kb b1;clear k0 kb b1;go_enter Tryz.func83,Tryz.ntmps83;go_wp2;generalize ((w.alloc (.cells #[.int .i64 (T:Int),.int .i64 (n:Int),.slice (some ⟨w.heap.size+1,0,none⟩) tot tot,.slice none 0 0] 76)).alloc (.cells (eV (List.replicate tot false)) 4))=WF at H y0 y1 y2 y3 ⊢;refine bodyPost_ret (v:=.agg #[.int .i64 (T:Int),.int .i64 (n:Int),.slice (some ⟨w.heap.size+1,0,none⟩) tot tot,.slice none 0 0]) (by simp[results,Tryz.f83,go_sem,y0,y1,y2,y3]) rfl (FIN.out _ H.out.1 H.out.2)
theorem tV{W:World}{z:Nat}{t:TypeId}{p q r s:Value}(k:Blk W z t #[p,q,r,s])(a b c d:Value):Blk ((((W.setCell ⟨z,0,none⟩ a).setCell ⟨z,1,none⟩ b).setCell ⟨z,2,none⟩ c).setCell ⟨z,3,none⟩ d) z t #[a,b,c,d]:=(((k.set 0 a).set 1 b).set 2 c).set 3 d
theorem iV(W:World)(z:Nat)(a b c d:Value):Upd (fun q=>q=z) W ((((W.setCell ⟨z,0,none⟩ a).setCell ⟨z,1,none⟩ b).setCell ⟨z,2,none⟩ c).setCell ⟨z,3,none⟩ d):=
 ((((Upd.refl (fun q=>q=z) W).setCell (p:=⟨z,0,none⟩) (.inl rfl) a).setCell (p:=⟨z,1,none⟩) (.inl rfl) b).setCell (p:=⟨z,2,none⟩) (.inl rfl) c).setCell (p:=⟨z,3,none⟩) (.inl rfl) d
theorem SeI.add{V V3:World}{base hb T n l c ix:Nat}{A A':Option Addr}{c':Nat}{L:List (Nat × Nat × Nat)}{a u v:Nat}{bl:List Bool}(h:SeI V base hb T n A l c L)(hix:ixF n a u v=ix)(hu:u<n)(hv:v<n)(hx:(a,u,v) ∉ L)
  (hk:Blk V hb 4 (eV bl)) (hbl:bl.length=T*n*n) (hat:∀a u v,a<T→u<n→v<n→bl[ixF n a u v]?=some (decide ((a,u,v)∈L)))
  (k2:Blk V3 hb 4 (eV (bl.set ix true))) (own:V3.ownsRow base 52 3 (.slice A' (l+1) c') (l+1) (dW (L++[(a,u,v)]))) (hne:(Value.slice A' (l+1) c').ownBlock≠some hb):SeI V3 base hb T n A' (l+1) c' (yS L (a,u,v)):=by
 have e:yS L (a,u,v)=L++[(a,u,v)]:=by unfold yS;rw[if_neg hx]
 refine⟨⟨_,k2,by rw[List.length_set];exact hbl,fun a' u' v' ha' hu' hv'=>?_⟩,by rw[e];exact own,by rw[e,List.length_append,h.len];rfl,hne,h.h0⟩;have h1:=hat a' u' v' ha' hu' hv';rw[List.getElem?_set];by_cases hc:ix=ixF n a' u' v'
 ·have h2:=JA hu hv hu' hv' (hix.trans hc);rw[if_pos hc];have h3:ix<bl.length:=by
   rw[hc];exact(gO.1 h1).1
  rw[if_pos h3,← h2];congr 1
  exact(decide_eq_true (nS.2 (.inr rfl))).symm
 ·rw[if_neg hc,h1];congr 1
  have h2:(a',u',v')≠(a,u,v):=fun h=>hc (by rw[← hix];injection h with e1 e2;injection e2 with e2 e3;rw[e1,e2,e3])
  have h3:(a',u',v')∈yS L (a,u,v)↔(a',u',v')∈L:=by rw[nS];exact⟨fun h=>h.resolve_right h2,.inl⟩
  exact decide_eq_decide.2 h3.symm
theorem nT(w:World)(base hb T n l c:Nat)(A:Option Addr)(L:List (Nat × Nat × Nat))(h:SeI w base hb T n A l c L)(hB:base≤w.heap.size)(hT:T≤512)(hn:n≤64)(hl:(l+1)*24≤140737488355328)(a u v:Nat)(ha:a<T)(hu:u<n)(hv:v<n) :
  Calls Tryz.prog 84 #[kY T n hb A l c,.agg #[.int .i64 (a:Int),.int .i64 (u:Int),.int .i64 (v:Int)]] w (WY w base hb T n A l c L (a,u,v)):=by
 have b0:Below w.heap.size w (((w.alloc (.cells #[.int .i64 (T:Int),.int .i64 (n:Int),.slice (some ⟨hb,0,none⟩) (T*n*n) (T*n*n),.slice A l c] 76)).alloc (.cells #[.int .i64 (a:Int),.int .i64 (u:Int),.int .i64 (v:Int)] 52)).alloc (.cells #[.int .i64 0,.int .i64 0,.slice none 0 0,.slice none 0 0] 76)):=by(repeat (first | exact Below.refl _ _ | apply Below.drew | refine Below.alloc ?_ (by first | exact Nat.le_refl _ | (simp;done) | (simp;omega)) _ | refine Below.setCell ?_ (by first | exact Nat.le_refl _ | (simp;done) | (simp;omega)) _))
 have k1:=((Blk.new w 76 #[.int .i64 (T:Int),.int .i64 (n:Int),.slice (some ⟨hb,0,none⟩) (T*n*n) (T*n*n),.slice A l c]).alloc (.cells #[.int .i64 (a:Int),.int .i64 (u:Int),.int .i64 (v:Int)] 52)).alloc (.cells #[.int .i64 0,.int .i64 0,.slice none 0 0,.slice none 0 0] 76);have k2:=(Blk.new (w.alloc (.cells #[.int .i64 (T:Int),.int .i64 (n:Int),.slice (some ⟨hb,0,none⟩) (T*n*n) (T*n*n),.slice A l c] 76)) 52 #[.int .i64 (a:Int),.int .i64 (u:Int),.int .i64 (v:Int)]).alloc (.cells #[.int .i64 0,.int .i64 0,.slice none 0 0,.slice none 0 0] 76);have k3:=Blk.new ((w.alloc (.cells #[.int .i64 (T:Int),.int .i64 (n:Int),.slice (some ⟨hb,0,none⟩) (T*n*n) (T*n*n),.slice A l c] 76)).alloc (.cells #[.int .i64 (a:Int),.int .i64 (u:Int),.int .i64 (v:Int)] 52)) 76 #[.int .i64 0,.int .i64 0,.slice none 0 0,.slice none 0 0];simp only[World.size_alloc] at k2 k3
 have hcon:=lY _ base hb T n l c A L (h.below b0) hT hn a u v ha hu hv;obtain⟨w1,w2,w3,w4⟩:=BG ha hu hv hT hn;have hix:=wQ ha hu hv;have HI:=aI4 ha hu hv h;unfold kY at hcon ⊢;obtain⟨tot,htot⟩:∃tot,T*n*n=tot:=⟨_,rfl⟩;rw[htot] at hcon b0 k1 k2 k3 hix ⊢;obtain⟨ix,hixe⟩:∃ix,ixF n a u v=ix:=⟨_,rfl⟩;obtain⟨an,hane⟩:∃an,a*n=an:=⟨_,rfl⟩;obtain⟨au,haue⟩:∃au,an+u=au:=⟨_,rfl⟩;obtain⟨aun,haune⟩:∃aun,au*n=aun:=⟨_,rfl⟩;rw[hane] at w1 w2 w3 w4;rw[haue] at w2 w3 w4;rw[haune] at w3 w4;rw[hixe] at w4 hix;have hixI:(ix:Int)<(tot:Int):=by omega
 have H:=aI4 b0 k1 k2 k3;have HE:=aI2 htot hixe;clear b0 k1 k2 k3 htot hixe hane haue haune h ha hu hv;go_enter Tryz.func84,Tryz.ntmps84;go_upto_region 1 with (fail);generalize ((w.alloc (.cells #[.int .i64 (T:Int),.int .i64 (n:Int),.slice (some ⟨hb,0,none⟩) tot tot,.slice A l c] 76)).alloc (.cells #[.int .i64 (a:Int),.int .i64 (u:Int),.int .i64 (v:Int)] 52)).alloc (.cells #[.int .i64 0,.int .i64 0,.slice none 0 0,.slice none 0 0] 76)=W0 at H hcon ⊢;have q0:W0.cell? ⟨w.heap.size,0,none⟩=some (.int .i64 (T:Int)):=H.out.2.1.cell 0;have q1:W0.cell? ⟨w.heap.size,1,none⟩=some (.int .i64 (n:Int)):=H.out.2.1.cell 1;have q2:W0.cell? ⟨w.heap.size,2,none⟩=some (.slice (some ⟨hb,0,none⟩) tot tot):=H.out.2.1.cell 2;have q3:W0.cell? ⟨w.heap.size,3,none⟩=some (.slice A l c):=H.out.2.1.cell 3;have p0:W0.cell? ⟨w.heap.size+1,0,none⟩=some (.int .i64 (a:Int)):=H.out.2.2.1.cell 0;have p1:W0.cell? ⟨w.heap.size+1,1,none⟩=some (.int .i64 (u:Int)):=H.out.2.2.1.cell 1;have p2:W0.cell? ⟨w.heap.size+1,2,none⟩=some (.int .i64 (v:Int)):=H.out.2.2.1.cell 2;go_wp2_with fail;refine hcon.mono ?_;clear hcon q0 q1 q2 q3 p0 p1 p2;rintro e W1 ⟨he,b1⟩;have hu1:=Upd.of_below b1 (fun _=>False);have K1:=H.out.2.1.upd hu1 id;have K2:=H.out.2.2.1.upd hu1 id;have K3:=H.out.2.2.2.upd hu1 id;have B1:=tHn H.out.1 b1;have H1:=aI4 B1 K1 K2 K3;clear hu1 b1 H;have q0:W1.cell? ⟨w.heap.size,0,none⟩=some (.int .i64 (T:Int)):=K1.cell 0;have q1:W1.cell? ⟨w.heap.size,1,none⟩=some (.int .i64 (n:Int)):=K1.cell 1;have q2:W1.cell? ⟨w.heap.size,2,none⟩=some (.slice (some ⟨hb,0,none⟩) tot tot):=K1.cell 2
 have q3:W1.cell? ⟨w.heap.size,3,none⟩=some (.slice A l c):=K1.cell 3;have p0:W1.cell? ⟨w.heap.size+1,0,none⟩=some (.int .i64 (a:Int)):=K2.cell 0;have p1:W1.cell? ⟨w.heap.size+1,1,none⟩=some (.int .i64 (u:Int)):=K2.cell 1;have p2:W1.cell? ⟨w.heap.size+1,2,none⟩=some (.int .i64 (v:Int)):=K2.cell 2;have s0:W1.cell? ⟨w.heap.size+2,0,none⟩=some (.int .i64 0):=K3.cell 0;have s1:W1.cell? ⟨w.heap.size+2,1,none⟩=some (.int .i64 0):=K3.cell 1;have s2:W1.cell? ⟨w.heap.size+2,2,none⟩=some (.slice none 0 0):=K3.cell 2;have s3:W1.cell? ⟨w.heap.size+2,3,none⟩=some (.slice none 0 0):=K3.cell 3;have g0:=K3.frozen 0;have g1:=K3.frozen 1;have g2:=K3.frozen 2;have g3:=K3.frozen 3;by_cases hx:(a,u,v)∈L
 ·have he:e=.returned (.bool true):=by rw[he,decide_eq_true hx]
  subst he;have KF:=tV K3 (.int .i64 (T:Int)) (.int .i64 (n:Int)) (.slice (some ⟨hb,0,none⟩) tot tot) (.slice A l c);have UF:=iV W1 (w.heap.size+2) (.int .i64 (T:Int)) (.int .i64 (n:Int)) (.slice (some ⟨hb,0,none⟩) tot tot) (.slice A l c);have BF:=B1.trans (UF.below (fun q _ e=>by omega) B1.size);have FIN:=hIz (show WY w base hb T n A l c L (a,u,v) (.returned (.agg #[.int .i64 (T:Int),.int .i64 (n:Int),.slice (some ⟨hb,0,none⟩) tot tot,.slice A l c])) ((((W1.setCell ⟨w.heap.size+2,0,none⟩ (.int .i64 (T:Int))).setCell ⟨w.heap.size+2,1,none⟩ (.int .i64 (n:Int))).setCell ⟨w.heap.size+2,2,none⟩ (.slice (some ⟨hb,0,none⟩) tot tot)).setCell ⟨w.heap.size+2,3,none⟩ (.slice A l c)) from⟨A,l,c,by unfold kY;rw[HE.out.1],by
   have e:yS L (a,u,v)=L:=by unfold yS;rw[if_pos hx]
   rw[e];exact HI.out.2.2.2.below BF,Upd.of_below BF _,fun q h=>.inl h⟩)
  have y0:=KF.cell 0;have y1:=KF.cell 1;have y2:=KF.cell 2;have y3:=KF.cell 3;simp only[List.getElem?_toArray,List.getElem?_cons_succ,List.getElem?_cons_zero] at y0 y1 y2 y3
  clear K1 K2 K3 B1 KF UF BF hx;go_wp2;generalize (((W1.setCell ⟨w.heap.size+2,0,none⟩ (.int .i64 (T:Int))).setCell ⟨w.heap.size+2,1,none⟩ (.int .i64 (n:Int))).setCell ⟨w.heap.size+2,2,none⟩ (.slice (some ⟨hb,0,none⟩) tot tot)).setCell ⟨w.heap.size+2,3,none⟩ (.slice A l c)=WF at FIN y0 y1 y2 y3 ⊢;refine bodyPost_ret (v:=.agg #[.int .i64 (T:Int),.int .i64 (n:Int),.slice (some ⟨hb,0,none⟩) tot tot,.slice A l c]) (by simp[results,Tryz.f84,go_sem,y0,y1,y2,y3]) rfl FIN.out
 ·have he:e=.returned (.bool false):=by rw[he,decide_eq_false hx]
  subst he;have hx:=hIz hx;obtain⟨bl,hk,hbl,hat⟩:=(HI.out.2.2.2.below B1).has;have hkf:=hk.frozen ix;have hkc:W1.cell? ⟨hb,ix,none⟩=some (.bool false):=by
   have:=hat a u v HI.out.1 HI.out.2.1 HI.out.2.2.1;rw[HE.out.2,decide_eq_false hx.out] at this;rw[hk.cell];exact rK this
  have hbz:hb<w.heap.size:=by
   obtain⟨bl0,h0,-⟩:=HI.out.2.2.2.has;exact h0.lt
  have k2:Blk (W1.setCell ⟨hb,ix,none⟩ (.bool true)) hb 4 (eV (bl.set ix true)):=by rw[← CZ];exact hk.set ix _
  have u2:Upd (fun q=>q=hb) W1 (W1.setCell ⟨hb,ix,none⟩ (.bool true)):=(Upd.refl (fun q=>q=hb) W1).setCell (p:=⟨hb,ix,none⟩) (.inl rfl) _;have K12:=K1.upd u2 (fun e=>by omega);have K22:=K2.upd u2 (fun e=>by omega);have K32:=K3.upd u2 (fun e=>by omega);have own2:=aA (HI.out.2.2.2.below B1).own u2 (fun q hq e=>HI.out.2.2.2.ne (by rw[hq,e]));have HK:=aI11 hk hbl hat k2 own2 K12 K22 K32 (u2.below (B:=base) (fun q _ e=>by rw[e];exact HI.out.2.2.2.h0) (Nat.le_trans hB B1.size)) u2 B1;clear K1 K2 K3 B1 hk hbl hat k2 u2 K12 K22 K32 own2;go_upto_region 3 with (fail);clear q0 q1 q2 q3 p0 p1 p2 s0 s1 s2 s3 g0 g1 g2 g3 hkf hkc;generalize W1.setCell ⟨hb,ix,none⟩ (.bool true)=W2 at HK ⊢;obtain⟨-,-,-,k2,own2,K1,K2,K3,-,u2,B1⟩:=HK.out;have b3:Below W2.heap.size W2 (W2.alloc (.cells #[.int .i64 (a:Int),.int .i64 (u:Int),.int .i64 (v:Int)] 52)):=bR.alloc (Nat.le_refl _) _;have hu3:=Upd.of_below b3 (fun _=>False);have hrow:aU (W2.alloc (.cells #[.int .i64 (a:Int),.int .i64 (u:Int),.int .i64 (v:Int)] 52)) (some ⟨W2.heap.size,0,none⟩) (faC (a,u,v)):=gD (Blk.new W2 52 #[.int .i64 (a:Int),.int .i64 (u:Int),.int .i64 (v:Int)]);have hsz2:w.heap.size+3≤W2.heap.size:=K3.lt;obtain⟨A9,c9,W9,happ,own9,up9,pl9⟩:=aY (W2.alloc (.cells #[.int .i64 (a:Int),.int .i64 (u:Int),.int .i64 (v:Int)] 52)) base 74 52 3 24 _ Tryz.underlying74 wM rfl (by decide) (by decide) A l c _ (aA own2 hu3 (fun _ _=>id)) (some ⟨W2.heap.size,0,none⟩) 1 1 (faC (a,u,v)) hrow rfl (PE (a,u,v)) hl (by have:=b3.size;omega);have hol:∀q,(Value.slice A l c).ownBlock=some q→q<w.heap.size:=fun q hq=>(HI.out.2.2.2.own.lt q hq).2
  have K19:=(K1.upd hu3 id).upd up9 (fun h=>by have:=hol _ h;omega);have K39:=(K3.upd hu3 id).upd up9 (fun h=>by have:=hol _ h;omega);have k29:=(k2.upd hu3 id).upd up9 HI.out.2.2.2.ne;have K1f:=K19.set 3 (.slice A9 (l+1) c9);have u4:Upd (fun q=>q=w.heap.size) W9 (W9.setCell ⟨w.heap.size,3,none⟩ (.slice A9 (l+1) c9)):=(Upd.refl (fun q=>q=w.heap.size) W9).setCell (p:=⟨w.heap.size,3,none⟩) (.inl rfl) _;have K3f:=K39.upd u4 (fun e=>by omega);have kbf:=k29.upd u4 (fun e=>by omega);have hne9:∀q,(Value.slice A9 (l+1) c9).ownBlock=some q→q<w.heap.size∧(Value.slice A l c).ownBlock=some q∨w.heap.size+3≤q:=fun q hq=>(pl9 q hq).elim (fun h=>.inl ⟨hol q h,h⟩) (fun h=>.inr (by have:=b3.size;omega))
  have own9f:=aA own9 u4 (fun q hq e=>by have:=hne9 q hq;omega);have UF:=((((Upd.of_below B1 (SeO hb A l c)).trans u2 (fun i e=>.inl (.inl e))).trans hu3 (fun _ h=>h.elim)).trans up9 (fun i h=>.inl (.inr h))).trans u4 (fun i e=>.inr (by omega));have HW:=aI6 K1f K3f kbf own9f hne9 UF;have r0:W2.cell? ⟨w.heap.size,3,none⟩=some (.slice A l c):=K1.cell 3;have p0:W2.cell? ⟨w.heap.size+1,0,none⟩=some (.int .i64 (a:Int)):=K2.cell 0;have p1:W2.cell? ⟨w.heap.size+1,1,none⟩=some (.int .i64 (u:Int)):=K2.cell 1;have p2:W2.cell? ⟨w.heap.size+1,2,none⟩=some (.int .i64 (v:Int)):=K2.cell 2;have r9:W9.cell? ⟨w.heap.size,3,none⟩=some (.slice A l c):=K19.cell 3;have g9:=K19.frozen 3;clear b3 hu3 hrow own9 up9 pl9 hol K19 K39 k29 K1f u4 K3f kbf hne9 own9f UF u2 B1 K1 K2 K3 k2 own2;go_upto_region 4 with (at_builtin;refine wpList_append_run rfl _ _ _ rfl rfl rfl happ ?_);clear happ r0 p0 p1 p2 r9 g9;generalize W9.setCell ⟨w.heap.size,3,none⟩ (.slice A9 (l+1) c9)=W5 at HW ⊢;have q0:W5.cell? ⟨w.heap.size,0,none⟩=some (.int .i64 (T:Int)):=HW.out.1.cell 0;have q1:W5.cell? ⟨w.heap.size,1,none⟩=some (.int .i64 (n:Int)):=HW.out.1.cell 1;have q2:W5.cell? ⟨w.heap.size,2,none⟩=some (.slice (some ⟨hb,0,none⟩) tot tot):=HW.out.1.cell 2;have q3:W5.cell? ⟨w.heap.size,3,none⟩=some (.slice A9 (l+1) c9):=HW.out.1.cell 3;have K3:=HW.out.2.1;have s0:W5.cell? ⟨w.heap.size+2,0,none⟩=some (.int .i64 0):=K3.cell 0;have s1:W5.cell? ⟨w.heap.size+2,1,none⟩=some (.int .i64 0):=K3.cell 1;have s2:W5.cell? ⟨w.heap.size+2,2,none⟩=some (.slice none 0 0):=K3.cell 2
  have s3:W5.cell? ⟨w.heap.size+2,3,none⟩=some (.slice none 0 0):=K3.cell 3;have g0:=K3.frozen 0;have g1:=K3.frozen 1;have g2:=K3.frozen 2;have g3:=K3.frozen 3;have KF:=tV K3 (.int .i64 (T:Int)) (.int .i64 (n:Int)) (.slice (some ⟨hb,0,none⟩) tot tot) (.slice A9 (l+1) c9);have UF:=iV W5 (w.heap.size+2) (.int .i64 (T:Int)) (.int .i64 (n:Int)) (.slice (some ⟨hb,0,none⟩) tot tot) (.slice A9 (l+1) c9);have y0:=KF.cell 0;have y1:=KF.cell 1;have y2:=KF.cell 2;have y3:=KF.cell 3;simp only[List.getElem?_toArray,List.getElem?_cons_succ,List.getElem?_cons_zero] at y0 y1 y2 y3
  have FIN:=hIz (show WY w base hb T n A l c L (a,u,v) (.returned (.agg #[.int .i64 (T:Int),.int .i64 (n:Int),.slice (some ⟨hb,0,none⟩) tot tot,.slice A9 (l+1) c9])) ((((W5.setCell ⟨w.heap.size+2,0,none⟩ (.int .i64 (T:Int))).setCell ⟨w.heap.size+2,1,none⟩ (.int .i64 (n:Int))).setCell ⟨w.heap.size+2,2,none⟩ (.slice (some ⟨hb,0,none⟩) tot tot)).setCell ⟨w.heap.size+2,3,none⟩ (.slice A9 (l+1) c9)) from⟨A9,l+1,c9,by unfold kY;rw[HE.out.1],(HI.out.2.2.2.below HK.out.2.2.2.2.2.2.2.2.2.2).add HE.out.2 HI.out.2.1 HI.out.2.2.1 hx.out HK.out.1 HK.out.2.1 HK.out.2.2.1 (HW.out.2.2.1.upd UF (fun e=>by omega)) (by
   rw[show dW (L++[(a,u,v)])=dW L++faC (a,u,v) by simp[dW]];exact aA HW.out.2.2.2.1 UF (fun q hq e=>by have:=HW.out.2.2.2.2.1 q hq;omega)) (fun h=>by
   rcases HW.out.2.2.2.2.1 hb h with h2|h2
   ·exact HI.out.2.2.2.ne h2.2
   ·omega),HW.out.2.2.2.2.2.trans UF (fun i e=>.inr (by omega)),fun q hq=>(HW.out.2.2.2.2.1 q hq).elim (fun h=>.inl h.2) (fun h=>.inr (by omega))⟩)
  clear KF UF K3;go_wp2;generalize (((W5.setCell ⟨w.heap.size+2,0,none⟩ (.int .i64 (T:Int))).setCell ⟨w.heap.size+2,1,none⟩ (.int .i64 (n:Int))).setCell ⟨w.heap.size+2,2,none⟩ (.slice (some ⟨hb,0,none⟩) tot tot)).setCell ⟨w.heap.size+2,3,none⟩ (.slice A9 (l+1) c9)=WF at FIN y0 y1 y2 y3 ⊢;refine bodyPost_ret (v:=.agg #[.int .i64 (T:Int),.int .i64 (n:Int),.slice (some ⟨hb,0,none⟩) tot tot,.slice A9 (l+1) c9]) (by simp[results,Tryz.f84,go_sem,y0,y1,y2,y3]) rfl FIN.out
open Go.RowKit Go.Shelf
theorem PI(L:List (Nat × Nat × Nat))(a u v:Nat):(fV L a u v).length≤v:=by
 unfold fV;rw[List.length_map];exact Nat.le_trans (List.length_filter_le _ _) (by simp)
theorem JH(n:Nat)(L:List (Nat × Nat × Nat))(a:Nat):∀u,(fU n L a u).length≤u*n
 | 0=>by simp[fU]
 | u+1=>by
  rw[yT,List.length_append,Nat.succ_mul];exact Nat.add_le_add (JH n L a u) (PI L a u n)
theorem JI(n:Nat)(L:List (Nat × Nat × Nat)):∀a,(fA n L a).length≤a*n*n
 | 0=>by simp[fA]
 | a+1=>by
  rw[yU,List.length_append,Nat.succ_mul,Nat.add_mul];exact Nat.add_le_add (JI n L a) (JH n L a n)
theorem NW{n T a u v:Nat}(L:List (Nat × Nat × Nat))(ha:a<T)(hu:u<n)(hv:v<n)(hT:T≤512)(hn:n≤64):((fA n L a++fU n L a u)++fV L a u v).length<2097152:=by
 have h1:=JI n L a;have h2:=JH n L a u;have h3:=PI L a u v;have h4:=wQ ha hu hv;have h5:T*n*n≤512*64*64:=Nat.mul_le_mul (Nat.mul_le_mul hT hn) hn;unfold ixF at h4;rw[Nat.add_mul] at h4;simp only[List.length_append]
 omega
structure LsA(W0 V:World)(v:Value)(M:List (Nat × Nat × Nat)):Prop where
 own:V.ownsRow W0.heap.size 52 3 v M.length (dW M)
 bl:Below W0.heap.size W0 V
theorem LsA.below{W0 V W:World}{v:Value}{M:List (Nat × Nat × Nat)}(h:LsA W0 V v M)(hb:Below V.heap.size V W):LsA W0 W v M:=
 ⟨aA h.own (upF hb) (fun _ _=>id),tHn h.bl hb⟩
theorem LsA.app{W0 V:World}{A:Option Addr}{n c:Nat}{M:List (Nat × Nat × Nat)}(h:LsA W0 V (.slice A n c) M)(hn:M.length=n)(x:Nat × Nat × Nat)(R:Option Addr)(d:Nat)(hr:aU V R (faC x))(hl:(n+1)*24≤140737488355328) :
  ∃A' c' W1,(Builtin.append_ #[74,74] 74 #[.slice A n c,.slice R 1 d]).run Tryz.prog V=.ok (.slice A' (n+1) c') W1∧LsA W0 W1 (.slice A' (n+1) c') (M++[x]):=by
 have own:V.ownsRow W0.heap.size 52 3 (.slice A n c) n (dW M):=by have:=h.own;rwa [hn] at this
 obtain⟨A',c',W1,happ,own',up,pl⟩:=aY V W0.heap.size 74 52 3 24 _ Tryz.underlying74 wM rfl (by decide) (by decide) A n c _ own R 1 d (faC x) hr rfl (PE x) hl h.bl.size;refine⟨A',c',W1,happ,?_,h.bl.trans (up.below (fun q _ hq=>(own.lt q hq).1) h.bl.size)⟩;rw[List.length_append,hn,show dW (M++[x])=dW M++faC x by simp[dW]];exact own'
theorem BH(w:World)(base hb T n l c:Nat)(A:Option Addr)(L:List (Nat × Nat × Nat))(h:SeI w base hb T n A l c L)(hT:T≤512)(hn:n≤64) :
  Calls Tryz.prog 29 #[kY T n hb A l c] w (WW w (fA n L T)):=by
 have b0:Below w.heap.size w (w.alloc (.cells #[.int .i64 (T:Int),.int .i64 (n:Int),.slice (some ⟨hb,0,none⟩) (T*n*n) (T*n*n),.slice A l c] 76)):=by(repeat (first | exact Below.refl _ _ | apply Below.drew | refine Below.alloc ?_ (by first | exact Nat.le_refl _ | (simp;done) | (simp;omega)) _ | refine Below.setCell ?_ (by first | exact Nat.le_refl _ | (simp;done) | (simp;omega)) _))
 have k1:=Blk.new w 76 #[.int .i64 (T:Int),.int .i64 (n:Int),.slice (some ⟨hb,0,none⟩) (T*n*n) (T*n*n),.slice A l c];have SAYH:=fun (V:World) (hV:Below w.heap.size w V) (a u v:Nat) (ha:a<T) (hu:u<n) (hv:v<n)=>lY V base hb T n l c A L (h.below hV) hT hn a u v ha hu hv
 unfold kY at SAYH ⊢;obtain⟨tot,htot⟩:∃tot,T*n*n=tot:=⟨_,rfl⟩;rw[htot] at b0 k1 SAYH ⊢;have H:=aI3 b0 k1 SAYH;clear b0 k1 SAYH htot h;go_enter Tryz.func29,Tryz.ntmps29;go_upto_region 1 with (fail);generalize w.alloc (.cells #[.int .i64 (T:Int),.int .i64 (n:Int),.slice (some ⟨hb,0,none⟩) tot tot,.slice A l c] 76)=W0 at H ⊢;have hsz:=H.out.2.1.lt;go_wp2;go_loopw [3,4] (fun tv av wr=>∃a:Nat,a≤T∧av=.int .i64 (a:Int)∧Hid (LsA W0 wr tv (fA n L a))) (fun _ av _=>T-(intOf av).toNat)
 case atStart=>exact⟨0,Nat.zero_le _,rfl,hIz ⟨World.ownsRow_nil _ _ _ _,Below.refl _ _⟩⟩
 case round =>
  obtain⟨a,ha,rfl,hls⟩:=hrel;have q0:wr.cell? ⟨w.heap.size,0,none⟩=some (.int .i64 (T:Int)):=(H.out.2.1.upd (Upd.of_below hls.out.bl (fun _=>False)) id).cell 0;by_cases hat:a<T
  ·have haI:(a:Int)<(T:Int):=by omega
   have hkw:IntKind.i64.wrap ((a:Int)+1)=(a:Int)+1:=IntWalk.i64_in _ (by omega);go_wp2;clear q0;go_loopw [3,5] (fun tv uv wr=>∃u:Nat,u≤n∧uv=.int .i64 (u:Int)∧Hid (LsA W0 wr tv (fA n L a++fU n L a u))) (fun _ uv _=>n-(intOf uv).toNat)
   case atStart=>exact⟨0,Nat.zero_le _,rfl,by simpa[fU] using hls⟩
   case round =>
    obtain⟨u,hu,rfl,hls⟩:=hrel;have q1:wr.cell? ⟨w.heap.size,1,none⟩=some (.int .i64 (n:Int)):=(H.out.2.1.upd (Upd.of_below hls.out.bl (fun _=>False)) id).cell 1;by_cases hun:u<n
    ·have huI:(u:Int)<(n:Int):=by omega
     have hkw2:IntKind.i64.wrap ((u:Int)+1)=(u:Int)+1:=IntWalk.i64_in _ (by omega);go_wp2;clear q1;go_loopw [3,6] (fun tv vv wr=>∃v:Nat,v≤n∧vv=.int .i64 (v:Int)∧Hid (LsA W0 wr tv ((fA n L a++fU n L a u)++fV L a u v))) (fun _ vv _=>n-(intOf vv).toNat)
     case atStart=>exact⟨0,Nat.zero_le _,rfl,by simpa[fV] using hls⟩
     case round =>
      obtain⟨v,hv,rfl,hls⟩:=hrel;have k0:=H.out.2.1.upd (Upd.of_below hls.out.bl (fun _=>False)) id;have q1:wr.cell? ⟨w.heap.size,1,none⟩=some (.int .i64 (n:Int)):=k0.cell 1;by_cases hvn:v<n
      ·have hvI:(v:Int)<(n:Int):=by omega
       have hkw3:IntKind.i64.wrap ((v:Int)+1)=(v:Int)+1:=IntWalk.i64_in _ (by omega);have hcap:=NW L hat hun hvn hT hn;obtain⟨Al,cl,rfl,-,-⟩:=aK hls.out.own;obtain⟨m,hm⟩:∃m,((fA n L a++fU n L a u)++fV L a u v).length=m:=⟨_,rfl⟩;rw[hm] at hcap;have hls1:=hls.out;rw[hm] at hls1 ⊢;have b1:Below wr.heap.size wr (wr.alloc (.cells #[.int .i64 (a:Int),.int .i64 (u:Int),.int .i64 (v:Int)] 52)):=bR.alloc (Nat.le_refl _) _;have k1:=Blk.new wr 52 #[.int .i64 (a:Int),.int .i64 (u:Int),.int .i64 (v:Int)];have k02:=k0.upd (upF b1) id;have hls2:=hls1.below b1;have hcon:=H.out.2.2 _ (tHn H.out.1 hls2.bl) a u v hat hun hvn;have HX:=aI4 hls2 hm k1 k02;clear hls hls1 hls2 hm k1 k02 k0 b1;go_upto_region 12 with (fail);clear q1;generalize wr.alloc (.cells #[.int .i64 (a:Int),.int .i64 (u:Int),.int .i64 (v:Int)] 52)=V1 at HX hcon ⊢;have q0:V1.cell? ⟨w.heap.size,0,none⟩=some (.int .i64 (T:Int)):=HX.out.2.2.2.cell 0;have q1:V1.cell? ⟨w.heap.size,1,none⟩=some (.int .i64 (n:Int)):=HX.out.2.2.2.cell 1;have q2:V1.cell? ⟨w.heap.size,2,none⟩=some (.slice (some ⟨hb,0,none⟩) tot tot):=HX.out.2.2.2.cell 2;have q3:V1.cell? ⟨w.heap.size,3,none⟩=some (.slice A l c):=HX.out.2.2.2.cell 3;have p0:V1.cell? ⟨wr.heap.size,0,none⟩=some (.int .i64 (a:Int)):=HX.out.2.2.1.cell 0;have p1:V1.cell? ⟨wr.heap.size,1,none⟩=some (.int .i64 (u:Int)):=HX.out.2.2.1.cell 1;have p2:V1.cell? ⟨wr.heap.size,2,none⟩=some (.int .i64 (v:Int)):=HX.out.2.2.1.cell 2;go_wp2_with fail;refine hcon.mono ?_;clear hcon q0 q1 q2 q3 p0 p1 p2;rintro e V2 ⟨he,b2⟩
       have hls3:=HX.out.1.below b2;have k3:=HX.out.2.2.1.upd (upF b2) id;have p0:V2.cell? ⟨wr.heap.size,0,none⟩=some (.int .i64 (a:Int)):=k3.cell 0;have p1:V2.cell? ⟨wr.heap.size,1,none⟩=some (.int .i64 (u:Int)):=k3.cell 1;have p2:V2.cell? ⟨wr.heap.size,2,none⟩=some (.int .i64 (v:Int)):=k3.cell 2;by_cases hx:(a,u,v)∈L
       ·have he:e=.returned (.bool true):=by rw[he,decide_eq_true hx]
        subst he;have b3:Below V2.heap.size V2 (V2.alloc (.cells #[.int .i64 (a:Int),.int .i64 (u:Int),.int .i64 (v:Int)] 52)):=bR.alloc (Nat.le_refl _) _;have hrow:aU (V2.alloc (.cells #[.int .i64 (a:Int),.int .i64 (u:Int),.int .i64 (v:Int)] 52)) (some ⟨V2.heap.size,0,none⟩) (faC (a,u,v)):=gD (Blk.new V2 52 #[.int .i64 (a:Int),.int .i64 (u:Int),.int .i64 (v:Int)]);obtain⟨A9,c9,W9,happ,hls9⟩:=(hls3.below b3).app HX.out.2.1 (a,u,v) _ 1 hrow (by omega);have HN:=hIz (show LsA W0 W9 (.slice A9 (m+1) c9) ((fA n L a++fU n L a u)++fV L a u (v+1)) from by
         rw[JD,if_pos hx,← List.append_assoc];exact hls9)
        clear hls9 hls3 k3 b3 hrow hx b2;go_wp2_with (at_builtin;refine wpList_append_run rfl _ _ _ rfl rfl rfl happ ?_);clear happ p0 p1 p2;go_roundw
        case rel=>exact⟨v+1,by omega,by go_num,HN⟩
        case measure=>simp[intOf];omega
       ·have he:e=.returned (.bool false):=by rw[he,decide_eq_false hx]
        subst he;have HN:=hIz (show LsA W0 V2 (.slice Al m cl) ((fA n L a++fU n L a u)++fV L a u (v+1)) from by
         rw[JD,if_neg hx];exact hls3)
        clear hls3 k3 hx b2 p0 p1 p2;go_wp2;go_roundw
        case rel=>exact⟨v+1,by omega,by go_num,HN⟩
        case measure=>simp[intOf];omega
      ·obtain rfl:v=n:=by omega
       have hvI:¬(v:Int)<(v:Int):=by omega
       clear k0;go_wp2;clear q1;go_roundw
       case rel=>exact⟨u+1,by omega,by go_num,by rw[yT,← List.append_assoc];exact hls⟩
       case measure=>simp[intOf];omega
    ·obtain rfl:u=n:=by omega
     have huI:¬(u:Int)<(u:Int):=by omega
     go_wp2;clear q1;go_roundw
     case rel=>exact⟨a+1,by omega,by go_num,by rw[yU];exact hls⟩
     case measure=>simp[intOf];omega
  ·obtain rfl:a=T:=by omega
   have haI:¬(a:Int)<(a:Int):=by omega
   obtain⟨Al,cl,rfl,-,-⟩:=aK hls.out.own;go_wp2;go_ret;exact⟨Al,cl,rfl,aQ hls.out.own (fun k hk=>Nat.le_trans H.out.1.size (hls.out.own.lt k hk).1),tHn H.out.1 hls.out.bl⟩
def VW(w:World)(K:List (Nat × Nat))(e:Ending)(w':World):Prop:=∃A c,e=.returned (.slice A K.length c)∧w'.ownsRow w.heap.size 83 2 (.slice A K.length c) K.length (dF K)∧Below w.heap.size w w'
theorem rL:(Tryz.prog.info? 83).map (fun i=>(i.zero,i.size,i.bytes))=some (some (.agg #[.int .i64 0,.int .i64 0]),2,16):=by kernel_rfl
structure LsC(W0 V:World)(v:Value)(K:List (Nat × Nat)):Prop where
 own:V.ownsRow W0.heap.size 83 2 v K.length (dF K)
 bl:Below W0.heap.size W0 V
theorem LsC.below{W0 V W:World}{v:Value}{K:List (Nat × Nat)}(h:LsC W0 V v K)(hb:Below V.heap.size V W):LsC W0 W v K:=
 ⟨aA h.own (upF hb) (fun _ _=>id),tHn h.bl hb⟩
theorem LsC.app{W0 V:World}{A:Option Addr}{n c:Nat}{K:List (Nat × Nat)}(h:LsC W0 V (.slice A n c) K)(hn:K.length=n)(x:Nat × Nat)(R:Option Addr)(d:Nat)(hr:aU V R (ceC x))(hl:(n+1)*16≤140737488355328) :
  ∃A' c' W1,(Builtin.append_ #[58,58] 58 #[.slice A n c,.slice R 1 d]).run Tryz.prog V=.ok (.slice A' (n+1) c') W1∧LsC W0 W1 (.slice A' (n+1) c') (K++[x]):=by
 have own:V.ownsRow W0.heap.size 83 2 (.slice A n c) n (dF K):=by have:=h.own;rwa [hn] at this
 obtain⟨A',c',W1,happ,own',up,pl⟩:=aY V W0.heap.size 58 83 2 16 _ Tryz.underlying58 rL rfl (by decide) (by decide) A n c _ own R 1 d (ceC x) hr rfl (PG x) hl h.bl.size;refine⟨A',c',W1,happ,?_,h.bl.trans (up.below (fun q _ hq=>(own.lt q hq).1) h.bl.size)⟩;rw[List.length_append,hn,show dF (K++[x])=dF K++ceC x by simp[dF]];exact own'
def ntC(k:Nat)(M:List (Nat × Nat × Nat)):List (Nat × Nat):=(M.filter (fun x=>decide (x.1=k))).map (·.2)
theorem NY(k:Nat)(M:List (Nat × Nat × Nat))(x:Nat × Nat × Nat):ntC k (M++[x])=if x.1=k then ntC k M++[x.2] else ntC k M:=by
 unfold ntC;rw[List.filter_append,List.map_append];by_cases h:x.1=k <;> simp[h]
theorem SC(k:Nat)(M:List (Nat × Nat × Nat)):(ntC k M).length≤M.length:=by
 unfold ntC;rw[List.length_map];exact List.length_filter_le _ _
theorem rO(w:World)(base hb T n l c:Nat)(A:Option Addr)(L:List (Nat × Nat × Nat))(h:SeI w base hb T n A l c L)(hT:T≤512)(hn:n≤64)(k:Nat) :
  Calls Tryz.prog 33 #[kY T n hb A l c,.int .i64 (k:Int)] w (VW w (ntC k (fA n L T))):=by
 have b0:Below w.heap.size w (w.alloc (.cells #[.int .i64 (T:Int),.int .i64 (n:Int),.slice (some ⟨hb,0,none⟩) (T*n*n) (T*n*n),.slice A l c] 76)):=by(repeat (first | exact Below.refl _ _ | apply Below.drew | refine Below.alloc ?_ (by first | exact Nat.le_refl _ | (simp;done) | (simp;omega)) _ | refine Below.setCell ?_ (by first | exact Nat.le_refl _ | (simp;done) | (simp;omega)) _))
 have k1:=Blk.new w 76 #[.int .i64 (T:Int),.int .i64 (n:Int),.slice (some ⟨hb,0,none⟩) (T*n*n) (T*n*n),.slice A l c];have hcon:=BH _ base hb T n l c A L (h.below b0) hT hn;have hml:(fA n L T).length≤2097152:=Nat.le_trans (JI n L T) (Nat.mul_le_mul (Nat.mul_le_mul hT hn) hn);obtain⟨M,hM⟩:∃M,fA n L T=M:=⟨_,rfl⟩;rw[hM] at hcon hml ⊢;unfold kY at hcon ⊢;unfold WW at hcon;obtain⟨m,hm⟩:∃m,M.length=m:=⟨_,rfl⟩;rw[hm] at hcon hml;have H:=aI3 b0 k1 hm;clear b0 k1 h hM hm;go_enter Tryz.func33,Tryz.ntmps33;go_upto_region 1 with (fail);generalize w.alloc (.cells #[.int .i64 (T:Int),.int .i64 (n:Int),.slice (some ⟨hb,0,none⟩) (T*n*n) (T*n*n),.slice A l c] 76)=W0 at H hcon ⊢;have q0:W0.cell? ⟨w.heap.size,0,none⟩=some (.int .i64 (T:Int)):=H.out.2.1.cell 0;have q1:W0.cell? ⟨w.heap.size,1,none⟩=some (.int .i64 (n:Int)):=H.out.2.1.cell 1;have q2:W0.cell? ⟨w.heap.size,2,none⟩=some (.slice (some ⟨hb,0,none⟩) (T*n*n) (T*n*n)):=H.out.2.1.cell 2;have q3:W0.cell? ⟨w.heap.size,3,none⟩=some (.slice A l c):=H.out.2.1.cell 3;go_wp2_with fail;refine hcon.mono ?_;clear hcon q0 q1 q2 q3;rintro e W1 ⟨MA,mc,rfl,own1,b1⟩;have H1:=aI2 own1 (tHn H.out.1 b1);clear own1 b1;go_wp2;go_loopw [5,7] (fun tv iv wr=>∃i:Nat,i≤m∧iv=.int .i64 (i:Int)∧Hid (LsC W1 wr tv (ntC k (M.take i)))) (fun _ iv _=>m-(intOf iv).toNat)
 case atStart=>exact⟨0,Nat.zero_le _,rfl,hIz ⟨World.ownsRow_nil _ _ _ _,Below.refl _ _⟩⟩
 case round =>
  obtain⟨i,hi,rfl,hls⟩:=hrel;by_cases him:i<m
  ·have hiI:(i:Int)<(m:Int):=by omega
   have hkw:IntKind.i64.wrap ((i:Int)+1)=(i:Int)+1:=IntWalk.i64_in _ (by omega);obtain⟨⟨x0,x1,x2⟩,hx⟩:∃x,M[i]?=some x:=⟨M[i]'(by rw[H.out.2.2];exact him),gEz _⟩;have rM:aU wr MA (dW M):=(aU.of_own H1.out.1).below hls.out.bl;obtain⟨ab,ao,rfl,c0,c1,c2⟩:=rM.fact hx;dsimp only at c0 c1 c2
   obtain⟨Al,cl,rfl,-,-⟩:=aK hls.out.own;obtain⟨t,ht⟩:∃t,(ntC k (M.take i)).length=t:=⟨_,rfl⟩;have htm:t≤m:=by
    have h1:=SC k (M.take i);have h2:=H.out.2.2;rw[List.length_take] at h1;omega
   have hls1:=hls.out;rw[ht] at hls1 ⊢;have hst:=NY k (M.take i) (x0,x1,x2);have htk:M.take (i+1)=M.take i++[(x0,x1,x2)]:=by rw[List.take_add_one,hx];rfl
   rw[← htk] at hst;by_cases hxk:x0=k
   ·have hxB:((x0:Int)==(k:Int))=true:=by rw[beq_iff_eq];omega
    rw[if_pos hxk] at hst;have hB0:Below wr.heap.size wr wr.drew:=bR.drew;have b3:Below wr.heap.size wr (wr.drew.alloc (.cells #[.int .i64 (x1:Int),.int .i64 (x2:Int)] 83)):=hB0.alloc hB0.size _;have hrow:aU (wr.drew.alloc (.cells #[.int .i64 (x1:Int),.int .i64 (x2:Int)] 83)) (some ⟨wr.heap.size,0,none⟩) (ceC (x1,x2)):=gD (Blk.new wr.drew 83 #[.int .i64 (x1:Int),.int .i64 (x2:Int)]);obtain⟨A9,c9,W9,happ,hls9⟩:=(hls1.below b3).app ht (x1,x2) _ 1 hrow (by omega);have hS:(fun V=>V.cell? ⟨ab,ao+i*3+1,none⟩=some (.int .i64 (x1:Int))∧V.cell? ⟨ab,ao+i*3+2,none⟩=some (.int .i64 (x2:Int))) wr.drew:=⟨c1,c2⟩;have hS1:(fun V=>V.cell? ⟨ab,ao+i*3+1,none⟩=some (.int .i64 (x1:Int))∧V.cell? ⟨ab,ao+i*3+2,none⟩=some (.int .i64 (x2:Int))) (wr.drew.alloc (.cells #[.int .i64 (x1:Int),.int .i64 (x2:Int)] 83)):=⟨bQ b3 c1,bQ b3 c2⟩;have rM9:=((aU.of_own H1.out.1).below hls9.bl).fact hx;have hS2:(fun V=>V.cell? ⟨ab,ao+i*3+1,none⟩=some (.int .i64 (x1:Int))∧V.cell? ⟨ab,ao+i*3+2,none⟩=some (.int .i64 (x2:Int))) W9:=by
     obtain⟨b',o',e,-,d1,d2⟩:=rM9;injection e with e;injection e with e1 e2;subst e1;subst e2;exact⟨d1,d2⟩
    have HN:=hIz (show LsC W1 W9 (.slice A9 (t+1) c9) (ntC k (M.take (i+1))) from by rw[hst];exact hls9);clear hB0 b3 hrow hls9 rM9 hls1 hls hst htk hx rM hxk ht;go_upto_region 7 with (fail);refine aF (fun V=>V.cell? ⟨ab,ao+i*3+1,none⟩=some (.int .i64 (x1:Int))∧V.cell? ⟨ab,ao+i*3+2,none⟩=some (.int .i64 (x2:Int))) 15 [(0,true),(1,true),(2,true),(3,true),(4,true),(5,true),(6,true),(7,true),(8,true),(9,true),(10,true),(11,true),(12,false),(13,false),(14,true)] hS ?_;clear hS
    iterate 12 refine aC rfl ?_
    refine aN rfl rfl (fun K hK=>?_);go_simp;refine hK _ _ (fun _=>hS1) ?_;clear hK K hS1;(try simp only[Act.put,gA,gS,gZ,sA,sZ,sS])
    refine aN rfl rfl (fun K hK=>?_);refine bX _ _ _ rfl rfl rfl happ ?_;refine hK _ _ (fun _=>hS2) ?_;clear hK K happ hS2;(try simp only[Act.put,gA,gS,gZ,sA,sZ,sS])
    refine aC rfl ?_;refine aG ?_;clear c0 c1 c2;go_wp2;go_roundw
    case rel=>exact⟨i+1,by omega,by go_num,HN⟩
    case measure=>simp[intOf];omega
   ·have hxB:((x0:Int)==(k:Int))=false:=by rw[beq_eq_false_iff_ne];omega
    rw[if_neg hxk] at hst;have HN:=hIz (show LsC W1 wr (.slice Al t cl) (ntC k (M.take (i+1))) from by rw[hst];exact hls1);clear hls1 hls hst htk hx rM hxk ht;go_wp2;clear c0 c1 c2;go_roundw
    case rel=>exact⟨i+1,by omega,by go_num,HN⟩
    case measure=>simp[intOf];omega
  ·obtain rfl:i=m:=by omega
   have hiI:¬(i:Int)<(i:Int):=by omega
   have hls1:=hls.out;rw[show M.take i=M by rw[← H.out.2.2,List.take_length]] at hls1;obtain⟨Al,cl,rfl,-,-⟩:=aK hls1.own;have FIN:=hIz (show VW w (ntC k M) (.returned (.slice Al (ntC k M).length cl)) wr from⟨Al,cl,rfl,aQ hls1.own (fun q hq=>Nat.le_trans H1.out.2.size (hls1.own.lt q hq).1),tHn H1.out.2 hls1.bl⟩);clear hls1 hls;go_wp2;go_ret;exact FIN.out
open Go.RowKit Go.Shelf
theorem JJ{p:Pr}{nts labels:Int}{bl:Nat}(hbl:p.body.length=bl)(h2:bl≤2)(h0:0≤p.head)(h1:p.head<nts){b1:Bool}{most:Int}(hb:b1=decide (bl=1))(hm:most=if bl=1 then labels else nts):aT p nts labels=true↔∀s∈p.body,dQ s b1 most=true:=by
 obtain⟨hd,body⟩:=p;dsimp only at hbl h0 h1 ⊢
 have e:(decide (0≤hd)&&decide (hd<nts))=true:=by simp[h0,h1]
 unfold aT;dsimp only
 rw[e,Bool.true_and];match body,hbl with
 | [],hbl=>simp
 | [s],hbl =>
  have hbl:bl=1:=hbl.symm;subst hbl;subst hb;subst hm;simp
 | [s,t],hbl =>
  have hbl:bl=2:=hbl.symm;subst hbl;subst hb;subst hm;simp
 | s::t::u::r,hbl=>simp at hbl;omega
theorem JK{p:Pr}{nts labels:Int}(h:p.head<0∨nts≤p.head∨2<p.body.length):aT p nts labels=false:=by
 obtain⟨hd,body⟩:=p;dsimp only at h
 unfold aT;dsimp only
 rcases h with h|h|h
 ·simp[show ¬0≤hd by omega]
 ·simp[show ¬hd<nts by omega]
 ·match body,h with
  | s::t::u::r,_=>simp
  | [],h=>simp at h
  | [s],h=>simp at h
  | [s,t],h=>simp at h
theorem DC(w:World)(p:Pr)(A:Option Addr)(c:Nat)(hrow:aU w A (cS p.body))(nts labels:Int):Calls Tryz.prog 79 #[.agg #[.int .i64 p.head,.slice A p.body.length c],.int .i64 nts,.int .i64 labels] w (Sam w (.bool (aT p nts labels))):=by
 obtain⟨bl,hbl⟩:∃bl,p.body.length=bl:=⟨_,rfl⟩;have hbad:=@JK p nts labels;rw[hbl] at hbad ⊢;have b1:Below w.heap.size w (w.alloc (.cells #[.int .i64 p.head,.slice A bl c] 71)):=bR.alloc (Nat.le_refl _) _;have k1:=Blk.new w 71 #[.int .i64 p.head,.slice A bl c];have hr:=hrow.below3 b1;have q0:(w.alloc (.cells #[.int .i64 p.head,.slice A bl c] 71)).cell? ⟨w.heap.size,0,none⟩=some (.int .i64 p.head):=k1.cell 0;have q1:(w.alloc (.cells #[.int .i64 p.head,.slice A bl c] 71)).cell? ⟨w.heap.size,1,none⟩=some (.slice A bl c):=k1.cell 1;have H:=aI4 b1 hr k1 hbl;have HBad:=hIz hbad;clear b1 k1 hr hrow hbl hbad;by_cases h0:p.head<0
 ·have FIN:=HBad.out (.inl h0);rw[FIN];clear FIN;go_enter Tryz.func79,Tryz.ntmps79;go_wp2;go_ret;exact⟨rfl,H.out.1⟩
 ·by_cases h1:nts≤p.head
  ·have FIN:=HBad.out (.inr (.inl h1));rw[FIN];clear FIN;go_enter Tryz.func79,Tryz.ntmps79;go_wp2;go_ret;exact⟨rfl,H.out.1⟩
  ·by_cases h2:2<bl
   ·have h2I:(2:Int)<(bl:Int):=by omega
    have FIN:=HBad.out (.inr (.inr h2));rw[FIN];clear FIN;go_enter Tryz.func79,Tryz.ntmps79;go_wp2;go_ret;exact⟨rfl,H.out.1⟩
   ·have h2I:¬(2:Int)<(bl:Int):=by omega
    obtain⟨b1,hb1⟩:∃b1,decide (bl=1)=b1:=⟨_,rfl⟩;obtain⟨most,hmo⟩:∃most,(if bl=1 then labels else nts)=most:=⟨_,rfl⟩;have hiff:=JJ (p:=p) (labels:=labels) H.out.2.2.2 (by omega) (by omega) (by omega) hb1.symm hmo.symm (nts:=nts);have HI:=hIz hiff;have HB1:=aI2 hb1 hmo;obtain⟨r,hr⟩:∃r,aT p nts labels=r:=⟨_,rfl⟩;rw[hr];have HR:=hIz hr;clear hiff hb1 hmo hr HBad;go_enter Tryz.func79,Tryz.ntmps79;go_wp2;generalize w.alloc (.cells #[.int .i64 p.head,.slice A bl c] 71)=W1 at H q0 q1 ⊢;clear q0 q1;go_loopw [7] (fun iv wr=>∃i:Nat,i≤bl∧iv=.int .i64 (i:Int)∧Hid (Below W1.heap.size W1 wr)∧Hid (∀j,j<i→∀s,p.body[j]?=some s→dQ s b1 most=true)) (fun iv _=>bl-(intOf iv).toNat)
    case atStart=>exact⟨0,Nat.zero_le _,rfl,hIz bR,hIz (fun j hj=>by omega)⟩
    case round =>
     obtain⟨i,hi,rfl,hb,hall⟩:=hrel;have hu:=Upd.of_below hb.out (fun _=>False);have q1:wr.cell? ⟨w.heap.size,1,none⟩=some (.slice A bl c):=(H.out.2.2.1.upd hu id).cell 1;by_cases hib:i<bl
     ·have hiI:(i:Int)<(bl:Int):=by omega
      have hkw:IntKind.i64.wrap ((i:Int)+1)=(i:Int)+1:=IntWalk.i64_in _ (by omega);obtain⟨s,hs⟩:∃s,p.body[i]?=some s:=⟨p.body[i]'(by rw[H.out.2.2.2];exact hib),gEz _⟩;obtain⟨sl,sa⟩:=s;obtain⟨gb,go,rfl,c0,c1⟩:=(H.out.2.1.below3 hb.out).sym hs;dsimp only at c0 c1
      have b2:Below wr.heap.size wr (wr.alloc (.cells #[.bool sl,.int .i64 sa] 96)):=bR.alloc (Nat.le_refl _) _;have k2:=Blk.new wr 96 #[.bool sl,.int .i64 sa];have e0:(wr.alloc (.cells #[.bool sl,.int .i64 sa] 96)).cell? ⟨wr.heap.size,0,none⟩=some (.bool sl):=k2.cell 0;have e1:(wr.alloc (.cells #[.bool sl,.int .i64 sa] 96)).cell? ⟨wr.heap.size,1,none⟩=some (.int .i64 sa):=k2.cell 1;have q1':(wr.alloc (.cells #[.bool sl,.int .i64 sa] 96)).cell? ⟨w.heap.size,1,none⟩=some (.slice (some ⟨gb,go,none⟩) bl c):=bQ b2 q1;have HB2:=hIz (tHn hb.out b2);have HS:=hIz hs;have BAD:=hIz (show dQ ⟨sl,sa⟩ b1 most=false→r=false from fun h=>by
       cases hrr:r with
       | false=>rfl
       | true =>
        have h2:=HI.out.1 (HR.out.trans hrr) ⟨sl,sa⟩ (mG HS.out);rw[h] at h2;cases h2)
      have GOOD:=hIz (show dQ ⟨sl,sa⟩ b1 most=true→∀j,j<i+1→∀s,p.body[j]?=some s→dQ s b1 most=true from fun h j hj s' hs'=>by
       rcases Nat.lt_succ_iff_lt_or_eq.1 hj with h1|rfl
       ·exact hall.out j h1 s' hs'
       ·rw[HS.out] at hs';obtain rfl:=Option.some.inj hs';exact h)
      have hcase:(((bl:Int)==1)=true∧b1=true∧most=labels)∨(((bl:Int)==1)=false∧b1=false∧most=nts):=by
       by_cases hb1:bl=1
       ·exact .inl ⟨by simp;omega,by rw[← HB1.out.1];exact decide_eq_true hb1,by rw[← HB1.out.2,if_pos hb1]⟩
       ·exact .inr ⟨by simp;omega,by rw[← HB1.out.1];exact decide_eq_false hb1,by rw[← HB1.out.2,if_neg hb1]⟩
      clear hu b2 k2 hs;rcases hcase with ⟨hblI,rfl,rfl⟩|⟨hblI,rfl,rfl⟩
      ·cases sl with
       | false =>
        have e9:=BAD.out (by unfold dQ;simp);subst e9;go_wp2;go_ret;exact⟨rfl,tHn H.out.1 HB2.out⟩
       | true =>
        by_cases g2:sa<0
        ·have e9:=BAD.out (by unfold dQ;simp[show ¬0≤sa by omega]);subst e9;go_wp2;go_ret;exact⟨rfl,tHn H.out.1 HB2.out⟩
        ·by_cases g3:most≤sa
         ·have e9:=BAD.out (by unfold dQ;simp[show ¬sa<most by omega]);subst e9;go_wp2;go_ret;exact⟨rfl,tHn H.out.1 HB2.out⟩
         ·have e9:=hIz (GOOD.out (by unfold dQ;simp[show 0≤sa by omega,show sa<most by omega]));go_wp2;go_roundw
          case rel=>exact⟨i+1,by omega,by go_num,HB2,e9⟩
          case measure=>simp[intOf];omega
      ·cases sl with
       | true =>
        have e9:=BAD.out (by unfold dQ;simp);subst e9;go_wp2;go_ret;exact⟨rfl,tHn H.out.1 HB2.out⟩
       | false =>
        by_cases g2:sa<0
        ·have e9:=BAD.out (by unfold dQ;simp[show ¬0≤sa by omega]);subst e9;go_wp2;go_ret;exact⟨rfl,tHn H.out.1 HB2.out⟩
        ·by_cases g3:most≤sa
         ·have e9:=BAD.out (by unfold dQ;simp[show ¬sa<most by omega]);subst e9;go_wp2;go_ret;exact⟨rfl,tHn H.out.1 HB2.out⟩
         ·have e9:=hIz (GOOD.out (by unfold dQ;simp[show 0≤sa by omega,show sa<most by omega]));go_wp2;go_roundw
          case rel=>exact⟨i+1,by omega,by go_num,HB2,e9⟩
          case measure=>simp[intOf];omega
     ·obtain rfl:i=bl:=by omega
      have hiI:¬(i:Int)<(i:Int):=by omega
      obtain rfl:r=true:=by
       rw[← HR.out];refine HI.out.2 (fun s hs=>?_);obtain⟨j,hj⟩:=List.getElem?_of_mem hs;have:=(gO.1 hj).1;have:=H.out.2.2.2;exact hall.out j (by omega) s hj
      go_wp2;go_ret;exact⟨rfl,tHn H.out.1 hb.out⟩
open Go.RowKit
section
variable {α:Type} [DecidableEq α] {lt:α→α→Bool}
def mrg(lt:α→α→Bool)(A B:List α):List α:=
 match A,B with
 | [],B=>B
 | A,[]=>A
 | x::a,y::b=>if lt x y=true then x::mrg lt a (y::b) else if x=y then y::mrg lt a b else y::mrg lt (x::a) b
termination_by A.length+B.length
theorem nW(B:List α):mrg lt [] B=B:=by rw[mrg]
theorem tW(A:List α):mrg lt A []=A:=by
 cases A with
 | nil=>rw[mrg]
 | cons x a=>rw[mrg];simp
theorem nX(x:α)(a:List α)(y:α)(b:List α):mrg lt (x::a) (y::b)=if lt x y=true then x::mrg lt a (y::b) else if x=y then y::mrg lt a b else y::mrg lt (x::a) b:=by rw[mrg]
theorem nY(hs:Sto lt):∀(n:Nat) (A B:List α),A.length+B.length≤n→dK lt A→dK lt B→dK lt (mrg lt A B)∧(∀z,z∈mrg lt A B↔z∈A∨z∈B)∧(mrg lt A B).length≤A.length+B.length
 | n,[],B,_,_,hB=>by rw[nW];exact⟨hB,by simp,by simp⟩
 | n,x::a,[],_,hA,_=>by rw[tW];exact⟨hA,by simp,by simp⟩
 | 0,x::a,y::b,h,_,_=>by simp at h
 | n+1,x::a,y::b,h,hA,hB=>by
  obtain⟨hA1,hA2⟩:=List.pairwise_cons.1 hA;obtain⟨hB1,hB2⟩:=List.pairwise_cons.1 hB;rw[nX];simp only[List.length_cons] at h
  by_cases hxy:lt x y=true
  ·rw[if_pos hxy];obtain⟨r,m,l⟩:=nY hs n a (y::b) (by simp;omega) hA2 hB;refine⟨List.pairwise_cons.2 ⟨fun z hz=>?_,r⟩,fun z=>by rw[List.mem_cons,m,List.mem_cons (a:=z) (b:=x)];simp only[or_assoc],by simp only[List.length_cons] at l ⊢;omega⟩;rcases (m z).1 hz with hz|hz
   ·exact hA1 z hz
   ·rcases List.mem_cons.1 hz with rfl|hz
    ·exact hxy
    ·exact hs.tr _ _ _ hxy (hB1 z hz)
  ·rw[if_neg hxy];by_cases he:x=y
   ·subst he;rw[if_pos rfl];obtain⟨r,m,l⟩:=nY hs n a b (by omega) hA2 hB2;refine⟨List.pairwise_cons.2 ⟨fun z hz=>?_,r⟩,fun z=>?_,by simp only[List.length_cons] at l ⊢;omega⟩
    ·rcases (m z).1 hz with hz|hz
     ·exact hA1 z hz
     ·exact hB1 z hz
    ·rw[List.mem_cons,m,List.mem_cons,List.mem_cons];constructor
     ·rintro (h|h|h)
      ·exact .inl (.inl h)
      ·exact .inl (.inr h)
      ·exact .inr (.inr h)
     ·rintro ((h|h)|(h|h))
      ·exact .inl h
      ·exact .inr (.inl h)
      ·exact .inl h
      ·exact .inr (.inr h)
   ·rw[if_neg he];obtain⟨r,m,l⟩:=nY hs n (x::a) b (by simp;omega) hA hB2;have hyx:lt y x=true:=by
     cases e:lt y x
     ·exact(he (hs.tri _ _ (by simpa using hxy) e)).elim
     ·rfl
    refine⟨List.pairwise_cons.2 ⟨fun z hz=>?_,r⟩,fun z=>?_,by simp only[List.length_cons] at l ⊢;omega⟩
    ·rcases (m z).1 hz with hz|hz
     ·rcases List.mem_cons.1 hz with rfl|hz
      ·exact hyx
      ·exact hs.tr _ _ _ hyx (hA1 z hz)
     ·exact hB1 z hz
    ·rw[List.mem_cons,m,List.mem_cons (a:=z) (b:=y)];constructor
     ·rintro (h|h|h)
      ·exact .inr (.inl h)
      ·exact .inl h
      ·exact .inr (.inr h)
     ·rintro (h|h|h)
      ·exact .inr (.inl h)
      ·exact .inl h
      ·exact .inr (.inr h)
omit [DecidableEq α] in
theorem eO{l:List α}{k:Nat}{x:α}(h:l[k]?=some x):l.drop k=x::l.drop (k+1):=by
 obtain⟨hk,rfl⟩:=gO.1 h;exact List.drop_eq_getElem_cons hk
theorem wU{A B:List α}{i j:Nat}{x:α}(hx:A[i]?=some x)(h:B.length≤j∨∃y,B[j]?=some y∧lt x y=true):mrg lt (A.drop i) (B.drop j)=x::mrg lt (A.drop (i+1)) (B.drop j):=by
 rw[eO hx];rcases h with h|⟨y,hy,hl⟩
 ·rw[List.drop_of_length_le h,tW,tW]
 ·rw[eO hy,nX,if_pos hl]
theorem wV{A B:List α}{i j:Nat}{y:α}(hy:B[j]?=some y)(h:A.length≤i∨∃x,A[i]?=some x∧lt x y=false∧x≠y):mrg lt (A.drop i) (B.drop j)=y::mrg lt (A.drop i) (B.drop (j+1)):=by
 rw[eO hy];rcases h with h|⟨x,hx,hl,hne⟩
 ·rw[List.drop_of_length_le h,nW,nW]
 ·rw[eO hx,nX,if_neg (by rw[hl];simp),if_neg hne]
theorem NZ(hs:Sto lt){A B:List α}{i j:Nat}{y:α}(hx:A[i]?=some y)(hy:B[j]?=some y):mrg lt (A.drop i) (B.drop j)=y::mrg lt (A.drop (i+1)) (B.drop (j+1)):=by
 rw[eO hy,eO hx,nX,if_neg (by rw[hs.irr];simp),if_pos rfl]
theorem SD{A B:List α}{i j:Nat}(h1:A.length≤i)(h2:B.length≤j):mrg lt (A.drop i) (B.drop j)=[]:=by
 rw[List.drop_of_length_le h1,List.drop_of_length_le h2,nW]
end
open Go.RowKit
theorem nE(n:Nat)(w:World):Calls Tryz.prog 140 #[.int .u8 (n:Int)] w (kK w (.bool (BN n))):=by
 have key:∀b,BN n=b→Calls Tryz.prog 140 #[.int .u8 (n:Int)] w (kK w (.bool b)):=by
  intro b hb;have HB:=hIz hb;clear hb;go_enter Tryz.func140,Tryz.ntmps140;go_wp2
  all_goals
   go_ret;refine⟨iK ?_,rfl⟩;rw[← HB.out,Bool.eq_iff_iff];simp[BN]
   try omega
 exact key _ rfl

theorem gF(s:Txt)(w:World)(hs:s.size≤9223372036854775807):Calls Tryz.prog 97 #[.string s] w (kK w (.bool (dS s))):=by
 obtain⟨b,hb⟩:∃b,dS s=b:=⟨_,rfl⟩;rw[hb];have HB0:=hIz hb;clear hb;go_enter Tryz.func97,Tryz.ntmps97;go_wp2_with fail;go_loop [3] (fun i=>∃k:Nat,k≤s.size∧i=.int .i64 k∧Hid (∀j (hj:j<s.size),j<k→BN s[j].toNat=true)) (fun i=>s.size-(intOf i).toNat)
 case atStart=>exact⟨0,Nat.zero_le _,rfl,hIz (fun j _ hj=>by omega)⟩
 case round =>
  obtain⟨k,hk,rfl,hall⟩:=hrel;by_cases hlt:k<s.size
  ·cases hb:BN s[k].toNat with
   | true =>
    have HB:=hIz hb;go_wp2_with fail;refine(nE _ _).mono ?_;rintro e w' ⟨rfl,rfl⟩;go_wp2;go_round
    case rel=>exact⟨k+1,by omega,by go_num,hIz (fun j hj h=>by
     rcases Nat.lt_succ_iff_lt_or_eq.1 h with h|rfl
     ·exact hall.out j hj h
     ·exact HB.out)⟩
    case measure=>simp[intOf];omega
   | false =>
    have HB:=hIz hb;go_wp2_with fail;refine(nE _ _).mono ?_;rintro e w' ⟨rfl,rfl⟩;go_wp2;go_ret;exact⟨iK (by rw[← HB0.out,zM hlt HB.out]),rfl⟩
  ·obtain rfl:k=s.size:=by omega
   by_cases hl:1≤s.size∧s.size≤16
   ·have h1:(1:Int)≤(s.size:Int):=by omega
    have h2:(s.size:Int)≤16:=by omega
    have HL:=hIz hl;clear hl;go_wp2;go_ret;exact⟨iK (by rw[← HB0.out,uL HL.out (fun j hj=>hall.out j hj hj)]),rfl⟩
   ·have HL:=hIz (qJ hl);by_cases h1:(1:Int)≤(s.size:Int)
    ·have h2:¬((s.size:Int)≤16):=by omega
     clear hl;go_wp2;go_ret;exact⟨iK (by rw[← HB0.out,HL.out]),rfl⟩
    ·clear hl;go_wp2;go_ret;exact⟨iK (by rw[← HB0.out,HL.out]),rfl⟩

theorem wW(s:Txt)(w:World)(hs:s.size≤9223372036854775807):Calls Tryz.prog 99 #[.string s] w (kK w (.bool (gI s))):=by
 have key:∀b,gI s=b→Calls Tryz.prog 99 #[.string s] w (kK w (.bool b)):=by
  intro b hb;cases hn:dS s with
  | false =>
   have e:b=false:=by rw[← hb,gI,hn,Bool.false_and]
   subst e;have hcon:=gF s w hs;rw[hn] at hcon;clear hb hn;go_enter Tryz.func99,Tryz.ntmps99;go_wp2_with fail;refine hcon.mono ?_;rintro e w' ⟨rfl,rfl⟩;go_wp2;go_ret;exact⟨rfl,rfl⟩
  | true =>
   have h1:0<s.size:=by
    unfold dS at hn;simp at hn
    omega
   have hb':decide (97≤(s[0].toNat:Int)∧(s[0].toNat:Int)≤122)=b:=by
    rw[← hb,gI,hn,Bool.true_and,DY h1];exact decide_eq_decide.2 (by omega)
   have hcon:=gF s w hs;rw[hn] at hcon;have HB:=hIz hb';have h2:(0:Int)<(s.size:Int):=by omega
   clear hb hn hb';go_enter Tryz.func99,Tryz.ntmps99;go_wp2_with fail;refine hcon.mono ?_;rintro e w' ⟨rfl,rfl⟩;go_wp2
   all_goals
    go_ret;refine⟨iK ?_,rfl⟩;rw[← HB.out,Bool.eq_iff_iff];simp
    try omega
 exact key _ rfl

theorem VH(x y:Ed):ltE x y=if x.fr=y.fr then (if x.lb=y.lb then ltT x.to y.to else ltT x.lb y.lb) else ltT x.fr y.fr:=rfl
theorem DD(x y:Ed)(w:World):Calls Tryz.prog 136 #[x.agg,y.agg] w (Sam w (.bool (ltE x y))):=by
 obtain⟨a0,a1,a2⟩:=x;obtain⟨b0,b1,b2⟩:=y;rw[VH];dsimp only
 obtain⟨v0,e0⟩:∃v,ltT a0 b0=v:=⟨_,rfl⟩;obtain⟨v1,e1⟩:∃v,ltT a1 b1=v:=⟨_,rfl⟩;obtain⟨v2,e2⟩:∃v,ltT a2 b2=v:=⟨_,rfl⟩;rw[e0,e1,e2];unfold ltT at e0 e1 e2;obtain⟨r,hr⟩:∃r,(if a0=b0 then (if a1=b1 then v2 else v1) else v0)=r:=⟨_,rfl⟩;rw[hr];have HR:=hIz hr;clear hr;have k0:=(Blk.new w 32 #[.string a0,.string a1,.string a2]).alloc (.cells #[.string b0,.string b1,.string b2] 32);have k1:=Blk.new (w.alloc (.cells #[.string a0,.string a1,.string a2] 32)) 32 #[.string b0,.string b1,.string b2];simp only[World.size_alloc] at k1
 have bb:Below w.heap.size w ((w.alloc (.cells #[.string a0,.string a1,.string a2] 32)).alloc (.cells #[.string b0,.string b1,.string b2] 32)):=by(repeat (first | exact Below.refl _ _ | apply Below.drew | refine Below.alloc ?_ (by first | exact Nat.le_refl _ | (simp;done) | (simp;omega)) _ | refine Below.setCell ?_ (by first | exact Nat.le_refl _ | (simp;done) | (simp;omega)) _))
 have HK:=aI3 k0 k1 bb;clear k0 k1 bb;unfold Ed.agg;go_enter Tryz.func136,Tryz.ntmps136;go_upto_region 1 with (fail);generalize (w.alloc (.cells #[.string a0,.string a1,.string a2] 32)).alloc (.cells #[.string b0,.string b1,.string b2] 32)=W0 at HK ⊢;have c00:W0.cell? ⟨w.heap.size,0,none⟩=some (.string a0):=HK.out.1.cell 0;have c01:W0.cell? ⟨w.heap.size,1,none⟩=some (.string a1):=HK.out.1.cell 1;have c02:W0.cell? ⟨w.heap.size,2,none⟩=some (.string a2):=HK.out.1.cell 2;have c10:W0.cell? ⟨w.heap.size+1,0,none⟩=some (.string b0):=HK.out.2.1.cell 0;have c11:W0.cell? ⟨w.heap.size+1,1,none⟩=some (.string b1):=HK.out.2.1.cell 1;have c12:W0.cell? ⟨w.heap.size+1,2,none⟩=some (.string b2):=HK.out.2.1.cell 2;go_wp2
 all_goals
  go_ret;refine⟨iK ?_,HK.out.2.2⟩;rw[← HR.out];simp only[txt_beq] at *
  simp_all

theorem wX(w:World)(A:Option Addr)(c:Nat)(N:List Txt)(s:Txt)(h:aU w A (aE N))(hup:dK ltT N)(hl:N.length*16≤140737488355328) :
  Calls Tryz.prog 137 #[.slice A N.length c,.string s] w (kK w (.bool (inB s N))):=by
 obtain⟨b,hb⟩:∃b,inB s N=b:=⟨_,rfl⟩;rw[hb];obtain⟨n,hn⟩:∃n,N.length=n:=⟨_,rfl⟩;rw[hn] at hl ⊢;have H:=aI4 h hup hb hn;clear h hup hb hn;go_enter Tryz.func137,Tryz.ntmps137;go_wp2_with fail;go_loop [5,6,7] (fun lo hi _=>∃i j:Nat,i≤j∧j≤n∧lo=.int .i64 i∧hi=.int .i64 j∧Hid ((∀k x,k<i→N[k]?=some x→ltT x s=true)∧∀k x,j≤k→N[k]?=some x→ltT x s=false)) (fun lo hi _=>(intOf hi).toNat-(intOf lo).toNat)
 case atStart=>exact⟨0,n,Nat.zero_le _,Nat.le_refl _,rfl,rfl,hIz ⟨fun k x hk=>by omega,fun k x hk hx=>by have:=(gO.1 hx).1;have:=H.out.2.2.2;omega⟩⟩
 case round =>
  obtain⟨i,j,hij,hjn,rfl,rfl,hs⟩:=hrel;by_cases hlt:i<j
  ·have hltI:(i:Int)<(j:Int):=by omega
   have hw1:IntKind.i64.wrap ((i:Int)+(j:Int))=(i:Int)+(j:Int):=IntWalk.i64_in _ (by omega);obtain⟨k,hk⟩:∃k,(i+j) / 2=k:=⟨_,rfl⟩;have hq:((i:Int)+(j:Int)).tdiv 2=(k:Int):=by
    rw[Int.tdiv_eq_ediv_of_nonneg (by omega),← hk];omega
   have hkj:k<j:=by omega
   have hik:i≤k:=by omega
   have hkn:k<n:=by omega
   have hw2:IntKind.i64.wrap ((k:Int)+1)=(k:Int)+1:=IntWalk.i64_in _ (by omega);have hw3:IntKind.i64.wrap (k:Int)=(k:Int):=IntWalk.i64_in _ (by omega);obtain⟨x,hx⟩:∃x,N[k]?=some x:=⟨N[k]'(by rw[H.out.2.2.2];exact hkn),gEz _⟩;obtain⟨ab,ao,rfl,x0⟩:=H.out.1.txt hx;cases hlx:ltT x s with
   | true =>
    have HX:=aI2 hx hlx;unfold ltT at hlx;clear hx hk;go_wp2;go_round
    case rel=>exact⟨k+1,j,by omega,hjn,by go_num,rfl,hIz ⟨fun k' x' hk' hx'=>by
      rcases Nat.lt_succ_iff_lt_or_eq.1 hk' with h|rfl
      ·have hr:ltT x' x=true:=(List.pairwise_iff_getElem.1 H.out.2.1) k' k (gO.1 hx').1 (gO.1 HX.out.1).1 h |> fun h=>by
        rw[(gO.1 hx').2,(gO.1 HX.out.1).2] at h;exact h
       exact eX.tr _ _ _ hr HX.out.2
      ·rw[HX.out.1] at hx';injection hx' with e;rw[← e];exact HX.out.2,hs.out.2⟩⟩
    case measure=>simp[intOf];omega
   | false =>
    have HX:=aI2 hx hlx;unfold ltT at hlx;clear hx hk;go_wp2;go_round
    case rel=>exact⟨i,k,hik,by omega,rfl,rfl,hIz ⟨hs.out.1,fun k' x' hk' hx'=>by
      rcases Nat.lt_or_eq_of_le hk' with h|rfl
      ·have hr:ltT x x'=true:=(List.pairwise_iff_getElem.1 H.out.2.1) k k' (gO.1 HX.out.1).1 (gO.1 hx').1 h |> fun h=>by
        rw[(gO.1 hx').2,(gO.1 HX.out.1).2] at h;exact h
       cases e:ltT x' s
       ·rfl
       ·have:=eX.tr _ _ _ hr e;rw[HX.out.2] at this;cases this
      ·rw[HX.out.1] at hx';injection hx' with e;rw[← e];exact HX.out.2⟩⟩
    case measure=>simp[intOf];omega
  ·obtain rfl:i=j:=by omega
   by_cases hin:i<n
   ·have hinI:(i:Int)<(n:Int):=by omega
    obtain⟨x,hx⟩:∃x,N[i]?=some x:=⟨N[i]'(by rw[H.out.2.2.2];exact hin),gEz _⟩;obtain⟨ab,ao,rfl,x0⟩:=H.out.1.txt hx;have key:b=decide (x=s):=by
     rw[← H.out.2.2.1,Bool.eq_iff_iff,bE,decide_eq_true_iff];constructor
     ·intro hm;obtain⟨k,hk,e⟩:=List.getElem_of_mem hm;have hk':N[k]?=some s:=by rw[gEz hk,e]
      rcases Nat.lt_trichotomy k i with h|rfl|h
      ·have:=hs.out.1 k s h hk';rw[eX.irr] at this;cases this
      ·rw[hx] at hk';injection hk'
      ·have h1:=hs.out.2 i x (Nat.le_refl _) hx;have hr:ltT x s=true:=(List.pairwise_iff_getElem.1 H.out.2.1) i k (gO.1 hx).1 hk h |> fun h=>by
        rw[(gO.1 hx).2,e] at h;exact h
       rw[h1] at hr;cases hr
     ·rintro rfl;exact mG hx
    have HK:=hIz key;clear key hx;go_wp2
    all_goals
     go_ret;refine⟨iK ?_,rfl⟩;rw[HK.out];exact txt_beq _ _
   ·obtain rfl:i=n:=by omega
    have key:b=false:=by
     cases b with
     | false=>rfl
     | true =>
      obtain⟨k,hk,e⟩:=List.getElem_of_mem (bE.1 H.out.2.2.1);have:=hs.out.1 k s (by have:=H.out.2.2.2;omega) (by rw[gEz hk,e]);rw[eX.irr] at this;cases this
    have HK:=hIz key;clear key;go_wp2
    all_goals
     go_ret;exact⟨iK HK.out.symm,rfl⟩
end Go.Proofs.YtddffnonlmfhdaaGreatDoor
