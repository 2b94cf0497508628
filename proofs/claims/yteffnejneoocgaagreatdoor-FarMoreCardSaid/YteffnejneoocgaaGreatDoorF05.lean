/- A region that draws its order: every order is walked, stable operations taken as they come up; behind the late ones (for which all that is taken waits not) nothing stable need hold. Nothing here names the program; Graphs: a graph that grows, in memory; Graphs: a node that comes; Matrices of bits in memory, whose cells lie in the first block; New; Matrices of bits: is, in, Side, Len, leaf, Get; Matrices of bits: Get; Blocks of bits: Of, of one cell; Blocks of bits: two held against one another. -/
import Derived.Test.YteffnejneoocgaaGreatDoorF04
import Derived.ChangeKeysEq
set_option linter.unusedVariables false
set_option linter.unusedSimpArgs false
set_option maxHeartbeats 16000000
set_option maxRecDepth 100000
namespace Go.Proofs.YteffnejneoocgaaGreatDoor
open Go
section
variable {P:Program} {ops:Array Oper} {Q:Exit→Act→World→Prop} {md:Region.Mode} {S:World→Prop} {late:Nat→Bool}
def aL(n i:Nat):Bool:=decide (n≤i)
def bH(P:Program)(md:Region.Mode)(ops:Array Oper)(Q:Exit→Act→World→Prop)(S:World→Prop)(late:Nat→Bool):Nat→Array Bool→Act→World→Prop
 | 0,listed,a,w=>Region.ready md ops listed=[]∧Q .normal a w
 | fuel+1,listed,a,w =>
  (Region.ready md ops listed=[]→Q .normal a w) ∧
  ∀i∈Region.ready md ops listed,wpOp P ops Q i (fun a' w'=>(late i=false→S w→S w')∧bH P md ops Q S late fuel (listed.setIfInBounds i true) a' w') a w
theorem qD:∀(fuel:Nat) (listed:Array Bool) (a:Act) (w:World),bH P md ops Q S late fuel listed a w→wpAny P md ops Q fuel listed a w
 | 0,_,_,_,h=>h
 | fuel+1,_,_,_,h=>⟨h.1,fun i hi=>wpOp_mono (fun a' w' h'=>qD fuel _ a' w' h'.2) (h.2 i hi)⟩
theorem tU{i f:Nat}{oi:Oper}{v:Value}(hi:ops[i]?=some oi)(hsel:∀(j:Nat) (o:Oper) cs b,ops[j]?=some o→o.op≠.select cs b)
  (hQ:∀c a w,Q (.panic c) (a.put oi.dst v) w→Q (.panic c) a w) (hpn:∀j,j<ops.size→late j=true→i∈sW md ops f [j]) :
  ∀(fuel:Nat) (listed:Array Bool) (a:Act) (w:World),
   (∀j oj,ops[j]?=some oj→j≠i→listed.getD j true=false→(∀e∈oj.after,Region.binds md e=true→e.on≠i)→oi.apart ops oj=true) →
   dD md ops listed→i∈Region.ready md ops listed→YieldsIf P ops S oi v a→S w →
   bH P md ops Q S late fuel (listed.setIfInBounds i true) (a.put oi.dst v) w→bH P md ops Q S late (fuel+1) listed a w:=by
 intro fuel;induction fuel with
 | zero =>
  intro listed a w _ _ hr hy hS H;refine⟨fun h=>(by rw[h] at hr;cases hr),fun j hj=>?_⟩;by_cases hji:j=i
  ·subst hji;exact hy.wpOp hi hS ⟨fun _ h=>h,H⟩
  ·have:=ready_mono hj hji;rw[H.1] at this;cases this
 | succ fuel ih =>
  intro listed a w hfree hd hr hy hS H;refine⟨fun h=>(by rw[h] at hr;cases hr),fun j hj=>?_⟩;by_cases hji:j=i
  ·subst hji;exact hy.wpOp hi hS ⟨fun _ h=>h,H⟩
  ·have h1:=H.2 j (ready_mono hj hji);obtain⟨hjun,oj,hoj,hall⟩:=mem_ready.1 hj;have hiun:listed.getD i false=false:=by
    have h0:=(mem_ready.1 hr).1;rcases Nat.lt_or_ge i listed.size with h' | h'
    ·simp[h'] at h0 ⊢;exact h0
    ·simp[Array.getElem?_eq_none h']
   have hnot:∀e∈oj.after,Region.binds md e=true→e.on≠i:=fun e he hb heq=>by
    have h1:=hall e he hb;rw[heq,hiun] at h1;cases h1
   have hjn:late j=false:=by
    cases hp:late j with
    | false=>rfl
    | true =>
     exfalso
     have hp:=hpn j (Array.getElem?_eq_some_iff.1 hoj).1 hp;have hd':=hd.set hj;have hl:∀k∈[j],(listed.setIfInBounds j true).getD k false=true:=by
      intro k hk;obtain rfl:=List.mem_singleton.1 hk;have hks:k<listed.size:=by
       rcases Nat.lt_or_ge k listed.size with h' | h'
       ·exact h'
       ·simp[Array.getElem?_eq_none h'] at hjun
      simp[hks]
     have:=iV hd' f [j] hl i hp;rw[getD_set_ne false hji,hiun] at this;cases this
   have h2:=wpOp_putIf hoj (hfree j oj hoj hji hjun hnot) (fun cs b=>hsel i oi cs b hi) (fun cs b=>hsel j oj cs b hoj) hQ hy h1;have hfree':∀k ok,ops[k]?=some ok→k≠i→(listed.setIfInBounds j true).getD k true=false →
     (∀e∈ok.after,Region.binds md e=true→e.on≠i)→oi.apart ops ok=true:=fun k ok hk hki hun hno=>by
    refine hfree k ok hk hki ?_ hno;by_cases hjk:j=k
    ·subst hjk;exact hjun
    ·rw[getD_set_ne true hjk] at hun;exact hun
   refine wpOp_mono (fun a' w' h3=>⟨h3.2.1,ih (listed.setIfInBounds j true) a' w' hfree' (hd.set hj) (ready_mono hr (Ne.symm hji)) h3.1 (h3.2.1 hjn hS) ?_⟩) h2;rw[Array.setIfInBounds_comm _ _ hji];exact h3.2.2
theorem rJ{i:Nat}{oi:Oper}{v:Value}(hi:ops[i]?=some oi)(hsel:∀(j:Nat) (o:Oper) cs b,ops[j]?=some o→o.op≠.select cs b)
  (hQ:∀c a w,Q (.panic c) (a.put oi.dst v) w→Q (.panic c) a w) :
  ∀(fuel:Nat) (listed:Array Bool) (a:Act) (w:World),
   (∀j oj,ops[j]?=some oj→j≠i→listed.getD j true=false→(∀e∈oj.after,Region.binds md e=true→e.on≠i)→oi.apart ops oj=true) →
   dD md ops listed→i∈Region.ready md ops listed→YieldsIf P ops (fun _=>True) oi v a →
   bH P md ops Q S late fuel (listed.setIfInBounds i true) (a.put oi.dst v) w→bH P md ops Q S late (fuel+1) listed a w:=by
 intro fuel;induction fuel with
 | zero =>
  intro listed a w _ _ hr hy H;refine⟨fun h=>(by rw[h] at hr;cases hr),fun j hj=>?_⟩;by_cases hji:j=i
  ·subst hji;exact hy.wpOp hi trivial ⟨fun _ h=>h,H⟩
  ·have:=ready_mono hj hji;rw[H.1] at this;cases this
 | succ fuel ih =>
  intro listed a w hfree hd hr hy H;refine⟨fun h=>(by rw[h] at hr;cases hr),fun j hj=>?_⟩;by_cases hji:j=i
  ·subst hji;exact hy.wpOp hi trivial ⟨fun _ h=>h,H⟩
  ·have h1:=H.2 j (ready_mono hj hji);obtain⟨hjun,oj,hoj,hall⟩:=mem_ready.1 hj;have hiun:listed.getD i false=false:=by
    have h0:=(mem_ready.1 hr).1;rcases Nat.lt_or_ge i listed.size with h' | h'
    ·simp[h'] at h0 ⊢;exact h0
    ·simp[Array.getElem?_eq_none h']
   have hnot:∀e∈oj.after,Region.binds md e=true→e.on≠i:=fun e he hb heq=>by
    have h1:=hall e he hb;rw[heq,hiun] at h1;cases h1
   have h2:=wpOp_putIf hoj (hfree j oj hoj hji hjun hnot) (fun cs b=>hsel i oi cs b hi) (fun cs b=>hsel j oj cs b hoj) hQ hy h1;have hfree':∀k ok,ops[k]?=some ok→k≠i→(listed.setIfInBounds j true).getD k true=false →
     (∀e∈ok.after,Region.binds md e=true→e.on≠i)→oi.apart ops ok=true:=fun k ok hk hki hun hno=>by
    refine hfree k ok hk hki ?_ hno;by_cases hjk:j=k
    ·subst hjk;exact hjun
    ·rw[getD_set_ne true hjk] at hun;exact hun
   refine wpOp_mono (fun a' w' h3=>⟨h3.2.1,ih (listed.setIfInBounds j true) a' w' hfree' (hd.set hj) (ready_mono hr (Ne.symm hji)) h3.1 ?_⟩) h2;rw[Array.setIfInBounds_comm _ _ hji];exact h3.2.2
theorem bE{rid:Nat}{a:Act}{w:World}{l:List Oper}(S:World→Prop)(late:Nat→Bool)(hm:P.follows .mixedOrders=true)
  (h:dD .any l.toArray (Array.replicate l.toArray.size false)→bH P .any l.toArray Q S late l.length (Array.replicate l.toArray.size false) a w.drew):(Code.region rid l.toArray true).wp P Q a w:=by
 refine wp_region_any hm (qD (S:=S) (late:=late) _ _ _ _ ?_);simpa using h (jQ _)
theorem oB{i f:Nat}{listed:Array Bool}{a:Act}{w:World}{oi:Oper}{v:Value}(hi:ops[i]?=some oi)
  (hB:(Region.noSelect ops&&Region.free md ops listed i&&(Region.ready md ops listed).contains i&&(List.range ops.size).all fun j=>!late j||(sW md ops ops.size [j]).contains i)=true)
  (hd:dD md ops listed) (hQ:∀c a d v w,Q (.panic c) (Act.put a d v) w→Q (.panic c) a w) (hS:S w)
  (hw:Region.wanted oi (yielded ops a.tmps)=true) (hy:∀w,S w→(execOp a.eval oi).run P w=.ok (.value v) w)
  (h:dD md ops (listed.setIfInBounds i true)→bH P md ops Q S late f (listed.setIfInBounds i true) (a.put oi.dst v) w):bH P md ops Q S late (f+1) listed a w:=by
 simp only[Bool.and_eq_true] at hB
 obtain⟨⟨⟨h1,h2⟩,h3⟩,h4⟩:=hB;have hr:i∈Region.ready md ops listed:=by simpa using h3
 refine tU (f:=ops.size) hi (Region.noSelect_spec h1) (fun c a w=>hQ c a _ _ w) (fun j hj hl=>?_) f listed a w (Region.free_spec hi h2) hd hr (.inl ⟨hw,hy⟩) hS (h (hd.set hr));have:=List.all_eq_true.1 h4 j (List.mem_range.2 hj);rw[hl] at this;simpa using this
theorem aP{i f:Nat}{listed:Array Bool}{a:Act}{w:World}{oi:Oper}{v:Value}(hi:ops[i]?=some oi)
  (hB:(Region.noSelect ops&&Region.free md ops listed i&&(Region.ready md ops listed).contains i)=true)
  (hd:dD md ops listed) (hQ:∀c a d v w,Q (.panic c) (Act.put a d v) w→Q (.panic c) a w)
  (hw:Region.wanted oi (yielded ops a.tmps)=true) (hy:∀w,(execOp a.eval oi).run P w=.ok (.value v) w)
  (h:dD md ops (listed.setIfInBounds i true)→bH P md ops Q S late f (listed.setIfInBounds i true) (a.put oi.dst v) w):bH P md ops Q S late (f+1) listed a w:=by
 simp only[Bool.and_eq_true] at hB
 obtain⟨⟨h1,h2⟩,h3⟩:=hB;have hr:i∈Region.ready md ops listed:=by simpa using h3
 exact rJ hi (Region.noSelect_spec h1) (fun c a w=>hQ c a _ _ w) f listed a w (Region.free_spec hi h2) hd hr (.inl ⟨hw,fun w _=>hy w⟩) (h (hd.set hr))
theorem lB{f:Nat}{listed:Array Bool}{a:Act}{w:World}{L:List Nat}(hd:dD md ops listed)(hL:Region.ready md ops listed=L)(hne:L≠[])
  (h:∀i∈L,(dD md ops (listed.setIfInBounds i true))→wpOp P ops Q i (fun a' w'=>(late i=false→S w→S w')∧bH P md ops Q S late f (listed.setIfInBounds i true) a' w') a w):bH P md ops Q S late (f+1) listed a w:=by
 subst hL;exact⟨fun e=>absurd e hne,fun i hi=>h i hi (hd.set hi)⟩
theorem aS{i f:Nat}{listed:Array Bool}{a:Act}{w:World}{oi:Oper}(hi:ops[i]?=some oi)(hg:oi.guard=none)
  (h:∀K:Act→World→Prop,(∀a w',(late i=false→S w→S w')→bH P md ops Q S late f (listed.setIfInBounds i true) a w'→K a w')→oi.wp P a w K Q) :
  wpOp P ops Q i (fun a' w'=>(late i=false→S w→S w')∧bH P md ops Q S late f (listed.setIfInBounds i true) a' w') a w:=by
 unfold wpOp;simp only[hi]
 rw[if_pos (by simp[Region.wanted,hg])];exact .inl (h _ fun a w h1 h2=>⟨h1,h2⟩)
theorem cL{listed:Array Bool}{a:Act}{w:World}(hL:Region.ready md ops listed=[])(h:Q .normal a w):bH P md ops Q S late 0 listed a w:=⟨hL,h⟩
end
theorem aA{P:Program}{ops:Array Oper}{Q:Exit→Act→World→Prop}{S:World→Prop}{a:Act}{w:World}{oi:Oper}{v:Value}{md:Region.Mode}{late:Nat→Bool}{f:Nat}{listed l':Array Bool}{a':Act}(i:Nat)(hi:ops[i]?=some oi)(hd:dD md ops listed)(hS:S w)(h:dD md ops l'→bH P md ops Q S late f l' a' w)(hB:(Region.noSelect ops&&Region.free md ops listed i&&(Region.ready md ops listed).contains i&&(List.range ops.size).all fun j=>!late j||(sW md ops ops.size [j]).contains i)=true:=by kernel_rfl)(hQ:∀c a d v w,Q (.panic c) (Act.put a d v) w→Q (.panic c) a w:=by intro _ _ d _ _ h;cases d <;> exact h)(hw:Region.wanted oi (yielded ops a.tmps)=true:=by first | with_reducible rfl | kernel_rfl)(hy:∀w,S w→(execOp a.eval oi).run P w=.ok (.value v) w:=by intro wS hS;(try dsimp only at hS);go_split_ands;go_simp;(try with_reducible rfl);done)(e:a.put oi.dst v=a':=by(try simp only[Act.put,gA,gS,gZ,sA,sZ,sS]);first | done | exact rfl)(e2:listed.setIfInBounds i true=l':=by(try simp only[Act.put,gA,gS,gZ,sA,sZ,sS]);first | done | exact rfl):bH P md ops Q S late (f+1) listed a w:=by subst e e2;exact oB hi hB hd hQ hS hw hy h
theorem aO{P:Program}{ops:Array Oper}{Q:Exit→Act→World→Prop}{S:World→Prop}{md:Region.Mode}{late:Nat→Bool}{f:Nat}{listed:Array Bool}{a:Act}{w:World}(hd:dD md ops listed)(i0:Nat)(h0:dD md ops (listed.setIfInBounds i0 true)→wpOp P ops Q i0 (fun a' w'=>(late i0=false→S w→S w')∧bH P md ops Q S late f (listed.setIfInBounds i0 true) a' w') a w)(hL:Region.ready md ops listed=[i0]:=by kernel_rfl):bH P md ops Q S late (f+1) listed a w:=by
  refine lB hd hL (by simp) (fun i hi hd2=>?_);obtain rfl:=List.mem_singleton.1 hi;exact h0 hd2
theorem tV{P:Program}{ops:Array Oper}{Q:Exit→Act→World→Prop}{S:World→Prop}{md:Region.Mode}{late:Nat→Bool}{f:Nat}{listed:Array Bool}{a:Act}{w:World}(hd:dD md ops listed)(i0 i1:Nat)(h0:dD md ops (listed.setIfInBounds i0 true)→wpOp P ops Q i0 (fun a' w'=>(late i0=false→S w→S w')∧bH P md ops Q S late f (listed.setIfInBounds i0 true) a' w') a w)(h1:dD md ops (listed.setIfInBounds i1 true)→wpOp P ops Q i1 (fun a' w'=>(late i1=false→S w→S w')∧bH P md ops Q S late f (listed.setIfInBounds i1 true) a' w') a w)(hL:Region.ready md ops listed=[i0,i1]:=by kernel_rfl):bH P md ops Q S late (f+1) listed a w:=by
  refine lB hd hL (by simp) (fun i hi hd2=>?_);simp only[List.mem_cons,List.not_mem_nil,or_false] at hi
  rcases hi with rfl|rfl
  exact h0 hd2;exact h1 hd2
theorem RC{P:Program}{ops:Array Oper}{Q:Exit→Act→World→Prop}{S:World→Prop}{md:Region.Mode}{late:Nat→Bool}{f:Nat}{listed:Array Bool}{a:Act}{w:World}(hd:dD md ops listed)(i0 i1 i2:Nat)(h0:dD md ops (listed.setIfInBounds i0 true)→wpOp P ops Q i0 (fun a' w'=>(late i0=false→S w→S w')∧bH P md ops Q S late f (listed.setIfInBounds i0 true) a' w') a w)(h1:dD md ops (listed.setIfInBounds i1 true)→wpOp P ops Q i1 (fun a' w'=>(late i1=false→S w→S w')∧bH P md ops Q S late f (listed.setIfInBounds i1 true) a' w') a w)(h2:dD md ops (listed.setIfInBounds i2 true)→wpOp P ops Q i2 (fun a' w'=>(late i2=false→S w→S w')∧bH P md ops Q S late f (listed.setIfInBounds i2 true) a' w') a w)(hL:Region.ready md ops listed=[i0,i1,i2]:=by kernel_rfl):bH P md ops Q S late (f+1) listed a w:=by
  refine lB hd hL (by simp) (fun i hi hd2=>?_);simp only[List.mem_cons,List.not_mem_nil,or_false] at hi
  rcases hi with rfl|rfl|rfl
  exact h0 hd2;exact h1 hd2;exact h2 hd2
theorem RD{P:Program}{ops:Array Oper}{Q:Exit→Act→World→Prop}{S:World→Prop}{md:Region.Mode}{late:Nat→Bool}{f:Nat}{listed:Array Bool}{a:Act}{w:World}(hd:dD md ops listed)(i0 i1 i2 i3:Nat)(h0:dD md ops (listed.setIfInBounds i0 true)→wpOp P ops Q i0 (fun a' w'=>(late i0=false→S w→S w')∧bH P md ops Q S late f (listed.setIfInBounds i0 true) a' w') a w)(h1:dD md ops (listed.setIfInBounds i1 true)→wpOp P ops Q i1 (fun a' w'=>(late i1=false→S w→S w')∧bH P md ops Q S late f (listed.setIfInBounds i1 true) a' w') a w)(h2:dD md ops (listed.setIfInBounds i2 true)→wpOp P ops Q i2 (fun a' w'=>(late i2=false→S w→S w')∧bH P md ops Q S late f (listed.setIfInBounds i2 true) a' w') a w)(h3:dD md ops (listed.setIfInBounds i3 true)→wpOp P ops Q i3 (fun a' w'=>(late i3=false→S w→S w')∧bH P md ops Q S late f (listed.setIfInBounds i3 true) a' w') a w)(hL:Region.ready md ops listed=[i0,i1,i2,i3]:=by kernel_rfl):bH P md ops Q S late (f+1) listed a w:=by
  refine lB hd hL (by simp) (fun i hi hd2=>?_);simp only[List.mem_cons,List.not_mem_nil,or_false] at hi
  rcases hi with rfl|rfl|rfl|rfl
  exact h0 hd2;exact h1 hd2;exact h2 hd2;exact h3 hd2
theorem RE{P:Program}{ops:Array Oper}{Q:Exit→Act→World→Prop}{S:World→Prop}{md:Region.Mode}{late:Nat→Bool}{f:Nat}{listed:Array Bool}{a:Act}{w:World}(hd:dD md ops listed)(i0 i1 i2 i3 i4:Nat)(h0:dD md ops (listed.setIfInBounds i0 true)→wpOp P ops Q i0 (fun a' w'=>(late i0=false→S w→S w')∧bH P md ops Q S late f (listed.setIfInBounds i0 true) a' w') a w)(h1:dD md ops (listed.setIfInBounds i1 true)→wpOp P ops Q i1 (fun a' w'=>(late i1=false→S w→S w')∧bH P md ops Q S late f (listed.setIfInBounds i1 true) a' w') a w)(h2:dD md ops (listed.setIfInBounds i2 true)→wpOp P ops Q i2 (fun a' w'=>(late i2=false→S w→S w')∧bH P md ops Q S late f (listed.setIfInBounds i2 true) a' w') a w)(h3:dD md ops (listed.setIfInBounds i3 true)→wpOp P ops Q i3 (fun a' w'=>(late i3=false→S w→S w')∧bH P md ops Q S late f (listed.setIfInBounds i3 true) a' w') a w)(h4:dD md ops (listed.setIfInBounds i4 true)→wpOp P ops Q i4 (fun a' w'=>(late i4=false→S w→S w')∧bH P md ops Q S late f (listed.setIfInBounds i4 true) a' w') a w)(hL:Region.ready md ops listed=[i0,i1,i2,i3,i4]:=by kernel_rfl):bH P md ops Q S late (f+1) listed a w:=by
  refine lB hd hL (by simp) (fun i hi hd2=>?_);simp only[List.mem_cons,List.not_mem_nil,or_false] at hi
  rcases hi with rfl|rfl|rfl|rfl|rfl
  exact h0 hd2;exact h1 hd2;exact h2 hd2;exact h3 hd2;exact h4 hd2
open Go.RowKit
def eE(N:List Txt)(s:Txt):Nat:=N.findIdx fun t=>decide (t=s)
theorem cW{N:List Txt}{s:Txt}(h:s∈N):N[eE N s]?=some s:=by
 have hl:eE N s<N.length:=List.findIdx_lt_length_of_exists ⟨s,h,by simp⟩;have:=List.findIdx_getElem (p:=fun t=>decide (t=s)) (xs:=N) (w:=hl);rw[gEz hl];exact congrArg some (of_decide_eq_true this)
theorem fY{N:List Txt}{s:Txt}(h:s∈N):eE N s<N.length:=(gO.1 (cW h)).1
theorem rK{N:List Txt}{s:Txt}(h:s ∉ N):eE N s=N.length:=by
 unfold eE;rw[List.findIdx_eq_length];intro t ht;rw[decide_eq_false];rintro rfl;exact h ht
theorem JF{N M:List Txt}{s:Txt}(h:s∈N):eE (N++M) s=eE N s:=by
 have hl:=fY h;unfold eE at hl ⊢;rw[List.findIdx_append,if_pos hl]
theorem rL{N:List Txt}(hd:N.Nodup){s:Txt}{i:Nat}(h:N[i]?=some s):eE N s=i:=by
 have h1:=cW (mG h);obtain⟨a,e⟩:=gO.1 h;obtain⟨b,f⟩:=gO.1 h1;exact(List.getElem_inj hd).1 (f.trans e.symm)
theorem gP{N:List Txt}{s t:Txt}(h:s∈N):eE (dN N t) s=eE N s:=by
 unfold dN;split
 ·rfl
 ·exact JF h
theorem yA(N:List Txt)(s:Txt):eE (dN N s) s=eE N s:=by
 by_cases h:s∈N
 ·exact gP h
 ·unfold dN;rw[if_neg (fun e=>h (bC.1 e)),rK h];unfold eE;rw[List.findIdx_append,if_neg (by have:=rK h;unfold eE at this;omega)];simp
def GW(N:List Txt)(s:Txt):Int:=if inB s N=true then (eE N s:Int)+1 else 0
theorem jW{w:World}{r:Nat}{N:List Txt}(h:bW w Tryz.prog 9 r (kvN N N.length))(s:Txt)(hk:fH s) :
  (Instr.lookup 136 (.map (some r)) (.string s) false).run Tryz.prog w=.ok (.int .i64 (GW N s)) w:=by
 unfold GW;by_cases hs:s∈N
 ·rw[if_pos (bC.2 hs)];exact h.look_hit fU Tryz.underlying136 (BU N N.length _ s (fY hs) (cW hs)) false
 ·rw[if_neg (fun e=>hs (bC.1 e))];exact h.look_miss fU Tryz.underlying136 (lP hk) (fun q hq e=>by
   obtain⟨i,t,hi,ht,rfl⟩:=lO N N.length q hq;simp only[Value.string.injEq] at e
   subst e;exact hs (mG ht)) (by kernel_rfl) false
theorem CY(N M:List Txt):∀k,k≤N.length→kvN (N++M) k=kvN N k
 | 0,_=>rfl
 | k+1,h=>by
  unfold kvN;rw[List.getElem?_append_left (by omega),CY N M k (by omega)]
theorem JG(N:List Txt)(s:Txt):kvN (N++[s]) (N.length+1)=kvN N N.length++[(.string s,.int .i64 ((N.length:Int)+1))]:=by
 rw[kvN,CY N [s] _ (Nat.le_refl _)];simp

inductive Ro
 | p | m | n | o | i
 | oo (k:Nat)
 | ii (k:Nat)
structure GrD where
 r:Nat
 nv:Value
 ov:Value
 iv:Value
 fo:Nat→Value
 fi:Nat→Value
def pL(f:Nat→Value)(n:Nat):List Value:=(List.range n).map f
theorem tW(f:Nat→Value)(n:Nat):pL f (n+1)=pL f n++[f n]:=by simp[pL,List.range_succ]
theorem NZ{f:Nat→Value}{n k:Nat}(h:k<n):(pL f n)[k]?=some (f k):=by simp[pL,h]
structure GrI(w:World)(O:Nat→Option Ro)(p:Nat)(N:List Txt)(U V:Nat→List Hp)(cnt:Int)(D:GrD):Prop where
 blk:Blk w p 139 #[D.nv,.map (some D.r),D.ov,D.iv,.int .i64 cnt]
 map:bW w Tryz.prog 9 D.r (kvN N N.length)
 rn:w.ownsRow 0 9 1 D.nv N.length (aE N)
 ro:w.ownsRow 0 140 1 D.ov N.length (pL D.fo N.length)
 ri:w.ownsRow 0 140 1 D.iv N.length (pL D.fi N.length)
 fo:∀k,w.ownsRow 0 143 2 (D.fo k) (U k).length (aQ (U k))
 fi:∀k,w.ownsRow 0 143 2 (D.fi k) (V k).length (aQ (V k))
 op:O p=some .p
 om:O D.r=some .m
 on:∀k,D.nv.ownBlock=some k→O k=some .n
 oo:∀k,D.ov.ownBlock=some k→O k=some .o
 oi:∀k,D.iv.ownBlock=some k→O k=some .i
 oU:∀j k,(D.fo j).ownBlock=some k→O k=some (.oo j)
 oV:∀j k,(D.fi j).ownBlock=some k→O k=some (.ii j)
 lt:∀k,O k≠none→k<w.heap.size
 out:∀k,N.length≤k→D.fo k=.slice none 0 0∧D.fi k=.slice none 0 0
def sU(w:World)(F:Nat→Prop)(p:Nat)(N:List Txt)(U V:Nat→List Hp)(cnt:Int):Prop:=∃O D,GrI w O p N U V cnt D∧F=fun k=>O k≠none
theorem GrI.upd{w w':World}{O:Nat→Option Ro}{p:Nat}{N:List Txt}{U V:Nat→List Hp}{cnt:Int}{D:GrD}{G:Nat→Prop}(h:GrI w O p N U V cnt D)(hu:Upd G w w')(hd:∀k,O k≠none→¬G k):GrI w' O p N U V cnt D:=by
 have no:∀k t,O k=some t→¬G k:=fun k t e=>hd k (by simp[e])
 exact⟨h.blk.upd hu (no _ _ h.op),h.map.upd hu (no _ _ h.om),aB h.rn hu fun k hk=>no _ _ (h.on k hk),aB h.ro hu fun k hk=>no _ _ (h.oo k hk),aB h.ri hu fun k hk=>no _ _ (h.oi k hk),
  fun j=>aB (h.fo j) hu fun k hk=>no _ _ (h.oU j k hk),fun j=>aB (h.fi j) hu fun k hk=>no _ _ (h.oV j k hk),h.op,h.om,h.on,h.oo,h.oi,h.oU,h.oV,fun k hk=>Nat.lt_of_lt_of_le (h.lt k hk) hu.size,h.out⟩
theorem sU.upd{w w':World}{F G:Nat→Prop}{p:Nat}{N:List Txt}{U V:Nat→List Hp}{cnt:Int}(h:sU w F p N U V cnt)(hu:Upd G w w')(hd:∀k,F k→¬G k):sU w' F p N U V cnt:=by
 obtain⟨O,D,hs,rfl⟩:=h;exact⟨O,D,hs.upd hu hd,rfl⟩
theorem sU.lt{w:World}{F:Nat→Prop}{p:Nat}{N:List Txt}{U V:Nat→List Hp}{cnt:Int}(h:sU w F p N U V cnt):∀k,F k→k<w.heap.size:=by
 obtain⟨O,D,hs,rfl⟩:=h;exact hs.lt
theorem sU.below{w w':World}{F:Nat→Prop}{p:Nat}{N:List Txt}{U V:Nat→List Hp}{cnt:Int}(h:sU w F p N U V cnt)(hb:Below w.heap.size w w'):sU w' F p N U V cnt:=h.upd (upF hb) (fun _ _=>id)
def jE(w:World)(F:Nat→Prop)(p:Nat)(N:List Txt)(U V:Nat→List Hp)(cnt:Int)(w':World):Prop:=
 ∃F',sU w' F' p N U V cnt∧Upd F w w'∧∀k,F' k→F k∨w.heap.size≤k
theorem jE.refl{w w':World}{F:Nat→Prop}{p:Nat}{N:List Txt}{U V:Nat→List Hp}{cnt:Int}(h:sU w F p N U V cnt)(hb:Below w.heap.size w w'):jE w F p N U V cnt w':=
 ⟨F,h.below hb,Upd.of_below hb F,fun _ hk=>.inl hk⟩
theorem GrI.grow{w w':World}{O:Nat→Option Ro}{p:Nat}{N:List Txt}{U V:Nat→List Hp}{cnt:Int}{D:GrD}(h:GrI w O p N U V cnt D)(s:Txt)(nv ov iv:Value)(B1 B2:Nat)(hB1:w.heap.size≤B1)(hB2:B1≤B2)
  (hu:Upd (fun k=>k=p∨k=D.r∨D.nv.ownBlock=some k∨D.ov.ownBlock=some k∨D.iv.ownBlock=some k) w w') (hb:Blk w' p 139 #[nv,.map (some D.r),ov,iv,.int .i64 cnt])
  (hm:bW w' Tryz.prog 9 D.r (kvN N N.length++[(.string s,.int .i64 ((N.length:Int)+1))]))
  (rn:w'.ownsRow 0 9 1 nv (N.length+1) (aE N++[.string s])) (ro:w'.ownsRow 0 140 1 ov (N.length+1) (pL D.fo N.length++[.slice none 0 0])) (ri:w'.ownsRow 0 140 1 iv (N.length+1) (pL D.fi N.length++[.slice none 0 0]))
  (pn:∀k,nv.ownBlock=some k→D.nv.ownBlock=some k∨w.heap.size≤k∧k<B1) (po:∀k,ov.ownBlock=some k→D.ov.ownBlock=some k∨B1≤k∧k<B2) (pi:∀k,iv.ownBlock=some k→D.iv.ownBlock=some k∨B2≤k) :
  jE w (fun k=>O k≠none) p (N++[s]) U V cnt w':=by
 have no:∀k t,O k=some t→(t=Ro.p→False)→(t=Ro.m→False)→(t=Ro.n→False)→(t=Ro.o→False)→(t=Ro.i→False)→¬(k=p∨k=D.r∨D.nv.ownBlock=some k∨D.ov.ownBlock=some k∨D.iv.ownBlock=some k):=by
  rintro k t e h1 h2 h3 h4 h5 (rfl|rfl|hk|hk|hk)
  ·rw[h.op] at e;injection e with e;exact h1 e.symm
  ·rw[h.om] at e;injection e with e;exact h2 e.symm
  ·rw[h.on k hk] at e;injection e with e;exact h3 e.symm
  ·rw[h.oo k hk] at e;injection e with e;exact h4 e.symm
  ·rw[h.oi k hk] at e;injection e with e;exact h5 e.symm
 have fresh:∀k,w.heap.size≤k→O k=none:=fun k hk=>by
  cases e:O k with
  | none=>rfl
  | some t=>have:=h.lt k (by simp[e]);omega
 have hn:∀k,nv.ownBlock=some k→O k=some .n∨O k=none∧w.heap.size≤k∧k<B1:=fun k hk=>by
  rcases pn k hk with h1|⟨h1,h2⟩
  ·exact .inl (h.on k h1)
  ·exact .inr ⟨fresh k h1,h1,h2⟩
 have ho:∀k,ov.ownBlock=some k→O k=some .o∨O k=none∧B1≤k∧k<B2:=fun k hk=>by
  rcases po k hk with h1|⟨h1,h2⟩
  ·exact .inl (h.oo k h1)
  ·exact .inr ⟨fresh k (by omega),h1,h2⟩
 have hi:∀k,iv.ownBlock=some k→O k=some .i∨O k=none∧B2≤k:=fun k hk=>by
  rcases pi k hk with h1|h1
  ·exact .inl (h.oi k h1)
  ·exact .inr ⟨fresh k (by omega),h1⟩
 have keep:∀k t,O k=some t→(t=Ro.n→False)→(t=Ro.o→False)→(t=Ro.i→False)→(if nv.ownBlock=some k then some Ro.n else if ov.ownBlock=some k then some Ro.o else if iv.ownBlock=some k then some Ro.i else O k)=some t:=by
  intro k t e h1 h2 h3;rw[if_neg,if_neg,if_neg,e]
  ·intro hk;rcases hi k hk with h4|h4
   ·rw[e] at h4;injection h4 with h4;exact h3 h4
   ·rw[e] at h4;cases h4.1
  ·intro hk;rcases ho k hk with h4|h4
   ·rw[e] at h4;injection h4 with h4;exact h2 h4
   ·rw[e] at h4;cases h4.1
  ·intro hk;rcases hn k hk with h4|h4
   ·rw[e] at h4;injection h4 with h4;exact h1 h4
   ·rw[e] at h4;cases h4.1
 refine⟨fun k=>(if nv.ownBlock=some k then some Ro.n else if ov.ownBlock=some k then some Ro.o else if iv.ownBlock=some k then some Ro.i else O k)≠none,⟨fun k=>if nv.ownBlock=some k then some Ro.n else if ov.ownBlock=some k then some Ro.o else if iv.ownBlock=some k then some Ro.i else O k,⟨D.r,nv,ov,iv,D.fo,D.fi⟩,⟨hb,?_,?_,?_,?_,fun j=>aB (h.fo j) hu fun k hk=>no _ _ (h.oU j k hk) nofun nofun nofun nofun nofun,fun j=>aB (h.fi j) hu fun k hk=>no _ _ (h.oV j k hk) nofun nofun nofun nofun nofun,?_,?_,?_,?_,?_,?_,?_,?_,?_⟩,rfl⟩,hu.mono ?_,?_⟩
 ·dsimp only
  rw[List.length_append,List.length_singleton,JG];exact hm
 ·dsimp only
  rw[List.length_append,List.length_singleton,aE,List.map_append];exact rn
 ·dsimp only
  rw[List.length_append,List.length_singleton,tW,(h.out _ (Nat.le_refl _)).1];exact ro
 ·dsimp only
  rw[List.length_append,List.length_singleton,tW,(h.out _ (Nat.le_refl _)).2];exact ri
 ·exact keep p _ h.op nofun nofun nofun
 ·exact keep _ _ h.om nofun nofun nofun
 ·intro k hk;exact if_pos hk
 ·intro k hk;(try dsimp only at hk ⊢)
  rw[if_neg,if_pos hk];intro e;rcases hn k e with h1|⟨h1,h2,h3⟩ <;> rcases ho k hk with h4|⟨h4,h5,h6⟩
  ·rw[h1] at h4;cases h4
  ·rw[h1] at h4;cases h4
  ·rw[h1] at h4;cases h4
  ·omega
 ·intro k hk;(try dsimp only at hk ⊢)
  rw[if_neg,if_neg,if_pos hk]
  ·intro e;rcases ho k e with h1|⟨h1,h2,h3⟩ <;> rcases hi k hk with h4|⟨h4,h5⟩
   ·rw[h1] at h4;cases h4
   ·rw[h1] at h4;cases h4
   ·rw[h1] at h4;cases h4
   ·omega
  ·intro e;rcases hn k e with h1|⟨h1,h2,h3⟩ <;> rcases hi k hk with h4|⟨h4,h5⟩
   ·rw[h1] at h4;cases h4
   ·rw[h1] at h4;cases h4
   ·rw[h1] at h4;cases h4
   ·omega
 ·intro j k hk;exact keep k _ (h.oU j k hk) nofun nofun nofun
 ·intro j k hk;exact keep k _ (h.oV j k hk) nofun nofun nofun
 ·intro k hk;(try dsimp only at hk)
  by_cases h1:nv.ownBlock=some k
  ·exact(rn.lt k h1).2
  rw[if_neg h1] at hk;by_cases h2:ov.ownBlock=some k
  ·exact(ro.lt k h2).2
  rw[if_neg h2] at hk;by_cases h3:iv.ownBlock=some k
  ·exact(ri.lt k h3).2
  rw[if_neg h3] at hk;exact Nat.lt_of_lt_of_le (h.lt k hk) hu.size
 ·intro k hk;rw[List.length_append,List.length_singleton] at hk;exact h.out k (by omega)
 ·rintro k-(rfl|rfl|hk|hk|hk)
  ·rw[h.op];nofun
  ·rw[h.om];nofun
  ·rw[h.on k hk];nofun
  ·rw[h.oo k hk];nofun
  ·rw[h.oi k hk];nofun
 ·intro k hk;(try dsimp only at hk ⊢)
  by_cases h1:nv.ownBlock=some k
  ·rcases hn k h1 with h2|h2
   ·rw[h2];exact .inl nofun
   ·exact .inr h2.2.1
  rw[if_neg h1] at hk;by_cases h2:ov.ownBlock=some k
  ·rcases ho k h2 with h2|h2
   ·rw[h2];exact .inl nofun
   ·exact .inr (by omega)
  rw[if_neg h2] at hk;by_cases h3:iv.ownBlock=some k
  ·rcases hi k h3 with h2|h2
   ·rw[h2];exact .inl nofun
   ·exact .inr (by omega)
  rw[if_neg h3] at hk;exact .inl hk
open Go.RowKit
def TJ(w:World)(F:Nat→Prop)(p:Nat)(N:List Txt)(U V:Nat→List Hp)(cnt:Int)(s:Txt)(e:Ending)(w':World):Prop:=e=.returned (.int .i64 (eE N s))∧jE w F p (dN N s) U V cnt w'
theorem gQ:(Tryz.prog.info? 140).map (fun i=>(i.zero,i.size,i.bytes))=some (some (.slice none 0 0),1,24):=by kernel_rfl
theorem lU{w:World}{g:Nat}{t:TypeId}{v:Value}(h:Blk w g t #[v]):aX w (some ⟨g,0,none⟩) [v]:=fun j u hj=>⟨g,0,rfl,by rw[Nat.zero_add,h.cell j];simpa using hj⟩
theorem rM{w w3 V V':World}{O:Nat→Option Ro}{p r n b w2s:Nat}{N:List Txt}{U Vv:Nat→List Hp}{s:Txt}{cnt:Int}{A0 A1 A2 A3 B2 B3:Option Addr}{c0 c1 c2 c3 d2 d3:Nat}{fo fi:Nat→Value}
  (hg:GrI w O p N U Vv cnt ⟨r,.slice A0 N.length c0,.slice A2 N.length c2,.slice A3 N.length c3,fo,fi⟩) (hn:N.length=n)
  (k3:Blk w3 p 139 #[Value.slice A1 (n+1) c1,.map (some r),Value.slice A2 n c2,Value.slice A3 n c3,.int .i64 cnt]) (m3:bW w3 Tryz.prog 9 r (kvN N n++[(.string s,.int .i64 ((n:Int)+1))])) (n3:w3.ownsRow 0 9 1 (.slice A1 (n+1) c1) (n+1) (aE N++[.string s]))
  (ut3:Upd (fun k=>k=p∨k=r∨(Value.slice A0 n c0).ownBlock=some k∨(Value.slice A2 n c2).ownBlock=some k∨(Value.slice A3 n c3).ownBlock=some k) w w3)
  (pn:∀k,(Value.slice A1 (n+1) c1).ownBlock=some k→(Value.slice A0 n c0).ownBlock=some k∨w.heap.size≤k∧k<w2s) (hw2:w2s≤w3.heap.size)
  (h1:(Value.slice A1 (n+1) c1).ownBlock≠some r) (h2:(Value.slice A1 (n+1) c1).ownBlock≠some p) (h3:r≠p) (h4:∀k,(Value.slice A2 n c2).ownBlock=some k→k≠p∧k≠r∧k<w.heap.size) (h5:∀k,(Value.slice A3 n c3).ownBlock=some k→k≠p∧k≠r∧k<w.heap.size) (h6:∀k,(Value.slice A2 n c2).ownBlock=some k→(Value.slice A3 n c3).ownBlock=some k→False)
  (hj:Upd (fun k=>(Value.slice A2 n c2).ownBlock=some k) w3 V) (o2:V.ownsRow 0 140 1 (.slice B2 (n+1) d2) (n+1) (pL fo n++[.slice none 0 0])) (p2:∀k,(Value.slice B2 (n+1) d2).ownBlock=some k→(Value.slice A2 n c2).ownBlock=some k∨b≤k) (hb:w3.heap.size≤b)
  (o6:V'.ownsRow 0 140 1 (.slice B3 (n+1) d3) (n+1) (pL fi n++[.slice none 0 0])) (u6:Upd (fun k=>(Value.slice A3 n c3).ownBlock=some k) V V') (p6:∀k,(Value.slice B3 (n+1) d3).ownBlock=some k→(Value.slice A3 n c3).ownBlock=some k∨V.heap.size≤k) :
  Hid (Blk V' p 139 #[Value.slice A1 (n+1) c1,.map (some r),Value.slice A2 n c2,Value.slice A3 n c3,.int .i64 cnt]∧jE w (fun k=>O k≠none) p (N++[s]) U Vv cnt ((V'.setCell ⟨p,2,none⟩ (.slice B2 (n+1) d2)).setCell ⟨p,3,none⟩ (.slice B3 (n+1) d3)) ∧
   (Instr.lookup 136 (.map (some r)) (.string s) false).run Tryz.prog ((V'.setCell ⟨p,2,none⟩ (.slice B2 (n+1) d2)).setCell ⟨p,3,none⟩ (.slice B3 (n+1) d3))=.ok (.int .i64 ((n:Int)+1)) ((V'.setCell ⟨p,2,none⟩ (.slice B2 (n+1) d2)).setCell ⟨p,3,none⟩ (.slice B3 (n+1) d3)) ∧
   ((V'.setCell ⟨p,2,none⟩ (.slice B2 (n+1) d2)).setCell ⟨p,3,none⟩ (.slice B3 (n+1) d3)).cell? ⟨p,1,none⟩=some (.map (some r))):=by
 subst hn;have hs3:=ut3.size;have hsV:=hj.size;have hp:=hg.lt p (by rw[hg.op];nofun);have nB2:∀k,(Value.slice B2 (N.length+1) d2).ownBlock=some k→k≠p∧k<V.heap.size∧¬(Value.slice A3 N.length c3).ownBlock=some k:=fun k hk=>by
  refine⟨?_,(o2.lt k hk).2,?_⟩
  ·rintro rfl;rcases p2 _ hk with h|h
   ·exact(h4 _ h).1 rfl
   ·omega
  ·intro h;rcases p2 _ hk with h' | h'
   ·exact h6 _ h' h
   ·have:=(h5 _ h).2.2;omega
 have kV':=(k3.upd hj (fun e=>(h4 _ e).1 rfl)).upd u6 (fun e=>(h5 _ e).1 rfl);have mV':=(m3.upd hj (fun e=>(h4 _ e).2.1 rfl)).upd u6 (fun e=>(h5 _ e).2.1 rfl);have nA1:∀k,(Value.slice A1 (N.length+1) c1).ownBlock=some k→¬(Value.slice A2 N.length c2).ownBlock=some k∧¬(Value.slice A3 N.length c3).ownBlock=some k:=fun k hk=>by
  rcases pn k hk with h|h
  ·have hr:=hg.on k h;exact⟨fun e=>(by rw[hg.oo k e] at hr;cases hr),fun e=>(by rw[hg.oi k e] at hr;cases hr)⟩
  ·exact⟨fun e=>(by have:=(h4 k e).2.2;omega),fun e=>(by have:=(h5 k e).2.2;omega)⟩
 have nV':=aB (aB n3 hj (fun k hk=>(nA1 k hk).1)) u6 (fun k hk=>(nA1 k hk).2);have oV':=aB o2 u6 (fun k hk=>(nB2 k hk).2.2);have nB3:∀k,(Value.slice B3 (N.length+1) d3).ownBlock=some k→k≠p:=fun k hk=>by
  rintro rfl;rcases p6 _ hk with h|h
  ·exact(h5 _ h).1 rfl
  ·omega
 have us:=((Upd.refl (fun k=>k=p) V').setCell (p:=⟨p,2,none⟩) (.inl rfl) (.slice B2 (N.length+1) d2)).setCell (p:=⟨p,3,none⟩) (.inl rfl) (.slice B3 (N.length+1) d3);have kz:=(kV'.set 2 (.slice B2 (N.length+1) d2)).set 3 (.slice B3 (N.length+1) d3);have mz:=mV'.upd us h3;have utz:=((ut3.trans hj (fun k h=>.inl (.inr (.inr (.inr (.inl h)))))).trans u6 (fun k h=>.inl (.inr (.inr (.inr (.inr h)))))).trans us (fun k h=>.inl (.inl h));refine hIz ⟨kV',?_,?_,kz.cell 1⟩
 ·exact hg.grow s _ _ _ w3.heap.size V.heap.size hs3 hsV utz kz mz (aB nV' us (fun k hk e=>h2 (by rw[hk,e]))) (aB oV' us (fun k hk=>(nB2 k hk).1)) (aB o6 us nB3)
   (fun k hk=>(pn k hk).imp id fun h=>⟨h.1,by omega⟩) (fun k hk=>(p2 k hk).imp id fun h=>⟨by omega,(nB2 k hk).2.1⟩) p6
 ·exact mz.look_hit fU Tryz.underlying136 (List.mem_append.2 (.inr (List.mem_singleton.2 rfl))) false
theorem rN(w:World)(F:Nat→Prop)(p:Nat)(N:List Txt)(U V:Nat→List Hp)(cnt:Int)(s:Txt)(h:sU w F p N U V cnt)(hk:fH s)(hl:N.length≤1000000) :
  Calls Tryz.prog 37 #[.pointer (some ⟨p,0,none⟩),.string s] w (TJ w F p N U V cnt s):=by
 by_cases hs:s∈N
 ·have hadd:dN N s=N:=by unfold dN;rw[if_pos (bC.2 hs)]
  have FIN:=hIz (show jE w F p (dN N s) U V cnt w from by rw[hadd];exact jE.refl h bR);obtain⟨O,D,hg,rfl⟩:=h;have l0:=jW hg.map s hk;have q1:w.cell? ⟨p,1,none⟩=some (.map (some D.r)):=hg.blk.cell 1;obtain⟨k,hk2⟩:∃k,eE N s=k:=⟨_,rfl⟩;have hkl:k≤1000000:=by have:=fY hs;omega
  have hnum:GW N s=(k:Int)+1:=by unfold GW;rw[if_pos (bC.2 hs),hk2]
  rw[hnum] at l0;have hz:((k:Int)+1==0)=false:=by simp;omega
  have hw:IntKind.i64.wrap (((k:Int)+1)-1)=(k:Int):=by rw[IntKind.wrap_i64];omega
  have HK:=hIz hk2;clear hg hnum hadd hs;go_enter Tryz.func37,Tryz.ntmps37;go_wp2;go_ret;exact⟨by rw[HK.out];rfl,FIN.out⟩
 ·have hadd:dN N s=N++[s]:=by unfold dN;rw[if_neg (fun e=>hs (bC.1 e))]
  have hidx:=rK hs;have hnum:GW N s=0:=by unfold GW;rw[if_neg (fun e=>hs (bC.1 e))]
  obtain⟨O,⟨r,v0,v2,v3,fo,fi⟩,hg,rfl⟩:=h;obtain⟨A0,c0,e0,-,-⟩:=aK hg.rn;dsimp only at e0
  subst e0;obtain⟨A2,c2,e0,-,-⟩:=aK hg.ro;dsimp only at e0
  subst e0;obtain⟨A3,c3,e0,-,-⟩:=aK hg.ri;dsimp only at e0
  subst e0;have l0:=jW hg.map s hk;rw[hnum] at l0;have hlt:=hg.lt;have lt:∀k t,O k=some t→k<w.heap.size:=fun k t e=>hlt k (by simp[e])
  have hom:O r=some .m:=hg.om;-- the names
  obtain⟨nv,w1,happ1,own1,up1,pl1⟩:=cI w 0 25 9 1 16 _ Tryz.underlying25 cH rfl (by decide) (Value.slice A0 N.length c0) N.length _ hg.rn [.string s] 1 rfl (by simp;rfl) (by omega) (by unfold maxLen;omega) (Nat.zero_le _);obtain⟨A1,c1,rfl,-,-⟩:=aK own1;have kb1:=hg.blk.upd up1 (fun e=>by have:=hg.on _ e;rw[hg.op] at this;cases this);have km1:=hg.map.upd up1 (fun e=>by have:=hg.on _ e;rw[hom] at this;cases this);have ko1:=aB hg.ro up1 (fun k e f=>by have:=hg.on _ f;rw[hg.oo k e] at this;cases this);have ki1:=aB hg.ri up1 (fun k e f=>by have:=hg.on _ f;rw[hg.oi k e] at this;cases this);have np1:(Value.slice A1 (N.length+1) c1).ownBlock≠some p:=fun e=>by
   rcases pl1 p e with h|h
   ·have:=hg.on _ h;rw[hg.op] at this;cases this
   ·have:=lt _ _ hg.op;omega
  have nr1:(Value.slice A1 (N.length+1) c1).ownBlock≠some r:=fun e=>by
   rcases pl1 _ e with h|h
   ·have:=hg.on _ h;rw[hom] at this;cases this
   ·have:=lt _ _ hom;omega
  have rp:r≠p:=fun e=>by have:=hom;rw[e,hg.op] at this;cases this
  have no:∀k,(Value.slice A2 N.length c2).ownBlock=some k→k≠p∧k≠r∧k<w.heap.size:=fun k hk=>⟨fun e=>(by have:=hg.oo k hk;rw[e,hg.op] at this;cases this),fun e=>(by have:=hg.oo k hk;rw[e,hom] at this;cases this),lt _ _ (hg.oo k hk)⟩
  have ni:∀k,(Value.slice A3 N.length c3).ownBlock=some k→k≠p∧k≠r∧k<w.heap.size:=fun k hk=>⟨fun e=>(by have:=hg.oi k hk;rw[e,hg.op] at this;cases this),fun e=>(by have:=hg.oi k hk;rw[e,hom] at this;cases this),lt _ _ (hg.oi k hk)⟩
  have noi:∀k,(Value.slice A2 N.length c2).ownBlock=some k→(Value.slice A3 N.length c3).ownBlock=some k→False:=fun k h1 h2=>by have:=hg.oo k h1;rw[hg.oi k h2] at this;cases this
  have kb2:=kb1.set 0 (Value.slice A1 (N.length+1) c1);have us:=(Upd.refl (fun k=>k=p) w1).setCell (p:=⟨p,0,none⟩) (.inl rfl) (Value.slice A1 (N.length+1) c1);have km2:=km1.upd us rp;have ko2:=aB ko1 us (fun k hk=>(no k hk).1);have ki2:=aB ki1 us (fun k hk=>(ni k hk).1);have kn2:=aB own1 us (fun k hk e=>np1 (by rw[hk,e]));have up2:Upd (fun k=>k=p∨k=r∨(Value.slice A0 N.length c0).ownBlock=some k∨(Value.slice A2 N.length c2).ownBlock=some k∨(Value.slice A3 N.length c3).ownBlock=some k) w (w1.setCell ⟨p,0,none⟩ (Value.slice A1 (N.length+1) c1)):=(up1.mono (fun k _ h=>.inr (.inr (.inl h)))).trans us (fun k h=>.inl (.inl h));have bn:∀k,(Value.slice A1 (N.length+1) c1).ownBlock=some k→(Value.slice A0 N.length c0).ownBlock=some k∨w.heap.size≤k∧k<(w1.setCell ⟨p,0,none⟩ (Value.slice A1 (N.length+1) c1)).heap.size:=fun k hk=>by
   rcases pl1 k hk with h|h
   ·exact .inl h
   ·exact .inr ⟨h,(kn2.lt k hk).2⟩
  have q0:w.cell? ⟨p,0,none⟩=some (Value.slice A0 N.length c0):=hg.blk.cell 0;have q1:w.cell? ⟨p,1,none⟩=some (.map (some r)):=hg.blk.cell 1;have r0:w1.cell? ⟨p,0,none⟩=some (Value.slice A0 N.length c0):=kb1.cell 0;have f0:w1.frozen? ⟨p,0,none⟩=false:=kb1.frozen 0;have HG:=aI3 hg hadd hidx;clear hom;have HX:=aI7 (show Blk (w1.setCell ⟨p,0,none⟩ (Value.slice A1 (N.length+1) c1)) p 139 #[Value.slice A1 (N.length+1) c1,.map (some r),Value.slice A2 N.length c2,Value.slice A3 N.length c3,.int .i64 cnt] from kb2) km2 kn2 ko2 ki2 up2 bn;have HN:=aI6 nr1 np1 rp no ni noi;clear hg hadd hidx kb2 km2 kn2 ko2 ki2 up2 bn nr1 np1 rp no ni noi kb1 km1 ko1 ki1 us own1 up1 pl1 hnum hlt lt;obtain⟨n,hn⟩:∃n,N.length=n:=⟨_,rfl⟩;rw[hn] at hl happ1 HX HN q0 r0;have HL:=hIz hn;clear hn;go_enter Tryz.func37,Tryz.ntmps37;go_upto_region 3 with (at_builtin;refine wpList_append_run rfl _ _ _ rfl rfl rfl happ1 ?_);generalize w1.setCell ⟨p,0,none⟩ (Value.slice A1 (n+1) c1)=W2 at HX ⊢;clear q0 q1 r0 f0 l0 happ1;obtain⟨w3,hrun,hm3,hg3,hz3⟩:=(bW.drew HX.out.2.1).put_miss fU Tryz.underlying136 (.int .i64 ((n:Int)+1)) (lP hk) (fun q hq e=>by
   obtain⟨i,t,hi,ht,rfl⟩:=lO N _ q hq;simp only[Value.string.injEq] at e
   subst e;exact hs (mG ht))
  have u3:Upd (fun k=>k=r) W2 w3:=(Upd.refl (fun k=>k=r) W2).drew.grown hg3 (fun k e=>.inl (by injection e with e;exact e.symm));have kb3:=HX.out.1.upd u3 (fun e=>HN.out.2.2.1 e.symm);have kn3:=aB HX.out.2.2.1 u3 (fun k hk e=>HN.out.1 (by rw[hk,e]));have ko3:=aB HX.out.2.2.2.1 u3 (fun k hk=>(HN.out.2.2.2.1 k hk).2.1);have ki3:=aB HX.out.2.2.2.2.1 u3 (fun k hk=>(HN.out.2.2.2.2.1 k hk).2.1);have ut3:=HX.out.2.2.2.2.2.1.trans u3 (fun k h=>.inl (.inr (.inl h)));have H3:=aI7 kb3 hm3 kn3 ko3 ki3 ut3 u3.size;have hS:W2.drew.cell? ⟨p,0,none⟩=some (.slice A1 (n+1) c1)∧W2.drew.cell? ⟨p,1,none⟩=some (.map (some r)):=⟨HX.out.1.cell 0,HX.out.1.cell 1⟩;clear hg3 hz3 u3 kb3 hm3 kn3 ko3 ki3 ut3;refine aF (fun W=>W.cell? ⟨p,0,none⟩=some (.slice A1 (n+1) c1)∧W.cell? ⟨p,1,none⟩=some (.map (some r))) 10 [(0,true),(1,true),(2,true),(3,true),(4,true),(5,true),(6,true),(7,true),(8,true),(9,true),(10,false)] hS ?_;generalize W2.drew=V2 at hrun hS ⊢
  iterate 10 refine aC rfl ?_
  refine aM rfl rfl (fun K hK=>?_);go_simp;refine hK _ _ (fun h=>absurd rfl h) ?_;clear hK K hS hrun V2;(try simp only[Act.put,gA,gS,gZ,sA,sZ,sS])
  refine aG ?_;go_upto_region 4 with (fail);have KS:=hIz (show ∀V,Upd (fun k=>(Value.slice A2 n c2).ownBlock=some k) w3 V→V.cell? ⟨p,2,none⟩=some (.slice A2 n c2)∧V.cell? ⟨p,3,none⟩=some (.slice A3 n c3) from fun V hv=>by
   have kb:=H3.out.1.upd hv (fun e=>(HN.out.2.2.2.1 _ e).1 rfl);exact⟨kb.cell 2,kb.cell 3⟩)
  have hS:w3.drew.cell? ⟨p,2,none⟩=some (.slice A2 n c2)∧w3.drew.cell? ⟨p,3,none⟩=some (.slice A3 n c3):=KS.out _ (Upd.refl _ _).drew;refine bE (fun W=>W.cell? ⟨p,2,none⟩=some (.slice A2 n c2)∧W.cell? ⟨p,3,none⟩=some (.slice A3 n c3)) (aL 16) (by kernel_rfl) ?_;have HJ0:=hIz (show Upd (fun _=>False) w3 w3.drew from(Upd.refl _ w3).drew);generalize w3.drew=V0 at HJ0 hS ⊢;intro hd;(refine aA 0 rfl hd hS ?_;clear hd;intro hd;(try simp only[Act.put,gA,gZ,sA,sZ,sS]))
  (refine aP (i:=1) (v:=?_) rfl (by kernel_rfl) hd (fun _ _ d _ _ h=>by cases d <;> exact h) (by first | with_reducible rfl | kernel_rfl) ?_ ?_;rotate_left;(focus (intro wS;go_simp;(try with_reducible rfl);done));clear hd;intro hd;(try simp only[Act.put,gA,gS,gZ,sA,sZ,sS]))
  refine aA 2 rfl hd hS ?_;clear hd;intro hd;refine aA 3 rfl hd hS ?_;clear hd;intro hd;refine aA 4 rfl hd hS ?_;clear hd;intro hd;refine aA 5 rfl hd hS ?_;clear hd;intro hd;refine aA 8 rfl hd hS ?_;clear hd;intro hd;refine aA 9 rfl hd hS ?_;clear hd;intro hd;refine aA 10 rfl hd hS ?_;clear hd;intro hd;refine aA 11 rfl hd hS ?_;clear hd;intro hd;clear hS;refine tV hd 6 12 ?_ ?_<;>(clear hd;intro hd)
  ·skip
   have koV1:=Blk.new V0 140 #[.slice none 0 0];have HJ1:=hIz ((HJ0.out).alloc (.cells #[.slice none 0 0] 140));have HBo1:=hIz koV1;clear koV1;refine aS (S:=fun W=>W.cell? ⟨p,2,none⟩=some (.slice A2 n c2)∧W.cell? ⟨p,3,none⟩=some (.slice A3 n c3)) (late:=aL 16) rfl rfl (fun K hK=>?_);go_simp;refine hK _ _ (fun _ _=>KS.out _ (HJ1.out.mono (fun _ _ h=>by first | exact h.elim | exact h))) ?_;clear hK K;(try simp only[Act.put,gA,gS,gZ,sA,sZ,sS])
   have hS:(V0.alloc (.cells #[.slice none 0 0] 140)).cell? ⟨p,2,none⟩=some (.slice A2 n c2)∧(V0.alloc (.cells #[.slice none 0 0] 140)).cell? ⟨p,3,none⟩=some (.slice A3 n c3):=KS.out _ (HJ1.out.mono (fun _ _ h=>by first | exact h.elim | exact h));generalize V0.alloc (.cells #[.slice none 0 0] 140)=V1 at HJ1 HBo1 hS ⊢;clear hS;refine tV hd 7 12 ?_ ?_<;>(clear hd;intro hd)
   ·skip
    obtain⟨B2,d2,V2,happ,o6,u6,p6⟩:=dR V1 0 137 140 1 24 _ Tryz.underlying137 gQ rfl (by decide) (by decide) A2 n c2 (pL fo n) (aB H3.out.2.2.2.1 HJ1.out (fun _ _ h=>h)) (some ⟨V0.heap.size,0,none⟩) 1 1 [.slice none 0 0] (lU HBo1.out) rfl (by simp;rfl) (by omega) (Nat.zero_le _);have HJ2:=hIz (show Upd (fun k=>(Value.slice A2 n c2).ownBlock=some k) w3 V2 from(HJ1.out.mono (fun _ _ h=>h.elim)).trans u6 (fun k h=>.inl h));have HO:=aI3 o6 p6 (show w3.heap.size≤V1.heap.size from HJ1.out.size);clear o6 u6 p6;refine aS (S:=fun W=>W.cell? ⟨p,2,none⟩=some (.slice A2 n c2)∧W.cell? ⟨p,3,none⟩=some (.slice A3 n c3)) (late:=aL 16) rfl rfl (fun K hK=>?_);refine bX _ _ _ rfl rfl rfl happ ?_;refine hK _ _ (fun _ _=>KS.out _ HJ2.out) ?_;clear hK K happ;(try simp only[Act.put,gA,gS,gZ,sA,sZ,sS])
    refine aO hd 12 ?_;clear hd;intro hd;have kiV3:=Blk.new V2 140 #[.slice none 0 0];have HJ3:=hIz ((HJ2.out).alloc (.cells #[.slice none 0 0] 140));have HO:=aI2 (HO.out.1.alloc (.cells #[.slice none 0 0] 140)) HO.out.2;have HBi3:=hIz kiV3;clear kiV3;refine aS (S:=fun W=>W.cell? ⟨p,2,none⟩=some (.slice A2 n c2)∧W.cell? ⟨p,3,none⟩=some (.slice A3 n c3)) (late:=aL 16) rfl rfl (fun K hK=>?_);go_simp;refine hK _ _ (fun _ _=>KS.out _ (HJ3.out.mono (fun _ _ h=>by first | exact h.elim | exact h))) ?_;clear hK K;(try simp only[Act.put,gA,gS,gZ,sA,sZ,sS])
    have hS:(V2.alloc (.cells #[.slice none 0 0] 140)).cell? ⟨p,2,none⟩=some (.slice A2 n c2)∧(V2.alloc (.cells #[.slice none 0 0] 140)).cell? ⟨p,3,none⟩=some (.slice A3 n c3):=KS.out _ (HJ3.out.mono (fun _ _ h=>by first | exact h.elim | exact h));generalize V2.alloc (.cells #[.slice none 0 0] 140)=V3 at HJ3 HBi3 HO hS ⊢;clear hS;refine aO hd 13 ?_;clear hd;intro hd;obtain⟨B3,d3,V4,happ,o6,u6,p6⟩:=dR V3 0 137 140 1 24 _ Tryz.underlying137 gQ rfl (by decide) (by decide) A3 n c3 (pL fi n) (aB H3.out.2.2.2.2.1 HJ3.out (fun k h1 h2=>HN.out.2.2.2.2.2 k h2 h1)) (some ⟨V2.heap.size,0,none⟩) 1 1 [.slice none 0 0] (lU HBi3.out) rfl (by simp;rfl) (by omega) (Nat.zero_le _);have HF:=rM HG.out.1 HL.out H3.out.1 H3.out.2.1 H3.out.2.2.1 H3.out.2.2.2.2.2.1 HX.out.2.2.2.2.2.2 H3.out.2.2.2.2.2.2 HN.out.1 HN.out.2.1 HN.out.2.2.1 HN.out.2.2.2.1 HN.out.2.2.2.2.1 HN.out.2.2.2.2.2 HJ3.out HO.out.1 HO.out.2.1 HO.out.2.2 o6 u6 p6;clear o6 u6 p6;refine aS (S:=fun W=>W.cell? ⟨p,2,none⟩=some (.slice A2 n c2)∧W.cell? ⟨p,3,none⟩=some (.slice A3 n c3)) (late:=aL 16) rfl rfl (fun K hK=>?_);refine bX _ _ _ rfl rfl rfl happ ?_;refine hK _ _ (fun _ _=>⟨HF.out.1.cell 2,HF.out.1.cell 3⟩) ?_;clear hK K happ;(try simp only[Act.put,gA,gS,gZ,sA,sZ,sS])
    have r2:V4.cell? ⟨p,2,none⟩=some (.slice A2 n c2):=HF.out.1.cell 2;have f2:V4.frozen? ⟨p,2,none⟩=false:=HF.out.1.frozen 2;have kz:=HF.out.1.set 2 (.slice B2 (n+1) d2);have r3:(V4.setCell ⟨p,2,none⟩ (.slice B2 (n+1) d2)).cell? ⟨p,3,none⟩=some (.slice A3 n c3):=kz.cell 3;have f3:(V4.setCell ⟨p,2,none⟩ (.slice B2 (n+1) d2)).frozen? ⟨p,3,none⟩=false:=kz.frozen 3;have FIN:=hIz HF.out.2;clear kz;refine aO hd 14 ?_;clear hd;intro hd;refine aS (S:=fun W=>W.cell? ⟨p,2,none⟩=some (.slice A2 n c2)∧W.cell? ⟨p,3,none⟩=some (.slice A3 n c3)) (late:=aL 16) rfl rfl (fun K hK=>?_);go_simp;refine hK _ _ (fun h _=>⟨HF.out.1.cell 2,HF.out.1.cell 3⟩) ?_;clear hK K;(try simp only[Act.put,gA,gS,gZ,sA,sZ,sS])
    refine aO hd 15 ?_;clear hd;intro hd;refine aS (S:=fun W=>W.cell? ⟨p,2,none⟩=some (.slice A2 n c2)∧W.cell? ⟨p,3,none⟩=some (.slice A3 n c3)) (late:=aL 16) rfl rfl (fun K hK=>?_);go_simp;refine hK _ _ (fun h _=>⟨HF.out.1.cell 2,HF.out.1.cell 3⟩) ?_;clear hK K;(try simp only[Act.put,gA,gS,gZ,sA,sZ,sS])
    refine aO hd 16 ?_;clear hd;intro hd;refine aS (S:=fun W=>W.cell? ⟨p,2,none⟩=some (.slice A2 n c2)∧W.cell? ⟨p,3,none⟩=some (.slice A3 n c3)) (late:=aL 16) rfl rfl (fun K hK=>?_);go_simp;refine hK _ _ (fun h _=>absurd h (by decide)) ?_;clear hK K;(try simp only[Act.put,gA,gS,gZ,sA,sZ,sS])
    refine aO hd 17 ?_;clear hd;intro hd;refine aS (S:=fun W=>W.cell? ⟨p,2,none⟩=some (.slice A2 n c2)∧W.cell? ⟨p,3,none⟩=some (.slice A3 n c3)) (late:=aL 16) rfl rfl (fun K hK=>?_);go_simp;refine hK _ _ (fun h _=>absurd h (by decide)) ?_;clear hK K;(try simp only[Act.put,gA,gS,gZ,sA,sZ,sS])
    refine aO hd 18 ?_;clear hd;intro hd;refine aS (S:=fun W=>W.cell? ⟨p,2,none⟩=some (.slice A2 n c2)∧W.cell? ⟨p,3,none⟩=some (.slice A3 n c3)) (late:=aL 16) rfl rfl (fun K hK=>?_);go_simp;refine hK _ _ (fun h _=>absurd h (by decide)) ?_;clear hK K;(try simp only[Act.put,gA,gS,gZ,sA,sZ,sS])
    refine aO hd 19 ?_;clear hd;intro hd;refine aS (S:=fun W=>W.cell? ⟨p,2,none⟩=some (.slice A2 n c2)∧W.cell? ⟨p,3,none⟩=some (.slice A3 n c3)) (late:=aL 16) rfl rfl (fun K hK=>?_);go_simp;refine hK _ _ (fun h _=>absurd h (by decide)) ?_;clear hK K;(try simp only[Act.put,gA,gS,gZ,sA,sZ,sS])
    refine cL (by kernel_rfl) ?_;generalize (V4.setCell ⟨p,2,none⟩ (.slice B2 (n+1) d2)).setCell ⟨p,3,none⟩ (.slice B3 (n+1) d3)=WF at FIN ⊢;have l0:=FIN.out.2.1;have q1:WF.cell? ⟨p,1,none⟩=some (.map (some r)):=FIN.out.2.2;have hw:IntKind.i64.wrap (((n:Int)+1)-1)=(n:Int):=by rw[IntKind.wrap_i64];omega
    clear r2 f2 r3 f3;go_wp2;go_ret;exact⟨by rw[HG.out.2.2,HL.out];rfl,by rw[HG.out.2.1];exact FIN.out.1⟩
   ·skip
    have kiV2:=Blk.new V1 140 #[.slice none 0 0];have koV2:=HBo1.out.alloc (.cells #[.slice none 0 0] 140);have HJ2:=hIz ((HJ1.out).alloc (.cells #[.slice none 0 0] 140));have HBo2:=hIz koV2;have HBi2:=hIz kiV2;clear koV2 kiV2;refine aS (S:=fun W=>W.cell? ⟨p,2,none⟩=some (.slice A2 n c2)∧W.cell? ⟨p,3,none⟩=some (.slice A3 n c3)) (late:=aL 16) rfl rfl (fun K hK=>?_);go_simp;refine hK _ _ (fun _ _=>KS.out _ (HJ2.out.mono (fun _ _ h=>by first | exact h.elim | exact h))) ?_;clear hK K;(try simp only[Act.put,gA,gS,gZ,sA,sZ,sS])
    have hS:(V1.alloc (.cells #[.slice none 0 0] 140)).cell? ⟨p,2,none⟩=some (.slice A2 n c2)∧(V1.alloc (.cells #[.slice none 0 0] 140)).cell? ⟨p,3,none⟩=some (.slice A3 n c3):=KS.out _ (HJ2.out.mono (fun _ _ h=>by first | exact h.elim | exact h));generalize V1.alloc (.cells #[.slice none 0 0] 140)=V2 at HJ2 HBo2 HBi2 hS ⊢;clear hS;refine aO hd 7 ?_;clear hd;intro hd;obtain⟨B2,d2,V3,happ,o6,u6,p6⟩:=dR V2 0 137 140 1 24 _ Tryz.underlying137 gQ rfl (by decide) (by decide) A2 n c2 (pL fo n) (aB H3.out.2.2.2.1 HJ2.out (fun _ _ h=>h)) (some ⟨V0.heap.size,0,none⟩) 1 1 [.slice none 0 0] (lU HBo2.out) rfl (by simp;rfl) (by omega) (Nat.zero_le _);have HJ3:=hIz (show Upd (fun k=>(Value.slice A2 n c2).ownBlock=some k) w3 V3 from(HJ2.out.mono (fun _ _ h=>h.elim)).trans u6 (fun k h=>.inl h));have HBi3:=hIz (HBi2.out.upd u6 (fun e=>by have:=(HN.out.2.2.2.1 _ e).2.2;have:=H3.out.2.2.2.2.2.2;have:=H3.out.2.2.2.2.2.1.size;have:=HJ1.out.size;omega));have HO:=aI3 o6 p6 (show w3.heap.size≤V2.heap.size from HJ2.out.size);clear o6 u6 p6;refine aS (S:=fun W=>W.cell? ⟨p,2,none⟩=some (.slice A2 n c2)∧W.cell? ⟨p,3,none⟩=some (.slice A3 n c3)) (late:=aL 16) rfl rfl (fun K hK=>?_);refine bX _ _ _ rfl rfl rfl happ ?_;refine hK _ _ (fun _ _=>KS.out _ HJ3.out) ?_;clear hK K happ;(try simp only[Act.put,gA,gS,gZ,sA,sZ,sS])
    refine aO hd 13 ?_;clear hd;intro hd;obtain⟨B3,d3,V4,happ,o6,u6,p6⟩:=dR V3 0 137 140 1 24 _ Tryz.underlying137 gQ rfl (by decide) (by decide) A3 n c3 (pL fi n) (aB H3.out.2.2.2.2.1 HJ3.out (fun k h1 h2=>HN.out.2.2.2.2.2 k h2 h1)) (some ⟨V1.heap.size,0,none⟩) 1 1 [.slice none 0 0] (lU HBi3.out) rfl (by simp;rfl) (by omega) (Nat.zero_le _);have HF:=rM HG.out.1 HL.out H3.out.1 H3.out.2.1 H3.out.2.2.1 H3.out.2.2.2.2.2.1 HX.out.2.2.2.2.2.2 H3.out.2.2.2.2.2.2 HN.out.1 HN.out.2.1 HN.out.2.2.1 HN.out.2.2.2.1 HN.out.2.2.2.2.1 HN.out.2.2.2.2.2 HJ3.out HO.out.1 HO.out.2.1 HO.out.2.2 o6 u6 p6;clear o6 u6 p6;refine aS (S:=fun W=>W.cell? ⟨p,2,none⟩=some (.slice A2 n c2)∧W.cell? ⟨p,3,none⟩=some (.slice A3 n c3)) (late:=aL 16) rfl rfl (fun K hK=>?_);refine bX _ _ _ rfl rfl rfl happ ?_;refine hK _ _ (fun _ _=>⟨HF.out.1.cell 2,HF.out.1.cell 3⟩) ?_;clear hK K happ;(try simp only[Act.put,gA,gS,gZ,sA,sZ,sS])
    have r2:V4.cell? ⟨p,2,none⟩=some (.slice A2 n c2):=HF.out.1.cell 2;have f2:V4.frozen? ⟨p,2,none⟩=false:=HF.out.1.frozen 2;have kz:=HF.out.1.set 2 (.slice B2 (n+1) d2);have r3:(V4.setCell ⟨p,2,none⟩ (.slice B2 (n+1) d2)).cell? ⟨p,3,none⟩=some (.slice A3 n c3):=kz.cell 3;have f3:(V4.setCell ⟨p,2,none⟩ (.slice B2 (n+1) d2)).frozen? ⟨p,3,none⟩=false:=kz.frozen 3;have FIN:=hIz HF.out.2;clear kz;refine aO hd 14 ?_;clear hd;intro hd;refine aS (S:=fun W=>W.cell? ⟨p,2,none⟩=some (.slice A2 n c2)∧W.cell? ⟨p,3,none⟩=some (.slice A3 n c3)) (late:=aL 16) rfl rfl (fun K hK=>?_);go_simp;refine hK _ _ (fun h _=>⟨HF.out.1.cell 2,HF.out.1.cell 3⟩) ?_;clear hK K;(try simp only[Act.put,gA,gS,gZ,sA,sZ,sS])
    refine aO hd 15 ?_;clear hd;intro hd;refine aS (S:=fun W=>W.cell? ⟨p,2,none⟩=some (.slice A2 n c2)∧W.cell? ⟨p,3,none⟩=some (.slice A3 n c3)) (late:=aL 16) rfl rfl (fun K hK=>?_);go_simp;refine hK _ _ (fun h _=>⟨HF.out.1.cell 2,HF.out.1.cell 3⟩) ?_;clear hK K;(try simp only[Act.put,gA,gS,gZ,sA,sZ,sS])
    refine aO hd 16 ?_;clear hd;intro hd;refine aS (S:=fun W=>W.cell? ⟨p,2,none⟩=some (.slice A2 n c2)∧W.cell? ⟨p,3,none⟩=some (.slice A3 n c3)) (late:=aL 16) rfl rfl (fun K hK=>?_);go_simp;refine hK _ _ (fun h _=>absurd h (by decide)) ?_;clear hK K;(try simp only[Act.put,gA,gS,gZ,sA,sZ,sS])
    refine aO hd 17 ?_;clear hd;intro hd;refine aS (S:=fun W=>W.cell? ⟨p,2,none⟩=some (.slice A2 n c2)∧W.cell? ⟨p,3,none⟩=some (.slice A3 n c3)) (late:=aL 16) rfl rfl (fun K hK=>?_);go_simp;refine hK _ _ (fun h _=>absurd h (by decide)) ?_;clear hK K;(try simp only[Act.put,gA,gS,gZ,sA,sZ,sS])
    refine aO hd 18 ?_;clear hd;intro hd;refine aS (S:=fun W=>W.cell? ⟨p,2,none⟩=some (.slice A2 n c2)∧W.cell? ⟨p,3,none⟩=some (.slice A3 n c3)) (late:=aL 16) rfl rfl (fun K hK=>?_);go_simp;refine hK _ _ (fun h _=>absurd h (by decide)) ?_;clear hK K;(try simp only[Act.put,gA,gS,gZ,sA,sZ,sS])
    refine aO hd 19 ?_;clear hd;intro hd;refine aS (S:=fun W=>W.cell? ⟨p,2,none⟩=some (.slice A2 n c2)∧W.cell? ⟨p,3,none⟩=some (.slice A3 n c3)) (late:=aL 16) rfl rfl (fun K hK=>?_);go_simp;refine hK _ _ (fun h _=>absurd h (by decide)) ?_;clear hK K;(try simp only[Act.put,gA,gS,gZ,sA,sZ,sS])
    refine cL (by kernel_rfl) ?_;generalize (V4.setCell ⟨p,2,none⟩ (.slice B2 (n+1) d2)).setCell ⟨p,3,none⟩ (.slice B3 (n+1) d3)=WF at FIN ⊢;have l0:=FIN.out.2.1;have q1:WF.cell? ⟨p,1,none⟩=some (.map (some r)):=FIN.out.2.2;have hw:IntKind.i64.wrap (((n:Int)+1)-1)=(n:Int):=by rw[IntKind.wrap_i64];omega
    clear r2 f2 r3 f3;go_wp2;go_ret;exact⟨by rw[HG.out.2.2,HL.out];rfl,by rw[HG.out.2.1];exact FIN.out.1⟩
  ·skip
   have kiV1:=Blk.new V0 140 #[.slice none 0 0];have HJ1:=hIz ((HJ0.out).alloc (.cells #[.slice none 0 0] 140));have HBi1:=hIz kiV1;clear kiV1;refine aS (S:=fun W=>W.cell? ⟨p,2,none⟩=some (.slice A2 n c2)∧W.cell? ⟨p,3,none⟩=some (.slice A3 n c3)) (late:=aL 16) rfl rfl (fun K hK=>?_);go_simp;refine hK _ _ (fun _ _=>KS.out _ (HJ1.out.mono (fun _ _ h=>by first | exact h.elim | exact h))) ?_;clear hK K;(try simp only[Act.put,gA,gS,gZ,sA,sZ,sS])
   have hS:(V0.alloc (.cells #[.slice none 0 0] 140)).cell? ⟨p,2,none⟩=some (.slice A2 n c2)∧(V0.alloc (.cells #[.slice none 0 0] 140)).cell? ⟨p,3,none⟩=some (.slice A3 n c3):=KS.out _ (HJ1.out.mono (fun _ _ h=>by first | exact h.elim | exact h));generalize V0.alloc (.cells #[.slice none 0 0] 140)=V1 at HJ1 HBi1 hS ⊢;clear hS;refine aO hd 6 ?_;clear hd;intro hd;have koV2:=Blk.new V1 140 #[.slice none 0 0];have kiV2:=HBi1.out.alloc (.cells #[.slice none 0 0] 140);have HJ2:=hIz ((HJ1.out).alloc (.cells #[.slice none 0 0] 140));have HBi2:=hIz kiV2;have HBo2:=hIz koV2;clear kiV2 koV2;refine aS (S:=fun W=>W.cell? ⟨p,2,none⟩=some (.slice A2 n c2)∧W.cell? ⟨p,3,none⟩=some (.slice A3 n c3)) (late:=aL 16) rfl rfl (fun K hK=>?_);go_simp;refine hK _ _ (fun _ _=>KS.out _ (HJ2.out.mono (fun _ _ h=>by first | exact h.elim | exact h))) ?_;clear hK K;(try simp only[Act.put,gA,gS,gZ,sA,sZ,sS])
   have hS:(V1.alloc (.cells #[.slice none 0 0] 140)).cell? ⟨p,2,none⟩=some (.slice A2 n c2)∧(V1.alloc (.cells #[.slice none 0 0] 140)).cell? ⟨p,3,none⟩=some (.slice A3 n c3):=KS.out _ (HJ2.out.mono (fun _ _ h=>by first | exact h.elim | exact h));generalize V1.alloc (.cells #[.slice none 0 0] 140)=V2 at HJ2 HBi2 HBo2 hS ⊢;clear hS;refine aO hd 7 ?_;clear hd;intro hd;obtain⟨B2,d2,V3,happ,o6,u6,p6⟩:=dR V2 0 137 140 1 24 _ Tryz.underlying137 gQ rfl (by decide) (by decide) A2 n c2 (pL fo n) (aB H3.out.2.2.2.1 HJ2.out (fun _ _ h=>h)) (some ⟨V1.heap.size,0,none⟩) 1 1 [.slice none 0 0] (lU HBo2.out) rfl (by simp;rfl) (by omega) (Nat.zero_le _);have HJ3:=hIz (show Upd (fun k=>(Value.slice A2 n c2).ownBlock=some k) w3 V3 from(HJ2.out.mono (fun _ _ h=>h.elim)).trans u6 (fun k h=>.inl h));have HBi3:=hIz (HBi2.out.upd u6 (fun e=>by have:=(HN.out.2.2.2.1 _ e).2.2;have:=H3.out.2.2.2.2.2.2;have:=H3.out.2.2.2.2.2.1.size;have:=HJ0.out.size;omega));have HO:=aI3 o6 p6 (show w3.heap.size≤V2.heap.size from HJ2.out.size);clear o6 u6 p6;refine aS (S:=fun W=>W.cell? ⟨p,2,none⟩=some (.slice A2 n c2)∧W.cell? ⟨p,3,none⟩=some (.slice A3 n c3)) (late:=aL 16) rfl rfl (fun K hK=>?_);refine bX _ _ _ rfl rfl rfl happ ?_;refine hK _ _ (fun _ _=>KS.out _ HJ3.out) ?_;clear hK K happ;(try simp only[Act.put,gA,gS,gZ,sA,sZ,sS])
   refine aO hd 13 ?_;clear hd;intro hd;obtain⟨B3,d3,V4,happ,o6,u6,p6⟩:=dR V3 0 137 140 1 24 _ Tryz.underlying137 gQ rfl (by decide) (by decide) A3 n c3 (pL fi n) (aB H3.out.2.2.2.2.1 HJ3.out (fun k h1 h2=>HN.out.2.2.2.2.2 k h2 h1)) (some ⟨V0.heap.size,0,none⟩) 1 1 [.slice none 0 0] (lU HBi3.out) rfl (by simp;rfl) (by omega) (Nat.zero_le _);have HF:=rM HG.out.1 HL.out H3.out.1 H3.out.2.1 H3.out.2.2.1 H3.out.2.2.2.2.2.1 HX.out.2.2.2.2.2.2 H3.out.2.2.2.2.2.2 HN.out.1 HN.out.2.1 HN.out.2.2.1 HN.out.2.2.2.1 HN.out.2.2.2.2.1 HN.out.2.2.2.2.2 HJ3.out HO.out.1 HO.out.2.1 HO.out.2.2 o6 u6 p6;clear o6 u6 p6;refine aS (S:=fun W=>W.cell? ⟨p,2,none⟩=some (.slice A2 n c2)∧W.cell? ⟨p,3,none⟩=some (.slice A3 n c3)) (late:=aL 16) rfl rfl (fun K hK=>?_);refine bX _ _ _ rfl rfl rfl happ ?_;refine hK _ _ (fun _ _=>⟨HF.out.1.cell 2,HF.out.1.cell 3⟩) ?_;clear hK K happ;(try simp only[Act.put,gA,gS,gZ,sA,sZ,sS])
   have r2:V4.cell? ⟨p,2,none⟩=some (.slice A2 n c2):=HF.out.1.cell 2;have f2:V4.frozen? ⟨p,2,none⟩=false:=HF.out.1.frozen 2;have kz:=HF.out.1.set 2 (.slice B2 (n+1) d2);have r3:(V4.setCell ⟨p,2,none⟩ (.slice B2 (n+1) d2)).cell? ⟨p,3,none⟩=some (.slice A3 n c3):=kz.cell 3;have f3:(V4.setCell ⟨p,2,none⟩ (.slice B2 (n+1) d2)).frozen? ⟨p,3,none⟩=false:=kz.frozen 3;have FIN:=hIz HF.out.2;clear kz;refine aO hd 14 ?_;clear hd;intro hd;refine aS (S:=fun W=>W.cell? ⟨p,2,none⟩=some (.slice A2 n c2)∧W.cell? ⟨p,3,none⟩=some (.slice A3 n c3)) (late:=aL 16) rfl rfl (fun K hK=>?_);go_simp;refine hK _ _ (fun h _=>⟨HF.out.1.cell 2,HF.out.1.cell 3⟩) ?_;clear hK K;(try simp only[Act.put,gA,gS,gZ,sA,sZ,sS])
   refine aO hd 15 ?_;clear hd;intro hd;refine aS (S:=fun W=>W.cell? ⟨p,2,none⟩=some (.slice A2 n c2)∧W.cell? ⟨p,3,none⟩=some (.slice A3 n c3)) (late:=aL 16) rfl rfl (fun K hK=>?_);go_simp;refine hK _ _ (fun h _=>⟨HF.out.1.cell 2,HF.out.1.cell 3⟩) ?_;clear hK K;(try simp only[Act.put,gA,gS,gZ,sA,sZ,sS])
   refine aO hd 16 ?_;clear hd;intro hd;refine aS (S:=fun W=>W.cell? ⟨p,2,none⟩=some (.slice A2 n c2)∧W.cell? ⟨p,3,none⟩=some (.slice A3 n c3)) (late:=aL 16) rfl rfl (fun K hK=>?_);go_simp;refine hK _ _ (fun h _=>absurd h (by decide)) ?_;clear hK K;(try simp only[Act.put,gA,gS,gZ,sA,sZ,sS])
   refine aO hd 17 ?_;clear hd;intro hd;refine aS (S:=fun W=>W.cell? ⟨p,2,none⟩=some (.slice A2 n c2)∧W.cell? ⟨p,3,none⟩=some (.slice A3 n c3)) (late:=aL 16) rfl rfl (fun K hK=>?_);go_simp;refine hK _ _ (fun h _=>absurd h (by decide)) ?_;clear hK K;(try simp only[Act.put,gA,gS,gZ,sA,sZ,sS])
   refine aO hd 18 ?_;clear hd;intro hd;refine aS (S:=fun W=>W.cell? ⟨p,2,none⟩=some (.slice A2 n c2)∧W.cell? ⟨p,3,none⟩=some (.slice A3 n c3)) (late:=aL 16) rfl rfl (fun K hK=>?_);go_simp;refine hK _ _ (fun h _=>absurd h (by decide)) ?_;clear hK K;(try simp only[Act.put,gA,gS,gZ,sA,sZ,sS])
   refine aO hd 19 ?_;clear hd;intro hd;refine aS (S:=fun W=>W.cell? ⟨p,2,none⟩=some (.slice A2 n c2)∧W.cell? ⟨p,3,none⟩=some (.slice A3 n c3)) (late:=aL 16) rfl rfl (fun K hK=>?_);go_simp;refine hK _ _ (fun h _=>absurd h (by decide)) ?_;clear hK K;(try simp only[Act.put,gA,gS,gZ,sA,sZ,sS])
   refine cL (by kernel_rfl) ?_;generalize (V4.setCell ⟨p,2,none⟩ (.slice B2 (n+1) d2)).setCell ⟨p,3,none⟩ (.slice B3 (n+1) d3)=WF at FIN ⊢;have l0:=FIN.out.2.1;have q1:WF.cell? ⟨p,1,none⟩=some (.map (some r)):=FIN.out.2.2;have hw:IntKind.i64.wrap (((n:Int)+1)-1)=(n:Int):=by rw[IntKind.wrap_i64];omega
   clear r2 f2 r3 f3;go_wp2;go_ret;exact⟨by rw[HG.out.2.2,HL.out];rfl,by rw[HG.out.2.1];exact FIN.out.1⟩
open Go.RowKit
def iF(x:Int):List Value:=[.int .i64 x,.int .i64 0,.int .i64 0,.int .i64 0]
def qsC(m:Nat)(last:Int):List Value:=((List.range m).flatMap fun (i:Nat)=>iF ((i:Int)+2))++iF last
def lfC(L:List (List Nat)):List Value:=L.flatMap wdC
inductive QRo
 | p | a | l
structure QuI(w:World)(O:Nat→Option QRo)(p:Nat)(side dep cnt:Nat)(m:Nat)(last:Int)(L:List (List Nat))(pv lv:Value):Prop where
 blk:Blk w p 150 #[.int .i64 (side:Int),.int .i64 (dep:Int),.int .i64 (cnt:Int),pv,lv]
 rp:w.ownsRow 0 199 4 pv (m+1) (qsC m last)
 rl:w.ownsRow 0 164 64 lv L.length (lfC L)
 op:O p=some .p
 oa:∀k,pv.ownBlock=some k→O k=some .a
 ol:∀k,lv.ownBlock=some k→O k=some .l
 lt:∀k,O k≠none→k<w.heap.size
structure RF(side dep cnt m:Nat)(last:Int)(L:List (List Nat))(b:Option (List Nat)):Prop where
 s1:1≤side
 s2:side≤1024
 d1:1≤dep
 d2:dep≤4
 no:b=none→m=0∧last=0∧L=[]∧cnt=0
 is:∀r,b=some r→m+1=dep∧last=1∧L=[r]∧cnt=eP r∧Wd r
def QuS(w:World)(F:Nat→Prop)(p side:Nat)(b:Option (List Nat)):Prop:=∃O dep cnt m last L pv lv,QuI w O p side dep cnt m last L pv lv∧RF side dep cnt m last L b∧F=fun k=>O k≠none
theorem QuI.upd{w w':World}{O:Nat→Option QRo}{p side dep cnt m:Nat}{last:Int}{L:List (List Nat)}{pv lv:Value}{G:Nat→Prop}(h:QuI w O p side dep cnt m last L pv lv)(hu:Upd G w w')(hd:∀k,O k≠none→¬G k):QuI w' O p side dep cnt m last L pv lv:=by
 have no:∀k t,O k=some t→¬G k:=fun k t e=>hd k (by simp[e])
 exact⟨h.blk.upd hu (no _ _ h.op),aB h.rp hu fun k hk=>no _ _ (h.oa k hk),aB h.rl hu fun k hk=>no _ _ (h.ol k hk),h.op,h.oa,h.ol,fun k hk=>Nat.lt_of_lt_of_le (h.lt k hk) hu.size⟩
theorem QuS.upd{w w':World}{F G:Nat→Prop}{p side:Nat}{b:Option (List Nat)}(h:QuS w F p side b)(hu:Upd G w w')(hd:∀k,F k→¬G k):QuS w' F p side b:=by
 obtain⟨O,dep,cnt,m,last,L,pv,lv,hs,ok,rfl⟩:=h;exact⟨O,dep,cnt,m,last,L,pv,lv,hs.upd hu hd,ok,rfl⟩
theorem QuS.below{w w':World}{F:Nat→Prop}{p side:Nat}{b:Option (List Nat)}(h:QuS w F p side b)(hb:Below w.heap.size w w'):QuS w' F p side b:=h.upd (upF hb) (fun _ _=>id)
theorem QuS.lt{w:World}{F:Nat→Prop}{p side:Nat}{b:Option (List Nat)}(h:QuS w F p side b):∀k,F k→k<w.heap.size:=by
 obtain⟨O,dep,cnt,m,last,L,pv,lv,hs,ok,rfl⟩:=h;exact hs.lt
theorem QuI.no{w:World}{O:Nat→Option QRo}{p side dep cnt m:Nat}{last:Int}{L:List (List Nat)}{pv lv:Value}(h:QuI w O p side dep cnt m last L pv lv):(∀k,pv.ownBlock=some k→¬k=p)∧(∀k,lv.ownBlock=some k→¬k=p)∧∀k,pv.ownBlock=some k→¬lv.ownBlock=some k:=
 ⟨fun k hk e=>(by have:=h.oa k hk;rw[e,h.op] at this;cases this),fun k hk e=>(by have:=h.ol k hk;rw[e,h.op] at this;cases this),fun k hk e=>by have:=h.oa k hk;rw[h.ol k e] at this;cases this⟩
theorem QuI.setD{w:World}{O:Nat→Option QRo}{p side dep cnt m:Nat}{last:Int}{L:List (List Nat)}{pv lv:Value}(h:QuI w O p side dep cnt m last L pv lv)(d':Nat):QuI (w.setCell ⟨p,1,none⟩ (.int .i64 (d':Int))) O p side d' cnt m last L pv lv:=by
 have us:=(Upd.refl (fun k=>k=p) w).setCell (p:=⟨p,1,none⟩) (.inl rfl) (.int .i64 (d':Int));exact⟨h.blk.set 1 _,aB h.rp us h.no.1,aB h.rl us h.no.2.1,h.op,h.oa,h.ol,fun k hk=>Nat.lt_of_lt_of_le (h.lt k hk) us.size⟩
theorem QuI.setC{w:World}{O:Nat→Option QRo}{p side dep cnt m:Nat}{last:Int}{L:List (List Nat)}{pv lv:Value}(h:QuI w O p side dep cnt m last L pv lv)(c':Nat):QuI (w.setCell ⟨p,2,none⟩ (.int .i64 (c':Int))) O p side dep c' m last L pv lv:=by
 have us:=(Upd.refl (fun k=>k=p) w).setCell (p:=⟨p,2,none⟩) (.inl rfl) (.int .i64 (c':Int));exact⟨h.blk.set 2 _,aB h.rp us h.no.1,aB h.rl us h.no.2.1,h.op,h.oa,h.ol,fun k hk=>Nat.lt_of_lt_of_le (h.lt k hk) us.size⟩
def gF(B p side:Nat)(b:Option (List Nat))(w':World):Prop:=∃F,QuS w' F p side b∧∀k,F k→B≤k
theorem JH(w:World)(side:Nat):QuI ((w.alloc (.cells #[.int .i64 0,.int .i64 0,.int .i64 0,.int .i64 0] 199)).alloc (.cells #[.int .i64 (side:Int),.int .i64 1,.int .i64 0,.slice (some ⟨w.heap.size,0,none⟩) 1 1,.slice none 0 0] 150)) (fun k=>if k=w.heap.size+1 then some QRo.p else if k=w.heap.size then some QRo.a else none) (w.heap.size+1) side 1 0 0 0 [] (.slice (some ⟨w.heap.size,0,none⟩) 1 1) (.slice none 0 0):=by
 have k1:=Blk.new (w.alloc (.cells #[.int .i64 0,.int .i64 0,.int .i64 0,.int .i64 0] 199)) 150 #[.int .i64 (side:Int),.int .i64 1,.int .i64 0,.slice (some ⟨w.heap.size,0,none⟩) 1 1,.slice none 0 0];have hz:(w.alloc (.cells #[.int .i64 0,.int .i64 0,.int .i64 0,.int .i64 0] 199)).heap.size=w.heap.size+1:=by simp
 rw[hz] at k1;refine⟨k1,?_,World.ownsRow_nil _ _ _ _,if_pos rfl,?_,?_,?_⟩
 ·have own:(w.alloc (.cells #[.int .i64 0,.int .i64 0,.int .i64 0,.int .i64 0] 199)).ownsRow 0 199 4 (.slice (some ⟨w.heap.size,0,none⟩) 1 1) (0+1) (qsC 0 0):=⟨rfl,.inr ⟨w.heap.size,1,#[.int .i64 0,.int .i64 0,.int .i64 0,.int .i64 0],rfl,Nat.zero_le _,heap_alloc_new w _,Nat.le_refl _,by decide,rfl,rfl⟩⟩;exact own.alloc _
 ·intro k hk;simp[Value.ownBlock] at hk
  subst hk;rw[if_neg (by omega),if_pos rfl]
 ·intro k hk;simp[Value.ownBlock] at hk
 ·intro k hk;simp only[World.size_alloc] at *
  split at hk
  ·omega
  split at hk
  ·omega
  ·exact absurd rfl hk
theorem tX:(Tryz.prog.info? 199).map (fun i=>(i.zero,i.size,i.bytes))=some (some (.agg #[.int .i64 0,.int .i64 0,.int .i64 0,.int .i64 0]),4,32):=by kernel_rfl
theorem JI(w:World):(Instr.makeSlice 147 (.int .i64 1) (.int .i64 1)).run Tryz.prog w=.ok (.slice (some ⟨w.heap.size,0,none⟩) 1 1) (w.alloc (.cells #[.int .i64 0,.int .i64 0,.int .i64 0,.int .i64 0] 199)):=by
 obtain⟨i0,hi0,hz0,hz1,hz2⟩:=info_parts tX;have hr:=run_make (P:=Tryz.prog) w 147 199 i0 _ Tryz.underlying147 hi0 hz0 .i64 .i64 1 1 (by omega) (Int.le_refl _) (by rw[hz2];omega) (by omega);rw[hz1] at hr;have e:madeCells (Value.agg #[.int .i64 0,.int .i64 0,.int .i64 0,.int .i64 0]).cells (Int.toNat 1*4)=#[.int .i64 0,.int .i64 0,.int .i64 0,.int .i64 0]:=by kernel_rfl
 rw[e] at hr;exact hr
def CZ(w:World)(side:Nat)(e:Ending)(w':World):Prop:=∃p,e=.returned (.tuple #[.pointer (some ⟨p,0,none⟩),.int .i64 0])∧gF w.heap.size p side none w'∧Below w.heap.size w w'
theorem mZ(w:World)(side:Nat)(h1:1≤side)(h2:side≤1024):Calls Tryz.prog 42 #[.int .i64 (side:Int)] w (CZ w side):=by
 have hz:((w.alloc (.cells #[.int .i64 0,.int .i64 0,.int .i64 0,.int .i64 0] 199)).alloc (.cells #[.int .i64 (side:Int),.int .i64 1,.int .i64 0,.slice (some ⟨w.heap.size,0,none⟩) 1 1,.slice none 0 0] 150)).heap.size=w.heap.size+1+1:=by simp
 have u0:Below w.heap.size w ((w.alloc (.cells #[.int .i64 0,.int .i64 0,.int .i64 0,.int .i64 0] 199)).alloc (.cells #[.int .i64 (side:Int),.int .i64 1,.int .i64 0,.slice (some ⟨w.heap.size,0,none⟩) 1 1,.slice none 0 0] 150)):=by(repeat (first | exact Below.refl _ _ | apply Below.drew | refine Below.alloc ?_ (by first | exact Nat.le_refl _ | (simp;done) | (simp;omega)) _ | refine Below.setCell ?_ (by first | exact Nat.le_refl _ | (simp;done) | (simp;omega)) _))
 have H:=aI2 (JH w side) u0;have t1:¬((side:Int)<1):=by omega
 have t2:¬((1024:Int)<(side:Int)):=by omega
 clear u0 hz;go_enter Tryz.func42,Tryz.ntmps42;have hmk:=JI w;go_upto_region 4 with (fail);generalize (w.alloc (.cells #[.int .i64 0,.int .i64 0,.int .i64 0,.int .i64 0] 199)).alloc (.cells #[.int .i64 (side:Int),.int .i64 1,.int .i64 0,.slice (some ⟨w.heap.size,0,none⟩) 1 1,.slice none 0 0] 150)=W0 at H ⊢;clear hmk;go_loopw [] (fun wr=>∃d:Nat,1≤d∧d≤4∧Hid (QuI wr (fun k=>if k=w.heap.size+1 then some QRo.p else if k=w.heap.size then some QRo.a else none) (w.heap.size+1) side d 0 0 0 [] (.slice (some ⟨w.heap.size,0,none⟩) 1 1) (.slice none 0 0))∧Hid (Below w.heap.size w wr)) (fun wr=>4-(match wr.cell? ⟨w.heap.size+1,1,none⟩ with | some v=>(intOf v).toNat | none=>0))
 case atStart=>exact⟨1,Nat.le_refl _,by decide,hIz H.out.1,hIz H.out.2⟩
 case round =>
  obtain⟨d,hd1,hd4,hq,hbw⟩:=hrel;have hlo:∀k,(if k=w.heap.size+1 then some QRo.p else if k=w.heap.size then some QRo.a else none)≠none→w.heap.size≤k:=fun k hk=>by
   split at hk
   ·omega
   split at hk
   ·omega
   ·exact absurd rfl hk
  have hd:d=1∨d=2∨d=3∨d=4:=by omega
  rcases hd with rfl|rfl|rfl|rfl
  ·have q1:wr.cell? ⟨w.heap.size+1,1,none⟩=some (.int .i64 1):=hq.out.blk.cell 1;have f1:=hq.out.blk.frozen 1;have HN:=hIz (hq.out.setD 2);have HB:=hIz (hbw.out.trans (((Upd.refl (fun k=>k=w.heap.size+1) wr).setCell (p:=⟨w.heap.size+1,1,none⟩) (.inl rfl) (.int .i64 ((2:Nat):Int))).below (fun k _ e=>by omega) hbw.out.size));by_cases hlt:(128:Int)<(side:Int)
   ·go_wp2;go_roundw
    case rel=>exact⟨2,by decide,by decide,HN,HB⟩
    case measure =>
     have:=show(wr.setCell ⟨w.heap.size+1,1,none⟩ (.int .i64 2)).cell? ⟨w.heap.size+1,1,none⟩=some (.int .i64 2) from HN.out.blk.cell 1
     simp[q1,intOf,this]
   ·have FIN:=hIz (show CZ w side (.returned (.tuple #[.pointer (some ⟨w.heap.size+1,0,none⟩),.int .i64 0])) wr from⟨_,rfl,⟨_,⟨_,_,_,_,_,_,_,_,hq.out,⟨h1,h2,by decide,by decide,fun _=>⟨rfl,rfl,rfl,rfl⟩,fun _ e=>by cases e⟩,rfl⟩,hlo⟩,hbw.out⟩);clear HN HB hq hbw;go_wp2;refine bodyPost_ret (v:=.tuple #[.pointer (some ⟨w.heap.size+1,0,none⟩),.int .i64 0]) (by simp[results,Tryz.f42,go_sem]) rfl FIN.out
  ·have q1:wr.cell? ⟨w.heap.size+1,1,none⟩=some (.int .i64 2):=hq.out.blk.cell 1;have f1:=hq.out.blk.frozen 1;have HN:=hIz (hq.out.setD 3);have HB:=hIz (hbw.out.trans (((Upd.refl (fun k=>k=w.heap.size+1) wr).setCell (p:=⟨w.heap.size+1,1,none⟩) (.inl rfl) (.int .i64 ((3:Nat):Int))).below (fun k _ e=>by omega) hbw.out.size));by_cases hlt:(256:Int)<(side:Int)
   ·go_wp2;go_roundw
    case rel=>exact⟨3,by decide,by decide,HN,HB⟩
    case measure =>
     have:=show(wr.setCell ⟨w.heap.size+1,1,none⟩ (.int .i64 3)).cell? ⟨w.heap.size+1,1,none⟩=some (.int .i64 3) from HN.out.blk.cell 1
     simp[q1,intOf,this]
   ·have FIN:=hIz (show CZ w side (.returned (.tuple #[.pointer (some ⟨w.heap.size+1,0,none⟩),.int .i64 0])) wr from⟨_,rfl,⟨_,⟨_,_,_,_,_,_,_,_,hq.out,⟨h1,h2,by decide,by decide,fun _=>⟨rfl,rfl,rfl,rfl⟩,fun _ e=>by cases e⟩,rfl⟩,hlo⟩,hbw.out⟩);clear HN HB hq hbw;go_wp2;refine bodyPost_ret (v:=.tuple #[.pointer (some ⟨w.heap.size+1,0,none⟩),.int .i64 0]) (by simp[results,Tryz.f42,go_sem]) rfl FIN.out
  ·have q1:wr.cell? ⟨w.heap.size+1,1,none⟩=some (.int .i64 3):=hq.out.blk.cell 1;have f1:=hq.out.blk.frozen 1;have HN:=hIz (hq.out.setD 4);have HB:=hIz (hbw.out.trans (((Upd.refl (fun k=>k=w.heap.size+1) wr).setCell (p:=⟨w.heap.size+1,1,none⟩) (.inl rfl) (.int .i64 ((4:Nat):Int))).below (fun k _ e=>by omega) hbw.out.size));by_cases hlt:(512:Int)<(side:Int)
   ·go_wp2;go_roundw
    case rel=>exact⟨4,by decide,by decide,HN,HB⟩
    case measure =>
     have:=show(wr.setCell ⟨w.heap.size+1,1,none⟩ (.int .i64 4)).cell? ⟨w.heap.size+1,1,none⟩=some (.int .i64 4) from HN.out.blk.cell 1
     simp[q1,intOf,this]
   ·have FIN:=hIz (show CZ w side (.returned (.tuple #[.pointer (some ⟨w.heap.size+1,0,none⟩),.int .i64 0])) wr from⟨_,rfl,⟨_,⟨_,_,_,_,_,_,_,_,hq.out,⟨h1,h2,by decide,by decide,fun _=>⟨rfl,rfl,rfl,rfl⟩,fun _ e=>by cases e⟩,rfl⟩,hlo⟩,hbw.out⟩);clear HN HB hq hbw;go_wp2;refine bodyPost_ret (v:=.tuple #[.pointer (some ⟨w.heap.size+1,0,none⟩),.int .i64 0]) (by simp[results,Tryz.f42,go_sem]) rfl FIN.out
  ·have q1:wr.cell? ⟨w.heap.size+1,1,none⟩=some (.int .i64 4):=hq.out.blk.cell 1;have FIN:=hIz (show CZ w side (.returned (.tuple #[.pointer (some ⟨w.heap.size+1,0,none⟩),.int .i64 0])) wr from⟨_,rfl,⟨_,⟨_,_,_,_,_,_,_,_,hq.out,⟨h1,h2,by decide,by decide,fun _=>⟨rfl,rfl,rfl,rfl⟩,fun _ e=>by cases e⟩,rfl⟩,hlo⟩,hbw.out⟩);clear hq hbw;go_wp2;refine bodyPost_ret (v:=.tuple #[.pointer (some ⟨w.heap.size+1,0,none⟩),.int .i64 0]) (by simp[results,Tryz.f42,go_sem]) rfl FIN.out
open Go.RowKit
theorem DA{m k:Nat}{last:Int}(h:k<m):(qsC m last)[k*4]?=some (.int .i64 ((k:Int)+2)):=by
 have hl:((List.range m).flatMap fun (i:Nat)=>iF ((i:Int)+2)).length=m*4:=by rw[dL _ 4 (fun _=>rfl),List.length_range]
 unfold qsC;rw[List.getElem?_append_left (by omega)];have:=cO (fun (i:Nat)=>iF ((i:Int)+2)) 4 (fun _=>rfl) (List.range m) k 0 k (by simp[h]) (by decide);rw[Nat.add_zero] at this;rw[this];rfl
theorem iK{m:Nat}{last:Int}:(qsC m last)[m*4]?=some (.int .i64 last):=by
 have hl:((List.range m).flatMap fun (i:Nat)=>iF ((i:Int)+2)).length=m*4:=by rw[dL _ 4 (fun _=>rfl),List.length_range]
 unfold qsC;rw[List.getElem?_append_right (by omega),hl,Nat.sub_self];rfl
theorem jF(w:World)(p side:Nat)(hs:1≤side)(q0:w.cell? ⟨p,0,none⟩=some (.int .i64 (side:Int))):Calls Tryz.prog 76 #[.pointer (some ⟨p,0,none⟩)] w (gB w (.bool true)):=by
 have h0:0<side:=by omega
 go_enter Tryz.func76,Tryz.ntmps76;go_wp2;go_ret;exact⟨rfl,rfl⟩
theorem rO(w:World)(p side i:Nat)(hs:i<side)(q0:w.cell? ⟨p,0,none⟩=some (.int .i64 (side:Int))):Calls Tryz.prog 77 #[.pointer (some ⟨p,0,none⟩),.int .i64 (i:Int)] w (gB w (.bool true)):=by
 have h0:(0:Int)≤(i:Int):=by omega
 have h1:(i:Int)<(side:Int):=by omega
 go_enter Tryz.func77,Tryz.ntmps77;go_wp2;go_ret;exact⟨rfl,rfl⟩
theorem cX(w:World)(p side:Nat)(hs:1≤side)(q0:w.cell? ⟨p,0,none⟩=some (.int .i64 (side:Int))):Calls Tryz.prog 176 #[.pointer (some ⟨p,0,none⟩)] w (gB w (.int .i64 (side:Int))):=by
 go_enter Tryz.func176,Tryz.ntmps176;go_wp2_with fail;refine(jF w p side hs q0).mono ?_;rintro e w' ⟨rfl,hw⟩;subst w';go_wp2;go_ret;exact⟨rfl,rfl⟩
theorem yB(w:World)(O:Nat→Option QRo)(p side dep cnt m:Nat)(last:Int)(L:List (List Nat))(pv lv:Value)(h:QuI w O p side dep cnt m last L pv lv)(hd:m<dep)(hd4:dep≤4)(hl:last=0∧m=0∨last=1∧m+1=dep) :
  Calls Tryz.prog 78 #[.pointer (some ⟨p,0,none⟩),.int .i64 0,.int .i64 0] w (Sam w (.int .i64 last)):=by
 have q1:w.cell? ⟨p,1,none⟩=some (.int .i64 (dep:Int)):=h.blk.cell 1;obtain⟨pg,pc,e,-,-,-,-,hc⟩:=aN h.rp (by omega);subst e;have SR:=hIz (show ∀W,Below w.heap.size w W→∀k,k≤m→W.cell? ⟨p,3,none⟩=some (.slice (some ⟨pg,0,none⟩) (m+1) pc)∧W.cell? ⟨pg,k*4,none⟩=some (.int .i64 (if k<m then (k:Int)+2 else last)) from fun W hb k hk=>by
  have hi:=h.upd (upF hb) (fun _ _=>id);refine⟨hi.blk.cell 3,?_⟩;have hcc:=(aN hi.rp (by omega));obtain⟨g',c',e',-,-,-,-,hc'⟩:=hcc;injection e' with e';injection e' with e';injection e' with e';subst e';by_cases hkm:k<m
  ·rw[if_pos hkm];exact(hc' _ _ (DA hkm)).1
  ·obtain rfl:k=m:=by omega
   rw[if_neg hkm];exact(hc' _ _ iK).1)
 obtain⟨n,hn⟩:∃n,m+1=n:=⟨_,rfl⟩;rw[hn] at SR;have hw1:IntKind.i64.wrap ((dep:Int)-1)=(dep:Int)-1:=by rw[IntKind.wrap_i64];omega
 clear h hc;go_enter Tryz.func78,Tryz.ntmps78;go_wp2_with fail;clear q1;go_loopw [7,8] (fun a l wr=>∃k:Nat,k≤m∧a=.int .i64 k∧l=.int .i64 ((dep:Int)-1-k)∧Hid (Below w.heap.size w wr)) (fun _ l _=>(intOf l+1).toNat)
 case atStart=>exact⟨0,Nat.zero_le _,rfl,by simp,hIz bR⟩
 case round =>
  obtain⟨k,hk,rfl,rfl,hb⟩:=hrel;obtain⟨l,hl0⟩:∃l:Nat,(dep:Int)-1-(k:Int)=(l:Int):=⟨dep-1-k,by omega⟩;rw[hl0];have hl10:l≤10:=by omega
  have hge:(0:Int)≤(l:Int):=by omega
  have hkn:(k:Int)<(n:Int):=by omega
  have hS:=SR.out wr.drew hb.out.drew k hk;have hwy:=nY l hl10 wr.drew;have HB:=hIz hb.out.drew;clear hb;go_upto_region 5 with (fail);refine aF (fun W=>W.cell? ⟨p,3,none⟩=some (.slice (some ⟨pg,0,none⟩) n pc)∧W.cell? ⟨pg,k*4,none⟩=some (.int .i64 (if k<m then (k:Int)+2 else last))) 13 [(0,true),(1,true),(2,true),(3,true),(4,true),(5,true),(6,true),(7,true),(9,true),(8,false),(10,true),(11,true),(12,true)] hS ?_;generalize wr.drew=V0 at hS hwy HB ⊢
  iterate 9 refine aC rfl ?_
  refine aM rfl rfl (fun K hK=>?_);go_simp;refine hwy.mono ?_;clear hwy;rintro e V1 ⟨rfl,b1⟩;have HB1:=hIz (tHn HB.out b1);have hS:=SR.out V1 HB1.out k hk;refine hK _ _ (fun _=>hS) ?_;clear hK K b1;(try simp only[Act.put,gA,gS,gZ,sA,sZ,sS])
  iterate 3 refine aC rfl ?_
  refine aG ?_;clear hS;by_cases hkm:k<m
  ·rw[if_pos hkm];have z0:((k:Int)+2==0)=false:=by simp;omega
   have z1:((l:Int)==0)=false:=by
    have:l≠0:=by omega
    simpa using this
   have w0:IntKind.i64.wrap ((k:Int)+1)=(k:Int)+1:=IntWalk.i64_in _ (by omega);have w1:IntKind.i64.wrap ((l:Int)-1)=(l:Int)-1:=by rw[IntKind.wrap_i64];omega
   go_wp2;go_roundw
   case rel=>exact⟨k+1,by omega,by go_num,by congr 1;omega,HB1⟩
   case measure=>simp[intOf] <;> omega
  ·rw[if_neg hkm];rcases hl with ⟨rfl,hm⟩|⟨rfl,hm⟩
   ·go_wp2;go_ret;exact⟨rfl,HB1.out⟩
   ·obtain rfl:l=0:=by omega
    go_wp2;go_ret;exact⟨rfl,HB1.out⟩
open Go.RowKit
def dX:Option (List Nat)→Nat→Nat→Bool
 | none,_,_=>false
 | some r,i,j=>iJ r i j
theorem yC(w:World)(F:Nat→Prop)(p side:Nat)(b:Option (List Nat))(h:QuS w F p side b)(i j:Nat)(hi:i<side)(hj:j<side)(hi6:i<64)(hj6:j<64) :
  Calls Tryz.prog 45 #[.pointer (some ⟨p,0,none⟩),.int .i64 (i:Int),.int .i64 (j:Int)] w (Sam w (.tuple #[.bool (dX b i j),.int .i64 0])):=by
 obtain⟨O,dep,cnt,m,last,L,pv,lv,hq,ok,-⟩:=h;have q0:w.cell? ⟨p,0,none⟩=some (.int .i64 (side:Int)):=hq.blk.cell 0;have d1:=ok.d1;have d2:=ok.d2;have s1:=ok.s1;have qi:(i:Int).tdiv 64=0:=by rw[Int.tdiv_eq_ediv_of_nonneg (by omega)];omega
 have qj:(j:Int).tdiv 64=0:=by rw[Int.tdiv_eq_ediv_of_nonneg (by omega)];omega
 have ri:(i:Int).tmod 64=i:=by rw[Int.tmod_eq_emod_of_nonneg (by omega)];omega
 have rj:(j:Int).tmod 64=j:=by rw[Int.tmod_eq_emod_of_nonneg (by omega)];omega
 cases b with
 | none =>
  obtain⟨rfl,rfl,rfl,rfl⟩:=ok.no rfl;have hlf:=yB w O p side dep 0 0 0 [] pv lv hq (by omega) d2 (.inl ⟨rfl,rfl⟩);clear hq ok d1 d2;go_enter Tryz.func45,Tryz.ntmps45;go_wp2_with fail;refine(jF w p side s1 q0).mono ?_;rintro e w' ⟨rfl,hw⟩;subst w';go_wp2_with fail;refine(rO w p side i hi q0).mono ?_;rintro e w' ⟨rfl,hw⟩;subst w';go_wp2_with fail;refine(rO w p side j hj q0).mono ?_;rintro e w' ⟨rfl,hw⟩;subst w';go_wp2_with fail;refine hlf.mono ?_;clear hlf;rintro e W1 ⟨rfl,b1⟩;have FIN:=hIz b1;clear b1 q0;go_wp2;refine bodyPost_ret (v:=.tuple #[.bool false,.int .i64 0]) (by simp[results,Tryz.f45,go_sem]) rfl ⟨rfl,FIN.out⟩
 | some r =>
  obtain⟨hm,rfl,rfl,rfl,hr⟩:=ok.is r rfl;have hlf:=yB w O p side dep (eP r) m 1 [r] pv lv hq (by omega) d2 (.inr ⟨rfl,hm⟩);obtain⟨lg,lc,e,-,-,-,-,-⟩:=aN hq.rl (by simp);subst e;have SR:=hIz (show ∀W,Below w.heap.size w W→W.cell? ⟨p,4,none⟩=some (.slice (some ⟨lg,0,none⟩) 1 lc)∧W.rangeAt lg 0 (wdC r) from fun W hb=>by
   have hi:=hq.upd (upF hb) (fun _ _=>id);refine⟨hi.blk.cell 4,fun j u hu=>?_⟩;obtain⟨g',c',e',-,-,-,-,hc'⟩:=aN hi.rl (by simp);injection e' with e';injection e' with e';injection e' with e';subst e';rw[Nat.zero_add];exact(hc' j u (by simpa[lfC] using hu)).1)
  have HR:=hIz hr;have hsz:=bO hr;clear hq ok d1 d2 hm hr;go_enter Tryz.func45,Tryz.ntmps45;go_wp2_with fail;refine(jF w p side s1 q0).mono ?_;rintro e w' ⟨rfl,hw⟩;subst w';go_wp2_with fail;refine(rO w p side i hi q0).mono ?_;rintro e w' ⟨rfl,hw⟩;subst w';go_wp2_with fail;refine(rO w p side j hj q0).mono ?_;rintro e w' ⟨rfl,hw⟩;subst w';go_wp2_with fail;refine hlf.mono ?_;clear hlf;rintro e W1 ⟨rfl,b1⟩;have HB1:=hIz b1;obtain⟨q4,hrg⟩:=SR.out W1 b1;have hcon:=IY W1 r HR.out i j hi6 hj6;clear b1 q0;unfold wdV at hcon;go_upto_region 8 with (fail);go_wp2_with (first | (refine wpList_load_mid rfl 164 _ rfl lg 0 rfl (wdC r) (.array 64 162) hrg Tryz.underlying164 rfl hsz ?_) | fail);refine hcon.mono ?_;clear hcon q4 hrg SR hsz;rintro e W2 ⟨rfl,b2⟩;have FIN:=hIz (tHn HB1.out b2);clear b2;go_wp2;refine bodyPost_ret (v:=.tuple #[.bool (iJ r i j),.int .i64 0]) (by simp[results,Tryz.f45,go_sem]) rfl ⟨rfl,FIN.out⟩
open Go.RowKit
def lC(i j:Nat):List Nat:=aV.set i (2 ^ j)
theorem bG:aV.length=64:=by simp[aV]
theorem eJ:Wd aV:=⟨bG,fun x hx=>by
 unfold aV at hx;rw[List.eq_of_mem_replicate hx];decide⟩
theorem jG{i:Nat}(hi:i<64):aV[i]?=some 0:=by unfold aV;rw[List.getElem?_replicate,if_pos hi]
theorem OA(j:Nat):(((2:Nat) ^ j:Nat):Int)=(2:Int) ^ j:=by push_cast;rfl
theorem oC{j:Nat}(hj:j<64):2 ^ j<18446744073709551616:=Nat.pow_lt_pow_right (a:=2) (by decide) hj
theorem DB{i j:Nat}(hj:j<64):Wd (lC i j):=⟨by simp[lC,bG],fun x hx=>by
 rcases List.mem_or_eq_of_mem_set hx with h|rfl
 ·exact eJ.fit x h
 ·exact oC hj⟩
theorem OB(w:World)(g0 i j:Nat)(hi:i<64)(hj:j<64)(hr:Blk w g0 100 #[.int .i64 (i:Int),.int .i64 (j:Int)]):Calls Tryz.prog 145 #[.slice (some ⟨g0,0,none⟩) 1 1] w (Sam w (.tuple #[wdV (lC i j),.int .i64 0])):=by
 have k0:=(Blk.new w 164 Z64).alloc (.cells Z64 164);have k1:=Blk.new (w.alloc (.cells Z64 164)) 164 Z64;simp only[World.size_alloc] at k1
 have u0:Below w.heap.size w ((w.alloc (.cells Z64 164)).alloc (.cells Z64 164)):=by(repeat (first | exact Below.refl _ _ | apply Below.drew | refine Below.alloc ?_ (by first | exact Nat.le_refl _ | (simp;done) | (simp;omega)) _ | refine Below.setCell ?_ (by first | exact Nat.le_refl _ | (simp;done) | (simp;omega)) _))
 have H:=aI4 (hr.upd (upF u0) id) (aY.mp k0) (aY.mp k1) u0;have hg0:=hr.lt;clear k0 k1 u0 hr;go_enter Tryz.func145,Tryz.ntmps145;go_upto_region 2 with (fail);generalize (w.alloc (.cells Z64 164)).alloc (.cells Z64 164)=W0 at H ⊢;go_wp2_with fail;go_loopw [9] (fun t wr=>∃k:Nat,k≤1∧t=.int .i64 k∧Hid (Blk wr g0 100 #[.int .i64 (i:Int),.int .i64 (j:Int)])∧Hid (Blk wr w.heap.size 164 (wdC aV).toArray)∧Hid (Blk wr (w.heap.size+1) 164 (wdC (if k=0 then aV else lC i j)).toArray)∧Hid (Below w.heap.size w wr)) (fun t _=>1-(intOf t).toNat)
 case atStart=>exact⟨0,Nat.zero_le _,rfl,hIz H.out.1,hIz H.out.2.1,hIz H.out.2.2.1,hIz H.out.2.2.2⟩
 case round =>
  obtain⟨k,hk,rfl,hC,hZ,hB,hbw⟩:=hrel;by_cases hlt:k<1
  ·obtain rfl:k=0:=by omega
   have q0:wr.cell? ⟨g0,0,none⟩=some (.int .i64 (i:Int)):=hC.out.cell 0;have q1:wr.cell? ⟨g0,1,none⟩=some (.int .i64 (j:Int)):=hC.out.cell 1;have k5:=Blk.new wr 100 #[.int .i64 (i:Int),.int .i64 (j:Int)];have b5:Below wr.heap.size wr (wr.alloc (.cells #[.int .i64 (i:Int),.int .i64 (j:Int)] 100)):=bR.alloc (Nat.le_refl _) _;have H5:=aI5 k5 (hC.out.alloc (.cells #[.int .i64 (i:Int),.int .i64 (j:Int)] 100)) (hZ.out.alloc (.cells #[.int .i64 (i:Int),.int .i64 (j:Int)] 100)) (hB.out.alloc (.cells #[.int .i64 (i:Int),.int .i64 (j:Int)] 100)) (tHn hbw.out b5);have hlw:w.heap.size+1<wr.heap.size:=hB.out.lt;clear k5 b5 hC hZ hB hbw;go_upto_region 5 with (fail);generalize wr.alloc (.cells #[.int .i64 (i:Int),.int .i64 (j:Int)] 100)=W5 at H5 ⊢;clear q0 q1;have q0:W5.cell? ⟨wr.heap.size,0,none⟩=some (.int .i64 (i:Int)):=H5.out.1.cell 0;have q1:W5.cell? ⟨wr.heap.size,1,none⟩=some (.int .i64 (j:Int)):=H5.out.1.cell 1;go_wp2_with fail;refine(kY i hi W5).mono ?_;rintro e w' ⟨rfl,hw⟩;subst w';go_wp2_with fail;refine(kY j hj W5).mono ?_;rintro e w' ⟨rfl,hw⟩;subst w';go_upto_region 7 with (fail);have kB:Blk W5 (w.heap.size+1) 164 (wdC aV).toArray:=H5.out.2.2.2.1;have c3:W5.drew.cell? ⟨w.heap.size+1,i,none⟩=some (.int .u64 0):=(kB.drew.cell i).trans (by simpa using gH (jG hi));have f3:W5.drew.frozen? ⟨w.heap.size+1,i,none⟩=false:=kB.drew.frozen i;have hS:W5.drew.cell? ⟨wr.heap.size,0,none⟩=some (.int .i64 (i:Int))∧W5.drew.cell? ⟨wr.heap.size,1,none⟩=some (.int .i64 (j:Int))∧W5.drew.cell? ⟨w.heap.size+1,i,none⟩=some (.int .u64 0):=⟨q0,q1,c3⟩
   have hiI:(i:Int)<(64:Int):=by omega
   have hj0:¬((j:Int)<0):=by omega
   have HK:=hIz kB;clear q0 q1 kB;obtain⟨q,hq⟩:∃q:Nat,2 ^ j=q:=⟨_,rfl⟩;have hq64:q<18446744073709551616:=by rw[← hq];exact oC hj
   have hqi:((q:Nat):Int)=(2:Int) ^ j:=by rw[← hq,Int.natCast_pow];rfl
   have hwp:IntKind.u64.wrap ((2:Int) ^ j)=(q:Int):=by
    rw[← hqi,IntKind.wrap_u64];omega
   have hor:=bits_or_u64_nat 0 q (by decide) hq64;rw[Nat.zero_or] at hor;have hor:bits .or .u64 0 (q:Int)=(q:Int):=hor;clear hqi hq64;have HQ:=hIz hq;clear hq;refine aF (fun W=>W.cell? ⟨wr.heap.size,0,none⟩=some (.int .i64 (i:Int))∧W.cell? ⟨wr.heap.size,1,none⟩=some (.int .i64 (j:Int))∧W.cell? ⟨w.heap.size+1,i,none⟩=some (.int .u64 0)) 9 [(0,true),(1,true),(2,true),(3,true),(4,true),(5,true),(6,true),(7,true),(8,true),(9,false)] hS ?_
   iterate 9 refine aC rfl ?_
   refine aM rfl rfl (fun K hK=>?_);obtain⟨z0,z1,z2⟩:=hS;go_simp;refine hK _ _ (fun h=>absurd rfl h) ?_;clear hK K z0 z1 z2 f3 c3;(try simp only[Act.put,gA,gS,gZ,sA,sZ,sS])
   refine aG ?_;have us:Upd (fun k=>k=w.heap.size+1) W5 ((W5.setCell ⟨w.heap.size+1,i,none⟩ (.int .u64 (q:Int))).drew):=((Upd.refl (fun k=>k=w.heap.size+1) W5).setCell (p:=⟨w.heap.size+1,i,none⟩) (.inl rfl) _).drew;have HN:=hIz (show Blk ((W5.setCell ⟨w.heap.size+1,i,none⟩ (.int .u64 (q:Int))).drew) g0 100 #[.int .i64 (i:Int),.int .i64 (j:Int)]∧Blk ((W5.setCell ⟨w.heap.size+1,i,none⟩ (.int .u64 (q:Int))).drew) w.heap.size 164 (wdC aV).toArray∧Blk ((W5.setCell ⟨w.heap.size+1,i,none⟩ (.int .u64 (q:Int))).drew) (w.heap.size+1) 164 (wdC (lC i j)).toArray∧Below w.heap.size w ((W5.setCell ⟨w.heap.size+1,i,none⟩ (.int .u64 (q:Int))).drew) from by
    refine⟨H5.out.2.1.upd us (by omega),H5.out.2.2.1.upd us (by omega),?_,H5.out.2.2.2.2.trans (us.below (fun k _ e=>by omega) (by have:=H5.out.2.2.2.2.size;exact this))⟩;have:=(HK.out.set i (.int .u64 (q:Int))).drew;rw[lS] at this;unfold lC;rw[HQ.out];exact this)
   clear us H5 HK;generalize (W5.setCell ⟨w.heap.size+1,i,none⟩ (.int .u64 (q:Int))).drew=W6 at HN ⊢;go_wp2;go_roundw
   case rel=>exact⟨1,by decide,by go_num,hIz HN.out.1,hIz HN.out.2.1,hIz HN.out.2.2.1,hIz HN.out.2.2.2⟩
   case measure=>simp[intOf]
  ·obtain rfl:k=1:=by omega
   have hB2:Blk wr (w.heap.size+1) 164 (wdC (lC i j)).toArray:=hB.out;have hz:=DB (i:=i) hj;obtain⟨r,hrr⟩:∃r,lC i j=r:=⟨_,rfl⟩;rw[hrr] at hB2 hz;have HRR:=hIz hrr;clear hrr;have hrg:=bS hB2;have hsz:=bO hz;have hth:wr.there w.heap.size 0 (wdC r).toArray.size:=kW hZ.out (by simp[bJ,hz.len,aV]);have hsz2:(Tryz.prog.info? 164).map (·.size)=some (wdC r).toArray.size:=by simpa using hsz
   have h1c:(wdC r).toArray.all (·.oneCell')=true:=all_oneCell_toArray (gL _);have FIN:=hIz (show Below w.heap.size w (wr.setCells w.heap.size 0 (wdC r))∧(wr.setCells w.heap.size 0 (wdC r)).rangeAt w.heap.size 0 (wdC r) from⟨hbw.out.trans ((Upd.setCells (F:=fun q=>q=w.heap.size) (.inl rfl) _ _ (Upd.refl _ _)).below (fun q _ e=>by omega) hbw.out.size),World.rangeAt_setCells_same _ _ _ _ (by simpa using hth)⟩);clear hC hZ hB hbw hB2;unfold wdV;go_upto_region 9 with (fail);go_wp2_with (first | (refine wpList_load_mid rfl 164 _ rfl (w.heap.size+1) 0 rfl (wdC r) (.array 64 162) hrg Tryz.underlying164 rfl hsz ?_) | (refine wpList_store_mid rfl 164 _ _ rfl w.heap.size 0 (wdC r).toArray rfl rfl hth hsz2 h1c ?_));have hlv:=run_loadVar_mid (P:=Tryz.prog) _ w.heap.size 0 164 (wdC r) (.array 64 162) FIN.out.2 Tryz.underlying164 rfl hsz;refine bodyPost_ret (v:=.tuple #[.agg (wdC r).toArray,.int .i64 0]) (by simp[results,Tryz.f145,Act.put,asAddr,hlv,Result.andThen,Sem.run_bind]) rfl ⟨by rw[HRR.out];rfl,FIN.out.1⟩
open Go.RowKit
theorem DC(W:World){r:List Nat}{i x:Nat}(h:r[i]?=some x):(part 162 (wdC r).toArray (i*1)).run Tryz.prog W=.ok (.int .u64 (x:Int)) W:=by
 have h2:=gH h;simp[part,isAgg,run_underlying Tryz.underlying162,h2]
theorem lV(W:World)(d:Nat){r s:List Nat}(hr:r.length=64)(hs:s.length=64):∀(is:List Nat),(∀i∈is,i<64)→(Op.eqItems (d+1) 162 1 (wdC r).toArray (wdC s).toArray is).run Tryz.prog W=.ok (decide (∀i∈is,r[i]?=s[i]?)) W
 | [],_=>by simp[Op.eqItems]
 | i::is,hi=>by
  have hi0:=hi i (by simp);obtain⟨x,hx⟩:∃x,r[i]?=some x:=⟨r[i]'(by omega),gEz _⟩;obtain⟨y,hy⟩:∃x,s[i]?=some x:=⟨s[i]'(by omega),gEz _⟩;have h9:=run_equalIn_int (P:=Tryz.prog) W d 162 .u64 .u64 (x:Int) (y:Int) Tryz.underlying162;have ih:=lV W d hr hs is (fun j hj=>hi j (by simp[hj]));simp only[Op.eqItems,Sem.run_bind,DC W hx,DC W hy,Result.andThen_ok,h9]
  by_cases hxy:x=y
  ·subst hxy;simp only[beq_self_eq_true,Bool.not_true,Bool.false_eq_true,if_false]
   rw[ih];simp[hx,hy]
  ·have:((x:Int)==(y:Int))=false:=beq_eq_false_iff_ne.2 (fun e=>hxy (by omega));rw[this];simp[hx,hy,hxy]
theorem MQ{r s:List Nat}(hr:r.length=64)(hs:s.length=64):decide (∀i∈List.range 64,r[i]?=s[i]?)=decide (r=s):=by
 rw[Bool.eq_iff_iff,decide_eq_true_iff,decide_eq_true_iff];constructor
 ·intro h;apply List.ext_getElem?
  intro i;by_cases hi:i<64
  ·exact h i (List.mem_range.2 hi)
  ·rw[List.getElem?_eq_none (by omega),List.getElem?_eq_none (by omega)]
 ·rintro rfl i _;rfl
theorem yD:(Tryz.prog.info? 162).isSome=true:=by kernel_rfl
theorem tY:Tryz.prog.cellsOf 162=1:=by kernel_rfl
theorem DD(W:World){r s:List Nat}(hr:Wd r)(hs:Wd s):(binOp .eql 164 (.agg (wdC r).toArray) (.agg (wdC s).toArray)).run Tryz.prog W=.ok (.bool (decide (r=s))) W:=by
 obtain⟨i0,hi0⟩:=Option.isSome_iff_exists.1 yD;have e:(Op.equal 164 (.agg (wdC r).toArray) (.agg (wdC s).toArray)).run Tryz.prog W=.ok (decide (r=s)) W:=by
  show(Op.equalIn (9999+1) _ _ _).run _ _=_
  rw[run_equalIn_array (P:=Tryz.prog) W 9999 _ _ Tryz.underlying164 hi0,tY];rw[lV W 9998 hr.len hs.len _ (fun i hi=>List.mem_range.1 hi),MQ hr.len hs.len]
 simp only[binOp]
 simp[e]
end Go.Proofs.YteffnejneoocgaaGreatDoor
