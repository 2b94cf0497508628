/- The document's answer of layer 16: a name, a label, an edge ahead of another one, a text among a rising list; Edges: the lone nodes; The document's answer of layer 16: two rising lists of texts as one; The library's contracts laid at this program: which function, which type bears which number; Edges: the text of a graph; The library's contracts laid at this program: which function, which type bears which number; The library's contracts laid at this program: which function, which type bears which number; Edges: a list of texts in order, each once; The library's contracts laid at this program: which function, which type bears which number; Edges: the labels of a graph. -/
import Derived.Test.YtddffnonlmfhdaaGreatDoorU01
import Derived.Shelf.Strings.BuilderK
import Derived.Test.YtddffnonlmfhdaaGreatDoorProg
import Derived.Laws.Concat
import Derived.Shelf.SlicesE.Clone
import Derived.Shelf.SlicesE.Compact
import Derived.Shelf.SlSortCmp.Whole1
import Derived.Shelf.SlSortCmp.NoneTotal
import Derived.Shelf.SortM.Plain
import Derived.Shelf.SortM.SortNone
set_option linter.unusedVariables false
set_option linter.unusedSimpArgs false
set_option maxHeartbeats 16000000
set_option maxRecDepth 100000
namespace Go.Proofs.YtddffnonlmfhdaaGreatDoor
open Go.RowKit
theorem mK(n:Nat)(w:World):Calls Tryz.prog 140 #[.int .u8 (n:Int)] w (eJ w (.bool (yL n))):=by
 have key:∀b,yL n=b→Calls Tryz.prog 140 #[.int .u8 (n:Int)] w (eJ w (.bool b)):=by
  intro b hb;have HB:=hIz hb;clear hb;go_enter Tryz.func140,Tryz.ntmps140;go_wp2
  all_goals
   go_ret;refine⟨fV ?_,rfl⟩;rw[← HB.out,Bool.eq_iff_iff];simp[yL]
   try omega
 exact key _ rfl

theorem dA(s:Txt)(w:World)(hs:s.size≤9223372036854775807):Calls Tryz.prog 97 #[.string s] w (eJ w (.bool (cH s))):=by
 obtain⟨b,hb⟩:∃b,cH s=b:=⟨_,rfl⟩;rw[hb];have HB0:=hIz hb;clear hb;go_enter Tryz.func97,Tryz.ntmps97;go_wp2_with fail;go_loop [3] (fun i=>∃k:Nat,k≤s.size∧i=.int .i64 k∧Hid (∀j (hj:j<s.size),j<k→yL s[j].toNat=true)) (fun i=>s.size-(intOf i).toNat)
 case atStart=>exact⟨0,Nat.zero_le _,rfl,hIz (fun j _ hj=>by omega)⟩
 case round =>
  obtain⟨k,hk,rfl,hall⟩:=hrel;by_cases hlt:k<s.size
  ·cases hb:yL s[k].toNat with
   | true =>
    have HB:=hIz hb;go_wp2_with fail;refine(mK _ _).mono ?_;rintro e w' ⟨rfl,rfl⟩;go_wp2;go_round
    case rel=>exact⟨k+1,by omega,by go_num,hIz (fun j hj h=>by
     rcases Nat.lt_succ_iff_lt_or_eq.1 h with h|rfl
     ·exact hall.out j hj h
     ·exact HB.out)⟩
    case measure=>simp[intOf];omega
   | false =>
    have HB:=hIz hb;go_wp2_with fail;refine(mK _ _).mono ?_;rintro e w' ⟨rfl,rfl⟩;go_wp2;go_ret;exact⟨fV (by rw[← HB0.out,wO hlt HB.out]),rfl⟩
  ·obtain rfl:k=s.size:=by omega
   by_cases hl:1≤s.size∧s.size≤16
   ·have h1:(1:Int)≤(s.size:Int):=by omega
    have h2:(s.size:Int)≤16:=by omega
    have HL:=hIz hl;clear hl;go_wp2;go_ret;exact⟨fV (by rw[← HB0.out,sK HL.out (fun j hj=>hall.out j hj hj)]),rfl⟩
   ·have HL:=hIz (pL hl);by_cases h1:(1:Int)≤(s.size:Int)
    ·have h2:¬((s.size:Int)≤16):=by omega
     clear hl;go_wp2;go_ret;exact⟨fV (by rw[← HB0.out,HL.out]),rfl⟩
    ·clear hl;go_wp2;go_ret;exact⟨fV (by rw[← HB0.out,HL.out]),rfl⟩

theorem mL(s:Txt)(w:World)(hs:s.size≤9223372036854775807):Calls Tryz.prog 99 #[.string s] w (eJ w (.bool (eP s))):=by
 have key:∀b,eP s=b→Calls Tryz.prog 99 #[.string s] w (eJ w (.bool b)):=by
  intro b hb;cases hn:cH s with
  | false =>
   have e:b=false:=by rw[← hb,eP,hn,Bool.false_and]
   subst e;have hcon:=dA s w hs;rw[hn] at hcon;clear hb hn;go_enter Tryz.func99,Tryz.ntmps99;go_wp2_with fail;refine hcon.mono ?_;rintro e w' ⟨rfl,rfl⟩;go_wp2;go_ret;exact⟨rfl,rfl⟩
  | true =>
   have h1:0<s.size:=by
    unfold cH at hn;simp at hn
    omega
   have hb':decide (97≤(s[0].toNat:Int)∧(s[0].toNat:Int)≤122)=b:=by
    rw[← hb,eP,hn,Bool.true_and,zZ h1];exact decide_eq_decide.2 (by omega)
   have hcon:=dA s w hs;rw[hn] at hcon;have HB:=hIz hb';have h2:(0:Int)<(s.size:Int):=by omega
   clear hb hn hb';go_enter Tryz.func99,Tryz.ntmps99;go_wp2_with fail;refine hcon.mono ?_;rintro e w' ⟨rfl,rfl⟩;go_wp2
   all_goals
    go_ret;refine⟨fV ?_,rfl⟩;rw[← HB.out,Bool.eq_iff_iff];simp
    try omega
 exact key _ rfl

theorem txt_beq(a b:Txt):(ByteArray.toList a==ByteArray.toList b)=decide (a=b):=by
 rw[Bool.eq_iff_iff,beq_iff_eq,decide_eq_true_iff,fE,fE];exact⟨nN,fun h=>by rw[h]⟩
theorem NH(x y:Ed):ltE x y=if x.fr=y.fr then (if x.lb=y.lb then ltT x.to y.to else ltT x.lb y.lb) else ltT x.fr y.fr:=rfl
theorem pN(x y:Ed)(w:World):Calls Tryz.prog 136 #[x.agg,y.agg] w (Sam w (.bool (ltE x y))):=by
 obtain⟨a0,a1,a2⟩:=x;obtain⟨b0,b1,b2⟩:=y;rw[NH];dsimp only
 obtain⟨v0,e0⟩:∃v,ltT a0 b0=v:=⟨_,rfl⟩;obtain⟨v1,e1⟩:∃v,ltT a1 b1=v:=⟨_,rfl⟩;obtain⟨v2,e2⟩:∃v,ltT a2 b2=v:=⟨_,rfl⟩;rw[e0,e1,e2];unfold ltT at e0 e1 e2;obtain⟨r,hr⟩:∃r,(if a0=b0 then (if a1=b1 then v2 else v1) else v0)=r:=⟨_,rfl⟩;rw[hr];have HR:=hIz hr;clear hr;have k0:=(Blk.new w 32 #[.string a0,.string a1,.string a2]).alloc (.cells #[.string b0,.string b1,.string b2] 32);have k1:=Blk.new (w.alloc (.cells #[.string a0,.string a1,.string a2] 32)) 32 #[.string b0,.string b1,.string b2];simp only[World.size_alloc] at k1
 have bb:Below w.heap.size w ((w.alloc (.cells #[.string a0,.string a1,.string a2] 32)).alloc (.cells #[.string b0,.string b1,.string b2] 32)):=by(repeat (first | exact Below.refl _ _ | apply Below.drew | refine Below.alloc ?_ (by first | exact Nat.le_refl _ | (simp;done) | (simp;omega)) _ | refine Below.setCell ?_ (by first | exact Nat.le_refl _ | (simp;done) | (simp;omega)) _))
 have HK:=aI3 k0 k1 bb;clear k0 k1 bb;unfold Ed.agg;go_enter Tryz.func136,Tryz.ntmps136;go_upto_region 1 with (fail);generalize (w.alloc (.cells #[.string a0,.string a1,.string a2] 32)).alloc (.cells #[.string b0,.string b1,.string b2] 32)=W0 at HK ⊢;have c00:W0.cell? ⟨w.heap.size,0,none⟩=some (.string a0):=HK.out.1.cell 0;have c01:W0.cell? ⟨w.heap.size,1,none⟩=some (.string a1):=HK.out.1.cell 1;have c02:W0.cell? ⟨w.heap.size,2,none⟩=some (.string a2):=HK.out.1.cell 2;have c10:W0.cell? ⟨w.heap.size+1,0,none⟩=some (.string b0):=HK.out.2.1.cell 0;have c11:W0.cell? ⟨w.heap.size+1,1,none⟩=some (.string b1):=HK.out.2.1.cell 1;have c12:W0.cell? ⟨w.heap.size+1,2,none⟩=some (.string b2):=HK.out.2.1.cell 2;go_wp2
 all_goals
  go_ret;refine⟨fV ?_,HK.out.2.2⟩;rw[← HR.out];simp only[txt_beq] at *
  simp_all

theorem sO(w:World)(A:Option Addr)(c:Nat)(N:List Txt)(s:Txt)(h:aV w A (aC N))(hup:cL ltT N)(hl:N.length*16≤140737488355328) :
  Calls Tryz.prog 137 #[.slice A N.length c,.string s] w (eJ w (.bool (inB s N))):=by
 obtain⟨b,hb⟩:∃b,inB s N=b:=⟨_,rfl⟩;rw[hb];obtain⟨n,hn⟩:∃n,N.length=n:=⟨_,rfl⟩;rw[hn] at hl ⊢;have H:=aI4 h hup hb hn;clear h hup hb hn;go_enter Tryz.func137,Tryz.ntmps137;go_wp2_with fail;go_loop [5,6,7] (fun lo hi _=>∃i j:Nat,i≤j∧j≤n∧lo=.int .i64 i∧hi=.int .i64 j∧Hid ((∀k x,k<i→N[k]?=some x→ltT x s=true)∧∀k x,j≤k→N[k]?=some x→ltT x s=false)) (fun lo hi _=>(intOf hi).toNat-(intOf lo).toNat)
 case atStart=>exact⟨0,n,Nat.zero_le _,Nat.le_refl _,rfl,rfl,hIz ⟨fun k x hk=>by omega,fun k x hk hx=>by have:=(gO.1 hx).1;have:=H.out.2.2.2;omega⟩⟩
 case round =>
  obtain⟨i,j,hij,hjn,rfl,rfl,hs⟩:=hrel;by_cases hlt:i<j
  ·have hltI:(i:Int)<(j:Int):=by omega
   have hw1:IntKind.i64.wrap ((i:Int)+(j:Int))=(i:Int)+(j:Int):=IntWalk.i64_in _ (by omega);obtain⟨k,hk⟩:∃k,(i+j) / 2=k:=⟨_,rfl⟩;have hq:((i:Int)+(j:Int)).tdiv 2=(k:Int):=by
    rw[Int.tdiv_eq_ediv_of_nonneg (by omega),← hk];omega
   have hkj:k<j:=by omega
   have hik:i≤k:=by omega
   have hkn:k<n:=by omega
   have hw2:IntKind.i64.wrap ((k:Int)+1)=(k:Int)+1:=IntWalk.i64_in _ (by omega);have hw3:IntKind.i64.wrap (k:Int)=(k:Int):=IntWalk.i64_in _ (by omega);obtain⟨x,hx⟩:∃x,N[k]?=some x:=⟨N[k]'(by rw[H.out.2.2.2];exact hkn),gEz _⟩;obtain⟨ab,ao,rfl,x0⟩:=H.out.1.txt hx;cases hlx:ltT x s with
   | true =>
    have HX:=aI2 hx hlx;unfold ltT at hlx;clear hx hk;go_wp2;go_round
    case rel=>exact⟨k+1,j,by omega,hjn,by go_num,rfl,hIz ⟨fun k' x' hk' hx'=>by
      rcases Nat.lt_succ_iff_lt_or_eq.1 hk' with h|rfl
      ·have hr:ltT x' x=true:=(List.pairwise_iff_getElem.1 H.out.2.1) k' k (gO.1 hx').1 (gO.1 HX.out.1).1 h |> fun h=>by
        rw[(gO.1 hx').2,(gO.1 HX.out.1).2] at h;exact h
       exact dW.tr _ _ _ hr HX.out.2
      ·rw[HX.out.1] at hx';injection hx' with e;rw[← e];exact HX.out.2,hs.out.2⟩⟩
    case measure=>simp[intOf];omega
   | false =>
    have HX:=aI2 hx hlx;unfold ltT at hlx;clear hx hk;go_wp2;go_round
    case rel=>exact⟨i,k,hik,by omega,rfl,rfl,hIz ⟨hs.out.1,fun k' x' hk' hx'=>by
      rcases Nat.lt_or_eq_of_le hk' with h|rfl
      ·have hr:ltT x x'=true:=(List.pairwise_iff_getElem.1 H.out.2.1) k k' (gO.1 HX.out.1).1 (gO.1 hx').1 h |> fun h=>by
        rw[(gO.1 hx').2,(gO.1 HX.out.1).2] at h;exact h
       cases e:ltT x' s
       ·rfl
       ·have:=dW.tr _ _ _ hr e;rw[HX.out.2] at this;cases this
      ·rw[HX.out.1] at hx';injection hx' with e;rw[← e];exact HX.out.2⟩⟩
    case measure=>simp[intOf];omega
  ·obtain rfl:i=j:=by omega
   by_cases hin:i<n
   ·have hinI:(i:Int)<(n:Int):=by omega
    obtain⟨x,hx⟩:∃x,N[i]?=some x:=⟨N[i]'(by rw[H.out.2.2.2];exact hin),gEz _⟩;obtain⟨ab,ao,rfl,x0⟩:=H.out.1.txt hx;have key:b=decide (x=s):=by
     rw[← H.out.2.2.1,Bool.eq_iff_iff,aQ,decide_eq_true_iff];constructor
     ·intro hm;obtain⟨k,hk,e⟩:=List.getElem_of_mem hm;have hk':N[k]?=some s:=by rw[gEz hk,e]
      rcases Nat.lt_trichotomy k i with h|rfl|h
      ·have:=hs.out.1 k s h hk';rw[dW.irr] at this;cases this
      ·rw[hx] at hk';injection hk'
      ·have h1:=hs.out.2 i x (Nat.le_refl _) hx;have hr:ltT x s=true:=(List.pairwise_iff_getElem.1 H.out.2.1) i k (gO.1 hx).1 hk h |> fun h=>by
        rw[(gO.1 hx).2,e] at h;exact h
       rw[h1] at hr;cases hr
     ·rintro rfl;exact mG hx
    have HK:=hIz key;clear key hx;go_wp2
    all_goals
     go_ret;refine⟨fV ?_,rfl⟩;rw[HK.out];exact txt_beq _ _
   ·obtain rfl:i=n:=by omega
    have key:b=false:=by
     cases b with
     | false=>rfl
     | true =>
      obtain⟨k,hk,e⟩:=List.getElem_of_mem (aQ.1 H.out.2.2.1);have:=hs.out.1 k s (by have:=H.out.2.2.2;omega) (by rw[gEz hk,e]);rw[dW.irr] at this;cases this
    have HK:=hIz key;clear key;go_wp2
    all_goals
     go_ret;exact⟨fV HK.out.symm,rfl⟩
open Go.RowKit
def jW(w:World)(L:List Txt)(e:Ending)(w':World):Prop:=∃v,e=.returned v∧w'.ownsRow w.heap.size 9 1 v L.length (aC L)∧Below w.heap.size w w'
theorem dU(w:World)(base:Nat)(v:Value)(L:List Txt)(own:w.ownsRow base 9 1 v L.length (aC L))(s:Txt)(hl:(L.length+1)*16≤140737488355328)(hb:base≤w.heap.size) :
  ∃v' w',(Builtin.append_ #[26,26] 26 #[v,.slice (some ⟨w.heap.size,0,none⟩) 1 1]).run Tryz.prog (w.alloc (.cells #[.string s] 9))=.ok v' w'∧w'.ownsRow base 9 1 v' (L++[s]).length (aC (L++[s]))∧Upd (fun k=>v.ownBlock=some k) w w'∧∀k,v.ownBlock=some k→base≤k:=by
 obtain⟨v',w',happ,own',up,-⟩:=eV w base 26 9 1 16 _ Tryz.underlying26 bJ rfl (by decide) v L.length _ own [.string s] 1 rfl (by simp;exact rfl) hl (by unfold maxLen;omega) hb;refine⟨v',w',happ,?_,up,fun k hk=>(own.lt k hk).1⟩;rw[List.length_append,aC,List.map_append];exact own'

structure zY(w:World)(r:Nat)(L:List Txt)(m:Nat):Prop where
 ex:∃kv,cX w Tryz.prog 9 r kv∧(∀q∈kv,∃(s:Txt) (v:Int),q=(.string s,.int .i64 v)∧1≤v∧v≤m∧s∈L)∧∀s∈L,∃v,((.string s,v):Value × Value)∈kv
theorem zY.upd{w w':World}{r m:Nat}{L:List Txt}{F:Nat→Prop}(h:zY w r L m)(hu:Upd F w w')(hF:¬F r):zY w' r L m:=by
 obtain⟨kv,h1,h2,h3⟩:=h.ex;exact⟨kv,h1.upd hu hF,h2,h3⟩
theorem zY.lt{w:World}{r m:Nat}{L:List Txt}(h:zY w r L m):r<w.heap.size:=by
 obtain⟨kv,h1,-⟩:=h.ex;exact h1.lt
theorem zY.look{w:World}{r m:Nat}{L:List Txt}(h:zY w r L m){s:Txt}(hs:cT s) :
  ∃v:Int,(Instr.lookup 105 (.map (some r)) (.string s) false).run Tryz.prog w=.ok (.int .i64 v) w∧((v==0)=!inB s L)∧0≤v∧v≤m:=by
 obtain⟨kv,h1,h2,h3⟩:=h.ex;by_cases hin:s∈L
 ·obtain⟨v,hv⟩:=h3 s hin;obtain⟨t,x,e,hx1,hx2,-⟩:=h2 _ hv;injection e with e1 e2;subst e2;refine⟨x,h1.look_hit fK Tryz.underlying105 hv false,?_,by omega,hx2⟩;rw[aQ.2 hin];simp
  omega
 ·refine⟨0,h1.look_miss fK Tryz.underlying105 (lO hs) (fun q hq e=>?_) (by kernel_rfl) false,by rw[show inB s L=false from by cases e:inB s L;rfl;exact(hin (aQ.1 e)).elim];rfl,by omega,by omega⟩;obtain⟨t,x,rfl,-,-,ht⟩:=h2 q hq;simp only[Value.string.injEq] at e
  subst e;exact hin ht
theorem zY.step{w:World}{r m:Nat}{L:List Txt}(h:zY w r L m){s:Txt}(hs:cT s){x:Int}(h0:0≤x)(hx:x≤m) :
  ∃w',(Instr.mapUpdate 105 (.map (some r)) (.string s) (.int .i64 (x+1))).run Tryz.prog w=.ok () w'∧zY w' r (s::L) (m+1)∧Upd (fun q=>q=r) w w':=by
 obtain⟨kv,h1,h2,h3⟩:=h.ex;have up:∀{w':World},w.grownBy w' (some r)→Upd (fun q=>q=r) w w':=fun hg=>(Upd.of_grown hg).mono (fun i _ e=>by injection e with e;exact e.symm)
 by_cases hin:∃v,((.string s,v):Value × Value)∈kv
 ·obtain⟨v,hv⟩:=hin;obtain⟨w',j,hr,hj,hm,hg,-⟩:=h1.put_hit fK Tryz.underlying105 (.int .i64 (x+1)) hv;refine⟨w',hr,⟨_,hm,fun q hq=>?_,fun t ht=>?_⟩,up hg⟩
  ·rcases List.mem_or_eq_of_mem_set hq with hq|rfl
   ·obtain⟨t,y,e,a,b,c⟩:=h2 q hq;exact⟨t,y,e,a,by omega,List.mem_cons_of_mem _ c⟩
   ·exact⟨s,x+1,rfl,by omega,by omega,List.mem_cons_self⟩
  ·have hjl:=(gO.1 hj).1;have key:∀y,((.string t,y):Value × Value)∈kv→∃y,((.string t,y):Value × Value)∈kv.set j (.string s,.int .i64 (x+1)):=fun y hy=>by
    obtain⟨i,hi⟩:=List.mem_iff_getElem?.1 hy;by_cases e:j=i
    ·subst e;rw[hj] at hi;injection hi with hi;injection hi with hi _;rw[← hi];exact⟨_,mG (i:=j) (by rw[List.getElem?_set_self hjl])⟩
    ·exact⟨y,mG (i:=i) (by rw[List.getElem?_set_ne e];exact hi)⟩
   rcases List.mem_cons.1 ht with rfl|ht
   ·exact key _ hv
   ·obtain⟨y,hy⟩:=h3 t ht;exact key y hy
 ·obtain⟨w',hr,hm,hg,-⟩:=h1.put_miss fK Tryz.underlying105 (.int .i64 (x+1)) (lO hs) (fun q hq e=>hin ⟨q.2,by rw[← e];exact hq⟩);refine⟨w',hr,⟨_,hm,fun q hq=>?_,fun t ht=>?_⟩,up hg⟩
  ·rcases List.mem_append.1 hq with hq|hq
   ·obtain⟨t,y,e,a,b,c⟩:=h2 q hq;exact⟨t,y,e,a,by omega,List.mem_cons_of_mem _ c⟩
   ·obtain rfl:=List.mem_singleton.1 hq;exact⟨s,x+1,rfl,by omega,by omega,List.mem_cons_self⟩
  ·rcases List.mem_cons.1 ht with rfl|ht
   ·exact⟨_,by simp;exact .inr rfl⟩
   ·obtain⟨y,hy⟩:=h3 t ht;exact⟨y,List.mem_append.2 (.inl hy)⟩

def eE(E:List Ed):Nat→List Txt
 | 0=>[]
 | k+1=>match E[k]? with
  | some x=>x.to::x.fr::eE E k
  | none=>eE E k
theorem yO{E:List Ed}{k:Nat}{x:Ed}(h:E[k]?=some x):eE E (k+1)=x.to::x.fr::eE E k:=by rw[eE,h]
theorem lP(E:List Ed)(s:Txt):∀k,s∈eE E k↔∃(i:Nat) (x:Ed),i<k∧E[i]?=some x∧(s=x.fr∨s=x.to)
 | 0=>by simp[eE]
 | k+1=>by
  have ih:=lP E s k;unfold eE;cases hx:E[k]? with
  | none =>
   simp only
   rw[ih];constructor
   ·rintro⟨i,x,a,b⟩;exact⟨i,x,by omega,b⟩
   ·rintro⟨i,x,a,b,c⟩;refine⟨i,x,?_,b,c⟩;rcases Nat.lt_succ_iff_lt_or_eq.1 a with a|rfl
    ·exact a
    ·rw[hx] at b;cases b
  | some y =>
   simp only[List.mem_cons]
   rw[ih];constructor
   ·rintro (rfl|rfl|⟨i,x,a,b⟩)
    ·exact⟨k,y,by omega,hx,.inr rfl⟩
    ·exact⟨k,y,by omega,hx,.inl rfl⟩
    ·exact⟨i,x,by omega,b⟩
   ·rintro⟨i,x,a,b,c⟩;rcases Nat.lt_succ_iff_lt_or_eq.1 a with a|rfl
    ·exact .inr (.inr ⟨i,x,a,b,c⟩)
    ·rw[hx] at b;injection b with b;subst b;rcases c with c|c
     ·exact .inr (.inl c)
     ·exact .inl c
def cB(N:List Txt)(E:List Ed):List Txt:=N.filter fun s=>!inB s (eE E E.length)
def eG(N:List Txt)(E:List Ed)(k:Nat):List Txt:=(N.take k).filter fun s=>!inB s (eE E E.length)
theorem dE{α:Type}{l:List α}{k:Nat}{x:α}(h:l[k]?=some x):l.take (k+1)=l.take k++[x]:=by
 obtain⟨hk,rfl⟩:=gO.1 h;exact List.take_succ_eq_append_getElem hk
theorem pO{N:List Txt}{E:List Ed}{k:Nat}{s:Txt}(h:N[k]?=some s)(hb:inB s (eE E E.length)=false):eG N E (k+1)=eG N E k++[s]:=by
 rw[eG,dE h,List.filter_append];simp[hb,eG]
theorem nO{N:List Txt}{E:List Ed}{k:Nat}{s:Txt}(h:N[k]?=some s)(hb:inB s (eE E E.length)=true):eG N E (k+1)=eG N E k:=by
 rw[eG,dE h,List.filter_append];simp[hb,eG]
theorem pP(N:List Txt)(E:List Ed):eG N E N.length=cB N E:=by rw[eG,List.take_length];rfl
theorem sP(N:List Txt)(E:List Ed)(k:Nat):(eG N E k).length≤k:=Nat.le_trans (List.length_filter_le _ _) (by rw[List.length_take];omega)

theorem FE(w:World)(A:Option Addr)(c:Nat)(B:Option Addr)(d:Nat)(N:List Txt)(E:List Ed)(h:dX w A c B d N E) :
  Calls Tryz.prog 168 #[bQ A N.length c B E.length d] w (jW w (cB N E)):=by
 have k0:=Blk.new w 34 #[.slice A N.length c,.slice B E.length d];have u0:Below w.heap.size w (w.alloc (.cells #[.slice A N.length c,.slice B E.length d] 34)):=bR.alloc (Nat.le_refl _) _;have hn:N.length*16≤140737488355328:=h.fit.n;have hd:E.length≤140737488355328:=by have:=h.fit.e;omega
 have HA:=aI2 h.fit.tn h.fit.te;have H:=aI3 (h.below u0) k0 u0;clear h k0 u0;unfold bQ;go_enter Tryz.func168,Tryz.ntmps168;go_upto_region 1 with (fail);generalize w.alloc (.cells #[.slice A N.length c,.slice B E.length d] 34)=W0 at H ⊢;have hmm:=@run_makeMap Tryz.prog;go_upto_region 2 with (fail);have m3:zY (W0.alloc (.map #[] 0)) W0.heap.size [] 0:=⟨[],cX.made W0 Tryz.prog 9,fun q hq=>(by cases hq),fun s hs=>(by cases hs)⟩;have b3:Below W0.heap.size W0 (W0.alloc (.map #[] 0)):=bR.alloc (Nat.le_refl _) _;have k3:=H.out.2.1.upd (upF b3) id;have H3:=aI4 (H.out.1.below b3) k3 (tHn H.out.2.2 b3) m3;have hr1:w.heap.size<W0.heap.size:=H.out.2.1.lt;have HAB:=hIz (show(∀(j:Nat) (x:Ed),E[j]?=some x→∃b o,B=some ⟨b,o,none⟩∧b<W0.heap.size)∧∀(j:Nat) (x:Txt),N[j]?=some x→∃b o,A=some ⟨b,o,none⟩∧b<W0.heap.size from
  ⟨fun j x hx=>by obtain⟨b,o,e,y0,-⟩:=H.out.1.re.ed hx;exact⟨b,o,e,World.block_lt_of_cell? _ _ y0⟩,fun j x hx=>by obtain⟨b,o,e,y0⟩:=H.out.1.rn.txt hx;exact⟨b,o,e,World.block_lt_of_cell? _ _ y0⟩⟩)
 clear b3 m3 k3 hmm;generalize W0.alloc (.map #[] 0)=W3 at H3 ⊢;have q1:W3.cell? ⟨w.heap.size,1,none⟩=some (.slice B E.length d):=H3.out.2.1.cell 1;go_wp2_with fail;clear q1;go_loopw [5,13] (fun _ i wr=>∃k:Nat,k≤E.length∧i=.int .i64 k∧Hid (Upd (fun q=>q=W0.heap.size) W3 wr)∧Hid (zY wr W0.heap.size (eE E k) (2*k))) (fun _ i _=>E.length-(intOf i).toNat)
 case atStart=>exact⟨0,Nat.zero_le _,rfl,hIz (Upd.refl _ _),hIz H3.out.2.2.2⟩
 case round =>
  obtain⟨k,hk,rfl,hu,hm⟩:=hrel;by_cases hlt:k<E.length
  ·have hltI:(k:Int)<(E.length:Int):=by omega
   have hkw:IntKind.i64.wrap ((k:Int)+1)=(k:Int)+1:=IntWalk.i64_in _ (by omega);obtain⟨⟨s0,s1,s2⟩,hx⟩:∃x,E[k]?=some x:=⟨E[k],gEz _⟩;obtain⟨ab,ao,rfl,hab⟩:=HAB.out.1 k _ hx;obtain⟨ab',ao',e,y0,y1,y2⟩:=H3.out.1.re.ed hx;injection e with e;injection e with e e2;subst e;subst e2;dsimp only at y0 y1 y2
   have hl3:=World.block_lt_of_cell? W3 _ y0;have cc:=fun i=>hu.out.cell (p:=⟨ab,i,none⟩) hl3 (by show ¬ab=_;omega)
   have x0:=(cc _).trans y0;have x1:=(cc _).trans y1;have x2:=(cc _).trans y2;have hok:=HA.out.2 _ (mG hx);have kx:=Blk.new wr 32 #[.string s0,.string s1,.string s2];have ux:Upd (fun q=>q=W0.heap.size) W3 (wr.alloc (.cells #[.string s0,.string s1,.string s2] 32)):=hu.out.alloc _;have mx:=hm.out.upd (Upd.of_below ((Below.refl wr.heap.size wr).alloc (Nat.le_refl _) (.cells #[.string s0,.string s1,.string s2] 32)) (fun _=>False)) id;have hrw:=hm.out.lt;have HX:=aI5 hx hok kx ux mx;clear hx hok kx ux mx y0 y1 y2 cc hl3;go_upto_region 5 with (fail);generalize wr.alloc (.cells #[.string s0,.string s1,.string s2] 32)=W5 at HX ⊢;clear x0 x1 x2;have x0:W5.cell? ⟨wr.heap.size,0,none⟩=some (.string s0):=HX.out.2.2.1.cell 0;obtain⟨v0,l0,-,h0,h0'⟩:=HX.out.2.2.2.2.look (s:=s0) HX.out.2.1.1;have hw0:IntKind.i64.wrap (v0+1)=v0+1:=IntWalk.i64_in _ (by omega);obtain⟨w6,r6,m6,u6⟩:=HX.out.2.2.2.2.step (s:=s0) HX.out.2.1.1 h0 (by omega);have k6:=HX.out.2.2.1.upd u6 (by omega);have H6:=aI2 (HX.out.2.2.2.1.trans u6 (fun i e=>.inl e)) m6;clear m6 u6;have x2:w6.cell? ⟨wr.heap.size,2,none⟩=some (.string s2):=k6.cell 2;obtain⟨v1,l1,-,h1,h1'⟩:=H6.out.2.look (s:=s2) HX.out.2.1.2.2;have hw1:IntKind.i64.wrap (v1+1)=v1+1:=IntWalk.i64_in _ (by omega);obtain⟨w7,r7,m7,u7⟩:=H6.out.2.step (s:=s2) HX.out.2.1.2.2 h1 (by omega);have H7:=aI2 (H6.out.1.trans u7 (fun i e=>.inl e)) m7;clear m7 u7 k6;go_wp2;go_roundw
   case rel=>exact⟨k+1,by omega,by go_num,hIz H7.out.1,hIz (by rw[yO HX.out.1];exact H7.out.2)⟩
   case measure=>simp[intOf];omega
  ·obtain rfl:k=E.length:=by omega
   obtain⟨W4,hW4⟩:∃W,W=wr:=⟨_,rfl⟩;subst hW4;have k4:=H3.out.2.1.upd hu.out (by omega);have q0:W4.cell? ⟨w.heap.size,0,none⟩=some (.slice A N.length c):=k4.cell 0;have bw4:Below w.heap.size w W4:=H3.out.2.2.1.trans (hu.out.below (fun q _ e=>by omega) H3.out.2.2.1.size);have H4:=aI3 bw4 hu.out hm.out;clear k4 bw4 hk hlt hu hm;go_wp2_with fail;clear q0;go_loopw [6,8,31] (fun v _ i wz=>∃k:Nat,k≤N.length∧i=.int .i64 k∧Hid (Below W4.heap.size W4 wz)∧Hid (wz.ownsRow W4.heap.size 9 1 v (eG N E k).length (aC (eG N E k)))) (fun _ _ i _=>N.length-(intOf i).toNat)
   case atStart=>exact⟨0,Nat.zero_le _,rfl,hIz bR,hIz (World.ownsRow_nil _ _ _ _)⟩
   case round =>
    obtain⟨k,hk,rfl,hb,ho⟩:=hrel;obtain⟨A5,c5,rfl,-,-⟩:=aG ho.out;obtain⟨n5,hn5⟩:∃n5,(eG N E k).length=n5:=⟨_,rfl⟩;have hle:=sP N E k;by_cases hlt:k<N.length
    ·have hltI:(k:Int)<(N.length:Int):=by omega
     have hkw:IntKind.i64.wrap ((k:Int)+1)=(k:Int)+1:=IntWalk.i64_in _ (by omega);obtain⟨s,hx⟩:∃x,N[k]?=some x:=⟨N[k],gEz _⟩;obtain⟨ab,ao,rfl,hab⟩:=HAB.out.2 k _ hx;obtain⟨ab',ao',e,y0⟩:=H3.out.1.rn.txt hx;injection e with e;injection e with e e2;subst e;subst e2;have hl3:=World.block_lt_of_cell? W3 _ y0;have x0:wr.cell? ⟨ab,ao+k,none⟩=some (.string s):=(hb.out.cell (p:=⟨ab,ao+k,none⟩) (Nat.lt_of_lt_of_le hl3 H4.out.2.1.size)).trans ((H4.out.2.1.cell (p:=⟨ab,ao+k,none⟩) hl3 (by show ¬ab=_;omega)).trans y0);obtain⟨v0,l0,hv0,-⟩:=(H4.out.2.2.upd (upF hb.out) id).look (s:=s) (HA.out.1 s (mG hx));obtain⟨b,hbb⟩:∃b,inB s (eE E E.length)=b:=⟨_,rfl⟩;rw[hbb] at hv0;have HX:=aI2 hx hbb;clear hx hbb y0 hl3;rw[hn5];cases b
     ·simp only[Bool.not_false] at hv0
      obtain⟨v6,w6,happ,own6,u6,hv6⟩:=dU wr W4.heap.size _ _ ho.out s (by omega) hb.out.size;rw[hn5] at happ;have b6:Below W4.heap.size W4 w6:=hb.out.trans (u6.below (fun q _ e=>hv6 q e) hb.out.size);have H6:=aI2 own6 b6;clear own6 b6 u6 hv6 hn5 hle;go_wp2_with (at_builtin;refine wpList_append_run rfl _ _ _ rfl rfl rfl happ ?_);go_roundw
      case rel=>exact⟨k+1,by omega,by go_num,hIz H6.out.2,hIz (by rw[pO HX.out.1 HX.out.2];exact H6.out.1)⟩
      case measure=>simp[intOf];omega
     ·simp only[Bool.not_true] at hv0
      have HN5:=hIz hn5;clear hn5 hle;go_wp2;go_roundw
      case rel=>exact⟨k+1,by omega,by go_num,hb,hIz (by rw[nO HX.out.1 HX.out.2];have:=ho.out;rw[HN5.out] at this ⊢;exact this)⟩
      case measure=>simp[intOf];omega
    ·obtain rfl:k=N.length:=by omega
     have fin:jW w (cB N E) (.returned (.slice A5 n5 c5)) wr:=by
      rw[← pP];refine⟨_,rfl,?_,tHn H4.out.1 hb.out⟩;rw[← hn5];exact aJ ho.out (fun q hq=>Nat.le_trans H4.out.1.size (ho.out.lt q hq).1)
     have FIN:=hIz fin;rw[hn5];clear fin hn5 hle;go_wp2;go_ret;exact FIN.out
open Go.RowKit
theorem AE(W2:World)(A1:Option Addr)(c1:Nat)(A2:Option Addr)(c2:Nat)(P Q:List Txt)(hA:aV W2 A1 (aC P))(hB:aV W2 A2 (aC Q))(hl:(P.length+Q.length)*16≤140737488355328) :
  Calls Tryz.prog 191 #[.slice A1 P.length c1,.slice A2 Q.length c2] W2 (jW W2 (mrg ltT P Q)):=by
 obtain⟨n,hn⟩:∃n,P.length=n:=⟨_,rfl⟩;obtain⟨m,hm⟩:∃m,Q.length=m:=⟨_,rfl⟩;rw[hn,hm] at hl ⊢;have HR:=aI2 hA hB;have HL:=aI2 hn hm;clear hA hB hn hm;go_enter Tryz.func191,Tryz.ntmps191;go_wp2_with fail;go_loopw [5,6,7] (fun v i j wr=>∃(p q:Nat) (L:List Txt),p≤n∧q≤m∧i=.int .i64 p∧j=.int .i64 q∧L.length≤p+q∧Hid (L++mrg ltT (P.drop p) (Q.drop q)=mrg ltT P Q)∧Hid (Below W2.heap.size W2 wr)∧Hid (wr.ownsRow W2.heap.size 9 1 v L.length (aC L))) (fun _ i j _=>(n-(intOf i).toNat)+(m-(intOf j).toNat))
 case atStart=>exact⟨0,0,[],Nat.zero_le _,Nat.zero_le _,rfl,rfl,Nat.le_refl _,hIz (by simp),hIz bR,hIz (World.ownsRow_nil _ _ _ _)⟩
 case round =>
  obtain⟨p,q,L,hp,hq,rfl,rfl,hL,hI,hbw,how⟩:=hrel;have hpw:IntKind.i64.wrap ((p:Int)+1)=(p:Int)+1:=IntWalk.i64_in _ (by omega);have hqw:IntKind.i64.wrap ((q:Int)+1)=(q:Int)+1:=IntWalk.i64_in _ (by omega);by_cases hpn:p<n
  ·have hpI:(p:Int)<(n:Int):=by omega
   obtain⟨x,hx⟩:∃z,P[p]?=some z:=⟨P[p]'(by rw[HL.out.1];assumption),gEz _⟩;obtain⟨ab,ao,rfl,xa⟩:=(HR.out.1.below hbw.out).txt hx;by_cases hqm:q<m
   ·have hqI:(q:Int)<(m:Int):=by omega
    have hqne:((q:Int)==(m:Int))=false:=by simp;omega
    obtain⟨y,hy⟩:∃z,Q[q]?=some z:=⟨Q[q]'(by rw[HL.out.2];assumption),gEz _⟩;obtain⟨bb,bo,rfl,ya⟩:=(HR.out.2.below hbw.out).txt hy;obtain⟨v0,hv⟩:∃b,ltT x y=b:=⟨_,rfl⟩;have HV:=hIz hv;have hv2:Op.bytesLess (ByteArray.toList x) (ByteArray.toList y)=v0:=hv;clear hv;have hS:wr.drew.cell? ⟨ab,ao+p,none⟩=some (.string x)∧wr.drew.cell? ⟨bb,bo+q,none⟩=some (.string y):=⟨xa,ya⟩;go_upto_region 4 with (fail);refine aE (fun w'=>w'.cell? ⟨ab,ao+p,none⟩=some (.string x)∧w'.cell? ⟨bb,bo+q,none⟩=some (.string y)) 21 [(0,true),(1,true),(2,true),(3,true),(4,true),(5,true),(6,true),(7,true),(8,true),(9,true),(10,true),(11,true),(12,true),(13,true),(14,true),(15,true),(16,true),(17,true),(18,true),(19,true),(20,true)] hS ?_
    iterate 18 refine aB rfl ?_
    cases v0 with
    | true =>
     iterate 3 refine aB rfl ?_
     refine aF ?_;clear hS;obtain⟨W5,hW5⟩:∃W,W=wr.drew:=⟨_,rfl⟩;have bW5:Below wr.heap.size wr W5:=by rw[hW5];exact bR.drew
     rw[← hW5];have xa5:=(bW5.cell (World.block_lt_of_cell? _ _ xa)).trans xa;have ya5:=(bW5.cell (World.block_lt_of_cell? _ _ ya)).trans ya;have own5:=aA how.out (upF bW5) (fun _ _ h=>h);have bb5:=tHn hbw.out bW5;obtain⟨v6,w6,happ,own6,b6⟩:=dU W5 W2.heap.size _ L own5 x (by omega) bb5.size;have HN:=aI2 (bb5.trans (b6.1.below (fun k _ e=>b6.2 k e) bb5.size)) own6;have HI:=hIz (show(L++[x])++mrg ltT (P.drop (p+1)) (Q.drop (q))=mrg ltT P Q by
      rw[← hI.out,gG hx (.inr ⟨_,hy,HV.out⟩)];simp)
     clear hI hx hy own6 own5 bb5 b6 hW5 bW5;clear xa ya;clear ya5;go_wp2_with (at_builtin;refine wpList_append_run rfl _ _ _ rfl rfl rfl happ ?_);go_roundw
     case rel=>exact⟨p+1,q,L++[x],by omega,by omega,by go_num,by go_num,by simp;omega,HI,hIz HN.out.1,hIz HN.out.2⟩
     case measure=>simp[intOf];omega
    | false =>
     iterate 3 refine aB rfl ?_
     refine aF ?_;clear hS;obtain⟨W5,hW5⟩:∃W,W=wr.drew:=⟨_,rfl⟩;have bW5:Below wr.heap.size wr W5:=by rw[hW5];exact bR.drew
     rw[← hW5];have xa5:=(bW5.cell (World.block_lt_of_cell? _ _ xa)).trans xa;have ya5:=(bW5.cell (World.block_lt_of_cell? _ _ ya)).trans ya;have own5:=aA how.out (upF bW5) (fun _ _ h=>h);have bb5:=tHn hbw.out bW5;by_cases he:x=y
     ·have heq:(ByteArray.toList x==ByteArray.toList y)=true:=by rw[txt_beq,decide_eq_true he]
      have HE:=hIz he;clear he;have hS:W5.drew.cell? ⟨ab,ao+p,none⟩=some (.string x)∧W5.drew.cell? ⟨bb,bo+q,none⟩=some (.string y):=⟨xa5,ya5⟩;go_upto_region 7 with (fail);refine aE (fun w'=>w'.cell? ⟨ab,ao+p,none⟩=some (.string x)∧w'.cell? ⟨bb,bo+q,none⟩=some (.string y)) 15 [(0,true),(1,true),(2,true),(3,true),(4,true),(5,true),(6,true),(7,true),(8,true),(9,true),(10,true),(11,true),(12,true),(13,true),(14,true)] hS ?_
      iterate 15 refine aB rfl ?_
      refine aF ?_;clear hS;obtain⟨W6,hW6⟩:∃W,W=W5.drew:=⟨_,rfl⟩;have bW6:Below W5.heap.size W5 W6:=by rw[hW6];exact bR.drew
      rw[← hW6];have ya7:=(bW6.cell (World.block_lt_of_cell? _ _ ya5)).trans ya5;have own7:=aA own5 (upF bW6) (fun _ _ h=>h);have bb7:=tHn bb5 bW6;obtain⟨v6,w6,happ,own6,b6⟩:=dU W6 W2.heap.size _ L own7 y (by omega) bb7.size;have HN:=aI2 (bb7.trans (b6.1.below (fun k _ e=>b6.2 k e) bb7.size)) own6;have HI:=hIz (show(L++[y])++mrg ltT (P.drop (p+1)) (Q.drop (q+1))=mrg ltT P Q by
       rw[← hI.out,qQ dW (by rw[← HE.out];exact hx) hy];simp)
      clear hI hx hy own6 own5 bb5 own7 bb7 hW6 bW6 heq b6 hW5 bW5;clear xa ya;clear xa5 ya5;go_wp2_with (at_builtin;refine wpList_append_run rfl _ _ _ rfl rfl rfl happ ?_);go_roundw
      case rel=>exact⟨p+1,q+1,L++[y],by omega,by omega,by go_num,by go_num,by simp;omega,HI,hIz HN.out.1,hIz HN.out.2⟩
      case measure=>simp[intOf];omega
     ·have heq:(ByteArray.toList x==ByteArray.toList y)=false:=by rw[txt_beq,decide_eq_false he]
      have HE:=hIz he;clear he;have hS:W5.drew.cell? ⟨ab,ao+p,none⟩=some (.string x)∧W5.drew.cell? ⟨bb,bo+q,none⟩=some (.string y):=⟨xa5,ya5⟩;go_upto_region 7 with (fail);refine aE (fun w'=>w'.cell? ⟨ab,ao+p,none⟩=some (.string x)∧w'.cell? ⟨bb,bo+q,none⟩=some (.string y)) 15 [(0,true),(1,true),(2,true),(3,true),(4,true),(5,true),(6,true),(7,true),(8,true),(9,true),(10,true),(11,true),(12,true),(13,true),(14,true)] hS ?_
      iterate 15 refine aB rfl ?_
      refine aF ?_;clear hS;obtain⟨W6,hW6⟩:∃W,W=W5.drew:=⟨_,rfl⟩;have bW6:Below W5.heap.size W5 W6:=by rw[hW6];exact bR.drew
      rw[← hW6];have ya7:=(bW6.cell (World.block_lt_of_cell? _ _ ya5)).trans ya5;have own7:=aA own5 (upF bW6) (fun _ _ h=>h);have bb7:=tHn bb5 bW6;obtain⟨v6,w6,happ,own6,b6⟩:=dU W6 W2.heap.size _ L own7 y (by omega) bb7.size;have HN:=aI2 (bb7.trans (b6.1.below (fun k _ e=>b6.2 k e) bb7.size)) own6;have HI:=hIz (show(L++[y])++mrg ltT (P.drop (p)) (Q.drop (q+1))=mrg ltT P Q by
       rw[← hI.out,gH hy (.inr ⟨_,hx,HV.out,HE.out⟩)];simp)
      clear hI hx hy own6 own5 bb5 own7 bb7 hW6 bW6 heq b6 hW5 bW5;clear xa ya;clear xa5 ya5;go_wp2_with (at_builtin;refine wpList_append_run rfl _ _ _ rfl rfl rfl happ ?_);go_roundw
      case rel=>exact⟨p,q+1,L++[y],by omega,by omega,by go_num,by go_num,by simp;omega,HI,hIz HN.out.1,hIz HN.out.2⟩
      case measure=>simp[intOf];omega
   ·obtain rfl:q=m:=by omega
    have hqe:((q:Int)==(q:Int))=true:=by simp
    have hS:wr.drew.cell? ⟨ab,ao+p,none⟩=some (.string x):=xa;go_upto_region 4 with (fail);refine aE (fun w'=>w'.cell? ⟨ab,ao+p,none⟩=some (.string x)) 21 [(0,true),(1,true),(2,true),(3,true),(4,true),(5,true),(6,true),(7,true),(8,true),(9,true),(10,true),(11,true),(12,true),(13,true),(14,true),(15,true),(16,true),(17,true),(18,true),(19,true),(20,true)] hS ?_
    iterate 5 refine aB rfl ?_
    iterate 13 (refine cE rfl (by kernel_rfl) ?_;(try simp only[Act.put,gA,gS,gZ,sA,sZ,sS]))
    (refine cE rfl (by kernel_rfl) ?_;(try simp only[Act.put,gA,gS,gZ,sA,sZ,sS]))
    (refine cE rfl (by kernel_rfl) ?_;(try simp only[Act.put,gA,gS,gZ,sA,sZ,sS]))
    refine aB rfl ?_;refine aF ?_;clear hS;obtain⟨W5,hW5⟩:∃W,W=wr.drew:=⟨_,rfl⟩;have bW5:Below wr.heap.size wr W5:=by rw[hW5];exact bR.drew
    rw[← hW5];have xa5:=(bW5.cell (World.block_lt_of_cell? _ _ xa)).trans xa;have own5:=aA how.out (upF bW5) (fun _ _ h=>h);have bb5:=tHn hbw.out bW5;obtain⟨v6,w6,happ,own6,b6⟩:=dU W5 W2.heap.size _ L own5 x (by omega) bb5.size;have HN:=aI2 (bb5.trans (b6.1.below (fun k _ e=>b6.2 k e) bb5.size)) own6;have HI:=hIz (show(L++[x])++mrg ltT (P.drop (p+1)) (Q.drop (q))=mrg ltT P Q by
     rw[← hI.out,gG hx (.inl (by rw[HL.out.2];exact Nat.le_refl _))];simp)
    clear hI hx own6 own5 bb5 hW5 bW5 b6;clear xa;go_wp2_with (at_builtin;refine wpList_append_run rfl _ _ _ rfl rfl rfl happ ?_);go_roundw
    case rel=>exact⟨p+1,q,L++[x],by omega,by omega,by go_num,by go_num,by simp;omega,HI,hIz HN.out.1,hIz HN.out.2⟩
    case measure=>simp[intOf];omega
  ·obtain rfl:p=n:=by omega
   by_cases hqm:q<m
   ·have hqI:(q:Int)<(m:Int):=by omega
    have hqne:((q:Int)==(m:Int))=false:=by simp;omega
    obtain⟨y,hy⟩:∃z,Q[q]?=some z:=⟨Q[q]'(by rw[HL.out.2];assumption),gEz _⟩;obtain⟨bb,bo,rfl,ya⟩:=(HR.out.2.below hbw.out).txt hy;have hS:wr.drew.cell? ⟨bb,bo+q,none⟩=some (.string y):=ya;go_upto_region 4 with (fail);refine aE (fun w'=>w'.cell? ⟨bb,bo+q,none⟩=some (.string y)) 21 [(0,true),(1,true),(2,true),(3,true),(4,true),(5,true),(6,true),(7,true),(8,true),(9,true),(10,true),(11,true),(12,true),(13,true),(14,true),(15,true),(16,true),(17,true),(18,true),(19,true),(20,true)] hS ?_
    iterate 10 refine aB rfl ?_
    iterate 8 (refine cE rfl (by kernel_rfl) ?_;(try simp only[Act.put,gA,gS,gZ,sA,sZ,sS]))
    (refine cE rfl (by kernel_rfl) ?_;(try simp only[Act.put,gA,gS,gZ,sA,sZ,sS]))
    refine aB rfl ?_;refine aB rfl ?_;refine aF ?_;clear hS;obtain⟨W5,hW5⟩:∃W,W=wr.drew:=⟨_,rfl⟩;have bW5:Below wr.heap.size wr W5:=by rw[hW5];exact bR.drew
    rw[← hW5];have ya5:=(bW5.cell (World.block_lt_of_cell? _ _ ya)).trans ya;have own5:=aA how.out (upF bW5) (fun _ _ h=>h);have bb5:=tHn hbw.out bW5;have hS:W5.drew.cell? ⟨bb,bo+q,none⟩=some (.string y):=ya5;go_upto_region 7 with (fail);refine aE (fun w'=>w'.cell? ⟨bb,bo+q,none⟩=some (.string y)) 15 [(0,true),(1,true),(2,true),(3,true),(4,true),(5,true),(6,true),(7,true),(8,true),(9,true),(10,true),(11,true),(12,true),(13,true),(14,true)] hS ?_
    iterate 5 refine aB rfl ?_
    iterate 9 (refine cE rfl (by kernel_rfl) ?_;(try simp only[Act.put,gA,gS,gZ,sA,sZ,sS]))
    refine aB rfl ?_;refine aF ?_;clear hS;obtain⟨W6,hW6⟩:∃W,W=W5.drew:=⟨_,rfl⟩;have bW6:Below W5.heap.size W5 W6:=by rw[hW6];exact bR.drew
    rw[← hW6];have yy:=True.intro;have ya7:=(bW6.cell (World.block_lt_of_cell? _ _ ya5)).trans ya5;have own7:=aA own5 (upF bW6) (fun _ _ h=>h);have bb7:=tHn bb5 bW6;obtain⟨v6,w6,happ,own6,b6⟩:=dU W6 W2.heap.size _ L own7 y (by omega) bb7.size;have HN:=aI2 (bb7.trans (b6.1.below (fun k _ e=>b6.2 k e) bb7.size)) own6;have HI:=hIz (show(L++[y])++mrg ltT (P.drop (p)) (Q.drop (q+1))=mrg ltT P Q by
     rw[← hI.out,gH hy (.inl (by rw[HL.out.1];exact Nat.le_refl _))];simp)
    clear hI hy own6 own5 bb5 own7 bb7 hW5 bW5 hW6 bW6 yy b6;clear ya;clear ya5;go_wp2_with (at_builtin;refine wpList_append_run rfl _ _ _ rfl rfl rfl happ ?_);go_roundw
    case rel=>exact⟨p,q+1,L++[y],by omega,by omega,by go_num,by go_num,by simp;omega,HI,hIz HN.out.1,hIz HN.out.2⟩
    case measure=>simp[intOf];omega
   ·obtain rfl:q=m:=by omega
    obtain⟨A9,c9,rfl,-,-⟩:=aG how.out;have FIN:=hIz (show jW W2 (mrg ltT P Q) (.returned (.slice A9 L.length c9)) wr from⟨_,rfl,by
     have hI:=hI.out;rw[vG (by rw[HL.out.1];exact Nat.le_refl _) (by rw[HL.out.2];exact Nat.le_refl _),List.append_nil] at hI;rw[← hI];exact how.out,hbw.out⟩)
    clear hI how;go_wp2;go_ret;exact FIN.out
open Go.Shelf
def iG:Go.Shelf.Ren:=⟨fun | 0=>0 | 1=>1 | 2=>2 | 106=>80 | 122=>127 | 125=>185 | 128=>209 | 129=>210 | 166=>169 | 169=>170 | 170=>286 | 190=>166 | 194=>167 | 213=>122 | 215=>163 | 240=>189 | 258=>188 | 265=>160 | 276=>220 | 302=>211 | 303=>212 | 304=>213 | 305=>214 | 306=>215 | 307=>216 | 308=>217 | 309=>218 | 310=>219 | 329=>226 | 330=>227 | 333=>230 | 334=>231 | 335=>232 | 336=>233 | 338=>187 | 344=>251 | 347=>260 | 348=>261 | 349=>262 | 350=>263 | 351=>264 | 352=>265 | 353=>266 | 354=>267 | 355=>268 | 356=>269 | 357=>270 | 358=>271 | 359=>272 | 360=>274 | 361=>275 | 362=>287 | 366=>288 | 367=>292 | n=>n,fun | 0=>0 | 1=>1 | 2=>2 | 3=>3 | 4=>4 | 5=>5 | 6=>6 | 7=>7 | 8=>8 | 9=>9 | 10=>10 | 11=>11 | 12=>12 | 13=>13 | 14=>14 | 15=>15 | 16=>16 | 17=>17 | 18=>18 | 19=>19 | 20=>20 | 21=>21 | 22=>289 | 27=>147 | 28=>181 | 31=>26 | 33=>210 | 37=>239 | 41=>212 | 43=>190 | 46=>201 | 47=>260 | 51=>284 | 52=>283 | 53=>166 | 54=>249 | 70=>238 | 71=>240 | 72=>241 | 73=>186 | 74=>242 | 75=>243 | 76=>244 | 77=>245 | 80=>246 | 81=>64 | 100=>237 | 101=>131 | 102=>112 | 103=>110 | 104=>160 | 111=>189 | 112=>194 | 127=>263 | 131=>153 | 135=>262 | 164=>292 | 165=>293 | 182=>277 | 183=>278 | 188=>286 | 189=>287 | 190=>288 | 191=>290 | 192=>291 | 218=>298 | 219=>299 | 220=>300 | 222=>302 | 224=>304 | 225=>305 | 228=>316 | 229=>93 | 231=>318 | 233=>285 | 238=>325 | 239=>326 | 240=>327 | 241=>328 | 242=>329 | 243=>330 | 244=>331 | 245=>332 | 246=>333 | 247=>334 | 248=>335 | 249=>336 | n=>n,fun n=>n⟩
theorem FF:Lays.n166 Tryz.prog iG:={
 mixed:=(by kernel_rfl)
 f166:=Tryz.func169.trans (congrArg some (by kernel_rfl))
 f240:=Tryz.func189.trans (congrArg some (by kernel_rfl))
 f276:=Tryz.func220.trans (congrArg some (by kernel_rfl))
 t0:=Tryz.underlying0
 a0:=Tryz.isAgg0
 z0:=Tryz.sizeOf0
 v0:=Tryz.zeroValue0
 t3:=Tryz.underlying3
 a3:=Tryz.isAgg3
 z3:=Tryz.sizeOf3
 v3:=Tryz.zeroValue3
 t4:=Tryz.underlying4
 a4:=Tryz.isAgg4
 z4:=Tryz.sizeOf4
 v4:=Tryz.zeroValue4
 t9:=Tryz.underlying9
 a9:=Tryz.isAgg9
 z9:=Tryz.sizeOf9
 v9:=Tryz.zeroValue9
 t20:=Tryz.underlying20
 a20:=Tryz.isAgg20
 z20:=Tryz.sizeOf20
 v20:=Tryz.zeroValue20
 t37:=Tryz.underlying239
 a37:=Tryz.isAgg239
 z37:=Tryz.sizeOf239
 v37:=Tryz.zeroValue239
 t70:=Tryz.underlying238
 a70:=Tryz.isAgg238
 z70:=Tryz.sizeOf238
 v70:=Tryz.zeroValue238
 t72:=Tryz.underlying241
 a72:=Tryz.isAgg241
 z72:=Tryz.sizeOf241
 v72:=Tryz.zeroValue241
 t75:=Tryz.underlying243
 a75:=Tryz.isAgg243
 z75:=Tryz.sizeOf243
 v75:=Tryz.zeroValue243
 t164:=Tryz.underlying292
 a164:=Tryz.isAgg292
 z164:=Tryz.sizeOf292
 v164:=Tryz.zeroValue292 }
theorem PB:Lays.n169 Tryz.prog iG:={
 mixed:=(by kernel_rfl)
 f169:=Tryz.func170.trans (congrArg some (by kernel_rfl))
 t0:=Tryz.underlying0
 a0:=Tryz.isAgg0
 z0:=Tryz.sizeOf0
 v0:=Tryz.zeroValue0
 t3:=Tryz.underlying3
 a3:=Tryz.isAgg3
 z3:=Tryz.sizeOf3
 v3:=Tryz.zeroValue3
 t9:=Tryz.underlying9
 a9:=Tryz.isAgg9
 z9:=Tryz.sizeOf9
 v9:=Tryz.zeroValue9
 t37:=Tryz.underlying239
 a37:=Tryz.isAgg239
 z37:=Tryz.sizeOf239
 v37:=Tryz.zeroValue239
 t70:=Tryz.underlying238
 a70:=Tryz.isAgg238
 z70:=Tryz.sizeOf238
 v70:=Tryz.zeroValue238
 t72:=Tryz.underlying241
 a72:=Tryz.isAgg241
 z72:=Tryz.sizeOf241
 v72:=Tryz.zeroValue241
 t127:=Tryz.underlying263
 a127:=Tryz.isAgg263
 z127:=Tryz.sizeOf263
 v127:=Tryz.zeroValue263 }
theorem JQ:Builder.Extra Tryz.prog iG:={
 sizeBuilder:=(by kernel_rfl)
 liesBuilder:=(by kernel_rfl)
 t5:=Tryz.underlying5
 a5:=Tryz.isAgg5
 z5:=Tryz.sizeOf5
 v5:=Tryz.zeroValue5
 infoByte:=(by kernel_rfl)
 cellsByte:=(by kernel_rfl)
 sizeByte:=(by kernel_rfl)
 neB5:=(by decide) }
open Go.RowKit
def IsB(w:World)(b:Nat)(l:List UInt8):Prop:=Lib.IsBuilderF 241 5 b b (Lib.byteCells l) w
theorem IsB.alloc{w:World}{b:Nat}{l:List UInt8}(h:IsB w b l)(o:Obj):IsB (w.alloc o) b l:=Lib.IsBuilderF.alloc h o
theorem IsB.below{w w':World}{b:Nat}{l:List UInt8}(h:IsB w b l)(hb:Below w.heap.size w w'):IsB w' b l:=by
 have hg:w.grownBy w' none:=(upF hb).to_grown (fun _ _ e=>e.elim);have key:∀p,Lib.BuilderAtF 241 5 b b p (Lib.byteCells l) w→Lib.BuilderAtF 241 5 b b p (Lib.byteCells l) w':=fun p ⟨h1,v,h2,h3,h4⟩ =>
  ⟨h1,v,(hb.block b (Array.getElem?_eq_some_iff.1 h2).1).trans h2,h3.kept hg (by cases v.ownBlock <;> simp),h4⟩
 exact h.imp (key _) (key _)
theorem IsB.new(w:World):IsB (w.alloc (.cells #[.pointer none,.slice none 0 0] 241)) w.heap.size []:=
 .inl ⟨Nat.le_refl _,.slice none 0 0,heap_alloc_new w _,World.ownsRowF_nil _ _ _ _,by simp[Value.ownBlock]⟩
theorem JR(w:World)(b:Nat)(l:List UInt8)(s:Txt)(h:IsB w b l)(hl:l.length+s.size≤140737488355328)(hb:b≤w.heap.size) :
  Calls Tryz.prog 169 #[.pointer (some ⟨b,0,none⟩),.string s] w fun e w'=>e=.returned (.tuple #[.int .i64 s.size,.nilIface])∧IsB w' b (l++s.data.toList)∧Below b w w'∧Lib.OthersKept 5 (some b) w w':=by
 have hcon:=Any.Builder_WriteString_k FF JQ b b (Lib.byteCells l) s w h (by rw[Lib.byteCells_length];exact hl) hb;change Calls Tryz.prog 169 _ _ _ at hcon
 refine hcon.mono ?_;rintro e w' ⟨rfl,h1,h2,h3⟩;refine⟨rfl,.inr ?_,h2,h3⟩;have:Lib.byteCells (l++s.data.toList)=Lib.byteCells l++Lib.strCells s:=by rw[Lib.strCells_eq];simp[Lib.byteCells]
 rw[this];exact h1
theorem KL(w:World)(b:Nat)(l:List UInt8)(h:IsB w b l)(hb:b≤w.heap.size) :
  Calls Tryz.prog 170 #[.pointer (some ⟨b,0,none⟩)] w fun e w'=>e=.returned (.string ⟨l.toArray⟩)∧Below b w w':=by
 have hcon:=Any.Builder_String_any_k PB JQ b b l w h hb;change Calls Tryz.prog 170 _ _ _ at hcon
 exact hcon.mono fun e w' hh=>⟨hh.1,hh.2.2.1⟩
theorem FG{w w':World}{base n b:Nat}{v:Value}{xs:List Value}(h:w.ownsRow base 9 1 v n xs)(hk:Lib.OthersKept 5 (some b) w w')(hb:v.ownBlock≠some b):w'.ownsRow base 9 1 v n xs:=by
 refine⟨h.1,?_⟩;rcases h.2 with h2|⟨g,cap,cur,rfl,h3,hg,r⟩
 ·exact .inl h2
 ·exact .inr ⟨g,cap,cur,rfl,h3,hk g _ hg (fun e=>hb e) (fun c fz e=>by injection e with _ e _;exact absurd e (by decide)),r⟩

def JS:List UInt8:=[32,59,10]
def eK(s:Txt):List UInt8:=s.data.toList++JS
def gU(x:Ed):List UInt8:=x.fr.data.toList++[32]++x.lb.data.toList++[32]++x.to.data.toList++JS
def jG(N:List Txt)(E:List Ed):List UInt8:=(cB N E).flatMap eK++E.flatMap gU
structure fW(N:List Txt)(E:List Ed):Prop where
 n:∀s∈N,s.size≤16
 e:∀x∈E,x.fr.size≤16∧x.lb.size≤16∧x.to.size≤16
theorem fM{s:Txt}(h:cH s=true):1≤s.size∧s.size≤16:=by
 unfold cH at h;rw[Bool.and_eq_true] at h;exact of_decide_eq_true h.1
theorem nP{s:Txt}(h:eP s=true):cH s=true:=by
 unfold eP at h;rw[Bool.and_eq_true] at h;exact h.1
theorem fW.of{N:List Txt}{E:List Ed}(h:bT N E=true):fW N E:=by
 unfold bT at h;rw[Bool.and_eq_true,List.all_eq_true,List.all_eq_true] at h;refine⟨fun s hs=>(fM (h.1 s hs)).2,fun x hx=>?_⟩;have:=h.2 x hx;unfold dY at this;rw[Bool.and_eq_true,Bool.and_eq_true] at this;exact⟨(fM this.1).2,(fM (nP this.2.1)).2,(fM this.2.2).2⟩
theorem sQ(s:Txt):s.data.toList.length=s.size:=by rw[Array.length_toList];rfl
theorem jH{α β:Type}{f:α→List β}{c:Nat}:∀{l:List α},(∀x∈l,(f x).length≤c)→(l.flatMap f).length≤l.length*c
 | [],_=>by simp
 | x::l,h=>by
  have h1:=h x (by simp);have h2:=jH (l:=l) (fun y hy=>h y (by simp[hy]));simp only[List.flatMap_cons,List.length_append,List.length_cons,Nat.add_mul]
  omega
theorem mY{s:Txt}(h:s.size≤16):(eK s).length≤19:=by simp[eK,JS];omega
theorem wP{x:Ed}(h:x.fr.size≤16∧x.lb.size≤16∧x.to.size≤16):(gU x).length≤53:=by simp[gU,JS];omega
theorem gJ{N:List Txt}{E:List Ed}{s:Txt}(h:s∈cB N E):s∈N:=(List.mem_filter.1 h).1
theorem sR(N:List Txt)(E:List Ed):(cB N E).length≤N.length:=List.length_filter_le _ _
theorem cY(a b:Txt):(a++b).data.toList=a.data.toList++b.data.toList:=by simp
theorem dV(a b:Txt):(a++b).size=a.size+b.size:=by simp
theorem lQ(a b:Txt)(h:a.size+b.size≤1000):∀w,(Op.stringOp .add a b).run Tryz.prog w=.ok (.string (a++b)) w:=fun w=>run_string_add_sum w a b (by omega)

theorem FH(w:World)(A:Option Addr)(c:Nat)(B:Option Addr)(d:Nat)(N:List Txt)(E:List Ed)(h:dX w A c B d N E)(hs:fW N E)(hN:N.length≤32)(hE:E.length≤256) :
  Calls Tryz.prog 134 #[bQ A N.length c B E.length d] w (Sam w (.string ⟨(jG N E).toArray⟩)):=by
 have k0:=(Blk.new w 34 #[.slice A N.length c,.slice B E.length d]).alloc (.cells #[.pointer none,.slice none 0 0] 241);have i0:=IsB.new (w.alloc (.cells #[.slice A N.length c,.slice B E.length d] 34));simp only[World.size_alloc] at i0
 have u0:Below w.heap.size w ((w.alloc (.cells #[.slice A N.length c,.slice B E.length d] 34)).alloc (.cells #[.pointer none,.slice none 0 0] 241)):=by(repeat (first | exact Below.refl _ _ | apply Below.drew | refine Below.alloc ?_ (by first | exact Nat.le_refl _ | (simp;done) | (simp;omega)) _ | refine Below.setCell ?_ (by first | exact Nat.le_refl _ | (simp;done) | (simp;omega)) _))
 have hz:((w.alloc (.cells #[.slice A N.length c,.slice B E.length d] 34)).alloc (.cells #[.pointer none,.slice none 0 0] 241)).heap.size=w.heap.size+2:=by simp
 have HB:=hIz (show ∀(j:Nat) (x:Ed),E[j]?=some x→∃b o,B=some ⟨b,o,none⟩∧b<w.heap.size from fun j x hx=>by obtain⟨b,o,e,y0,-⟩:=h.re.ed hx;exact⟨b,o,e,World.block_lt_of_cell? _ _ y0⟩);have HS:=hIz hs;have H:=aI5 (h.below u0) k0 u0 i0 hz;clear h k0 u0 i0 hz hs;unfold bQ;go_enter Tryz.func134,Tryz.ntmps134;go_upto_region 2 with (fail);generalize (w.alloc (.cells #[.slice A N.length c,.slice B E.length d] 34)).alloc (.cells #[.pointer none,.slice none 0 0] 241)=W1 at H ⊢;have q0:W1.cell? ⟨w.heap.size,0,none⟩=some (.slice A N.length c):=H.out.2.1.cell 0;have q1:W1.cell? ⟨w.heap.size,1,none⟩=some (.slice B E.length d):=H.out.2.1.cell 1;go_wp2_with fail;refine(FE W1 A c B d N E H.out.1).mono ?_;rintro e w2 ⟨v,rfl,own2,b2⟩;obtain⟨A2,c2,rfl,-,-⟩:=aG own2;obtain⟨n2,hn2⟩:∃n2,(cB N E).length=n2:=⟨_,rfl⟩;have hn2':n2≤32:=by rw[← hn2];exact Nat.le_trans (sR N E) hN
 have i2:=H.out.2.2.2.1.below b2;have bb2:=tHn H.out.2.2.1 b2;have hz2:=b2.size;have HBM:=hIz (b2.mono (show w.heap.size+1≤W1.heap.size from by have:=H.out.2.2.2.2;omega));have hown:(Value.slice A2 (cB N E).length c2).ownBlock≠some (w.heap.size+1):=fun e=>by
  have:=(own2.lt _ e).1;have:=H.out.2.2.2.2;omega
 have H2:=aI6 i2 bb2 (H.out.1.below b2) own2 hown (H.out.2.1.upd (upF b2) id);have hzz:w.heap.size+2≤w2.heap.size:=by have:=H.out.2.2.2.2;omega
 clear i2 b2 bb2 own2 hown q0 q1 hz2;rw[hn2];have HN2:=hIz hn2;clear hn2;go_wp2_with fail;go_loopw [5,11] (fun _ i wr=>∃k:Nat,k≤n2∧i=.int .i64 k∧Hid (Below (w.heap.size+1) w2 wr)∧Hid (Lib.OthersKept 5 (some (w.heap.size+1)) w2 wr)∧Hid (IsB wr (w.heap.size+1) (((cB N E).take k).flatMap eK))) (fun _ i _=>n2-(intOf i).toNat)
 case atStart=>exact⟨0,Nat.zero_le _,rfl,hIz bR,hIz (Lib.OthersKept.refl _ _ _),hIz (by simpa using H2.out.1)⟩
 case round =>
  obtain⟨k,hk,rfl,hb,ho,hi⟩:=hrel;by_cases hlt:k<n2
  ·have hltI:(k:Int)<(n2:Int):=by omega
   have hkw:IntKind.i64.wrap ((k:Int)+1)=(k:Int)+1:=IntWalk.i64_in _ (by omega);obtain⟨s,hx⟩:∃x,(cB N E)[k]?=some x:=⟨(cB N E)[k]'(by rw[HN2.out];exact hlt),gEz _⟩;have ow:=FG H2.out.2.2.2.1 ho.out H2.out.2.2.2.2.1;have rw2:=aV.of_own ow;obtain⟨ab,ao,rfl,x0⟩:=rw2.txt hx;have hsz:s.size≤16:=HS.out.n s (gJ (mG hx));have a1:=lQ s ⟨#[32,59,10]⟩ (by show s.size+3≤1000;omega);have hll:(((cB N E).take k).flatMap eK).length≤k*19:=by
    have:=jH (f:=eK) (c:=19) (l:=(cB N E).take k) (fun x hx=>mY (HS.out.n x (gJ (List.mem_of_mem_take hx))));have h3:((cB N E).take k).length≤k:=by rw[List.length_take];omega
    exact Nat.le_trans this (Nat.mul_le_mul_right _ h3)
   have hcon:=JR wr (w.heap.size+1) _ (s++⟨#[32,59,10]⟩) hi.out (by rw[dV];show _+(s.size+3)≤_;omega) (by have:=hb.out.size;omega);rw[cY,show(s.data.toList++(⟨#[32,59,10]⟩:Txt).data.toList)=eK s from rfl] at hcon;have htk:((cB N E).take k).flatMap eK++eK s=((cB N E).take (k+1)).flatMap eK:=by rw[dE hx];simp
   rw[htk] at hcon;have HX:=hIz hcon;clear hcon htk hll hx ow rw2;go_wp2_with fail;refine HX.out.mono ?_;rintro e w5 ⟨rfl,i5,b5,o5⟩;have H5:=aI3 (hb.out.trans b5) (ho.out.trans o5) i5;clear i5 b5 o5;go_wp2;go_roundw
   case rel=>exact⟨k+1,by omega,by go_num,hIz H5.out.1,hIz H5.out.2.1,hIz H5.out.2.2⟩
   case measure=>simp[intOf];omega
  ·obtain rfl:k=n2:=by omega
   obtain⟨W4,hW4⟩:∃W,W=wr:=⟨_,rfl⟩;subst hW4;have i4:IsB W4 (w.heap.size+1) ((cB N E).flatMap eK):=by
    have:=hi.out;rw[List.take_of_length_le (by rw[HN2.out];exact Nat.le_refl _)] at this;exact this
   have hll:((cB N E).flatMap eK).length≤32*19:=by
    have:=jH (f:=eK) (c:=19) (l:=cB N E) (fun x hx=>mY (HS.out.n x (gJ hx)));rw[HN2.out] at this;exact Nat.le_trans this (Nat.mul_le_mul_right _ hn2')
   have bb4:Below (w.heap.size+1) W1 W4:=by
    exact HBM.out.trans hb.out
   have k4:W4.cell? ⟨w.heap.size,1,none⟩=some (.slice B E.length d):=(bb4.cell (p:=⟨w.heap.size,1,none⟩) (by show w.heap.size<_;omega)).trans (H.out.2.1.cell 1);have q1:=k4;have bw4:Below w.heap.size w W4:=H.out.2.2.1.trans (bb4.mono (by omega));have HI4:=aI4 i4 hll bb4 bw4;have hz4:w.heap.size+2≤W4.heap.size:=Nat.le_trans hzz hb.out.size;clear i4 hll bb4 bw4 k4 hb ho hi hlt;go_wp2_with fail;clear q1;go_loopw [7,22] (fun _ i wr=>∃k:Nat,k≤E.length∧i=.int .i64 k∧Hid (Below (w.heap.size+1) W4 wr)∧Hid (IsB wr (w.heap.size+1) ((cB N E).flatMap eK++(E.take k).flatMap gU))) (fun _ i _=>E.length-(intOf i).toNat)
   case atStart=>exact⟨0,Nat.zero_le _,rfl,hIz bR,hIz (by simpa using HI4.out.1)⟩
   case round =>
    obtain⟨k,hk,rfl,hb,hi⟩:=hrel;by_cases hlt:k<E.length
    ·have hltI:(k:Int)<(E.length:Int):=by omega
     have hkw:IntKind.i64.wrap ((k:Int)+1)=(k:Int)+1:=IntWalk.i64_in _ (by omega);obtain⟨⟨s0,s1,s2⟩,hx⟩:∃x,E[k]?=some x:=⟨E[k],gEz _⟩;obtain⟨ab,ao,rfl,hab⟩:=HB.out k _ hx;obtain⟨ab',ao',e,y0,y1,y2⟩:=H.out.1.re.ed hx;injection e with e;injection e with e e2;subst e;subst e2;dsimp only at y0 y1 y2
     have bz:=HI4.out.2.2.1.trans hb.out;have cc:=fun i=>bz.cell (p:=⟨ab,i,none⟩) (by show ab<_;omega)
     have x0:=(cc _).trans y0;have x1:=(cc _).trans y1;have x2:=(cc _).trans y2;have hsz:=HS.out.e _ (mG hx);dsimp only at hsz
     have hll:(((cB N E).flatMap eK)++(E.take k).flatMap gU).length≤32*19+256*53:=by
      have h2:=HI4.out.2.1;have:=jH (f:=gU) (c:=53) (l:=E.take k) (fun x hx=>wP (HS.out.e x (List.mem_of_mem_take hx)));have h3:(E.take k).length≤256:=by rw[List.length_take];omega
      have h4:=Nat.le_trans this (Nat.mul_le_mul_right _ h3);rw[List.length_append];omega
     have kx:=Blk.new wr 32 #[.string s0,.string s1,.string s2];have bx:Below wr.heap.size wr (wr.alloc (.cells #[.string s0,.string s1,.string s2] 32)):=bR.alloc (Nat.le_refl _) _;have ix:=hi.out.alloc (.cells #[.string s0,.string s1,.string s2] 32);have hzr:=hb.out.size;have HX:=aI4 hx kx (hb.out.trans (bx.mono (by omega))) ix;have hzx:(wr.alloc (.cells #[.string s0,.string s1,.string s2] 32)).heap.size=wr.heap.size+1:=by simp
     clear hx kx bx ix y0 y1 y2 cc bz;go_upto_region 10 with (fail);generalize wr.alloc (.cells #[.string s0,.string s1,.string s2] 32)=W5 at HX hzx ⊢;clear x0 x1 x2;have x0:W5.cell? ⟨wr.heap.size,0,none⟩=some (.string s0):=HX.out.2.1.cell 0;have x1:W5.cell? ⟨wr.heap.size,1,none⟩=some (.string s1):=HX.out.2.1.cell 1;have x2:W5.cell? ⟨wr.heap.size,2,none⟩=some (.string s2):=HX.out.2.1.cell 2;obtain⟨t0,ht0⟩:∃t,s0++(⟨#[32]⟩:Txt)=t:=⟨_,rfl⟩;have z0:t0.size=s0.size+1:=by rw[← ht0,dV];rfl
     obtain⟨t1,ht1⟩:∃t,t0++s1=t:=⟨_,rfl⟩;have z1:t1.size=t0.size+s1.size:=by rw[← ht1,dV]
     obtain⟨t2,ht2⟩:∃t,t1++(⟨#[32]⟩:Txt)=t:=⟨_,rfl⟩;have z2:t2.size=t1.size+1:=by rw[← ht2,dV];rfl
     obtain⟨t3,ht3⟩:∃t,t2++s2=t:=⟨_,rfl⟩;have z3:t3.size=t2.size+s2.size:=by rw[← ht3,dV]
     obtain⟨t4,ht4⟩:∃t,t3++(⟨#[32,59,10]⟩:Txt)=t:=⟨_,rfl⟩;have z4:t4.size=t3.size+3:=by rw[← ht4,dV];rfl
     have hdat:t4.data.toList=gU ⟨s0,s1,s2⟩:=by
      rw[← ht4,cY,← ht3,cY,← ht2,cY,← ht1,cY,← ht0,cY];rfl
     have a0:=lQ s0 ⟨#[32]⟩ (by show s0.size+1≤1000;omega);have a1:=lQ t0 s1 (by omega);have a2:=lQ t1 ⟨#[32]⟩ (by show t1.size+1≤1000;omega);have a3:=lQ t2 s2 (by omega);have a4:=lQ t3 ⟨#[32,59,10]⟩ (by show t3.size+3≤1000;omega);rw[ht0] at a0;rw[ht1] at a1;rw[ht2] at a2;rw[ht3] at a3;rw[ht4] at a4;have hcon:=JR W5 (w.heap.size+1) _ t4 HX.out.2.2.2 (by omega) (by omega);have htk:(cB N E).flatMap eK++(E.take k).flatMap gU++t4.data.toList=(cB N E).flatMap eK++(E.take (k+1)).flatMap gU:=by rw[dE HX.out.1,hdat];simp
     rw[htk] at hcon;have HC:=hIz hcon;clear hcon htk hll ht0 ht1 ht2 ht3 ht4 z0 z1 z2 z3 z4 hdat hsz;go_wp2_with fail;refine HC.out.mono ?_;rintro e w6 ⟨rfl,i6,b6,-⟩;have H6:=aI2 (HX.out.2.2.1.trans b6) i6;clear i6 b6;go_wp2;go_roundw
     case rel=>exact⟨k+1,by omega,by go_num,hIz H6.out.1,hIz H6.out.2⟩
     case measure=>simp[intOf];omega
    ·obtain rfl:k=E.length:=by omega
     have hcon:=KL wr (w.heap.size+1) _ hi.out (by have:=hb.out.size;omega);rw[List.take_length] at hcon;have HC:=hIz hcon;have bwr:=HI4.out.2.2.2.trans (hb.out.mono (by omega));have HW:=hIz bwr;clear hcon bwr;go_wp2_with fail;refine HC.out.mono ?_;rintro e w6 ⟨rfl,b6⟩;have FIN:=hIz (HW.out.trans (b6.mono (by omega)));clear b6;go_wp2;go_ret;exact⟨rfl,FIN.out⟩
open Go.Shelf
def yP:Go.Shelf.Ren:=⟨fun | 0=>0 | 1=>1 | 2=>2 | 41=>49 | 43=>167 | 53=>166 | 59=>217 | 63=>188 | 64=>185 | 68=>233 | 70=>211 | 71=>212 | 72=>213 | 73=>214 | 74=>215 | 75=>216 | 76=>218 | 77=>219 | 78=>209 | 79=>210 | 88=>230 | 89=>226 | 90=>227 | 91=>231 | 92=>232 | 96=>251 | 98=>260 | 99=>261 | 100=>262 | 101=>263 | 102=>264 | 103=>265 | 104=>266 | 105=>267 | 106=>268 | 107=>269 | 108=>270 | 109=>271 | 110=>272 | 111=>274 | 112=>275 | 113=>288 | n=>n,fun | 0=>0 | 1=>1 | 2=>2 | 3=>3 | 4=>4 | 5=>5 | 6=>6 | 7=>7 | 8=>8 | 9=>9 | 10=>10 | 11=>11 | 12=>12 | 13=>13 | 14=>14 | 15=>15 | 16=>16 | 17=>17 | 18=>18 | 19=>19 | 20=>20 | 21=>21 | 22=>26 | 23=>9 | 28=>210 | 30=>131 | 32=>237 | 36=>112 | 44=>153 | 51=>201 | 52=>289 | 53=>160 | 56=>262 | 57=>260 | 59=>286 | 60=>277 | 61=>278 | 62=>287 | 63=>288 | 64=>290 | 65=>291 | 66=>283 | 67=>284 | 68=>249 | 69=>166 | 75=>298 | 76=>299 | 77=>300 | 78=>304 | 79=>302 | 80=>305 | 83=>316 | 84=>93 | 85=>318 | 87=>246 | 88=>325 | 89=>326 | 90=>327 | 91=>328 | 92=>329 | 93=>64 | 94=>330 | 95=>331 | 96=>332 | 97=>263 | 98=>333 | 99=>334 | 100=>335 | 101=>336 | 102=>292 | n=>n,fun n=>n⟩
theorem FI:SlLaysE.n43 Tryz.prog yP:={
 mixed:=(by kernel_rfl)
 f43:=⟨Tryz.f167.name,by decide,Tryz.func167.trans (congrArg some (by kernel_rfl))⟩
 t0:=Tryz.underlying0
 a0:=Tryz.isAgg0
 z0:=Tryz.sizeOf0
 v0:=Tryz.zeroValue0
 t3:=Tryz.underlying3
 a3:=Tryz.isAgg3
 z3:=Tryz.sizeOf3
 v3:=Tryz.zeroValue3
 t4:=Tryz.underlying4
 a4:=Tryz.isAgg4
 z4:=Tryz.sizeOf4
 v4:=Tryz.zeroValue4
 t22:=Tryz.underlying26
 a22:=Tryz.isAgg26
 z22:=Tryz.sizeOf26
 v22:=Tryz.zeroValue26
 a23:=Tryz.isAgg9
 z23:=Tryz.sizeOf9 }
open Go.Shelf
def sU:Go.Shelf.Ren:=⟨fun | 0=>0 | 1=>1 | 2=>2 | 6=>192 | 11=>127 | 14=>222 | 15=>185 | 16=>233 | 18=>163 | 20=>234 | 21=>235 | 22=>236 | 23=>237 | 24=>238 | 25=>239 | 26=>240 | 27=>241 | 28=>209 | 29=>210 | 46=>252 | 47=>226 | 48=>227 | 49=>253 | 50=>254 | 57=>258 | 60=>260 | 61=>261 | 62=>262 | 63=>263 | 64=>264 | 65=>265 | 66=>266 | 67=>267 | 68=>268 | 69=>269 | 70=>270 | 71=>271 | 72=>272 | 73=>274 | 74=>275 | 75=>288 | n=>n,fun | 0=>0 | 1=>1 | 2=>2 | 3=>3 | 4=>4 | 5=>5 | 6=>6 | 7=>7 | 8=>8 | 9=>9 | 10=>10 | 11=>11 | 12=>12 | 13=>13 | 14=>14 | 15=>15 | 16=>16 | 17=>17 | 18=>18 | 19=>19 | 20=>20 | 21=>21 | 22=>26 | 23=>265 | 24=>9 | 25=>147 | 26=>237 | 27=>181 | 29=>190 | 37=>295 | 38=>260 | 39=>201 | 40=>160 | 42=>189 | 44=>306 | 45=>277 | 46=>278 | 47=>307 | 48=>308 | 49=>309 | 50=>153 | 51=>310 | 52=>283 | 53=>284 | 54=>249 | 55=>166 | 66=>298 | 67=>299 | 68=>300 | 69=>319 | 70=>302 | 71=>320 | 76=>316 | 77=>93 | 78=>323 | 81=>246 | 82=>325 | 83=>326 | 84=>327 | 85=>328 | 86=>329 | 87=>64 | 88=>330 | 89=>331 | 90=>332 | 91=>263 | 92=>333 | 93=>334 | 94=>335 | 95=>336 | 96=>292 | n=>n,fun n=>n⟩
theorem PC:SlLaysF.n6 Tryz.prog sU:={
 mixed:=(by kernel_rfl)
 f6:=⟨Tryz.f192.name,by decide,Tryz.func192.trans (congrArg some (by kernel_rfl))⟩
 f14:=⟨Tryz.f222.name,by decide,Tryz.func222.trans (congrArg some (by kernel_rfl))⟩
 f15:=Tryz.func185.trans (congrArg some (by kernel_rfl))
 f20:=⟨Tryz.f234.name,by decide,Tryz.func234.trans (congrArg some (by kernel_rfl))⟩
 f21:=⟨Tryz.f235.name,by decide,Tryz.func235.trans (congrArg some (by kernel_rfl))⟩
 f22:=⟨Tryz.f236.name,by decide,Tryz.func236.trans (congrArg some (by kernel_rfl))⟩
 f23:=⟨Tryz.f237.name,by decide,Tryz.func237.trans (congrArg some (by kernel_rfl))⟩
 f24:=⟨Tryz.f238.name,by decide,Tryz.func238.trans (congrArg some (by kernel_rfl))⟩
 f25:=⟨Tryz.f239.name,by decide,Tryz.func239.trans (congrArg some (by kernel_rfl))⟩
 f26:=⟨Tryz.f240.name,by decide,Tryz.func240.trans (congrArg some (by kernel_rfl))⟩
 f27:=⟨Tryz.f241.name,by decide,Tryz.func241.trans (congrArg some (by kernel_rfl))⟩
 f28:=Tryz.func209.trans (congrArg some (by kernel_rfl))
 f29:=Tryz.func210.trans (congrArg some (by kernel_rfl))
 f46:=⟨Tryz.f252.name,by decide,Tryz.func252.trans (congrArg some (by kernel_rfl))⟩
 f47:=Tryz.func226.trans (congrArg some (by kernel_rfl))
 f48:=Tryz.func227.trans (congrArg some (by kernel_rfl))
 f49:=⟨Tryz.f253.name,by decide,Tryz.func253.trans (congrArg some (by kernel_rfl))⟩
 f50:=⟨Tryz.f254.name,by decide,Tryz.func254.trans (congrArg some (by kernel_rfl))⟩
 f57:=⟨Tryz.f258.name,by decide,Tryz.func258.trans (congrArg some (by kernel_rfl))⟩
 t0:=Tryz.underlying0
 a0:=Tryz.isAgg0
 z0:=Tryz.sizeOf0
 v0:=Tryz.zeroValue0
 t3:=Tryz.underlying3
 a3:=Tryz.isAgg3
 z3:=Tryz.sizeOf3
 v3:=Tryz.zeroValue3
 t4:=Tryz.underlying4
 a4:=Tryz.isAgg4
 z4:=Tryz.sizeOf4
 v4:=Tryz.zeroValue4
 t5:=Tryz.underlying5
 a5:=Tryz.isAgg5
 z5:=Tryz.sizeOf5
 v5:=Tryz.zeroValue5
 t9:=Tryz.underlying9
 a9:=Tryz.isAgg9
 z9:=Tryz.sizeOf9
 v9:=Tryz.zeroValue9
 t22:=Tryz.underlying26
 a22:=Tryz.isAgg26
 z22:=Tryz.sizeOf26
 v22:=Tryz.zeroValue26
 a24:=Tryz.isAgg9
 z24:=Tryz.sizeOf9
 t25:=Tryz.underlying147
 a25:=Tryz.isAgg147
 z25:=Tryz.sizeOf147
 v25:=Tryz.zeroValue147
 t39:=Tryz.underlying201
 a39:=Tryz.isAgg201
 z39:=Tryz.sizeOf201
 v39:=Tryz.zeroValue201
 t45:=Tryz.underlying277
 a45:=Tryz.isAgg277
 z45:=Tryz.sizeOf277
 v45:=Tryz.zeroValue277
 t46:=Tryz.underlying278
 a46:=Tryz.isAgg278
 z46:=Tryz.sizeOf278
 v46:=Tryz.zeroValue278
 t50:=Tryz.underlying153
 a50:=Tryz.isAgg153
 z50:=Tryz.sizeOf153
 v50:=Tryz.zeroValue153
 t53:=Tryz.underlying284
 a53:=Tryz.isAgg284
 z53:=Tryz.sizeOf284
 v53:=Tryz.zeroValue284
 t55:=Tryz.underlying166
 a55:=Tryz.isAgg166
 z55:=Tryz.sizeOf166
 v55:=Tryz.zeroValue166
 t66:=Tryz.underlying298
 a66:=Tryz.isAgg298
 z66:=Tryz.sizeOf298
 v66:=Tryz.zeroValue298
 t70:=Tryz.underlying302
 a70:=Tryz.isAgg302
 z70:=Tryz.sizeOf302
 v70:=Tryz.zeroValue302
 t76:=Tryz.underlying316
 a76:=Tryz.isAgg316
 z76:=Tryz.sizeOf316
 v76:=Tryz.zeroValue316
 t77:=Tryz.underlying93
 a77:=Tryz.isAgg93
 z77:=Tryz.sizeOf93
 v77:=Tryz.zeroValue93 }
theorem NI:SlLaysF0.n6 Tryz.prog sU:={
 mixed:=(by kernel_rfl)
 f6:=⟨Tryz.f192.name,by decide,Tryz.func192.trans (congrArg some (by kernel_rfl))⟩
 f14:=⟨Tryz.f222.name,by decide,Tryz.func222.trans (congrArg some (by kernel_rfl))⟩
 f15:=Tryz.func185.trans (congrArg some (by kernel_rfl))
 f20:=⟨Tryz.f234.name,by decide,Tryz.func234.trans (congrArg some (by kernel_rfl))⟩
 f21:=⟨Tryz.f235.name,by decide,Tryz.func235.trans (congrArg some (by kernel_rfl))⟩
 f22:=⟨Tryz.f236.name,by decide,Tryz.func236.trans (congrArg some (by kernel_rfl))⟩
 f23:=⟨Tryz.f237.name,by decide,Tryz.func237.trans (congrArg some (by kernel_rfl))⟩
 f24:=⟨Tryz.f238.name,by decide,Tryz.func238.trans (congrArg some (by kernel_rfl))⟩
 f25:=⟨Tryz.f239.name,by decide,Tryz.func239.trans (congrArg some (by kernel_rfl))⟩
 f26:=⟨Tryz.f240.name,by decide,Tryz.func240.trans (congrArg some (by kernel_rfl))⟩
 f27:=⟨Tryz.f241.name,by decide,Tryz.func241.trans (congrArg some (by kernel_rfl))⟩
 f28:=Tryz.func209.trans (congrArg some (by kernel_rfl))
 f29:=Tryz.func210.trans (congrArg some (by kernel_rfl))
 f46:=⟨Tryz.f252.name,by decide,Tryz.func252.trans (congrArg some (by kernel_rfl))⟩
 f47:=Tryz.func226.trans (congrArg some (by kernel_rfl))
 f48:=Tryz.func227.trans (congrArg some (by kernel_rfl))
 f49:=⟨Tryz.f253.name,by decide,Tryz.func253.trans (congrArg some (by kernel_rfl))⟩
 f50:=⟨Tryz.f254.name,by decide,Tryz.func254.trans (congrArg some (by kernel_rfl))⟩
 f57:=⟨Tryz.f258.name,by decide,Tryz.func258.trans (congrArg some (by kernel_rfl))⟩
 t0:=Tryz.underlying0
 a0:=Tryz.isAgg0
 z0:=Tryz.sizeOf0
 v0:=Tryz.zeroValue0
 t3:=Tryz.underlying3
 a3:=Tryz.isAgg3
 z3:=Tryz.sizeOf3
 v3:=Tryz.zeroValue3
 t4:=Tryz.underlying4
 a4:=Tryz.isAgg4
 z4:=Tryz.sizeOf4
 v4:=Tryz.zeroValue4
 t5:=Tryz.underlying5
 a5:=Tryz.isAgg5
 z5:=Tryz.sizeOf5
 v5:=Tryz.zeroValue5
 t9:=Tryz.underlying9
 a9:=Tryz.isAgg9
 z9:=Tryz.sizeOf9
 v9:=Tryz.zeroValue9
 t22:=Tryz.underlying26
 a22:=Tryz.isAgg26
 z22:=Tryz.sizeOf26
 v22:=Tryz.zeroValue26
 t25:=Tryz.underlying147
 a25:=Tryz.isAgg147
 z25:=Tryz.sizeOf147
 v25:=Tryz.zeroValue147
 t39:=Tryz.underlying201
 a39:=Tryz.isAgg201
 z39:=Tryz.sizeOf201
 v39:=Tryz.zeroValue201
 t45:=Tryz.underlying277
 a45:=Tryz.isAgg277
 z45:=Tryz.sizeOf277
 v45:=Tryz.zeroValue277
 t46:=Tryz.underlying278
 a46:=Tryz.isAgg278
 z46:=Tryz.sizeOf278
 v46:=Tryz.zeroValue278
 t50:=Tryz.underlying153
 a50:=Tryz.isAgg153
 z50:=Tryz.sizeOf153
 v50:=Tryz.zeroValue153
 t53:=Tryz.underlying284
 a53:=Tryz.isAgg284
 z53:=Tryz.sizeOf284
 v53:=Tryz.zeroValue284
 t55:=Tryz.underlying166
 a55:=Tryz.isAgg166
 z55:=Tryz.sizeOf166
 v55:=Tryz.zeroValue166
 t66:=Tryz.underlying298
 a66:=Tryz.isAgg298
 z66:=Tryz.sizeOf298
 v66:=Tryz.zeroValue298
 t70:=Tryz.underlying302
 a70:=Tryz.isAgg302
 z70:=Tryz.sizeOf302
 v70:=Tryz.zeroValue302
 t76:=Tryz.underlying316
 a76:=Tryz.isAgg316
 z76:=Tryz.sizeOf316
 v76:=Tryz.zeroValue316
 t77:=Tryz.underlying93
 a77:=Tryz.isAgg93
 z77:=Tryz.sizeOf93
 v77:=Tryz.zeroValue93 }
open Go.RowKit Go.Sort Go.Shelf
instance:Inhabited Txt:=⟨ByteArray.empty⟩
instance:Inhabited Ed:=⟨⟨default,default,default⟩⟩

section
variable {α:Type} [Inhabited α]
theorem FJ(enc:α→Value)(cur:Array Value)(d:Array α)(h:d.size≤cur.size):(putCells enc 0 d cur).toList.take d.size=d.toList.map enc:=by
 apply List.ext_getElem?
 intro j;by_cases hj:j<d.size
 ·rw[List.getElem?_take_of_lt hj,Array.getElem?_toList];simp[putCells,hj,show j<cur.size by omega]
 ·rw[List.getElem?_take_eq_none (by omega),List.getElem?_eq_none (by simp;omega)]
theorem qS{enc:α→Value}{w:World}{base e size n g cap m:Nat}{os:Array Obj}{xs:List Value}(h:w.ownsRow base e size (.slice (some ⟨g,0,none⟩) n cap) n xs)(d:Array α)(hd:d.size=n*size) :
  (grow (putRow enc (Sort.ahead w m) g 0 d) os).ownsRow base e size (.slice (some ⟨g,0,none⟩) n cap) n (d.toList.map enc)∧Upd (fun q=>q=g) w (grow (putRow enc (Sort.ahead w m) g 0 d) os):=by
 rcases h.2 with ⟨hv,-⟩|⟨g',cap',cur,hv,hb,hg,h1,h2,h3,-⟩
 ·cases hv
 injection hv with hv _ hv3;injection hv with hv;injection hv with hv _ _;subst hv;subst hv3;have hlt:g<w.heap.size:=(Array.getElem?_eq_some_iff.1 hg).1;have hheap:(grow (putRow enc (Sort.ahead w m) g 0 d) os).heap[g]?=some (.cells (putCells enc 0 d cur) e (0,0)):=by
  rw[heap_grow_old _ _ (by simpa using hlt)];simp[putRow,mapBlock,Sort.ahead,Array.getElem?_modify,hg,onCells]
 refine⟨⟨by simp[hd],.inr ⟨g,cap,_,rfl,hb,hheap,h1,h2,by simp[putCells,h3],?_⟩⟩,rfl,rfl,rfl,by simp,fun k hk hne=>?_⟩
 ·have hle:d.size≤cur.size:=by rw[hd,h3];exact Nat.mul_le_mul_right _ h1
  have:=FJ enc cur d hle;rw[hd] at this;exact this
 ·rw[heap_grow_old _ _ (by simpa using hk)];have:g≠k:=fun e=>hne e.symm
  simp[putRow,mapBlock,Sort.ahead,Array.getElem?_modify,this]
theorem jX{enc:α→Value}{w:World}{base e size n g cap:Nat}{d:Array α}(h:w.ownsRow base e size (.slice (some ⟨g,0,none⟩) n cap) n (d.toList.map enc)):Holds enc w g 0 d:=by
 intro j hj;rcases h.2 with ⟨hv,-⟩|⟨g',cap',cur,hv,hb,hg,h1,h2,h3,h4⟩
 ·cases hv
 injection hv with hv _ hv3;injection hv with hv;injection hv with hv _ _;subst hv;have hc:=h.cells (g:=g) rfl j (enc d[j]!) (by simp[hj]);rw[Addr.add_lit] at hc;exact⟨by simpa using hc,by simp[World.frozen?,hg]⟩
end
section
variable {α:Type} [Inhabited α] [DecidableEq α]
theorem nQ{lt:α→α→Bool}(hs:Sto lt)(d:Array α)(hd:∀i j,i<j→j<d.size→lt d[j]! d[i]! = false):∀m,m≤d.size→cL lt (Lib.compactUpTo d m)∧∀x,x∈Lib.compactUpTo d m↔∃j,j<m∧d[j]! = x
 | 0,_=>⟨by simp[Lib.compactUpTo,cL],fun x=>by simp[Lib.compactUpTo]⟩
 | m+1,hm=>by
  obtain⟨h1,h2⟩:=nQ hs d hd m (by omega);rw[Lib.compactUpTo_succ];by_cases hk:Lib.keeps d m=true
  ·rw[if_pos hk];refine⟨List.pairwise_append.2 ⟨h1,List.pairwise_singleton _ _,fun a ha b hb=>?_⟩,fun x=>?_⟩
   ·obtain rfl:=List.mem_singleton.1 hb;obtain⟨j,hj,rfl⟩:=(h2 a).1 ha;have hne:d[m]! ≠ d[m-1]!:=by
     unfold Lib.keeps at hk;rcases of_decide_eq_true hk with e|e
     ·omega
     ·exact e
    have h3:lt d[m-1]! d[m]! = true:=by
     cases e:lt d[m-1]! d[m]!
     ·exact(hne (hs.tri _ _ (hd (m-1) m (by omega) (by omega)) e)).elim
     ·rfl
    by_cases e:j=m-1
    ·rw[e];exact h3
    ·have h4:=hd j (m-1) (by omega) (by omega);cases e5:lt d[j]! d[m-1]!
     ·rw[hs.tri _ _ e5 h4];exact h3
     ·exact hs.tr _ _ _ e5 h3
   ·rw[List.mem_append,h2,List.mem_singleton];constructor
    ·rintro (⟨j,hj,rfl⟩|rfl)
     ·exact⟨j,by omega,rfl⟩
     ·exact⟨m,by omega,rfl⟩
    ·rintro⟨j,hj,rfl⟩;by_cases e:j=m
     ·subst e;exact .inr rfl
     ·exact .inl ⟨j,by omega,rfl⟩
  ·rw[if_neg hk,List.append_nil];refine⟨h1,fun x=>?_⟩;rw[h2];have he:m≠0∧d[m]! = d[m-1]!:=by
    unfold Lib.keeps at hk;simpa using hk
   constructor
   ·rintro⟨j,hj,rfl⟩;exact⟨j,by omega,rfl⟩
   ·rintro⟨j,hj,rfl⟩;by_cases e:j=m
    ·subst e;exact⟨j-1,by omega,he.2.symm⟩
    ·exact⟨j,by omega,rfl⟩
theorem jY{lt:α→α→Bool}(hs:Sto lt){l:List α}(d:Array α)(hp:d.toList.Perm l)(hd:∀i j,i<j→j<d.size→lt d[j]! d[i]! = false):eX lt l (Lib.compactUpTo d d.size):=by
 obtain⟨h1,h2⟩:=nQ hs d hd d.size (Nat.le_refl _);refine⟨h1,fun x=>?_⟩;rw[h2,← hp.mem_iff];constructor
 ·rintro⟨j,hj,rfl⟩;rw[getElem!_pos d j hj];exact Array.mem_toList_iff.2 (Array.getElem_mem hj)
 ·intro hx;obtain⟨j,hj,rfl⟩:=List.getElem_of_mem hx;exact⟨j,by simpa using hj,by rw[getElem!_pos d j (by simpa using hj)];simp⟩
theorem pQ(d:Array α)(m:Nat):(Lib.compactUpTo d m).length≤m:=by
 unfold Lib.compactUpTo;rw[List.length_map];exact Nat.le_trans (List.length_filter_le _ _) (by simp)
end
def wQ(w:World)(L:List Ed)(e:Ending)(w':World):Prop:=∃v,e=.returned v∧w'.ownsRow w.heap.size 32 3 v L.length (aH L)∧Below w.heap.size w w'

theorem eY(w:World)(A:Option Addr)(c:Nat)(L:List Txt)(h:aV w A (aC L))(hl:L.length*16≤140737488355328) :
  Calls Tryz.prog 49 #[.slice A L.length c] w (jW w L):=by
 have heq:=fun (A:Option Addr) (n c n' c':Nat) (w:World)=>Lib.run_eql_slice_nil (P:=Tryz.prog) w 26 9 A n c n' c' Tryz.underlying26
 rcases A with _|⟨gb,go,sp⟩
 ·have hL:L=[]:=by
   cases L with
   | nil=>rfl
   | cons s L=>obtain⟨b,o,e,-⟩:=h 0 (.string s) rfl;cases e
  subst hL;clear h hl;go_enter Tryz.func49,Tryz.ntmps49;go_wp2;go_ret;exact⟨_,rfl,World.ownsRow_nil _ _ _ _,Below.refl _ _⟩
 ·obtain⟨i0,hi0,hz0,hz1,hz2⟩:=info_parts bJ;have b1:Below w.heap.size w (w.alloc (.cells #[] 9)):=bR.alloc (Nat.le_refl _) _;have hr:=(h.below b1).reads (cC L) (by decide);have own:(w.alloc (.cells #[] 9)).ownsRow w.heap.size 9 1 (.slice (some ⟨w.heap.size,0,none⟩) 0 0) 0 []:=⟨rfl,.inr ⟨w.heap.size,0,#[],rfl,Nat.le_refl _,heap_alloc_new w _,Nat.le_refl _,by decide,rfl,rfl⟩⟩;obtain⟨v',w',happ,own',gr,-,-⟩:=run_append_own_at (P:=Tryz.prog) (w.alloc (.cells #[] 9)) w.heap.size 26 26 9 i0 _ 1 16 Tryz.underlying26 hi0 hz0 hz1 hz2 rfl (by decide) (.slice (some ⟨w.heap.size,0,none⟩) 0 0) 0 [] own ⟨gb,go,sp⟩ L.length c (aC L) (cC L) (hr.2.2 _ rfl) (gT L) (by unfold maxLen;omega) (by omega) (by simp);have fin:jW w L (.returned v') w':=⟨v',rfl,by simpa using own',b1.grown gr (by simp) (fun k hk=>by simp[Value.ownBlock] at hk;omega)⟩;have FIN:=hIz fin;clear fin own own' gr hr b1 hi0 hz0 hz1 hz2 h;go_enter Tryz.func49,Tryz.ntmps49;go_wp2_with (at_builtin;refine wpList_append_run rfl _ _ _ rfl rfl rfl happ ?_);go_ret;exact FIN.out

theorem qT(w:World)(A:Option Addr)(c:Nat)(L:List Ed)(h:aV w A (aH L))(hl:L.length*48≤140737488355328) :
  Calls Tryz.prog 193 #[.slice A L.length c] w (wQ w L):=by
 have heq:=fun (A:Option Addr) (n c n' c':Nat) (w:World)=>Lib.run_eql_slice_nil (P:=Tryz.prog) w 27 32 A n c n' c' Tryz.underlying27
 rcases A with _|⟨gb,go,sp⟩
 ·have hL:L=[]:=by
   cases L with
   | nil=>rfl
   | cons s L=>obtain⟨b,o,e,-⟩:=h 0 (.string s.fr) rfl;cases e
  subst hL;clear h hl;go_enter Tryz.func193,Tryz.ntmps193;go_wp2;go_ret;exact⟨_,rfl,World.ownsRow_nil _ _ _ _,Below.refl _ _⟩
 ·obtain⟨i0,hi0,hz0,hz1,hz2⟩:=info_parts dN;have b1:Below w.heap.size w (w.alloc (.cells #[] 32)):=bR.alloc (Nat.le_refl _) _;have hr:=(h.below b1).reads (bK L) (by decide);have own:(w.alloc (.cells #[] 32)).ownsRow w.heap.size 32 3 (.slice (some ⟨w.heap.size,0,none⟩) 0 0) 0 []:=⟨rfl,.inr ⟨w.heap.size,0,#[],rfl,Nat.le_refl _,heap_alloc_new w _,Nat.le_refl _,by decide,rfl,rfl⟩⟩;obtain⟨v',w',happ,own',gr,-,-⟩:=run_append_own_at (P:=Tryz.prog) (w.alloc (.cells #[] 32)) w.heap.size 27 27 32 i0 _ 3 48 Tryz.underlying27 hi0 hz0 hz1 hz2 rfl (by decide) (.slice (some ⟨w.heap.size,0,none⟩) 0 0) 0 [] own ⟨gb,go,sp⟩ L.length c (aH L) (bK L) (hr.2.2 _ rfl) (mJ L) (by unfold maxLen;omega) (by omega) (by simp);have fin:wQ w L (.returned v') w':=⟨v',rfl,by simpa using own',b1.grown gr (by simp) (fun k hk=>by simp[Value.ownBlock] at hk;omega)⟩;have FIN:=hIz fin;clear fin own own' gr hr b1 hi0 hz0 hz1 hz2 h;go_enter Tryz.func193,Tryz.ntmps193;go_wp2_with (at_builtin;refine wpList_append_run rfl _ _ _ rfl rfl rfl happ ?_);go_ret;exact FIN.out

theorem KM:SWO (ltOf jT):=by
 have h:∀x y,ltOf jT x y=ltT x y:=fun x y=>jE x y
 refine⟨fun x=>by rw[h];exact dW.irr x,fun x y z a b=>by rw[h] at *;exact dW.tr x y z a b,fun x y z a b=>?_⟩;rw[h] at *;cases e:ltT x z
 ·rfl
 ·cases e2:ltT z y
  ·rw[dW.tri _ _ b e2] at a;rw[a] at e;cases e
  ·have:=dW.tr _ _ _ e e2;rw[a] at this;cases this
theorem NJ:SWO (ltOf FA):=by
 have h:∀x y,ltOf FA x y=ltE x y:=fun x y=>vE x y
 refine⟨fun x=>by rw[h];exact jR.irr x,fun x y z a b=>by rw[h] at *;exact jR.tr x y z a b,fun x y z a b=>?_⟩;rw[h] at *;cases e:ltE x z
 ·rfl
 ·cases e2:ltE z y
  ·rw[jR.tri _ _ b e2] at a;rw[a] at e;cases e
  ·have:=jR.tr _ _ _ e e2;rw[a] at this;cases this
structure qU{α:Type}[Inhabited α](lt:α→α→Bool)(L:List α)(d:Array α):Prop where
 n:d.size=L.length
 p:d.toList.Perm L
 s:∀i j,i<j→j<d.size→lt d[j]! d[i]! = false
theorem qU.of{α:Type}[Inhabited α]{lt:α→α→Bool}{L:List α}{d':Array α}(hp:PermIn 0 L.toArray.size L.toArray d')(hs:SortedIn lt 0 L.toArray.size d'):qU lt L d':=by
 have hz:d'.size=L.length:=by rw[hp.1];simp
 refine⟨hz,?_,fun i j hij hj=>hs i j (Nat.zero_le _) hij (by rw[hz] at hj;simpa using hj)⟩;have:=hp.2.2;simp at this
 rw[List.take_of_length_le (by simp[hz])] at this;exact this
theorem AF(w:World)(base g cap:Nat)(L:List Txt)(h:w.ownsRow base 9 1 (.slice (some ⟨g,0,none⟩) L.length cap) L.length (aC L))(hl:L.length≤140737488355328) :
  Calls Tryz.prog 192 #[.slice (some ⟨g,0,none⟩) L.length cap,.func (.func 80) #[] #[]] w fun e w'=>e=.returned (.tuple #[])∧∃d:Array Txt,qU ltT L d∧w'.ownsRow base 9 1 (.slice (some ⟨g,0,none⟩) L.length cap) L.length (d.toList.map Value.string)∧Upd (fun q=>q=g) w w':=by
 have eg:∀args w,(callFunc 80 args).run Tryz.prog w=.ok (.enter 80 args) w:=enters_of Tryz.func80 (by kernel_rfl) rfl;have hcmp:CmpLays1 Tryz.prog 80 #[] Value.string jT g 0 L.toArray.size w:=fun m os dk _ x y=>(eQ x y _).mono fun e w' hh=>⟨hh.1,0,#[],by rw[hh.2,grow_empty];rfl⟩
 have hH:Holds Value.string w g 0 L.toArray:=jX (by simpa[aC] using h);have hg:=(h.lt g rfl).2;have hcon:=Any.slices_SortFunc PC Value.string (fun _=>rfl) jT KM 80 #[] g 0 cap L.toArray w eg hcmp hH hg (by simp;omega);change Calls Tryz.prog 192 _ _ _ at hcon
 rw[show L.toArray.size=L.length from by simp] at hcon;refine hcon.mono ?_;rintro e w' ⟨rfl,d',n,os,hp,hs,rfl⟩;have hlt:ltOf jT=ltT:=by funext x y;exact jE x y
 rw[hlt] at hs;have ho:=qU.of (L:=L) (by simpa using hp) (by simpa using hs);have key:=qS (enc:=Value.string) (m:=n) (os:=os) h d' (by rw[ho.n];omega);exact⟨rfl,d',ho,key.1,key.2⟩

theorem vH(x y:Txt):(x.toList==y.toList)=decide (x=y):=by
 rw[ByteArray.toList_eq,ByteArray.toList_eq];by_cases h:x=y
 ·subst h;simp
 ·rw[decide_eq_false h];simpa using fun e=>h (nN (by simpa using congrArg Array.toList e))
theorem aV.pre{w:World}{A:Option Addr}{xs ys:List Value}(h:aV w A (xs++ys)):aV w A xs:=fun j u hj=>h j u (by rw[List.getElem?_append_left (gO.1 hj).1];exact hj)
theorem nR(w:World)(base g cap n:Nat)(L:List Txt)(d:Array Txt)(ho:qU ltT L d)(hn:L.length=n)(h:w.ownsRow base 9 1 (.slice (some ⟨g,0,none⟩) n cap) n (d.toList.map Value.string))(hl:n≤140737488355328) :
  Calls Tryz.prog 167 #[.slice (some ⟨g,0,none⟩) n cap] w fun e w'=>∃M,eX ltT L M∧M.length≤L.length∧e=.returned (.slice (some ⟨g,0,none⟩) M.length cap)∧aV w' (some ⟨g,0,none⟩) (aC M)∧Upd (fun q=>q=g) w w':=by
 have hH:Holds Value.string w g 0 d:=jX h;have hsz:d.size=n:=by rw[ho.n,hn]
 obtain⟨_,_,e1,hcap,-⟩:=aG h;injection e1 with _ _ e1;subst e1;have heq:EqlAt Tryz.prog 9 Value.string (fun x y=>decide (x=y)):=by
  have:=EqlAt.string Tryz.prog 9;simpa only [vH] using this
 have hne:NeqAt Tryz.prog 9 Value.string (fun x y=>decide (x=y)):=by
  have:=NeqAt.string Tryz.prog 9;simpa only [vH] using this
 have hcon:=AnyE.slices_Compact FI Value.string (fun _=>rfl) heq hne ByteArray.empty (fun _=>by kernel_rfl) g 0 cap d w hH (by omega) (by omega);change Calls Tryz.prog 167 _ _ _ at hcon
 rw[hsz] at hcon;refine hcon.mono ?_;rintro e w' ⟨rfl,q,rfl⟩;have hset:=jY dW d ho.p ho.s;have hle:=pQ d d.size;rw[hsz] at hset hle;have key:=qS (enc:=Value.string) (m:=q) (os:=#[]) h (Lib.compactUpTo d n++List.replicate (n-(Lib.compactUpTo d n).length) ByteArray.empty).toArray (by simp;omega);rw[grow_empty] at key;refine⟨_,hset,by omega,rfl,?_,key.2⟩;have hr:=aV.of_own key.1;simp only[List.map_append] at hr
 exact hr.pre
theorem mM(w:World)(p:Option Addr)(cap:Nat):Calls Tryz.prog 167 #[.slice p 0 cap] w (eJ w (.slice p 0 cap)):=by
 go_enter Tryz.func167,Tryz.ntmps167;go_wp2;go_ret;exact⟨rfl,rfl⟩
theorem jW.base{w w0:World}{M:List Txt}{e:Ending}{w':World}(h:jW w M e w')(hb:Below w0.heap.size w0 w):jW w0 M e w':=by
 obtain⟨v,rfl,own,b⟩:=h;exact⟨v,rfl,aJ own (fun q hq=>Nat.le_trans hb.size (own.lt q hq).1),tHn hb b⟩
def MY(w:World)(L:List Txt)(e:Ending)(w':World):Prop:=∃M,eX ltT L M∧M.length≤L.length∧jW w M e w'

theorem yQ(w:World)(A:Option Addr)(c:Nat)(L:List Txt)(h:aV w A (aC L))(hl:L.length*16≤140737488355328) :
  Calls Tryz.prog 176 #[.slice A L.length c,.func (.func 80) #[] #[]] w (MY w L):=by
 have HH:=hIz h;clear h;go_enter Tryz.func176,Tryz.ntmps176;go_wp2_with fail;refine(eY w A c L HH.out hl).mono ?_;rintro e w1 ⟨v,rfl,own1,b1⟩;obtain⟨A1,c1,rfl,hc1,hA1⟩:=aG own1;by_cases h0:L.length=0
 ·obtain rfl:L=[]:=List.eq_nil_of_length_eq_zero h0;have HB:=hIz b1;clear own1 b1 h0 hl hc1 hA1;have hs0:=AnyF.slices_SortFunc_none NI A1 c1 (.func (.func 80) #[] #[]) w1;change Calls Tryz.prog 192 _ _ _ at hs0
  have HS0:=hIz hs0;clear hs0;go_wp2_with fail;refine HS0.out.mono ?_;rintro e w2 ⟨rfl,rfl⟩;go_wp2_with fail;refine(mM _ _ _).mono ?_;rintro e w2 ⟨rfl,rfl⟩;go_wp2_with fail;refine(eY _ A1 c1 [] (fun j u hj=>by simp[aC] at hj) (by simp)).mono ?_;intro e w3 hn;have hn':=hn.base HB.out;obtain⟨v3,rfl,own3,b3⟩:=hn';have FIN:=hIz (show MY w [] (.returned v3) w3 from⟨[],eX.self (lt:=ltT) .nil,Nat.le_refl _,v3,rfl,own3,b3⟩);clear hn own3 b3;go_wp2;go_ret;exact FIN.out
 ·obtain⟨g,rfl⟩:∃g,A1=some ⟨g,0,none⟩:=by
   rcases own1.2 with ⟨-,h2⟩|⟨g,cap,cur,hv,-⟩
   ·exact(h0 h2).elim
   ·injection hv with hv;exact⟨g,hv⟩
  obtain⟨n,hn⟩:∃n,L.length=n:=⟨_,rfl⟩;have hs:=AF w1 w.heap.size g c1 L own1 (by omega);rw[hn] at hs ⊢;have hgb:=(own1.lt g rfl).1;have HB:=aI3 b1 hs hn;clear own1 b1 h0 hc1 hA1 hs hn;go_wp2_with fail;refine HB.out.2.1.mono ?_;rintro e w2 ⟨rfl,dd,ho,own2,u2⟩;have H2:=aI3 ho own2 (HB.out.1.trans (u2.below (fun q _ e=>by omega) HB.out.1.size));clear ho own2 u2;go_wp2_with fail;refine(nR w2 w.heap.size g c1 n L dd H2.out.1 HB.out.2.2 H2.out.2.1 (by have:=HB.out.2.2;omega)).mono ?_;rintro e w3 ⟨M,hM,hlen,rfl,hr3,u3⟩;have H3:=aI4 hM hlen hr3 (H2.out.2.2.trans (u3.below (fun q _ e=>by omega) H2.out.2.2.size));have hml:M.length*16≤140737488355328:=by omega
  clear hM hlen hr3 u3;obtain⟨k,hk⟩:∃k,M.length=k:=⟨_,rfl⟩;have hcl:=eY w3 (some ⟨g,0,none⟩) c1 M H3.out.2.2.1 hml;rw[hk] at hcl ⊢;have HCL:=hIz hcl;clear hcl hk hml;go_wp2_with fail;refine HCL.out.mono ?_;intro e w4 hn;have hn':=hn.base H3.out.2.2.2;obtain⟨v4,rfl,own4,b4⟩:=hn';have FIN:=hIz (show MY w L (.returned v4) w4 from⟨M,H3.out.1,H3.out.2.1,v4,rfl,own4,b4⟩);clear hn own4 b4;go_wp2;go_ret;exact FIN.out
open Go.Shelf
def AG:Go.Shelf.Ren:=⟨fun | 0=>0 | 1=>1 | 2=>2 | 6=>166 | 8=>185 | 9=>188 | 19=>209 | 20=>210 | 21=>211 | 22=>212 | 23=>213 | 24=>214 | 25=>215 | 26=>216 | 27=>217 | 28=>218 | 29=>219 | 31=>226 | 32=>227 | 36=>230 | 37=>231 | 38=>232 | 39=>233 | 41=>251 | 42=>260 | 43=>261 | 44=>262 | 45=>263 | 46=>264 | 47=>265 | 48=>266 | 49=>267 | 50=>268 | 51=>269 | 52=>270 | 53=>271 | 54=>272 | 55=>274 | 56=>275 | 57=>288 | n=>n,fun | 0=>0 | 1=>1 | 2=>2 | 3=>3 | 4=>4 | 5=>5 | 6=>6 | 7=>7 | 8=>8 | 9=>9 | 10=>10 | 11=>11 | 12=>12 | 13=>13 | 14=>14 | 15=>15 | 16=>16 | 17=>17 | 18=>18 | 19=>19 | 20=>20 | 21=>21 | 26=>26 | 27=>26 | 28=>237 | 29=>9 | 31=>260 | 32=>201 | 33=>262 | 35=>277 | 36=>278 | 41=>153 | 43=>283 | 44=>284 | 45=>249 | 46=>166 | 47=>286 | 48=>287 | 49=>288 | 50=>289 | 51=>290 | 52=>291 | 53=>298 | 54=>299 | 55=>300 | 57=>302 | 60=>304 | 61=>305 | 62=>160 | 63=>316 | 64=>93 | 66=>318 | 67=>246 | 68=>325 | 69=>326 | 70=>327 | 71=>328 | 72=>329 | 73=>64 | 74=>330 | 75=>331 | 76=>332 | 77=>263 | 78=>333 | 79=>334 | 80=>335 | 81=>336 | 82=>292 | n=>n,fun n=>n⟩
theorem NK:SlLaysM.n6 Tryz.prog AG:={
 mixed:=(by kernel_rfl)
 f6:=⟨Tryz.f166.name,by decide,Tryz.func166.trans (congrArg some (by kernel_rfl))⟩
 f8:=Tryz.func185.trans (congrArg some (by kernel_rfl))
 f9:=⟨Tryz.f188.name,by decide,Tryz.func188.trans (congrArg some (by kernel_rfl))⟩
 f19:=Tryz.func209.trans (congrArg some (by kernel_rfl))
 f20:=Tryz.func210.trans (congrArg some (by kernel_rfl))
 f21:=⟨Tryz.f211.name,by decide,Tryz.func211.trans (congrArg some (by kernel_rfl))⟩
 f22:=⟨Tryz.f212.name,by decide,Tryz.func212.trans (congrArg some (by kernel_rfl))⟩
 f23:=⟨Tryz.f213.name,by decide,Tryz.func213.trans (congrArg some (by kernel_rfl))⟩
 f24:=⟨Tryz.f214.name,by decide,Tryz.func214.trans (congrArg some (by kernel_rfl))⟩
 f25:=⟨Tryz.f215.name,by decide,Tryz.func215.trans (congrArg some (by kernel_rfl))⟩
 f26:=⟨Tryz.f216.name,by decide,Tryz.func216.trans (congrArg some (by kernel_rfl))⟩
 f27:=⟨Tryz.f217.name,by decide,Tryz.func217.trans (congrArg some (by kernel_rfl))⟩
 f28:=⟨Tryz.f218.name,by decide,Tryz.func218.trans (congrArg some (by kernel_rfl))⟩
 f29:=⟨Tryz.f219.name,by decide,Tryz.func219.trans (congrArg some (by kernel_rfl))⟩
 f31:=Tryz.func226.trans (congrArg some (by kernel_rfl))
 f32:=Tryz.func227.trans (congrArg some (by kernel_rfl))
 f36:=⟨Tryz.f230.name,by decide,Tryz.func230.trans (congrArg some (by kernel_rfl))⟩
 f37:=⟨Tryz.f231.name,by decide,Tryz.func231.trans (congrArg some (by kernel_rfl))⟩
 f38:=⟨Tryz.f232.name,by decide,Tryz.func232.trans (congrArg some (by kernel_rfl))⟩
 f39:=⟨Tryz.f233.name,by decide,Tryz.func233.trans (congrArg some (by kernel_rfl))⟩
 f41:=⟨Tryz.f251.name,by decide,Tryz.func251.trans (congrArg some (by kernel_rfl))⟩
 t0:=Tryz.underlying0
 a0:=Tryz.isAgg0
 z0:=Tryz.sizeOf0
 v0:=Tryz.zeroValue0
 t3:=Tryz.underlying3
 a3:=Tryz.isAgg3
 z3:=Tryz.sizeOf3
 v3:=Tryz.zeroValue3
 t4:=Tryz.underlying4
 a4:=Tryz.isAgg4
 z4:=Tryz.sizeOf4
 v4:=Tryz.zeroValue4
 t5:=Tryz.underlying5
 a5:=Tryz.isAgg5
 z5:=Tryz.sizeOf5
 v5:=Tryz.zeroValue5
 t9:=Tryz.underlying9
 a9:=Tryz.isAgg9
 z9:=Tryz.sizeOf9
 v9:=Tryz.zeroValue9
 t26:=Tryz.underlying26
 a26:=Tryz.isAgg26
 z26:=Tryz.sizeOf26
 v26:=Tryz.zeroValue26
 t27:=Tryz.underlying26
 a27:=Tryz.isAgg26
 z27:=Tryz.sizeOf26
 v27:=Tryz.zeroValue26
 t29:=Tryz.underlying9
 a29:=Tryz.isAgg9
 z29:=Tryz.sizeOf9
 v29:=Tryz.zeroValue9
 t32:=Tryz.underlying201
 a32:=Tryz.isAgg201
 z32:=Tryz.sizeOf201
 v32:=Tryz.zeroValue201
 t35:=Tryz.underlying277
 a35:=Tryz.isAgg277
 z35:=Tryz.sizeOf277
 v35:=Tryz.zeroValue277
 t36:=Tryz.underlying278
 a36:=Tryz.isAgg278
 z36:=Tryz.sizeOf278
 v36:=Tryz.zeroValue278
 t41:=Tryz.underlying153
 a41:=Tryz.isAgg153
 z41:=Tryz.sizeOf153
 v41:=Tryz.zeroValue153
 t44:=Tryz.underlying284
 a44:=Tryz.isAgg284
 z44:=Tryz.sizeOf284
 v44:=Tryz.zeroValue284
 t46:=Tryz.underlying166
 a46:=Tryz.isAgg166
 z46:=Tryz.sizeOf166
 v46:=Tryz.zeroValue166
 t53:=Tryz.underlying298
 a53:=Tryz.isAgg298
 z53:=Tryz.sizeOf298
 v53:=Tryz.zeroValue298
 t57:=Tryz.underlying302
 a57:=Tryz.isAgg302
 z57:=Tryz.sizeOf302
 v57:=Tryz.zeroValue302
 t63:=Tryz.underlying316
 a63:=Tryz.isAgg316
 z63:=Tryz.sizeOf316
 v63:=Tryz.zeroValue316
 t64:=Tryz.underlying93
 a64:=Tryz.isAgg93
 z64:=Tryz.sizeOf93
 v64:=Tryz.zeroValue93 }
open Go.RowKit Go.Sort Go.Shelf
theorem PY:Sto Op.bytesLess:=by
 refine⟨jU,vD,fun a b h k=>?_⟩;rcases fG a b with ⟨_,d⟩|⟨_,d⟩|⟨_,d⟩
 ·rw[h] at d;cases d
 ·exact d
 ·rw[k] at d;cases d
theorem AH:∀(a b:List UInt8),Op.bytesLess a b=true↔a<b
 | a,[]=>by cases a <;> simp[Op.bytesLess]
 | [],_::_=>by simp[Op.bytesLess]
 | x::a,y::b=>by
  rw[List.cons_lt_cons_iff,← AH a b];simp[Op.bytesLess]
theorem KN(a b:List UInt8):decide (a≤b)=!Op.bytesLess b a:=by
 have h:=AH b a;cases e:Op.bytesLess b a
 ·rw[e] at h;simp only[Bool.not_false,decide_eq_true_eq]
  exact List.not_lt.1 (fun k=>by have:=h.2 k;cases this)
 ·rw[e] at h;simp only[Bool.not_true,decide_eq_false_iff_not]
  exact fun k=>List.not_le.2 (h.1 rfl) k
theorem Sto.le_trans{α:Type}{lt:α→α→Bool}(hs:Sto lt)(a b c:α)(h:(!lt b a)=true)(k:(!lt c b)=true):(!lt c a)=true:=by
 simp only[Bool.not_eq_true'] at *
 cases e:lt c a
 ·rfl
 ·cases e2:lt a b
  ·rw[hs.tri _ _ e2 h] at e;rw[e] at k;cases k
  ·have:=hs.tr _ _ _ e e2;rw[this] at k;cases k
theorem Sto.le_total{α:Type}{lt:α→α→Bool}(hs:Sto lt)(a b:α):(!lt b a||!lt a b)=true:=by
 cases e:lt b a
 ·rfl
 ·rw[hs.asym e];rfl

theorem FK(w:World)(base g cap:Nat)(L:List Txt)(h:w.ownsRow base 9 1 (.slice (some ⟨g,0,none⟩) L.length cap) L.length (aC L))(hl:L.length≤140737488355328) :
  Calls Tryz.prog 166 #[.slice (some ⟨g,0,none⟩) L.length cap] w fun e w'=>e=.returned (.tuple #[])∧∃d:Array Txt,qU ltT L d∧w'.ownsRow base 9 1 (.slice (some ⟨g,0,none⟩) L.length cap) L.length (d.toList.map Value.string)∧Upd (fun q=>q=g) w w':=by
 obtain⟨ss,hss⟩:∃ss,L.map (fun s=>s.data.toList)=ss:=⟨_,rfl⟩;have hlen:ss.length=L.length:=by rw[← hss];simp
 have hcell:aC L=ss.toArray.toList.map encStr:=by rw[← hss,aC];simp[encStr]
 rw[hcell] at h;have hH:Holds encStr w g 0 ss.toArray:=jX h;have hg:=(h.lt g rfl).2;have hcon:=AnyM.slices_Sort_string NK g 0 cap ss w hH hg (by omega);change Calls Tryz.prog 166 _ _ _ at hcon
 rw[hlen] at hcon;refine hcon.mono ?_;rintro e w' ⟨rfl,n,os,rfl⟩;have hfun:(fun x y:List UInt8=>decide (x≤y))=fun x y=>!Op.bytesLess y x:=by funext x y;exact KN x y
 rw[hfun];obtain⟨ts,hts⟩:∃ts,(ss.mergeSort fun x y=>!Op.bytesLess y x)=ts:=⟨_,rfl⟩;rw[hts];have hperm:ts.Perm ss:=by rw[← hts];exact List.mergeSort_perm _ _
 have hsort:ts.Pairwise fun a b=>(!Op.bytesLess b a)=true:=by rw[← hts];exact List.pairwise_mergeSort (fun a b c=>PY.le_trans a b c) (fun a b=>PY.le_total a b) ss
 have key:=qS (enc:=encStr) (m:=n) (os:=os) h ts.toArray (by simp[hperm.length_eq,hlen]);refine⟨rfl,(ts.map sH).toArray,⟨by simp[hperm.length_eq,hlen],?_,fun i j hij hj=>?_⟩,?_,key.2⟩
 ·have h1:(ts.map sH).Perm (ss.map sH):=hperm.map sH;rw[← hss] at h1;simp only[List.map_map] at h1
  have h2:(sH ∘ fun s:Txt=>s.data.toList)=id:=by funext s;exact yK s
  rw[h2,List.map_id] at h1;exact h1
 ·simp only[List.size_toArray,List.length_map] at hj
  rw[getElem!_pos _ j (by simpa using hj),getElem!_pos _ i (by simp;omega)];simp only[List.getElem_toArray,List.getElem_map]
  have:=List.pairwise_iff_getElem.1 hsort i j (by omega) hj hij;unfold ltT;rw[fE,fE];simpa[sH] using this
 ·have:=key.1;simp only[List.map_map]
  have h2:(Value.string ∘ sH)=encStr:=by funext l;rfl
  rw[h2];exact this
theorem AI(w:World)(p:Option Addr)(cap:Nat):Calls Tryz.prog 166 #[.slice p 0 cap] w (fun e w'=>e=.returned (.tuple #[])∧w'=w):=by
 have hcon:=AnyM.slices_Sort_string_none NK p cap w;change Calls Tryz.prog 166 _ _ _ at hcon
 exact hcon

theorem AJ(w:World)(base:Nat)(v:Value)(L:List Txt)(own:w.ownsRow base 9 1 v L.length (aC L))(s:Txt)(hl:(L.length+1)*16≤140737488355328)(hb:base≤w.heap.size) :
  ∃v' w',(Builtin.append_ #[26,26] 26 #[v,.slice (some ⟨w.heap.size,0,none⟩) 1 1]).run Tryz.prog (w.alloc (.cells #[.string s] 9))=.ok v' w'∧w'.ownsRow base 9 1 v' (L++[s]).length (aC (L++[s]))∧Upd (fun k=>v.ownBlock=some k) w w'∧∀k,v'.ownBlock=some k→v.ownBlock=some k∨w.heap.size≤k:=by
 obtain⟨v',w',happ,own',up,hk⟩:=eV w base 26 9 1 16 _ Tryz.underlying26 bJ rfl (by decide) v L.length _ own [.string s] 1 rfl (by simp;exact rfl) hl (by unfold maxLen;omega) hb;refine⟨v',w',happ,?_,up,hk⟩;rw[List.length_append,aC,List.map_append];exact own'
def lbs(E:List Ed):List Txt:=E.map fun x=>x.lb
def PD(w:World)(base b:Nat)(v:Value)(M:List Txt)(e:Ending)(w':World):Prop:=e=.returned (.tuple #[])∧∃v',Blk w' b 26 #[v']∧w'.ownsRow base 9 1 v' M.length (aC M)∧v'.ownBlock≠some b∧Upd (fun q=>q=b∨v.ownBlock=some q) w w'
theorem FL(w:World)(base b:Nat)(v:Value)(L:List Txt)(x:Ed)(hb:Blk w b 26 #[v])(own:w.ownsRow base 9 1 v L.length (aC L))(hne:v.ownBlock≠some b)(hl:(L.length+1)*16≤140737488355328)(hbase:base≤w.heap.size) :
  Calls Tryz.prog 165 #[x.agg,.pointer (some ⟨b,0,none⟩)] w (PD w base b v (L++[x.lb])):=by
 obtain⟨x0,x1,x2⟩:=x;obtain⟨A,c,rfl,-,-⟩:=aG own;have kx:=Blk.new w 32 #[.string x0,.string x1,.string x2];have kb:=hb.alloc (.cells #[.string x0,.string x1,.string x2] 32);have ow:=own.alloc (.cells #[.string x0,.string x1,.string x2] 32);have ux:Upd (fun q=>q=b∨(Value.slice A L.length c).ownBlock=some q) w (w.alloc (.cells #[.string x0,.string x1,.string x2] 32)):=(Upd.refl _ w).alloc _;have hlt:=hb.lt;have H:=aI4 ow ux hne kb;have hz:(w.alloc (.cells #[.string x0,.string x1,.string x2] 32)).heap.size=w.heap.size+1:=by simp
 have c0:=kb.cell 0;have cx:=kx.cell 1;simp only[List.getElem?_toArray,List.getElem?_cons_zero,List.getElem?_cons_succ] at c0 cx
 clear hb own ow ux hne kx kb;unfold Ed.agg;go_enter Tryz.func165,Tryz.ntmps165;go_upto_region 1 with (fail);generalize w.alloc (.cells #[.string x0,.string x1,.string x2] 32)=W1 at H hz c0 cx ⊢;obtain⟨v',w6,happ,own6,u6,hv6⟩:=AJ W1 base _ _ H.out.1 x1 hl (by omega);obtain⟨n,hn⟩:∃n,L.length=n:=⟨_,rfl⟩;have k6:=H.out.2.2.2.upd u6 (fun e=>H.out.2.2.1 e);have c6:=k6.cell 0;have f6:=k6.frozen 0;simp only[List.getElem?_toArray,List.getElem?_cons_zero] at c6
 have hne6:v'.ownBlock≠some b:=fun e=>by
  rcases hv6 b e with h|h
  ·exact H.out.2.2.1 h
  ·omega
 obtain⟨A6,c6',rfl,-,-⟩:=aG own6;have kF:=k6.set 0 (.slice A6 (L++[x1]).length c6');have uF:=((H.out.2.1.trans u6 (fun i e=>.inl (.inr e))).setCell (p:=⟨b,0,none⟩) (.inl (.inl rfl)) (.slice A6 (L++[x1]).length c6'));have oF:=aA own6 ((Upd.refl (fun q=>q=b) w6).setCell (p:=⟨b,0,none⟩) (.inl rfl) (.slice A6 (L++[x1]).length c6')) (fun k hk e=>hne6 (by rw[hk,e]));obtain⟨m,hm⟩:∃m,(L++[x1]).length=m:=⟨_,rfl⟩;have FIN:=aI5 kF oF hne6 uF hm;clear kF oF hne6 uF own6 u6 k6;rw[hn] at happ c0 c6;rw[hm] at happ;clear hn hm hz hv6;go_wp2_with (at_builtin;refine wpList_append_run rfl _ _ _ rfl rfl rfl happ ?_);go_end0
 rw[← FIN.out.2.2.2.2];exact⟨rfl,_,FIN.out.1,FIN.out.2.1,FIN.out.2.2.1,FIN.out.2.2.2.1⟩
end Go.Proofs.YtddffnonlmfhdaaGreatDoor
