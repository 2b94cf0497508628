/- Edges: a list of texts in order, each once; The library's contracts laid at this program: which function, which type bears which number; Edges: the labels of a graph; Edges: the labels of a graph, each once, rising; what is too many; Edges: what is too many; may a graph be?; The library's contracts laid at this program: which function, which type bears which number; Edges: a list of edges in order, each once; Edges: slices.Compact at edges; Edges: edges in order, each once; two graphs that are the same; Edges: the graph of nodes and edges in any order; The library's contracts laid at this program: which function, which type bears which number. -/
import Derived.Test.YteffnejneoocgaaGreatDoorF02
import Derived.Shelf.SortM.Plain
import Derived.Shelf.SortM.SortNone
import Derived.Test.YteffnejneoocgaaGreatDoorProg
import Derived.Shelf.SlSortCmp.WholeK
import Derived.Shelf.SlSortCmp.NoneTotal
import Derived.Laws.CopyRow
import Derived.Shelf.Spec.SlicesGrow
set_option linter.unusedVariables false
set_option linter.unusedSimpArgs false
set_option maxHeartbeats 16000000
set_option maxRecDepth 100000
namespace Go.Proofs.YteffnejneoocgaaGreatDoor
open Go.RowKit Go.Sort Go.Shelf
instance:Inhabited Txt:=⟨ByteArray.empty⟩
instance:Inhabited Ed:=⟨⟨default,default,default⟩⟩

section
variable {α:Type} [Inhabited α]
theorem IM(enc:α→Value)(cur:Array Value)(d:Array α)(h:d.size≤cur.size):(putCells enc 0 d cur).toList.take d.size=d.toList.map enc:=by
 apply List.ext_getElem?
 intro j;by_cases hj:j<d.size
 ·rw[List.getElem?_take_of_lt hj,Array.getElem?_toList];simp[putCells,hj,show j<cur.size by omega]
 ·rw[List.getElem?_take_eq_none (by omega),List.getElem?_eq_none (by simp;omega)]
theorem nN{enc:α→Value}{w:World}{base e size n g cap m:Nat}{os:Array Obj}{xs:List Value}(h:w.ownsRow base e size (.slice (some ⟨g,0,none⟩) n cap) n xs)(d:Array α)(hd:d.size=n*size) :
  (grow (putRow enc (Sort.ahead w m) g 0 d) os).ownsRow base e size (.slice (some ⟨g,0,none⟩) n cap) n (d.toList.map enc)∧Upd (fun q=>q=g) w (grow (putRow enc (Sort.ahead w m) g 0 d) os):=by
 rcases h.2 with ⟨hv,-⟩|⟨g',cap',cur,hv,hb,hg,h1,h2,h3,-⟩
 ·cases hv
 injection hv with hv _ hv3;injection hv with hv;injection hv with hv _ _;subst hv;subst hv3;have hlt:g<w.heap.size:=(Array.getElem?_eq_some_iff.1 hg).1;have hheap:(grow (putRow enc (Sort.ahead w m) g 0 d) os).heap[g]?=some (.cells (putCells enc 0 d cur) e (0,0)):=by
  rw[heap_grow_old _ _ (by simpa using hlt)];simp[putRow,mapBlock,Sort.ahead,Array.getElem?_modify,hg,onCells]
 refine⟨⟨by simp[hd],.inr ⟨g,cap,_,rfl,hb,hheap,h1,h2,by simp[putCells,h3],?_⟩⟩,rfl,rfl,rfl,by simp,fun k hk hne=>?_⟩
 ·have hle:d.size≤cur.size:=by rw[hd,h3];exact Nat.mul_le_mul_right _ h1
  have:=IM enc cur d hle;rw[hd] at this;exact this
 ·rw[heap_grow_old _ _ (by simpa using hk)];have:g≠k:=fun e=>hne e.symm
  simp[putRow,mapBlock,Sort.ahead,Array.getElem?_modify,this]
theorem jB{enc:α→Value}{w:World}{base e size n g cap:Nat}{d:Array α}(h:w.ownsRow base e size (.slice (some ⟨g,0,none⟩) n cap) n (d.toList.map enc)):Holds enc w g 0 d:=by
 intro j hj;rcases h.2 with ⟨hv,-⟩|⟨g',cap',cur,hv,hb,hg,h1,h2,h3,h4⟩
 ·cases hv
 injection hv with hv _ hv3;injection hv with hv;injection hv with hv _ _;subst hv;have hc:=h.cells (g:=g) rfl j (enc d[j]!) (by simp[hj]);rw[Addr.add_lit] at hc;exact⟨by simpa using hc,by simp[World.frozen?,hg]⟩
end
section
variable {α:Type} [Inhabited α] [DecidableEq α]
theorem nO{lt:α→α→Bool}(hs:Sto lt)(d:Array α)(hd:∀i j,i<j→j<d.size→lt d[j]! d[i]! = false):∀m,m≤d.size→cT lt (Lib.compactUpTo d m)∧∀x,x∈Lib.compactUpTo d m↔∃j,j<m∧d[j]! = x
 | 0,_=>⟨by simp[Lib.compactUpTo,cT],fun x=>by simp[Lib.compactUpTo]⟩
 | m+1,hm=>by
  obtain⟨h1,h2⟩:=nO hs d hd m (by omega);rw[Lib.compactUpTo_succ];by_cases hk:Lib.keeps d m=true
  ·rw[if_pos hk];refine⟨List.pairwise_append.2 ⟨h1,List.pairwise_singleton _ _,fun a ha b hb=>?_⟩,fun x=>?_⟩
   ·obtain rfl:=List.mem_singleton.1 hb;obtain⟨j,hj,rfl⟩:=(h2 a).1 ha;have hne:d[m]! ≠ d[m-1]!:=by
     unfold Lib.keeps at hk;rcases of_decide_eq_true hk with e|e
     ·omega
     ·exact e
    have h3:lt d[m-1]! d[m]! = true:=by
     cases e:lt d[m-1]! d[m]!
     ·exact(hne (hs.tri _ _ (hd (m-1) m (by omega) (by omega)) e)).elim
     ·rfl
    by_cases e:j=m-1
    ·rw[e];exact h3
    ·have h4:=hd j (m-1) (by omega) (by omega);cases e5:lt d[j]! d[m-1]!
     ·rw[hs.tri _ _ e5 h4];exact h3
     ·exact hs.tr _ _ _ e5 h3
   ·rw[List.mem_append,h2,List.mem_singleton];constructor
    ·rintro (⟨j,hj,rfl⟩|rfl)
     ·exact⟨j,by omega,rfl⟩
     ·exact⟨m,by omega,rfl⟩
    ·rintro⟨j,hj,rfl⟩;by_cases e:j=m
     ·subst e;exact .inr rfl
     ·exact .inl ⟨j,by omega,rfl⟩
  ·rw[if_neg hk,List.append_nil];refine⟨h1,fun x=>?_⟩;rw[h2];have he:m≠0∧d[m]! = d[m-1]!:=by
    unfold Lib.keeps at hk;simpa using hk
   constructor
   ·rintro⟨j,hj,rfl⟩;exact⟨j,by omega,rfl⟩
   ·rintro⟨j,hj,rfl⟩;by_cases e:j=m
    ·subst e;exact⟨j-1,by omega,he.2.symm⟩
    ·exact⟨j,by omega,rfl⟩
theorem kV{lt:α→α→Bool}(hs:Sto lt){l:List α}(d:Array α)(hp:d.toList.Perm l)(hd:∀i j,i<j→j<d.size→lt d[j]! d[i]! = false):gG lt l (Lib.compactUpTo d d.size):=by
 obtain⟨h1,h2⟩:=nO hs d hd d.size (Nat.le_refl _);refine⟨h1,fun x=>?_⟩;rw[h2,← hp.mem_iff];constructor
 ·rintro⟨j,hj,rfl⟩;rw[getElem!_pos d j hj];exact Array.mem_toList_iff.2 (Array.getElem_mem hj)
 ·intro hx;obtain⟨j,hj,rfl⟩:=List.getElem_of_mem hx;exact⟨j,by simpa using hj,by rw[getElem!_pos d j (by simpa using hj)];simp⟩
theorem pY(d:Array α)(m:Nat):(Lib.compactUpTo d m).length≤m:=by
 unfold Lib.compactUpTo;rw[List.length_map];exact Nat.le_trans (List.length_filter_le _ _) (by simp)
end
def MP(w:World)(L:List Ed)(e:Ending)(w':World):Prop:=∃v,e=.returned v∧w'.ownsRow w.heap.size 88 3 v L.length (aR L)∧Below w.heap.size w w'

theorem gJ(w:World)(A:Option Addr)(c:Nat)(L:List Txt)(h:aX w A (aE L))(hl:L.length*16≤140737488355328) :
  Calls Tryz.prog 138 #[.slice A L.length c] w (pK w L):=by
 have heq:=fun (A:Option Addr) (n c n' c':Nat) (w:World)=>Lib.run_eql_slice_nil (P:=Tryz.prog) w 25 9 A n c n' c' Tryz.underlying25
 rcases A with _|⟨gb,go,sp⟩
 ·have hL:L=[]:=by
   cases L with
   | nil=>rfl
   | cons s L=>obtain⟨b,o,e,-⟩:=h 0 (.string s) rfl;cases e
  subst hL;clear h hl;go_enter Tryz.func138,Tryz.ntmps138;go_wp2;go_ret;exact⟨_,rfl,World.ownsRow_nil _ _ _ _,Below.refl _ _⟩
 ·obtain⟨i0,hi0,hz0,hz1,hz2⟩:=info_parts cH;have b1:Below w.heap.size w (w.alloc (.cells #[] 9)):=bR.alloc (Nat.le_refl _) _;have hr:=(h.below b1).reads (fC L) (by decide);have own:(w.alloc (.cells #[] 9)).ownsRow w.heap.size 9 1 (.slice (some ⟨w.heap.size,0,none⟩) 0 0) 0 []:=⟨rfl,.inr ⟨w.heap.size,0,#[],rfl,Nat.le_refl _,heap_alloc_new w _,Nat.le_refl _,by decide,rfl,rfl⟩⟩;obtain⟨v',w',happ,own',gr,-,-⟩:=run_append_own_at (P:=Tryz.prog) (w.alloc (.cells #[] 9)) w.heap.size 25 25 9 i0 _ 1 16 Tryz.underlying25 hi0 hz0 hz1 hz2 rfl (by decide) (.slice (some ⟨w.heap.size,0,none⟩) 0 0) 0 [] own ⟨gb,go,sp⟩ L.length c (aE L) (fC L) (hr.2.2 _ rfl) (qV L) (by unfold maxLen;omega) (by omega) (by simp);have fin:pK w L (.returned v') w':=⟨v',rfl,by simpa using own',b1.grown gr (by simp) (fun k hk=>by simp[Value.ownBlock] at hk;omega)⟩;have FIN:=hIz fin;clear fin own own' gr hr b1 hi0 hz0 hz1 hz2 h;go_enter Tryz.func138,Tryz.ntmps138;go_wp2_with (at_builtin;refine wpList_append_run rfl _ _ _ rfl rfl rfl happ ?_);go_ret;exact FIN.out

theorem qX(w:World)(A:Option Addr)(c:Nat)(L:List Ed)(h:aX w A (aR L))(hl:L.length*48≤140737488355328) :
  Calls Tryz.prog 181 #[.slice A L.length c] w (MP w L):=by
 have heq:=fun (A:Option Addr) (n c n' c':Nat) (w:World)=>Lib.run_eql_slice_nil (P:=Tryz.prog) w 26 88 A n c n' c' Tryz.underlying26
 rcases A with _|⟨gb,go,sp⟩
 ·have hL:L=[]:=by
   cases L with
   | nil=>rfl
   | cons s L=>obtain⟨b,o,e,-⟩:=h 0 (.string s.fr) rfl;cases e
  subst hL;clear h hl;go_enter Tryz.func181,Tryz.ntmps181;go_wp2;go_ret;exact⟨_,rfl,World.ownsRow_nil _ _ _ _,Below.refl _ _⟩
 ·obtain⟨i0,hi0,hz0,hz1,hz2⟩:=info_parts iW;have b1:Below w.heap.size w (w.alloc (.cells #[] 88)):=bR.alloc (Nat.le_refl _) _;have hr:=(h.below b1).reads (cU L) (by decide);have own:(w.alloc (.cells #[] 88)).ownsRow w.heap.size 88 3 (.slice (some ⟨w.heap.size,0,none⟩) 0 0) 0 []:=⟨rfl,.inr ⟨w.heap.size,0,#[],rfl,Nat.le_refl _,heap_alloc_new w _,Nat.le_refl _,by decide,rfl,rfl⟩⟩;obtain⟨v',w',happ,own',gr,-,-⟩:=run_append_own_at (P:=Tryz.prog) (w.alloc (.cells #[] 88)) w.heap.size 26 26 88 i0 _ 3 48 Tryz.underlying26 hi0 hz0 hz1 hz2 rfl (by decide) (.slice (some ⟨w.heap.size,0,none⟩) 0 0) 0 [] own ⟨gb,go,sp⟩ L.length c (aR L) (cU L) (hr.2.2 _ rfl) (BR L) (by unfold maxLen;omega) (by omega) (by simp);have fin:MP w L (.returned v') w':=⟨v',rfl,by simpa using own',b1.grown gr (by simp) (fun k hk=>by simp[Value.ownBlock] at hk;omega)⟩;have FIN:=hIz fin;clear fin own own' gr hr b1 hi0 hz0 hz1 hz2 h;go_enter Tryz.func181,Tryz.ntmps181;go_wp2_with (at_builtin;refine wpList_append_run rfl _ _ _ rfl rfl rfl happ ?_);go_ret;exact FIN.out

theorem NN:SWO (ltOf kO):=by
 have h:∀x y,ltOf kO x y=ltT x y:=fun x y=>iY x y
 refine⟨fun x=>by rw[h];exact fJ.irr x,fun x y z a b=>by rw[h] at *;exact fJ.tr x y z a b,fun x y z a b=>?_⟩;rw[h] at *;cases e:ltT x z
 ·rfl
 ·cases e2:ltT z y
  ·rw[fJ.tri _ _ b e2] at a;rw[a] at e;cases e
  ·have:=fJ.tr _ _ _ e e2;rw[a] at this;cases this
theorem QS:SWO (ltOf GU):=by
 have h:∀x y,ltOf GU x y=ltE x y:=fun x y=>vT x y
 refine⟨fun x=>by rw[h];exact sR.irr x,fun x y z a b=>by rw[h] at *;exact sR.tr x y z a b,fun x y z a b=>?_⟩;rw[h] at *;cases e:ltE x z
 ·rfl
 ·cases e2:ltE z y
  ·rw[sR.tri _ _ b e2] at a;rw[a] at e;cases e
  ·have:=sR.tr _ _ _ e e2;rw[a] at this;cases this
structure nP{α:Type}[Inhabited α](lt:α→α→Bool)(L:List α)(d:Array α):Prop where
 n:d.size=L.length
 p:d.toList.Perm L
 s:∀i j,i<j→j<d.size→lt d[j]! d[i]! = false
theorem nP.of{α:Type}[Inhabited α]{lt:α→α→Bool}{L:List α}{d':Array α}(hp:PermIn 0 L.toArray.size L.toArray d')(hs:SortedIn lt 0 L.toArray.size d'):nP lt L d':=by
 have hz:d'.size=L.length:=by rw[hp.1];simp
 refine⟨hz,?_,fun i j hij hj=>hs i j (Nat.zero_le _) hij (by rw[hz] at hj;simpa using hj)⟩;have:=hp.2.2;simp at this
 rw[List.take_of_length_le (by simp[hz])] at this;exact this
theorem CB(w:World)(base g cap:Nat)(L:List Txt)(h:w.ownsRow base 9 1 (.slice (some ⟨g,0,none⟩) L.length cap) L.length (aE L))(hl:L.length≤140737488355328) :
  Calls Tryz.prog 180 #[.slice (some ⟨g,0,none⟩) L.length cap,.func (.func 70) #[] #[]] w fun e w'=>e=.returned (.tuple #[])∧∃d:Array Txt,nP ltT L d∧w'.ownsRow base 9 1 (.slice (some ⟨g,0,none⟩) L.length cap) L.length (d.toList.map Value.string)∧Upd (fun q=>q=g) w w':=by
 have eg:∀args w,(callFunc 70 args).run Tryz.prog w=.ok (.enter 70 args) w:=enters_of Tryz.func70 (by kernel_rfl) rfl;have hcmp:CmpLays1 Tryz.prog 70 #[] Value.string kO g 0 L.toArray.size w:=fun m os dk _ x y=>(dP x y _).mono fun e w' hh=>⟨hh.1,0,#[],by rw[hh.2,grow_empty];rfl⟩
 have hH:Holds Value.string w g 0 L.toArray:=jB (by simpa[aE] using h);have hg:=(h.lt g rfl).2;have hcon:=Any.slices_SortFunc TG Value.string (fun _=>rfl) kO NN 70 #[] g 0 cap L.toArray w eg hcmp hH hg (by simp;omega);change Calls Tryz.prog 180 _ _ _ at hcon
 rw[show L.toArray.size=L.length from by simp] at hcon;refine hcon.mono ?_;rintro e w' ⟨rfl,d',n,os,hp,hs,rfl⟩;have hlt:ltOf kO=ltT:=by funext x y;exact iY x y
 rw[hlt] at hs;have ho:=nP.of (L:=L) (by simpa using hp) (by simpa using hs);have key:=nN (enc:=Value.string) (m:=n) (os:=os) h d' (by rw[ho.n];omega);exact⟨rfl,d',ho,key.1,key.2⟩

theorem CC(x y:Txt):(x.toList==y.toList)=decide (x=y):=by
 rw[ByteArray.toList_eq,ByteArray.toList_eq];by_cases h:x=y
 ·subst h;simp
 ·rw[decide_eq_false h];simpa using fun e=>h (nK (by simpa using congrArg Array.toList e))
theorem aX.pre{w:World}{A:Option Addr}{xs ys:List Value}(h:aX w A (xs++ys)):aX w A xs:=fun j u hj=>h j u (by rw[List.getElem?_append_left (gO.1 hj).1];exact hj)
theorem nQ(w:World)(base g cap n:Nat)(L:List Txt)(d:Array Txt)(ho:nP ltT L d)(hn:L.length=n)(h:w.ownsRow base 9 1 (.slice (some ⟨g,0,none⟩) n cap) n (d.toList.map Value.string))(hl:n≤140737488355328) :
  Calls Tryz.prog 139 #[.slice (some ⟨g,0,none⟩) n cap] w fun e w'=>∃M,gG ltT L M∧M.length≤L.length∧e=.returned (.slice (some ⟨g,0,none⟩) M.length cap)∧aX w' (some ⟨g,0,none⟩) (aE M)∧Upd (fun q=>q=g) w w':=by
 have hH:Holds Value.string w g 0 d:=jB h;have hsz:d.size=n:=by rw[ho.n,hn]
 obtain⟨_,_,e1,hcap,-⟩:=aK h;injection e1 with _ _ e1;subst e1;have heq:EqlAt Tryz.prog 9 Value.string (fun x y=>decide (x=y)):=by
  have:=EqlAt.string Tryz.prog 9;simpa only [CC] using this
 have hne:NeqAt Tryz.prog 9 Value.string (fun x y=>decide (x=y)):=by
  have:=NeqAt.string Tryz.prog 9;simpa only [CC] using this
 have hcon:=AnyE.slices_Compact IL Value.string (fun _=>rfl) heq hne ByteArray.empty (fun _=>by kernel_rfl) g 0 cap d w hH (by omega) (by omega);change Calls Tryz.prog 139 _ _ _ at hcon
 rw[hsz] at hcon;refine hcon.mono ?_;rintro e w' ⟨rfl,q,rfl⟩;have hset:=kV fJ d ho.p ho.s;have hle:=pY d d.size;rw[hsz] at hset hle;have key:=nN (enc:=Value.string) (m:=q) (os:=#[]) h (Lib.compactUpTo d n++List.replicate (n-(Lib.compactUpTo d n).length) ByteArray.empty).toArray (by simp;omega);rw[grow_empty] at key;refine⟨_,hset,by omega,rfl,?_,key.2⟩;have hr:=aX.of_own key.1;simp only[List.map_append] at hr
 exact hr.pre
theorem mI(w:World)(p:Option Addr)(cap:Nat):Calls Tryz.prog 139 #[.slice p 0 cap] w (gB w (.slice p 0 cap)):=by
 go_enter Tryz.func139,Tryz.ntmps139;go_wp2;go_ret;exact⟨rfl,rfl⟩
theorem pK.base{w w0:World}{M:List Txt}{e:Ending}{w':World}(h:pK w M e w')(hb:Below w0.heap.size w0 w):pK w0 M e w':=by
 obtain⟨v,rfl,own,b⟩:=h;exact⟨v,rfl,bQ own (fun q hq=>Nat.le_trans hb.size (own.lt q hq).1),tHn hb b⟩
def QM(w:World)(L:List Txt)(e:Ending)(w':World):Prop:=∃M,gG ltT L M∧M.length≤L.length∧pK w M e w'

theorem zJ(w:World)(A:Option Addr)(c:Nat)(L:List Txt)(h:aX w A (aE L))(hl:L.length*16≤140737488355328) :
  Calls Tryz.prog 155 #[.slice A L.length c,.func (.func 70) #[] #[]] w (QM w L):=by
 have HH:=hIz h;clear h;go_enter Tryz.func155,Tryz.ntmps155;go_wp2_with fail;refine(gJ w A c L HH.out hl).mono ?_;rintro e w1 ⟨v,rfl,own1,b1⟩;obtain⟨A1,c1,rfl,hc1,hA1⟩:=aK own1;by_cases h0:L.length=0
 ·obtain rfl:L=[]:=List.eq_nil_of_length_eq_zero h0;have HB:=hIz b1;clear own1 b1 h0 hl hc1 hA1;have hs0:=AnyF.slices_SortFunc_none QR A1 c1 (.func (.func 70) #[] #[]) w1;change Calls Tryz.prog 180 _ _ _ at hs0
  have HS0:=hIz hs0;clear hs0;go_wp2_with fail;refine HS0.out.mono ?_;rintro e w2 ⟨rfl,rfl⟩;go_wp2_with fail;refine(mI _ _ _).mono ?_;rintro e w2 ⟨rfl,rfl⟩;go_wp2_with fail;refine(gJ _ A1 c1 [] (fun j u hj=>by simp[aE] at hj) (by simp)).mono ?_;intro e w3 hn;have hn':=hn.base HB.out;obtain⟨v3,rfl,own3,b3⟩:=hn';have FIN:=hIz (show QM w [] (.returned v3) w3 from⟨[],gG.self (lt:=ltT) .nil,Nat.le_refl _,v3,rfl,own3,b3⟩);clear hn own3 b3;go_wp2;go_ret;exact FIN.out
 ·obtain⟨g,rfl⟩:∃g,A1=some ⟨g,0,none⟩:=by
   rcases own1.2 with ⟨-,h2⟩|⟨g,cap,cur,hv,-⟩
   ·exact(h0 h2).elim
   ·injection hv with hv;exact⟨g,hv⟩
  obtain⟨n,hn⟩:∃n,L.length=n:=⟨_,rfl⟩;have hs:=CB w1 w.heap.size g c1 L own1 (by omega);rw[hn] at hs ⊢;have hgb:=(own1.lt g rfl).1;have HB:=aI3 b1 hs hn;clear own1 b1 h0 hc1 hA1 hs hn;go_wp2_with fail;refine HB.out.2.1.mono ?_;rintro e w2 ⟨rfl,dd,ho,own2,u2⟩;have H2:=aI3 ho own2 (HB.out.1.trans (u2.below (fun q _ e=>by omega) HB.out.1.size));clear ho own2 u2;go_wp2_with fail;refine(nQ w2 w.heap.size g c1 n L dd H2.out.1 HB.out.2.2 H2.out.2.1 (by have:=HB.out.2.2;omega)).mono ?_;rintro e w3 ⟨M,hM,hlen,rfl,hr3,u3⟩;have H3:=aI4 hM hlen hr3 (H2.out.2.2.trans (u3.below (fun q _ e=>by omega) H2.out.2.2.size));have hml:M.length*16≤140737488355328:=by omega
  clear hM hlen hr3 u3;obtain⟨k,hk⟩:∃k,M.length=k:=⟨_,rfl⟩;have hcl:=gJ w3 (some ⟨g,0,none⟩) c1 M H3.out.2.2.1 hml;rw[hk] at hcl ⊢;have HCL:=hIz hcl;clear hcl hk hml;go_wp2_with fail;refine HCL.out.mono ?_;intro e w4 hn;have hn':=hn.base H3.out.2.2.2;obtain⟨v4,rfl,own4,b4⟩:=hn';have FIN:=hIz (show QM w L (.returned v4) w4 from⟨M,H3.out.1,H3.out.2.1,v4,rfl,own4,b4⟩);clear hn own4 b4;go_wp2;go_ret;exact FIN.out
open Go.Shelf
def CD:Go.Shelf.Ren:=⟨fun | 0=>0 | 1=>1 | 2=>2 | 6=>137 | 8=>91 | 9=>164 | 19=>130 | 20=>131 | 21=>185 | 22=>186 | 23=>187 | 24=>188 | 25=>189 | 26=>190 | 27=>191 | 28=>192 | 29=>193 | 31=>159 | 32=>160 | 36=>202 | 37=>203 | 38=>204 | 39=>205 | 41=>230 | 42=>243 | 43=>244 | 44=>245 | 45=>246 | 46=>247 | 47=>248 | 48=>249 | 49=>250 | 50=>251 | 51=>252 | 52=>253 | 53=>254 | 54=>255 | 55=>257 | 56=>258 | 57=>276 | n=>n,fun | 0=>0 | 1=>1 | 2=>2 | 3=>3 | 4=>4 | 5=>5 | 6=>6 | 7=>7 | 8=>8 | 9=>9 | 10=>10 | 11=>11 | 12=>12 | 13=>13 | 14=>14 | 15=>15 | 16=>16 | 17=>17 | 18=>18 | 19=>19 | 20=>20 | 21=>21 | 26=>25 | 27=>25 | 28=>219 | 29=>9 | 31=>182 | 32=>183 | 33=>255 | 35=>209 | 36=>210 | 41=>98 | 43=>215 | 44=>216 | 45=>217 | 46=>162 | 47=>276 | 48=>277 | 49=>278 | 50=>279 | 51=>280 | 52=>281 | 53=>248 | 54=>249 | 55=>250 | 57=>252 | 60=>289 | 61=>290 | 62=>78 | 63=>274 | 64=>76 | 66=>307 | 67=>228 | 68=>317 | 69=>318 | 70=>319 | 71=>320 | 72=>321 | 73=>49 | 74=>322 | 75=>323 | 76=>324 | 77=>256 | 78=>325 | 79=>326 | 80=>327 | 81=>328 | 82=>282 | n=>n,fun n=>n⟩
theorem QT:SlLaysM.n6 Tryz.prog CD:={
 mixed:=(by kernel_rfl)
 f6:=⟨Tryz.f137.name,by decide,Tryz.func137.trans (congrArg some (by kernel_rfl))⟩
 f8:=Tryz.func91.trans (congrArg some (by kernel_rfl))
 f9:=⟨Tryz.f164.name,by decide,Tryz.func164.trans (congrArg some (by kernel_rfl))⟩
 f19:=Tryz.func130.trans (congrArg some (by kernel_rfl))
 f20:=Tryz.func131.trans (congrArg some (by kernel_rfl))
 f21:=⟨Tryz.f185.name,by decide,Tryz.func185.trans (congrArg some (by kernel_rfl))⟩
 f22:=⟨Tryz.f186.name,by decide,Tryz.func186.trans (congrArg some (by kernel_rfl))⟩
 f23:=⟨Tryz.f187.name,by decide,Tryz.func187.trans (congrArg some (by kernel_rfl))⟩
 f24:=⟨Tryz.f188.name,by decide,Tryz.func188.trans (congrArg some (by kernel_rfl))⟩
 f25:=⟨Tryz.f189.name,by decide,Tryz.func189.trans (congrArg some (by kernel_rfl))⟩
 f26:=⟨Tryz.f190.name,by decide,Tryz.func190.trans (congrArg some (by kernel_rfl))⟩
 f27:=⟨Tryz.f191.name,by decide,Tryz.func191.trans (congrArg some (by kernel_rfl))⟩
 f28:=⟨Tryz.f192.name,by decide,Tryz.func192.trans (congrArg some (by kernel_rfl))⟩
 f29:=⟨Tryz.f193.name,by decide,Tryz.func193.trans (congrArg some (by kernel_rfl))⟩
 f31:=Tryz.func159.trans (congrArg some (by kernel_rfl))
 f32:=Tryz.func160.trans (congrArg some (by kernel_rfl))
 f36:=⟨Tryz.f202.name,by decide,Tryz.func202.trans (congrArg some (by kernel_rfl))⟩
 f37:=⟨Tryz.f203.name,by decide,Tryz.func203.trans (congrArg some (by kernel_rfl))⟩
 f38:=⟨Tryz.f204.name,by decide,Tryz.func204.trans (congrArg some (by kernel_rfl))⟩
 f39:=⟨Tryz.f205.name,by decide,Tryz.func205.trans (congrArg some (by kernel_rfl))⟩
 f41:=⟨Tryz.f230.name,by decide,Tryz.func230.trans (congrArg some (by kernel_rfl))⟩
 t0:=Tryz.underlying0
 a0:=Tryz.isAgg0
 z0:=Tryz.sizeOf0
 v0:=Tryz.zeroValue0
 t3:=Tryz.underlying3
 a3:=Tryz.isAgg3
 z3:=Tryz.sizeOf3
 v3:=Tryz.zeroValue3
 t4:=Tryz.underlying4
 a4:=Tryz.isAgg4
 z4:=Tryz.sizeOf4
 v4:=Tryz.zeroValue4
 t5:=Tryz.underlying5
 a5:=Tryz.isAgg5
 z5:=Tryz.sizeOf5
 v5:=Tryz.zeroValue5
 t9:=Tryz.underlying9
 a9:=Tryz.isAgg9
 z9:=Tryz.sizeOf9
 v9:=Tryz.zeroValue9
 t26:=Tryz.underlying25
 a26:=Tryz.isAgg25
 z26:=Tryz.sizeOf25
 v26:=Tryz.zeroValue25
 t27:=Tryz.underlying25
 a27:=Tryz.isAgg25
 z27:=Tryz.sizeOf25
 v27:=Tryz.zeroValue25
 t29:=Tryz.underlying9
 a29:=Tryz.isAgg9
 z29:=Tryz.sizeOf9
 v29:=Tryz.zeroValue9
 t32:=Tryz.underlying183
 a32:=Tryz.isAgg183
 z32:=Tryz.sizeOf183
 v32:=Tryz.zeroValue183
 t35:=Tryz.underlying209
 a35:=Tryz.isAgg209
 z35:=Tryz.sizeOf209
 v35:=Tryz.zeroValue209
 t36:=Tryz.underlying210
 a36:=Tryz.isAgg210
 z36:=Tryz.sizeOf210
 v36:=Tryz.zeroValue210
 t41:=Tryz.underlying98
 a41:=Tryz.isAgg98
 z41:=Tryz.sizeOf98
 v41:=Tryz.zeroValue98
 t44:=Tryz.underlying216
 a44:=Tryz.isAgg216
 z44:=Tryz.sizeOf216
 v44:=Tryz.zeroValue216
 t46:=Tryz.underlying162
 a46:=Tryz.isAgg162
 z46:=Tryz.sizeOf162
 v46:=Tryz.zeroValue162
 t53:=Tryz.underlying248
 a53:=Tryz.isAgg248
 z53:=Tryz.sizeOf248
 v53:=Tryz.zeroValue248
 t57:=Tryz.underlying252
 a57:=Tryz.isAgg252
 z57:=Tryz.sizeOf252
 v57:=Tryz.zeroValue252
 t63:=Tryz.underlying274
 a63:=Tryz.isAgg274
 z63:=Tryz.sizeOf274
 v63:=Tryz.zeroValue274
 t64:=Tryz.underlying76
 a64:=Tryz.isAgg76
 z64:=Tryz.sizeOf76
 v64:=Tryz.zeroValue76 }
open Go.RowKit Go.Sort Go.Shelf
theorem TW:Sto Op.bytesLess:=by
 refine⟨kR,vS,fun a b h k=>?_⟩;rcases fM a b with ⟨_,d⟩|⟨_,d⟩|⟨_,d⟩
 ·rw[h] at d;cases d
 ·exact d
 ·rw[k] at d;cases d
theorem CE:∀(a b:List UInt8),Op.bytesLess a b=true↔a<b
 | a,[]=>by cases a <;> simp[Op.bytesLess]
 | [],_::_=>by simp[Op.bytesLess]
 | x::a,y::b=>by
  rw[List.cons_lt_cons_iff,← CE a b];simp[Op.bytesLess]
theorem NO(a b:List UInt8):decide (a≤b)=!Op.bytesLess b a:=by
 have h:=CE b a;cases e:Op.bytesLess b a
 ·rw[e] at h;simp only[Bool.not_false,decide_eq_true_eq]
  exact List.not_lt.1 (fun k=>by have:=h.2 k;cases this)
 ·rw[e] at h;simp only[Bool.not_true,decide_eq_false_iff_not]
  exact fun k=>List.not_le.2 (h.1 rfl) k
theorem Sto.le_trans{α:Type}{lt:α→α→Bool}(hs:Sto lt)(a b c:α)(h:(!lt b a)=true)(k:(!lt c b)=true):(!lt c a)=true:=by
 simp only[Bool.not_eq_true'] at *
 cases e:lt c a
 ·rfl
 ·cases e2:lt a b
  ·rw[hs.tri _ _ e2 h] at e;rw[e] at k;cases k
  ·have:=hs.tr _ _ _ e e2;rw[this] at k;cases k
theorem Sto.le_total{α:Type}{lt:α→α→Bool}(hs:Sto lt)(a b:α):(!lt b a||!lt a b)=true:=by
 cases e:lt b a
 ·rfl
 ·rw[hs.asym e];rfl

theorem IN(w:World)(base g cap:Nat)(L:List Txt)(h:w.ownsRow base 9 1 (.slice (some ⟨g,0,none⟩) L.length cap) L.length (aE L))(hl:L.length≤140737488355328) :
  Calls Tryz.prog 137 #[.slice (some ⟨g,0,none⟩) L.length cap] w fun e w'=>e=.returned (.tuple #[])∧∃d:Array Txt,nP ltT L d∧w'.ownsRow base 9 1 (.slice (some ⟨g,0,none⟩) L.length cap) L.length (d.toList.map Value.string)∧Upd (fun q=>q=g) w w':=by
 obtain⟨ss,hss⟩:∃ss,L.map (fun s=>s.data.toList)=ss:=⟨_,rfl⟩;have hlen:ss.length=L.length:=by rw[← hss];simp
 have hcell:aE L=ss.toArray.toList.map encStr:=by rw[← hss,aE];simp[encStr]
 rw[hcell] at h;have hH:Holds encStr w g 0 ss.toArray:=jB h;have hg:=(h.lt g rfl).2;have hcon:=AnyM.slices_Sort_string QT g 0 cap ss w hH hg (by omega);change Calls Tryz.prog 137 _ _ _ at hcon
 rw[hlen] at hcon;refine hcon.mono ?_;rintro e w' ⟨rfl,n,os,rfl⟩;have hfun:(fun x y:List UInt8=>decide (x≤y))=fun x y=>!Op.bytesLess y x:=by funext x y;exact NO x y
 rw[hfun];obtain⟨ts,hts⟩:∃ts,(ss.mergeSort fun x y=>!Op.bytesLess y x)=ts:=⟨_,rfl⟩;rw[hts];have hperm:ts.Perm ss:=by rw[← hts];exact List.mergeSort_perm _ _
 have hsort:ts.Pairwise fun a b=>(!Op.bytesLess b a)=true:=by rw[← hts];exact List.pairwise_mergeSort (fun a b c=>TW.le_trans a b c) (fun a b=>TW.le_total a b) ss
 have key:=nN (enc:=encStr) (m:=n) (os:=os) h ts.toArray (by simp[hperm.length_eq,hlen]);refine⟨rfl,(ts.map tA).toArray,⟨by simp[hperm.length_eq,hlen],?_,fun i j hij hj=>?_⟩,?_,key.2⟩
 ·have h1:(ts.map tA).Perm (ss.map tA):=hperm.map tA;rw[← hss] at h1;simp only[List.map_map] at h1
  have h2:(tA ∘ fun s:Txt=>s.data.toList)=id:=by funext s;exact zD s
  rw[h2,List.map_id] at h1;exact h1
 ·simp only[List.size_toArray,List.length_map] at hj
  rw[getElem!_pos _ j (by simpa using hj),getElem!_pos _ i (by simp;omega)];simp only[List.getElem_toArray,List.getElem_map]
  have:=List.pairwise_iff_getElem.1 hsort i j (by omega) hj hij;unfold ltT;rw[gC,gC];simpa[tA] using this
 ·have:=key.1;simp only[List.map_map]
  have h2:(Value.string ∘ tA)=encStr:=by funext l;rfl
  rw[h2];exact this
theorem CF(w:World)(p:Option Addr)(cap:Nat):Calls Tryz.prog 137 #[.slice p 0 cap] w (fun e w'=>e=.returned (.tuple #[])∧w'=w):=by
 have hcon:=AnyM.slices_Sort_string_none QT p cap w;change Calls Tryz.prog 137 _ _ _ at hcon
 exact hcon

theorem CG(w:World)(base:Nat)(v:Value)(L:List Txt)(own:w.ownsRow base 9 1 v L.length (aE L))(s:Txt)(hl:(L.length+1)*16≤140737488355328)(hb:base≤w.heap.size) :
  ∃v' w',(Builtin.append_ #[25,25] 25 #[v,.slice (some ⟨w.heap.size,0,none⟩) 1 1]).run Tryz.prog (w.alloc (.cells #[.string s] 9))=.ok v' w'∧w'.ownsRow base 9 1 v' (L++[s]).length (aE (L++[s]))∧Upd (fun k=>v.ownBlock=some k) w w'∧∀k,v'.ownBlock=some k→v.ownBlock=some k∨w.heap.size≤k:=by
 obtain⟨v',w',happ,own',up,hk⟩:=cI w base 25 9 1 16 _ Tryz.underlying25 cH rfl (by decide) v L.length _ own [.string s] 1 rfl (by simp;exact rfl) hl (by unfold maxLen;omega) hb;refine⟨v',w',happ,?_,up,hk⟩;rw[List.length_append,aE,List.map_append];exact own'
def lbs(E:List Ed):List Txt:=E.map fun x=>x.lb
def TH(w:World)(base b:Nat)(v:Value)(M:List Txt)(e:Ending)(w':World):Prop:=e=.returned (.tuple #[])∧∃v',Blk w' b 25 #[v']∧w'.ownsRow base 9 1 v' M.length (aE M)∧v'.ownBlock≠some b∧Upd (fun q=>q=b∨v.ownBlock=some q) w w'
theorem IP(w:World)(base b:Nat)(v:Value)(L:List Txt)(x:Ed)(hb:Blk w b 25 #[v])(own:w.ownsRow base 9 1 v L.length (aE L))(hne:v.ownBlock≠some b)(hl:(L.length+1)*16≤140737488355328)(hbase:base≤w.heap.size) :
  Calls Tryz.prog 136 #[x.agg,.pointer (some ⟨b,0,none⟩)] w (TH w base b v (L++[x.lb])):=by
 obtain⟨x0,x1,x2⟩:=x;obtain⟨A,c,rfl,-,-⟩:=aK own;have kx:=Blk.new w 88 #[.string x0,.string x1,.string x2];have kb:=hb.alloc (.cells #[.string x0,.string x1,.string x2] 88);have ow:=own.alloc (.cells #[.string x0,.string x1,.string x2] 88);have ux:Upd (fun q=>q=b∨(Value.slice A L.length c).ownBlock=some q) w (w.alloc (.cells #[.string x0,.string x1,.string x2] 88)):=(Upd.refl _ w).alloc _;have hlt:=hb.lt;have H:=aI4 ow ux hne kb;have hz:(w.alloc (.cells #[.string x0,.string x1,.string x2] 88)).heap.size=w.heap.size+1:=by simp
 have c0:=kb.cell 0;have cx:=kx.cell 1;simp only[List.getElem?_toArray,List.getElem?_cons_zero,List.getElem?_cons_succ] at c0 cx
 clear hb own ow ux hne kx kb;unfold Ed.agg;go_enter Tryz.func136,Tryz.ntmps136;go_upto_region 1 with (fail);generalize w.alloc (.cells #[.string x0,.string x1,.string x2] 88)=W1 at H hz c0 cx ⊢;obtain⟨v',w6,happ,own6,u6,hv6⟩:=CG W1 base _ _ H.out.1 x1 hl (by omega);obtain⟨n,hn⟩:∃n,L.length=n:=⟨_,rfl⟩;have k6:=H.out.2.2.2.upd u6 (fun e=>H.out.2.2.1 e);have c6:=k6.cell 0;have f6:=k6.frozen 0;simp only[List.getElem?_toArray,List.getElem?_cons_zero] at c6
 have hne6:v'.ownBlock≠some b:=fun e=>by
  rcases hv6 b e with h|h
  ·exact H.out.2.2.1 h
  ·omega
 obtain⟨A6,c6',rfl,-,-⟩:=aK own6;have kF:=k6.set 0 (.slice A6 (L++[x1]).length c6');have uF:=((H.out.2.1.trans u6 (fun i e=>.inl (.inr e))).setCell (p:=⟨b,0,none⟩) (.inl (.inl rfl)) (.slice A6 (L++[x1]).length c6'));have oF:=aB own6 ((Upd.refl (fun q=>q=b) w6).setCell (p:=⟨b,0,none⟩) (.inl rfl) (.slice A6 (L++[x1]).length c6')) (fun k hk e=>hne6 (by rw[hk,e]));obtain⟨m,hm⟩:∃m,(L++[x1]).length=m:=⟨_,rfl⟩;have FIN:=aI5 kF oF hne6 uF hm;clear kF oF hne6 uF own6 u6 k6;rw[hn] at happ c0 c6;rw[hm] at happ;clear hn hm hz hv6;go_wp2_with (at_builtin;refine wpList_append_run rfl _ _ _ rfl rfl rfl happ ?_);go_end0
 rw[← FIN.out.2.2.2.2];exact⟨rfl,_,FIN.out.1,FIN.out.2.1,FIN.out.2.2.1,FIN.out.2.2.2.1⟩
open Go.RowKit Go.Sort Go.Shelf
theorem xR{E:List Ed}{k:Nat}{x:Ed}(h:E[k]?=some x):lbs (E.take (k+1))=lbs (E.take k)++[x.lb]:=by rw[dB h];simp[lbs]
theorem jC(E:List Ed):(lbs E).length=E.length:=by simp[lbs]
structure TX(w1 wr:World)(b:Nat)(L:List Txt):Prop where
 ex:∃v,Blk wr b 25 #[v]∧wr.ownsRow w1.heap.size 9 1 v L.length (aE L)∧v.ownBlock≠some b
 u:Upd (fun q=>q=b) w1 wr

theorem zK(w:World)(A:Option Addr)(c:Nat)(B:Option Addr)(d:Nat)(N:List Txt)(E:List Ed)(h:lN w A c B d N E) :
  Calls Tryz.prog 105 #[cP A N.length c B E.length d] w (QM w (lbs E)):=by
 have k0:=(Blk.new w 28 #[.slice A N.length c,.slice B E.length d]).alloc (.cells #[.slice none 0 0] 25);have k1:=Blk.new (w.alloc (.cells #[.slice A N.length c,.slice B E.length d] 28)) 25 #[.slice none 0 0];simp only[World.size_alloc] at k1
 have u0:Below w.heap.size w ((w.alloc (.cells #[.slice A N.length c,.slice B E.length d] 28)).alloc (.cells #[.slice none 0 0] 25)):=by(repeat (first | exact Below.refl _ _ | apply Below.drew | refine Below.alloc ?_ (by first | exact Nat.le_refl _ | (simp;done) | (simp;omega)) _ | refine Below.setCell ?_ (by first | exact Nat.le_refl _ | (simp;done) | (simp;omega)) _))
 have hd:E.length*48≤140737488355328:=h.fit.e;have hz:((w.alloc (.cells #[.slice A N.length c,.slice B E.length d] 28)).alloc (.cells #[.slice none 0 0] 25)).heap.size=w.heap.size+2:=by simp
 have HB:=hIz (show ∀(j:Nat) (x:Ed),E[j]?=some x→∃b o,B=some ⟨b,o,none⟩∧b<w.heap.size from fun j x hx=>by obtain⟨b,o,e,y0,-⟩:=h.re.ed hx;exact⟨b,o,e,World.block_lt_of_cell? _ _ y0⟩);have H:=aI5 (h.below u0) k0 k1 u0 hz;clear h k0 k1 u0 hz;unfold cP;go_enter Tryz.func105,Tryz.ntmps105;go_upto_region 2 with (fail);generalize (w.alloc (.cells #[.slice A N.length c,.slice B E.length d] 28)).alloc (.cells #[.slice none 0 0] 25)=W1 at H ⊢;have q1:W1.cell? ⟨w.heap.size,1,none⟩=some (.slice B E.length d):=H.out.2.1.cell 1;have hz1:w.heap.size+2≤W1.heap.size:=Nat.le_of_eq H.out.2.2.2.2.symm;go_wp2_with fail;clear q1;go_loopw [6,11] (fun _ i wr=>∃k:Nat,k≤E.length∧i=.int .i64 k∧Hid (TX W1 wr (w.heap.size+1) (lbs (E.take k)))) (fun _ i _=>E.length-(intOf i).toNat)
 case atStart=>exact⟨0,Nat.zero_le _,rfl,hIz ⟨⟨_,H.out.2.2.1,World.ownsRow_nil _ _ _ _,by simp[Value.ownBlock]⟩,Upd.refl _ _⟩⟩
 case round =>
  obtain⟨k,hk,rfl,hi⟩:=hrel;by_cases hlt:k<E.length
  ·have hltI:(k:Int)<(E.length:Int):=by omega
   have hkw:IntKind.i64.wrap ((k:Int)+1)=(k:Int)+1:=IntWalk.i64_in _ (by omega);obtain⟨⟨s0,s1,s2⟩,hx⟩:∃x,E[k]?=some x:=⟨E[k],gEz _⟩;obtain⟨ab,ao,rfl,hab⟩:=HB.out k _ hx;obtain⟨ab',ao',e,y0,y1,y2⟩:=H.out.1.re.ed hx;injection e with e;injection e with e e2;subst e;subst e2;dsimp only at y0 y1 y2
   have cc:=fun i=>hi.out.u.cell (p:=⟨ab,i,none⟩) (by show ab<_;omega) (by show ¬ab=_;omega)
   have x0:=(cc _).trans y0;have x1:=(cc _).trans y1;have x2:=(cc _).trans y2;obtain⟨v,kv,ov,nv⟩:=hi.out.ex;have kx:=Blk.new wr 88 #[.string s0,.string s1,.string s2];have kv':=kv.alloc (.cells #[.string s0,.string s1,.string s2] 88);have ov':=ov.alloc (.cells #[.string s0,.string s1,.string s2] 88);have u':=hi.out.u.alloc (.cells #[.string s0,.string s1,.string s2] 88);have hsz:=hi.out.u.size;have hll:(lbs (E.take k)).length≤k:=by rw[jC,List.length_take];omega
   have hlt2:∀q,v.ownBlock=some q→W1.heap.size≤q:=fun q hq=>(ov.lt q hq).1
   have HX:=aI7 hx kx kv' ov' u' nv hlt2;have hzx:wr.heap.size≤(wr.alloc (.cells #[.string s0,.string s1,.string s2] 88)).heap.size:=by simp
   clear hx kx kv ov nv kv' ov' u' y0 y1 y2 cc hlt2;go_upto_region 6 with (fail);generalize wr.alloc (.cells #[.string s0,.string s1,.string s2] 88)=W5 at HX hzx ⊢;clear x0 x1 x2;have x0:W5.cell? ⟨wr.heap.size,0,none⟩=some (.string s0):=HX.out.2.1.cell 0;have x1:W5.cell? ⟨wr.heap.size,1,none⟩=some (.string s1):=HX.out.2.1.cell 1;have x2:W5.cell? ⟨wr.heap.size,2,none⟩=some (.string s2):=HX.out.2.1.cell 2;have HT:=hIz (IP W5 W1.heap.size (w.heap.size+1) v (lbs (E.take k)) ⟨s0,s1,s2⟩ HX.out.2.2.1 HX.out.2.2.2.1 HX.out.2.2.2.2.2.1 (by omega) (by omega));clear hll;go_wp2_with fail;refine HT.out.mono ?_;rintro e w6 ⟨rfl,v6,kv6,ov6,nv6,u6⟩;have fin:TX W1 w6 (w.heap.size+1) (lbs (E.take (k+1))):=by
    rw[xR HX.out.1];exact⟨⟨v6,kv6,ov6,nv6⟩,HX.out.2.2.2.2.1.trans u6 (fun i e=>e.elim .inl (fun e=>.inr (HX.out.2.2.2.2.2.2 i e)))⟩
   have FIN:=hIz fin;clear fin kv6 ov6 nv6 u6;go_wp2;go_roundw
   case rel=>exact⟨k+1,by omega,by go_num,FIN⟩
   case measure=>simp[intOf];omega
  ·obtain rfl:k=E.length:=by omega
   obtain⟨W4,hW4⟩:∃W,W=wr:=⟨_,rfl⟩;subst hW4;obtain⟨v,kv,ov,nv⟩:=hi.out.ex;rw[List.take_length] at ov;have bw4:Below w.heap.size w W4:=H.out.2.2.2.1.trans (hi.out.u.below (fun q _ e=>by omega) (by omega));have hsz:=hi.out.u.size;obtain⟨A1,c1,rfl,hc1,-⟩:=aK ov;have c4:=kv.cell 0;simp only[List.getElem?_toArray,List.getElem?_cons_zero] at c4
   by_cases h0:E.length=0
   ·obtain rfl:E=[]:=List.eq_nil_of_length_eq_zero h0;have HK:=aI2 bw4 kv;have c4':W4.cell? ⟨w.heap.size+1,0,none⟩=some (.slice A1 0 c1):=c4;clear ov nv hi c4 hk hlt kv bw4 h0 hc1;go_wp2_with fail;refine(CF _ _ _).mono ?_;rintro e w2 ⟨rfl,rfl⟩;go_wp2_with fail;refine(mI _ _ _).mono ?_;rintro e w2 ⟨rfl,rfl⟩;go_wp2_with fail;refine(gJ _ A1 c1 [] (fun j u hj=>by simp[aE] at hj) (by simp)).mono ?_;intro e w3 hn;have hn':=hn.base HK.out.1;obtain⟨v3,rfl,own3,b3⟩:=hn';have FIN:=hIz (show QM w (lbs []) (.returned v3) w3 from⟨[],gG.self (lt:=ltT) .nil,Nat.le_refl _,v3,rfl,own3,b3⟩);clear hn own3 b3;go_wp2;go_ret;exact FIN.out
   ·obtain⟨g,rfl⟩:∃g,A1=some ⟨g,0,none⟩:=by
     rcases ov.2 with ⟨-,h2⟩|⟨g,cap,cur,hv,-⟩
     ·rw[jC] at h2;exact(h0 h2).elim
     ·injection hv with hv;exact⟨g,hv⟩
    have hgb:=(ov.lt g rfl).1;have hgne:g≠w.heap.size+1:=by omega
    have hln:(lbs E).length≤E.length:=Nat.le_of_eq (jC E);obtain⟨n,hn⟩:∃n,(lbs E).length=n:=⟨_,rfl⟩;have hs:=IN W4 W1.heap.size g c1 (lbs E) ov (by omega);rw[hn] at hs c4;have HK:=aI4 bw4 kv hs hn;clear ov nv hi hk hlt kv bw4 hs h0 hc1;have hnE:n≤E.length:=by omega
    clear hn;go_wp2_with fail;refine HK.out.2.2.1.mono ?_;rintro e w2 ⟨rfl,dd,ho,own2,u2⟩;have k2:=HK.out.2.1.upd u2 (fun e=>hgne e.symm);have c5:=k2.cell 0;simp only[List.getElem?_toArray,List.getElem?_cons_zero] at c5
    rw[HK.out.2.2.2] at c5;have H2:=aI3 ho own2 (HK.out.1.trans (u2.below (fun q _ e=>by omega) HK.out.1.size));clear ho own2 u2 k2 c4;go_wp2_with fail;refine(nQ w2 W1.heap.size g c1 n (lbs E) dd H2.out.1 HK.out.2.2.2 H2.out.2.1 (by omega)).mono ?_;rintro e w3 ⟨M,hM,hlen,rfl,hr3,u3⟩;have H3:=aI4 hM hlen hr3 (H2.out.2.2.trans (u3.below (fun q _ e=>by omega) H2.out.2.2.size));have hml:M.length*16≤140737488355328:=by omega
    clear hM hlen hr3 u3 c5;obtain⟨k,hk⟩:∃k,M.length=k:=⟨_,rfl⟩;have hcl:=gJ w3 (some ⟨g,0,none⟩) c1 M H3.out.2.2.1 hml;rw[hk] at hcl ⊢;have HCL:=hIz hcl;clear hcl hk hml;go_wp2_with fail;refine HCL.out.mono ?_;intro e w4 hn;have hn':=hn.base H3.out.2.2.2;obtain⟨v4,rfl,own4,b4⟩:=hn';have FIN:=hIz (show QM w (lbs E) (.returned v4) w4 from⟨M,H3.out.1,H3.out.2.1,v4,rfl,own4,b4⟩);clear hn own4 b4;go_wp2;go_ret;exact FIN.out
open Go.RowKit
def eD{α:Type}[DecidableEq α](lt:α→α→Bool)(L:List α):List α:=cpt (L.mergeSort fun x y=>!lt y x)
theorem bM{α:Type}[DecidableEq α]{lt:α→α→Bool}(hs:Sto lt)(L:List α):gG lt L (eD lt L):=by
 have h1:(L.mergeSort fun x y=>!lt y x).Pairwise fun a b=>(!lt b a)=true:=List.pairwise_mergeSort (fun a b c=>hs.le_trans a b c) (fun a b=>hs.le_total a b) L
 have h2:=ND hs (h1.imp fun {a b} h=>by simpa using h);exact⟨h2.up,fun x=>(h2.mem x).trans (List.mergeSort_perm _ _).mem_iff⟩
theorem gG.is{α:Type}[DecidableEq α]{lt:α→α→Bool}(hs:Sto lt){L M:List α}(h:gG lt L M):M=eD lt L:=h.uniq hs (bM hs L) (fun _=>Iff.rfl)

def cG(N:List Txt)(E:List Ed):Int:=if 32<N.length then 260 else if 16<(eD ltT (lbs E)).length then 261 else if 256<E.length then 262 else if 2048<(mQ N E).length then 174 else 0
def cK(N:List Txt)(E:List Ed):Int:=if fV N E=false then 2 else if bT N E=false then 173 else cG N E
theorem vP{a b:Int}(h:a=b):Ending.returned (.int .i64 a)=.returned (.int .i64 b):=by rw[h]

theorem xS(w:World)(A:Option Addr)(c:Nat)(B:Option Addr)(d:Nat)(N:List Txt)(E:List Ed)(h:lN w A c B d N E)(hs:kE N E) :
  Calls Tryz.prog 67 #[cP A N.length c B E.length d] w (Sam w (.int .i64 (cG N E))):=by
 have k0:=Blk.new w 28 #[.slice A N.length c,.slice B E.length d];have u0:Below w.heap.size w (w.alloc (.cells #[.slice A N.length c,.slice B E.length d] 28)):=bR.alloc (Nat.le_refl _) _;have H:=aI4 (h.below u0) k0 u0 hs;clear h k0 u0 hs;unfold cP;go_enter Tryz.func67,Tryz.ntmps67;go_upto_region 1 with (fail);generalize w.alloc (.cells #[.slice A N.length c,.slice B E.length d] 28)=W0 at H ⊢;have q0:W0.cell? ⟨w.heap.size,0,none⟩=some (.slice A N.length c):=H.out.2.1.cell 0;have q1:W0.cell? ⟨w.heap.size,1,none⟩=some (.slice B E.length d):=H.out.2.1.cell 1;by_cases h1:32<N.length
 ·have h1I:(32:Int)<(N.length:Int):=by omega
  have HX:=hIz (show(260:Int)=cG N E by rw[cG,if_pos h1]);clear h1;go_wp2;go_ret;exact⟨vP HX.out,H.out.2.2.1⟩
 have h1I:¬(32:Int)<(N.length:Int):=by omega
 go_wp2_with fail;refine(zK W0 A c B d N E H.out.1).mono ?_;rintro e w1 ⟨M,hM,hlen,v,rfl,own1,b1⟩;obtain⟨A1,c1,rfl,-,-⟩:=aK own1;have eM:=hM.is fJ;have k1:=H.out.2.1.upd (upF b1) id;have H1:=aI3 (H.out.1.below b1) k1 (tHn H.out.2.2.1 b1);have hME:M.length=(eD ltT (lbs E)).length:=by rw[← eM]
 clear own1 b1 q0 q1 k1 hM eM;have q0:w1.cell? ⟨w.heap.size,0,none⟩=some (.slice A N.length c):=H1.out.2.1.cell 0;have q1:w1.cell? ⟨w.heap.size,1,none⟩=some (.slice B E.length d):=H1.out.2.1.cell 1;obtain⟨k,hk⟩:∃k,M.length=k:=⟨_,rfl⟩;rw[hk] at hME ⊢;have HM:=hIz hME;by_cases h2:16<k
 ·have h2I:(16:Int)<(k:Int):=by omega
  have HX:=hIz (show(261:Int)=cG N E by rw[cG,if_neg h1,if_pos (by rw[← HM.out];exact h2)]);clear h2 h1 hk hME hlen;go_wp2;go_ret;exact⟨vP HX.out,H1.out.2.2⟩
 have h2I:¬(16:Int)<(k:Int):=by omega
 by_cases h3:256<E.length
 ·have h3I:(256:Int)<(E.length:Int):=by omega
  have HX:=hIz (show(262:Int)=cG N E by rw[cG,if_neg h1,if_neg (by rw[← HM.out];exact h2),if_pos h3]);clear h2 h1 h3 hk hME hlen;go_wp2;go_ret;exact⟨vP HX.out,H1.out.2.2⟩
 have h3I:¬(256:Int)<(E.length:Int):=by omega
 have HH:=aI3 h1 h2 h3;clear h1 h2 h3 hk hME hlen;go_wp2_with fail;refine(IK w1 A c B d N E H1.out.1 H.out.2.2.2 (by have:=HH.out.1;omega) (by have:=HH.out.2.2;omega)).mono ?_;rintro e w2 ⟨rfl,b2⟩;have HB:=hIz (tHn H1.out.2.2 b2);clear b2 q0 q1;obtain⟨t,ht⟩:∃t:Txt,(⟨(mQ N E).toArray⟩:Txt)=t:=⟨_,rfl⟩;have hts:t.size=(mQ N E).length:=by rw[← ht];simp[ByteArray.size]
 rw[ht];by_cases h4:2048<t.size
 ·have h4I:(2048:Int)<(t.size:Int):=by omega
  have HX:=hIz (show(174:Int)=cG N E by rw[cG,if_neg HH.out.1,if_neg (by rw[← HM.out];exact HH.out.2.1),if_neg HH.out.2.2,if_pos (by omega)]);clear h4 ht hts;go_wp2;go_ret;exact⟨vP HX.out,HB.out⟩
 ·have h4I:¬(2048:Int)<(t.size:Int):=by omega
  have HX:=hIz (show(0:Int)=cG N E by rw[cG,if_neg HH.out.1,if_neg (by rw[← HM.out];exact HH.out.2.1),if_neg HH.out.2.2,if_neg (by omega)]);clear h4 ht hts;go_wp2;go_ret;exact⟨vP HX.out,HB.out⟩

theorem zL(w:World)(A:Option Addr)(c:Nat)(B:Option Addr)(d:Nat)(N:List Txt)(E:List Ed)(h:lN w A c B d N E) :
  Calls Tryz.prog 35 #[cP A N.length c B E.length d] w (Sam w (.int .i64 (cK N E))):=by
 have k0:=Blk.new w 28 #[.slice A N.length c,.slice B E.length d];have u0:Below w.heap.size w (w.alloc (.cells #[.slice A N.length c,.slice B E.length d] 28)):=bR.alloc (Nat.le_refl _) _;have H:=aI3 (h.below u0) k0 u0;clear h k0 u0;obtain⟨b0,hb0⟩:∃b,fV N E=b:=⟨_,rfl⟩;obtain⟨b1,hb1⟩:∃b,bT N E=b:=⟨_,rfl⟩;have HB:=aI2 hb0 hb1;clear hb0 hb1;unfold cP;go_enter Tryz.func35,Tryz.ntmps35;go_upto_region 1 with (fail);generalize w.alloc (.cells #[.slice A N.length c,.slice B E.length d] 28)=W0 at H ⊢;have q0:W0.cell? ⟨w.heap.size,0,none⟩=some (.slice A N.length c):=H.out.2.1.cell 0;have q1:W0.cell? ⟨w.heap.size,1,none⟩=some (.slice B E.length d):=H.out.2.1.cell 1;go_wp2_with fail;refine(IF W0 A c B d N E H.out.1).mono ?_;rintro e w1 ⟨rfl,u1⟩;rw[HB.out.1];have k1:=H.out.2.1.upd (upF u1) id;have H1:=aI3 (H.out.1.below u1) k1 (tHn H.out.2.2 u1);clear u1 q0 q1 k1;have q0:w1.cell? ⟨w.heap.size,0,none⟩=some (.slice A N.length c):=H1.out.2.1.cell 0;have q1:w1.cell? ⟨w.heap.size,1,none⟩=some (.slice B E.length d):=H1.out.2.1.cell 1;cases b0
 ·go_wp2;go_ret;exact⟨vP (by rw[cK,if_pos HB.out.1]),H1.out.2.2⟩
 go_wp2_with fail;refine(tE w1 A c B d N E H1.out.1).mono ?_;rintro e w2 ⟨rfl,u2⟩;rw[HB.out.2];have k2:=H1.out.2.1.upd (upF u2) id;have H2:=aI3 (H1.out.1.below u2) k2 (tHn H1.out.2.2 u2);clear u2 q0 q1 k2;have q0:w2.cell? ⟨w.heap.size,0,none⟩=some (.slice A N.length c):=H2.out.2.1.cell 0;have q1:w2.cell? ⟨w.heap.size,1,none⟩=some (.slice B E.length d):=H2.out.2.1.cell 1;cases b1
 ·go_wp2;go_ret;exact⟨vP (by rw[cK,if_neg (by rw[HB.out.1];simp),if_pos HB.out.2]),H2.out.2.2⟩
 go_wp2_with fail;refine(xS w2 A c B d N E H2.out.1 (kE.of HB.out.2)).mono ?_;rintro e w3 ⟨rfl,u3⟩;have FIN:=hIz (tHn H2.out.2.2 u3);have HE:=hIz (show cG N E=cK N E by rw[cK,if_neg (by rw[HB.out.1];simp),if_neg (by rw[HB.out.2];simp)]);clear u3 q0 q1;go_wp2;go_ret;exact⟨vP HE.out,FIN.out⟩
open Go.Shelf
def CH:Go.Shelf.Ren:=⟨fun | 0=>0 | 1=>1 | 2=>2 | 6=>182 | 11=>93 | 14=>201 | 15=>91 | 18=>132 | 20=>222 | 21=>223 | 22=>224 | 23=>225 | 24=>226 | 25=>227 | 26=>228 | 27=>229 | 28=>130 | 29=>131 | 46=>237 | 47=>159 | 48=>160 | 49=>238 | 50=>239 | 57=>242 | 60=>243 | 61=>244 | 62=>245 | 63=>246 | 64=>247 | 65=>248 | 66=>249 | 67=>250 | 68=>251 | 69=>252 | 70=>253 | 71=>254 | 72=>255 | 73=>257 | 74=>258 | 75=>276 | n=>n,fun | 0=>0 | 1=>1 | 2=>2 | 3=>3 | 4=>4 | 5=>5 | 6=>6 | 7=>7 | 8=>8 | 9=>9 | 10=>10 | 11=>11 | 12=>12 | 13=>13 | 14=>14 | 15=>15 | 16=>16 | 17=>17 | 18=>18 | 19=>19 | 20=>20 | 21=>21 | 22=>26 | 23=>273 | 24=>88 | 25=>192 | 27=>42 | 29=>160 | 37=>288 | 38=>182 | 39=>183 | 42=>159 | 44=>302 | 45=>209 | 46=>210 | 47=>303 | 48=>304 | 49=>305 | 50=>98 | 51=>306 | 52=>215 | 53=>216 | 54=>217 | 55=>162 | 66=>248 | 67=>249 | 68=>250 | 69=>312 | 70=>252 | 71=>313 | 76=>274 | 77=>76 | 78=>316 | 81=>228 | 82=>317 | 83=>318 | 84=>319 | 85=>320 | 86=>321 | 87=>49 | 88=>322 | 89=>323 | 90=>324 | 91=>256 | 92=>325 | 93=>326 | 94=>327 | 95=>328 | 96=>282 | n=>n,fun n=>n⟩
theorem QU:SlLaysF0.n6 Tryz.prog CH:={
 mixed:=(by kernel_rfl)
 f6:=⟨Tryz.f182.name,by decide,Tryz.func182.trans (congrArg some (by kernel_rfl))⟩
 f14:=⟨Tryz.f201.name,by decide,Tryz.func201.trans (congrArg some (by kernel_rfl))⟩
 f15:=Tryz.func91.trans (congrArg some (by kernel_rfl))
 f20:=⟨Tryz.f222.name,by decide,Tryz.func222.trans (congrArg some (by kernel_rfl))⟩
 f21:=⟨Tryz.f223.name,by decide,Tryz.func223.trans (congrArg some (by kernel_rfl))⟩
 f22:=⟨Tryz.f224.name,by decide,Tryz.func224.trans (congrArg some (by kernel_rfl))⟩
 f23:=⟨Tryz.f225.name,by decide,Tryz.func225.trans (congrArg some (by kernel_rfl))⟩
 f24:=⟨Tryz.f226.name,by decide,Tryz.func226.trans (congrArg some (by kernel_rfl))⟩
 f25:=⟨Tryz.f227.name,by decide,Tryz.func227.trans (congrArg some (by kernel_rfl))⟩
 f26:=⟨Tryz.f228.name,by decide,Tryz.func228.trans (congrArg some (by kernel_rfl))⟩
 f27:=⟨Tryz.f229.name,by decide,Tryz.func229.trans (congrArg some (by kernel_rfl))⟩
 f28:=Tryz.func130.trans (congrArg some (by kernel_rfl))
 f29:=Tryz.func131.trans (congrArg some (by kernel_rfl))
 f46:=⟨Tryz.f237.name,by decide,Tryz.func237.trans (congrArg some (by kernel_rfl))⟩
 f47:=Tryz.func159.trans (congrArg some (by kernel_rfl))
 f48:=Tryz.func160.trans (congrArg some (by kernel_rfl))
 f49:=⟨Tryz.f238.name,by decide,Tryz.func238.trans (congrArg some (by kernel_rfl))⟩
 f50:=⟨Tryz.f239.name,by decide,Tryz.func239.trans (congrArg some (by kernel_rfl))⟩
 f57:=⟨Tryz.f242.name,by decide,Tryz.func242.trans (congrArg some (by kernel_rfl))⟩
 t0:=Tryz.underlying0
 a0:=Tryz.isAgg0
 z0:=Tryz.sizeOf0
 v0:=Tryz.zeroValue0
 t3:=Tryz.underlying3
 a3:=Tryz.isAgg3
 z3:=Tryz.sizeOf3
 v3:=Tryz.zeroValue3
 t4:=Tryz.underlying4
 a4:=Tryz.isAgg4
 z4:=Tryz.sizeOf4
 v4:=Tryz.zeroValue4
 t5:=Tryz.underlying5
 a5:=Tryz.isAgg5
 z5:=Tryz.sizeOf5
 v5:=Tryz.zeroValue5
 t9:=Tryz.underlying9
 a9:=Tryz.isAgg9
 z9:=Tryz.sizeOf9
 v9:=Tryz.zeroValue9
 t22:=Tryz.underlying26
 a22:=Tryz.isAgg26
 z22:=Tryz.sizeOf26
 v22:=Tryz.zeroValue26
 t25:=Tryz.underlying192
 a25:=Tryz.isAgg192
 z25:=Tryz.sizeOf192
 v25:=Tryz.zeroValue192
 t39:=Tryz.underlying183
 a39:=Tryz.isAgg183
 z39:=Tryz.sizeOf183
 v39:=Tryz.zeroValue183
 t45:=Tryz.underlying209
 a45:=Tryz.isAgg209
 z45:=Tryz.sizeOf209
 v45:=Tryz.zeroValue209
 t46:=Tryz.underlying210
 a46:=Tryz.isAgg210
 z46:=Tryz.sizeOf210
 v46:=Tryz.zeroValue210
 t50:=Tryz.underlying98
 a50:=Tryz.isAgg98
 z50:=Tryz.sizeOf98
 v50:=Tryz.zeroValue98
 t53:=Tryz.underlying216
 a53:=Tryz.isAgg216
 z53:=Tryz.sizeOf216
 v53:=Tryz.zeroValue216
 t55:=Tryz.underlying162
 a55:=Tryz.isAgg162
 z55:=Tryz.sizeOf162
 v55:=Tryz.zeroValue162
 t66:=Tryz.underlying248
 a66:=Tryz.isAgg248
 z66:=Tryz.sizeOf248
 v66:=Tryz.zeroValue248
 t70:=Tryz.underlying252
 a70:=Tryz.isAgg252
 z70:=Tryz.sizeOf252
 v70:=Tryz.zeroValue252
 t76:=Tryz.underlying274
 a76:=Tryz.isAgg274
 z76:=Tryz.sizeOf274
 v76:=Tryz.zeroValue274
 t77:=Tryz.underlying76
 a77:=Tryz.isAgg76
 z77:=Tryz.sizeOf76
 v77:=Tryz.zeroValue76 }
open Go.RowKit Go.Sort Go.Shelf
theorem IQ:Tryz.prog.stoodInHeld 88=false:=by kernel_rfl
theorem CI(W:World)(a b c:Txt)(k:Nat)(x:Txt)(h:[a,b,c][k]?=some x):(part 9 #[.string a,.string b,.string c] k).run Tryz.prog W=.ok (.string x) W:=by
 match k,h with
 | 0,h=>simp at h;subst h;simp[part,isAgg,run_underlying Tryz.underlying9]
 | 1,h=>simp at h;subst h;simp[part,isAgg,run_underlying Tryz.underlying9]
 | 2,h=>simp at h;subst h;simp[part,isAgg,run_underlying Tryz.underlying9]
 | k+3,h=>simp at h
theorem vW(W:World)(d:Nat)(a b:Txt):(Op.equalIn (d+1) 9 (.string a) (.string b)).run Tryz.prog W=.ok (decide (a=b)) W:=by
 have h:(a==b)=decide (a=b):=by
  have h1:(a==b)=(a.data==b.data):=rfl;rw[h1];by_cases e:a.data=b.data
  ·have:a=b:=by obtain⟨a⟩:=a;obtain⟨b⟩:=b;simp at e;rw[e]
   rw[decide_eq_true this,e];simp
  ·rw[decide_eq_false (fun h=>e (by rw[h]))];simpa using e
 rw[← h];simp[Op.equalIn,run_underlying Tryz.underlying9]
theorem xT(W:World)(x y:Ed):(Op.equal 88 x.agg y.agg).run Tryz.prog W=.ok (decide (x=y)) W:=by
 obtain⟨a0,a1,a2⟩:=x;obtain⟨b0,b1,b2⟩:=y;have hs:Tryz.prog.underlying 88=some (.struct (Tryz.prog.fieldsOf 88)):=by kernel_rfl
 have h9:=fun a b=>vW W 9998 a b
 have pa:=CI W a0 a1 a2;have pb:=CI W b0 b1 b2;have hd:decide ((⟨a0,a1,a2⟩:Ed)=⟨b0,b1,b2⟩)=(decide (a0=b0)&&(decide (a1=b1)&&decide (a2=b2))):=by
  rw[Bool.eq_iff_iff];simp
 rw[hd];unfold Ed.agg;show(Op.equalIn (9999+1) _ _ _).run _ _=_
 rw[run_equalIn_struct (P:=Tryz.prog) W 9999 _ _ _ hs IQ];simp only[Program.fieldsOf,Tryz.underlying88,Op.eqFields]
 rw[if_pos (by decide),if_pos (by decide),if_pos (by decide)];simp only[Sem.run_bind,pa 0 a0 rfl,pb 0 b0 rfl,h9,Result.andThen_ok]
 cases decide (a0=b0)
 ·simp
 ·simp only[Bool.not_true,Bool.false_eq_true,if_false,Sem.run_bind,pa 1 a1 rfl,pb 1 b1 rfl,h9,Result.andThen_ok,Bool.true_and]
  cases decide (a1=b1)
  ·simp
  ·simp only[Bool.not_true,Bool.false_eq_true,if_false,Sem.run_bind,pa 2 a2 rfl,pb 2 b2 rfl,h9,Result.andThen_ok,Bool.true_and]
   cases decide (a2=b2) <;> simp
theorem QV(W:World)(x y:Ed):(binOp .eql 88 x.agg y.agg).run Tryz.prog W=.ok (.bool (decide (x=y))) W:=by
 have h:=xT W x y;unfold Ed.agg at h ⊢;simp only[binOp]
 simp[h]
theorem QW(W:World)(x y:Ed):(binOp .neq 88 x.agg y.agg).run Tryz.prog W=.ok (.bool (!decide (x=y))) W:=by
 have h:=xT W x y;unfold Ed.agg at h ⊢;simp only[binOp]
 simp[h]

theorem cC{w:World}{base e size n g cap:Nat}{xs:List Value}(h:w.ownsRow base e size (.slice (some ⟨g,0,none⟩) n cap) n xs){i:Nat}(_hi:i<n*size)(u:Value) :
  (w.setCell ⟨g,i,none⟩ u).ownsRow base e size (.slice (some ⟨g,0,none⟩) n cap) n (xs.set i u):=by
 rcases h.2 with ⟨hv,-⟩|⟨g',cap',cur,hv,hb,hg,h1,h2,h3,h4⟩
 ·cases hv
 injection hv with hv _ hv3;injection hv with hv;injection hv with hv _ _;subst hv;subst hv3;refine⟨by rw[List.length_set];exact h.1,.inr ⟨g,cap,cur.setIfInBounds i u,rfl,hb,(Blk.set (t:=e) hg i u),h1,h2,by simp[h3],?_⟩⟩;rw[← h4,Array.toList_setIfInBounds,List.take_set]
theorem CJ{w:World}{base n g cap:Nat}{xs:List Value}(h:w.ownsRow base 88 3 (.slice (some ⟨g,0,none⟩) n cap) n xs)(k:Nat)(hk:k<n)(c':Nat) :
  ∃w',(∀ty,(Builtin.clear_ #[26] ty #[.slice (some ⟨g,k*3,none⟩) (n-k) c']).run Tryz.prog w=.ok (.tuple #[]) w')∧aX w' (some ⟨g,0,none⟩) (xs.take (k*3))∧Upd (fun q=>q=g) w w':=by
 rcases h.2 with ⟨hv,-⟩|⟨g',cap',cur,hv,hb,hg,h1,h2,h3,h4⟩
 ·cases hv
 injection hv with hv _ hv3;injection hv with hv;injection hv with hv _ _;subst hv;subst hv3;have hz:∀w,(zeroValue 88).run Tryz.prog w=.ok (.agg #[.string ByteArray.empty,.string ByteArray.empty,.string ByteArray.empty]) w:=fun _=>by kernel_rfl
 obtain⟨vs,hvs⟩:∃vs,(Builtin.zeroCells #[Value.string ByteArray.empty,.string ByteArray.empty,.string ByteArray.empty] (n-k)).toList=vs:=⟨_,rfl⟩;have hlen:vs.length=(n-k)*3:=by rw[← hvs];simp[Builtin.zeroCells]
 have hone:∀v∈vs,v.oneCell'=true:=by
  intro v hv;rw[← hvs] at hv;simp only[Builtin.zeroCells,Array.toList_map,List.mem_map] at hv
  obtain⟨i,-,rfl⟩:=hv;have:i % 3=0∨i % 3=1∨i % 3=2:=by omega
  rcases this with e|e|e <;> simp[e] <;> rfl
 have hrun:=run_storeCells_at (P:=Tryz.prog) g (k*3) 88 vs 0 cur w hg (by rw[hlen,h3];omega) hone;refine⟨w.setRow g (cur.toList.take (k*3+0)++vs++cur.toList.drop (k*3+0+vs.length)).toArray,fun ty=>?_,?_,?_⟩
 ·obtain⟨m,hm⟩:∃m,n-k=m+1:=⟨n-k-1,by omega⟩;rw[hm] at hvs ⊢;simp only[Builtin.clear_]
  simp[run_underlying Tryz.underlying26,hz,Value.cells]
  rw[hvs,hrun];simp[Result.andThen]
 ·intro j u hj;have hjl:=(gO.1 hj).1;rw[List.length_take] at hjl;refine⟨g,0,rfl,?_⟩;have hlt:g<w.heap.size:=(Array.getElem?_eq_some_iff.1 hg).1;have hj':xs[j]?=some u:=by rw[List.getElem?_take_of_lt (by omega)] at hj;exact hj
  rw[← h4,List.getElem?_take_of_lt (by omega)] at hj';have hh:(w.setRow g (cur.toList.take (k*3+0)++vs++cur.toList.drop (k*3+0+vs.length)).toArray).heap[g]?=some (.cells (cur.toList.take (k*3+0)++vs++cur.toList.drop (k*3+0+vs.length)).toArray 88 (0,0)):=by
   simp[World.setRow,Array.getElem?_modify,hg]
  rw[cell_of_row _ g _ _ _ (0,0) hh,Nat.zero_add];have hjc:j<cur.size:=by rw[Array.getElem?_toList] at hj';exact(Array.getElem?_eq_some_iff.1 hj').1
  rw[List.getElem?_toArray,List.append_assoc,List.getElem?_append_left (by rw[List.length_take,Array.length_toList];omega),List.getElem?_take_of_lt (by omega)];exact hj'
 ·refine⟨rfl,rfl,rfl,by simp[World.setRow],fun q _ hne=>?_⟩;have:g≠q:=fun e=>hne e.symm
  simp[World.setRow,Array.getElem?_modify,this]

theorem tN{w:World}{base n g cap:Nat}{L:List Ed}(h:w.ownsRow base 88 3 (.slice (some ⟨g,0,none⟩) n cap) n (aR L)){k:Nat}{x:Ed}(hk:L[k]?=some x) :
  w.cell? ⟨g,k*3,none⟩=some (.string x.fr)∧w.cell? ⟨g,k*3+1,none⟩=some (.string x.lb)∧w.cell? ⟨g,k*3+2,none⟩=some (.string x.to):=by
 obtain⟨b,o,e,h0,h1,h2⟩:=(aX.of_own h).ed hk;injection e with e;injection e with e1 e2 _;subst e1;subst e2;rw[Nat.zero_add] at h0 h1 h2;exact⟨h0,h1,h2⟩
theorem QX{L:List Ed}{k:Nat}(hk:k<L.length)(x:Ed):(((aR L).set (k*3) (.string x.fr)).set (k*3+1) (.string x.lb)).set (k*3+2) (.string x.to)=aR (L.set k x):=by
 apply List.ext_getElem?
 intro j;have hl:(aR L).length=L.length*3:=cU L;by_cases hj:j<L.length*3
 ·have hi:j / 3<L.length:=Nat.div_lt_of_lt_mul (by omega);have hm:j % 3<3:=Nat.mod_lt _ (by decide);have hjd:j / 3*3+j % 3=j:=by omega
  have hx:(L.set k x)[j / 3]?=some (if k=j / 3 then x else L[j / 3]):=by
   rw[List.getElem?_set];by_cases e:k=j / 3
   ·subst e;simp[hi]
   ·rw[if_neg e,if_neg e,gEz hi]
  have h2:=cO Ed.cells 3 (fun _=>rfl) (L.set k x) (j / 3) (j % 3) _ hx hm;rw[hjd] at h2;show _=((L.set k x).flatMap Ed.cells)[j]?
  rw[h2];have h1:=cO Ed.cells 3 (fun _=>rfl) L (j / 3) (j % 3) _ (gEz hi) hm;rw[hjd] at h1;have h1':(aR L)[j]?=(L[j / 3]).cells[j % 3]?:=h1;simp only[List.getElem?_set,List.length_set]
  by_cases e:k=j / 3
  ·rw[if_pos e];have:j % 3=0∨j % 3=1∨j % 3=2:=by omega
   rcases this with e3|e3|e3
   ·rw[if_neg (by omega),if_neg (by omega),if_pos (by omega),if_pos (by omega),e3];rfl
   ·rw[if_neg (by omega),if_pos (by omega),if_pos (by omega),e3];rfl
   ·rw[if_pos (by omega),if_pos (by omega),e3];rfl
  ·rw[if_neg e,if_neg (by omega),if_neg (by omega),if_neg (by omega)];exact h1'
 ·rw[List.getElem?_eq_none (by simp only[List.length_set];omega),List.getElem?_eq_none (by rw[cU,List.length_set];omega)]
def iR(d:Array Ed)(m:Nat):List Ed:=Lib.compactUpTo d m++d.toList.drop (Lib.compactUpTo d m).length
theorem CK{d:Array Ed}{m:Nat}(hm:m≤d.size):(iR d m).length=d.size:=by
 have:=pY d m;simp only[iR,List.length_append,List.length_drop,Array.length_toList]
 omega
theorem qY{d:Array Ed}{m j:Nat}(hj:(Lib.compactUpTo d m).length≤j)(h:j<d.size):(iR d m)[j]?=some d[j]!:=by
 rw[iR,List.getElem?_append_right hj,List.getElem?_drop,Nat.add_sub_cancel' hj,Array.getElem?_toList,getElem!_pos d j h,Array.getElem?_eq_getElem h]
theorem zM{d:Array Ed}{m:Nat}(hk:Lib.keeps d m=true)(hl:(Lib.compactUpTo d m).length<d.size):(iR d m).set (Lib.compactUpTo d m).length d[m]! = iR d (m+1):=by
 rw[iR,iR,Lib.compactUpTo_succ,if_pos hk,List.length_append,List.length_singleton,List.append_assoc,List.set_append_right _ _ (Nat.le_refl _),Nat.sub_self];congr 1
 rw[show d.toList.drop (Lib.compactUpTo d m).length=d.toList[(Lib.compactUpTo d m).length]'(by simpa using hl)::d.toList.drop ((Lib.compactUpTo d m).length+1) from List.drop_eq_getElem_cons (by simpa using hl)];rfl
theorem pZ{d:Array Ed}{m:Nat}(hk:Lib.keeps d m=false):iR d (m+1)=iR d m:=by
 rw[iR,iR,Lib.compactUpTo_succ,if_neg (by rw[hk];simp),List.append_nil]
theorem nR{d:Array Ed}{m:Nat}(h:∀j,j<m→Lib.keeps d j=true)(hm:m≤d.size):Lib.compactUpTo d m=d.toList.take m∧iR d m=d.toList:=by
 have h1:Lib.compactUpTo d m=d.toList.take m:=by
  rw[Lib.compactUpTo_all d m h];apply List.ext_getElem
  ·simp;omega
  ·intro i h1 h2;simp at h1
   simp[show i<d.size by omega]
 refine⟨h1,?_⟩;rw[iR,h1,List.length_take,Array.length_toList,Nat.min_eq_left hm,List.take_append_drop]
open Go.RowKit Go.Sort Go.Shelf
theorem zN{w:World}{base e size n g cap:Nat}{xs:List Value}(h:w.ownsRow base e size (.slice (some ⟨g,0,none⟩) n cap) n xs)(i:Nat):w.frozen? ⟨g,i,none⟩=false:=by
 rcases h.2 with ⟨hv,-⟩|⟨g',cap',cur,hv,hb,hg,-⟩
 ·cases hv
 injection hv with hv _ _;injection hv with hv;injection hv with hv _ _;subst hv;exact Blk.frozen (t:=e) hg i
def SU(w:World)(g cap:Nat)(L:List Ed)(e:Ending)(w':World):Prop:=∃M,gG ltE L M∧M.length≤L.length∧e=.returned (.slice (some ⟨g,0,none⟩) M.length cap)∧aX w' (some ⟨g,0,none⟩) (aR M)∧Upd (fun q=>q=g) w w'

theorem zO(w:World)(base g cap n:Nat)(L:List Ed)(d:Array Ed)(ho:nP ltE L d)(hn:L.length=n)(h:w.ownsRow base 88 3 (.slice (some ⟨g,0,none⟩) n cap) n (aR d.toList))(hl:n≤140737488355328) :
  Calls Tryz.prog 183 #[.slice (some ⟨g,0,none⟩) n cap] w (SU w g cap L):=by
 have hsz:d.size=n:=by rw[ho.n,hn]
 have hset:=kV sR d ho.p ho.s;rw[hsz] at hset;have hcap:n≤cap:=by
  obtain⟨_,_,e1,h1,-⟩:=aK h;injection e1 with _ _ e1;rw[e1];exact h1
 have HS:=aI4 hset hn hsz h;clear hset hn hsz h ho;by_cases h2:n<2
 ·have h2I:(n:Int)<2:=by omega
  have hall:∀j,j<n→Lib.keeps d j=true:=fun j hj=>Lib.keeps_lt_one d j (by omega) |> fun h=>h
  have hc:=nR hall (by rw[HS.out.2.2.1];exact Nat.le_refl _);have FIN:=hIz (show SU w g cap L (.returned (.slice (some ⟨g,0,none⟩) n cap)) w from⟨_,HS.out.1,by rw[hc.1,HS.out.2.1,List.length_take];omega,by rw[hc.1,List.length_take,Array.length_toList,HS.out.2.2.1,Nat.min_self],by
   rw[hc.1,List.take_of_length_le (by rw[Array.length_toList,HS.out.2.2.1];exact Nat.le_refl _)];exact aX.of_own HS.out.2.2.2,Upd.refl _ _⟩)
  clear hall hc h2;go_enter Tryz.func183,Tryz.ntmps183;go_wp2;go_ret;exact FIN.out
 have h2I:¬(n:Int)<2:=by omega
 go_enter Tryz.func183,Tryz.ntmps183;go_wp2_with fail;go_loopw [3] (fun i wr=>∃k q:Nat,k+1≤n∧i=.int .i64 ((k:Int)+1)∧wr=w.drewN q∧Hid (∀j,j<k+1→Lib.keeps d j=true)) (fun i _=>n+1-(intOf i).toNat)
 case atStart=>exact⟨0,0,by omega,rfl,rfl,hIz (fun j hj=>Lib.keeps_lt_one d j (by omega))⟩
 case round =>
  obtain⟨k,q,hk,rfl,rfl,hall⟩:=hrel;have hkw:IntKind.i64.wrap (k:Int)=(k:Int):=IntWalk.i64_in _ (by omega);have hkw2:IntKind.i64.wrap ((k:Int)+1+1)=(k:Int)+1+1:=IntWalk.i64_in _ (by omega);by_cases hlt:k+1<n
  ·have hltI:(k:Int)+1<(n:Int):=by omega
   have hltI2:(k:Int)<(n:Int):=by omega
   have ht:((k:Int)+1).toNat=k+1:=by omega
   have hn0:(0:Int)≤(k:Int)+1:=by omega
   have hx:d.toList[k+1]?=some d[k+1]!:=by rw[Array.getElem?_toList,getElem!_pos d (k+1) (by rw[HS.out.2.2.1];exact hlt),Array.getElem?_eq_getElem]
   have hy:d.toList[k]?=some d[k]!:=by rw[Array.getElem?_toList,getElem!_pos d k (by rw[HS.out.2.2.1];omega),Array.getElem?_eq_getElem]
   obtain⟨x0,x1,x2⟩:=tN HS.out.2.2.2 hx;obtain⟨y0,y1,y2⟩:=tN HS.out.2.2.2 hy;obtain⟨x,hx⟩:∃x,d[k+1]! = x:=⟨_,rfl⟩;obtain⟨y,hy⟩:∃y,d[k]! = y:=⟨_,rfl⟩;rw[hx] at x0 x1 x2;rw[hy] at y0 y1 y2;obtain⟨sx0,sx1,sx2⟩:=x;obtain⟨sy0,sy1,sy2⟩:=y;dsimp only at x0 x1 x2 y0 y1 y2
   have heq:=fun W=>QV W ⟨sx0,sx1,sx2⟩ ⟨sy0,sy1,sy2⟩
   unfold Ed.agg at heq;dsimp only at heq
   have HXY:=aI2 hx hy;clear hx hy;by_cases he:(⟨sx0,sx1,sx2⟩:Ed)=⟨sy0,sy1,sy2⟩
   ·rw[decide_eq_true he] at heq;have HE:=hIz he;clear he;go_upto_region 6 with (fail);refine aT (fun w'=>w'.cell? ⟨g,(k+1)*3,none⟩=some (.string sx0)∧w'.cell? ⟨g,(k+1)*3+1,none⟩=some (.string sx1)∧w'.cell? ⟨g,(k+1)*3+2,none⟩=some (.string sx2)∧w'.cell? ⟨g,k*3,none⟩=some (.string sy0)∧w'.cell? ⟨g,k*3+1,none⟩=some (.string sy1)∧w'.cell? ⟨g,k*3+2,none⟩=some (.string sy2)) 10 [(0,true),(1,true),(2,true),(3,true),(4,true),(5,true),(6,true),(7,true),(8,true),(9,true)] (by kernel_rfl) (by kernel_rfl) (fun _ _ d _ _ h=>by cases d <;> exact h) ⟨x0,x1,x2,y0,y1,y2⟩ ?_
    iterate 10 refine aC rfl ?_
    refine aG ?_;clear x0 x1 x2 y0 y1 y2 heq;go_wp2_with fail;obtain⟨ln,hln⟩:∃ln,n-(k+1)=ln:=⟨_,rfl⟩;obtain⟨cn,hcn⟩:∃cn,cap-(k+1)=cn:=⟨_,rfl⟩;obtain⟨oo,hoo⟩:∃oo,(k+1)*3=oo:=⟨_,rfl⟩;rw[hln,hcn,hoo];have hkeep:Lib.keeps d (k+1)=false:=Lib.keeps_neg (by omega) (by rw[Nat.add_sub_cancel,HXY.out.1,HXY.out.2,HE.out]);have hc0:=nR hall.out (by rw[HS.out.2.2.1];omega);have hl0:(Lib.compactUpTo d (k+1)).length=k+1:=by rw[hc0.1,List.length_take,Array.length_toList,HS.out.2.2.1];omega
    have hl1:(Lib.compactUpTo d (k+2)).length=k+1:=by
     rw[Lib.compactUpTo_succ,hkeep];simpa using hl0
    have hs1:iR d (k+2)=d.toList:=by rw[pZ hkeep];exact hc0.2
    have hlnb:ln+(k+1)=n:=by omega
    have hcnb:cn+(k+1)=cap:=by omega
    have HB:=aI5 hoo hl1 hs1 hlnb hcnb;have hlnn:ln+k+1≤n:=by omega
    have hln1:0+1≤ln:=by omega
    clear hln hcn hoo hkeep hc0 hl0 hl1 hs1 hcnb hlnb;go_loopw [3,5] (fun a3 a5 wz=>∃kk r:Nat,r+1≤ln∧a3=.int .i64 kk∧a5=.int .i64 ((r:Int)+1)∧kk≤k+r+1∧Hid (kk=(Lib.compactUpTo d (k+r+2)).length)∧Hid (wz.ownsRow base 88 3 (.slice (some ⟨g,0,none⟩) n cap) n (aR (iR d (k+r+2))))∧Hid (Upd (fun q=>q=g) w wz)) (fun _ a5 _=>ln+1-(intOf a5).toNat)
    case atStart=>exact⟨k+1,0,hln1,by go_num,rfl,by omega,hIz HB.out.2.1.symm,hIz (by rw[Nat.add_zero,HB.out.2.2.1];exact HS.out.2.2.2),hIz ((Upd.refl _ w).drewN (q+1))⟩
    case round =>
     obtain⟨kk,r,hr,rfl,rfl,hkk,hkl,how,hu⟩:=hrel;have hrw:IntKind.i64.wrap (r:Int)=(r:Int):=IntWalk.i64_in _ (by omega);have hrw2:IntKind.i64.wrap ((r:Int)+1+1)=(r:Int)+1+1:=IntWalk.i64_in _ (by omega);have hkw3:IntKind.i64.wrap ((kk:Int)+1)=(kk:Int)+1:=IntWalk.i64_in _ (by omega);by_cases hlt3:r+1<ln
     ·have hltI3:(r:Int)+1<(ln:Int):=by omega
      have hltI4:(r:Int)<(ln:Int):=by omega
      have ht3:((r:Int)+1).toNat=r+1:=by omega
      have hn3:(0:Int)≤(r:Int)+1:=by omega
      have hm:k+r+2<d.size:=by rw[HS.out.2.2.1];omega
      have hx:=qY (d:=d) (m:=k+r+2) (j:=k+r+2) (by rw[← hkl.out];omega) hm;have hy:=qY (d:=d) (m:=k+r+2) (j:=k+r+1) (by rw[← hkl.out];omega) (by omega);obtain⟨x0,x1,x2⟩:=tN how.out hx;obtain⟨y0,y1,y2⟩:=tN how.out hy;rw[show(k+r+2)*3=oo+(r+1)*3 by have:=HB.out.1;omega] at x0 x1 x2;rw[show(k+r+1)*3=oo+r*3 by have:=HB.out.1;omega] at y0 y1 y2;obtain⟨x,hx⟩:∃x,d[k+r+2]! = x:=⟨_,rfl⟩;obtain⟨y,hy⟩:∃y,d[k+r+1]! = y:=⟨_,rfl⟩;rw[hx] at x0 x1 x2;rw[hy] at y0 y1 y2;obtain⟨tx0,tx1,tx2⟩:=x;obtain⟨ty0,ty1,ty2⟩:=y;dsimp only at x0 x1 x2 y0 y1 y2
      have hneq:=fun W=>QW W ⟨tx0,tx1,tx2⟩ ⟨ty0,ty1,ty2⟩
      unfold Ed.agg at hneq;dsimp only at hneq
      have HXY2:=aI2 hx hy;clear hx hy hm;by_cases he:(⟨tx0,tx1,tx2⟩:Ed)=⟨ty0,ty1,ty2⟩
      ·rw[decide_eq_true he] at hneq;have HE2:=hIz he;clear he;go_upto_region 11 with (fail);refine aT (fun w'=>w'.cell? ⟨g,oo+(r+1)*3,none⟩=some (.string tx0)∧w'.cell? ⟨g,oo+(r+1)*3+1,none⟩=some (.string tx1)∧w'.cell? ⟨g,oo+(r+1)*3+2,none⟩=some (.string tx2)∧w'.cell? ⟨g,oo+r*3,none⟩=some (.string ty0)∧w'.cell? ⟨g,oo+r*3+1,none⟩=some (.string ty1)∧w'.cell? ⟨g,oo+r*3+2,none⟩=some (.string ty2)) 10 [(0,true),(1,true),(2,true),(3,true),(4,true),(5,true),(6,true),(7,true),(8,true),(9,true)] (by kernel_rfl) (by kernel_rfl) (fun _ _ d _ _ h=>by cases d <;> exact h) ⟨x0,x1,x2,y0,y1,y2⟩ ?_
       iterate 10 refine aC rfl ?_
       refine aG ?_;clear x0 x1 x2 y0 y1 y2 hneq;have hkf:Lib.keeps d (k+r+2)=false:=Lib.keeps_neg (by omega) (by rw[show k+r+2-1=k+r+1 by omega,HXY2.out.1,HXY2.out.2,HE2.out]);have HK:=hIz hkf;clear hkf;go_wp2;go_roundw
       case rel=>exact⟨kk,r+1,by omega,rfl,by go_num,by omega,hIz (by rw[hkl.out,show k+(r+1)+2=k+r+2+1 by omega,Lib.compactUpTo_succ d (k+r+2),HK.out];simp),hIz (by rw[show k+(r+1)+2=k+r+2+1 by omega,pZ HK.out];exact how.out),hIz hu.out.drew⟩
       case measure=>simp[intOf];omega
      ·rw[decide_eq_false he] at hneq;have HE2:=hIz he;clear he;go_upto_region 11 with (fail);refine aT (fun w'=>w'.cell? ⟨g,oo+(r+1)*3,none⟩=some (.string tx0)∧w'.cell? ⟨g,oo+(r+1)*3+1,none⟩=some (.string tx1)∧w'.cell? ⟨g,oo+(r+1)*3+2,none⟩=some (.string tx2)∧w'.cell? ⟨g,oo+r*3,none⟩=some (.string ty0)∧w'.cell? ⟨g,oo+r*3+1,none⟩=some (.string ty1)∧w'.cell? ⟨g,oo+r*3+2,none⟩=some (.string ty2)) 10 [(0,true),(1,true),(2,true),(3,true),(4,true),(5,true),(6,true),(7,true),(8,true),(9,true)] (by kernel_rfl) (by kernel_rfl) (fun _ _ d _ _ h=>by cases d <;> exact h) ⟨x0,x1,x2,y0,y1,y2⟩ ?_
       iterate 10 refine aC rfl ?_
       refine aG ?_;clear y0 y1 y2 hneq;have hkt:Lib.keeps d (k+r+2)=true:=Lib.keeps_pos (by rw[show k+r+2-1=k+r+1 by omega,HXY2.out.1,HXY2.out.2];exact HE2.out);have hclen:=CK (d:=d) (m:=k+r+2) (by rw[HS.out.2.2.1];omega);have hkn:kk<n:=by omega
       obtain⟨z0,z1,z2⟩:=tN how.out (qY (d:=d) (m:=k+r+2) (j:=kk) (by rw[← hkl.out];exact Nat.le_refl _) (by rw[HS.out.2.2.1];exact hkn));have fz:=fun i=>zN how.out i
       have f0:=fz (kk*3);have f1:=fz (kk*3+1);have f2:=fz (kk*3+2);have o1:=cC (aB how.out (Upd.refl (fun _=>False) wr).drew (fun _ _=>id)) (i:=kk*3) (by omega) (.string tx0);have o2:=cC o1 (i:=kk*3+1) (by omega) (.string tx1);have o3:=cC o2 (i:=kk*3+2) (by omega) (.string tx2);have hes:=QX (L:=iR d (k+r+2)) (k:=kk) (by rw[hclen,HS.out.2.2.1];exact hkn) ⟨tx0,tx1,tx2⟩;dsimp only at hes
       have hst:=zM hkt (by rw[← hkl.out,HS.out.2.2.1];exact hkn);rw[← hkl.out,HXY2.out.1] at hst;rw[hes,hst] at o3;have u3:=((hu.out.drew.setCell (p:=⟨g,kk*3,none⟩) (.inl rfl) (.string tx0)).setCell (p:=⟨g,kk*3+1,none⟩) (.inl rfl) (.string tx1)).setCell (p:=⟨g,kk*3+2,none⟩) (.inl rfl) (.string tx2);have HO:=aI3 o3 u3 hkt;have hknI:(kk:Int)<(n:Int):=by omega
       clear o1 o2 o3 hes hst u3 hkt fz hclen;go_wp2;go_roundw
       case rel=>exact⟨kk+1,r+1,by omega,by go_num,by go_num,by omega,hIz (by rw[hkl.out,show k+(r+1)+2=k+r+2+1 by omega,Lib.compactUpTo_succ d (k+r+2),HO.out.2.2];simp),hIz (by rw[show k+(r+1)+2=k+r+2+1 by omega];exact HO.out.1),hIz HO.out.2.1⟩
       case measure=>simp[intOf];omega
     ·obtain rfl:r+1=ln:=by omega
      have hmn:k+r+2=n:=by have:=HB.out.2.2.2.1;omega
      have hkn:kk<n:=by omega
      have hknI:(kk:Int)<(n:Int):=by omega
      have hkc:kk<cap:=by omega
      obtain⟨w6,hcl,hr6,u6⟩:=CJ how.out kk hkn (cap-kk);have hkl':(Lib.compactUpTo d n).length=kk:=by rw[hkl.out,hmn]
      have FIN:=hIz (show SU w g cap L (.returned (.slice (some ⟨g,0,none⟩) kk cap)) w6 from⟨_,HS.out.1,by rw[hkl',HS.out.2.1];omega,by rw[hkl'],by
       rw[hmn,iR,aR,List.flatMap_append,List.take_left' (by
        show(aR (Lib.compactUpTo d n)).length=kk*3
        rw[cU,hkl'])] at hr6
       exact hr6,hu.out.trans u6 (fun i e=>.inl e)⟩)
      clear hr6 u6 hkl' hmn hlt3;go_wp2;go_ret;exact FIN.out
   ·rw[decide_eq_false he] at heq;have HE:=hIz he;clear he;go_upto_region 6 with (fail);refine aT (fun w'=>w'.cell? ⟨g,(k+1)*3,none⟩=some (.string sx0)∧w'.cell? ⟨g,(k+1)*3+1,none⟩=some (.string sx1)∧w'.cell? ⟨g,(k+1)*3+2,none⟩=some (.string sx2)∧w'.cell? ⟨g,k*3,none⟩=some (.string sy0)∧w'.cell? ⟨g,k*3+1,none⟩=some (.string sy1)∧w'.cell? ⟨g,k*3+2,none⟩=some (.string sy2)) 10 [(0,true),(1,true),(2,true),(3,true),(4,true),(5,true),(6,true),(7,true),(8,true),(9,true)] (by kernel_rfl) (by kernel_rfl) (fun _ _ d _ _ h=>by cases d <;> exact h) ⟨x0,x1,x2,y0,y1,y2⟩ ?_
    iterate 10 refine aC rfl ?_
    refine aG ?_;clear x0 x1 x2 y0 y1 y2 heq;go_wp2;go_roundw
    case rel=>exact⟨k+1,q+1,by omega,by go_num,rfl,hIz (fun j hj=>by
     rcases Nat.lt_succ_iff_lt_or_eq.1 hj with h|rfl
     ·exact hall.out j h
     ·exact Lib.keeps_pos (by rw[Nat.add_sub_cancel,HXY.out.1,HXY.out.2];exact HE.out))⟩
    case measure=>simp[intOf];omega
  ·obtain rfl:n=k+1:=by omega
   have hc:=nR hall.out (by rw[HS.out.2.2.1];exact Nat.le_refl _);have FIN:=hIz (show SU w g cap L (.returned (.slice (some ⟨g,0,none⟩) (k+1) cap)) (w.drewN q) from⟨_,HS.out.1,by rw[hc.1,HS.out.2.1,List.length_take];omega,by rw[hc.1,List.length_take,Array.length_toList,HS.out.2.2.1,Nat.min_self],by
    rw[hc.1,List.take_of_length_le (by rw[Array.length_toList,HS.out.2.2.1];exact Nat.le_refl _)];exact aX.of_own (aB HS.out.2.2.2 ((Upd.refl (fun _=>False) w).drewN q) (fun _ _=>id)),(Upd.refl _ w).drewN q⟩)
   clear hc;go_wp2;go_ret;exact FIN.out
open Go.RowKit Go.Sort Go.Shelf
theorem CL(d:Array Ed):(flatK Ed.cells 3 d).toList=aR d.toList:=by
 apply List.ext_getElem?
 intro j;by_cases hj:j<d.size*3
 ·have hi:j / 3<d.size:=Nat.div_lt_of_lt_mul (by omega);have hm:j % 3<3:=Nat.mod_lt _ (by decide);have hjd:j / 3*3+j % 3=j:=by omega
  have h2:=cO Ed.cells 3 (fun _=>rfl) d.toList (j / 3) (j % 3) d[j / 3]! (by rw[Array.getElem?_toList,getElem!_pos d _ hi,Array.getElem?_eq_getElem hi]) hm;rw[hjd] at h2;show _=(d.toList.flatMap Ed.cells)[j]?
  rw[h2];have h3:=get_flatK Ed.cells 3 d j hj;have h4:j<(flatK Ed.cells 3 d).size:=by rw[size_flatK];exact hj
  rw[Array.getElem?_toList,Array.getElem?_eq_getElem h4,← getElem!_pos (flatK Ed.cells 3 d) j h4,h3];have h5:j % 3<(Ed.cells d[j / 3]!).length:=hm;rw[gEz h5,getElem!_pos (Ed.cells d[j / 3]!) _ h5]
 ·rw[List.getElem?_eq_none (by rw[Array.length_toList,size_flatK];omega),List.getElem?_eq_none (by rw[cU,Array.length_toList];omega)]
theorem IR(w:World)(base g cap:Nat)(L:List Ed)(h:w.ownsRow base 88 3 (.slice (some ⟨g,0,none⟩) L.length cap) L.length (aR L))(hl:L.length≤140737488355328) :
  Calls Tryz.prog 182 #[.slice (some ⟨g,0,none⟩) L.length cap,.func (.func 102) #[] #[]] w fun e w'=>e=.returned (.tuple #[])∧∃d:Array Ed,nP ltE L d∧w'.ownsRow base 88 3 (.slice (some ⟨g,0,none⟩) L.length cap) L.length (aR d.toList)∧Upd (fun q=>q=g) w w':=by
 have eg:∀args w,(callFunc 102 args).run Tryz.prog w=.ok (.enter 102 args) w:=enters_of Tryz.func102 (by kernel_rfl) rfl;have hcmp:CmpLays Tryz.prog 102 #[] Ed.cells 3 GU g 0 L.toArray.size w:=fun m os dk _ x y=>(pU x y _).mono fun e w' hh=>hh
 have hHo:w.ownsRow base 88 3 (.slice (some ⟨g,0,none⟩) L.length cap) L.length ((flatK Ed.cells 3 L.toArray).toList.map id):=by rw[List.map_id,CL];exact h
 have hH:HoldsK Ed.cells 3 w g 0 L.toArray:=jB hHo;have hg:=(h.lt g rfl).2;have hcon:=AnyQ.slices_SortFunc QU 3 (fun w=>Tryz.isAgg88 w) (fun w=>Tryz.sizeOf88 w) Ed.cells (fun _=>rfl) (fun x v hv=>by simp[Ed.cells] at hv;rcases hv with rfl | rfl | rfl <;> rfl) GU QS 102 #[] g 0 cap L.toArray w eg hcmp hH hg (by simp;omega);change Calls Tryz.prog 182 _ _ _ at hcon
 rw[show L.toArray.size=L.length from by simp] at hcon;refine hcon.mono ?_;rintro e w' ⟨rfl,d',n,os,hp,hs,rfl⟩;have hlt:ltOf GU=ltE:=by funext x y;exact vT x y
 rw[hlt] at hs;have ho:=nP.of (L:=L) (by simpa using hp) (by simpa using hs);have key:=nN (enc:=id) (m:=n) (os:=os) h (flatK Ed.cells 3 d') (by rw[size_flatK,ho.n]);rw[List.map_id,CL] at key;exact⟨rfl,d',ho,key.1,key.2⟩
theorem qZ(w:World)(p:Option Addr)(cap:Nat):Calls Tryz.prog 183 #[.slice p 0 cap] w (gB w (.slice p 0 cap)):=by
 go_enter Tryz.func183,Tryz.ntmps183;go_wp2;go_ret;exact⟨rfl,rfl⟩
theorem MP.base{w w0:World}{M:List Ed}{e:Ending}{w':World}(h:MP w M e w')(hb:Below w0.heap.size w0 w):MP w0 M e w':=by
 obtain⟨v,rfl,own,b⟩:=h;exact⟨v,rfl,bQ own (fun q hq=>Nat.le_trans hb.size (own.lt q hq).1),tHn hb b⟩
def TI(w:World)(L:List Ed)(e:Ending)(w':World):Prop:=∃M,gG ltE L M∧M.length≤L.length∧MP w M e w'

theorem CM(w:World)(A:Option Addr)(c:Nat)(L:List Ed)(h:aX w A (aR L))(hl:L.length*48≤140737488355328) :
  Calls Tryz.prog 156 #[.slice A L.length c,.func (.func 102) #[] #[]] w (TI w L):=by
 have HH:=hIz h;clear h;go_enter Tryz.func156,Tryz.ntmps156;go_wp2_with fail;refine(qX w A c L HH.out hl).mono ?_;rintro e w1 ⟨v,rfl,own1,b1⟩;obtain⟨A1,c1,rfl,hc1,hA1⟩:=aK own1;by_cases h0:L.length=0
 ·obtain rfl:L=[]:=List.eq_nil_of_length_eq_zero h0;have HB:=hIz b1;clear own1 b1 h0 hl hc1 hA1;have hs0:=AnyF.slices_SortFunc_none QU A1 c1 (.func (.func 102) #[] #[]) w1;change Calls Tryz.prog 182 _ _ _ at hs0
  have HS0:=hIz hs0;clear hs0;go_wp2_with fail;refine HS0.out.mono ?_;rintro e w2 ⟨rfl,rfl⟩;go_wp2_with fail;refine(qZ _ _ _).mono ?_;rintro e w2 ⟨rfl,rfl⟩;go_wp2_with fail;refine(qX _ A1 c1 [] (fun j u hj=>by simp[aR] at hj) (by simp)).mono ?_;intro e w3 hn;have hn':=hn.base HB.out;obtain⟨v3,rfl,own3,b3⟩:=hn';have FIN:=hIz (show TI w [] (.returned v3) w3 from⟨[],gG.self (lt:=ltE) .nil,Nat.le_refl _,v3,rfl,own3,b3⟩);clear hn own3 b3;go_wp2;go_ret;exact FIN.out
 ·obtain⟨g,rfl⟩:∃g,A1=some ⟨g,0,none⟩:=by
   rcases own1.2 with ⟨-,h2⟩|⟨g,cap,cur,hv,-⟩
   ·exact(h0 h2).elim
   ·injection hv with hv;exact⟨g,hv⟩
  obtain⟨n,hn⟩:∃n,L.length=n:=⟨_,rfl⟩;have hs:=IR w1 w.heap.size g c1 L own1 (by omega);rw[hn] at hs ⊢;have hgb:=(own1.lt g rfl).1;have HB:=aI3 b1 hs hn;clear own1 b1 h0 hc1 hA1 hs hn;go_wp2_with fail;refine HB.out.2.1.mono ?_;rintro e w2 ⟨rfl,dd,ho,own2,u2⟩;have H2:=aI3 ho own2 (HB.out.1.trans (u2.below (fun q _ e=>by omega) HB.out.1.size));clear ho own2 u2;go_wp2_with fail;refine(zO w2 w.heap.size g c1 n L dd H2.out.1 HB.out.2.2 H2.out.2.1 (by have:=HB.out.2.2;omega)).mono ?_;rintro e w3 ⟨M,hM,hlen,rfl,hr3,u3⟩;have H3:=aI4 hM hlen hr3 (H2.out.2.2.trans (u3.below (fun q _ e=>by omega) H2.out.2.2.size));have hml:M.length*48≤140737488355328:=by omega
  clear hM hlen hr3 u3;obtain⟨k,hk⟩:∃k,M.length=k:=⟨_,rfl⟩;have hcl:=qX w3 (some ⟨g,0,none⟩) c1 M H3.out.2.2.1 hml;rw[hk] at hcl ⊢;have HCL:=hIz hcl;clear hcl hk hml;go_wp2_with fail;refine HCL.out.mono ?_;intro e w4 hn;have hn':=hn.base H3.out.2.2.2;obtain⟨v4,rfl,own4,b4⟩:=hn';have FIN:=hIz (show TI w L (.returned v4) w4 from⟨M,H3.out.1,H3.out.2.1,v4,rfl,own4,b4⟩);clear hn own4 b4;go_wp2;go_ret;exact FIN.out
open Go.RowKit
def iS(x:Ed):List Txt:=[x.fr,x.to]
def tO(N:List Txt)(E:List Ed):List Txt:=N++E.flatMap iS
def gN(N:List Txt)(E:List Ed):List Txt:=eD ltT (tO N E)
def gE(E:List Ed):List Ed:=eD ltE E
theorem rC(N:List Txt)(E:List Ed):(tO N E).length=N.length+E.length*2:=by
 rw[tO,List.length_append,dL iS 2 (fun _=>rfl)]
theorem nS{N:List Txt}{E:List Ed}{s:Txt}:s∈tO N E↔s∈N∨∃x∈E,s=x.fr∨s=x.to:=by
 rw[tO,List.mem_append,List.mem_flatMap];simp[iS]
theorem qA{N:List Txt}{E:List Ed}(h:kE N E):kE (gN N E) (gE E):=by
 refine⟨fun s hs=>?_,fun x hx=>h.e x (((bM sR E).mem x).1 hx)⟩;rcases nS.1 (((bM fJ (tO N E)).mem s).1 hs) with h1|⟨x,hx,rfl|rfl⟩
 ·exact h.n s h1
 ·exact(h.e x hx).1
 ·exact(h.e x hx).2.2
theorem IS{N:List Txt}{E:List Ed}(h:kE N E){M:List Txt}{F:List Ed}(hM:M=gN N E)(hF:F=gE E)(h1:M.length*16≤140737488355328)(h2:F.length*48≤140737488355328):QQ M F:=by
 subst hM;subst hF;have k:=qA h;refine⟨h1,h2,fun s hs=>?_,fun x hx=>?_⟩
 ·have:=k.n s hs;unfold fH;omega
 ·have:=k.e x hx;unfold BS fH;omega
def IT(w:World)(N:List Txt)(E:List Ed)(e:Ending)(w':World):Prop:=
 (cG (gN N E) (gE E)=0∧∃A c B d,e=.returned (.tuple #[cP A (gN N E).length c B (gE E).length d,.int .i64 0])∧w'.ownsRow w.heap.size 9 1 (.slice A (gN N E).length c) (gN N E).length (aE (gN N E))∧w'.ownsRow w.heap.size 88 3 (.slice B (gE E).length d) (gE E).length (aR (gE E))∧Below w.heap.size w w') ∨
 (cG (gN N E) (gE E)≠0∧e=.returned (.tuple #[cP none 0 0 none 0 0,.int .i64 (cG (gN N E) (gE E))])∧Below w.heap.size w w')
theorem xU(w:World)(base:Nat)(v:Value)(L:List Txt)(own:w.ownsRow base 9 1 v L.length (aE L))(s t:Txt)(hl:(L.length+2)*16≤140737488355328)(hb:base≤w.heap.size) :
  ∃v' w',(Builtin.append_ #[25,25] 25 #[v,.slice (some ⟨w.heap.size,0,none⟩) 2 2]).run Tryz.prog (w.alloc (.cells #[.string s,.string t] 9))=.ok v' w'∧w'.ownsRow base 9 1 v' (L++[s,t]).length (aE (L++[s,t]))∧Below base w w':=by
 obtain⟨v',w',happ,own',up,-⟩:=cI w base 25 9 1 16 _ Tryz.underlying25 cH rfl (by decide) v L.length _ own [.string s,.string t] 2 rfl (by simp;exact⟨rfl,rfl⟩) hl (by unfold maxLen;omega) hb;refine⟨v',w',happ,?_,up.below (fun k _ e=>(own.lt k e).1) hb⟩;rw[List.length_append,aE,List.map_append];exact own'
theorem CN{N:List Txt}{E:List Ed}{k:Nat}{x:Ed}(h:E[k]?=some x):tO N (E.take (k+1))=tO N (E.take k)++[x.fr,x.to]:=by
 rw[tO,tO,dB h,List.flatMap_append,List.append_assoc];rfl

theorem IU(w:World)(A:Option Addr)(c:Nat)(B:Option Addr)(d:Nat)(N:List Txt)(E:List Ed)(h:lN w A c B d N E)(hs:kE N E)(hb:(N.length+E.length*2)*16≤140737488355328) :
  Calls Tryz.prog 117 #[.slice A N.length c,.slice B E.length d] w (IT w N E):=by
 have k0:=Blk.new w 28 #[.slice none 0 0,.slice none 0 0];have u0:Below w.heap.size w (w.alloc (.cells #[.slice none 0 0,.slice none 0 0] 28)):=bR.alloc (Nat.le_refl _) _;have he:E.length*48≤140737488355328:=h.fit.e;have hn:N.length*16≤140737488355328:=h.fit.n;have HB:=hIz (show ∀(j:Nat) (x:Ed),E[j]?=some x→∃b o,B=some ⟨b,o,none⟩∧b<w.heap.size from fun j x hx=>by obtain⟨b,o,e,y0,-⟩:=h.re.ed hx;exact⟨b,o,e,World.block_lt_of_cell? _ _ y0⟩);have H:=aI4 (h.below u0) k0 u0 hs;clear h k0 u0 hs;go_enter Tryz.func117,Tryz.ntmps117;go_upto_region 1 with (fail);generalize w.alloc (.cells #[.slice none 0 0,.slice none 0 0] 28)=W0 at H ⊢;have hz0:w.heap.size+1≤W0.heap.size:=H.out.2.1.lt;go_wp2_with fail;refine(gJ W0 A c N H.out.1.rn hn).mono ?_;rintro e w1 ⟨v,rfl,own1,b1⟩;obtain⟨A1,c1,rfl,-,-⟩:=aK own1;have H1:=aI2 own1 b1;clear own1 b1;go_wp2_with fail;go_loopw [6,8,15] (fun v _ i wr=>∃k:Nat,k≤E.length∧i=.int .i64 k∧Hid (Below W0.heap.size W0 wr)∧Hid (wr.ownsRow W0.heap.size 9 1 v (tO N (E.take k)).length (aE (tO N (E.take k))))) (fun _ _ i _=>E.length-(intOf i).toNat)
 case atStart=>exact⟨0,Nat.zero_le _,rfl,hIz H1.out.2,hIz (by simpa[tO] using H1.out.1)⟩
 case round =>
  obtain⟨k,hk,rfl,hbw,how⟩:=hrel;obtain⟨A5,c5,rfl,-,-⟩:=aK how.out;have hal:=rC N (E.take k);have htl:(E.take k).length≤k:=by rw[List.length_take];omega
  obtain⟨n5,hn5⟩:∃n5,(tO N (E.take k)).length=n5:=⟨_,rfl⟩;by_cases hlt:k<E.length
  ·have hltI:(k:Int)<(E.length:Int):=by omega
   have hkw:IntKind.i64.wrap ((k:Int)+1)=(k:Int)+1:=IntWalk.i64_in _ (by omega);obtain⟨⟨s0,s1,s2⟩,hx⟩:∃x,E[k]?=some x:=⟨E[k],gEz _⟩;obtain⟨ab,ao,rfl,hab⟩:=HB.out k _ hx;obtain⟨ab',ao',e,y0,y1,y2⟩:=H.out.1.re.ed hx;injection e with e;injection e with e e2;subst e;subst e2;dsimp only at y0 y1 y2
   have cc:=fun i=>hbw.out.cell (p:=⟨ab,i,none⟩) (by show ab<_;omega)
   have x0:=(cc _).trans y0;have x1:=(cc _).trans y1;have x2:=(cc _).trans y2;have kx:=Blk.new wr 88 #[.string s0,.string s1,.string s2];have bx:Below wr.heap.size wr (wr.alloc (.cells #[.string s0,.string s1,.string s2] 88)):=bR.alloc (Nat.le_refl _) _;have ox:=how.out.alloc (.cells #[.string s0,.string s1,.string s2] 88);have HX:=aI4 hx kx (tHn hbw.out bx) ox;clear hx kx bx ox y0 y1 y2 cc;go_upto_region 5 with (fail);generalize wr.alloc (.cells #[.string s0,.string s1,.string s2] 88)=W5 at HX ⊢;clear x0 x1 x2;have x0:W5.cell? ⟨wr.heap.size,0,none⟩=some (.string s0):=HX.out.2.1.cell 0;have x2:W5.cell? ⟨wr.heap.size,2,none⟩=some (.string s2):=HX.out.2.1.cell 2;obtain⟨v6,w6,happ,own6,b6⟩:=xU W5 W0.heap.size _ _ HX.out.2.2.2 s0 s2 (by omega) HX.out.2.2.1.size;rw[hn5] at happ ⊢;have H6:=aI2 own6 (HX.out.2.2.1.trans b6);clear own6 b6 hn5 hal;go_wp2_with (at_builtin;refine wpList_append_run rfl _ _ _ rfl rfl rfl happ ?_);go_roundw
   case rel=>exact⟨k+1,by omega,by go_num,hIz H6.out.2,hIz (by rw[CN HX.out.1];exact H6.out.1)⟩
   case measure=>simp[intOf];omega
  ·obtain rfl:k=E.length:=by omega
   obtain⟨W4,hW4⟩:∃W,W=wr:=⟨_,rfl⟩;subst hW4;have ow:=how.out;rw[List.take_length] at ow hn5;have rw4:=aX.of_own ow;have hl5:(tO N E).length*16≤140737488355328:=by rw[rC];exact hb
   have hsT:=zJ W4 A5 c5 (tO N E) rw4 hl5;rw[hn5] at hsT;rw[List.take_length,hn5];have HT:=hIz hsT;have H4:=hIz hbw.out;clear ow hn5 rw4 hsT how hbw hal htl hk hlt hl5;go_wp2_with fail;refine HT.out.mono ?_;rintro e w5 ⟨M,hM,hMl,v5,rfl,own5,b5⟩;have eM:M=gN N E:=hM.is fJ;have H5:=aI3 own5 (tHn H4.out b5) eM;have hM16:M.length*16≤140737488355328:=by rw[rC] at hMl;omega
   clear hM hMl own5 b5 eM;go_wp2_with fail;refine(CM w5 B d E (H.out.1.below H5.out.2.1).re he).mono ?_;rintro e w6 ⟨F,hF,hFl,v6,rfl,own6,b6⟩;have eF:F=gE E:=hF.is sR;have hF48:F.length*48≤140737488355328:=by omega
   obtain⟨A6,c6,rfl,hc6,-⟩:=aK H5.out.1;obtain⟨A7,c7,rfl,hc7,-⟩:=aK own6;have o5:=aB H5.out.1 (upF b6) (fun _ _=>id);have H6:=aI6 o5 own6 (tHn H5.out.2.1 b6) eF hc6 hc7;clear hF hFl own6 b6 eF o5 hc6 hc7;go_upto_region 8 with (fail);have k7:=Blk.new w6 28 #[.slice A6 M.length c6,.slice A7 F.length c7];have b7:Below w6.heap.size w6 (w6.alloc (.cells #[.slice A6 M.length c6,.slice A7 F.length c7] 28)):=bR.alloc (Nat.le_refl _) _;have o7:=H6.out.1.alloc (.cells #[.slice A6 M.length c6,.slice A7 F.length c7] 28);have o8:=H6.out.2.1.alloc (.cells #[.slice A6 M.length c6,.slice A7 F.length c7] 28);have H7:=aI4 k7 o7 o8 (tHn H6.out.2.2.1 b7);clear k7 b7 o7 o8;generalize w6.alloc (.cells #[.slice A6 M.length c6,.slice A7 F.length c7] 28)=W7 at H7 ⊢;have q0:W7.cell? ⟨w6.heap.size,0,none⟩=some (.slice A6 M.length c6):=H7.out.1.cell 0;have q1:W7.cell? ⟨w6.heap.size,1,none⟩=some (.slice A7 F.length c7):=H7.out.1.cell 1;have hG:lN W7 A6 c6 A7 c7 M F:=⟨aX.of_own H7.out.2.1,aX.of_own H7.out.2.2.1,H6.out.2.2.2.2.1,H6.out.2.2.2.2.2,IS H.out.2.2.2 H5.out.2.2 H6.out.2.2.2.1 hM16 hF48⟩;have hsh:kE M F:=by rw[H5.out.2.2,H6.out.2.2.2.1];exact qA H.out.2.2.2
   have HG:=aI2 hG hsh;clear hG hsh;go_wp2_with fail;refine(xS W7 A6 c6 A7 c7 M F HG.out.1 HG.out.2).mono ?_;rintro e w8 ⟨rfl,b8⟩;have bb:=tHn H7.out.2.2.2 b8;have k8:=H.out.2.1.upd (upF bb) id;have c0:w8.cell? ⟨w.heap.size,0,none⟩=some (.slice none 0 0):=k8.cell 0;have c1':w8.cell? ⟨w.heap.size,1,none⟩=some (.slice none 0 0):=k8.cell 1;have f0:=k8.frozen 0;have f1:=k8.frozen 1;have k9:=H7.out.1.upd (upF b8) id;have bw:Below w.heap.size w w8:=H.out.2.2.1.trans (bb.mono (by omega));have oT:=aB H7.out.2.1 (upF b8) (fun _ _=>id);have oE:=aB H7.out.2.2.1 (upF b8) (fun _ _=>id);have z7:=H4.out.size;have z5:=H5.out.2.1.size;have fin:∀v0 v1:Value,(w8.setCell ⟨w.heap.size,0,none⟩ v0).setCell ⟨w.heap.size,1,none⟩ v1=(w8.setCell ⟨w.heap.size,0,none⟩ v0).setCell ⟨w.heap.size,1,none⟩ v1∧Blk ((w8.setCell ⟨w.heap.size,0,none⟩ v0).setCell ⟨w.heap.size,1,none⟩ v1) w.heap.size 28 #[v0,v1]∧Upd (fun q=>q=w.heap.size) w8 ((w8.setCell ⟨w.heap.size,0,none⟩ v0).setCell ⟨w.heap.size,1,none⟩ v1):=fun v0 v1 =>
    ⟨rfl,(k8.set 0 v0).set 1 v1,((Upd.refl (fun q=>q=w.heap.size) w8).setCell (p:=⟨w.heap.size,0,none⟩) (.inl rfl) v0).setCell (p:=⟨w.heap.size,1,none⟩) (.inl rfl) v1⟩
   obtain⟨cp,hcp⟩:∃cp,cG M F=cp:=⟨_,rfl⟩;have hcg:cG (gN N E) (gE E)=cp:=by rw[← H5.out.2.2,← H6.out.2.2.2.1];exact hcp
   rw[hcp];by_cases h0:cp=0
   ·subst h0;obtain⟨-,kF,uF⟩:=fin (.slice A6 M.length c6) (.slice A7 F.length c7);have e0:=kF.cell 0;have e1:=kF.cell 1;simp only[List.getElem?_toArray,List.getElem?_cons_succ,List.getElem?_cons_zero] at e0 e1
    have q0:w8.cell? ⟨w6.heap.size,0,none⟩=some (.slice A6 M.length c6):=k9.cell 0;have q1:w8.cell? ⟨w6.heap.size,1,none⟩=some (.slice A7 F.length c7):=k9.cell 1;have post:IT w N E (.returned (.tuple #[cP A6 M.length c6 A7 F.length c7,.int .i64 0])) ((w8.setCell ⟨w.heap.size,0,none⟩ (.slice A6 M.length c6)).setCell ⟨w.heap.size,1,none⟩ (.slice A7 F.length c7)):=by
     refine .inl ⟨hcg,A6,c6,A7,c7,by rw[← H5.out.2.2,← H6.out.2.2.2.1],?_,?_,bw.trans (uF.below (fun q _ e=>by omega) bw.size)⟩
     ·rw[← H5.out.2.2];exact bQ (aB oT uF (fun q hq e=>by have:=(oT.lt q hq).1;omega)) (fun q hq=>by have:=(oT.lt q hq).1;omega)
     ·rw[← H6.out.2.2.2.1];exact bQ (aB oE uF (fun q hq e=>by have:=(oE.lt q hq).1;omega)) (fun q hq=>by have:=(oE.lt q hq).1;omega)
    have FIN:=hIz post;clear post kF uF fin hcp hcg oT oE k8 k9 bb bw b8;go_wp2;refine bodyPost_ret (v:=.tuple #[cP A6 M.length c6 A7 F.length c7,.int .i64 0]) (by simp[results,Tryz.f117,go_sem,cP,e0,e1]) rfl FIN.out
   ·obtain⟨-,kF,uF⟩:=fin (.slice none 0 0) (.slice none 0 0);have e0:=kF.cell 0;have e1:=kF.cell 1;simp only[List.getElem?_toArray,List.getElem?_cons_succ,List.getElem?_cons_zero] at e0 e1
    have post:IT w N E (.returned (.tuple #[cP none 0 0 none 0 0,.int .i64 cp])) ((w8.setCell ⟨w.heap.size,0,none⟩ (.slice none 0 0)).setCell ⟨w.heap.size,1,none⟩ (.slice none 0 0)):=
     .inr ⟨by rw[hcg];exact h0,by rw[hcg],bw.trans (uF.below (fun q _ e=>by omega) bw.size)⟩
    have FIN:=hIz post;have hne:(cp==0)=false:=by simpa using h0
    have hne2:(cp != 0)=true:=by simpa using h0
    clear post kF uF fin hcp hcg oT oE k8 k9 bb bw b8 h0;go_wp2;refine bodyPost_ret (v:=.tuple #[cP none 0 0 none 0 0,.int .i64 cp]) (by simp[results,Tryz.f117,go_sem,cP,e0,e1]) rfl FIN.out
open Go.Shelf
def tP:Go.Shelf.Ren:=⟨fun | 4=>118 | n=>n,fun | 0=>0 | 3=>3 | 4=>4 | 9=>9 | 20=>20 | 22=>25 | 25=>9 | n=>n,fun n=>n⟩
theorem QY:Lays8.n4 Tryz.prog tP:={
 mixed:=(by kernel_rfl)
 f4:=⟨Tryz.f118.name,by decide,Tryz.func118.trans (congrArg some (by kernel_rfl))⟩
 t0:=Tryz.underlying0
 a0:=Tryz.isAgg0
 z0:=Tryz.sizeOf0
 v0:=Tryz.zeroValue0
 t3:=Tryz.underlying3
 a3:=Tryz.isAgg3
 z3:=Tryz.sizeOf3
 v3:=Tryz.zeroValue3
 t4:=Tryz.underlying4
 a4:=Tryz.isAgg4
 z4:=Tryz.sizeOf4
 v4:=Tryz.zeroValue4
 t9:=Tryz.underlying9
 a9:=Tryz.isAgg9
 z9:=Tryz.sizeOf9
 v9:=Tryz.zeroValue9
 t20:=Tryz.underlying20
 a20:=Tryz.isAgg20
 z20:=Tryz.sizeOf20
 v20:=Tryz.zeroValue20
 t22:=Tryz.underlying25
 a22:=Tryz.isAgg25
 z22:=Tryz.sizeOf25
 v22:=Tryz.zeroValue25 }
def tQ:Go.Shelf.Ren:=⟨fun | 4=>119 | n=>n,fun | 0=>0 | 3=>3 | 4=>4 | 9=>9 | 20=>20 | 22=>26 | 25=>88 | n=>n,fun n=>n⟩
theorem QZ:Lays8.n4 Tryz.prog tQ:={
 mixed:=(by kernel_rfl)
 f4:=⟨Tryz.f119.name,by decide,Tryz.func119.trans (congrArg some (by kernel_rfl))⟩
 t0:=Tryz.underlying0
 a0:=Tryz.isAgg0
 z0:=Tryz.sizeOf0
 v0:=Tryz.zeroValue0
 t3:=Tryz.underlying3
 a3:=Tryz.isAgg3
 z3:=Tryz.sizeOf3
 v3:=Tryz.zeroValue3
 t4:=Tryz.underlying4
 a4:=Tryz.isAgg4
 z4:=Tryz.sizeOf4
 v4:=Tryz.zeroValue4
 t9:=Tryz.underlying9
 a9:=Tryz.isAgg9
 z9:=Tryz.sizeOf9
 v9:=Tryz.zeroValue9
 t20:=Tryz.underlying20
 a20:=Tryz.isAgg20
 z20:=Tryz.sizeOf20
 v20:=Tryz.zeroValue20
 t22:=Tryz.underlying26
 a22:=Tryz.isAgg26
 z22:=Tryz.sizeOf26
 v22:=Tryz.zeroValue26 }
end Go.Proofs.YteffnejneoocgaaGreatDoor
