/- Edges: a list of texts in order, each once; The library's contracts laid at this program: which function, which type bears which number; Edges: the labels of a graph; Edges: the labels of a graph, each once, rising; what is too many; Edges: what is too many; may a graph be?; The library's contracts laid at this program: which function, which type bears which number; Edges: a list of edges in order, each once; Edges: slices.Compact at edges; Edges: edges in order, each once; two graphs that are the same; Edges: the graph of nodes and edges in any order; The library's contracts laid at this program: which function, which type bears which number. -/
import Derived.Test.YtnokckdkaifibaaGreatDoorO02
import Derived.Shelf.SortM.Plain
import Derived.Shelf.SortM.SortNone
import Derived.Test.YtnokckdkaifibaaGreatDoorProg
import Derived.Shelf.SlSortCmp.WholeK
import Derived.Shelf.SlSortCmp.NoneTotal
import Derived.Laws.CopyRow
import Derived.Shelf.Spec.SlicesGrow
set_option linter.unusedVariables false
set_option linter.unusedSimpArgs false
set_option maxHeartbeats 16000000
set_option maxRecDepth 100000
namespace Go.Proofs.YtnokckdkaifibaaGreatDoor
open Go.RowKit Go.Sort Go.Shelf
instance:Inhabited Txt:=⟨ByteArray.empty⟩
instance:Inhabited Ed:=⟨⟨default,default,default⟩⟩

section
variable {α:Type} [Inhabited α]
theorem JR(enc:α→Value)(cur:Array Value)(d:Array α)(h:d.size≤cur.size):(putCells enc 0 d cur).toList.take d.size=d.toList.map enc:=by
 apply List.ext_getElem?
 intro j;by_cases hj:j<d.size
 ·rw[List.getElem?_take_of_lt hj,Array.getElem?_toList];simp[putCells,hj,show j<cur.size by omega]
 ·rw[List.getElem?_take_eq_none (by omega),List.getElem?_eq_none (by simp;omega)]
theorem oK{enc:α→Value}{w:World}{base e size n g cap m:Nat}{os:Array Obj}{xs:List Value}(h:w.ownsRow base e size (.slice (some ⟨g,0,none⟩) n cap) n xs)(d:Array α)(hd:d.size=n*size) :
  (grow (putRow enc (Sort.ahead w m) g 0 d) os).ownsRow base e size (.slice (some ⟨g,0,none⟩) n cap) n (d.toList.map enc)∧Upd (fun q=>q=g) w (grow (putRow enc (Sort.ahead w m) g 0 d) os):=by
 rcases h.2 with ⟨hv,-⟩|⟨g',cap',cur,hv,hb,hg,h1,h2,h3,-⟩
 ·cases hv
 injection hv with hv _ hv3;injection hv with hv;injection hv with hv _ _;subst hv;subst hv3;have hlt:g<w.heap.size:=(Array.getElem?_eq_some_iff.1 hg).1;have hheap:(grow (putRow enc (Sort.ahead w m) g 0 d) os).heap[g]?=some (.cells (putCells enc 0 d cur) e (0,0)):=by
  rw[heap_grow_old _ _ (by simpa using hlt)];simp[putRow,mapBlock,Sort.ahead,Array.getElem?_modify,hg,onCells]
 refine⟨⟨by simp[hd],.inr ⟨g,cap,_,rfl,hb,hheap,h1,h2,by simp[putCells,h3],?_⟩⟩,rfl,rfl,rfl,by simp,fun k hk hne=>?_⟩
 ·have hle:d.size≤cur.size:=by rw[hd,h3];exact Nat.mul_le_mul_right _ h1
  have:=JR enc cur d hle;rw[hd] at this;exact this
 ·rw[heap_grow_old _ _ (by simpa using hk)];have:g≠k:=fun e=>hne e.symm
  simp[putRow,mapBlock,Sort.ahead,Array.getElem?_modify,this]
theorem jB{enc:α→Value}{w:World}{base e size n g cap:Nat}{d:Array α}(h:w.ownsRow base e size (.slice (some ⟨g,0,none⟩) n cap) n (d.toList.map enc)):Holds enc w g 0 d:=by
 intro j hj;rcases h.2 with ⟨hv,-⟩|⟨g',cap',cur,hv,hb,hg,h1,h2,h3,h4⟩
 ·cases hv
 injection hv with hv _ hv3;injection hv with hv;injection hv with hv _ _;subst hv;have hc:=h.cells (g:=g) rfl j (enc d[j]!) (by simp[hj]);rw[Addr.add_lit] at hc;exact⟨by simpa using hc,by simp[World.frozen?,hg]⟩
end
section
variable {α:Type} [Inhabited α] [DecidableEq α]
theorem oL{lt:α→α→Bool}(hs:Sto lt)(d:Array α)(hd:∀i j,i<j→j<d.size→lt d[j]! d[i]! = false):∀m,m≤d.size→eO lt (Lib.compactUpTo d m)∧∀x,x∈Lib.compactUpTo d m↔∃j,j<m∧d[j]! = x
 | 0,_=>⟨by simp[Lib.compactUpTo,eO],fun x=>by simp[Lib.compactUpTo]⟩
 | m+1,hm=>by
  obtain⟨h1,h2⟩:=oL hs d hd m (by omega);rw[Lib.compactUpTo_succ];by_cases hk:Lib.keeps d m=true
  ·rw[if_pos hk];refine⟨List.pairwise_append.2 ⟨h1,List.pairwise_singleton _ _,fun a ha b hb=>?_⟩,fun x=>?_⟩
   ·obtain rfl:=List.mem_singleton.1 hb;obtain⟨j,hj,rfl⟩:=(h2 a).1 ha;have hne:d[m]! ≠ d[m-1]!:=by
     unfold Lib.keeps at hk;rcases of_decide_eq_true hk with e|e
     ·omega
     ·exact e
    have h3:lt d[m-1]! d[m]! = true:=by
     cases e:lt d[m-1]! d[m]!
     ·exact(hne (hs.tri _ _ (hd (m-1) m (by omega) (by omega)) e)).elim
     ·rfl
    by_cases e:j=m-1
    ·rw[e];exact h3
    ·have h4:=hd j (m-1) (by omega) (by omega);cases e5:lt d[j]! d[m-1]!
     ·rw[hs.tri _ _ e5 h4];exact h3
     ·exact hs.tr _ _ _ e5 h3
   ·rw[List.mem_append,h2,List.mem_singleton];constructor
    ·rintro (⟨j,hj,rfl⟩|rfl)
     ·exact⟨j,by omega,rfl⟩
     ·exact⟨m,by omega,rfl⟩
    ·rintro⟨j,hj,rfl⟩;by_cases e:j=m
     ·subst e;exact .inr rfl
     ·exact .inl ⟨j,by omega,rfl⟩
  ·rw[if_neg hk,List.append_nil];refine⟨h1,fun x=>?_⟩;rw[h2];have he:m≠0∧d[m]! = d[m-1]!:=by
    unfold Lib.keeps at hk;simpa using hk
   constructor
   ·rintro⟨j,hj,rfl⟩;exact⟨j,by omega,rfl⟩
   ·rintro⟨j,hj,rfl⟩;by_cases e:j=m
    ·subst e;exact⟨j-1,by omega,he.2.symm⟩
    ·exact⟨j,by omega,rfl⟩
theorem lK{lt:α→α→Bool}(hs:Sto lt){l:List α}(d:Array α)(hp:d.toList.Perm l)(hd:∀i j,i<j→j<d.size→lt d[j]! d[i]! = false):iS lt l (Lib.compactUpTo d d.size):=by
 obtain⟨h1,h2⟩:=oL hs d hd d.size (Nat.le_refl _);refine⟨h1,fun x=>?_⟩;rw[h2,← hp.mem_iff];constructor
 ·rintro⟨j,hj,rfl⟩;rw[getElem!_pos d j hj];exact Array.mem_toList_iff.2 (Array.getElem_mem hj)
 ·intro hx;obtain⟨j,hj,rfl⟩:=List.getElem_of_mem hx;exact⟨j,by simpa using hj,by rw[getElem!_pos d j (by simpa using hj)];simp⟩
theorem qO(d:Array α)(m:Nat):(Lib.compactUpTo d m).length≤m:=by
 unfold Lib.compactUpTo;rw[List.length_map];exact Nat.le_trans (List.length_filter_le _ _) (by simp)
end
def NJ(w:World)(L:List Ed)(e:Ending)(w':World):Prop:=∃v,e=.returned v∧w'.ownsRow w.heap.size 23 3 v L.length (aT L)∧Below w.heap.size w w'

theorem eP(w:World)(A:Option Addr)(c:Nat)(L:List Txt)(h:bO w A (aG L))(hl:L.length*16≤140737488355328) :
  Calls Tryz.prog 33 #[.slice A L.length c] w (CP w L):=by
 have heq:=fun (A:Option Addr) (n c n' c':Nat) (w:World)=>Lib.run_eql_slice_nil (P:=Tryz.prog) w 34 9 A n c n' c' Tryz.underlying34
 rcases A with _|⟨gb,go,sp⟩
 ·have hL:L=[]:=by
   cases L with
   | nil=>rfl
   | cons s L=>obtain⟨b,o,e,-⟩:=h 0 (.string s) rfl;cases e
  subst hL;clear h hl;go_enter Tryz.func33,Tryz.ntmps33;go_wp2;go_ret;exact⟨_,rfl,World.ownsRow_nil _ _ _ _,Below.refl _ _⟩
 ·obtain⟨i0,hi0,hz0,hz1,hz2⟩:=info_parts dE;have b1:Below w.heap.size w (w.alloc (.cells #[] 9)):=bR.alloc (Nat.le_refl _) _;have hr:=(h.below b1).reads (gD L) (by decide);have own:(w.alloc (.cells #[] 9)).ownsRow w.heap.size 9 1 (.slice (some ⟨w.heap.size,0,none⟩) 0 0) 0 []:=⟨rfl,.inr ⟨w.heap.size,0,#[],rfl,Nat.le_refl _,heap_alloc_new w _,Nat.le_refl _,by decide,rfl,rfl⟩⟩;obtain⟨v',w',happ,own',gr,-,-⟩:=run_append_own_at (P:=Tryz.prog) (w.alloc (.cells #[] 9)) w.heap.size 34 34 9 i0 _ 1 16 Tryz.underlying34 hi0 hz0 hz1 hz2 rfl (by decide) (.slice (some ⟨w.heap.size,0,none⟩) 0 0) 0 [] own ⟨gb,go,sp⟩ L.length c (aG L) (gD L) (hr.2.2 _ rfl) (wM L) (by unfold maxLen;omega) (by omega) (by simp);have fin:CP w L (.returned v') w':=⟨v',rfl,by simpa using own',b1.grown gr (by simp) (fun k hk=>by simp[Value.ownBlock] at hk;omega)⟩;have FIN:=hIz fin;clear fin own own' gr hr b1 hi0 hz0 hz1 hz2 h;go_enter Tryz.func33,Tryz.ntmps33;go_wp2_with (at_builtin;refine wpList_append_run rfl _ _ _ rfl rfl rfl happ ?_);go_ret;exact FIN.out

theorem rO(w:World)(A:Option Addr)(c:Nat)(L:List Ed)(h:bO w A (aT L))(hl:L.length*48≤140737488355328) :
  Calls Tryz.prog 224 #[.slice A L.length c] w (NJ w L):=by
 have heq:=fun (A:Option Addr) (n c n' c':Nat) (w:World)=>Lib.run_eql_slice_nil (P:=Tryz.prog) w 40 23 A n c n' c' Tryz.underlying40
 rcases A with _|⟨gb,go,sp⟩
 ·have hL:L=[]:=by
   cases L with
   | nil=>rfl
   | cons s L=>obtain⟨b,o,e,-⟩:=h 0 (.string s.fr) rfl;cases e
  subst hL;clear h hl;go_enter Tryz.func224,Tryz.ntmps224;go_wp2;go_ret;exact⟨_,rfl,World.ownsRow_nil _ _ _ _,Below.refl _ _⟩
 ·obtain⟨i0,hi0,hz0,hz1,hz2⟩:=info_parts iX;have b1:Below w.heap.size w (w.alloc (.cells #[] 23)):=bR.alloc (Nat.le_refl _) _;have hr:=(h.below b1).reads (dG L) (by decide);have own:(w.alloc (.cells #[] 23)).ownsRow w.heap.size 23 3 (.slice (some ⟨w.heap.size,0,none⟩) 0 0) 0 []:=⟨rfl,.inr ⟨w.heap.size,0,#[],rfl,Nat.le_refl _,heap_alloc_new w _,Nat.le_refl _,by decide,rfl,rfl⟩⟩;obtain⟨v',w',happ,own',gr,-,-⟩:=run_append_own_at (P:=Tryz.prog) (w.alloc (.cells #[] 23)) w.heap.size 40 40 23 i0 _ 3 48 Tryz.underlying40 hi0 hz0 hz1 hz2 rfl (by decide) (.slice (some ⟨w.heap.size,0,none⟩) 0 0) 0 [] own ⟨gb,go,sp⟩ L.length c (aT L) (dG L) (hr.2.2 _ rfl) (CZ L) (by unfold maxLen;omega) (by omega) (by simp);have fin:NJ w L (.returned v') w':=⟨v',rfl,by simpa using own',b1.grown gr (by simp) (fun k hk=>by simp[Value.ownBlock] at hk;omega)⟩;have FIN:=hIz fin;clear fin own own' gr hr b1 hi0 hz0 hz1 hz2 h;go_enter Tryz.func224,Tryz.ntmps224;go_wp2_with (at_builtin;refine wpList_append_run rfl _ _ _ rfl rfl rfl happ ?_);go_ret;exact FIN.out

theorem OM:SWO (ltOf lC):=by
 have h:∀x y,ltOf lC x y=ltT x y:=fun x y=>iZ x y
 refine⟨fun x=>by rw[h];exact gJ.irr x,fun x y z a b=>by rw[h] at *;exact gJ.tr x y z a b,fun x y z a b=>?_⟩;rw[h] at *;cases e:ltT x z
 ·rfl
 ·cases e2:ltT z y
  ·rw[gJ.tri _ _ b e2] at a;rw[a] at e;cases e
  ·have:=gJ.tr _ _ _ e e2;rw[a] at this;cases this
theorem RD:SWO (ltOf JB):=by
 have h:∀x y,ltOf JB x y=ltE x y:=fun x y=>wK x y
 refine⟨fun x=>by rw[h];exact qI.irr x,fun x y z a b=>by rw[h] at *;exact qI.tr x y z a b,fun x y z a b=>?_⟩;rw[h] at *;cases e:ltE x z
 ·rfl
 ·cases e2:ltE z y
  ·rw[qI.tri _ _ b e2] at a;rw[a] at e;cases e
  ·have:=qI.tr _ _ _ e e2;rw[a] at this;cases this
structure oM{α:Type}[Inhabited α](lt:α→α→Bool)(L:List α)(d:Array α):Prop where
 n:d.size=L.length
 p:d.toList.Perm L
 s:∀i j,i<j→j<d.size→lt d[j]! d[i]! = false
theorem oM.of{α:Type}[Inhabited α]{lt:α→α→Bool}{L:List α}{d':Array α}(hp:PermIn 0 L.toArray.size L.toArray d')(hs:SortedIn lt 0 L.toArray.size d'):oM lt L d':=by
 have hz:d'.size=L.length:=by rw[hp.1];simp
 refine⟨hz,?_,fun i j hij hj=>hs i j (Nat.zero_le _) hij (by rw[hz] at hj;simpa using hj)⟩;have:=hp.2.2;simp at this
 rw[List.take_of_length_le (by simp[hz])] at this;exact this
theorem DI(w:World)(base g cap:Nat)(L:List Txt)(h:w.ownsRow base 9 1 (.slice (some ⟨g,0,none⟩) L.length cap) L.length (aG L))(hl:L.length≤140737488355328) :
  Calls Tryz.prog 223 #[.slice (some ⟨g,0,none⟩) L.length cap,.func (.func 110) #[] #[]] w fun e w'=>e=.returned (.tuple #[])∧∃d:Array Txt,oM ltT L d∧w'.ownsRow base 9 1 (.slice (some ⟨g,0,none⟩) L.length cap) L.length (d.toList.map Value.string)∧Upd (fun q=>q=g) w w':=by
 have eg:∀args w,(callFunc 110 args).run Tryz.prog w=.ok (.enter 110 args) w:=enters_of Tryz.func110 (by kernel_rfl) rfl;have hcmp:CmpLays1 Tryz.prog 110 #[] Value.string lC g 0 L.toArray.size w:=fun m os dk _ x y=>(eD x y _).mono fun e w' hh=>⟨hh.1,0,#[],by rw[hh.2,grow_empty];rfl⟩
 have hH:Holds Value.string w g 0 L.toArray:=jB (by simpa[aG] using h);have hg:=(h.lt g rfl).2;have hcon:=Any.slices_SortFunc TW Value.string (fun _=>rfl) lC OM 110 #[] g 0 cap L.toArray w eg hcmp hH hg (by simp;omega);change Calls Tryz.prog 223 _ _ _ at hcon
 rw[show L.toArray.size=L.length from by simp] at hcon;refine hcon.mono ?_;rintro e w' ⟨rfl,d',n,os,hp,hs,rfl⟩;have hlt:ltOf lC=ltT:=by funext x y;exact iZ x y
 rw[hlt] at hs;have ho:=oM.of (L:=L) (by simpa using hp) (by simpa using hs);have key:=oK (enc:=Value.string) (m:=n) (os:=os) h d' (by rw[ho.n];omega);exact⟨rfl,d',ho,key.1,key.2⟩

theorem DJ(x y:Txt):(x.toList==y.toList)=decide (x=y):=by
 rw[ByteArray.toList_eq,ByteArray.toList_eq];by_cases h:x=y
 ·subst h;simp
 ·rw[decide_eq_false h];simpa using fun e=>h (rL (by simpa using congrArg Array.toList e))
theorem bO.pre{w:World}{A:Option Addr}{xs ys:List Value}(h:bO w A (xs++ys)):bO w A xs:=fun j u hj=>h j u (by rw[List.getElem?_append_left (gO.1 hj).1];exact hj)
theorem oN(w:World)(base g cap n:Nat)(L:List Txt)(d:Array Txt)(ho:oM ltT L d)(hn:L.length=n)(h:w.ownsRow base 9 1 (.slice (some ⟨g,0,none⟩) n cap) n (d.toList.map Value.string))(hl:n≤140737488355328) :
  Calls Tryz.prog 192 #[.slice (some ⟨g,0,none⟩) n cap] w fun e w'=>∃M,iS ltT L M∧M.length≤L.length∧e=.returned (.slice (some ⟨g,0,none⟩) M.length cap)∧bO w' (some ⟨g,0,none⟩) (aG M)∧Upd (fun q=>q=g) w w':=by
 have hH:Holds Value.string w g 0 d:=jB h;have hsz:d.size=n:=by rw[ho.n,hn]
 obtain⟨_,_,e1,hcap,-⟩:=aH h;injection e1 with _ _ e1;subst e1;have heq:EqlAt Tryz.prog 9 Value.string (fun x y=>decide (x=y)):=by
  have:=EqlAt.string Tryz.prog 9;simpa only [DJ] using this
 have hne:NeqAt Tryz.prog 9 Value.string (fun x y=>decide (x=y)):=by
  have:=NeqAt.string Tryz.prog 9;simpa only [DJ] using this
 have hcon:=AnyE.slices_Compact JQ Value.string (fun _=>rfl) heq hne ByteArray.empty (fun _=>by kernel_rfl) g 0 cap d w hH (by omega) (by omega);change Calls Tryz.prog 192 _ _ _ at hcon
 rw[hsz] at hcon;refine hcon.mono ?_;rintro e w' ⟨rfl,q,rfl⟩;have hset:=lK gJ d ho.p ho.s;have hle:=qO d d.size;rw[hsz] at hset hle;have key:=oK (enc:=Value.string) (m:=q) (os:=#[]) h (Lib.compactUpTo d n++List.replicate (n-(Lib.compactUpTo d n).length) ByteArray.empty).toArray (by simp;omega);rw[grow_empty] at key;refine⟨_,hset,by omega,rfl,?_,key.2⟩;have hr:=bO.of_own key.1;simp only[List.map_append] at hr
 exact hr.pre
theorem nG(w:World)(p:Option Addr)(cap:Nat):Calls Tryz.prog 192 #[.slice p 0 cap] w (nE w (.slice p 0 cap)):=by
 go_enter Tryz.func192,Tryz.ntmps192;go_wp2;go_ret;exact⟨rfl,rfl⟩
theorem CP.base{w w0:World}{M:List Txt}{e:Ending}{w':World}(h:CP w M e w')(hb:Below w0.heap.size w0 w):CP w0 M e w':=by
 obtain⟨v,rfl,own,b⟩:=h;exact⟨v,rfl,bC own (fun q hq=>Nat.le_trans hb.size (own.lt q hq).1),tHn hb b⟩
def QU(w:World)(L:List Txt)(e:Ending)(w':World):Prop:=∃M,iS ltT L M∧M.length≤L.length∧CP w M e w'

theorem AH(w:World)(A:Option Addr)(c:Nat)(L:List Txt)(h:bO w A (aG L))(hl:L.length*16≤140737488355328) :
  Calls Tryz.prog 186 #[.slice A L.length c,.func (.func 110) #[] #[]] w (QU w L):=by
 have HH:=hIz h;clear h;go_enter Tryz.func186,Tryz.ntmps186;go_wp2_with fail;refine(eP w A c L HH.out hl).mono ?_;rintro e w1 ⟨v,rfl,own1,b1⟩;obtain⟨A1,c1,rfl,hc1,hA1⟩:=aH own1;by_cases h0:L.length=0
 ·obtain rfl:L=[]:=List.eq_nil_of_length_eq_zero h0;have HB:=hIz b1;clear own1 b1 h0 hl hc1 hA1;have hs0:=AnyF.slices_SortFunc_none RC A1 c1 (.func (.func 110) #[] #[]) w1;change Calls Tryz.prog 223 _ _ _ at hs0
  have HS0:=hIz hs0;clear hs0;go_wp2_with fail;refine HS0.out.mono ?_;rintro e w2 ⟨rfl,rfl⟩;go_wp2_with fail;refine(nG _ _ _).mono ?_;rintro e w2 ⟨rfl,rfl⟩;go_wp2_with fail;refine(eP _ A1 c1 [] (fun j u hj=>by simp[aG] at hj) (by simp)).mono ?_;intro e w3 hn;have hn':=hn.base HB.out;obtain⟨v3,rfl,own3,b3⟩:=hn';have FIN:=hIz (show QU w [] (.returned v3) w3 from⟨[],iS.self (lt:=ltT) .nil,Nat.le_refl _,v3,rfl,own3,b3⟩);clear hn own3 b3;go_wp2;go_ret;exact FIN.out
 ·obtain⟨g,rfl⟩:∃g,A1=some ⟨g,0,none⟩:=by
   rcases own1.2 with ⟨-,h2⟩|⟨g,cap,cur,hv,-⟩
   ·exact(h0 h2).elim
   ·injection hv with hv;exact⟨g,hv⟩
  obtain⟨n,hn⟩:∃n,L.length=n:=⟨_,rfl⟩;have hs:=DI w1 w.heap.size g c1 L own1 (by omega);rw[hn] at hs ⊢;have hgb:=(own1.lt g rfl).1;have HB:=aI3 b1 hs hn;clear own1 b1 h0 hc1 hA1 hs hn;go_wp2_with fail;refine HB.out.2.1.mono ?_;rintro e w2 ⟨rfl,dd,ho,own2,u2⟩;have H2:=aI3 ho own2 (HB.out.1.trans (u2.below (fun q _ e=>by omega) HB.out.1.size));clear ho own2 u2;go_wp2_with fail;refine(oN w2 w.heap.size g c1 n L dd H2.out.1 HB.out.2.2 H2.out.2.1 (by have:=HB.out.2.2;omega)).mono ?_;rintro e w3 ⟨M,hM,hlen,rfl,hr3,u3⟩;have H3:=aI4 hM hlen hr3 (H2.out.2.2.trans (u3.below (fun q _ e=>by omega) H2.out.2.2.size));have hml:M.length*16≤140737488355328:=by omega
  clear hM hlen hr3 u3;obtain⟨k,hk⟩:∃k,M.length=k:=⟨_,rfl⟩;have hcl:=eP w3 (some ⟨g,0,none⟩) c1 M H3.out.2.2.1 hml;rw[hk] at hcl ⊢;have HCL:=hIz hcl;clear hcl hk hml;go_wp2_with fail;refine HCL.out.mono ?_;intro e w4 hn;have hn':=hn.base H3.out.2.2.2;obtain⟨v4,rfl,own4,b4⟩:=hn';have FIN:=hIz (show QU w L (.returned v4) w4 from⟨M,H3.out.1,H3.out.2.1,v4,rfl,own4,b4⟩);clear hn own4 b4;go_wp2;go_ret;exact FIN.out
open Go.Shelf
def DK:Go.Shelf.Ren:=⟨fun | 0=>0 | 1=>1 | 2=>2 | 6=>191 | 8=>144 | 9=>228 | 19=>184 | 20=>185 | 21=>239 | 22=>240 | 23=>241 | 24=>242 | 25=>243 | 26=>244 | 27=>245 | 28=>246 | 29=>247 | 31=>219 | 32=>220 | 36=>267 | 37=>268 | 38=>269 | 39=>270 | 41=>277 | 42=>280 | 43=>281 | 44=>282 | 45=>283 | 46=>284 | 47=>285 | 48=>286 | 49=>287 | 50=>288 | 51=>289 | 52=>290 | 53=>291 | 54=>292 | 55=>294 | 56=>295 | 57=>303 | n=>n,fun | 0=>0 | 1=>1 | 2=>2 | 3=>3 | 4=>4 | 5=>5 | 6=>6 | 7=>7 | 8=>8 | 9=>9 | 10=>10 | 11=>11 | 12=>12 | 13=>13 | 14=>14 | 15=>15 | 16=>16 | 17=>17 | 18=>18 | 19=>19 | 20=>20 | 21=>21 | 26=>34 | 27=>34 | 28=>261 | 29=>9 | 31=>220 | 32=>197 | 33=>301 | 35=>251 | 36=>252 | 41=>141 | 43=>257 | 44=>258 | 45=>247 | 46=>166 | 47=>312 | 48=>313 | 49=>314 | 50=>315 | 51=>316 | 52=>317 | 53=>292 | 54=>293 | 55=>294 | 57=>296 | 60=>332 | 61=>333 | 62=>206 | 63=>308 | 64=>94 | 66=>338 | 67=>270 | 68=>341 | 69=>342 | 70=>343 | 71=>344 | 72=>345 | 73=>58 | 74=>346 | 75=>347 | 76=>348 | 77=>302 | 78=>349 | 79=>350 | 80=>351 | 81=>352 | 82=>318 | n=>n,fun n=>n⟩
theorem RE:SlLaysM.n6 Tryz.prog DK:={
 mixed:=(by kernel_rfl)
 f6:=⟨Tryz.f191.name,by decide,Tryz.func191.trans (congrArg some (by kernel_rfl))⟩
 f8:=Tryz.func144.trans (congrArg some (by kernel_rfl))
 f9:=⟨Tryz.f228.name,by decide,Tryz.func228.trans (congrArg some (by kernel_rfl))⟩
 f19:=Tryz.func184.trans (congrArg some (by kernel_rfl))
 f20:=Tryz.func185.trans (congrArg some (by kernel_rfl))
 f21:=⟨Tryz.f239.name,by decide,Tryz.func239.trans (congrArg some (by kernel_rfl))⟩
 f22:=⟨Tryz.f240.name,by decide,Tryz.func240.trans (congrArg some (by kernel_rfl))⟩
 f23:=⟨Tryz.f241.name,by decide,Tryz.func241.trans (congrArg some (by kernel_rfl))⟩
 f24:=⟨Tryz.f242.name,by decide,Tryz.func242.trans (congrArg some (by kernel_rfl))⟩
 f25:=⟨Tryz.f243.name,by decide,Tryz.func243.trans (congrArg some (by kernel_rfl))⟩
 f26:=⟨Tryz.f244.name,by decide,Tryz.func244.trans (congrArg some (by kernel_rfl))⟩
 f27:=⟨Tryz.f245.name,by decide,Tryz.func245.trans (congrArg some (by kernel_rfl))⟩
 f28:=⟨Tryz.f246.name,by decide,Tryz.func246.trans (congrArg some (by kernel_rfl))⟩
 f29:=⟨Tryz.f247.name,by decide,Tryz.func247.trans (congrArg some (by kernel_rfl))⟩
 f31:=Tryz.func219.trans (congrArg some (by kernel_rfl))
 f32:=Tryz.func220.trans (congrArg some (by kernel_rfl))
 f36:=⟨Tryz.f267.name,by decide,Tryz.func267.trans (congrArg some (by kernel_rfl))⟩
 f37:=⟨Tryz.f268.name,by decide,Tryz.func268.trans (congrArg some (by kernel_rfl))⟩
 f38:=⟨Tryz.f269.name,by decide,Tryz.func269.trans (congrArg some (by kernel_rfl))⟩
 f39:=⟨Tryz.f270.name,by decide,Tryz.func270.trans (congrArg some (by kernel_rfl))⟩
 f41:=⟨Tryz.f277.name,by decide,Tryz.func277.trans (congrArg some (by kernel_rfl))⟩
 t0:=Tryz.underlying0
 a0:=Tryz.isAgg0
 z0:=Tryz.sizeOf0
 v0:=Tryz.zeroValue0
 t3:=Tryz.underlying3
 a3:=Tryz.isAgg3
 z3:=Tryz.sizeOf3
 v3:=Tryz.zeroValue3
 t4:=Tryz.underlying4
 a4:=Tryz.isAgg4
 z4:=Tryz.sizeOf4
 v4:=Tryz.zeroValue4
 t5:=Tryz.underlying5
 a5:=Tryz.isAgg5
 z5:=Tryz.sizeOf5
 v5:=Tryz.zeroValue5
 t9:=Tryz.underlying9
 a9:=Tryz.isAgg9
 z9:=Tryz.sizeOf9
 v9:=Tryz.zeroValue9
 t26:=Tryz.underlying34
 a26:=Tryz.isAgg34
 z26:=Tryz.sizeOf34
 v26:=Tryz.zeroValue34
 t27:=Tryz.underlying34
 a27:=Tryz.isAgg34
 z27:=Tryz.sizeOf34
 v27:=Tryz.zeroValue34
 t29:=Tryz.underlying9
 a29:=Tryz.isAgg9
 z29:=Tryz.sizeOf9
 v29:=Tryz.zeroValue9
 t32:=Tryz.underlying197
 a32:=Tryz.isAgg197
 z32:=Tryz.sizeOf197
 v32:=Tryz.zeroValue197
 t35:=Tryz.underlying251
 a35:=Tryz.isAgg251
 z35:=Tryz.sizeOf251
 v35:=Tryz.zeroValue251
 t36:=Tryz.underlying252
 a36:=Tryz.isAgg252
 z36:=Tryz.sizeOf252
 v36:=Tryz.zeroValue252
 t41:=Tryz.underlying141
 a41:=Tryz.isAgg141
 z41:=Tryz.sizeOf141
 v41:=Tryz.zeroValue141
 t44:=Tryz.underlying258
 a44:=Tryz.isAgg258
 z44:=Tryz.sizeOf258
 v44:=Tryz.zeroValue258
 t46:=Tryz.underlying166
 a46:=Tryz.isAgg166
 z46:=Tryz.sizeOf166
 v46:=Tryz.zeroValue166
 t53:=Tryz.underlying292
 a53:=Tryz.isAgg292
 z53:=Tryz.sizeOf292
 v53:=Tryz.zeroValue292
 t57:=Tryz.underlying296
 a57:=Tryz.isAgg296
 z57:=Tryz.sizeOf296
 v57:=Tryz.zeroValue296
 t63:=Tryz.underlying308
 a63:=Tryz.isAgg308
 z63:=Tryz.sizeOf308
 v63:=Tryz.zeroValue308
 t64:=Tryz.underlying94
 a64:=Tryz.isAgg94
 z64:=Tryz.sizeOf94
 v64:=Tryz.zeroValue94 }
open Go.RowKit Go.Sort Go.Shelf
theorem VC:Sto Op.bytesLess:=by
 refine⟨lE,wJ,fun a b h k=>?_⟩;rcases fM a b with ⟨_,d⟩|⟨_,d⟩|⟨_,d⟩
 ·rw[h] at d;cases d
 ·exact d
 ·rw[k] at d;cases d
theorem DL:∀(a b:List UInt8),Op.bytesLess a b=true↔a<b
 | a,[]=>by cases a <;> simp[Op.bytesLess]
 | [],_::_=>by simp[Op.bytesLess]
 | x::a,y::b=>by
  rw[List.cons_lt_cons_iff,← DL a b];simp[Op.bytesLess]
theorem ON(a b:List UInt8):decide (a≤b)=!Op.bytesLess b a:=by
 have h:=DL b a;cases e:Op.bytesLess b a
 ·rw[e] at h;simp only[Bool.not_false,decide_eq_true_eq]
  exact List.not_lt.1 (fun k=>by have:=h.2 k;cases this)
 ·rw[e] at h;simp only[Bool.not_true,decide_eq_false_iff_not]
  exact fun k=>List.not_le.2 (h.1 rfl) k
theorem Sto.le_trans{α:Type}{lt:α→α→Bool}(hs:Sto lt)(a b c:α)(h:(!lt b a)=true)(k:(!lt c b)=true):(!lt c a)=true:=by
 simp only[Bool.not_eq_true'] at *
 cases e:lt c a
 ·rfl
 ·cases e2:lt a b
  ·rw[hs.tri _ _ e2 h] at e;rw[e] at k;cases k
  ·have:=hs.tr _ _ _ e e2;rw[this] at k;cases k
theorem Sto.le_total{α:Type}{lt:α→α→Bool}(hs:Sto lt)(a b:α):(!lt b a||!lt a b)=true:=by
 cases e:lt b a
 ·rfl
 ·rw[hs.asym e];rfl

theorem JS(w:World)(base g cap:Nat)(L:List Txt)(h:w.ownsRow base 9 1 (.slice (some ⟨g,0,none⟩) L.length cap) L.length (aG L))(hl:L.length≤140737488355328) :
  Calls Tryz.prog 191 #[.slice (some ⟨g,0,none⟩) L.length cap] w fun e w'=>e=.returned (.tuple #[])∧∃d:Array Txt,oM ltT L d∧w'.ownsRow base 9 1 (.slice (some ⟨g,0,none⟩) L.length cap) L.length (d.toList.map Value.string)∧Upd (fun q=>q=g) w w':=by
 obtain⟨ss,hss⟩:∃ss,L.map (fun s=>s.data.toList)=ss:=⟨_,rfl⟩;have hlen:ss.length=L.length:=by rw[← hss];simp
 have hcell:aG L=ss.toArray.toList.map encStr:=by rw[← hss,aG];simp[encStr]
 rw[hcell] at h;have hH:Holds encStr w g 0 ss.toArray:=jB h;have hg:=(h.lt g rfl).2;have hcon:=AnyM.slices_Sort_string RE g 0 cap ss w hH hg (by omega);change Calls Tryz.prog 191 _ _ _ at hcon
 rw[hlen] at hcon;refine hcon.mono ?_;rintro e w' ⟨rfl,n,os,rfl⟩;have hfun:(fun x y:List UInt8=>decide (x≤y))=fun x y=>!Op.bytesLess y x:=by funext x y;exact ON x y
 rw[hfun];obtain⟨ts,hts⟩:∃ts,(ss.mergeSort fun x y=>!Op.bytesLess y x)=ts:=⟨_,rfl⟩;rw[hts];have hperm:ts.Perm ss:=by rw[← hts];exact List.mergeSort_perm _ _
 have hsort:ts.Pairwise fun a b=>(!Op.bytesLess b a)=true:=by rw[← hts];exact List.pairwise_mergeSort (fun a b c=>VC.le_trans a b c) (fun a b=>VC.le_total a b) ss
 have key:=oK (enc:=encStr) (m:=n) (os:=os) h ts.toArray (by simp[hperm.length_eq,hlen]);refine⟨rfl,(ts.map uA).toArray,⟨by simp[hperm.length_eq,hlen],?_,fun i j hij hj=>?_⟩,?_,key.2⟩
 ·have h1:(ts.map uA).Perm (ss.map uA):=hperm.map uA;rw[← hss] at h1;simp only[List.map_map] at h1
  have h2:(uA ∘ fun s:Txt=>s.data.toList)=id:=by funext s;exact zZ s
  rw[h2,List.map_id] at h1;exact h1
 ·simp only[List.size_toArray,List.length_map] at hj
  rw[getElem!_pos _ j (by simpa using hj),getElem!_pos _ i (by simp;omega)];simp only[List.getElem_toArray,List.getElem_map]
  have:=List.pairwise_iff_getElem.1 hsort i j (by omega) hj hij;unfold ltT;rw[gC,gC];simpa[uA] using this
 ·have:=key.1;simp only[List.map_map]
  have h2:(Value.string ∘ uA)=encStr:=by funext l;rfl
  rw[h2];exact this
theorem DM(w:World)(p:Option Addr)(cap:Nat):Calls Tryz.prog 191 #[.slice p 0 cap] w (fun e w'=>e=.returned (.tuple #[])∧w'=w):=by
 have hcon:=AnyM.slices_Sort_string_none RE p cap w;change Calls Tryz.prog 191 _ _ _ at hcon
 exact hcon

theorem DN(w:World)(base:Nat)(v:Value)(L:List Txt)(own:w.ownsRow base 9 1 v L.length (aG L))(s:Txt)(hl:(L.length+1)*16≤140737488355328)(hb:base≤w.heap.size) :
  ∃v' w',(Builtin.append_ #[34,34] 34 #[v,.slice (some ⟨w.heap.size,0,none⟩) 1 1]).run Tryz.prog (w.alloc (.cells #[.string s] 9))=.ok v' w'∧w'.ownsRow base 9 1 v' (L++[s]).length (aG (L++[s]))∧Upd (fun k=>v.ownBlock=some k) w w'∧∀k,v'.ownBlock=some k→v.ownBlock=some k∨w.heap.size≤k:=by
 obtain⟨v',w',happ,own',up,hk⟩:=dB w base 34 9 1 16 _ Tryz.underlying34 dE rfl (by decide) v L.length _ own [.string s] 1 rfl (by simp;exact rfl) hl (by unfold maxLen;omega) hb;refine⟨v',w',happ,?_,up,hk⟩;rw[List.length_append,aG,List.map_append];exact own'
def lbs(E:List Ed):List Txt:=E.map fun x=>x.lb
def TX(w:World)(base b:Nat)(v:Value)(M:List Txt)(e:Ending)(w':World):Prop:=e=.returned (.tuple #[])∧∃v',Blk w' b 34 #[v']∧w'.ownsRow base 9 1 v' M.length (aG M)∧v'.ownBlock≠some b∧Upd (fun q=>q=b∨v.ownBlock=some q) w w'
theorem JT(w:World)(base b:Nat)(v:Value)(L:List Txt)(x:Ed)(hb:Blk w b 34 #[v])(own:w.ownsRow base 9 1 v L.length (aG L))(hne:v.ownBlock≠some b)(hl:(L.length+1)*16≤140737488355328)(hbase:base≤w.heap.size) :
  Calls Tryz.prog 190 #[x.agg,.pointer (some ⟨b,0,none⟩)] w (TX w base b v (L++[x.lb])):=by
 obtain⟨x0,x1,x2⟩:=x;obtain⟨A,c,rfl,-,-⟩:=aH own;have kx:=Blk.new w 23 #[.string x0,.string x1,.string x2];have kb:=hb.alloc (.cells #[.string x0,.string x1,.string x2] 23);have ow:=own.alloc (.cells #[.string x0,.string x1,.string x2] 23);have ux:Upd (fun q=>q=b∨(Value.slice A L.length c).ownBlock=some q) w (w.alloc (.cells #[.string x0,.string x1,.string x2] 23)):=(Upd.refl _ w).alloc _;have hlt:=hb.lt;have H:=aI4 ow ux hne kb;have hz:(w.alloc (.cells #[.string x0,.string x1,.string x2] 23)).heap.size=w.heap.size+1:=by simp
 have c0:=kb.cell 0;have cx:=kx.cell 1;simp only[List.getElem?_toArray,List.getElem?_cons_zero,List.getElem?_cons_succ] at c0 cx
 clear hb own ow ux hne kx kb;unfold Ed.agg;go_enter Tryz.func190,Tryz.ntmps190;go_upto_region 1 with (fail);generalize w.alloc (.cells #[.string x0,.string x1,.string x2] 23)=W1 at H hz c0 cx ⊢;obtain⟨v',w6,happ,own6,u6,hv6⟩:=DN W1 base _ _ H.out.1 x1 hl (by omega);obtain⟨n,hn⟩:∃n,L.length=n:=⟨_,rfl⟩;have k6:=H.out.2.2.2.upd u6 (fun e=>H.out.2.2.1 e);have c6:=k6.cell 0;have f6:=k6.frozen 0;simp only[List.getElem?_toArray,List.getElem?_cons_zero] at c6
 have hne6:v'.ownBlock≠some b:=fun e=>by
  rcases hv6 b e with h|h
  ·exact H.out.2.2.1 h
  ·omega
 obtain⟨A6,c6',rfl,-,-⟩:=aH own6;have kF:=k6.set 0 (.slice A6 (L++[x1]).length c6');have uF:=((H.out.2.1.trans u6 (fun i e=>.inl (.inr e))).setCell (p:=⟨b,0,none⟩) (.inl (.inl rfl)) (.slice A6 (L++[x1]).length c6'));have oF:=aB own6 ((Upd.refl (fun q=>q=b) w6).setCell (p:=⟨b,0,none⟩) (.inl rfl) (.slice A6 (L++[x1]).length c6')) (fun k hk e=>hne6 (by rw[hk,e]));obtain⟨m,hm⟩:∃m,(L++[x1]).length=m:=⟨_,rfl⟩;have FIN:=aI5 kF oF hne6 uF hm;clear kF oF hne6 uF own6 u6 k6;rw[hn] at happ c0 c6;rw[hm] at happ;clear hn hm hz hv6;go_wp2_with (at_builtin;refine wpList_append_run rfl _ _ _ rfl rfl rfl happ ?_);go_end0
 rw[← FIN.out.2.2.2.2];exact⟨rfl,_,FIN.out.1,FIN.out.2.1,FIN.out.2.2.1,FIN.out.2.2.2.1⟩
open Go.RowKit Go.Sort Go.Shelf
theorem JU{E:List Ed}{k:Nat}{x:Ed}(h:E[k]?=some x):lbs (E.take (k+1))=lbs (E.take k)++[x.lb]:=by rw[fQ h];simp[lbs]
theorem wP(E:List Ed):(lbs E).length=E.length:=by simp[lbs]
structure VE(w1 wr:World)(b:Nat)(L:List Txt):Prop where
 ex:∃v,Blk wr b 34 #[v]∧wr.ownsRow w1.heap.size 9 1 v L.length (aG L)∧v.ownBlock≠some b
 u:Upd (fun q=>q=b) w1 wr

theorem AI(w:World)(A:Option Addr)(c:Nat)(B:Option Addr)(d:Nat)(N:List Txt)(E:List Ed)(h:qL w A c B d N E) :
  Calls Tryz.prog 154 #[dX A N.length c B E.length d] w (QU w (lbs E)):=by
 have k0:=(Blk.new w 52 #[.slice A N.length c,.slice B E.length d]).alloc (.cells #[.slice none 0 0] 34);have k1:=Blk.new (w.alloc (.cells #[.slice A N.length c,.slice B E.length d] 52)) 34 #[.slice none 0 0];simp only[World.size_alloc] at k1
 have u0:Below w.heap.size w ((w.alloc (.cells #[.slice A N.length c,.slice B E.length d] 52)).alloc (.cells #[.slice none 0 0] 34)):=by(repeat (first | exact Below.refl _ _ | apply Below.drew | refine Below.alloc ?_ (by first | exact Nat.le_refl _ | (simp;done) | (simp;omega)) _ | refine Below.setCell ?_ (by first | exact Nat.le_refl _ | (simp;done) | (simp;omega)) _))
 have hd:E.length*48≤140737488355328:=h.fit.e;have hz:((w.alloc (.cells #[.slice A N.length c,.slice B E.length d] 52)).alloc (.cells #[.slice none 0 0] 34)).heap.size=w.heap.size+2:=by simp
 have HB:=hIz (show ∀(j:Nat) (x:Ed),E[j]?=some x→∃b o,B=some ⟨b,o,none⟩∧b<w.heap.size from fun j x hx=>by obtain⟨b,o,e,y0,-⟩:=h.re.ed hx;exact⟨b,o,e,World.block_lt_of_cell? _ _ y0⟩);have H:=aI5 (h.below u0) k0 k1 u0 hz;clear h k0 k1 u0 hz;unfold dX;go_enter Tryz.func154,Tryz.ntmps154;go_upto_region 2 with (fail);generalize (w.alloc (.cells #[.slice A N.length c,.slice B E.length d] 52)).alloc (.cells #[.slice none 0 0] 34)=W1 at H ⊢;have q1:W1.cell? ⟨w.heap.size,1,none⟩=some (.slice B E.length d):=H.out.2.1.cell 1;have hz1:w.heap.size+2≤W1.heap.size:=Nat.le_of_eq H.out.2.2.2.2.symm;go_wp2_with fail;clear q1;go_loopw [6,11] (fun _ i wr=>∃k:Nat,k≤E.length∧i=.int .i64 k∧Hid (VE W1 wr (w.heap.size+1) (lbs (E.take k)))) (fun _ i _=>E.length-(intOf i).toNat)
 case atStart=>exact⟨0,Nat.zero_le _,rfl,hIz ⟨⟨_,H.out.2.2.1,World.ownsRow_nil _ _ _ _,by simp[Value.ownBlock]⟩,Upd.refl _ _⟩⟩
 case round =>
  obtain⟨k,hk,rfl,hi⟩:=hrel;by_cases hlt:k<E.length
  ·have hltI:(k:Int)<(E.length:Int):=by omega
   have hkw:IntKind.i64.wrap ((k:Int)+1)=(k:Int)+1:=IntWalk.i64_in _ (by omega);obtain⟨⟨s0,s1,s2⟩,hx⟩:∃x,E[k]?=some x:=⟨E[k],gEz _⟩;obtain⟨ab,ao,rfl,hab⟩:=HB.out k _ hx;obtain⟨ab',ao',e,y0,y1,y2⟩:=H.out.1.re.ed hx;injection e with e;injection e with e e2;subst e;subst e2;dsimp only at y0 y1 y2
   have cc:=fun i=>hi.out.u.cell (p:=⟨ab,i,none⟩) (by show ab<_;omega) (by show ¬ab=_;omega)
   have x0:=(cc _).trans y0;have x1:=(cc _).trans y1;have x2:=(cc _).trans y2;obtain⟨v,kv,ov,nv⟩:=hi.out.ex;have kx:=Blk.new wr 23 #[.string s0,.string s1,.string s2];have kv':=kv.alloc (.cells #[.string s0,.string s1,.string s2] 23);have ov':=ov.alloc (.cells #[.string s0,.string s1,.string s2] 23);have u':=hi.out.u.alloc (.cells #[.string s0,.string s1,.string s2] 23);have hsz:=hi.out.u.size;have hll:(lbs (E.take k)).length≤k:=by rw[wP,List.length_take];omega
   have hlt2:∀q,v.ownBlock=some q→W1.heap.size≤q:=fun q hq=>(ov.lt q hq).1
   have HX:=aI7 hx kx kv' ov' u' nv hlt2;have hzx:wr.heap.size≤(wr.alloc (.cells #[.string s0,.string s1,.string s2] 23)).heap.size:=by simp
   clear hx kx kv ov nv kv' ov' u' y0 y1 y2 cc hlt2;go_upto_region 6 with (fail);generalize wr.alloc (.cells #[.string s0,.string s1,.string s2] 23)=W5 at HX hzx ⊢;clear x0 x1 x2;have x0:W5.cell? ⟨wr.heap.size,0,none⟩=some (.string s0):=HX.out.2.1.cell 0;have x1:W5.cell? ⟨wr.heap.size,1,none⟩=some (.string s1):=HX.out.2.1.cell 1;have x2:W5.cell? ⟨wr.heap.size,2,none⟩=some (.string s2):=HX.out.2.1.cell 2;have HT:=hIz (JT W5 W1.heap.size (w.heap.size+1) v (lbs (E.take k)) ⟨s0,s1,s2⟩ HX.out.2.2.1 HX.out.2.2.2.1 HX.out.2.2.2.2.2.1 (by omega) (by omega));clear hll;go_wp2_with fail;refine HT.out.mono ?_;rintro e w6 ⟨rfl,v6,kv6,ov6,nv6,u6⟩;have fin:VE W1 w6 (w.heap.size+1) (lbs (E.take (k+1))):=by
    rw[JU HX.out.1];exact⟨⟨v6,kv6,ov6,nv6⟩,HX.out.2.2.2.2.1.trans u6 (fun i e=>e.elim .inl (fun e=>.inr (HX.out.2.2.2.2.2.2 i e)))⟩
   have FIN:=hIz fin;clear fin kv6 ov6 nv6 u6;go_wp2;go_roundw
   case rel=>exact⟨k+1,by omega,by go_num,FIN⟩
   case measure=>simp[intOf];omega
  ·obtain rfl:k=E.length:=by omega
   obtain⟨W4,hW4⟩:∃W,W=wr:=⟨_,rfl⟩;subst hW4;obtain⟨v,kv,ov,nv⟩:=hi.out.ex;rw[List.take_length] at ov;have bw4:Below w.heap.size w W4:=H.out.2.2.2.1.trans (hi.out.u.below (fun q _ e=>by omega) (by omega));have hsz:=hi.out.u.size;obtain⟨A1,c1,rfl,hc1,-⟩:=aH ov;have c4:=kv.cell 0;simp only[List.getElem?_toArray,List.getElem?_cons_zero] at c4
   by_cases h0:E.length=0
   ·obtain rfl:E=[]:=List.eq_nil_of_length_eq_zero h0;have HK:=aI2 bw4 kv;have c4':W4.cell? ⟨w.heap.size+1,0,none⟩=some (.slice A1 0 c1):=c4;clear ov nv hi c4 hk hlt kv bw4 h0 hc1;go_wp2_with fail;refine(DM _ _ _).mono ?_;rintro e w2 ⟨rfl,rfl⟩;go_wp2_with fail;refine(nG _ _ _).mono ?_;rintro e w2 ⟨rfl,rfl⟩;go_wp2_with fail;refine(eP _ A1 c1 [] (fun j u hj=>by simp[aG] at hj) (by simp)).mono ?_;intro e w3 hn;have hn':=hn.base HK.out.1;obtain⟨v3,rfl,own3,b3⟩:=hn';have FIN:=hIz (show QU w (lbs []) (.returned v3) w3 from⟨[],iS.self (lt:=ltT) .nil,Nat.le_refl _,v3,rfl,own3,b3⟩);clear hn own3 b3;go_wp2;go_ret;exact FIN.out
   ·obtain⟨g,rfl⟩:∃g,A1=some ⟨g,0,none⟩:=by
     rcases ov.2 with ⟨-,h2⟩|⟨g,cap,cur,hv,-⟩
     ·rw[wP] at h2;exact(h0 h2).elim
     ·injection hv with hv;exact⟨g,hv⟩
    have hgb:=(ov.lt g rfl).1;have hgne:g≠w.heap.size+1:=by omega
    have hln:(lbs E).length≤E.length:=Nat.le_of_eq (wP E);obtain⟨n,hn⟩:∃n,(lbs E).length=n:=⟨_,rfl⟩;have hs:=JS W4 W1.heap.size g c1 (lbs E) ov (by omega);rw[hn] at hs c4;have HK:=aI4 bw4 kv hs hn;clear ov nv hi hk hlt kv bw4 hs h0 hc1;have hnE:n≤E.length:=by omega
    clear hn;go_wp2_with fail;refine HK.out.2.2.1.mono ?_;rintro e w2 ⟨rfl,dd,ho,own2,u2⟩;have k2:=HK.out.2.1.upd u2 (fun e=>hgne e.symm);have c5:=k2.cell 0;simp only[List.getElem?_toArray,List.getElem?_cons_zero] at c5
    rw[HK.out.2.2.2] at c5;have H2:=aI3 ho own2 (HK.out.1.trans (u2.below (fun q _ e=>by omega) HK.out.1.size));clear ho own2 u2 k2 c4;go_wp2_with fail;refine(oN w2 W1.heap.size g c1 n (lbs E) dd H2.out.1 HK.out.2.2.2 H2.out.2.1 (by omega)).mono ?_;rintro e w3 ⟨M,hM,hlen,rfl,hr3,u3⟩;have H3:=aI4 hM hlen hr3 (H2.out.2.2.trans (u3.below (fun q _ e=>by omega) H2.out.2.2.size));have hml:M.length*16≤140737488355328:=by omega
    clear hM hlen hr3 u3 c5;obtain⟨k,hk⟩:∃k,M.length=k:=⟨_,rfl⟩;have hcl:=eP w3 (some ⟨g,0,none⟩) c1 M H3.out.2.2.1 hml;rw[hk] at hcl ⊢;have HCL:=hIz hcl;clear hcl hk hml;go_wp2_with fail;refine HCL.out.mono ?_;intro e w4 hn;have hn':=hn.base H3.out.2.2.2;obtain⟨v4,rfl,own4,b4⟩:=hn';have FIN:=hIz (show QU w (lbs E) (.returned v4) w4 from⟨M,H3.out.1,H3.out.2.1,v4,rfl,own4,b4⟩);clear hn own4 b4;go_wp2;go_ret;exact FIN.out
open Go.RowKit
def lM{α:Type}[DecidableEq α](lt:α→α→Bool)(L:List α):List α:=cpt (L.mergeSort fun x y=>!lt y x)
theorem cG{α:Type}[DecidableEq α]{lt:α→α→Bool}(hs:Sto lt)(L:List α):iS lt L (lM lt L):=by
 have h1:(L.mergeSort fun x y=>!lt y x).Pairwise fun a b=>(!lt b a)=true:=List.pairwise_mergeSort (fun a b c=>hs.le_trans a b c) (fun a b=>hs.le_total a b) L
 have h2:=OC hs (h1.imp fun {a b} h=>by simpa using h);exact⟨h2.up,fun x=>(h2.mem x).trans (List.mergeSort_perm _ _).mem_iff⟩
theorem iS.is{α:Type}[DecidableEq α]{lt:α→α→Bool}(hs:Sto lt){L M:List α}(h:iS lt L M):M=lM lt L:=h.uniq hs (cG hs L) (fun _=>Iff.rfl)

def eG(N:List Txt)(E:List Ed):Int:=if 32<N.length then 260 else if 16<(lM ltT (lbs E)).length then 261 else if 256<E.length then 262 else if 2048<(oH N E).length then 174 else 0
def eJ(N:List Txt)(E:List Ed):Int:=if mO N E=false then 2 else if cV N E=false then 173 else eG N E
theorem NK{a b:Int}(h:a=b):Ending.returned (.int .i64 a)=.returned (.int .i64 b):=by rw[h]

theorem yF(w:World)(A:Option Addr)(c:Nat)(B:Option Addr)(d:Nat)(N:List Txt)(E:List Ed)(h:qL w A c B d N E)(hs:kW N E) :
  Calls Tryz.prog 105 #[dX A N.length c B E.length d] w (Sam w (.int .i64 (eG N E))):=by
 have k0:=Blk.new w 52 #[.slice A N.length c,.slice B E.length d];have u0:Below w.heap.size w (w.alloc (.cells #[.slice A N.length c,.slice B E.length d] 52)):=bR.alloc (Nat.le_refl _) _;have H:=aI4 (h.below u0) k0 u0 hs;clear h k0 u0 hs;unfold dX;go_enter Tryz.func105,Tryz.ntmps105;go_upto_region 1 with (fail);generalize w.alloc (.cells #[.slice A N.length c,.slice B E.length d] 52)=W0 at H ⊢;have q0:W0.cell? ⟨w.heap.size,0,none⟩=some (.slice A N.length c):=H.out.2.1.cell 0;have q1:W0.cell? ⟨w.heap.size,1,none⟩=some (.slice B E.length d):=H.out.2.1.cell 1;by_cases h1:32<N.length
 ·have h1I:(32:Int)<(N.length:Int):=by omega
  have HX:=hIz (show(260:Int)=eG N E by rw[eG,if_pos h1]);clear h1;go_wp2;go_ret;exact⟨NK HX.out,H.out.2.2.1⟩
 have h1I:¬(32:Int)<(N.length:Int):=by omega
 go_wp2_with fail;refine(AI W0 A c B d N E H.out.1).mono ?_;rintro e w1 ⟨M,hM,hlen,v,rfl,own1,b1⟩;obtain⟨A1,c1,rfl,-,-⟩:=aH own1;have eM:=hM.is gJ;have k1:=H.out.2.1.upd (upF b1) id;have H1:=aI3 (H.out.1.below b1) k1 (tHn H.out.2.2.1 b1);have hME:M.length=(lM ltT (lbs E)).length:=by rw[← eM]
 clear own1 b1 q0 q1 k1 hM eM;have q0:w1.cell? ⟨w.heap.size,0,none⟩=some (.slice A N.length c):=H1.out.2.1.cell 0;have q1:w1.cell? ⟨w.heap.size,1,none⟩=some (.slice B E.length d):=H1.out.2.1.cell 1;obtain⟨k,hk⟩:∃k,M.length=k:=⟨_,rfl⟩;rw[hk] at hME ⊢;have HM:=hIz hME;by_cases h2:16<k
 ·have h2I:(16:Int)<(k:Int):=by omega
  have HX:=hIz (show(261:Int)=eG N E by rw[eG,if_neg h1,if_pos (by rw[← HM.out];exact h2)]);clear h2 h1 hk hME hlen;go_wp2;go_ret;exact⟨NK HX.out,H1.out.2.2⟩
 have h2I:¬(16:Int)<(k:Int):=by omega
 by_cases h3:256<E.length
 ·have h3I:(256:Int)<(E.length:Int):=by omega
  have HX:=hIz (show(262:Int)=eG N E by rw[eG,if_neg h1,if_neg (by rw[← HM.out];exact h2),if_pos h3]);clear h2 h1 h3 hk hME hlen;go_wp2;go_ret;exact⟨NK HX.out,H1.out.2.2⟩
 have h3I:¬(256:Int)<(E.length:Int):=by omega
 have HH:=aI3 h1 h2 h3;clear h1 h2 h3 hk hME hlen;go_wp2_with fail;refine(JP w1 A c B d N E H1.out.1 H.out.2.2.2 (by have:=HH.out.1;omega) (by have:=HH.out.2.2;omega)).mono ?_;rintro e w2 ⟨rfl,b2⟩;have HB:=hIz (tHn H1.out.2.2 b2);clear b2 q0 q1;obtain⟨t,ht⟩:∃t:Txt,(⟨(oH N E).toArray⟩:Txt)=t:=⟨_,rfl⟩;have hts:t.size=(oH N E).length:=by rw[← ht];simp[ByteArray.size]
 rw[ht];by_cases h4:2048<t.size
 ·have h4I:(2048:Int)<(t.size:Int):=by omega
  have HX:=hIz (show(174:Int)=eG N E by rw[eG,if_neg HH.out.1,if_neg (by rw[← HM.out];exact HH.out.2.1),if_neg HH.out.2.2,if_pos (by omega)]);clear h4 ht hts;go_wp2;go_ret;exact⟨NK HX.out,HB.out⟩
 ·have h4I:¬(2048:Int)<(t.size:Int):=by omega
  have HX:=hIz (show(0:Int)=eG N E by rw[eG,if_neg HH.out.1,if_neg (by rw[← HM.out];exact HH.out.2.1),if_neg HH.out.2.2,if_neg (by omega)]);clear h4 ht hts;go_wp2;go_ret;exact⟨NK HX.out,HB.out⟩

theorem AJ(w:World)(A:Option Addr)(c:Nat)(B:Option Addr)(d:Nat)(N:List Txt)(E:List Ed)(h:qL w A c B d N E) :
  Calls Tryz.prog 61 #[dX A N.length c B E.length d] w (Sam w (.int .i64 (eJ N E))):=by
 have k0:=Blk.new w 52 #[.slice A N.length c,.slice B E.length d];have u0:Below w.heap.size w (w.alloc (.cells #[.slice A N.length c,.slice B E.length d] 52)):=bR.alloc (Nat.le_refl _) _;have H:=aI3 (h.below u0) k0 u0;clear h k0 u0;obtain⟨b0,hb0⟩:∃b,mO N E=b:=⟨_,rfl⟩;obtain⟨b1,hb1⟩:∃b,cV N E=b:=⟨_,rfl⟩;have HB:=aI2 hb0 hb1;clear hb0 hb1;unfold dX;go_enter Tryz.func61,Tryz.ntmps61;go_upto_region 1 with (fail);generalize w.alloc (.cells #[.slice A N.length c,.slice B E.length d] 52)=W0 at H ⊢;have q0:W0.cell? ⟨w.heap.size,0,none⟩=some (.slice A N.length c):=H.out.2.1.cell 0;have q1:W0.cell? ⟨w.heap.size,1,none⟩=some (.slice B E.length d):=H.out.2.1.cell 1;go_wp2_with fail;refine(JI W0 A c B d N E H.out.1).mono ?_;rintro e w1 ⟨rfl,u1⟩;rw[HB.out.1];have k1:=H.out.2.1.upd (upF u1) id;have H1:=aI3 (H.out.1.below u1) k1 (tHn H.out.2.2 u1);clear u1 q0 q1 k1;have q0:w1.cell? ⟨w.heap.size,0,none⟩=some (.slice A N.length c):=H1.out.2.1.cell 0;have q1:w1.cell? ⟨w.heap.size,1,none⟩=some (.slice B E.length d):=H1.out.2.1.cell 1;cases b0
 ·go_wp2;go_ret;exact⟨NK (by rw[eJ,if_pos HB.out.1]),H1.out.2.2⟩
 go_wp2_with fail;refine(uD w1 A c B d N E H1.out.1).mono ?_;rintro e w2 ⟨rfl,u2⟩;rw[HB.out.2];have k2:=H1.out.2.1.upd (upF u2) id;have H2:=aI3 (H1.out.1.below u2) k2 (tHn H1.out.2.2 u2);clear u2 q0 q1 k2;have q0:w2.cell? ⟨w.heap.size,0,none⟩=some (.slice A N.length c):=H2.out.2.1.cell 0;have q1:w2.cell? ⟨w.heap.size,1,none⟩=some (.slice B E.length d):=H2.out.2.1.cell 1;cases b1
 ·go_wp2;go_ret;exact⟨NK (by rw[eJ,if_neg (by rw[HB.out.1];simp),if_pos HB.out.2]),H2.out.2.2⟩
 go_wp2_with fail;refine(yF w2 A c B d N E H2.out.1 (kW.of HB.out.2)).mono ?_;rintro e w3 ⟨rfl,u3⟩;have FIN:=hIz (tHn H2.out.2.2 u3);have HE:=hIz (show eG N E=eJ N E by rw[eJ,if_neg (by rw[HB.out.1];simp),if_neg (by rw[HB.out.2];simp)]);clear u3 q0 q1;go_wp2;go_ret;exact⟨NK HE.out,FIN.out⟩
open Go.Shelf
def DO:Go.Shelf.Ren:=⟨fun | 0=>0 | 1=>1 | 2=>2 | 6=>225 | 11=>98 | 14=>238 | 15=>144 | 18=>145 | 20=>259 | 21=>260 | 22=>261 | 23=>262 | 24=>263 | 25=>264 | 26=>265 | 27=>266 | 28=>184 | 29=>185 | 46=>274 | 47=>219 | 48=>220 | 49=>275 | 50=>276 | 57=>279 | 60=>280 | 61=>281 | 62=>282 | 63=>283 | 64=>284 | 65=>285 | 66=>286 | 67=>287 | 68=>288 | 69=>289 | 70=>290 | 71=>291 | 72=>292 | 73=>294 | 74=>295 | 75=>303 | n=>n,fun | 0=>0 | 1=>1 | 2=>2 | 3=>3 | 4=>4 | 5=>5 | 6=>6 | 7=>7 | 8=>8 | 9=>9 | 10=>10 | 11=>11 | 12=>12 | 13=>13 | 14=>14 | 15=>15 | 16=>16 | 17=>17 | 18=>18 | 19=>19 | 20=>20 | 21=>21 | 22=>40 | 23=>299 | 24=>23 | 25=>223 | 27=>189 | 29=>176 | 37=>311 | 38=>220 | 39=>197 | 40=>207 | 42=>198 | 44=>327 | 45=>251 | 46=>252 | 47=>328 | 48=>329 | 49=>330 | 50=>141 | 51=>331 | 52=>257 | 53=>258 | 54=>247 | 55=>166 | 66=>292 | 67=>293 | 68=>294 | 69=>336 | 70=>296 | 71=>337 | 76=>308 | 77=>94 | 78=>340 | 81=>270 | 82=>341 | 83=>342 | 84=>343 | 85=>344 | 86=>345 | 87=>58 | 88=>346 | 89=>347 | 90=>348 | 91=>302 | 92=>349 | 93=>350 | 94=>351 | 95=>352 | 96=>318 | n=>n,fun n=>n⟩
theorem RF:SlLaysF0.n6 Tryz.prog DO:={
 mixed:=(by kernel_rfl)
 f6:=⟨Tryz.f225.name,by decide,Tryz.func225.trans (congrArg some (by kernel_rfl))⟩
 f14:=⟨Tryz.f238.name,by decide,Tryz.func238.trans (congrArg some (by kernel_rfl))⟩
 f15:=Tryz.func144.trans (congrArg some (by kernel_rfl))
 f20:=⟨Tryz.f259.name,by decide,Tryz.func259.trans (congrArg some (by kernel_rfl))⟩
 f21:=⟨Tryz.f260.name,by decide,Tryz.func260.trans (congrArg some (by kernel_rfl))⟩
 f22:=⟨Tryz.f261.name,by decide,Tryz.func261.trans (congrArg some (by kernel_rfl))⟩
 f23:=⟨Tryz.f262.name,by decide,Tryz.func262.trans (congrArg some (by kernel_rfl))⟩
 f24:=⟨Tryz.f263.name,by decide,Tryz.func263.trans (congrArg some (by kernel_rfl))⟩
 f25:=⟨Tryz.f264.name,by decide,Tryz.func264.trans (congrArg some (by kernel_rfl))⟩
 f26:=⟨Tryz.f265.name,by decide,Tryz.func265.trans (congrArg some (by kernel_rfl))⟩
 f27:=⟨Tryz.f266.name,by decide,Tryz.func266.trans (congrArg some (by kernel_rfl))⟩
 f28:=Tryz.func184.trans (congrArg some (by kernel_rfl))
 f29:=Tryz.func185.trans (congrArg some (by kernel_rfl))
 f46:=⟨Tryz.f274.name,by decide,Tryz.func274.trans (congrArg some (by kernel_rfl))⟩
 f47:=Tryz.func219.trans (congrArg some (by kernel_rfl))
 f48:=Tryz.func220.trans (congrArg some (by kernel_rfl))
 f49:=⟨Tryz.f275.name,by decide,Tryz.func275.trans (congrArg some (by kernel_rfl))⟩
 f50:=⟨Tryz.f276.name,by decide,Tryz.func276.trans (congrArg some (by kernel_rfl))⟩
 f57:=⟨Tryz.f279.name,by decide,Tryz.func279.trans (congrArg some (by kernel_rfl))⟩
 t0:=Tryz.underlying0
 a0:=Tryz.isAgg0
 z0:=Tryz.sizeOf0
 v0:=Tryz.zeroValue0
 t3:=Tryz.underlying3
 a3:=Tryz.isAgg3
 z3:=Tryz.sizeOf3
 v3:=Tryz.zeroValue3
 t4:=Tryz.underlying4
 a4:=Tryz.isAgg4
 z4:=Tryz.sizeOf4
 v4:=Tryz.zeroValue4
 t5:=Tryz.underlying5
 a5:=Tryz.isAgg5
 z5:=Tryz.sizeOf5
 v5:=Tryz.zeroValue5
 t9:=Tryz.underlying9
 a9:=Tryz.isAgg9
 z9:=Tryz.sizeOf9
 v9:=Tryz.zeroValue9
 t22:=Tryz.underlying40
 a22:=Tryz.isAgg40
 z22:=Tryz.sizeOf40
 v22:=Tryz.zeroValue40
 t25:=Tryz.underlying223
 a25:=Tryz.isAgg223
 z25:=Tryz.sizeOf223
 v25:=Tryz.zeroValue223
 t39:=Tryz.underlying197
 a39:=Tryz.isAgg197
 z39:=Tryz.sizeOf197
 v39:=Tryz.zeroValue197
 t45:=Tryz.underlying251
 a45:=Tryz.isAgg251
 z45:=Tryz.sizeOf251
 v45:=Tryz.zeroValue251
 t46:=Tryz.underlying252
 a46:=Tryz.isAgg252
 z46:=Tryz.sizeOf252
 v46:=Tryz.zeroValue252
 t50:=Tryz.underlying141
 a50:=Tryz.isAgg141
 z50:=Tryz.sizeOf141
 v50:=Tryz.zeroValue141
 t53:=Tryz.underlying258
 a53:=Tryz.isAgg258
 z53:=Tryz.sizeOf258
 v53:=Tryz.zeroValue258
 t55:=Tryz.underlying166
 a55:=Tryz.isAgg166
 z55:=Tryz.sizeOf166
 v55:=Tryz.zeroValue166
 t66:=Tryz.underlying292
 a66:=Tryz.isAgg292
 z66:=Tryz.sizeOf292
 v66:=Tryz.zeroValue292
 t70:=Tryz.underlying296
 a70:=Tryz.isAgg296
 z70:=Tryz.sizeOf296
 v70:=Tryz.zeroValue296
 t76:=Tryz.underlying308
 a76:=Tryz.isAgg308
 z76:=Tryz.sizeOf308
 v76:=Tryz.zeroValue308
 t77:=Tryz.underlying94
 a77:=Tryz.isAgg94
 z77:=Tryz.sizeOf94
 v77:=Tryz.zeroValue94 }
open Go.RowKit Go.Sort Go.Shelf
theorem JV:Tryz.prog.stoodInHeld 23=false:=by kernel_rfl
theorem DP(W:World)(a b c:Txt)(k:Nat)(x:Txt)(h:[a,b,c][k]?=some x):(part 9 #[.string a,.string b,.string c] k).run Tryz.prog W=.ok (.string x) W:=by
 match k,h with
 | 0,h=>simp at h;subst h;simp[part,isAgg,run_underlying Tryz.underlying9]
 | 1,h=>simp at h;subst h;simp[part,isAgg,run_underlying Tryz.underlying9]
 | 2,h=>simp at h;subst h;simp[part,isAgg,run_underlying Tryz.underlying9]
 | k+3,h=>simp at h
theorem wQ(W:World)(d:Nat)(a b:Txt):(Op.equalIn (d+1) 9 (.string a) (.string b)).run Tryz.prog W=.ok (decide (a=b)) W:=by
 have h:(a==b)=decide (a=b):=by
  have h1:(a==b)=(a.data==b.data):=rfl;rw[h1];by_cases e:a.data=b.data
  ·have:a=b:=by obtain⟨a⟩:=a;obtain⟨b⟩:=b;simp at e;rw[e]
   rw[decide_eq_true this,e];simp
  ·rw[decide_eq_false (fun h=>e (by rw[h]))];simpa using e
 rw[← h];simp[Op.equalIn,run_underlying Tryz.underlying9]
theorem yG(W:World)(x y:Ed):(Op.equal 23 x.agg y.agg).run Tryz.prog W=.ok (decide (x=y)) W:=by
 obtain⟨a0,a1,a2⟩:=x;obtain⟨b0,b1,b2⟩:=y;have hs:Tryz.prog.underlying 23=some (.struct (Tryz.prog.fieldsOf 23)):=by kernel_rfl
 have h9:=fun a b=>wQ W 9998 a b
 have pa:=DP W a0 a1 a2;have pb:=DP W b0 b1 b2;have hd:decide ((⟨a0,a1,a2⟩:Ed)=⟨b0,b1,b2⟩)=(decide (a0=b0)&&(decide (a1=b1)&&decide (a2=b2))):=by
  rw[Bool.eq_iff_iff];simp
 rw[hd];unfold Ed.agg;show(Op.equalIn (9999+1) _ _ _).run _ _=_
 rw[run_equalIn_struct (P:=Tryz.prog) W 9999 _ _ _ hs JV];simp only[Program.fieldsOf,Tryz.underlying23,Op.eqFields]
 rw[if_pos (by decide),if_pos (by decide),if_pos (by decide)];simp only[Sem.run_bind,pa 0 a0 rfl,pb 0 b0 rfl,h9,Result.andThen_ok]
 cases decide (a0=b0)
 ·simp
 ·simp only[Bool.not_true,Bool.false_eq_true,if_false,Sem.run_bind,pa 1 a1 rfl,pb 1 b1 rfl,h9,Result.andThen_ok,Bool.true_and]
  cases decide (a1=b1)
  ·simp
  ·simp only[Bool.not_true,Bool.false_eq_true,if_false,Sem.run_bind,pa 2 a2 rfl,pb 2 b2 rfl,h9,Result.andThen_ok,Bool.true_and]
   cases decide (a2=b2) <;> simp
theorem RG(W:World)(x y:Ed):(binOp .eql 23 x.agg y.agg).run Tryz.prog W=.ok (.bool (decide (x=y))) W:=by
 have h:=yG W x y;unfold Ed.agg at h ⊢;simp only[binOp]
 simp[h]
theorem RH(W:World)(x y:Ed):(binOp .neq 23 x.agg y.agg).run Tryz.prog W=.ok (.bool (!decide (x=y))) W:=by
 have h:=yG W x y;unfold Ed.agg at h ⊢;simp only[binOp]
 simp[h]

theorem cJ{w:World}{base e size n g cap:Nat}{xs:List Value}(h:w.ownsRow base e size (.slice (some ⟨g,0,none⟩) n cap) n xs){i:Nat}(_hi:i<n*size)(u:Value) :
  (w.setCell ⟨g,i,none⟩ u).ownsRow base e size (.slice (some ⟨g,0,none⟩) n cap) n (xs.set i u):=by
 rcases h.2 with ⟨hv,-⟩|⟨g',cap',cur,hv,hb,hg,h1,h2,h3,h4⟩
 ·cases hv
 injection hv with hv _ hv3;injection hv with hv;injection hv with hv _ _;subst hv;subst hv3;refine⟨by rw[List.length_set];exact h.1,.inr ⟨g,cap,cur.setIfInBounds i u,rfl,hb,(Blk.set (t:=e) hg i u),h1,h2,by simp[h3],?_⟩⟩;rw[← h4,Array.toList_setIfInBounds,List.take_set]
theorem DQ{w:World}{base n g cap:Nat}{xs:List Value}(h:w.ownsRow base 23 3 (.slice (some ⟨g,0,none⟩) n cap) n xs)(k:Nat)(hk:k<n)(c':Nat) :
  ∃w',(∀ty,(Builtin.clear_ #[40] ty #[.slice (some ⟨g,k*3,none⟩) (n-k) c']).run Tryz.prog w=.ok (.tuple #[]) w')∧bO w' (some ⟨g,0,none⟩) (xs.take (k*3))∧Upd (fun q=>q=g) w w':=by
 rcases h.2 with ⟨hv,-⟩|⟨g',cap',cur,hv,hb,hg,h1,h2,h3,h4⟩
 ·cases hv
 injection hv with hv _ hv3;injection hv with hv;injection hv with hv _ _;subst hv;subst hv3;have hz:∀w,(zeroValue 23).run Tryz.prog w=.ok (.agg #[.string ByteArray.empty,.string ByteArray.empty,.string ByteArray.empty]) w:=fun _=>by kernel_rfl
 obtain⟨vs,hvs⟩:∃vs,(Builtin.zeroCells #[Value.string ByteArray.empty,.string ByteArray.empty,.string ByteArray.empty] (n-k)).toList=vs:=⟨_,rfl⟩;have hlen:vs.length=(n-k)*3:=by rw[← hvs];simp[Builtin.zeroCells]
 have hone:∀v∈vs,v.oneCell'=true:=by
  intro v hv;rw[← hvs] at hv;simp only[Builtin.zeroCells,Array.toList_map,List.mem_map] at hv
  obtain⟨i,-,rfl⟩:=hv;have:i % 3=0∨i % 3=1∨i % 3=2:=by omega
  rcases this with e|e|e <;> simp[e] <;> rfl
 have hrun:=run_storeCells_at (P:=Tryz.prog) g (k*3) 23 vs 0 cur w hg (by rw[hlen,h3];omega) hone;refine⟨w.setRow g (cur.toList.take (k*3+0)++vs++cur.toList.drop (k*3+0+vs.length)).toArray,fun ty=>?_,?_,?_⟩
 ·obtain⟨m,hm⟩:∃m,n-k=m+1:=⟨n-k-1,by omega⟩;rw[hm] at hvs ⊢;simp only[Builtin.clear_]
  simp[run_underlying Tryz.underlying40,hz,Value.cells]
  rw[hvs,hrun];simp[Result.andThen]
 ·intro j u hj;have hjl:=(gO.1 hj).1;rw[List.length_take] at hjl;refine⟨g,0,rfl,?_⟩;have hlt:g<w.heap.size:=(Array.getElem?_eq_some_iff.1 hg).1;have hj':xs[j]?=some u:=by rw[List.getElem?_take_of_lt (by omega)] at hj;exact hj
  rw[← h4,List.getElem?_take_of_lt (by omega)] at hj';have hh:(w.setRow g (cur.toList.take (k*3+0)++vs++cur.toList.drop (k*3+0+vs.length)).toArray).heap[g]?=some (.cells (cur.toList.take (k*3+0)++vs++cur.toList.drop (k*3+0+vs.length)).toArray 23 (0,0)):=by
   simp[World.setRow,Array.getElem?_modify,hg]
  rw[cell_of_row _ g _ _ _ (0,0) hh,Nat.zero_add];have hjc:j<cur.size:=by rw[Array.getElem?_toList] at hj';exact(Array.getElem?_eq_some_iff.1 hj').1
  rw[List.getElem?_toArray,List.append_assoc,List.getElem?_append_left (by rw[List.length_take,Array.length_toList];omega),List.getElem?_take_of_lt (by omega)];exact hj'
 ·refine⟨rfl,rfl,rfl,by simp[World.setRow],fun q _ hne=>?_⟩;have:g≠q:=fun e=>hne e.symm
  simp[World.setRow,Array.getElem?_modify,this]

theorem uJ{w:World}{base n g cap:Nat}{L:List Ed}(h:w.ownsRow base 23 3 (.slice (some ⟨g,0,none⟩) n cap) n (aT L)){k:Nat}{x:Ed}(hk:L[k]?=some x) :
  w.cell? ⟨g,k*3,none⟩=some (.string x.fr)∧w.cell? ⟨g,k*3+1,none⟩=some (.string x.lb)∧w.cell? ⟨g,k*3+2,none⟩=some (.string x.to):=by
 obtain⟨b,o,e,h0,h1,h2⟩:=(bO.of_own h).ed hk;injection e with e;injection e with e1 e2 _;subst e1;subst e2;rw[Nat.zero_add] at h0 h1 h2;exact⟨h0,h1,h2⟩
theorem RI{L:List Ed}{k:Nat}(hk:k<L.length)(x:Ed):(((aT L).set (k*3) (.string x.fr)).set (k*3+1) (.string x.lb)).set (k*3+2) (.string x.to)=aT (L.set k x):=by
 apply List.ext_getElem?
 intro j;have hl:(aT L).length=L.length*3:=dG L;by_cases hj:j<L.length*3
 ·have hi:j / 3<L.length:=Nat.div_lt_of_lt_mul (by omega);have hm:j % 3<3:=Nat.mod_lt _ (by decide);have hjd:j / 3*3+j % 3=j:=by omega
  have hx:(L.set k x)[j / 3]?=some (if k=j / 3 then x else L[j / 3]):=by
   rw[List.getElem?_set];by_cases e:k=j / 3
   ·subst e;simp[hi]
   ·rw[if_neg e,if_neg e,gEz hi]
  have h2:=dN Ed.cells 3 (fun _=>rfl) (L.set k x) (j / 3) (j % 3) _ hx hm;rw[hjd] at h2;show _=((L.set k x).flatMap Ed.cells)[j]?
  rw[h2];have h1:=dN Ed.cells 3 (fun _=>rfl) L (j / 3) (j % 3) _ (gEz hi) hm;rw[hjd] at h1;have h1':(aT L)[j]?=(L[j / 3]).cells[j % 3]?:=h1;simp only[List.getElem?_set,List.length_set]
  by_cases e:k=j / 3
  ·rw[if_pos e];have:j % 3=0∨j % 3=1∨j % 3=2:=by omega
   rcases this with e3|e3|e3
   ·rw[if_neg (by omega),if_neg (by omega),if_pos (by omega),if_pos (by omega),e3];rfl
   ·rw[if_neg (by omega),if_pos (by omega),if_pos (by omega),e3];rfl
   ·rw[if_pos (by omega),if_pos (by omega),e3];rfl
  ·rw[if_neg e,if_neg (by omega),if_neg (by omega),if_neg (by omega)];exact h1'
 ·rw[List.getElem?_eq_none (by simp only[List.length_set];omega),List.getElem?_eq_none (by rw[dG,List.length_set];omega)]
def iT(d:Array Ed)(m:Nat):List Ed:=Lib.compactUpTo d m++d.toList.drop (Lib.compactUpTo d m).length
theorem DR{d:Array Ed}{m:Nat}(hm:m≤d.size):(iT d m).length=d.size:=by
 have:=qO d m;simp only[iT,List.length_append,List.length_drop,Array.length_toList]
 omega
theorem rP{d:Array Ed}{m j:Nat}(hj:(Lib.compactUpTo d m).length≤j)(h:j<d.size):(iT d m)[j]?=some d[j]!:=by
 rw[iT,List.getElem?_append_right hj,List.getElem?_drop,Nat.add_sub_cancel' hj,Array.getElem?_toList,getElem!_pos d j h,Array.getElem?_eq_getElem h]
theorem AK{d:Array Ed}{m:Nat}(hk:Lib.keeps d m=true)(hl:(Lib.compactUpTo d m).length<d.size):(iT d m).set (Lib.compactUpTo d m).length d[m]! = iT d (m+1):=by
 rw[iT,iT,Lib.compactUpTo_succ,if_pos hk,List.length_append,List.length_singleton,List.append_assoc,List.set_append_right _ _ (Nat.le_refl _),Nat.sub_self];congr 1
 rw[show d.toList.drop (Lib.compactUpTo d m).length=d.toList[(Lib.compactUpTo d m).length]'(by simpa using hl)::d.toList.drop ((Lib.compactUpTo d m).length+1) from List.drop_eq_getElem_cons (by simpa using hl)];rfl
theorem qP{d:Array Ed}{m:Nat}(hk:Lib.keeps d m=false):iT d (m+1)=iT d m:=by
 rw[iT,iT,Lib.compactUpTo_succ,if_neg (by rw[hk];simp),List.append_nil]
theorem oO{d:Array Ed}{m:Nat}(h:∀j,j<m→Lib.keeps d j=true)(hm:m≤d.size):Lib.compactUpTo d m=d.toList.take m∧iT d m=d.toList:=by
 have h1:Lib.compactUpTo d m=d.toList.take m:=by
  rw[Lib.compactUpTo_all d m h];apply List.ext_getElem
  ·simp;omega
  ·intro i h1 h2;simp at h1
   simp[show i<d.size by omega]
 refine⟨h1,?_⟩;rw[iT,h1,List.length_take,Array.length_toList,Nat.min_eq_left hm,List.take_append_drop]
open Go.RowKit Go.Sort Go.Shelf
theorem AL{w:World}{base e size n g cap:Nat}{xs:List Value}(h:w.ownsRow base e size (.slice (some ⟨g,0,none⟩) n cap) n xs)(i:Nat):w.frozen? ⟨g,i,none⟩=false:=by
 rcases h.2 with ⟨hv,-⟩|⟨g',cap',cur,hv,hb,hg,-⟩
 ·cases hv
 injection hv with hv _ _;injection hv with hv;injection hv with hv _ _;subst hv;exact Blk.frozen (t:=e) hg i
def TM(w:World)(g cap:Nat)(L:List Ed)(e:Ending)(w':World):Prop:=∃M,iS ltE L M∧M.length≤L.length∧e=.returned (.slice (some ⟨g,0,none⟩) M.length cap)∧bO w' (some ⟨g,0,none⟩) (aT M)∧Upd (fun q=>q=g) w w'

theorem AM(w:World)(base g cap n:Nat)(L:List Ed)(d:Array Ed)(ho:oM ltE L d)(hn:L.length=n)(h:w.ownsRow base 23 3 (.slice (some ⟨g,0,none⟩) n cap) n (aT d.toList))(hl:n≤140737488355328) :
  Calls Tryz.prog 226 #[.slice (some ⟨g,0,none⟩) n cap] w (TM w g cap L):=by
 have hsz:d.size=n:=by rw[ho.n,hn]
 have hset:=lK qI d ho.p ho.s;rw[hsz] at hset;have hcap:n≤cap:=by
  obtain⟨_,_,e1,h1,-⟩:=aH h;injection e1 with _ _ e1;rw[e1];exact h1
 have HS:=aI4 hset hn hsz h;clear hset hn hsz h ho;by_cases h2:n<2
 ·have h2I:(n:Int)<2:=by omega
  have hall:∀j,j<n→Lib.keeps d j=true:=fun j hj=>Lib.keeps_lt_one d j (by omega) |> fun h=>h
  have hc:=oO hall (by rw[HS.out.2.2.1];exact Nat.le_refl _);have FIN:=hIz (show TM w g cap L (.returned (.slice (some ⟨g,0,none⟩) n cap)) w from⟨_,HS.out.1,by rw[hc.1,HS.out.2.1,List.length_take];omega,by rw[hc.1,List.length_take,Array.length_toList,HS.out.2.2.1,Nat.min_self],by
   rw[hc.1,List.take_of_length_le (by rw[Array.length_toList,HS.out.2.2.1];exact Nat.le_refl _)];exact bO.of_own HS.out.2.2.2,Upd.refl _ _⟩)
  clear hall hc h2;go_enter Tryz.func226,Tryz.ntmps226;go_wp2;go_ret;exact FIN.out
 have h2I:¬(n:Int)<2:=by omega
 go_enter Tryz.func226,Tryz.ntmps226;go_wp2_with fail;go_loopw [3] (fun i wr=>∃k q:Nat,k+1≤n∧i=.int .i64 ((k:Int)+1)∧wr=w.drewN q∧Hid (∀j,j<k+1→Lib.keeps d j=true)) (fun i _=>n+1-(intOf i).toNat)
 case atStart=>exact⟨0,0,by omega,rfl,rfl,hIz (fun j hj=>Lib.keeps_lt_one d j (by omega))⟩
 case round =>
  obtain⟨k,q,hk,rfl,rfl,hall⟩:=hrel;have hkw:IntKind.i64.wrap (k:Int)=(k:Int):=IntWalk.i64_in _ (by omega);have hkw2:IntKind.i64.wrap ((k:Int)+1+1)=(k:Int)+1+1:=IntWalk.i64_in _ (by omega);by_cases hlt:k+1<n
  ·have hltI:(k:Int)+1<(n:Int):=by omega
   have hltI2:(k:Int)<(n:Int):=by omega
   have ht:((k:Int)+1).toNat=k+1:=by omega
   have hn0:(0:Int)≤(k:Int)+1:=by omega
   have hx:d.toList[k+1]?=some d[k+1]!:=by rw[Array.getElem?_toList,getElem!_pos d (k+1) (by rw[HS.out.2.2.1];exact hlt),Array.getElem?_eq_getElem]
   have hy:d.toList[k]?=some d[k]!:=by rw[Array.getElem?_toList,getElem!_pos d k (by rw[HS.out.2.2.1];omega),Array.getElem?_eq_getElem]
   obtain⟨x0,x1,x2⟩:=uJ HS.out.2.2.2 hx;obtain⟨y0,y1,y2⟩:=uJ HS.out.2.2.2 hy;obtain⟨x,hx⟩:∃x,d[k+1]! = x:=⟨_,rfl⟩;obtain⟨y,hy⟩:∃y,d[k]! = y:=⟨_,rfl⟩;rw[hx] at x0 x1 x2;rw[hy] at y0 y1 y2;obtain⟨sx0,sx1,sx2⟩:=x;obtain⟨sy0,sy1,sy2⟩:=y;dsimp only at x0 x1 x2 y0 y1 y2
   have heq:=fun W=>RG W ⟨sx0,sx1,sx2⟩ ⟨sy0,sy1,sy2⟩
   unfold Ed.agg at heq;dsimp only at heq
   have HXY:=aI2 hx hy;clear hx hy;by_cases he:(⟨sx0,sx1,sx2⟩:Ed)=⟨sy0,sy1,sy2⟩
   ·rw[decide_eq_true he] at heq;have HE:=hIz he;clear he;go_upto_region 6 with (fail);refine aP (fun w'=>w'.cell? ⟨g,(k+1)*3,none⟩=some (.string sx0)∧w'.cell? ⟨g,(k+1)*3+1,none⟩=some (.string sx1)∧w'.cell? ⟨g,(k+1)*3+2,none⟩=some (.string sx2)∧w'.cell? ⟨g,k*3,none⟩=some (.string sy0)∧w'.cell? ⟨g,k*3+1,none⟩=some (.string sy1)∧w'.cell? ⟨g,k*3+2,none⟩=some (.string sy2)) 10 [(0,true),(1,true),(2,true),(3,true),(4,true),(5,true),(6,true),(7,true),(8,true),(9,true)] (by kernel_rfl) (by kernel_rfl) (fun _ _ d _ _ h=>by cases d <;> exact h) ⟨x0,x1,x2,y0,y1,y2⟩ ?_
    iterate 10 refine aD rfl ?_
    refine aJ ?_;clear x0 x1 x2 y0 y1 y2 heq;go_wp2_with fail;obtain⟨ln,hln⟩:∃ln,n-(k+1)=ln:=⟨_,rfl⟩;obtain⟨cn,hcn⟩:∃cn,cap-(k+1)=cn:=⟨_,rfl⟩;obtain⟨oo,hoo⟩:∃oo,(k+1)*3=oo:=⟨_,rfl⟩;rw[hln,hcn,hoo];have hkeep:Lib.keeps d (k+1)=false:=Lib.keeps_neg (by omega) (by rw[Nat.add_sub_cancel,HXY.out.1,HXY.out.2,HE.out]);have hc0:=oO hall.out (by rw[HS.out.2.2.1];omega);have hl0:(Lib.compactUpTo d (k+1)).length=k+1:=by rw[hc0.1,List.length_take,Array.length_toList,HS.out.2.2.1];omega
    have hl1:(Lib.compactUpTo d (k+2)).length=k+1:=by
     rw[Lib.compactUpTo_succ,hkeep];simpa using hl0
    have hs1:iT d (k+2)=d.toList:=by rw[qP hkeep];exact hc0.2
    have hlnb:ln+(k+1)=n:=by omega
    have hcnb:cn+(k+1)=cap:=by omega
    have HB:=aI5 hoo hl1 hs1 hlnb hcnb;have hlnn:ln+k+1≤n:=by omega
    have hln1:0+1≤ln:=by omega
    clear hln hcn hoo hkeep hc0 hl0 hl1 hs1 hcnb hlnb;go_loopw [3,5] (fun a3 a5 wz=>∃kk r:Nat,r+1≤ln∧a3=.int .i64 kk∧a5=.int .i64 ((r:Int)+1)∧kk≤k+r+1∧Hid (kk=(Lib.compactUpTo d (k+r+2)).length)∧Hid (wz.ownsRow base 23 3 (.slice (some ⟨g,0,none⟩) n cap) n (aT (iT d (k+r+2))))∧Hid (Upd (fun q=>q=g) w wz)) (fun _ a5 _=>ln+1-(intOf a5).toNat)
    case atStart=>exact⟨k+1,0,hln1,by go_num,rfl,by omega,hIz HB.out.2.1.symm,hIz (by rw[Nat.add_zero,HB.out.2.2.1];exact HS.out.2.2.2),hIz ((Upd.refl _ w).drewN (q+1))⟩
    case round =>
     obtain⟨kk,r,hr,rfl,rfl,hkk,hkl,how,hu⟩:=hrel;have hrw:IntKind.i64.wrap (r:Int)=(r:Int):=IntWalk.i64_in _ (by omega);have hrw2:IntKind.i64.wrap ((r:Int)+1+1)=(r:Int)+1+1:=IntWalk.i64_in _ (by omega);have hkw3:IntKind.i64.wrap ((kk:Int)+1)=(kk:Int)+1:=IntWalk.i64_in _ (by omega);by_cases hlt3:r+1<ln
     ·have hltI3:(r:Int)+1<(ln:Int):=by omega
      have hltI4:(r:Int)<(ln:Int):=by omega
      have ht3:((r:Int)+1).toNat=r+1:=by omega
      have hn3:(0:Int)≤(r:Int)+1:=by omega
      have hm:k+r+2<d.size:=by rw[HS.out.2.2.1];omega
      have hx:=rP (d:=d) (m:=k+r+2) (j:=k+r+2) (by rw[← hkl.out];omega) hm;have hy:=rP (d:=d) (m:=k+r+2) (j:=k+r+1) (by rw[← hkl.out];omega) (by omega);obtain⟨x0,x1,x2⟩:=uJ how.out hx;obtain⟨y0,y1,y2⟩:=uJ how.out hy;rw[show(k+r+2)*3=oo+(r+1)*3 by have:=HB.out.1;omega] at x0 x1 x2;rw[show(k+r+1)*3=oo+r*3 by have:=HB.out.1;omega] at y0 y1 y2;obtain⟨x,hx⟩:∃x,d[k+r+2]! = x:=⟨_,rfl⟩;obtain⟨y,hy⟩:∃y,d[k+r+1]! = y:=⟨_,rfl⟩;rw[hx] at x0 x1 x2;rw[hy] at y0 y1 y2;obtain⟨tx0,tx1,tx2⟩:=x;obtain⟨ty0,ty1,ty2⟩:=y;dsimp only at x0 x1 x2 y0 y1 y2
      have hneq:=fun W=>RH W ⟨tx0,tx1,tx2⟩ ⟨ty0,ty1,ty2⟩
      unfold Ed.agg at hneq;dsimp only at hneq
      have HXY2:=aI2 hx hy;clear hx hy hm;by_cases he:(⟨tx0,tx1,tx2⟩:Ed)=⟨ty0,ty1,ty2⟩
      ·rw[decide_eq_true he] at hneq;have HE2:=hIz he;clear he;go_upto_region 11 with (fail);refine aP (fun w'=>w'.cell? ⟨g,oo+(r+1)*3,none⟩=some (.string tx0)∧w'.cell? ⟨g,oo+(r+1)*3+1,none⟩=some (.string tx1)∧w'.cell? ⟨g,oo+(r+1)*3+2,none⟩=some (.string tx2)∧w'.cell? ⟨g,oo+r*3,none⟩=some (.string ty0)∧w'.cell? ⟨g,oo+r*3+1,none⟩=some (.string ty1)∧w'.cell? ⟨g,oo+r*3+2,none⟩=some (.string ty2)) 10 [(0,true),(1,true),(2,true),(3,true),(4,true),(5,true),(6,true),(7,true),(8,true),(9,true)] (by kernel_rfl) (by kernel_rfl) (fun _ _ d _ _ h=>by cases d <;> exact h) ⟨x0,x1,x2,y0,y1,y2⟩ ?_
       iterate 10 refine aD rfl ?_
       refine aJ ?_;clear x0 x1 x2 y0 y1 y2 hneq;have hkf:Lib.keeps d (k+r+2)=false:=Lib.keeps_neg (by omega) (by rw[show k+r+2-1=k+r+1 by omega,HXY2.out.1,HXY2.out.2,HE2.out]);have HK:=hIz hkf;clear hkf;go_wp2;go_roundw
       case rel=>exact⟨kk,r+1,by omega,rfl,by go_num,by omega,hIz (by rw[hkl.out,show k+(r+1)+2=k+r+2+1 by omega,Lib.compactUpTo_succ d (k+r+2),HK.out];simp),hIz (by rw[show k+(r+1)+2=k+r+2+1 by omega,qP HK.out];exact how.out),hIz hu.out.drew⟩
       case measure=>simp[intOf];omega
      ·rw[decide_eq_false he] at hneq;have HE2:=hIz he;clear he;go_upto_region 11 with (fail);refine aP (fun w'=>w'.cell? ⟨g,oo+(r+1)*3,none⟩=some (.string tx0)∧w'.cell? ⟨g,oo+(r+1)*3+1,none⟩=some (.string tx1)∧w'.cell? ⟨g,oo+(r+1)*3+2,none⟩=some (.string tx2)∧w'.cell? ⟨g,oo+r*3,none⟩=some (.string ty0)∧w'.cell? ⟨g,oo+r*3+1,none⟩=some (.string ty1)∧w'.cell? ⟨g,oo+r*3+2,none⟩=some (.string ty2)) 10 [(0,true),(1,true),(2,true),(3,true),(4,true),(5,true),(6,true),(7,true),(8,true),(9,true)] (by kernel_rfl) (by kernel_rfl) (fun _ _ d _ _ h=>by cases d <;> exact h) ⟨x0,x1,x2,y0,y1,y2⟩ ?_
       iterate 10 refine aD rfl ?_
       refine aJ ?_;clear y0 y1 y2 hneq;have hkt:Lib.keeps d (k+r+2)=true:=Lib.keeps_pos (by rw[show k+r+2-1=k+r+1 by omega,HXY2.out.1,HXY2.out.2];exact HE2.out);have hclen:=DR (d:=d) (m:=k+r+2) (by rw[HS.out.2.2.1];omega);have hkn:kk<n:=by omega
       obtain⟨z0,z1,z2⟩:=uJ how.out (rP (d:=d) (m:=k+r+2) (j:=kk) (by rw[← hkl.out];exact Nat.le_refl _) (by rw[HS.out.2.2.1];exact hkn));have fz:=fun i=>AL how.out i
       have f0:=fz (kk*3);have f1:=fz (kk*3+1);have f2:=fz (kk*3+2);have o1:=cJ (aB how.out (Upd.refl (fun _=>False) wr).drew (fun _ _=>id)) (i:=kk*3) (by omega) (.string tx0);have o2:=cJ o1 (i:=kk*3+1) (by omega) (.string tx1);have o3:=cJ o2 (i:=kk*3+2) (by omega) (.string tx2);have hes:=RI (L:=iT d (k+r+2)) (k:=kk) (by rw[hclen,HS.out.2.2.1];exact hkn) ⟨tx0,tx1,tx2⟩;dsimp only at hes
       have hst:=AK hkt (by rw[← hkl.out,HS.out.2.2.1];exact hkn);rw[← hkl.out,HXY2.out.1] at hst;rw[hes,hst] at o3;have u3:=((hu.out.drew.setCell (p:=⟨g,kk*3,none⟩) (.inl rfl) (.string tx0)).setCell (p:=⟨g,kk*3+1,none⟩) (.inl rfl) (.string tx1)).setCell (p:=⟨g,kk*3+2,none⟩) (.inl rfl) (.string tx2);have HO:=aI3 o3 u3 hkt;have hknI:(kk:Int)<(n:Int):=by omega
       clear o1 o2 o3 hes hst u3 hkt fz hclen;go_wp2;go_roundw
       case rel=>exact⟨kk+1,r+1,by omega,by go_num,by go_num,by omega,hIz (by rw[hkl.out,show k+(r+1)+2=k+r+2+1 by omega,Lib.compactUpTo_succ d (k+r+2),HO.out.2.2];simp),hIz (by rw[show k+(r+1)+2=k+r+2+1 by omega];exact HO.out.1),hIz HO.out.2.1⟩
       case measure=>simp[intOf];omega
     ·obtain rfl:r+1=ln:=by omega
      have hmn:k+r+2=n:=by have:=HB.out.2.2.2.1;omega
      have hkn:kk<n:=by omega
      have hknI:(kk:Int)<(n:Int):=by omega
      have hkc:kk<cap:=by omega
      obtain⟨w6,hcl,hr6,u6⟩:=DQ how.out kk hkn (cap-kk);have hkl':(Lib.compactUpTo d n).length=kk:=by rw[hkl.out,hmn]
      have FIN:=hIz (show TM w g cap L (.returned (.slice (some ⟨g,0,none⟩) kk cap)) w6 from⟨_,HS.out.1,by rw[hkl',HS.out.2.1];omega,by rw[hkl'],by
       rw[hmn,iT,aT,List.flatMap_append,List.take_left' (by
        show(aT (Lib.compactUpTo d n)).length=kk*3
        rw[dG,hkl'])] at hr6
       exact hr6,hu.out.trans u6 (fun i e=>.inl e)⟩)
      clear hr6 u6 hkl' hmn hlt3;go_wp2;go_ret;exact FIN.out
   ·rw[decide_eq_false he] at heq;have HE:=hIz he;clear he;go_upto_region 6 with (fail);refine aP (fun w'=>w'.cell? ⟨g,(k+1)*3,none⟩=some (.string sx0)∧w'.cell? ⟨g,(k+1)*3+1,none⟩=some (.string sx1)∧w'.cell? ⟨g,(k+1)*3+2,none⟩=some (.string sx2)∧w'.cell? ⟨g,k*3,none⟩=some (.string sy0)∧w'.cell? ⟨g,k*3+1,none⟩=some (.string sy1)∧w'.cell? ⟨g,k*3+2,none⟩=some (.string sy2)) 10 [(0,true),(1,true),(2,true),(3,true),(4,true),(5,true),(6,true),(7,true),(8,true),(9,true)] (by kernel_rfl) (by kernel_rfl) (fun _ _ d _ _ h=>by cases d <;> exact h) ⟨x0,x1,x2,y0,y1,y2⟩ ?_
    iterate 10 refine aD rfl ?_
    refine aJ ?_;clear x0 x1 x2 y0 y1 y2 heq;go_wp2;go_roundw
    case rel=>exact⟨k+1,q+1,by omega,by go_num,rfl,hIz (fun j hj=>by
     rcases Nat.lt_succ_iff_lt_or_eq.1 hj with h|rfl
     ·exact hall.out j h
     ·exact Lib.keeps_pos (by rw[Nat.add_sub_cancel,HXY.out.1,HXY.out.2];exact HE.out))⟩
    case measure=>simp[intOf];omega
  ·obtain rfl:n=k+1:=by omega
   have hc:=oO hall.out (by rw[HS.out.2.2.1];exact Nat.le_refl _);have FIN:=hIz (show TM w g cap L (.returned (.slice (some ⟨g,0,none⟩) (k+1) cap)) (w.drewN q) from⟨_,HS.out.1,by rw[hc.1,HS.out.2.1,List.length_take];omega,by rw[hc.1,List.length_take,Array.length_toList,HS.out.2.2.1,Nat.min_self],by
    rw[hc.1,List.take_of_length_le (by rw[Array.length_toList,HS.out.2.2.1];exact Nat.le_refl _)];exact bO.of_own (aB HS.out.2.2.2 ((Upd.refl (fun _=>False) w).drewN q) (fun _ _=>id)),(Upd.refl _ w).drewN q⟩)
   clear hc;go_wp2;go_ret;exact FIN.out
open Go.RowKit Go.Sort Go.Shelf
theorem DS(d:Array Ed):(flatK Ed.cells 3 d).toList=aT d.toList:=by
 apply List.ext_getElem?
 intro j;by_cases hj:j<d.size*3
 ·have hi:j / 3<d.size:=Nat.div_lt_of_lt_mul (by omega);have hm:j % 3<3:=Nat.mod_lt _ (by decide);have hjd:j / 3*3+j % 3=j:=by omega
  have h2:=dN Ed.cells 3 (fun _=>rfl) d.toList (j / 3) (j % 3) d[j / 3]! (by rw[Array.getElem?_toList,getElem!_pos d _ hi,Array.getElem?_eq_getElem hi]) hm;rw[hjd] at h2;show _=(d.toList.flatMap Ed.cells)[j]?
  rw[h2];have h3:=get_flatK Ed.cells 3 d j hj;have h4:j<(flatK Ed.cells 3 d).size:=by rw[size_flatK];exact hj
  rw[Array.getElem?_toList,Array.getElem?_eq_getElem h4,← getElem!_pos (flatK Ed.cells 3 d) j h4,h3];have h5:j % 3<(Ed.cells d[j / 3]!).length:=hm;rw[gEz h5,getElem!_pos (Ed.cells d[j / 3]!) _ h5]
 ·rw[List.getElem?_eq_none (by rw[Array.length_toList,size_flatK];omega),List.getElem?_eq_none (by rw[dG,Array.length_toList];omega)]
theorem JW(w:World)(base g cap:Nat)(L:List Ed)(h:w.ownsRow base 23 3 (.slice (some ⟨g,0,none⟩) L.length cap) L.length (aT L))(hl:L.length≤140737488355328) :
  Calls Tryz.prog 225 #[.slice (some ⟨g,0,none⟩) L.length cap,.func (.func 151) #[] #[]] w fun e w'=>e=.returned (.tuple #[])∧∃d:Array Ed,oM ltE L d∧w'.ownsRow base 23 3 (.slice (some ⟨g,0,none⟩) L.length cap) L.length (aT d.toList)∧Upd (fun q=>q=g) w w':=by
 have eg:∀args w,(callFunc 151 args).run Tryz.prog w=.ok (.enter 151 args) w:=enters_of Tryz.func151 (by kernel_rfl) rfl;have hcmp:CmpLays Tryz.prog 151 #[] Ed.cells 3 JB g 0 L.toArray.size w:=fun m os dk _ x y=>(qK x y _).mono fun e w' hh=>hh
 have hHo:w.ownsRow base 23 3 (.slice (some ⟨g,0,none⟩) L.length cap) L.length ((flatK Ed.cells 3 L.toArray).toList.map id):=by rw[List.map_id,DS];exact h
 have hH:HoldsK Ed.cells 3 w g 0 L.toArray:=jB hHo;have hg:=(h.lt g rfl).2;have hcon:=AnyQ.slices_SortFunc RF 3 (fun w=>Tryz.isAgg23 w) (fun w=>Tryz.sizeOf23 w) Ed.cells (fun _=>rfl) (fun x v hv=>by simp[Ed.cells] at hv;rcases hv with rfl | rfl | rfl <;> rfl) JB RD 151 #[] g 0 cap L.toArray w eg hcmp hH hg (by simp;omega);change Calls Tryz.prog 225 _ _ _ at hcon
 rw[show L.toArray.size=L.length from by simp] at hcon;refine hcon.mono ?_;rintro e w' ⟨rfl,d',n,os,hp,hs,rfl⟩;have hlt:ltOf JB=ltE:=by funext x y;exact wK x y
 rw[hlt] at hs;have ho:=oM.of (L:=L) (by simpa using hp) (by simpa using hs);have key:=oK (enc:=id) (m:=n) (os:=os) h (flatK Ed.cells 3 d') (by rw[size_flatK,ho.n]);rw[List.map_id,DS] at key;exact⟨rfl,d',ho,key.1,key.2⟩
theorem rQ(w:World)(p:Option Addr)(cap:Nat):Calls Tryz.prog 226 #[.slice p 0 cap] w (nE w (.slice p 0 cap)):=by
 go_enter Tryz.func226,Tryz.ntmps226;go_wp2;go_ret;exact⟨rfl,rfl⟩
theorem NJ.base{w w0:World}{M:List Ed}{e:Ending}{w':World}(h:NJ w M e w')(hb:Below w0.heap.size w0 w):NJ w0 M e w':=by
 obtain⟨v,rfl,own,b⟩:=h;exact⟨v,rfl,bC own (fun q hq=>Nat.le_trans hb.size (own.lt q hq).1),tHn hb b⟩
def TY(w:World)(L:List Ed)(e:Ending)(w':World):Prop:=∃M,iS ltE L M∧M.length≤L.length∧NJ w M e w'

theorem DT(w:World)(A:Option Addr)(c:Nat)(L:List Ed)(h:bO w A (aT L))(hl:L.length*48≤140737488355328) :
  Calls Tryz.prog 187 #[.slice A L.length c,.func (.func 151) #[] #[]] w (TY w L):=by
 have HH:=hIz h;clear h;go_enter Tryz.func187,Tryz.ntmps187;go_wp2_with fail;refine(rO w A c L HH.out hl).mono ?_;rintro e w1 ⟨v,rfl,own1,b1⟩;obtain⟨A1,c1,rfl,hc1,hA1⟩:=aH own1;by_cases h0:L.length=0
 ·obtain rfl:L=[]:=List.eq_nil_of_length_eq_zero h0;have HB:=hIz b1;clear own1 b1 h0 hl hc1 hA1;have hs0:=AnyF.slices_SortFunc_none RF A1 c1 (.func (.func 151) #[] #[]) w1;change Calls Tryz.prog 225 _ _ _ at hs0
  have HS0:=hIz hs0;clear hs0;go_wp2_with fail;refine HS0.out.mono ?_;rintro e w2 ⟨rfl,rfl⟩;go_wp2_with fail;refine(rQ _ _ _).mono ?_;rintro e w2 ⟨rfl,rfl⟩;go_wp2_with fail;refine(rO _ A1 c1 [] (fun j u hj=>by simp[aT] at hj) (by simp)).mono ?_;intro e w3 hn;have hn':=hn.base HB.out;obtain⟨v3,rfl,own3,b3⟩:=hn';have FIN:=hIz (show TY w [] (.returned v3) w3 from⟨[],iS.self (lt:=ltE) .nil,Nat.le_refl _,v3,rfl,own3,b3⟩);clear hn own3 b3;go_wp2;go_ret;exact FIN.out
 ·obtain⟨g,rfl⟩:∃g,A1=some ⟨g,0,none⟩:=by
   rcases own1.2 with ⟨-,h2⟩|⟨g,cap,cur,hv,-⟩
   ·exact(h0 h2).elim
   ·injection hv with hv;exact⟨g,hv⟩
  obtain⟨n,hn⟩:∃n,L.length=n:=⟨_,rfl⟩;have hs:=JW w1 w.heap.size g c1 L own1 (by omega);rw[hn] at hs ⊢;have hgb:=(own1.lt g rfl).1;have HB:=aI3 b1 hs hn;clear own1 b1 h0 hc1 hA1 hs hn;go_wp2_with fail;refine HB.out.2.1.mono ?_;rintro e w2 ⟨rfl,dd,ho,own2,u2⟩;have H2:=aI3 ho own2 (HB.out.1.trans (u2.below (fun q _ e=>by omega) HB.out.1.size));clear ho own2 u2;go_wp2_with fail;refine(AM w2 w.heap.size g c1 n L dd H2.out.1 HB.out.2.2 H2.out.2.1 (by have:=HB.out.2.2;omega)).mono ?_;rintro e w3 ⟨M,hM,hlen,rfl,hr3,u3⟩;have H3:=aI4 hM hlen hr3 (H2.out.2.2.trans (u3.below (fun q _ e=>by omega) H2.out.2.2.size));have hml:M.length*48≤140737488355328:=by omega
  clear hM hlen hr3 u3;obtain⟨k,hk⟩:∃k,M.length=k:=⟨_,rfl⟩;have hcl:=rO w3 (some ⟨g,0,none⟩) c1 M H3.out.2.2.1 hml;rw[hk] at hcl ⊢;have HCL:=hIz hcl;clear hcl hk hml;go_wp2_with fail;refine HCL.out.mono ?_;intro e w4 hn;have hn':=hn.base H3.out.2.2.2;obtain⟨v4,rfl,own4,b4⟩:=hn';have FIN:=hIz (show TY w L (.returned v4) w4 from⟨M,H3.out.1,H3.out.2.1,v4,rfl,own4,b4⟩);clear hn own4 b4;go_wp2;go_ret;exact FIN.out
open Go.RowKit
def rR(x:Ed):List Txt:=[x.fr,x.to]
def rS(N:List Txt)(E:List Ed):List Txt:=N++E.flatMap rR
def gN(N:List Txt)(E:List Ed):List Txt:=lM ltT (rS N E)
def gE(E:List Ed):List Ed:=lM ltE E
theorem rT(N:List Txt)(E:List Ed):(rS N E).length=N.length+E.length*2:=by
 rw[rS,List.length_append,eC rR 2 (fun _=>rfl)]
theorem oP{N:List Txt}{E:List Ed}{s:Txt}:s∈rS N E↔s∈N∨∃x∈E,s=x.fr∨s=x.to:=by
 rw[rS,List.mem_append,List.mem_flatMap];simp[rR]
theorem qQ{N:List Txt}{E:List Ed}(h:kW N E):kW (gN N E) (gE E):=by
 refine⟨fun s hs=>?_,fun x hx=>h.e x (((cG qI E).mem x).1 hx)⟩;rcases oP.1 (((cG gJ (rS N E)).mem s).1 hs) with h1|⟨x,hx,rfl|rfl⟩
 ·exact h.n s h1
 ·exact(h.e x hx).1
 ·exact(h.e x hx).2.2
theorem JX{N:List Txt}{E:List Ed}(h:kW N E){M:List Txt}{F:List Ed}(hM:M=gN N E)(hF:F=gE E)(h1:M.length*16≤140737488355328)(h2:F.length*48≤140737488355328):RB M F:=by
 subst hM;subst hF;have k:=qQ h;refine⟨h1,h2,fun s hs=>?_,fun x hx=>?_⟩
 ·have:=k.n s hs;unfold dA;omega
 ·have:=k.e x hx;unfold oD dA;omega
def JY(w:World)(N:List Txt)(E:List Ed)(e:Ending)(w':World):Prop:=
 (eG (gN N E) (gE E)=0∧∃A c B d,e=.returned (.tuple #[dX A (gN N E).length c B (gE E).length d,.int .i64 0])∧w'.ownsRow w.heap.size 9 1 (.slice A (gN N E).length c) (gN N E).length (aG (gN N E))∧w'.ownsRow w.heap.size 23 3 (.slice B (gE E).length d) (gE E).length (aT (gE E))∧Below w.heap.size w w') ∨
 (eG (gN N E) (gE E)≠0∧e=.returned (.tuple #[dX none 0 0 none 0 0,.int .i64 (eG (gN N E) (gE E))])∧Below w.heap.size w w')
theorem JZ(w:World)(base:Nat)(v:Value)(L:List Txt)(own:w.ownsRow base 9 1 v L.length (aG L))(s t:Txt)(hl:(L.length+2)*16≤140737488355328)(hb:base≤w.heap.size) :
  ∃v' w',(Builtin.append_ #[34,34] 34 #[v,.slice (some ⟨w.heap.size,0,none⟩) 2 2]).run Tryz.prog (w.alloc (.cells #[.string s,.string t] 9))=.ok v' w'∧w'.ownsRow base 9 1 v' (L++[s,t]).length (aG (L++[s,t]))∧Below base w w':=by
 obtain⟨v',w',happ,own',up,-⟩:=dB w base 34 9 1 16 _ Tryz.underlying34 dE rfl (by decide) v L.length _ own [.string s,.string t] 2 rfl (by simp;exact⟨rfl,rfl⟩) hl (by unfold maxLen;omega) hb;refine⟨v',w',happ,?_,up.below (fun k _ e=>(own.lt k e).1) hb⟩;rw[List.length_append,aG,List.map_append];exact own'
theorem DU{N:List Txt}{E:List Ed}{k:Nat}{x:Ed}(h:E[k]?=some x):rS N (E.take (k+1))=rS N (E.take k)++[x.fr,x.to]:=by
 rw[rS,rS,fQ h,List.flatMap_append,List.append_assoc];rfl

theorem KA(w:World)(A:Option Addr)(c:Nat)(B:Option Addr)(d:Nat)(N:List Txt)(E:List Ed)(h:qL w A c B d N E)(hs:kW N E)(hb:(N.length+E.length*2)*16≤140737488355328) :
  Calls Tryz.prog 147 #[.slice A N.length c,.slice B E.length d] w (JY w N E):=by
 have k0:=Blk.new w 52 #[.slice none 0 0,.slice none 0 0];have u0:Below w.heap.size w (w.alloc (.cells #[.slice none 0 0,.slice none 0 0] 52)):=bR.alloc (Nat.le_refl _) _;have he:E.length*48≤140737488355328:=h.fit.e;have hn:N.length*16≤140737488355328:=h.fit.n;have HB:=hIz (show ∀(j:Nat) (x:Ed),E[j]?=some x→∃b o,B=some ⟨b,o,none⟩∧b<w.heap.size from fun j x hx=>by obtain⟨b,o,e,y0,-⟩:=h.re.ed hx;exact⟨b,o,e,World.block_lt_of_cell? _ _ y0⟩);have H:=aI4 (h.below u0) k0 u0 hs;clear h k0 u0 hs;go_enter Tryz.func147,Tryz.ntmps147;go_upto_region 1 with (fail);generalize w.alloc (.cells #[.slice none 0 0,.slice none 0 0] 52)=W0 at H ⊢;have hz0:w.heap.size+1≤W0.heap.size:=H.out.2.1.lt;go_wp2_with fail;refine(eP W0 A c N H.out.1.rn hn).mono ?_;rintro e w1 ⟨v,rfl,own1,b1⟩;obtain⟨A1,c1,rfl,-,-⟩:=aH own1;have H1:=aI2 own1 b1;clear own1 b1;go_wp2_with fail;go_loopw [6,8,15] (fun v _ i wr=>∃k:Nat,k≤E.length∧i=.int .i64 k∧Hid (Below W0.heap.size W0 wr)∧Hid (wr.ownsRow W0.heap.size 9 1 v (rS N (E.take k)).length (aG (rS N (E.take k))))) (fun _ _ i _=>E.length-(intOf i).toNat)
 case atStart=>exact⟨0,Nat.zero_le _,rfl,hIz H1.out.2,hIz (by simpa[rS] using H1.out.1)⟩
 case round =>
  obtain⟨k,hk,rfl,hbw,how⟩:=hrel;obtain⟨A5,c5,rfl,-,-⟩:=aH how.out;have hal:=rT N (E.take k);have htl:(E.take k).length≤k:=by rw[List.length_take];omega
  obtain⟨n5,hn5⟩:∃n5,(rS N (E.take k)).length=n5:=⟨_,rfl⟩;by_cases hlt:k<E.length
  ·have hltI:(k:Int)<(E.length:Int):=by omega
   have hkw:IntKind.i64.wrap ((k:Int)+1)=(k:Int)+1:=IntWalk.i64_in _ (by omega);obtain⟨⟨s0,s1,s2⟩,hx⟩:∃x,E[k]?=some x:=⟨E[k],gEz _⟩;obtain⟨ab,ao,rfl,hab⟩:=HB.out k _ hx;obtain⟨ab',ao',e,y0,y1,y2⟩:=H.out.1.re.ed hx;injection e with e;injection e with e e2;subst e;subst e2;dsimp only at y0 y1 y2
   have cc:=fun i=>hbw.out.cell (p:=⟨ab,i,none⟩) (by show ab<_;omega)
   have x0:=(cc _).trans y0;have x1:=(cc _).trans y1;have x2:=(cc _).trans y2;have kx:=Blk.new wr 23 #[.string s0,.string s1,.string s2];have bx:Below wr.heap.size wr (wr.alloc (.cells #[.string s0,.string s1,.string s2] 23)):=bR.alloc (Nat.le_refl _) _;have ox:=how.out.alloc (.cells #[.string s0,.string s1,.string s2] 23);have HX:=aI4 hx kx (tHn hbw.out bx) ox;clear hx kx bx ox y0 y1 y2 cc;go_upto_region 5 with (fail);generalize wr.alloc (.cells #[.string s0,.string s1,.string s2] 23)=W5 at HX ⊢;clear x0 x1 x2;have x0:W5.cell? ⟨wr.heap.size,0,none⟩=some (.string s0):=HX.out.2.1.cell 0;have x2:W5.cell? ⟨wr.heap.size,2,none⟩=some (.string s2):=HX.out.2.1.cell 2;obtain⟨v6,w6,happ,own6,b6⟩:=JZ W5 W0.heap.size _ _ HX.out.2.2.2 s0 s2 (by omega) HX.out.2.2.1.size;rw[hn5] at happ ⊢;have H6:=aI2 own6 (HX.out.2.2.1.trans b6);clear own6 b6 hn5 hal;go_wp2_with (at_builtin;refine wpList_append_run rfl _ _ _ rfl rfl rfl happ ?_);go_roundw
   case rel=>exact⟨k+1,by omega,by go_num,hIz H6.out.2,hIz (by rw[DU HX.out.1];exact H6.out.1)⟩
   case measure=>simp[intOf];omega
  ·obtain rfl:k=E.length:=by omega
   obtain⟨W4,hW4⟩:∃W,W=wr:=⟨_,rfl⟩;subst hW4;have ow:=how.out;rw[List.take_length] at ow hn5;have rw4:=bO.of_own ow;have hl5:(rS N E).length*16≤140737488355328:=by rw[rT];exact hb
   have hsT:=AH W4 A5 c5 (rS N E) rw4 hl5;rw[hn5] at hsT;rw[List.take_length,hn5];have HT:=hIz hsT;have H4:=hIz hbw.out;clear ow hn5 rw4 hsT how hbw hal htl hk hlt hl5;go_wp2_with fail;refine HT.out.mono ?_;rintro e w5 ⟨M,hM,hMl,v5,rfl,own5,b5⟩;have eM:M=gN N E:=hM.is gJ;have H5:=aI3 own5 (tHn H4.out b5) eM;have hM16:M.length*16≤140737488355328:=by rw[rT] at hMl;omega
   clear hM hMl own5 b5 eM;go_wp2_with fail;refine(DT w5 B d E (H.out.1.below H5.out.2.1).re he).mono ?_;rintro e w6 ⟨F,hF,hFl,v6,rfl,own6,b6⟩;have eF:F=gE E:=hF.is qI;have hF48:F.length*48≤140737488355328:=by omega
   obtain⟨A6,c6,rfl,hc6,-⟩:=aH H5.out.1;obtain⟨A7,c7,rfl,hc7,-⟩:=aH own6;have o5:=aB H5.out.1 (upF b6) (fun _ _=>id);have H6:=aI6 o5 own6 (tHn H5.out.2.1 b6) eF hc6 hc7;clear hF hFl own6 b6 eF o5 hc6 hc7;go_upto_region 8 with (fail);have k7:=Blk.new w6 52 #[.slice A6 M.length c6,.slice A7 F.length c7];have b7:Below w6.heap.size w6 (w6.alloc (.cells #[.slice A6 M.length c6,.slice A7 F.length c7] 52)):=bR.alloc (Nat.le_refl _) _;have o7:=H6.out.1.alloc (.cells #[.slice A6 M.length c6,.slice A7 F.length c7] 52);have o8:=H6.out.2.1.alloc (.cells #[.slice A6 M.length c6,.slice A7 F.length c7] 52);have H7:=aI4 k7 o7 o8 (tHn H6.out.2.2.1 b7);clear k7 b7 o7 o8;generalize w6.alloc (.cells #[.slice A6 M.length c6,.slice A7 F.length c7] 52)=W7 at H7 ⊢;have q0:W7.cell? ⟨w6.heap.size,0,none⟩=some (.slice A6 M.length c6):=H7.out.1.cell 0;have q1:W7.cell? ⟨w6.heap.size,1,none⟩=some (.slice A7 F.length c7):=H7.out.1.cell 1;have hG:qL W7 A6 c6 A7 c7 M F:=⟨bO.of_own H7.out.2.1,bO.of_own H7.out.2.2.1,H6.out.2.2.2.2.1,H6.out.2.2.2.2.2,JX H.out.2.2.2 H5.out.2.2 H6.out.2.2.2.1 hM16 hF48⟩;have hsh:kW M F:=by rw[H5.out.2.2,H6.out.2.2.2.1];exact qQ H.out.2.2.2
   have HG:=aI2 hG hsh;clear hG hsh;go_wp2_with fail;refine(yF W7 A6 c6 A7 c7 M F HG.out.1 HG.out.2).mono ?_;rintro e w8 ⟨rfl,b8⟩;have bb:=tHn H7.out.2.2.2 b8;have k8:=H.out.2.1.upd (upF bb) id;have c0:w8.cell? ⟨w.heap.size,0,none⟩=some (.slice none 0 0):=k8.cell 0;have c1':w8.cell? ⟨w.heap.size,1,none⟩=some (.slice none 0 0):=k8.cell 1;have f0:=k8.frozen 0;have f1:=k8.frozen 1;have k9:=H7.out.1.upd (upF b8) id;have bw:Below w.heap.size w w8:=H.out.2.2.1.trans (bb.mono (by omega));have oT:=aB H7.out.2.1 (upF b8) (fun _ _=>id);have oE:=aB H7.out.2.2.1 (upF b8) (fun _ _=>id);have z7:=H4.out.size;have z5:=H5.out.2.1.size;have fin:∀v0 v1:Value,(w8.setCell ⟨w.heap.size,0,none⟩ v0).setCell ⟨w.heap.size,1,none⟩ v1=(w8.setCell ⟨w.heap.size,0,none⟩ v0).setCell ⟨w.heap.size,1,none⟩ v1∧Blk ((w8.setCell ⟨w.heap.size,0,none⟩ v0).setCell ⟨w.heap.size,1,none⟩ v1) w.heap.size 52 #[v0,v1]∧Upd (fun q=>q=w.heap.size) w8 ((w8.setCell ⟨w.heap.size,0,none⟩ v0).setCell ⟨w.heap.size,1,none⟩ v1):=fun v0 v1 =>
    ⟨rfl,(k8.set 0 v0).set 1 v1,((Upd.refl (fun q=>q=w.heap.size) w8).setCell (p:=⟨w.heap.size,0,none⟩) (.inl rfl) v0).setCell (p:=⟨w.heap.size,1,none⟩) (.inl rfl) v1⟩
   obtain⟨cp,hcp⟩:∃cp,eG M F=cp:=⟨_,rfl⟩;have hcg:eG (gN N E) (gE E)=cp:=by rw[← H5.out.2.2,← H6.out.2.2.2.1];exact hcp
   rw[hcp];by_cases h0:cp=0
   ·subst h0;obtain⟨-,kF,uF⟩:=fin (.slice A6 M.length c6) (.slice A7 F.length c7);have e0:=kF.cell 0;have e1:=kF.cell 1;simp only[List.getElem?_toArray,List.getElem?_cons_succ,List.getElem?_cons_zero] at e0 e1
    have q0:w8.cell? ⟨w6.heap.size,0,none⟩=some (.slice A6 M.length c6):=k9.cell 0;have q1:w8.cell? ⟨w6.heap.size,1,none⟩=some (.slice A7 F.length c7):=k9.cell 1;have post:JY w N E (.returned (.tuple #[dX A6 M.length c6 A7 F.length c7,.int .i64 0])) ((w8.setCell ⟨w.heap.size,0,none⟩ (.slice A6 M.length c6)).setCell ⟨w.heap.size,1,none⟩ (.slice A7 F.length c7)):=by
     refine .inl ⟨hcg,A6,c6,A7,c7,by rw[← H5.out.2.2,← H6.out.2.2.2.1],?_,?_,bw.trans (uF.below (fun q _ e=>by omega) bw.size)⟩
     ·rw[← H5.out.2.2];exact bC (aB oT uF (fun q hq e=>by have:=(oT.lt q hq).1;omega)) (fun q hq=>by have:=(oT.lt q hq).1;omega)
     ·rw[← H6.out.2.2.2.1];exact bC (aB oE uF (fun q hq e=>by have:=(oE.lt q hq).1;omega)) (fun q hq=>by have:=(oE.lt q hq).1;omega)
    have FIN:=hIz post;clear post kF uF fin hcp hcg oT oE k8 k9 bb bw b8;go_wp2;refine bodyPost_ret (v:=.tuple #[dX A6 M.length c6 A7 F.length c7,.int .i64 0]) (by simp[results,Tryz.f147,go_sem,dX,e0,e1]) rfl FIN.out
   ·obtain⟨-,kF,uF⟩:=fin (.slice none 0 0) (.slice none 0 0);have e0:=kF.cell 0;have e1:=kF.cell 1;simp only[List.getElem?_toArray,List.getElem?_cons_succ,List.getElem?_cons_zero] at e0 e1
    have post:JY w N E (.returned (.tuple #[dX none 0 0 none 0 0,.int .i64 cp])) ((w8.setCell ⟨w.heap.size,0,none⟩ (.slice none 0 0)).setCell ⟨w.heap.size,1,none⟩ (.slice none 0 0)):=
     .inr ⟨by rw[hcg];exact h0,by rw[hcg],bw.trans (uF.below (fun q _ e=>by omega) bw.size)⟩
    have FIN:=hIz post;have hne:(cp==0)=false:=by simpa using h0
    have hne2:(cp != 0)=true:=by simpa using h0
    clear post kF uF fin hcp hcg oT oE k8 k9 bb bw b8 h0;go_wp2;refine bodyPost_ret (v:=.tuple #[dX none 0 0 none 0 0,.int .i64 cp]) (by simp[results,Tryz.f147,go_sem,dX,e0,e1]) rfl FIN.out
open Go.Shelf
def uK:Go.Shelf.Ren:=⟨fun | 4=>168 | n=>n,fun | 0=>0 | 3=>3 | 4=>4 | 9=>9 | 20=>20 | 22=>34 | 25=>9 | n=>n,fun n=>n⟩
theorem RJ:Lays8.n4 Tryz.prog uK:={
 mixed:=(by kernel_rfl)
 f4:=⟨Tryz.f168.name,by decide,Tryz.func168.trans (congrArg some (by kernel_rfl))⟩
 t0:=Tryz.underlying0
 a0:=Tryz.isAgg0
 z0:=Tryz.sizeOf0
 v0:=Tryz.zeroValue0
 t3:=Tryz.underlying3
 a3:=Tryz.isAgg3
 z3:=Tryz.sizeOf3
 v3:=Tryz.zeroValue3
 t4:=Tryz.underlying4
 a4:=Tryz.isAgg4
 z4:=Tryz.sizeOf4
 v4:=Tryz.zeroValue4
 t9:=Tryz.underlying9
 a9:=Tryz.isAgg9
 z9:=Tryz.sizeOf9
 v9:=Tryz.zeroValue9
 t20:=Tryz.underlying20
 a20:=Tryz.isAgg20
 z20:=Tryz.sizeOf20
 v20:=Tryz.zeroValue20
 t22:=Tryz.underlying34
 a22:=Tryz.isAgg34
 z22:=Tryz.sizeOf34
 v22:=Tryz.zeroValue34 }
def uL:Go.Shelf.Ren:=⟨fun | 4=>169 | n=>n,fun | 0=>0 | 3=>3 | 4=>4 | 9=>9 | 20=>20 | 22=>40 | 25=>23 | n=>n,fun n=>n⟩
theorem RK:Lays8.n4 Tryz.prog uL:={
 mixed:=(by kernel_rfl)
 f4:=⟨Tryz.f169.name,by decide,Tryz.func169.trans (congrArg some (by kernel_rfl))⟩
 t0:=Tryz.underlying0
 a0:=Tryz.isAgg0
 z0:=Tryz.sizeOf0
 v0:=Tryz.zeroValue0
 t3:=Tryz.underlying3
 a3:=Tryz.isAgg3
 z3:=Tryz.sizeOf3
 v3:=Tryz.zeroValue3
 t4:=Tryz.underlying4
 a4:=Tryz.isAgg4
 z4:=Tryz.sizeOf4
 v4:=Tryz.zeroValue4
 t9:=Tryz.underlying9
 a9:=Tryz.isAgg9
 z9:=Tryz.sizeOf9
 v9:=Tryz.zeroValue9
 t20:=Tryz.underlying20
 a20:=Tryz.isAgg20
 z20:=Tryz.sizeOf20
 v20:=Tryz.zeroValue20
 t22:=Tryz.underlying40
 a22:=Tryz.isAgg40
 z22:=Tryz.sizeOf40
 v22:=Tryz.zeroValue40 }
end Go.Proofs.YtnokckdkaifibaaGreatDoor
