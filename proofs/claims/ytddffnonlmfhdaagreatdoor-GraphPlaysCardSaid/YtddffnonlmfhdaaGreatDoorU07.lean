/- Graphs: New, Of, Nodes, Node; clones; Edges: cut to what this seat wants; Edges: cut to what this seat wants; Graphs that grow: what comes edge by edge; what is refused or comes again (the plain law); Graphs: Of; Graphs: Copy; Graphs: Out; Graphs: In, Len, Labels; The bits of a word, counted by halves (plain arithmetic). Nothing here names the program; Blocks of bits: counting a word's bits; Blocks of bits: how many cells. -/
import Derived.Shelf.SlMaps.Clone
import Derived.Test.YtddffnonlmfhdaaGreatDoorU06
import Derived.WalkKit
import Derived.Laws.Bits64b
import Derived.Lib.Hide
import Derived.Test.YtddffnonlmfhdaaGreatDoorU01
import Derived.Deep.MidRow
set_option linter.unusedVariables false
set_option linter.unusedSimpArgs false
set_option maxHeartbeats 16000000
set_option maxRecDepth 100000
namespace Go.Proofs.YtddffnonlmfhdaaGreatDoor
open Go.RowKit
def QB(w:World)(L:List Hp)(e:Ending)(w':World):Prop:=∃v,e=.returned v∧w'.ownsRow w.heap.size 103 2 v L.length (aK L)∧Below w.heap.size w w'
theorem nE(w:World)(A:Option Addr)(c:Nat)(L:List Hp)(h:aV w A (aK L))(hl:L.length*24≤140737488355328) :
  Calls Tryz.prog 51 #[.slice A L.length c] w (QB w L):=by
 have heq:=fun (A:Option Addr) (n c n' c':Nat) (w:World)=>Lib.run_eql_slice_nil (P:=Tryz.prog) w 99 103 A n c n' c' Tryz.underlying99
 rcases A with _|⟨gb,go,sp⟩
 ·have hL:L=[]:=by
   cases L with
   | nil=>rfl
   | cons s L=>obtain⟨b,o,e,-⟩:=h 0 (.string s.lb) rfl;cases e
  subst hL;clear h hl;go_enter Tryz.func51,Tryz.ntmps51;go_wp2;go_ret;exact⟨_,rfl,World.ownsRow_nil _ _ _ _,Below.refl _ _⟩
 ·obtain⟨i0,hi0,hz0,hz1,hz2⟩:=info_parts iS;have b1:Below w.heap.size w (w.alloc (.cells #[] 103)):=bR.alloc (Nat.le_refl _) _;have hr:=(h.below b1).reads (dC L) (by decide);have own:(w.alloc (.cells #[] 103)).ownsRow w.heap.size 103 2 (.slice (some ⟨w.heap.size,0,none⟩) 0 0) 0 []:=⟨rfl,.inr ⟨w.heap.size,0,#[],rfl,Nat.le_refl _,heap_alloc_new w _,Nat.le_refl _,by decide,rfl,rfl⟩⟩;obtain⟨v',w',happ,own',gr,-,-⟩:=run_append_own_at (P:=Tryz.prog) (w.alloc (.cells #[] 103)) w.heap.size 99 99 103 i0 _ 2 24 Tryz.underlying99 hi0 hz0 hz1 hz2 rfl (by decide) (.slice (some ⟨w.heap.size,0,none⟩) 0 0) 0 [] own ⟨gb,go,sp⟩ L.length c (aK L) (dC L) (hr.2.2 _ rfl) (AU L) (by unfold maxLen;omega) (by omega) (by simp);have fin:QB w L (.returned v') w':=⟨v',rfl,by simpa using own',b1.grown gr (by simp) (fun k hk=>by simp[Value.ownBlock] at hk;omega)⟩;have FIN:=hIz fin;clear fin own own' gr hr b1 hi0 hz0 hz1 hz2 h;go_enter Tryz.func51,Tryz.ntmps51;go_wp2_with (at_builtin;refine wpList_append_run rfl _ _ _ rfl rfl rfl happ ?_);go_ret;exact FIN.out

def fB(B:Nat)(p:Nat)(G:Gr)(w':World):Prop:=∃F,GrS w' F p G∧(∀k,F k→B≤k)
theorem fB.step{B p:Nat}{G':Gr}{w w':World}{F:Nat→Prop}(hF:∀k,F k→B≤k)(hB:B≤w.heap.size)(h:yX w F p G' w'):fB B p G' w'∧Below B w w':=by
 obtain⟨F',g,u,n⟩:=h;refine⟨⟨F',g,fun k hk=>?_⟩,u.below (fun i _ hi=>hF i hi) hB⟩;rcases n k hk with h|h
 ·exact hF k h
 ·omega
theorem fB.below{B p:Nat}{G:Gr}{w w':World}(h:fB B p G w)(hb:Below w.heap.size w w'):fB B p G w':=by
 obtain⟨F,g,n⟩:=h;exact⟨F,g.below hb,n⟩
def GI(w:World)(G:Gr)(f:Value→Value)(e:Ending)(w':World):Prop:=∃p,e=.returned (f (.pointer (some ⟨p,0,none⟩)))∧fB w.heap.size p G w'∧Below w.heap.size w w'
theorem LI(w:World):fB w.heap.size (w.heap.size+1) ⟨[],[]⟩ ((w.alloc (.map #[] 0)).alloc (.cells #[.slice none 0 0,.map (some w.heap.size),.slice none 0 0,.slice none 0 0,.int .i64 0] 108)):=by
 have k1:=Blk.new (w.alloc (.map #[] 0)) 108 #[.slice none 0 0,.map (some w.heap.size),.slice none 0 0,.slice none 0 0,.int .i64 0];have hz:(w.alloc (.map #[] 0)).heap.size=w.heap.size+1:=by simp
 rw[hz] at k1;refine⟨fun k=>(if k=w.heap.size+1 then some Ro.p else if k=w.heap.size then some Ro.m else none)≠none,⟨fun _=>[],fun _=>[],⟨fun k=>if k=w.heap.size+1 then some Ro.p else if k=w.heap.size then some Ro.m else none,⟨w.heap.size,.slice none 0 0,.slice none 0 0,.slice none 0 0,fun _=>.slice none 0 0,fun _=>.slice none 0 0⟩,⟨k1,(cX.made w _ _).alloc _,World.ownsRow_nil _ _ _ _,World.ownsRow_nil _ _ _ _,World.ownsRow_nil _ _ _ _,fun _=>World.ownsRow_nil _ _ _ _,fun _=>World.ownsRow_nil _ _ _ _,if_pos rfl,?_,?_,?_,?_,?_,?_,?_,fun _ _=>⟨rfl,rfl⟩⟩,rfl⟩,dL.new⟩,?_⟩
 ·show(if w.heap.size=w.heap.size+1 then some Ro.p else if w.heap.size=w.heap.size then some Ro.m else none)=some Ro.m
  rw[if_neg (by omega),if_pos rfl]
 ·intro k hk;simp[Value.ownBlock] at hk
 ·intro k hk;simp[Value.ownBlock] at hk
 ·intro k hk;simp[Value.ownBlock] at hk
 ·intro j k hk;simp[Value.ownBlock] at hk
 ·intro j k hk;simp[Value.ownBlock] at hk
 ·intro k hk;simp only[World.size_alloc] at *
  split at hk
  ·omega
  split at hk
  ·omega
  ·exact absurd rfl hk
 ·intro k hk;split at hk
  ·omega
  split at hk
  ·omega
  ·exact absurd rfl hk
theorem BK(w:World):Calls Tryz.prog 10 #[] w (GI w ⟨[],[]⟩ id):=by
 have FIN:=hIz (LI w);have HB:=hIz (show Below w.heap.size w ((w.alloc (.map #[] 0)).alloc (.cells #[.slice none 0 0,.map (some w.heap.size),.slice none 0 0,.slice none 0 0,.int .i64 0] 108)) from(bR.alloc (Nat.le_refl _) _).alloc (by simp) _);have hmm:=@run_makeMap Tryz.prog;go_enter Tryz.func10,Tryz.ntmps10;go_wp2;go_ret;exact⟨_,rfl,FIN.out,HB.out⟩
theorem GJ(w:World)(F:Nat→Prop)(p:Nat)(G:Gr)(h:GrS w F p G)(ok:GOk G):Calls Tryz.prog 37 #[.pointer (some ⟨p,0,none⟩)] w (jW w G.N):=by
 obtain⟨U,V,⟨O,⟨r,nv,ov,iv,fo,fi⟩,hg,-⟩,-⟩:=h;have hN:=ok.few.1;have q1:w.cell? ⟨p,1,none⟩=some (.map (some r)):=hg.blk.cell 1;obtain⟨nA,nc,e1,-,-⟩:=aG hg.rn;dsimp only at e1
 subst e1;have hcon:=eY w nA nc G.N (aV.of_own hg.rn) (by omega);obtain⟨n,hn⟩:∃n,G.N.length=n:=⟨_,rfl⟩;have q0:w.cell? ⟨p,0,none⟩=some (.slice nA n nc):=by rw[← hn];exact hg.blk.cell 0
 rw[hn] at hcon;clear hg hn hN;go_enter Tryz.func37,Tryz.ntmps37;go_wp2_with fail;refine(dQ w p r q1).mono ?_;rintro e w' ⟨rfl,hw⟩;subst w';go_wp2_with fail;refine hcon.mono ?_;rintro e w' ⟨v,rfl,o,b⟩;have FIN:=hIz (show jW w G.N (.returned v) w' from⟨v,rfl,o,b⟩);clear o b hcon;go_wp2;go_ret;exact FIN.out
def MZ(N:List Txt)(s:Txt):Value:=if inB s N=true then .tuple #[.int .i64 (cS N s),.int .i64 0] else .tuple #[.int .i64 0,.int .i64 4]
theorem BL(w:World)(F:Nat→Prop)(p:Nat)(G:Gr)(h:GrS w F p G)(ok:GOk G)(s:Txt)(hk:cT s):Calls Tryz.prog 41 #[.pointer (some ⟨p,0,none⟩),.string s] w (eJ w (MZ G.N s)):=by
 obtain⟨U,V,⟨O,⟨r,nv,ov,iv,fo,fi⟩,hg,-⟩,-⟩:=h;have hN:=ok.few.1;have q1:w.cell? ⟨p,1,none⟩=some (.map (some r)):=hg.blk.cell 1;have l0:=fX hg.map s hk;unfold MZ;by_cases hs:s∈G.N
 ·rw[if_pos (aQ.2 hs)];have hlt:=eT hs;rw[lU hs] at l0;generalize cS G.N s=i at l0 hlt ⊢;have z0:((i:Int)+1==0)=false:=by simp;omega
  have w0:IntKind.i64.wrap (i:Int)=(i:Int):=IntWalk.i64_in _ (by omega);clear hg;go_enter Tryz.func41,Tryz.ntmps41;go_wp2_with fail;refine(dQ w p r q1).mono ?_;rintro e w' ⟨rfl,hw⟩;subst w';go_wp2;refine bodyPost_ret (v:=.tuple #[.int .i64 (i:Int),.int .i64 0]) (by simp[results,Tryz.f41,go_sem]) rfl ⟨rfl,rfl⟩
 ·rw[if_neg (fun e=>hs (aQ.1 e))];rw[nD hs] at l0;clear hg;go_enter Tryz.func41,Tryz.ntmps41;go_wp2_with fail;refine(dQ w p r q1).mono ?_;rintro e w' ⟨rfl,hw⟩;subst w';go_wp2;refine bodyPost_ret (v:=.tuple #[.int .i64 0,.int .i64 4]) (by simp[results,Tryz.f41,go_sem]) rfl ⟨rfl,rfl⟩
theorem BM(w:World)(b:Nat)(es:Array MapEntry)(clock:Nat)(hb:w.heap[b]?=some (.map es clock)) :
  Calls Tryz.prog 50 #[.map (some b)] w fun e w'=>e=.returned (.map (some w.heap.size))∧w'=w.alloc (.map es clock):=by
 have hq:=fun w=>run_eql_map_nil_sl (P:=Tryz.prog) w 105 _ _ (some b) Tryz.underlying105
 go_enter Tryz.func50,Tryz.ntmps50;go_wp2;rw[run_callFunc_extern Tryz.func96 (by kernel_rfl) (by kernel_rfl) (by kernel_rfl) (e:=Extern.MapsClone.clone) (by kernel_rfl),run_maps_clone_sl w 105 hb];simp only[Result.andThen]
 rw[Oper.upon_value];go_wp2;rw[run_typeAssert_map_sl _ 105 20 _ _ _ Tryz.underlying105];simp only[Result.andThen]
 rw[Oper.upon_value];go_wp2;go_ret;exact⟨rfl,rfl⟩
open Go.RowKit
theorem nG{N:List Txt}{E:List Ed}(h:fL N E=true):cL ltT N∧cL ltE E∧∀x∈E,x.fr∈N∧x.to∈N:=by
 unfold fL at h;rw[Bool.and_eq_true,Bool.and_eq_true,List.all_eq_true] at h;refine⟨eR dW h.1,eR jR h.2.1,fun x hx=>?_⟩;have:=h.2.2 x hx;unfold fD at this;rw[Bool.and_eq_true,aQ,aQ] at this;exact this
theorem LJ{N M:List Txt}{E:List Ed}(h:cL ltT N)(_he:∀x∈E,x.fr∈N∧x.to∈N)(hm:∀s,s∈N↔s∈M∨∃x∈E,s=x.fr∨s=x.to):gN M E=N:=
 kK dW (fJ h) (fun s=>(hm s).trans nW.symm)
theorem LK{E:List Ed}(h:cL ltE E):gE E=E:=kK jR (fJ h) (fun _=>Iff.rfl)
theorem GK{N M:List Txt}{E:List Ed}(h:bP N E=0)(hM:∀s,s∈N↔s∈M∨∃x∈E,s=x.fr∨s=x.to):ofI M E=0∧gN M E=N∧gE E=E:=by
 obtain⟨h1,h2,h3⟩:=eI h;obtain⟨f1,f2,f3⟩:=nG h1;have e1:=LJ f1 f3 hM;have e2:=LK f2;refine⟨?_,e1,e2⟩;have hn:=cU.1 h2;have hn':bT M E=true:=cU.2 ⟨fun s hs=>hn.1 s ((hM s).2 (.inl hs)),hn.2⟩;rw[ofI,if_neg (by rw[hn'];simp),e1,e2,h3]
theorem iW{N:List Txt}{E:List Ed}(h:ofI N E=0):bP (gN N E) (gE E)=0:=by
 have hn:=cU.1 (fP h);have u1:=(aZ dW (jZ N E)).up;have u2:=(aZ jR E).up;have hf:fL (gN N E) (gE E)=true:=by
  unfold fL;rw[Bool.and_eq_true,Bool.and_eq_true,List.all_eq_true];refine⟨fJ u1,fJ u2,fun x hx=>?_⟩;unfold fD;rw[Bool.and_eq_true,aQ,aQ];have:=fO.1 hx;exact⟨kE.2 (.inr ⟨x,this,.inl rfl⟩),kE.2 (.inr ⟨x,this,.inr rfl⟩)⟩
 have hm:bT (gN N E) (gE E)=true:=by
  refine cU.2 ⟨fun s hs=>?_,fun x hx=>hn.2 x (fO.1 hx)⟩;rcases kE.1 hs with h1|⟨x,hx,rfl|rfl⟩
  ·exact hn.1 s h1
  ·exact(hn.2 x hx).1
  ·exact(hn.2 x hx).2.2
 rw[bP,if_neg (by rw[hf];simp),if_neg (by rw[hm];simp),rF h]
open Go.RowKit
theorem LM{N M:List Txt}{E F:List Ed}(h:bP N E=0)(hN:∀s,s∈M↔s∈N)(hE:∀x,x∈F↔x∈E):ofI M F=0∧gN M F=N∧gE F=E:=by
 obtain⟨f1,f2,f3⟩:=nG (eI h).1;obtain⟨a,b,c⟩:=GK h (M:=N) (fun s=>⟨.inl,fun hs=>by
  rcases hs with hs|⟨x,hx,rfl|rfl⟩
  ·exact hs
  ·exact(f3 x hx).1
  ·exact(f3 x hx).2⟩)
 have hends:∀s,(s∈M∨∃x∈F,s=x.fr∨s=x.to)↔(s∈N∨∃x∈E,s=x.fr∨s=x.to):=fun s=>by
  constructor
  ·rintro (hs|⟨x,hx,hs⟩)
   ·exact .inl ((hN s).1 hs)
   ·exact .inr ⟨x,(hE x).1 hx,hs⟩
  ·rintro (hs|⟨x,hx,hs⟩)
   ·exact .inl ((hN s).2 hs)
   ·exact .inr ⟨x,(hE x).2 hx,hs⟩
 refine⟨?_,by rw[rG hends,b],by rw[rH hE,c]⟩;rw[nB hends hE (fun s hs=>.inl ((hN s).1 hs)) (fun s hs=>.inl ((hN s).2 hs)),a]
open Go.RowKit
theorem vS{G:Gr}{x:Ed}(hx:x ∉ G.X)(h:ofI G.N (G.X++[x])=0):aP G x=(⟨bG (bG G.N x.fr) x.to,G.X++[x]⟩,true,0):=by
 unfold aP;rw[if_neg hx,if_pos h]
theorem yY{G:Gr}{s:Txt}(h:s∈G.N):aS G s=(G,false,0):=by
 unfold aS;rw[if_pos (aQ.2 h)]
theorem tK(G:Gr)(x:Ed):((aP G x).2.1=true→(aP G x).2.2=0)∧((aP G x).2.1=false→(aP G x).1=G)∧((aP G x).2.2=0→x∈(aP G x).1.X)∧(∃M,(aP G x).1.N=G.N++M)∧(∀y∈G.X,y∈(aP G x).1.X)∧((aP G x).2.2≠0→ofI G.N (G.X++[x])≠0)∧((aP G x).2.1=true→x ∉ G.X):=by
 unfold aP;split
 ·rename_i h
  exact⟨fun e=>(by cases e),fun _=>rfl,fun _=>h,⟨[],by simp⟩,fun _ h=>h,fun e=>absurd rfl e,fun e=>by cases e⟩
 split
 ·rename_i h h2
  refine⟨fun _=>rfl,fun e=>(by cases e),fun _=>by simp,?_,fun y hy=>List.mem_append.2 (.inl hy),fun e=>absurd rfl e,fun _=>h⟩;have key:∀(N:List Txt) s,∃M,bG N s=N++M:=fun N s=>by
   unfold bG;split
   ·exact⟨[],by simp⟩
   ·exact⟨[s],rfl⟩
  obtain⟨M,e1⟩:=key G.N x.fr;obtain⟨M',e2⟩:=key (bG G.N x.fr) x.to;exact⟨M++M',by dsimp only;rw[e2,e1,List.append_assoc]⟩
 ·rename_i h h2
  exact⟨fun e=>(by cases e),fun _=>rfl,fun e=>absurd e h2,⟨[],by simp⟩,fun _ h=>h,fun e=>e,fun e=>by cases e⟩
theorem tL(G:Gr)(s:Txt):((aS G s).2.1=true→(aS G s).2.2=0)∧((aS G s).2.1=false→(aS G s).1=G)∧((aS G s).2.2=0→s∈(aS G s).1.N)∧(∃M,(aS G s).1.N=G.N++M)∧(aS G s).1.X=G.X∧((aS G s).2.1=true→s ∉ G.N):=by
 unfold aS;split
 ·rename_i h
  exact⟨fun e=>(by cases e),fun _=>rfl,fun _=>aQ.1 h,⟨[],by simp⟩,rfl,fun e=>by cases e⟩
 split
 ·rename_i h h2
  exact⟨fun _=>rfl,fun e=>(by cases e),fun _=>by simp,⟨[s],rfl⟩,rfl,fun _ hs=>h (aQ.2 hs)⟩
 ·rename_i h h2
  exact⟨fun e=>(by cases e),fun _=>rfl,fun e=>absurd e h2,⟨[],by simp⟩,rfl,fun e=>by cases e⟩
structure PH(G G1 G2:Gr)(m1 m2:Bool)(e1 e2:Int)(x:Ed)(s:Txt):Prop where
 same:pH (datN G2) (datE G2) (datN G) (datE G)=!(m1||m2)
 fair:(m1=true→e1=0)∧(m2=true→e2=0)
 has:e1=0→x∈G2.X
 again:∃e,aP G2 x=(G2,false,e)∧(e1=0→e=0)
 twice:∃e,aS G2 s=(G2,false,e)∧(e2=0→e=0)
 more:∃M,G2.N=G.N++M
 may:bP (datN G2) (datE G2)=0
theorem stays{G:Gr}(ok:GOk G)(x:Ed)(s:Txt):PH G (aP G x).1 (aS (aP G x).1 s).1 (aP G x).2.1 (aS (aP G x).1 s).2.1 (aP G x).2.2 (aS (aP G x).1 s).2.2 x s:=by
 obtain⟨a1,a2,a3,⟨M1,a4⟩,a5,a6,a7⟩:=tK G x;have ok1:=ok.edge x;obtain⟨b1,b2,b3,⟨M2,b4⟩,b5,b6⟩:=tL (aP G x).1 s;have ok2:=ok1.node s;generalize hG1:(aP G x).1=G1 at *;generalize hm1:(aP G x).2.1=m1 at *;generalize he1:(aP G x).2.2=e1 at *;generalize hG2:(aS G1 s).1=G2 at *;generalize hm2:(aS G1 s).2.1=m2 at *;generalize he2:(aS G1 s).2.2=e2 at *;have hin:m1=false→m2=false→G2=G:=fun h1 h2=>(b2 h2).trans (a2 h1)
 refine⟨?_,⟨a1,b1⟩,fun h=>by rw[b5];exact a3 h,?_,?_,⟨M1++M2,by rw[b4,a4,List.append_assoc]⟩,iW ok2.may⟩
 ·cases h1:m1 with
  | true =>
   have hx:=a7 h1;have hx2:x∈G2.X:=by rw[b5];exact a3 (a1 h1)
   have:datE G2≠datE G:=fun e=>hx (fO.1 (by show x∈datE G;rw[← e];exact fO.2 hx2))
   simp[pH,this]
  | false =>
   cases h2:m2 with
   | true =>
    have hs:=b6 h2;rw[a2 h1] at hs;have:datN G2≠datN G:=fun e=>hs ((kG ok).1 (by rw[← e];exact(kG ok2).2 (b3 (b1 h2))))
    simp[pH,this]
   | false =>
    rw[hin h1 h2];simp[pH]
 ·by_cases h:e1=0
  ·exact⟨0,by unfold aP;rw[if_pos (by rw[b5];exact a3 h)],fun _=>rfl⟩
  ·have h1:m1=false:=by
    cases h1:m1 with
    | true=>exact absurd (a1 h1) h
    | false=>rfl
   have hx:x ∉ G2.X:=by
    rw[b5,a2 h1];intro hx;apply h
    rw[← he1];unfold aP;rw[if_pos hx]
   have ho:ofI G2.N (G2.X++[x])≠0:=fun e=>a6 h (BC (fun t ht=>.inl (by rw[b4,a4];simp[ht])) (fun y hy=>by rw[b5,a2 h1];exact hy) e)
   exact⟨_,by unfold aP;rw[if_neg hx,if_neg ho],fun e=>absurd e h⟩
 ·by_cases h:e2=0
  ·exact⟨0,yY (b3 h),fun _=>rfl⟩
  ·have h2:m2=false:=by
    cases h2:m2 with
    | true=>exact absurd (b1 h2) h
    | false=>rfl
   have:=b2 h2;rw[this];refine⟨e2,?_,fun e=>absurd e h⟩;rw[← hm2,← he2] at *;exact Prod.ext (by rw[hG2];exact this) (Prod.ext h2 rfl)
def edW:Ed:=⟨tB,tX,tA⟩
def grW:Gr:=⟨[tB,tA],[edW]⟩
theorem QG:gE [edW]=[edW]:=kK jR rfl (fun _=>Iff.rfl)
theorem QH:gN [] [edW]=[tA,tB]:=by
 refine kK dW (by simp only[upB,ltT,fE];decide) (fun x=>?_);simp only[jZ,edW,gV,List.flatMap_cons,List.flatMap_nil,List.mem_append,List.mem_cons,List.not_mem_nil,or_false]
 constructor
 ·rintro (rfl|rfl) <;> simp
 ·rintro (h|(rfl|rfl)) <;> simp_all
theorem PI:aR ltT (lbs [edW])=[tX]:=by
 refine kK dW rfl (fun x=>?_);simp[lbs,edW]
theorem NV:(jG [tA,tB] [edW]).length≤2048:=by
 unfold jG cB;decide +kernel
theorem PJ:ofI [] [edW]=0:=by
 rw[ofI,if_neg (by decide +kernel),QH,QG,cI,PI];rw[if_neg (by decide),if_neg (by decide),if_neg (by decide),if_neg (Nat.not_lt.2 NV)]
theorem NW:aP ⟨[],[]⟩ edW=(grW,true,0):=by
 rw[vS (by simp) PJ];have h:bG (bG [] edW.fr) edW.to=[tB,tA]:=by
  have h1:bG [] edW.fr=[tB]:=rfl;have h2:inB tA [tB]=false:=by decide +kernel
  rw[h1];show bG [tB] tA=_
  rw[bG,h2];rfl
 dsimp only
 rw[h];rfl
theorem PK:aP grW edW=(grW,false,0):=by
 unfold aP;rw[if_pos (by simp[grW])]
theorem QI:aS grW ⟨#[]⟩=(grW,false,173):=by
 have h1:inB ⟨#[]⟩ grW.N=false:=by decide +kernel
 have h2:bT (grW.N++[⟨#[]⟩]) grW.X=false:=by decide +kernel
 have h3:ofI (grW.N++[⟨#[]⟩]) grW.X=173:=by rw[ofI,if_pos h2]
 unfold aS;rw[h1,h3];rfl
open Go.RowKit
theorem fB.mono{B B' p:Nat}{G:Gr}{w:World}(h:fB B p G w)(hb:B'≤B):fB B' p G w:=by
 obtain⟨F,g,n⟩:=h;exact⟨F,g,fun k hk=>Nat.le_trans hb (n k hk)⟩
theorem tN{N:List Txt}(hd:N.Nodup){k:Nat}{s:Txt}(h:N[k]?=some s):bG (N.take k) s=N.take (k+1):=by
 have hs:s ∉ N.take k:=fun hm=>by
  have e:=List.take_append_drop k N;obtain⟨hk,hk2⟩:=gO.1 h;have hmem:s∈N.drop k:=by
   rw[List.drop_eq_getElem_cons hk,hk2];simp
  rw[← e,List.nodup_append] at hd;exact hd.2.2 s hm s hmem rfl
 unfold bG;rw[if_neg (fun e=>hs (aQ.1 e)),List.take_add_one,h];rfl
theorem BN{N:List Txt}{s:Txt}(h:s∈N):bG N s=N:=by unfold bG;rw[if_pos (aQ.2 h)]
theorem yZ{α:Type}{N:List α}(hd:N.Nodup){k:Nat}{s:α}(h:N[k]?=some s):s ∉ N.take k:=fun hm=>by
 have e:=List.take_append_drop k N;obtain⟨hk,hk2⟩:=gO.1 h;have hmem:s∈N.drop k:=by
  rw[List.drop_eq_getElem_cons hk,hk2];simp
 rw[← e,List.nodup_append] at hd;exact hd.2.2 s hm s hmem rfl
def BO(w:World)(N:List Txt)(E:List Ed)(e:Ending)(w':World):Prop:=
 (bP N E≠0∧e=.returned (.tuple #[.pointer none,.int .i64 (bP N E)])∧Below w.heap.size w w')∨(bP N E=0∧GI w ⟨N,E⟩ (fun v=>.tuple #[v,.int .i64 0]) e w')
theorem zA{B p k:Nat}{N:List Txt}{w:World}(hd:N.Nodup)(h:fB B p ⟨N.take k,[]⟩ w)(hB:B≤w.heap.size){s:Txt}(hs:N[k]?=some s)(hk:cT s)(hl:N.length≤32) :
  Calls Tryz.prog 45 #[.pointer (some ⟨p,0,none⟩),.string s] w (fun e w'=>(∃v,e=.returned v)∧fB B p ⟨N.take (k+1),[]⟩ w'∧Below B w w'):=by
 obtain⟨F,⟨U,V,g,ho⟩,n⟩:=h;refine(nC w F p (N.take k) U V _ s g hk (by rw[List.length_take];omega)).mono ?_;rintro e w' ⟨rfl,F',g',u',n'⟩;have:=fB.step (G':=⟨N.take (k+1),[]⟩) n hB ⟨F',⟨U,V,by rw[tN hd hs] at g';exact g',by have:=ho.node (fun x hx=>by cases hx) s;rw[tN hd hs] at this;exact this⟩,u',n'⟩;exact⟨⟨_,rfl⟩,this⟩
theorem zB{B p k:Nat}{N:List Txt}{E:List Ed}{w:World}(hN:N.Nodup)(hd:E.Nodup)(hends:∀x∈E,x.fr∈N∧x.to∈N)(h:fB B p ⟨N,E.take k⟩ w)(hB:B≤w.heap.size){x:Ed}(hx:E[k]?=some x)(hk:pE x)(hl:N.length≤32)(he:E.length≤256) :
  Calls Tryz.prog 46 #[.pointer (some ⟨p,0,none⟩),x.agg] w (fun e w'=>(∃v,e=.returned v)∧fB B p ⟨N,E.take (k+1)⟩ w'∧Below B w w'):=by
 obtain⟨F,⟨U,V,g,ho⟩,n⟩:=h;have hlt:(E.take k).length≤256:=by rw[List.length_take];omega
 have hUV:=fun k=>ho.len k
 dsimp only at ho hUV
 have hm:=hends x (mG hx);have hts:∀y∈E.take k,y.fr∈N∧y.to∈N:=fun y hy=>hends y (List.mem_of_mem_take hy)
 refine(xB w F p N U V _ x g hk (by omega) (fun k=>⟨ho.up k,by have:=(hUV k).1;omega⟩) (fun k=>⟨ho.vp k,by have:=(hUV k).2;omega⟩) ⟨by omega,by dsimp only;omega⟩).mono ?_;rintro e w' ⟨rfl,F',g',u',n'⟩;have e1:bG (bG N x.fr) x.to=N:=by rw[BN hm.1,BN hm.2]
 rw[e1] at g';have e2:E.take k++[x]=E.take (k+1):=by rw[List.take_add_one,hx];rfl
 have hops:=ho.edge hN hts hm.1 hm.2 (yZ hd hx);rw[e2] at hops;have e3:(((E.take (k+1)).length:Nat):Int)=((E.take k).length:Int)+1:=by rw[← e2];simp
 have:=fB.step (G':=⟨N,E.take (k+1)⟩) n hB ⟨F',⟨_,_,by dsimp only;rw[e3];exact g',hops⟩,u',n'⟩;exact⟨⟨_,rfl⟩,this⟩
theorem LN(w:World)(A:Option Addr)(c:Nat)(B:Option Addr)(d:Nat)(N:List Txt)(E:List Ed)(h:dX w A c B d N E) :
  Calls Tryz.prog 12 #[bQ A N.length c B E.length d] w (BO w N E):=by
 have k0:=Blk.new w 34 #[.slice A N.length c,.slice B E.length d];have u0:Below w.heap.size w (w.alloc (.cells #[.slice A N.length c,.slice B E.length d] 34)):=bR.alloc (Nat.le_refl _) _;have H:=aI3 (h.below u0) k0 u0;clear h k0 u0;obtain⟨z,hz⟩:∃z,bP N E=z:=⟨_,rfl⟩;have HZ:=hIz hz;clear hz;unfold bQ;obtain⟨n,hn⟩:∃n,N.length=n:=⟨_,rfl⟩;obtain⟨m,hm⟩:∃m,E.length=m:=⟨_,rfl⟩;have hche:=fun W hG=>pS W A c B d N E hG
 unfold bQ at hche;rw[hn,hm] at H hche ⊢;have HL:=aI2 hn hm;clear hn hm;go_enter Tryz.func12,Tryz.ntmps12;go_upto_region 1 with (fail);generalize w.alloc (.cells #[.slice A n c,.slice B m d] 34)=W0 at H ⊢;have q0:W0.cell? ⟨w.heap.size,0,none⟩=some (.slice A n c):=H.out.2.1.cell 0;have q1:W0.cell? ⟨w.heap.size,1,none⟩=some (.slice B m d):=H.out.2.1.cell 1;have hcon:=hche W0 H.out.1;rw[HZ.out] at hcon;go_wp2_with fail;refine hcon.mono ?_;clear hcon hche q0 q1;rintro e W1 ⟨rfl,b1⟩;have H1:=aI3 (H.out.1.below b1) (H.out.2.1.upd (upF b1) id) (tHn H.out.2.2 b1);clear b1;by_cases h0:z=0
 ·subst h0;have hc:=eI HZ.out;have hform:=nG hc.1;have hcap:=vQ hc.2.2;have hn32:n≤32:=by rw[← HL.out.1];exact hcap.1
  have hm256:m≤256:=by rw[← HL.out.2];exact hcap.2.2.1
  have HF:=aI4 (hform.1.nodup dW) (hform.2.1.nodup jR) hform.2.2 H.out.1.fit;clear hc hform hcap;go_wp2_with fail;refine(BK W1).mono ?_;rintro e W2 ⟨p,rfl,fr2,b2⟩;have H2:=aI2 fr2 b2;have q0:W2.cell? ⟨w.heap.size,0,none⟩=some (.slice A n c):=(H1.out.2.1.upd (upF b2) id).cell 0;clear b2 fr2;go_wp2_with fail;clear q0;go_loopw [19] (fun i wr=>∃k:Nat,k≤n∧i=.int .i64 k∧Hid (fB W1.heap.size p ⟨N.take k,[]⟩ wr)∧Hid (Below W1.heap.size W1 wr)) (fun i _=>n-(intOf i).toNat)
  case atStart=>exact⟨0,Nat.zero_le _,rfl,hIz H2.out.1,hIz H2.out.2⟩
  case round =>
   obtain⟨k,hk,rfl,hfr,hbw⟩:=hrel;by_cases hlt:k<n
   ·have hltI:(k:Int)<(n:Int):=by omega
    have hkw:IntKind.i64.wrap ((k:Int)+1)=(k:Int)+1:=IntWalk.i64_in _ (by omega);obtain⟨s,hs⟩:∃s,N[k]?=some s:=⟨N[k]'(by rw[HL.out.1];exact hlt),gEz _⟩;obtain⟨ab,ao,rfl,y0⟩:=((H1.out.1.rn.below hbw.out).txt hs);have hcon:=zA HF.out.1 hfr.out hbw.out.size hs (HF.out.2.2.2.tn s (mG hs)) (by rw[HL.out.1];exact hn32);clear hs;go_wp2_with fail;refine hcon.mono ?_;clear hcon y0;rintro e W3 ⟨⟨v,rfl⟩,f3,b3⟩;have HB3:=aI2 f3 (hbw.out.trans b3);clear f3 b3;go_wp2;go_roundw
    case rel=>exact⟨k+1,by omega,by go_num,hIz HB3.out.1,hIz HB3.out.2⟩
    case measure=>simp[intOf];omega
   ·obtain rfl:k=n:=by omega
    have q1:wr.cell? ⟨w.heap.size,1,none⟩=some (.slice B m d):=(H1.out.2.1.upd (upF hbw.out) id).cell 1;have HW:=hIz (show fB W1.heap.size p ⟨N,E.take 0⟩ wr from by
     have:=hfr.out;rw[← HL.out.1,List.take_length] at this;exact this)
    clear hfr;go_wp2_with fail;clear q1;generalize wr=W4 at HW hbw ⊢;go_loopw [30] (fun i wr=>∃k:Nat,k≤m∧i=.int .i64 k∧Hid (fB W1.heap.size p ⟨N,E.take k⟩ wr)∧Hid (Below W1.heap.size W1 wr)) (fun i _=>m-(intOf i).toNat)
    case atStart=>exact⟨0,Nat.zero_le _,rfl,HW,hbw⟩
    case round =>
     obtain⟨j,hj,rfl,hfr,hbz⟩:=hrel;by_cases hjt:j<m
     ·have hjtI:(j:Int)<(m:Int):=by omega
      have hjw:IntKind.i64.wrap ((j:Int)+1)=(j:Int)+1:=IntWalk.i64_in _ (by omega);obtain⟨x,hx⟩:∃x,E[j]?=some x:=⟨E[j]'(by rw[HL.out.2];exact hjt),gEz _⟩;have hxk:=HF.out.2.2.2.te x (mG hx);obtain⟨s0,s1,s2⟩:=x;obtain⟨ab,ao,rfl,y0,y1,y2⟩:=((H1.out.1.re.below hbz.out).ed hx);dsimp only at y0 y1 y2
      have k5:=Blk.new wr 32 #[.string s0,.string s1,.string s2];have u5:Below wr.heap.size wr (wr.alloc (.cells #[.string s0,.string s1,.string s2] 32)):=bR.alloc (Nat.le_refl _) _;have hcon:=zB (w:=wr.alloc (.cells #[.string s0,.string s1,.string s2] 32)) HF.out.1 HF.out.2.1 HF.out.2.2.1 (hfr.out.below u5) (by have:=hbz.out.size;have:=u5.size;omega) hx hxk (by rw[HL.out.1];exact hn32) (by rw[HL.out.2];exact hm256);have HU:=aI2 k5 (tHn hbz.out u5);clear k5 u5 hx;unfold Ed.agg at hcon;dsimp only at hcon
      go_upto_region 13 with (fail);generalize wr.alloc (.cells #[.string s0,.string s1,.string s2] 32)=W6 at HU hcon ⊢;clear y0 y1 y2;have y0:W6.cell? ⟨wr.heap.size,0,none⟩=some (.string s0):=HU.out.1.cell 0;have y1:W6.cell? ⟨wr.heap.size,1,none⟩=some (.string s1):=HU.out.1.cell 1;have y2:W6.cell? ⟨wr.heap.size,2,none⟩=some (.string s2):=HU.out.1.cell 2;go_wp2_with fail;refine hcon.mono ?_;clear hcon y0 y1 y2;rintro e W7 ⟨⟨v,rfl⟩,f7,b7⟩;have HB7:=aI2 f7 (HU.out.2.trans b7);clear f7 b7;go_wp2;go_roundw
      case rel=>exact⟨j+1,by omega,by go_num,hIz HB7.out.1,hIz HB7.out.2⟩
      case measure=>simp[intOf];omega
     ·obtain rfl:j=m:=by omega
      have FIN:=hIz (show BO w N E (.returned (.tuple #[.pointer (some ⟨p,0,none⟩),.int .i64 0])) wr from by
       refine .inr ⟨HZ.out,p,rfl,?_,tHn H1.out.2.2 hbz.out⟩;have:=hfr.out;rw[← HL.out.2,List.take_length] at this;exact this.mono H1.out.2.2.size)
      clear hfr hbz;go_wp2;refine bodyPost_ret (v:=.tuple #[.pointer (some ⟨p,0,none⟩),.int .i64 0]) (by simp[results,Tryz.f12,go_sem]) rfl FIN.out
 ·have h0I:(z==0)=false:=by simpa using h0
  have FIN:=hIz (show BO w N E (.returned (.tuple #[.pointer none,.int .i64 z])) W1 from .inl ⟨by rw[HZ.out];exact h0,by rw[HZ.out],H1.out.2.2⟩);go_wp2;refine bodyPost_ret (v:=.tuple #[.pointer none,.int .i64 z]) (by simp[results,Tryz.f12,go_sem]) rfl FIN.out
open Go.RowKit
structure GrC(w:World)(B:Nat)(O:Nat→Option Ro)(p:Nat)(N:List Txt)(U V:Nat→List Hp)(cnt:Int)(m l:Nat)(D:GrD):Prop where
 blk:Blk w p 108 #[D.nv,.map (some D.r),D.ov,D.iv,.int .i64 cnt]
 map:cX w Tryz.prog 9 D.r (kvN N N.length)
 rn:w.ownsRow 0 9 1 D.nv N.length (aC N)
 ro:w.ownsRow 0 99 1 D.ov m (jK D.fo m)
 ri:w.ownsRow 0 99 1 D.iv l (jK D.fi l)
 fo:∀k,k<m→w.ownsRow 0 103 2 (D.fo k) (U k).length (aK (U k))
 fi:∀k,k<l→w.ownsRow 0 103 2 (D.fi k) (V k).length (aK (V k))
 op:O p=some .p
 om:O D.r=some .m
 on:∀k,D.nv.ownBlock=some k→O k=some .n
 oo:∀k,D.ov.ownBlock=some k→O k=some .o
 ii:∀k,D.iv.ownBlock=some k→O k=some .i
 oU:∀j k,(D.fo j).ownBlock=some k→O k=some (.oo j)
 oV:∀j k,(D.fi j).ownBlock=some k→O k=some (.ii j)
 lt:∀k,O k≠none→k<w.heap.size
 lo:∀k,O k≠none→B≤k
 outO:∀k,m≤k→D.fo k=.slice none 0 0
 outI:∀k,l≤k→D.fi k=.slice none 0 0
theorem GrC.pushO{w V3:World}{B:Nat}{O:Nat→Option Ro}{p:Nat}{N:List Txt}{U V:Nat→List Hp}{cnt:Int}{m l:Nat}{D:GrD}(h:GrC w B O p N U V cnt m l D){v nw:Value}(bs:Nat)
  (hv:V3.ownsRow w.heap.size 103 2 v (U m).length (aK (U m))) (hvl:∀k,v.ownBlock=some k→k<bs) (hbs:w.heap.size≤bs) (u:Upd (fun k=>D.ov.ownBlock=some k) w V3) (o:V3.ownsRow 0 99 1 nw (m+1) (jK D.fo m++[v]))
  (pl:∀k,nw.ownBlock=some k→D.ov.ownBlock=some k∨bs≤k) (hB:B≤w.heap.size):∃O' D',GrC (V3.setCell ⟨p,2,none⟩ nw) B O' p N U V cnt (m+1) l D':=by
 have us:=(Upd.refl (fun k=>k=p) V3).setCell (p:=⟨p,2,none⟩) (.inl rfl) nw;have fresh:∀k,w.heap.size≤k→O k=none:=fun k hk=>by
  cases e:O k with
  | none=>rfl
  | some t=>have:=h.lt k (by simp[e]);omega
 have hnv:∀k,v.ownBlock=some k→O k=none∧w.heap.size≤k∧k<bs:=fun k hk=>⟨fresh k (hv.lt k hk).1,(hv.lt k hk).1,hvl k hk⟩
 have hnw:∀k,nw.ownBlock=some k→O k=some .o∨O k=none∧bs≤k:=fun k hk=>by
  rcases pl k hk with h1|h1
  ·exact .inl (h.oo k h1)
  ·exact .inr ⟨fresh k (by omega),h1⟩
 have keep:∀k t,O k=some t→(t=Ro.o→False)→(if v.ownBlock=some k then some (Ro.oo m) else if nw.ownBlock=some k then some Ro.o else O k)=some t:=fun k t e ht=>by
  rw[if_neg,if_neg,e]
  ·intro hk;rcases hnw k hk with h1|h1
   ·rw[h1] at e;injection e with e;exact ht e.symm
   ·rw[h1.1] at e;cases e
  ·intro hk;rw[(hnv k hk).1] at e;cases e
 have no:∀k t,O k=some t→(t=Ro.o→False)→(t=Ro.p→False)→¬D.ov.ownBlock=some k∧¬k=p:=fun k t e h1 h2 =>
  ⟨fun hk=>(by have:=h.oo k hk;rw[e] at this;injection this with this;exact h1 this),fun hk=>(by rw[hk,h.op] at e;injection e with e;exact h2 e.symm)⟩
 have no1:∀k t,O k=some t→(t=Ro.o→False)→¬D.ov.ownBlock=some k:=fun k t e h1 hk=>by
  have:=h.oo k hk;rw[e] at this;injection this with this;exact h1 this
 have nwp:∀k,nw.ownBlock=some k→¬k=p:=fun k hk e=>by
  subst e;rcases hnw k hk with h1|h1
  ·rw[h.op] at h1;cases h1
  ·rw[h.op] at h1;cases h1.1
 have nvp:∀k,v.ownBlock=some k→¬k=p:=fun k hk e=>by
  have:=(hnv k hk).1;rw[e,h.op] at this;cases this
 have k2:=fun {x:Value} {base e size n:Nat} {xs:List Value} (hx:w.ownsRow base e size x n xs) (hr:∀k,x.ownBlock=some k→¬D.ov.ownBlock=some k∧¬k=p)=>aA (aA hx u fun k hk=>(hr k hk).1) us fun k hk=>(hr k hk).2
 have erow:jK (gQ D.fo m v) (m+1)=jK D.fo m++[v]:=by
  rw[kJ,cV];congr 1
  unfold jK;refine List.map_congr_left fun k hk=>?_
  rw[List.mem_range] at hk;exact bM _ _ (by omega)
 have bp:=no1 _ _ h.op nofun;have bm:=no _ _ h.om nofun nofun;refine⟨fun k=>if v.ownBlock=some k then some (Ro.oo m) else if nw.ownBlock=some k then some Ro.o else O k,⟨D.r,D.nv,nw,D.iv,gQ D.fo m v,D.fi⟩,?_⟩;constructor
 case blk=>exact(h.blk.upd u bp).set 2 nw
 case map=>exact(h.map.upd u bm.1).upd us bm.2
 case rn=>exact k2 h.rn fun k hk=>no _ _ (h.on k hk) nofun nofun
 case ro =>
  (try dsimp only)
  rw[erow];exact aA o us nwp
 case ri=>exact k2 h.ri fun k hk=>no _ _ (h.ii k hk) nofun nofun
 case fo =>
  intro k hk;(try dsimp only)
  by_cases e:k=m
  ·subst e;rw[cV];exact aJ (aA hv us nvp) (fun _ _=>Nat.zero_le _)
  ·rw[bM _ _ e];exact k2 (h.fo k (by omega)) fun j hj=>no _ _ (h.oU k j hj) nofun nofun
 case fi=>exact fun k hk=>k2 (h.fi k hk) fun j hj=>no _ _ (h.oV k j hj) nofun nofun
 case op=>exact keep _ _ h.op nofun
 case om=>exact keep _ _ h.om nofun
 case on=>exact fun k hk=>keep _ _ (h.on k hk) nofun
 case oo =>
  intro k hk;(try dsimp only at hk ⊢)
  rw[if_neg,if_pos hk];intro h1;rcases hnw k hk with h2|h2
  ·rw[(hnv k h1).1] at h2;cases h2
  ·have:=(hnv k h1).2.2;omega
 case ii=>exact fun k hk=>keep _ _ (h.ii k hk) nofun
 case oU =>
  intro j k hk;(try dsimp only at hk ⊢)
  by_cases e:j=m
  ·subst e;rw[cV] at hk;rw[if_pos hk]
  ·rw[bM _ _ e] at hk;exact keep _ _ (h.oU j k hk) nofun
 case oV=>exact fun j k hk=>keep _ _ (h.oV j k hk) nofun
 case lt =>
  intro k hk;(try dsimp only at hk)
  by_cases h1:v.ownBlock=some k
  ·exact Nat.lt_of_lt_of_le (hv.lt k h1).2 us.size
  ·rw[if_neg h1] at hk;by_cases h2:nw.ownBlock=some k
   ·exact Nat.lt_of_lt_of_le (o.lt k h2).2 us.size
   ·rw[if_neg h2] at hk;exact Nat.lt_of_lt_of_le (h.lt k hk) (Nat.le_trans u.size us.size)
 case lo =>
  intro k hk;(try dsimp only at hk)
  by_cases h1:v.ownBlock=some k
  ·have:=(hnv k h1).2.1;omega
  ·rw[if_neg h1] at hk;by_cases h2:nw.ownBlock=some k
   ·rcases hnw k h2 with h3|h3
    ·exact h.lo k (by rw[h3];nofun)
    ·omega
   ·rw[if_neg h2] at hk;exact h.lo k hk
 case outO =>
  intro k hk;(try dsimp only)
  rw[bM _ _ (by omega)];exact h.outO k (by omega)
 case outI=>exact h.outI
theorem GrC.pushI{w V3:World}{B:Nat}{O:Nat→Option Ro}{p:Nat}{N:List Txt}{U V:Nat→List Hp}{cnt:Int}{m l:Nat}{D:GrD}(h:GrC w B O p N U V cnt m l D){v nw:Value}(bs:Nat)
  (hv:V3.ownsRow w.heap.size 103 2 v (V l).length (aK (V l))) (hvl:∀k,v.ownBlock=some k→k<bs) (hbs:w.heap.size≤bs) (u:Upd (fun k=>D.iv.ownBlock=some k) w V3) (o:V3.ownsRow 0 99 1 nw (l+1) (jK D.fi l++[v]))
  (pl:∀k,nw.ownBlock=some k→D.iv.ownBlock=some k∨bs≤k) (hB:B≤w.heap.size):∃O' D',GrC (V3.setCell ⟨p,3,none⟩ nw) B O' p N U V cnt m (l+1) D':=by
 have us:=(Upd.refl (fun k=>k=p) V3).setCell (p:=⟨p,3,none⟩) (.inl rfl) nw;have fresh:∀k,w.heap.size≤k→O k=none:=fun k hk=>by
  cases e:O k with
  | none=>rfl
  | some t=>have:=h.lt k (by simp[e]);omega
 have hnv:∀k,v.ownBlock=some k→O k=none∧w.heap.size≤k∧k<bs:=fun k hk=>⟨fresh k (hv.lt k hk).1,(hv.lt k hk).1,hvl k hk⟩
 have hnw:∀k,nw.ownBlock=some k→O k=some .i∨O k=none∧bs≤k:=fun k hk=>by
  rcases pl k hk with h1|h1
  ·exact .inl (h.ii k h1)
  ·exact .inr ⟨fresh k (by omega),h1⟩
 have keep:∀k t,O k=some t→(t=Ro.i→False)→(if v.ownBlock=some k then some (Ro.ii l) else if nw.ownBlock=some k then some Ro.i else O k)=some t:=fun k t e ht=>by
  rw[if_neg,if_neg,e]
  ·intro hk;rcases hnw k hk with h1|h1
   ·rw[h1] at e;injection e with e;exact ht e.symm
   ·rw[h1.1] at e;cases e
  ·intro hk;rw[(hnv k hk).1] at e;cases e
 have no:∀k t,O k=some t→(t=Ro.i→False)→(t=Ro.p→False)→¬D.iv.ownBlock=some k∧¬k=p:=fun k t e h1 h2 =>
  ⟨fun hk=>(by have:=h.ii k hk;rw[e] at this;injection this with this;exact h1 this),fun hk=>(by rw[hk,h.op] at e;injection e with e;exact h2 e.symm)⟩
 have no1:∀k t,O k=some t→(t=Ro.i→False)→¬D.iv.ownBlock=some k:=fun k t e h1 hk=>by
  have:=h.ii k hk;rw[e] at this;injection this with this;exact h1 this
 have nwp:∀k,nw.ownBlock=some k→¬k=p:=fun k hk e=>by
  subst e;rcases hnw k hk with h1|h1
  ·rw[h.op] at h1;cases h1
  ·rw[h.op] at h1;cases h1.1
 have nvp:∀k,v.ownBlock=some k→¬k=p:=fun k hk e=>by
  have:=(hnv k hk).1;rw[e,h.op] at this;cases this
 have k2:=fun {x:Value} {base e size n:Nat} {xs:List Value} (hx:w.ownsRow base e size x n xs) (hr:∀k,x.ownBlock=some k→¬D.iv.ownBlock=some k∧¬k=p)=>aA (aA hx u fun k hk=>(hr k hk).1) us fun k hk=>(hr k hk).2
 have erow:jK (gQ D.fi l v) (l+1)=jK D.fi l++[v]:=by
  rw[kJ,cV];congr 1
  unfold jK;refine List.map_congr_left fun k hk=>?_
  rw[List.mem_range] at hk;exact bM _ _ (by omega)
 have bp:=no1 _ _ h.op nofun;have bm:=no _ _ h.om nofun nofun;refine⟨fun k=>if v.ownBlock=some k then some (Ro.ii l) else if nw.ownBlock=some k then some Ro.i else O k,⟨D.r,D.nv,D.ov,nw,D.fo,gQ D.fi l v⟩,?_⟩;constructor
 case blk=>exact(h.blk.upd u bp).set 3 nw
 case map=>exact(h.map.upd u bm.1).upd us bm.2
 case rn=>exact k2 h.rn fun k hk=>no _ _ (h.on k hk) nofun nofun
 case ri =>
  (try dsimp only)
  rw[erow];exact aA o us nwp
 case ro=>exact k2 h.ro fun k hk=>no _ _ (h.oo k hk) nofun nofun
 case fi =>
  intro k hk;(try dsimp only)
  by_cases e:k=l
  ·subst e;rw[cV];exact aJ (aA hv us nvp) (fun _ _=>Nat.zero_le _)
  ·rw[bM _ _ e];exact k2 (h.fi k (by omega)) fun j hj=>no _ _ (h.oV k j hj) nofun nofun
 case fo=>exact fun k hk=>k2 (h.fo k hk) fun j hj=>no _ _ (h.oU k j hj) nofun nofun
 case op=>exact keep _ _ h.op nofun
 case om=>exact keep _ _ h.om nofun
 case on=>exact fun k hk=>keep _ _ (h.on k hk) nofun
 case ii =>
  intro k hk;(try dsimp only at hk ⊢)
  rw[if_neg,if_pos hk];intro h1;rcases hnw k hk with h2|h2
  ·rw[(hnv k h1).1] at h2;cases h2
  ·have:=(hnv k h1).2.2;omega
 case oo=>exact fun k hk=>keep _ _ (h.oo k hk) nofun
 case oV =>
  intro j k hk;(try dsimp only at hk ⊢)
  by_cases e:j=l
  ·subst e;rw[cV] at hk;rw[if_pos hk]
  ·rw[bM _ _ e] at hk;exact keep _ _ (h.oV j k hk) nofun
 case oU=>exact fun j k hk=>keep _ _ (h.oU j k hk) nofun
 case lt =>
  intro k hk;(try dsimp only at hk)
  by_cases h1:v.ownBlock=some k
  ·exact Nat.lt_of_lt_of_le (hv.lt k h1).2 us.size
  ·rw[if_neg h1] at hk;by_cases h2:nw.ownBlock=some k
   ·exact Nat.lt_of_lt_of_le (o.lt k h2).2 us.size
   ·rw[if_neg h2] at hk;exact Nat.lt_of_lt_of_le (h.lt k hk) (Nat.le_trans u.size us.size)
 case lo =>
  intro k hk;(try dsimp only at hk)
  by_cases h1:v.ownBlock=some k
  ·have:=(hnv k h1).2.1;omega
  ·rw[if_neg h1] at hk;by_cases h2:nw.ownBlock=some k
   ·rcases hnw k h2 with h3|h3
    ·exact h.lo k (by rw[h3];nofun)
    ·omega
   ·rw[if_neg h2] at hk;exact h.lo k hk
 case outI =>
  intro k hk;(try dsimp only)
  rw[bM _ _ (by omega)];exact h.outI k (by omega)
 case outO=>exact h.outO
theorem GrC.all{w:World}{B:Nat}{O:Nat→Option Ro}{p:Nat}{G:Gr}{U V:Nat→List Hp}{D:GrD}(h:GrC w B O p G.N U V G.X.length G.N.length G.N.length D)(ho:dL G.N G.X U V):fB B p G w:=by
 refine⟨fun k=>O k≠none,⟨U,V,⟨O,D,⟨h.blk,h.map,h.rn,h.ro,h.ri,fun k=>?_,fun k=>?_,h.op,h.om,h.on,h.oo,h.ii,h.oU,h.oV,h.lt,fun k hk=>⟨h.outO k hk,h.outI k hk⟩⟩,rfl⟩,ho⟩,h.lo⟩
 ·by_cases hk:k<G.N.length
  ·exact h.fo k hk
  ·rw[h.outO k (by omega),(ho.out (by omega)).1];exact World.ownsRow_nil _ _ _ _
 ·by_cases hk:k<G.N.length
  ·exact h.fi k hk
  ·rw[h.outI k (by omega),(ho.out (by omega)).2];exact World.ownsRow_nil _ _ _ _
theorem GrC.start{w w1 w2:World}{nv:Value}{N:List Txt}{U V:Nat→List Hp}{cnt:Int}(hn:w1.ownsRow w.heap.size 9 1 nv N.length (aC N))(b1:Below w.heap.size w w1)(es:Array MapEntry)(clock:Nat)(hb:w1.alloc (.map es clock)=w2)(hm:cX w2 Tryz.prog 9 w1.heap.size (kvN N N.length)) :
  ∃O D,GrC (w2.alloc (.cells #[nv,.map (some w1.heap.size),.slice none 0 0,.slice none 0 0,.int .i64 cnt] 108)) w.heap.size O w2.heap.size N U V cnt 0 0 D:=by
 subst hb;have hz:(w1.alloc (.map es clock)).heap.size=w1.heap.size+1:=by simp
 have kb:=Blk.new (w1.alloc (.map es clock)) 108 #[nv,.map (some w1.heap.size),.slice none 0 0,.slice none 0 0,.int .i64 cnt];rw[hz] at kb ⊢;have hs:=b1.size;refine⟨fun k=>if k=w1.heap.size+1 then some Ro.p else if k=w1.heap.size then some Ro.m else if nv.ownBlock=some k then some Ro.n else none,⟨w1.heap.size,nv,.slice none 0 0,.slice none 0 0,fun _=>.slice none 0 0,fun _=>.slice none 0 0⟩,?_⟩;constructor
 case blk=>exact kb
 case map=>exact hm.alloc _
 case rn=>exact aJ ((hn.alloc _).alloc _) (fun _ _=>Nat.zero_le _)
 case ro=>exact World.ownsRow_nil _ _ _ _
 case ri=>exact World.ownsRow_nil _ _ _ _
 case fo=>exact fun k hk=>absurd hk (Nat.not_lt_zero _)
 case fi=>exact fun k hk=>absurd hk (Nat.not_lt_zero _)
 case op=>exact if_pos rfl
 case om =>
  (try dsimp only)
  rw[if_neg (by omega),if_pos rfl]
 case on =>
  intro k hk;have:=(hn.lt k hk).2;(try dsimp only at hk ⊢)
  rw[if_neg (by omega),if_neg (by omega),if_pos hk]
 case oo=>intro k hk;simp[Value.ownBlock] at hk
 case ii=>intro k hk;simp[Value.ownBlock] at hk
 case oU=>intro j k hk;simp[Value.ownBlock] at hk
 case oV=>intro j k hk;simp[Value.ownBlock] at hk
 case lt =>
  intro k hk;simp only[World.size_alloc]
  (try dsimp only at hk)
  split at hk
  ·omega
  split at hk
  ·omega
  split at hk
  ·rename_i h
   have:=(hn.lt k h).2;omega
  ·exact absurd rfl hk
 case lo =>
  intro k hk;(try dsimp only at hk)
  split at hk
  ·omega
  split at hk
  ·omega
  split at hk
  ·rename_i h
   exact(hn.lt k h).1
  ·exact absurd rfl hk
 case outO=>exact fun _ _=>rfl
 case outI=>exact fun _ _=>rfl
theorem LO(w:World)(F:Nat→Prop)(p:Nat)(G:Gr)(h:GrS w F p G)(ok:GOk G):Calls Tryz.prog 14 #[.pointer (some ⟨p,0,none⟩)] w (GI w G id):=by
 obtain⟨U,V,⟨O,⟨r,nv,ov,iv,fo,fi⟩,hg,-⟩,ho⟩:=h;have hf:=ok.few;obtain⟨nA,nc,e1,-,-⟩:=aG hg.rn;(try dsimp only at e1)
 subst e1;have HG:=aI2 hg ho;have q1:w.cell? ⟨p,1,none⟩=some (.map (some r)):=hg.blk.cell 1;obtain⟨es,clock,hes,hrest⟩:=hg.map;(try dsimp only at hes)
 have hct:=eY w.drew nA nc G.N (aV.of_own hg.rn) (by omega);obtain⟨n,hn⟩:∃n,G.N.length=n:=⟨_,rfl⟩;have hn32:n≤32:=by omega
 have hX:G.X.length≤256:=hf.2;have SR:=hIz (show ∀W,Below w.heap.size w W→W.cell? ⟨p,0,none⟩=some (.slice nA n nc)∧W.cell? ⟨p,1,none⟩=some (.map (some r))∧W.cell? ⟨p,4,none⟩=some (.int .i64 (G.X.length:Int)) from fun W hb=>by
  have kb:=hg.blk.upd (upF hb) id;exact⟨by rw[← hn];exact kb.cell 0,kb.cell 1,kb.cell 4⟩)
 have HL:=hIz hn;have HM:=aI2 hes hrest;rw[hn] at hct;clear hg ho hes hrest hn hf ok;obtain⟨cnt,hcnt⟩:∃c,(G.X.length:Int)=c:=⟨_,rfl⟩;have HCT:=hIz hcnt;rw[hcnt] at SR;clear hcnt;go_enter Tryz.func14,Tryz.ntmps14;go_wp2_with fail;refine(dQ w p r q1).mono ?_;rintro e w' ⟨rfl,hw⟩;subst w';go_upto_region 3 with (fail);clear q1;have hS:=SR.out w.drew (Below.refl _ w).drew;refine aE (fun W=>W.cell? ⟨p,0,none⟩=some (.slice nA n nc)∧W.cell? ⟨p,1,none⟩=some (.map (some r))∧W.cell? ⟨p,4,none⟩=some (.int .i64 cnt)) 17 [(0,true),(1,true),(2,true),(3,true),(5,true),(6,true),(7,true),(8,true),(10,true),(11,true),(12,true),(13,true),(4,false),(9,false),(14,true),(15,false),(16,true)] hS ?_;have B1:=hIz (show Below w.heap.size w w.drew from bR.drew);have Z1:=hIz (show w.drew.heap.size=w.heap.size from rfl);generalize w.drew=V1 at hS hct B1 Z1 ⊢
 iterate 12 refine aB rfl ?_
 refine aN rfl rfl (fun K hK=>?_);go_simp;refine hct.mono ?_;rintro e V2 ⟨v,rfl,own2,b2⟩;rw[Z1.out] at own2 b2;rw[HL.out] at own2;obtain⟨NA,Nc,rfl,-,-⟩:=aG own2;have B2:=hIz (B1.out.trans b2);have HV:=hIz own2;have hm2:=(upF B2.out).block r (Array.getElem?_eq_some_iff.1 HM.out.1).1 id;rw[HM.out.1] at hm2;have hcm:=BM V2 r es clock hm2;clear own2 b2 hct B1 Z1 hm2;refine hK _ _ (fun _=>SR.out _ B2.out) ?_;clear hK K hS;(try simp only[Act.put,gA,gS,gZ,sA,sZ,sS])
 refine aN rfl rfl (fun K hK=>?_);go_simp;refine hcm.mono ?_;clear hcm;rintro e V3 ⟨rfl,hV3⟩;have B3:=hIz (show Below w.heap.size w V3 from by rw[hV3];exact B2.out.alloc B2.out.size _);have M3:=hIz (show cX V3 Tryz.prog 9 V2.heap.size (kvN G.N G.N.length) from by rw[hV3];exact⟨es,clock,heap_alloc_new V2 _,HM.out.2⟩);have HV3:=hIz hV3.symm;clear hV3;have hS:=SR.out _ B3.out;refine hK _ _ (fun _=>hS) ?_;clear hK K;(try simp only[Act.put,gA,gS,gZ,sA,sZ,sS])
 refine aB rfl ?_;refine aN rfl rfl (fun K hK=>?_);go_simp;have B4:=hIz (B3.out.alloc B3.out.size (.cells #[.slice NA n Nc,.map (some V2.heap.size),.slice none 0 0,.slice none 0 0,.int .i64 cnt] 108));have HC0:=hIz (GrC.start (N:=G.N) (U:=U) (V:=V) (cnt:=cnt) (by rw[HL.out];exact HV.out) B2.out es clock HV3.out M3.out);refine hK _ _ (fun _=>SR.out _ B4.out) ?_;clear hK K hS;(try simp only[Act.put,gA,gS,gZ,sA,sZ,sS])
 generalize V3.alloc (.cells #[.slice NA n Nc,.map (some V2.heap.size),.slice none 0 0,.slice none 0 0,.int .i64 cnt] 108)=W4 at B4 HC0 ⊢;generalize V3.heap.size=po at HC0 ⊢;have hS:=SR.out _ B4.out;refine aB rfl ?_;refine aF ?_;obtain⟨z0,-,-⟩:=hS;clear HV HV3 M3 B2 B3 HM;go_wp2_with fail;clear z0 SR;go_loopw [29] (fun i wr=>∃k:Nat,k≤n∧i=.int .i64 k∧Hid (∃O D,GrC wr w.heap.size O po G.N U V cnt k k D)∧Hid (Below w.heap.size w wr)) (fun i _=>n-(intOf i).toNat)
 case atStart=>exact⟨0,Nat.zero_le _,rfl,HC0,B4⟩
 case round =>
  obtain⟨k,hk,rfl,HC0,HB0⟩:=hrel;by_cases hlt:k<n
  ·have hltI:(k:Int)<(n:Int):=by omega
   have hkw:IntKind.i64.wrap ((k:Int)+1)=(k:Int)+1:=IntWalk.i64_in _ (by omega);have hltN:k<G.N.length:=by rw[HL.out];exact hlt
   -- O
   obtain⟨O0,D0,hC0⟩:=HC0.out;obtain⟨A2,c2,e2,-,-⟩:=aG hC0.ro;have hg:=HG.out.1.upd (upF HB0.out) (fun _ _=>id);obtain⟨og,oc,eo,-,co,-⟩:=fQ hg.ro hltN;(try dsimp only at eo co)
   obtain⟨Av,cA,eA,-,-⟩:=aG (hg.fo k);dsimp only at eA
   have hrow:=hg.fo k;(try dsimp only at hrow)
   rw[eA] at co hrow;have hcl:=nE wr.drew Av cA (U k) (aV.of_own hrow) (by have:=(HG.out.2.len k).1;omega);obtain⟨mm,hmm⟩:∃m,(U k).length=m:=⟨_,rfl⟩;rw[hmm] at hcl co;have hblk:=hC0.blk;rw[e2] at hblk;have hn1:¬(Value.slice A2 k c2).ownBlock=some po:=fun e=>by have:=hC0.oo po (by rw[e2];exact e);rw[hC0.op] at this;cases this
   have SR:=hIz (show ∀W,Upd (fun b=>(Value.slice A2 k c2).ownBlock=some b) wr W→W.cell? ⟨po,2,none⟩=some (.slice A2 k c2)∧W.cell? ⟨p,2,none⟩=some (.slice (some ⟨og,0,none⟩) n oc)∧W.cell? ⟨og,k,none⟩=some (.slice Av mm cA) from fun W hu=>by
    have lo:=fun b (e:(Value.slice A2 k c2).ownBlock=some b)=>hC0.lo b (by rw[hC0.oo b (by rw[e2];exact e)];nofun)
    have n2:¬(Value.slice A2 k c2).ownBlock=some p:=fun e=>by have:=lo p e;have:=HG.out.1.blk.lt;omega
    have n3:¬(Value.slice A2 k c2).ownBlock=some og:=fun e=>by have:=lo og e;have:=(HG.out.1.ro.lt og (by dsimp only;rw[eo];rfl)).2;omega
    refine⟨(hblk.upd hu hn1).cell 2,?_,?_⟩
    ·have:=(hg.blk.upd hu n2).cell 2;(try dsimp only at this)
     rw[eo,HL.out] at this;exact this
    ·rw[hu.cell (p:=⟨og,k,none⟩) (World.block_lt_of_cell? wr _ co) n3];exact co)
   have hS:=SR.out wr.drew (Upd.refl _ _).drew;have HD:=aI5 hblk e2 hC0 hmm hn1;clear hg hrow eA co hblk e2 hC0 hmm eo hn1;go_upto_region 7 with (fail);refine aE (fun W=>W.cell? ⟨po,2,none⟩=some (.slice A2 k c2)∧W.cell? ⟨p,2,none⟩=some (.slice (some ⟨og,0,none⟩) n oc)∧W.cell? ⟨og,k,none⟩=some (.slice Av mm cA)) 17 [(0,true),(1,true),(2,true),(3,true),(4,true),(5,true),(6,true),(7,true),(8,true),(9,true),(10,true),(11,true),(12,false),(13,false),(14,false),(15,true),(16,true),(17,false)] hS ?_;have B1:=hIz (show Below wr.heap.size wr wr.drew from bR.drew);have Z1:=hIz (show wr.drew.heap.size=wr.heap.size from rfl);generalize wr.drew=V1 at hS hcl B1 Z1 ⊢
   iterate 12 refine aB rfl ?_
   refine aN rfl rfl (fun K hK=>?_);go_simp;refine hcl.mono ?_;rintro e V2 ⟨v,rfl,ov2,bv⟩;rw[Z1.out] at ov2 bv;rw[HD.out.2.2.2.1] at ov2;obtain⟨vA,vc,rfl,-,-⟩:=aG ov2;have B2:=hIz (B1.out.trans bv);have HV:=hIz ov2;clear ov2 bv hcl Z1 B1;refine hK _ _ (fun _=>SR.out _ (Upd.of_below B2.out _)) ?_;clear hK K hS;(try simp only[Act.put,gA,gS,gZ,sA,sZ,sS])
   refine aN rfl rfl (fun K hK=>?_);go_simp;have B3:=hIz (B2.out.alloc B2.out.size (.cells #[.slice vA mm vc] 99));have hnew:=Blk.new V2 99 #[.slice vA mm vc];have HV3:=hIz (HV.out.alloc (.cells #[.slice vA mm vc] 99));have hvl:=hIz (show ∀k,(Value.slice vA mm vc).ownBlock=some k→k<(V2.alloc (.cells #[.slice vA mm vc] 99)).heap.size from fun k hk=>(HV3.out.lt k hk).2);refine hK _ _ (fun _=>SR.out _ (Upd.of_below B3.out _)) ?_;clear hK K;(try simp only[Act.put,gA,gS,gZ,sA,sZ,sS])
   generalize V2.alloc (.cells #[.slice vA mm vc] 99)=V3 at B3 hnew HV3 hvl ⊢;have own3:=HD.out.2.2.1.ro;rw[HD.out.2.1] at own3;obtain⟨A4,c4,V4,happ,o4,u4,p4⟩:=bB V3 0 106 99 1 24 _ Tryz.underlying106 eZ rfl (by decide) (by decide) A2 k c2 _ (aA own3 (upF B3.out) (fun _ _ h=>h)) (some ⟨V2.heap.size,0,none⟩) 1 1 [.slice vA mm vc] (gX hnew) rfl (by simp;rfl) (by omega) (Nat.zero_le _);have U4:=hIz ((Upd.of_below B3.out (fun b=>(Value.slice A2 k c2).ownBlock=some b)).trans u4 (fun _ h=>.inl h));have kb4:=HD.out.1.upd U4.out HD.out.2.2.2.2;have HC1:=hIz (HD.out.2.2.1.pushO V3.heap.size (v:=.slice vA mm vc) (nw:=.slice A4 (k+1) c4) (by rw[HD.out.2.2.2.1];exact aA HV3.out u4 (fun b hb e=>by have:=(HV3.out.lt b hb).1;have:=(own3.lt b e).2;omega)) hvl.out B3.out.size (by rw[HD.out.2.1];exact U4.out) o4 (fun b hb=>by rw[HD.out.2.1];exact p4 b hb) HB0.out.size);have HB1:=hIz (show Below w.heap.size w (V4.setCell ⟨po,2,none⟩ (.slice A4 (k+1) c4)) from HB0.out.trans ((U4.out.below (fun b _ e=>HD.out.2.2.1.lo b (by rw[HD.out.2.2.1.oo b (by rw[HD.out.2.1];exact e)];nofun)) HB0.out.size).trans (((Upd.refl (fun b=>b=po) V4).setCell (p:=⟨po,2,none⟩) (.inl rfl) (.slice A4 (k+1) c4)).below (fun b _ e=>by rw[e];exact HD.out.2.2.1.lo po (by rw[HD.out.2.2.1.op];nofun)) (Nat.le_trans HB0.out.size U4.out.size))));have hS:=SR.out _ U4.out;have f0:V4.frozen? ⟨po,2,none⟩=false:=kb4.frozen 2;clear own3 o4 u4 p4 kb4 hnew;refine aN rfl rfl (fun K hK=>?_);refine bI _ _ _ rfl rfl rfl happ ?_;refine hK _ _ (fun _=>hS) ?_
   clear hK K happ;(try simp only[Act.put,gA,gS,gZ,sA,sZ,sS])
   refine aB rfl ?_;refine aB rfl ?_;refine aN rfl rfl (fun K hK=>?_);obtain⟨r0,r1,r2⟩:=hS;go_simp;refine hK _ _ (fun h=>absurd rfl h) ?_;clear hK K r0 r1 r2 f0 SR HD HV HV3 hvl B2 B3 U4;(try simp only[Act.put,gA,gS,gZ,sA,sZ,sS])
   refine aF ?_;generalize V4.setCell ⟨po,2,none⟩ (.slice A4 (k+1) c4)=W1 at HC1 HB1 ⊢;-- I
   obtain⟨O1,D1,hC1⟩:=HC1.out;obtain⟨A2,c2,e2,-,-⟩:=aG hC1.ri;have hg:=HG.out.1.upd (upF HB1.out) (fun _ _=>id);obtain⟨og,oc,eo,-,co,-⟩:=fQ hg.ri hltN;(try dsimp only at eo co)
   obtain⟨Av,cA,eA,-,-⟩:=aG (hg.fi k);dsimp only at eA
   have hrow:=hg.fi k;(try dsimp only at hrow)
   rw[eA] at co hrow;have hcl:=nE W1.drew Av cA (V k) (aV.of_own hrow) (by have:=(HG.out.2.len k).2;omega);obtain⟨mm,hmm⟩:∃m,(V k).length=m:=⟨_,rfl⟩;rw[hmm] at hcl co;have hblk:=hC1.blk;rw[e2] at hblk;have hn1:¬(Value.slice A2 k c2).ownBlock=some po:=fun e=>by have:=hC1.ii po (by rw[e2];exact e);rw[hC1.op] at this;cases this
   have SR:=hIz (show ∀W,Upd (fun b=>(Value.slice A2 k c2).ownBlock=some b) W1 W→W.cell? ⟨po,3,none⟩=some (.slice A2 k c2)∧W.cell? ⟨p,3,none⟩=some (.slice (some ⟨og,0,none⟩) n oc)∧W.cell? ⟨og,k,none⟩=some (.slice Av mm cA) from fun W hu=>by
    have lo:=fun b (e:(Value.slice A2 k c2).ownBlock=some b)=>hC1.lo b (by rw[hC1.ii b (by rw[e2];exact e)];nofun)
    have n2:¬(Value.slice A2 k c2).ownBlock=some p:=fun e=>by have:=lo p e;have:=HG.out.1.blk.lt;omega
    have n3:¬(Value.slice A2 k c2).ownBlock=some og:=fun e=>by have:=lo og e;have:=(HG.out.1.ri.lt og (by dsimp only;rw[eo];rfl)).2;omega
    refine⟨(hblk.upd hu hn1).cell 3,?_,?_⟩
    ·have:=(hg.blk.upd hu n2).cell 3;(try dsimp only at this)
     rw[eo,HL.out] at this;exact this
    ·rw[hu.cell (p:=⟨og,k,none⟩) (World.block_lt_of_cell? W1 _ co) n3];exact co)
   have hS:=SR.out W1.drew (Upd.refl _ _).drew;have HD:=aI5 hblk e2 hC1 hmm hn1;clear hg hrow eA co hblk e2 hC1 hmm eo hn1;go_upto_region 8 with (fail);refine aE (fun W=>W.cell? ⟨po,3,none⟩=some (.slice A2 k c2)∧W.cell? ⟨p,3,none⟩=some (.slice (some ⟨og,0,none⟩) n oc)∧W.cell? ⟨og,k,none⟩=some (.slice Av mm cA)) 17 [(0,true),(1,true),(2,true),(3,true),(4,true),(5,true),(6,true),(7,true),(8,true),(9,true),(10,true),(11,true),(12,false),(13,false),(14,false),(15,true),(16,true),(17,false)] hS ?_;have B1:=hIz (show Below W1.heap.size W1 W1.drew from bR.drew);have Z1:=hIz (show W1.drew.heap.size=W1.heap.size from rfl);generalize W1.drew=V1 at hS hcl B1 Z1 ⊢
   iterate 12 refine aB rfl ?_
   refine aN rfl rfl (fun K hK=>?_);go_simp;refine hcl.mono ?_;rintro e V2 ⟨v,rfl,ov2,bv⟩;rw[Z1.out] at ov2 bv;rw[HD.out.2.2.2.1] at ov2;obtain⟨vA,vc,rfl,-,-⟩:=aG ov2;have B2:=hIz (B1.out.trans bv);have HV:=hIz ov2;clear ov2 bv hcl Z1 B1;refine hK _ _ (fun _=>SR.out _ (Upd.of_below B2.out _)) ?_;clear hK K hS;(try simp only[Act.put,gA,gS,gZ,sA,sZ,sS])
   refine aN rfl rfl (fun K hK=>?_);go_simp;have B3:=hIz (B2.out.alloc B2.out.size (.cells #[.slice vA mm vc] 99));have hnew:=Blk.new V2 99 #[.slice vA mm vc];have HV3:=hIz (HV.out.alloc (.cells #[.slice vA mm vc] 99));have hvl:=hIz (show ∀k,(Value.slice vA mm vc).ownBlock=some k→k<(V2.alloc (.cells #[.slice vA mm vc] 99)).heap.size from fun k hk=>(HV3.out.lt k hk).2);refine hK _ _ (fun _=>SR.out _ (Upd.of_below B3.out _)) ?_;clear hK K;(try simp only[Act.put,gA,gS,gZ,sA,sZ,sS])
   generalize V2.alloc (.cells #[.slice vA mm vc] 99)=V3 at B3 hnew HV3 hvl ⊢;have own3:=HD.out.2.2.1.ri;rw[HD.out.2.1] at own3;obtain⟨A4,c4,V4,happ,o4,u4,p4⟩:=bB V3 0 106 99 1 24 _ Tryz.underlying106 eZ rfl (by decide) (by decide) A2 k c2 _ (aA own3 (upF B3.out) (fun _ _ h=>h)) (some ⟨V2.heap.size,0,none⟩) 1 1 [.slice vA mm vc] (gX hnew) rfl (by simp;rfl) (by omega) (Nat.zero_le _);have U4:=hIz ((Upd.of_below B3.out (fun b=>(Value.slice A2 k c2).ownBlock=some b)).trans u4 (fun _ h=>.inl h));have kb4:=HD.out.1.upd U4.out HD.out.2.2.2.2;have HC2:=hIz (HD.out.2.2.1.pushI V3.heap.size (v:=.slice vA mm vc) (nw:=.slice A4 (k+1) c4) (by rw[HD.out.2.2.2.1];exact aA HV3.out u4 (fun b hb e=>by have:=(HV3.out.lt b hb).1;have:=(own3.lt b e).2;omega)) hvl.out B3.out.size (by rw[HD.out.2.1];exact U4.out) o4 (fun b hb=>by rw[HD.out.2.1];exact p4 b hb) HB1.out.size);have HB2:=hIz (show Below w.heap.size w (V4.setCell ⟨po,3,none⟩ (.slice A4 (k+1) c4)) from HB1.out.trans ((U4.out.below (fun b _ e=>HD.out.2.2.1.lo b (by rw[HD.out.2.2.1.ii b (by rw[HD.out.2.1];exact e)];nofun)) HB1.out.size).trans (((Upd.refl (fun b=>b=po) V4).setCell (p:=⟨po,3,none⟩) (.inl rfl) (.slice A4 (k+1) c4)).below (fun b _ e=>by rw[e];exact HD.out.2.2.1.lo po (by rw[HD.out.2.2.1.op];nofun)) (Nat.le_trans HB1.out.size U4.out.size))));have hS:=SR.out _ U4.out;have f0:V4.frozen? ⟨po,3,none⟩=false:=kb4.frozen 3;clear own3 o4 u4 p4 kb4 hnew;refine aN rfl rfl (fun K hK=>?_);refine bI _ _ _ rfl rfl rfl happ ?_;refine hK _ _ (fun _=>hS) ?_
   clear hK K happ;(try simp only[Act.put,gA,gS,gZ,sA,sZ,sS])
   refine aB rfl ?_;refine aB rfl ?_;refine aN rfl rfl (fun K hK=>?_);obtain⟨r0,r1,r2⟩:=hS;go_simp;refine hK _ _ (fun h=>absurd rfl h) ?_;clear hK K r0 r1 r2 f0 SR HD HV HV3 hvl B2 B3 U4;(try simp only[Act.put,gA,gS,gZ,sA,sZ,sS])
   refine aF ?_;generalize V4.setCell ⟨po,3,none⟩ (.slice A4 (k+1) c4)=W2 at HC2 HB2 ⊢;go_wp2;go_roundw
   case rel=>exact⟨k+1,by omega,by go_num,HC2,HB2⟩
   case measure=>simp[intOf];omega
  ·obtain rfl:k=n:=by omega
   have FIN:=hIz (show GI w G id (.returned (.pointer (some ⟨po,0,none⟩))) wr from by
    obtain⟨O5,D5,hC⟩:=HC0.out;refine⟨po,rfl,GrC.all (O:=O5) (D:=D5) (U:=U) (V:=V) ?_ HG.out.2,HB0.out⟩;rw[HCT.out,HL.out];exact hC)
   clear HC0 HB0;go_wp2;go_ret;exact FIN.out
open Go.RowKit
structure GL(G:Gr)(k:Nat)(L:List Hp):Prop where
 up:cL ltH L
 mem:∀h,h∈L↔∃x∈G.X,G.N[k]?=some x.fr∧h=⟨x.lb,(cS G.N x.to:Int)⟩
def OV(w:World)(G:Gr)(k:Nat)(e:Ending)(w':World):Prop:=∃v L,GL G k L∧e=.returned (.tuple #[v,.int .i64 0])∧w'.ownsRow w.heap.size 103 2 v L.length (aK L)∧Below w.heap.size w w'
theorem GM(w:World)(p:Nat)(v:Value)(q2:w.cell? ⟨p,2,none⟩=some v):Calls Tryz.prog 86 #[.pointer (some ⟨p,0,none⟩)] w (eJ w v):=by
 go_enter Tryz.func86,Tryz.ntmps86;go_wp2;go_ret;exact⟨rfl,rfl⟩
theorem JV(w:World)(F:Nat→Prop)(p:Nat)(G:Gr)(h:GrS w F p G)(ok:GOk G)(k:Nat)(hk:k<G.N.length):Calls Tryz.prog 42 #[.pointer (some ⟨p,0,none⟩),.int .i64 k] w (OV w G k):=by
 obtain⟨U,V,⟨O,⟨r,nv,ov,iv,fo,fi⟩,hg,-⟩,ho⟩:=h;have hf:=ok.few;have q1:w.cell? ⟨p,1,none⟩=some (.map (some r)):=hg.blk.cell 1;obtain⟨nA,nc,e1,-,-⟩:=aG hg.rn;dsimp only at e1
 subst e1;obtain⟨og,oc,eo,-,co,-⟩:=fQ hg.ro hk;dsimp only at eo co
 subst eo;obtain⟨Av,cA,eA,-,-⟩:=aG (hg.fo k);dsimp only at eA
 have hrow:=hg.fo k;dsimp only at hrow
 rw[eA] at co hrow;have hcl:=nE w Av cA (U k) (aV.of_own hrow) (by have:=(ho.len k).1;omega);have HO:=hIz (show GL G k (U k) from⟨ho.up k,ho.um k⟩);obtain⟨mm,hmm⟩:∃m,(U k).length=m:=⟨_,rfl⟩;rw[hmm] at hcl co;obtain⟨n,hn⟩:∃n,G.N.length=n:=⟨_,rfl⟩;have hn32:n≤32:=by omega
 rw[hn] at hk;have q0:w.cell? ⟨p,0,none⟩=some (.slice nA n nc):=by rw[← hn];exact hg.blk.cell 0
 have q2:w.cell? ⟨p,2,none⟩=some (.slice (some ⟨og,0,none⟩) n oc):=by rw[← hn];exact hg.blk.cell 2
 have HM:=hIz hmm;clear hg ho hrow eA hmm hn ok hf;have hkI:(k:Int)<(n:Int):=by omega
 have eg:∀args w,(callFunc 86 args).run Tryz.prog w=.ok (.enter 86 args) w:=Go.Proofs.enters_of Tryz.func86 (by kernel_rfl) rfl;have hops:Calls Tryz.prog 85 #[.pointer (some ⟨p,0,none⟩),.int .i64 k,.func (.func 86) #[.pointer (some ⟨p,0,none⟩)] #[]] w (OV w G k):=by
  go_enter Tryz.func85,Tryz.ntmps85;go_wp2_with fail;refine(dQ w p r q1).mono ?_;rintro e w' ⟨rfl,hw⟩;subst w';go_wp2_with fail;refine(GM w p _ q2).mono ?_;rintro e w' ⟨rfl,hw⟩;subst w';go_wp2_with fail;refine hcl.mono ?_;rintro e w' ⟨v,rfl,o,b⟩;have FIN:=hIz (show OV w G k (.returned (.tuple #[v,.int .i64 0])) w' from⟨v,U k,HO.out,rfl,o,b⟩);clear o b hcl;go_wp2;refine bodyPost_ret (v:=.tuple #[v,.int .i64 0]) (by simp[results,Tryz.f85,go_sem]) rfl FIN.out
 clear eg q0 q1 q2 co hcl;go_enter Tryz.func42,Tryz.ntmps42;go_wp2_with fail;refine hops.mono ?_;rintro e w' ⟨v,L,hL,rfl,o,b⟩;have FIN:=hIz (show OV w G k (.returned (.tuple #[v,.int .i64 0])) w' from⟨v,L,hL,rfl,o,b⟩);clear o b hL hops;go_wp2;refine bodyPost_ret (v:=.tuple #[v,.int .i64 0]) (by simp[results,Tryz.f42,go_sem]) rfl FIN.out
open Go.RowKit
structure PL(G:Gr)(k:Nat)(L:List Hp):Prop where
 up:cL ltH L
 mem:∀h,h∈L↔∃x∈G.X,G.N[k]?=some x.to∧h=⟨x.lb,(cS G.N x.fr:Int)⟩
def InP(w:World)(G:Gr)(k:Nat)(e:Ending)(w':World):Prop:=∃v L,PL G k L∧e=.returned (.tuple #[v,.int .i64 0])∧w'.ownsRow w.heap.size 103 2 v L.length (aK L)∧Below w.heap.size w w'
theorem LP(w:World)(p:Nat)(v:Value)(q2:w.cell? ⟨p,3,none⟩=some v):Calls Tryz.prog 101 #[.pointer (some ⟨p,0,none⟩)] w (eJ w v):=by
 go_enter Tryz.func101,Tryz.ntmps101;go_wp2;go_ret;exact⟨rfl,rfl⟩
theorem PM(w:World)(F:Nat→Prop)(p:Nat)(G:Gr)(h:GrS w F p G)(ok:GOk G)(k:Nat)(hk:k<G.N.length):Calls Tryz.prog 56 #[.pointer (some ⟨p,0,none⟩),.int .i64 k] w (InP w G k):=by
 obtain⟨U,V,⟨O,⟨r,nv,ov,iv,fo,fi⟩,hg,-⟩,ho⟩:=h;have hf:=ok.few;have q1:w.cell? ⟨p,1,none⟩=some (.map (some r)):=hg.blk.cell 1;obtain⟨nA,nc,e1,-,-⟩:=aG hg.rn;dsimp only at e1
 subst e1;obtain⟨og,oc,eo,-,co,-⟩:=fQ hg.ri hk;dsimp only at eo co
 subst eo;obtain⟨Av,cA,eA,-,-⟩:=aG (hg.fi k);dsimp only at eA
 have hrow:=hg.fi k;dsimp only at hrow
 rw[eA] at co hrow;have hcl:=nE w Av cA (V k) (aV.of_own hrow) (by have:=(ho.len k).2;omega);have HO:=hIz (show PL G k (V k) from⟨ho.vp k,ho.vm k⟩);obtain⟨mm,hmm⟩:∃m,(V k).length=m:=⟨_,rfl⟩;rw[hmm] at hcl co;obtain⟨n,hn⟩:∃n,G.N.length=n:=⟨_,rfl⟩;have hn32:n≤32:=by omega
 rw[hn] at hk;have q0:w.cell? ⟨p,0,none⟩=some (.slice nA n nc):=by rw[← hn];exact hg.blk.cell 0
 have q2:w.cell? ⟨p,3,none⟩=some (.slice (some ⟨og,0,none⟩) n oc):=by rw[← hn];exact hg.blk.cell 3
 have HM:=hIz hmm;clear hg ho hrow eA hmm hn ok hf;have hkI:(k:Int)<(n:Int):=by omega
 have eg:∀args w,(callFunc 101 args).run Tryz.prog w=.ok (.enter 101 args) w:=Go.Proofs.enters_of Tryz.func101 (by kernel_rfl) rfl;have hops:Calls Tryz.prog 85 #[.pointer (some ⟨p,0,none⟩),.int .i64 k,.func (.func 101) #[.pointer (some ⟨p,0,none⟩)] #[]] w (InP w G k):=by
  go_enter Tryz.func85,Tryz.ntmps85;go_wp2_with fail;refine(dQ w p r q1).mono ?_;rintro e w' ⟨rfl,hw⟩;subst w';go_wp2_with fail;refine(LP w p _ q2).mono ?_;rintro e w' ⟨rfl,hw⟩;subst w';go_wp2_with fail;refine hcl.mono ?_;rintro e w' ⟨v,rfl,o,b⟩;have FIN:=hIz (show InP w G k (.returned (.tuple #[v,.int .i64 0])) w' from⟨v,V k,HO.out,rfl,o,b⟩);clear o b hcl;go_wp2;refine bodyPost_ret (v:=.tuple #[v,.int .i64 0]) (by simp[results,Tryz.f85,go_sem]) rfl FIN.out
 clear eg q0 q1 q2 co hcl;go_enter Tryz.func56,Tryz.ntmps56;go_wp2_with fail;refine hops.mono ?_;rintro e w' ⟨v,L,hL,rfl,o,b⟩;have FIN:=hIz (show InP w G k (.returned (.tuple #[v,.int .i64 0])) w' from⟨v,L,hL,rfl,o,b⟩);clear o b hL hops;go_wp2;refine bodyPost_ret (v:=.tuple #[v,.int .i64 0]) (by simp[results,Tryz.f56,go_sem]) rfl FIN.out
def jB(N:List Txt)(E:List Ed):List Txt:=if bP N E=0 then aR ltT (lbs E) else []
def PN(w:World)(L:List Txt)(z:Int)(e:Ending)(w':World):Prop:=
 ∃A c,e=.returned (.tuple #[.slice A L.length c,.int .i64 z])∧w'.ownsRow w.heap.size 9 1 (.slice A L.length c) L.length (aC L)∧Below w.heap.size w w'
theorem vT(w:World)(A:Option Addr)(c:Nat)(B:Option Addr)(d:Nat)(N:List Txt)(E:List Ed)(h:dX w A c B d N E) :
  Calls Tryz.prog 107 #[bQ A N.length c B E.length d] w (PN w (jB N E) (bP N E)):=by
 have k0:=Blk.new w 34 #[.slice A N.length c,.slice B E.length d];have u0:Below w.heap.size w (w.alloc (.cells #[.slice A N.length c,.slice B E.length d] 34)):=bR.alloc (Nat.le_refl _) _;have H:=aI3 (h.below u0) k0 u0;clear h k0 u0;obtain⟨z,hz⟩:∃z,bP N E=z:=⟨_,rfl⟩;have HZ:=hIz hz;clear hz;unfold bQ;go_enter Tryz.func107,Tryz.ntmps107;go_upto_region 1 with (fail);generalize w.alloc (.cells #[.slice A N.length c,.slice B E.length d] 34)=W0 at H ⊢;have q0:W0.cell? ⟨w.heap.size,0,none⟩=some (.slice A N.length c):=H.out.2.1.cell 0;have q1:W0.cell? ⟨w.heap.size,1,none⟩=some (.slice B E.length d):=H.out.2.1.cell 1;go_wp2_with fail;refine(pS W0 A c B d N E H.out.1).mono ?_;rintro e W1 ⟨rfl,b1⟩;rw[HZ.out];have k:=H.out.2.1.upd (upF b1) id;have H1:=aI2 (H.out.1.below b1) (tHn H.out.2.2 b1);clear q0 q1 b1;by_cases h0:z=0
 ·subst h0;have q0:W1.cell? ⟨w.heap.size,0,none⟩=some (.slice A N.length c):=k.cell 0;have q1:W1.cell? ⟨w.heap.size,1,none⟩=some (.slice B E.length d):=k.cell 1;clear k;go_wp2_with fail;refine(pR W1 A c B d N E H1.out.1).mono ?_;rintro e W2 ⟨M,hM,hlen,v,rfl,own2,b2⟩;have eM:M=jB N E:=by rw[jB,if_pos HZ.out];exact hM.is dW
  subst eM;clear hM hlen;obtain⟨A4,c4,rfl,-,-⟩:=aG own2;have FIN:=hIz (show PN w (jB N E) (bP N E) (.returned (.tuple #[.slice A4 (jB N E).length c4,.int .i64 0])) W2 from⟨A4,c4,by rw[HZ.out],aJ own2 (fun q hq=>by have:=(own2.lt q hq).1;have:=H1.out.2.size;omega),tHn H1.out.2 b2⟩);clear own2 b2;go_wp2;refine bodyPost_ret (v:=.tuple #[.slice A4 (jB N E).length c4,.int .i64 0]) (by simp[results,Tryz.f107,go_sem]) rfl FIN.out
 ·have h0I:(z==0)=false:=by simpa using h0
  have e1:jB N E=[]:=by rw[jB,if_neg (by rw[HZ.out];exact h0)]
  have FIN:=hIz (show PN w (jB N E) (bP N E) (.returned (.tuple #[.slice none 0 0,.int .i64 z])) W1 from by
   rw[e1,HZ.out];exact⟨none,0,rfl,World.ownsRow_nil _ _ _ _,H1.out.2⟩)
  clear e1 h0 k;go_wp2;refine bodyPost_ret (v:=.tuple #[.slice none 0 0,.int .i64 z]) (by simp[results,Tryz.f107,go_sem]) rfl FIN.out
theorem NY(w:World)(F:Nat→Prop)(p:Nat)(G:Gr)(h:GrS w F p G):Calls Tryz.prog 40 #[.pointer (some ⟨p,0,none⟩)] w (Sam w (.tuple #[.int .i64 (G.N.length:Nat),.int .i64 (G.X.length:Nat)])):=by
 obtain⟨U,V,⟨O,⟨r,nv,ov,iv,fo,fi⟩,hg,-⟩,-⟩:=h;have q1:w.cell? ⟨p,1,none⟩=some (.map (some r)):=hg.blk.cell 1;obtain⟨nA,nc,e1,-,-⟩:=aG hg.rn;dsimp only at e1
 subst e1;have q0:w.cell? ⟨p,0,none⟩=some (.slice nA G.N.length nc):=hg.blk.cell 0;have q4:w.cell? ⟨p,4,none⟩=some (.int .i64 (G.X.length:Int)):=hg.blk.cell 4;clear hg;generalize G.N.length=a at q0 ⊢;generalize ((G.X.length:Nat):Int)=b at q4 ⊢;go_enter Tryz.func40,Tryz.ntmps40;go_wp2_with fail;refine(dQ w p r q1).mono ?_;rintro e w' ⟨rfl,hw⟩;subst w';go_upto_region 3 with (fail);go_quiet (fail)
 go_wp2;refine bodyPost_ret (v:=.tuple #[.int .i64 (a:Int),.int .i64 b]) (by simp[results,Tryz.f40,go_sem]) rfl ⟨rfl,((Upd.refl (fun _=>False) w).drewN _).below (fun _ _ h=>h.elim) (Nat.le_refl _)⟩
def pcN:Nat→Nat→Nat
 | 0,_=>0
 | k+1,x=>x % 2+pcN k (x / 2)
theorem iA:∀(k x:Nat),pcN k x≤k
 | 0,_=>Nat.le_refl _
 | k+1,x=>by
  have:=iA k (x / 2);unfold pcN;omega
theorem tO:∀(k m x:Nat),pcN (k+m) x=pcN k x+pcN m (x / 2 ^ k)
 | 0,m,x=>by simp[pcN]
 | k+1,m,x=>by
  rw[show k+1+m=(k+m)+1 by omega,pcN,pcN,tO k m (x / 2),Nat.div_div_eq_div_mul,Nat.pow_succ,Nat.mul_comm 2];omega
theorem BP:∀(k x:Nat),pcN k (x % 2 ^ k)=pcN k x
 | 0,_=>rfl
 | k+1,x=>by
  have h:x % 2 ^ (k+1) / 2=x / 2 % 2 ^ k:=by
   rw[Nat.pow_succ,Nat.mul_comm,Nat.mod_mul_right_div_self]
  have h2:x % 2 ^ (k+1) % 2=x % 2:=by
   rw[Nat.pow_succ];exact Nat.mod_mul_left_mod _ _ _
  rw[pcN,pcN,h,h2,BP k]
def msk(c:Nat):Nat→Nat
 | 0=>0
 | n+1=>c+256*msk c n
theorem iL(a b c d:Nat)(ha:a<256)(hc:c<256):(a+256*b) &&& (c+256*d)=(a &&& c)+256*(b &&& d):=by
 apply Nat.eq_of_testBit_eq
 intro i;have hac:a &&& c<2 ^ 8:=Nat.lt_of_le_of_lt Nat.and_le_left ha;rw[Nat.testBit_and,show a+256*b=2 ^ 8*b+a by omega,show c+256*d=2 ^ 8*d+c by omega,show(a &&& c)+256*(b &&& d)=2 ^ 8*(b &&& d)+(a &&& c) by omega,
  Nat.testBit_two_pow_mul_add _ ha,Nat.testBit_two_pow_mul_add _ hc,Nat.testBit_two_pow_mul_add _ hac]
 split <;> simp
def s1(n x:Nat):Nat:=(x / 2 &&& msk 85 n)+(x &&& msk 85 n)
def s2(n x:Nat):Nat:=(x / 4 &&& msk 51 n)+(x &&& msk 51 n)
def s3(n x:Nat):Nat:=(x / 16+x) &&& msk 15 n
theorem vU:∀a,a<256→∀t,t<2→((a / 2+128*t) &&& 85)+(a &&& 85)=s1 1 a∧s1 1 a<256:=by decide +kernel
theorem LQ:∀a,a<256→∀t,t<4→((a / 4+64*t) &&& 51)+(a &&& 51)=s2 1 a∧s2 1 a<256:=by decide +kernel
theorem xC(n a b:Nat)(ha:a<256):s1 (n+1) (a+256*b)=s1 1 a+256*s1 n b:=by
 have h:=(vU a ha (b % 2) (by omega)).1;have e:(a+256*b) / 2=(a / 2+128*(b % 2))+256*(b / 2):=by omega
 have hm:msk 85 (n+1)=85+256*msk 85 n:=rfl;have:s1 (n+1) (a+256*b)=((a+256*b) / 2 &&& msk 85 (n+1))+((a+256*b) &&& msk 85 (n+1)):=rfl;rw[this,hm,e,iL _ _ _ _ (by omega) (by decide),iL _ _ _ _ ha (by decide),← h];have:s1 n b=(b / 2 &&& msk 85 n)+(b &&& msk 85 n):=rfl;rw[this];omega
theorem xD(n a b:Nat)(ha:a<256):s2 (n+1) (a+256*b)=s2 1 a+256*s2 n b:=by
 have h:=(LQ a ha (b % 4) (by omega)).1;have e:(a+256*b) / 4=(a / 4+64*(b % 4))+256*(b / 4):=by omega
 have hm:msk 51 (n+1)=51+256*msk 51 n:=rfl;have:s2 (n+1) (a+256*b)=((a+256*b) / 4 &&& msk 51 (n+1))+((a+256*b) &&& msk 51 (n+1)):=rfl;rw[this,hm,e,iL _ _ _ _ (by omega) (by decide),iL _ _ _ _ ha (by decide),← h];have:s2 n b=(b / 4 &&& msk 51 n)+(b &&& msk 51 n):=rfl;rw[this];omega
theorem GN(n a b:Nat)(ha:a≤68)(hb:b % 16≤4):s3 (n+1) (a+256*b)=s3 1 a+256*s3 n b:=by
 have e:(a+256*b) / 16+(a+256*b)=(a / 16+a+16*(b % 16))+256*(b / 16+b):=by omega
 have hm:msk 15 (n+1)=15+256*msk 15 n:=rfl;have:s3 (n+1) (a+256*b)=((a+256*b) / 16+(a+256*b)) &&& msk 15 (n+1):=rfl;rw[this,hm,e,iL _ _ _ _ (by omega) (by decide)];have e1:s3 1 a=(a / 16+a) &&& 15:=rfl;have e2:∀x,x &&& 15=x % 16:=fun x=>Nat.and_two_pow_sub_one_eq_mod x 4
 rw[e1,e2,e2];have:s3 n b=(b / 16+b) &&& msk 15 n:=rfl;rw[this];omega
theorem BQ:∀a,a<256→s3 1 (s2 1 (s1 1 a))=pcN 8 a∧s2 1 (s1 1 a)≤68∧s2 1 (s1 1 a) % 16≤4:=by decide +kernel
def pcs:Nat→Nat→Nat
 | 0,_=>0
 | n+1,x=>pcN 8 x+256*pcs n (x / 256)
theorem PO(n b:Nat)(hb:b<256 ^ n):s2 n (s1 n b) % 16≤4:=by
 cases n with
 | zero =>
  have:s2 0 (s1 0 b)=0:=by
   have h:s1 0 b=0:=by unfold s1 msk;simp
   rw[h];rfl
  rw[this];decide
 | succ n =>
  have e:b=b % 256+256*(b / 256):=by omega
  have h1:=(BQ (b % 256) (by omega)).2.2;have hs:=(vU (b % 256) (by omega) 0 (by omega)).2;rw[e,xC _ _ _ (by omega),xD _ _ _ hs];omega
theorem xE:∀(n x:Nat),x<256 ^ n→s3 n (s2 n (s1 n x))=pcs n x
 | 0,x,_=>by unfold s3 msk pcs;simp
 | n+1,x,hx=>by
  have e:x=x % 256+256*(x / 256):=by omega
  have hb:x / 256<256 ^ n:=by rw[Nat.pow_succ] at hx;omega
  have h1:=BQ (x % 256) (by omega);have hs:=(vU (x % 256) (by omega) 0 (by omega)).2;have hp:pcN 8 (x % 256)=pcN 8 x:=BP 8 x;have:s3 (n+1) (s2 (n+1) (s1 (n+1) x))=s3 1 (s2 1 (s1 1 (x % 256)))+256*s3 n (s2 n (s1 n (x / 256))):=by
   conv=>lhs;rw[e]
   rw[xC _ _ _ (by omega),xD _ _ _ hs,GN _ _ _ h1.2.1 (PO n _ hb)]
  rw[this,xE n _ hb,h1.1,hp];rfl
theorem QJ{p0 p1 p2 p3 p4 p5 p6 p7 y y1 y2 y3 y4 y5 y6:Nat}(h:y=p0+256*y1)(h1:y1=p1+256*y2)(h2:y2=p2+256*y3)(h3:y3=p3+256*y4)(h4:y4=p4+256*y5)(h5:y5=p5+256*y6)(h6:y6=p6+256*p7)
  (b0:p0≤8) (b1:p1≤8) (b2:p2≤8) (b3:p3≤8) (b4:p4≤8) (b5:p5≤8) (b6:p6≤8) (b7:p7≤8) :
  ((y+y / 256)+(y+y / 256) / 65536+((y+y / 256)+(y+y / 256) / 65536) / 4294967296) % 128=p0+p1+p2+p3+p4+p5+p6+p7:=by
 have e1:y / 256=y1:=by omega
 rw[e1];have e2:(y+y1) / 65536=y2+y3:=by
  have:y+y1=(p0+p1)+256*(p1+p2)+65536*(y2+y3):=by omega
  rw[this];clear this e1 h h1 h2 h3 h4 h5 h6;omega
 rw[e2];have e3:(y+y1+(y2+y3)) / 4294967296=y4+y5+y6+p7:=by
  have:y+y1+(y2+y3)=(p0+p1+p2+p3)+256*(p1+p2+p3+p4)+65536*(p2+p3+p4+p5)+16777216*(p3+p4+p5+p6)+4294967296*(y4+y5+y6+p7):=by omega
  rw[this];clear this e1 e2 h h1 h2 h3 h4 h5 h6;omega
 rw[e3];have:y+y1+(y2+y3)+(y4+y5+y6+p7)=(p0+p1+p2+p3+p4+p5+p6+p7)+256*(y1+y2+y3+y4+y5+y6+p7):=by omega
 rw[this];clear this e1 e2 e3 h h1 h2 h3 h4 h5 h6;omega
theorem LR(x:Nat):((pcs 8 x+pcs 8 x / 256)+(pcs 8 x+pcs 8 x / 256) / 65536+((pcs 8 x+pcs 8 x / 256)+(pcs 8 x+pcs 8 x / 256) / 65536) / 4294967296) % 128=pcN 64 x:=by
 have e:pcN 64 x=pcN 8 x+pcN 8 (x / 256)+pcN 8 (x / 256 / 256)+pcN 8 (x / 256 / 256 / 256)+pcN 8 (x / 256 / 256 / 256 / 256)+pcN 8 (x / 256 / 256 / 256 / 256 / 256)+pcN 8 (x / 256 / 256 / 256 / 256 / 256 / 256)+pcN 8 (x / 256 / 256 / 256 / 256 / 256 / 256 / 256):=by
  have s:∀m y,pcN (8+m) y=pcN 8 y+pcN m (y / 256):=fun m y=>tO 8 m y
  have e1:=s 56 x;have e2:=s 48 (x / 256);have e3:=s 40 (x / 256 / 256);have e4:=s 32 (x / 256 / 256 / 256);have e5:=s 24 (x / 256 / 256 / 256 / 256);have e6:=s 16 (x / 256 / 256 / 256 / 256 / 256);have e7:=s 8 (x / 256 / 256 / 256 / 256 / 256 / 256);show pcN (8+56) x=_
  rw[e1];show _+pcN (8+48) _=_
  rw[e2];show _+(_+pcN (8+40) _)=_
  rw[e3];show _+(_+(_+pcN (8+32) _))=_
  rw[e4];show _+(_+(_+(_+pcN (8+24) _)))=_
  rw[e5];show _+(_+(_+(_+(_+pcN (8+16) _))))=_
  rw[e6];show _+(_+(_+(_+(_+(_+pcN (8+8) _)))))=_
  rw[e7];simp only[Nat.add_assoc]
 rw[e];have z:∀y,pcs 1 y=pcN 8 y:=fun y=>by simp[pcs]
 exact QJ (y:=pcs 8 x) (y1:=pcs 7 (x / 256)) (y2:=pcs 6 (x / 256 / 256)) (y3:=pcs 5 (x / 256 / 256 / 256)) (y4:=pcs 4 (x / 256 / 256 / 256 / 256)) (y5:=pcs 3 (x / 256 / 256 / 256 / 256 / 256)) (y6:=pcs 2 (x / 256 / 256 / 256 / 256 / 256 / 256)) rfl rfl rfl rfl rfl rfl (by rw[← z];rfl) (iA 8 _) (iA 8 _) (iA 8 _) (iA 8 _) (iA 8 _) (iA 8 _) (iA 8 _) (iA 8 _)
open Go.RowKit
theorem xF(c:Nat)(hc:c<256):∀n,msk c n<256 ^ n
 | 0=>by simp[msk]
 | n+1=>by
  have:=xF c hc n;rw[Nat.pow_succ];unfold msk;omega
theorem JW:∀n x,pcs n x≤msk 8 n
 | 0,_=>Nat.le_refl _
 | n+1,x=>by
  have:=JW n (x / 256);have:=iA 8 x;unfold pcs msk;omega
theorem xG(x y c d:Nat)(hx:x<18446744073709551616)(hy:y<18446744073709551616)(hc:c<18446744073709551616)(h:(x &&& c)+(y &&& c)=d)(hd:d<18446744073709551616) :
  IntKind.u64.wrap (bits .and .u64 (x:Int) (c:Int)+bits .and .u64 (y:Int) (c:Int))=(d:Int):=by
 rw[bits_and_u64_nat x c hx hc,bits_and_u64_nat y c hy hc,IntKind.wrap_u64];omega
theorem nH(x y d:Nat)(h:x+y=d)(hd:d<18446744073709551616):IntKind.u64.wrap ((x:Int)+(y:Int))=(d:Int):=by
 rw[IntKind.wrap_u64];omega
theorem zD(n:Int):bits .and .i64 n 127=n % 128:=by
 have h127:(BitVec.ofInt 64 127).toNat=2 ^ 7-1:=by decide
 have key:(BitVec.ofInt 64 n &&& BitVec.ofInt 64 127).toNat=(n % ((2 ^ 64:Nat):Int)).toNat % 2 ^ 7:=by
  rw[BitVec.toNat_and,BitVec.toNat_ofInt,h127,Nat.and_two_pow_sub_one_eq_mod]
 show IntKind.i64.wrap ((BitVec.ofInt 64 n &&& BitVec.ofInt 64 127).toNat:Nat)=n % 128
 rw[key,IntKind.wrap_i64];omega
theorem GO(x:Nat)(hx:x<18446744073709551616)(w:World):Calls Tryz.prog 175 #[.int .u64 (x:Int)] w (fun e w'=>e=.returned (.int .i64 (pcN 64 x:Nat))∧w'=w):=by
 have k5:=xF 85 (by decide) 8;have k3:=xF 51 (by decide) 8;have k1:=xF 15 (by decide) 8;have e8:(256:Nat) ^ 8=18446744073709551616:=by decide
 rw[e8] at k5 k3 k1;have m5:msk 85 8=6148914691236517205:=by decide
 have m3:msk 51 8=3689348814741910323:=by decide
 have m1:msk 15 8=1085102592571150095:=by decide
 have m8:msk 8 8=578721382704613384:=by decide
 have st:=xE 8 x (by rw[e8];exact hx);have sm:=LR x;have sl:=JW 8 x;have h1:=xG (x / 2) x (msk 85 8) (s1 8 x) (by omega) hx k5 rfl (by
  have a:=Nat.and_le_right (n:=x / 2) (m:=msk 85 8);have b:=Nat.and_le_right (n:=x) (m:=msk 85 8);unfold s1;omega)
 have l1:s1 8 x<18446744073709551616:=by
  have a:=Nat.and_le_right (n:=x / 2) (m:=msk 85 8);have b:=Nat.and_le_right (n:=x) (m:=msk 85 8);unfold s1;omega
 generalize s1 8 x=y1 at h1 l1 st;have l2:s2 8 y1<18446744073709551616:=by
  have a:=Nat.and_le_right (n:=y1 / 4) (m:=msk 51 8);have b:=Nat.and_le_right (n:=y1) (m:=msk 51 8);unfold s2;omega
 have h2:=xG (y1 / 4) y1 (msk 51 8) (s2 8 y1) (by omega) l1 k3 rfl l2;have l2b:s2 8 y1≤2*3689348814741910323:=by
  have a:=Nat.and_le_right (n:=y1 / 4) (m:=msk 51 8);have b:=Nat.and_le_right (n:=y1) (m:=msk 51 8);unfold s2;omega
 generalize s2 8 y1=y2 at h2 l2 l2b st;have h3a:=nH (y2 / 16) y2 (y2 / 16+y2) rfl (by omega);have h3:=bits_and_u64_nat (y2 / 16+y2) (msk 15 8) (by omega) k1;have e3:(y2 / 16+y2) &&& msk 15 8=pcs 8 x:=st;rw[e3] at h3;generalize pcs 8 x=y3 at h3 sl sm;rw[m8] at sl;have h4:=nH y3 (y3 / 256) (y3+y3 / 256) rfl (by omega);obtain⟨y4,hy4⟩:∃y,y3+y3 / 256=y:=⟨_,rfl⟩;have l4:y4≤581000000000000000:=by omega
 rw[hy4] at h4 sm;have h5:=nH y4 (y4 / 65536) (y4+y4 / 65536) rfl (by omega);obtain⟨y5,hy5⟩:∃y,y4+y4 / 65536=y:=⟨_,rfl⟩;have l5:y5≤582000000000000000:=by omega
 rw[hy5] at h5 sm;have h6:=nH y5 (y5 / 4294967296) (y5+y5 / 4294967296) rfl (by omega);obtain⟨y6,hy6⟩:∃y,y5+y5 / 4294967296=y:=⟨_,rfl⟩;have l6:y6≤583000000000000000:=by omega
 rw[hy6] at h6 sm;rw[m5] at h1;rw[m3] at h2;rw[m1] at h3;have g1:∀(a b:Nat) (c:Int),c=((b:Nat):Int)→((a / b:Nat):Int)=(a:Int) / c:=fun a b c h=>by rw[h];rfl
 have n1:((6148914691236517205:Nat):Int)=6148914691236517205:=rfl;have n2:((3689348814741910323:Nat):Int)=3689348814741910323:=rfl;have n3:((1085102592571150095:Nat):Int)=1085102592571150095:=rfl;rw[n1,g1 x 2 2 rfl] at h1;rw[n2,g1 y1 4 4 rfl] at h2;rw[Int.natCast_add,g1 y2 16 16 rfl] at h3a h3;rw[n3] at h3;rw[g1 y3 256 256 rfl] at h4;rw[g1 y4 65536 65536 rfl] at h5;rw[g1 y5 4294967296 4294967296 rfl] at h6;clear g1 n1 n2 n3;have h7:bits .and .i64 (y6:Int) 127=((pcN 64 x:Nat):Int):=by rw[zD,← sm];rfl
 clear e3 st sl hy4 hy5 hy6 k5 k3 k1 e8 m5 m3 m1 m8;go_enter Tryz.func175,Tryz.ntmps175;go_wp2;go_ret;exact⟨by rw[← h7];rfl,rfl⟩
open Go.RowKit
structure Wd(r:List Nat):Prop where
 len:r.length=64
 fit:∀x∈r,x<18446744073709551616
def wdC(r:List Nat):List Value:=r.map fun (x:Nat)=>Value.int .u64 (x:Int)
theorem gD(r:List Nat):(wdC r).length=r.length:=by simp[wdC]
theorem jC{r:List Nat}{k x:Nat}(h:r[k]?=some x):(wdC r)[k]?=some (.int .u64 (x:Int)):=by simp[wdC,h]
def wdV(r:List Nat):Value:=.agg (wdC r).toArray
theorem fR{w:World}{b:Nat}{t:TypeId}{cs:List Value}(h:Blk w b t cs.toArray):w.rangeAt b 0 cs:=fun j v hv=>by
 rw[Nat.zero_add,h.cell j];simpa using hv
theorem fS{r:List Nat}(hr:Wd r):(Tryz.prog.info? 168).map (·.size)=some (wdC r).length:=by rw[gD,hr.len];kernel_rfl
theorem xH{w:World}{r:List Nat}(hr:Wd r){k x:Nat}(h:r[k]?=some x):(Instr.index 168 (wdV r) (.int .i64 (k:Int))).run Tryz.prog w=.ok (.int .u64 (x:Int)) w:=by
 have hk:=(gO.1 h).1;rw[hr.len] at hk;have h2:=jC h;have h3:(wdC r).toArray[k]?=some (.int .u64 (x:Int)):=by simpa using h2
 have hi:0≤(k:Int)∧(k:Int)<((64:Nat):Int):=by omega
 unfold wdV;simp[Instr.index,run_underlying Tryz.underlying168,asIntOf,hi,go_sem,Result.andThen]
 rw[if_pos hk,h2];rfl
def jL(r:List Nat):Nat:=(r.map (pcN 64)).sum
theorem BR{r:List Nat}{k x:Nat}(h:r[k]?=some x):jL (r.take (k+1))=jL (r.take k)+pcN 64 x:=by
 unfold jL;rw[List.take_add_one,h,List.map_append,List.sum_append];simp
theorem rQ:∀(r:List Nat),jL r≤r.length*64
 | []=>Nat.le_refl _
 | x::r=>by
  have:=rQ r;have:=iA 64 x;unfold jL at *;rw[List.map_cons,List.sum_cons,List.length_cons];omega
theorem GP(w:World)(r:List Nat)(hr:Wd r):Calls Tryz.prog 145 #[wdV r] w (Sam w (.int .i64 (jL r:Nat))):=by
 have k0:=Blk.new w 168 (wdC r).toArray;have u0:Below w.heap.size w (w.alloc (.cells (wdC r).toArray 168)):=bR.alloc (Nat.le_refl _) _;have hrg:=fR k0;have hsz:=fS hr;have H:=aI2 hr u0;clear k0 u0 hr;unfold wdV;go_enter Tryz.func145,Tryz.ntmps145;go_upto_region 2 with (fail);generalize w.alloc (.cells (wdC r).toArray 168)=W0 at H hrg ⊢;have HX:=hIz (show ∀(W:World) (k x:Nat),r[k]?=some x→(Instr.index 168 (.agg (wdC r).toArray) (.int .i64 (k:Int))).run Tryz.prog W=.ok (.int .u64 (x:Int)) W from fun W k x h=>xH H.out.1 h);go_wp2_with (refine wpList_load_mid rfl 168 _ rfl w.heap.size 0 rfl (wdC r) (.array 64 166) hrg Tryz.underlying168 rfl hsz ?_);clear hrg hsz;go_loopw [3,7] (fun s i wr=>∃k:Nat,k≤64∧i=.int .i64 k∧s=.int .i64 ((jL (r.take k):Nat):Int)∧wr=W0) (fun _ i _=>64-(intOf i).toNat)
 case atStart=>exact⟨0,Nat.zero_le _,rfl,rfl,rfl⟩
 case round =>
  obtain⟨k,hk,rfl,rfl,hwr⟩:=hrel;subst hwr;by_cases hlt:k<64
  ·have hltI:(k:Int)<(64:Int):=by omega
   have hkw:IntKind.i64.wrap ((k:Int)+1)=(k:Int)+1:=IntWalk.i64_in _ (by omega);obtain⟨x,hx⟩:∃x,r[k]?=some x:=⟨r[k]'(by rw[H.out.1.len];exact hlt),gEz _⟩;have hix:=HX.out wr k x hx;have hx64:=H.out.1.fit x (mG hx);have hst:jL (r.take (k+1))=jL (r.take k)+pcN 64 x:=BR hx;have hle:=rQ (r.take k);rw[List.length_take] at hle;have hp:=iA 64 x;have hsw:IntKind.i64.wrap (((jL (r.take k):Nat):Int)+((pcN 64 x:Nat):Int))=((jL (r.take (k+1)):Nat):Int):=by rw[hst,IntKind.wrap_i64];omega
   have hcon:=GO x hx64 wr;clear hle hst hx;generalize jL (r.take k)=q0 at hsw ⊢;generalize hq1:jL (r.take (k+1))=q1 at hsw;have HQ:=hIz hq1;clear hq1;generalize pcN 64 x=q2 at hsw hp hcon;go_wp2_with fail;refine hcon.mono ?_;clear hcon;rintro e w' ⟨rfl,hw⟩;subst w';go_wp2;go_roundw
   case rel=>exact⟨k+1,by omega,by go_num,by rw[HQ.out],by first | rfl | trivial⟩
   case measure=>simp[intOf];omega
  ·obtain rfl:k=64:=by omega
   have e1:r.take 64=r:=by rw[← H.out.1.len,List.take_length]
   rw[e1];go_wp2;go_ret;exact⟨rfl,H.out.2⟩
end Go.Proofs.YtddffnonlmfhdaaGreatDoor
