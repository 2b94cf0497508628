/- Graphs: a graph that grows, in memory; Graphs: a node that comes; Matrices of bits in memory, whose cells lie in the first block; New; Matrices of bits: is, in, Side, Len, leaf, Get; Matrices of bits: Get; Blocks of bits: Of, of one cell; Blocks of bits: two held against one another; Matrices of bits: their rows as they grow; Matrices of bits: grow, at the corner. -/
import Derived.Test.YtnokckdkaifibaaGreatDoorT04
import Derived.ChangeKeysEq
import Derived.Test.YtnokckdkaifibaaGreatDoorT03
set_option linter.unusedVariables false
set_option linter.unusedSimpArgs false
set_option maxHeartbeats 16000000
set_option maxRecDepth 100000
namespace Go.Proofs.YtnokckdkaifibaaGreatDoor
open Go.RowKit
def eC(N:List Txt)(s:Txt):Nat:=N.findIdx fun t=>decide (t=s)
theorem dM{N:List Txt}{s:Txt}(h:s∈N):N[eC N s]?=some s:=by
 have hl:eC N s<N.length:=List.findIdx_lt_length_of_exists ⟨s,h,by simp⟩;have:=List.findIdx_getElem (p:=fun t=>decide (t=s)) (xs:=N) (w:=hl);rw[gEz hl];exact congrArg some (of_decide_eq_true this)
theorem fH{N:List Txt}{s:Txt}(h:s∈N):eC N s<N.length:=(gO.1 (dM h)).1
theorem qK{N:List Txt}{s:Txt}(h:s ∉ N):eC N s=N.length:=by
 unfold eC;rw[List.findIdx_eq_length];intro t ht;rw[decide_eq_false];rintro rfl;exact h ht
theorem GU{N M:List Txt}{s:Txt}(h:s∈N):eC (N++M) s=eC N s:=by
 have hl:=fH h;unfold eC at hl ⊢;rw[List.findIdx_append,if_pos hl]
theorem lT{N:List Txt}(hd:N.Nodup){s:Txt}{i:Nat}(h:N[i]?=some s):eC N s=i:=by
 have h1:=dM (mG h);obtain⟨a,e⟩:=gO.1 h;obtain⟨b,f⟩:=gO.1 h1;exact(List.getElem_inj hd).1 (f.trans e.symm)
theorem fV{N:List Txt}{s t:Txt}(h:s∈N):eC (cQ N t) s=eC N s:=by
 unfold cQ;split
 ·rfl
 ·exact GU h
theorem wO(N:List Txt)(s:Txt):eC (cQ N s) s=eC N s:=by
 by_cases h:s∈N
 ·exact fV h
 ·unfold cQ;rw[if_neg (fun e=>h (bV.1 e)),qK h];unfold eC;rw[List.findIdx_append,if_neg (by have:=qK h;unfold eC at this;omega)];simp
def FD(N:List Txt)(s:Txt):Int:=if inB s N=true then (eC N s:Int)+1 else 0
theorem gJ{w:World}{r:Nat}{N:List Txt}(h:dC w Tryz.prog 9 r (kvN N N.length))(s:Txt)(hk:eL s) :
  (Instr.lookup 128 (.map (some r)) (.string s) false).run Tryz.prog w=.ok (.int .i64 (FD N s)) w:=by
 unfold FD;by_cases hs:s∈N
 ·rw[if_pos (bV.2 hs)];exact h.look_hit iI Tryz.underlying128 (KQ N N.length _ s (fH hs) (dM hs)) false
 ·rw[if_neg (fun e=>hs (bV.1 e))];exact h.look_miss iI Tryz.underlying128 (pU hk) (fun q hq e=>by
   obtain⟨i,t,hi,ht,rfl⟩:=pS N N.length q hq;simp only[Value.string.injEq] at e
   subst e;exact hs (mG ht)) (by kernel_rfl) false
theorem BR(N M:List Txt):∀k,k≤N.length→kvN (N++M) k=kvN N k
 | 0,_=>rfl
 | k+1,h=>by
  unfold kvN;rw[List.getElem?_append_left (by omega),BR N M k (by omega)]
theorem GV(N:List Txt)(s:Txt):kvN (N++[s]) (N.length+1)=kvN N N.length++[(.string s,.int .i64 ((N.length:Int)+1))]:=by
 rw[kvN,BR N [s] _ (Nat.le_refl _)];simp

inductive Ro
 | p | m | n | o | i
 | oo (k:Nat)
 | ii (k:Nat)
structure GrD where
 r:Nat
 nv:Value
 ov:Value
 iv:Value
 fo:Nat→Value
 fi:Nat→Value
def kE(f:Nat→Value)(n:Nat):List Value:=(List.range n).map f
theorem kV(f:Nat→Value)(n:Nat):kE f (n+1)=kE f n++[f n]:=by simp[kE,List.range_succ]
theorem MK{f:Nat→Value}{n k:Nat}(h:k<n):(kE f n)[k]?=some (f k):=by simp[kE,h]
structure GrI(w:World)(O:Nat→Option Ro)(p:Nat)(N:List Txt)(U V:Nat→List Hp)(cnt:Int)(D:GrD):Prop where
 blk:Blk w p 131 #[D.nv,.map (some D.r),D.ov,D.iv,.int .i64 cnt]
 map:dC w Tryz.prog 9 D.r (kvN N N.length)
 rn:w.ownsRow 0 9 1 D.nv N.length (aE N)
 ro:w.ownsRow 0 143 1 D.ov N.length (kE D.fo N.length)
 ri:w.ownsRow 0 143 1 D.iv N.length (kE D.fi N.length)
 fo:∀k,w.ownsRow 0 145 2 (D.fo k) (U k).length (aQ (U k))
 fi:∀k,w.ownsRow 0 145 2 (D.fi k) (V k).length (aQ (V k))
 op:O p=some .p
 om:O D.r=some .m
 on:∀k,D.nv.ownBlock=some k→O k=some .n
 oo:∀k,D.ov.ownBlock=some k→O k=some .o
 oi:∀k,D.iv.ownBlock=some k→O k=some .i
 oU:∀j k,(D.fo j).ownBlock=some k→O k=some (.oo j)
 oV:∀j k,(D.fi j).ownBlock=some k→O k=some (.ii j)
 lt:∀k,O k≠none→k<w.heap.size
 out:∀k,N.length≤k→D.fo k=.slice none 0 0∧D.fi k=.slice none 0 0
def rU(w:World)(F:Nat→Prop)(p:Nat)(N:List Txt)(U V:Nat→List Hp)(cnt:Int):Prop:=∃O D,GrI w O p N U V cnt D∧F=fun k=>O k≠none
theorem GrI.upd{w w':World}{O:Nat→Option Ro}{p:Nat}{N:List Txt}{U V:Nat→List Hp}{cnt:Int}{D:GrD}{G:Nat→Prop}(h:GrI w O p N U V cnt D)(hu:Upd G w w')(hd:∀k,O k≠none→¬G k):GrI w' O p N U V cnt D:=by
 have no:∀k t,O k=some t→¬G k:=fun k t e=>hd k (by simp[e])
 exact⟨h.blk.upd hu (no _ _ h.op),h.map.upd hu (no _ _ h.om),aA h.rn hu fun k hk=>no _ _ (h.on k hk),aA h.ro hu fun k hk=>no _ _ (h.oo k hk),aA h.ri hu fun k hk=>no _ _ (h.oi k hk),
  fun j=>aA (h.fo j) hu fun k hk=>no _ _ (h.oU j k hk),fun j=>aA (h.fi j) hu fun k hk=>no _ _ (h.oV j k hk),h.op,h.om,h.on,h.oo,h.oi,h.oU,h.oV,fun k hk=>Nat.lt_of_lt_of_le (h.lt k hk) hu.size,h.out⟩
theorem rU.upd{w w':World}{F G:Nat→Prop}{p:Nat}{N:List Txt}{U V:Nat→List Hp}{cnt:Int}(h:rU w F p N U V cnt)(hu:Upd G w w')(hd:∀k,F k→¬G k):rU w' F p N U V cnt:=by
 obtain⟨O,D,hs,rfl⟩:=h;exact⟨O,D,hs.upd hu hd,rfl⟩
theorem rU.lt{w:World}{F:Nat→Prop}{p:Nat}{N:List Txt}{U V:Nat→List Hp}{cnt:Int}(h:rU w F p N U V cnt):∀k,F k→k<w.heap.size:=by
 obtain⟨O,D,hs,rfl⟩:=h;exact hs.lt
theorem rU.below{w w':World}{F:Nat→Prop}{p:Nat}{N:List Txt}{U V:Nat→List Hp}{cnt:Int}(h:rU w F p N U V cnt)(hb:Below w.heap.size w w'):rU w' F p N U V cnt:=h.upd (upF hb) (fun _ _=>id)
def iL(w:World)(F:Nat→Prop)(p:Nat)(N:List Txt)(U V:Nat→List Hp)(cnt:Int)(w':World):Prop:=
 ∃F',rU w' F' p N U V cnt∧Upd F w w'∧∀k,F' k→F k∨w.heap.size≤k
theorem iL.refl{w w':World}{F:Nat→Prop}{p:Nat}{N:List Txt}{U V:Nat→List Hp}{cnt:Int}(h:rU w F p N U V cnt)(hb:Below w.heap.size w w'):iL w F p N U V cnt w':=
 ⟨F,h.below hb,Upd.of_below hb F,fun _ hk=>.inl hk⟩
theorem GrI.grow{w w':World}{O:Nat→Option Ro}{p:Nat}{N:List Txt}{U V:Nat→List Hp}{cnt:Int}{D:GrD}(h:GrI w O p N U V cnt D)(s:Txt)(nv ov iv:Value)(B1 B2:Nat)(hB1:w.heap.size≤B1)(hB2:B1≤B2)
  (hu:Upd (fun k=>k=p∨k=D.r∨D.nv.ownBlock=some k∨D.ov.ownBlock=some k∨D.iv.ownBlock=some k) w w') (hb:Blk w' p 131 #[nv,.map (some D.r),ov,iv,.int .i64 cnt])
  (hm:dC w' Tryz.prog 9 D.r (kvN N N.length++[(.string s,.int .i64 ((N.length:Int)+1))]))
  (rn:w'.ownsRow 0 9 1 nv (N.length+1) (aE N++[.string s])) (ro:w'.ownsRow 0 143 1 ov (N.length+1) (kE D.fo N.length++[.slice none 0 0])) (ri:w'.ownsRow 0 143 1 iv (N.length+1) (kE D.fi N.length++[.slice none 0 0]))
  (pn:∀k,nv.ownBlock=some k→D.nv.ownBlock=some k∨w.heap.size≤k∧k<B1) (po:∀k,ov.ownBlock=some k→D.ov.ownBlock=some k∨B1≤k∧k<B2) (pi:∀k,iv.ownBlock=some k→D.iv.ownBlock=some k∨B2≤k) :
  iL w (fun k=>O k≠none) p (N++[s]) U V cnt w':=by
 have no:∀k t,O k=some t→(t=Ro.p→False)→(t=Ro.m→False)→(t=Ro.n→False)→(t=Ro.o→False)→(t=Ro.i→False)→¬(k=p∨k=D.r∨D.nv.ownBlock=some k∨D.ov.ownBlock=some k∨D.iv.ownBlock=some k):=by
  rintro k t e h1 h2 h3 h4 h5 (rfl|rfl|hk|hk|hk)
  ·rw[h.op] at e;injection e with e;exact h1 e.symm
  ·rw[h.om] at e;injection e with e;exact h2 e.symm
  ·rw[h.on k hk] at e;injection e with e;exact h3 e.symm
  ·rw[h.oo k hk] at e;injection e with e;exact h4 e.symm
  ·rw[h.oi k hk] at e;injection e with e;exact h5 e.symm
 have fresh:∀k,w.heap.size≤k→O k=none:=fun k hk=>by
  cases e:O k with
  | none=>rfl
  | some t=>have:=h.lt k (by simp[e]);omega
 have hn:∀k,nv.ownBlock=some k→O k=some .n∨O k=none∧w.heap.size≤k∧k<B1:=fun k hk=>by
  rcases pn k hk with h1|⟨h1,h2⟩
  ·exact .inl (h.on k h1)
  ·exact .inr ⟨fresh k h1,h1,h2⟩
 have ho:∀k,ov.ownBlock=some k→O k=some .o∨O k=none∧B1≤k∧k<B2:=fun k hk=>by
  rcases po k hk with h1|⟨h1,h2⟩
  ·exact .inl (h.oo k h1)
  ·exact .inr ⟨fresh k (by omega),h1,h2⟩
 have hi:∀k,iv.ownBlock=some k→O k=some .i∨O k=none∧B2≤k:=fun k hk=>by
  rcases pi k hk with h1|h1
  ·exact .inl (h.oi k h1)
  ·exact .inr ⟨fresh k (by omega),h1⟩
 have keep:∀k t,O k=some t→(t=Ro.n→False)→(t=Ro.o→False)→(t=Ro.i→False)→(if nv.ownBlock=some k then some Ro.n else if ov.ownBlock=some k then some Ro.o else if iv.ownBlock=some k then some Ro.i else O k)=some t:=by
  intro k t e h1 h2 h3;rw[if_neg,if_neg,if_neg,e]
  ·intro hk;rcases hi k hk with h4|h4
   ·rw[e] at h4;injection h4 with h4;exact h3 h4
   ·rw[e] at h4;cases h4.1
  ·intro hk;rcases ho k hk with h4|h4
   ·rw[e] at h4;injection h4 with h4;exact h2 h4
   ·rw[e] at h4;cases h4.1
  ·intro hk;rcases hn k hk with h4|h4
   ·rw[e] at h4;injection h4 with h4;exact h1 h4
   ·rw[e] at h4;cases h4.1
 refine⟨fun k=>(if nv.ownBlock=some k then some Ro.n else if ov.ownBlock=some k then some Ro.o else if iv.ownBlock=some k then some Ro.i else O k)≠none,⟨fun k=>if nv.ownBlock=some k then some Ro.n else if ov.ownBlock=some k then some Ro.o else if iv.ownBlock=some k then some Ro.i else O k,⟨D.r,nv,ov,iv,D.fo,D.fi⟩,⟨hb,?_,?_,?_,?_,fun j=>aA (h.fo j) hu fun k hk=>no _ _ (h.oU j k hk) nofun nofun nofun nofun nofun,fun j=>aA (h.fi j) hu fun k hk=>no _ _ (h.oV j k hk) nofun nofun nofun nofun nofun,?_,?_,?_,?_,?_,?_,?_,?_,?_⟩,rfl⟩,hu.mono ?_,?_⟩
 ·dsimp only
  rw[List.length_append,List.length_singleton,GV];exact hm
 ·dsimp only
  rw[List.length_append,List.length_singleton,aE,List.map_append];exact rn
 ·dsimp only
  rw[List.length_append,List.length_singleton,kV,(h.out _ (Nat.le_refl _)).1];exact ro
 ·dsimp only
  rw[List.length_append,List.length_singleton,kV,(h.out _ (Nat.le_refl _)).2];exact ri
 ·exact keep p _ h.op nofun nofun nofun
 ·exact keep _ _ h.om nofun nofun nofun
 ·intro k hk;exact if_pos hk
 ·intro k hk;(try dsimp only at hk ⊢)
  rw[if_neg,if_pos hk];intro e;rcases hn k e with h1|⟨h1,h2,h3⟩ <;> rcases ho k hk with h4|⟨h4,h5,h6⟩
  ·rw[h1] at h4;cases h4
  ·rw[h1] at h4;cases h4
  ·rw[h1] at h4;cases h4
  ·omega
 ·intro k hk;(try dsimp only at hk ⊢)
  rw[if_neg,if_neg,if_pos hk]
  ·intro e;rcases ho k e with h1|⟨h1,h2,h3⟩ <;> rcases hi k hk with h4|⟨h4,h5⟩
   ·rw[h1] at h4;cases h4
   ·rw[h1] at h4;cases h4
   ·rw[h1] at h4;cases h4
   ·omega
  ·intro e;rcases hn k e with h1|⟨h1,h2,h3⟩ <;> rcases hi k hk with h4|⟨h4,h5⟩
   ·rw[h1] at h4;cases h4
   ·rw[h1] at h4;cases h4
   ·rw[h1] at h4;cases h4
   ·omega
 ·intro j k hk;exact keep k _ (h.oU j k hk) nofun nofun nofun
 ·intro j k hk;exact keep k _ (h.oV j k hk) nofun nofun nofun
 ·intro k hk;(try dsimp only at hk)
  by_cases h1:nv.ownBlock=some k
  ·exact(rn.lt k h1).2
  rw[if_neg h1] at hk;by_cases h2:ov.ownBlock=some k
  ·exact(ro.lt k h2).2
  rw[if_neg h2] at hk;by_cases h3:iv.ownBlock=some k
  ·exact(ri.lt k h3).2
  rw[if_neg h3] at hk;exact Nat.lt_of_lt_of_le (h.lt k hk) hu.size
 ·intro k hk;rw[List.length_append,List.length_singleton] at hk;exact h.out k (by omega)
 ·rintro k-(rfl|rfl|hk|hk|hk)
  ·rw[h.op];nofun
  ·rw[h.om];nofun
  ·rw[h.on k hk];nofun
  ·rw[h.oo k hk];nofun
  ·rw[h.oi k hk];nofun
 ·intro k hk;(try dsimp only at hk ⊢)
  by_cases h1:nv.ownBlock=some k
  ·rcases hn k h1 with h2|h2
   ·rw[h2];exact .inl nofun
   ·exact .inr h2.2.1
  rw[if_neg h1] at hk;by_cases h2:ov.ownBlock=some k
  ·rcases ho k h2 with h2|h2
   ·rw[h2];exact .inl nofun
   ·exact .inr (by omega)
  rw[if_neg h2] at hk;by_cases h3:iv.ownBlock=some k
  ·rcases hi k h3 with h2|h2
   ·rw[h2];exact .inl nofun
   ·exact .inr (by omega)
  rw[if_neg h3] at hk;exact .inl hk
open Go.RowKit
def RL(w:World)(F:Nat→Prop)(p:Nat)(N:List Txt)(U V:Nat→List Hp)(cnt:Int)(s:Txt)(e:Ending)(w':World):Prop:=e=.returned (.int .i64 (eC N s))∧iL w F p (cQ N s) U V cnt w'
theorem eP:(Tryz.prog.info? 143).map (fun i=>(i.zero,i.size,i.bytes))=some (some (.slice none 0 0),1,24):=by kernel_rfl
theorem iM{w:World}{g:Nat}{t:TypeId}{v:Value}(h:Blk w g t #[v]):bS w (some ⟨g,0,none⟩) [v]:=fun j u hj=>⟨g,0,rfl,by rw[Nat.zero_add,h.cell j];simpa using hj⟩
theorem qL{w w3 V V':World}{O:Nat→Option Ro}{p r n b w2s:Nat}{N:List Txt}{U Vv:Nat→List Hp}{s:Txt}{cnt:Int}{A0 A1 A2 A3 B2 B3:Option Addr}{c0 c1 c2 c3 d2 d3:Nat}{fo fi:Nat→Value}
  (hg:GrI w O p N U Vv cnt ⟨r,.slice A0 N.length c0,.slice A2 N.length c2,.slice A3 N.length c3,fo,fi⟩) (hn:N.length=n)
  (k3:Blk w3 p 131 #[Value.slice A1 (n+1) c1,.map (some r),Value.slice A2 n c2,Value.slice A3 n c3,.int .i64 cnt]) (m3:dC w3 Tryz.prog 9 r (kvN N n++[(.string s,.int .i64 ((n:Int)+1))])) (n3:w3.ownsRow 0 9 1 (.slice A1 (n+1) c1) (n+1) (aE N++[.string s]))
  (ut3:Upd (fun k=>k=p∨k=r∨(Value.slice A0 n c0).ownBlock=some k∨(Value.slice A2 n c2).ownBlock=some k∨(Value.slice A3 n c3).ownBlock=some k) w w3)
  (pn:∀k,(Value.slice A1 (n+1) c1).ownBlock=some k→(Value.slice A0 n c0).ownBlock=some k∨w.heap.size≤k∧k<w2s) (hw2:w2s≤w3.heap.size)
  (h1:(Value.slice A1 (n+1) c1).ownBlock≠some r) (h2:(Value.slice A1 (n+1) c1).ownBlock≠some p) (h3:r≠p) (h4:∀k,(Value.slice A2 n c2).ownBlock=some k→k≠p∧k≠r∧k<w.heap.size) (h5:∀k,(Value.slice A3 n c3).ownBlock=some k→k≠p∧k≠r∧k<w.heap.size) (h6:∀k,(Value.slice A2 n c2).ownBlock=some k→(Value.slice A3 n c3).ownBlock=some k→False)
  (hj:Upd (fun k=>(Value.slice A2 n c2).ownBlock=some k) w3 V) (o2:V.ownsRow 0 143 1 (.slice B2 (n+1) d2) (n+1) (kE fo n++[.slice none 0 0])) (p2:∀k,(Value.slice B2 (n+1) d2).ownBlock=some k→(Value.slice A2 n c2).ownBlock=some k∨b≤k) (hb:w3.heap.size≤b)
  (o6:V'.ownsRow 0 143 1 (.slice B3 (n+1) d3) (n+1) (kE fi n++[.slice none 0 0])) (u6:Upd (fun k=>(Value.slice A3 n c3).ownBlock=some k) V V') (p6:∀k,(Value.slice B3 (n+1) d3).ownBlock=some k→(Value.slice A3 n c3).ownBlock=some k∨V.heap.size≤k) :
  Hid (Blk V' p 131 #[Value.slice A1 (n+1) c1,.map (some r),Value.slice A2 n c2,Value.slice A3 n c3,.int .i64 cnt]∧iL w (fun k=>O k≠none) p (N++[s]) U Vv cnt ((V'.setCell ⟨p,2,none⟩ (.slice B2 (n+1) d2)).setCell ⟨p,3,none⟩ (.slice B3 (n+1) d3)) ∧
   (Instr.lookup 128 (.map (some r)) (.string s) false).run Tryz.prog ((V'.setCell ⟨p,2,none⟩ (.slice B2 (n+1) d2)).setCell ⟨p,3,none⟩ (.slice B3 (n+1) d3))=.ok (.int .i64 ((n:Int)+1)) ((V'.setCell ⟨p,2,none⟩ (.slice B2 (n+1) d2)).setCell ⟨p,3,none⟩ (.slice B3 (n+1) d3)) ∧
   ((V'.setCell ⟨p,2,none⟩ (.slice B2 (n+1) d2)).setCell ⟨p,3,none⟩ (.slice B3 (n+1) d3)).cell? ⟨p,1,none⟩=some (.map (some r))):=by
 subst hn;have hs3:=ut3.size;have hsV:=hj.size;have hp:=hg.lt p (by rw[hg.op];nofun);have nB2:∀k,(Value.slice B2 (N.length+1) d2).ownBlock=some k→k≠p∧k<V.heap.size∧¬(Value.slice A3 N.length c3).ownBlock=some k:=fun k hk=>by
  refine⟨?_,(o2.lt k hk).2,?_⟩
  ·rintro rfl;rcases p2 _ hk with h|h
   ·exact(h4 _ h).1 rfl
   ·omega
  ·intro h;rcases p2 _ hk with h' | h'
   ·exact h6 _ h' h
   ·have:=(h5 _ h).2.2;omega
 have kV':=(k3.upd hj (fun e=>(h4 _ e).1 rfl)).upd u6 (fun e=>(h5 _ e).1 rfl);have mV':=(m3.upd hj (fun e=>(h4 _ e).2.1 rfl)).upd u6 (fun e=>(h5 _ e).2.1 rfl);have nA1:∀k,(Value.slice A1 (N.length+1) c1).ownBlock=some k→¬(Value.slice A2 N.length c2).ownBlock=some k∧¬(Value.slice A3 N.length c3).ownBlock=some k:=fun k hk=>by
  rcases pn k hk with h|h
  ·have hr:=hg.on k h;exact⟨fun e=>(by rw[hg.oo k e] at hr;cases hr),fun e=>(by rw[hg.oi k e] at hr;cases hr)⟩
  ·exact⟨fun e=>(by have:=(h4 k e).2.2;omega),fun e=>(by have:=(h5 k e).2.2;omega)⟩
 have nV':=aA (aA n3 hj (fun k hk=>(nA1 k hk).1)) u6 (fun k hk=>(nA1 k hk).2);have oV':=aA o2 u6 (fun k hk=>(nB2 k hk).2.2);have nB3:∀k,(Value.slice B3 (N.length+1) d3).ownBlock=some k→k≠p:=fun k hk=>by
  rintro rfl;rcases p6 _ hk with h|h
  ·exact(h5 _ h).1 rfl
  ·omega
 have us:=((Upd.refl (fun k=>k=p) V').setCell (p:=⟨p,2,none⟩) (.inl rfl) (.slice B2 (N.length+1) d2)).setCell (p:=⟨p,3,none⟩) (.inl rfl) (.slice B3 (N.length+1) d3);have kz:=(kV'.set 2 (.slice B2 (N.length+1) d2)).set 3 (.slice B3 (N.length+1) d3);have mz:=mV'.upd us h3;have utz:=((ut3.trans hj (fun k h=>.inl (.inr (.inr (.inr (.inl h)))))).trans u6 (fun k h=>.inl (.inr (.inr (.inr (.inr h)))))).trans us (fun k h=>.inl (.inl h));refine hIz ⟨kV',?_,?_,kz.cell 1⟩
 ·exact hg.grow s _ _ _ w3.heap.size V.heap.size hs3 hsV utz kz mz (aA nV' us (fun k hk e=>h2 (by rw[hk,e]))) (aA oV' us (fun k hk=>(nB2 k hk).1)) (aA o6 us nB3)
   (fun k hk=>(pn k hk).imp id fun h=>⟨h.1,by omega⟩) (fun k hk=>(p2 k hk).imp id fun h=>⟨by omega,(nB2 k hk).2.1⟩) p6
 ·exact mz.look_hit iI Tryz.underlying128 (List.mem_append.2 (.inr (List.mem_singleton.2 rfl))) false
theorem wP(w:World)(F:Nat→Prop)(p:Nat)(N:List Txt)(U V:Nat→List Hp)(cnt:Int)(s:Txt)(h:rU w F p N U V cnt)(hk:eL s)(hl:N.length≤1000000) :
  Calls Tryz.prog 62 #[.pointer (some ⟨p,0,none⟩),.string s] w (RL w F p N U V cnt s):=by
 by_cases hs:s∈N
 ·have hadd:cQ N s=N:=by unfold cQ;rw[if_pos (bV.2 hs)]
  have FIN:=hIz (show iL w F p (cQ N s) U V cnt w from by rw[hadd];exact iL.refl h bR);obtain⟨O,D,hg,rfl⟩:=h;have l0:=gJ hg.map s hk;have q1:w.cell? ⟨p,1,none⟩=some (.map (some D.r)):=hg.blk.cell 1;obtain⟨k,hk2⟩:∃k,eC N s=k:=⟨_,rfl⟩;have hkl:k≤1000000:=by have:=fH hs;omega
  have hnum:FD N s=(k:Int)+1:=by unfold FD;rw[if_pos (bV.2 hs),hk2]
  rw[hnum] at l0;have hz:((k:Int)+1==0)=false:=by simp;omega
  have hw:IntKind.i64.wrap (((k:Int)+1)-1)=(k:Int):=by rw[IntKind.wrap_i64];omega
  have HK:=hIz hk2;clear hg hnum hadd hs;go_enter Tryz.func62,Tryz.ntmps62;go_wp2;go_ret;exact⟨by rw[HK.out];rfl,FIN.out⟩
 ·have hadd:cQ N s=N++[s]:=by unfold cQ;rw[if_neg (fun e=>hs (bV.1 e))]
  have hidx:=qK hs;have hnum:FD N s=0:=by unfold FD;rw[if_neg (fun e=>hs (bV.1 e))]
  obtain⟨O,⟨r,v0,v2,v3,fo,fi⟩,hg,rfl⟩:=h;obtain⟨A0,c0,e0,-,-⟩:=aF hg.rn;dsimp only at e0
  subst e0;obtain⟨A2,c2,e0,-,-⟩:=aF hg.ro;dsimp only at e0
  subst e0;obtain⟨A3,c3,e0,-,-⟩:=aF hg.ri;dsimp only at e0
  subst e0;have l0:=gJ hg.map s hk;rw[hnum] at l0;have hlt:=hg.lt;have lt:∀k t,O k=some t→k<w.heap.size:=fun k t e=>hlt k (by simp[e])
  have hom:O r=some .m:=hg.om;-- the names
  obtain⟨nv,w1,happ1,own1,up1,pl1⟩:=cU w 0 34 9 1 16 _ Tryz.underlying34 cW rfl (by decide) (Value.slice A0 N.length c0) N.length _ hg.rn [.string s] 1 rfl (by simp;rfl) (by omega) (by unfold maxLen;omega) (Nat.zero_le _);obtain⟨A1,c1,rfl,-,-⟩:=aF own1;have kb1:=hg.blk.upd up1 (fun e=>by have:=hg.on _ e;rw[hg.op] at this;cases this);have km1:=hg.map.upd up1 (fun e=>by have:=hg.on _ e;rw[hom] at this;cases this);have ko1:=aA hg.ro up1 (fun k e f=>by have:=hg.on _ f;rw[hg.oo k e] at this;cases this);have ki1:=aA hg.ri up1 (fun k e f=>by have:=hg.on _ f;rw[hg.oi k e] at this;cases this);have np1:(Value.slice A1 (N.length+1) c1).ownBlock≠some p:=fun e=>by
   rcases pl1 p e with h|h
   ·have:=hg.on _ h;rw[hg.op] at this;cases this
   ·have:=lt _ _ hg.op;omega
  have nr1:(Value.slice A1 (N.length+1) c1).ownBlock≠some r:=fun e=>by
   rcases pl1 _ e with h|h
   ·have:=hg.on _ h;rw[hom] at this;cases this
   ·have:=lt _ _ hom;omega
  have rp:r≠p:=fun e=>by have:=hom;rw[e,hg.op] at this;cases this
  have no:∀k,(Value.slice A2 N.length c2).ownBlock=some k→k≠p∧k≠r∧k<w.heap.size:=fun k hk=>⟨fun e=>(by have:=hg.oo k hk;rw[e,hg.op] at this;cases this),fun e=>(by have:=hg.oo k hk;rw[e,hom] at this;cases this),lt _ _ (hg.oo k hk)⟩
  have ni:∀k,(Value.slice A3 N.length c3).ownBlock=some k→k≠p∧k≠r∧k<w.heap.size:=fun k hk=>⟨fun e=>(by have:=hg.oi k hk;rw[e,hg.op] at this;cases this),fun e=>(by have:=hg.oi k hk;rw[e,hom] at this;cases this),lt _ _ (hg.oi k hk)⟩
  have noi:∀k,(Value.slice A2 N.length c2).ownBlock=some k→(Value.slice A3 N.length c3).ownBlock=some k→False:=fun k h1 h2=>by have:=hg.oo k h1;rw[hg.oi k h2] at this;cases this
  have kb2:=kb1.set 0 (Value.slice A1 (N.length+1) c1);have us:=(Upd.refl (fun k=>k=p) w1).setCell (p:=⟨p,0,none⟩) (.inl rfl) (Value.slice A1 (N.length+1) c1);have km2:=km1.upd us rp;have ko2:=aA ko1 us (fun k hk=>(no k hk).1);have ki2:=aA ki1 us (fun k hk=>(ni k hk).1);have kn2:=aA own1 us (fun k hk e=>np1 (by rw[hk,e]));have up2:Upd (fun k=>k=p∨k=r∨(Value.slice A0 N.length c0).ownBlock=some k∨(Value.slice A2 N.length c2).ownBlock=some k∨(Value.slice A3 N.length c3).ownBlock=some k) w (w1.setCell ⟨p,0,none⟩ (Value.slice A1 (N.length+1) c1)):=(up1.mono (fun k _ h=>.inr (.inr (.inl h)))).trans us (fun k h=>.inl (.inl h));have bn:∀k,(Value.slice A1 (N.length+1) c1).ownBlock=some k→(Value.slice A0 N.length c0).ownBlock=some k∨w.heap.size≤k∧k<(w1.setCell ⟨p,0,none⟩ (Value.slice A1 (N.length+1) c1)).heap.size:=fun k hk=>by
   rcases pl1 k hk with h|h
   ·exact .inl h
   ·exact .inr ⟨h,(kn2.lt k hk).2⟩
  have q0:w.cell? ⟨p,0,none⟩=some (Value.slice A0 N.length c0):=hg.blk.cell 0;have q1:w.cell? ⟨p,1,none⟩=some (.map (some r)):=hg.blk.cell 1;have r0:w1.cell? ⟨p,0,none⟩=some (Value.slice A0 N.length c0):=kb1.cell 0;have f0:w1.frozen? ⟨p,0,none⟩=false:=kb1.frozen 0;have HG:=aI3 hg hadd hidx;clear hom;have HX:=aI7 (show Blk (w1.setCell ⟨p,0,none⟩ (Value.slice A1 (N.length+1) c1)) p 131 #[Value.slice A1 (N.length+1) c1,.map (some r),Value.slice A2 N.length c2,Value.slice A3 N.length c3,.int .i64 cnt] from kb2) km2 kn2 ko2 ki2 up2 bn;have HN:=aI6 nr1 np1 rp no ni noi;clear hg hadd hidx kb2 km2 kn2 ko2 ki2 up2 bn nr1 np1 rp no ni noi kb1 km1 ko1 ki1 us own1 up1 pl1 hnum hlt lt;obtain⟨n,hn⟩:∃n,N.length=n:=⟨_,rfl⟩;rw[hn] at hl happ1 HX HN q0 r0;have HL:=hIz hn;clear hn;go_enter Tryz.func62,Tryz.ntmps62;go_upto_region 3 with (at_builtin;refine wpList_append_run rfl _ _ _ rfl rfl rfl happ1 ?_);generalize w1.setCell ⟨p,0,none⟩ (Value.slice A1 (n+1) c1)=W2 at HX ⊢;clear q0 q1 r0 f0 l0 happ1;obtain⟨w3,hrun,hm3,hg3,hz3⟩:=(dC.drew HX.out.2.1).put_miss iI Tryz.underlying128 (.int .i64 ((n:Int)+1)) (pU hk) (fun q hq e=>by
   obtain⟨i,t,hi,ht,rfl⟩:=pS N _ q hq;simp only[Value.string.injEq] at e
   subst e;exact hs (mG ht))
  have u3:Upd (fun k=>k=r) W2 w3:=(Upd.refl (fun k=>k=r) W2).drew.grown hg3 (fun k e=>.inl (by injection e with e;exact e.symm));have kb3:=HX.out.1.upd u3 (fun e=>HN.out.2.2.1 e.symm);have kn3:=aA HX.out.2.2.1 u3 (fun k hk e=>HN.out.1 (by rw[hk,e]));have ko3:=aA HX.out.2.2.2.1 u3 (fun k hk=>(HN.out.2.2.2.1 k hk).2.1);have ki3:=aA HX.out.2.2.2.2.1 u3 (fun k hk=>(HN.out.2.2.2.2.1 k hk).2.1);have ut3:=HX.out.2.2.2.2.2.1.trans u3 (fun k h=>.inl (.inr (.inl h)));have H3:=aI7 kb3 hm3 kn3 ko3 ki3 ut3 u3.size;have hS:W2.drew.cell? ⟨p,0,none⟩=some (.slice A1 (n+1) c1)∧W2.drew.cell? ⟨p,1,none⟩=some (.map (some r)):=⟨HX.out.1.cell 0,HX.out.1.cell 1⟩;clear hg3 hz3 u3 kb3 hm3 kn3 ko3 ki3 ut3;refine aM (fun W=>W.cell? ⟨p,0,none⟩=some (.slice A1 (n+1) c1)∧W.cell? ⟨p,1,none⟩=some (.map (some r))) 10 [(0,true),(1,true),(2,true),(3,true),(4,true),(5,true),(6,true),(7,true),(8,true),(9,true),(10,false)] hS ?_;generalize W2.drew=V2 at hrun hS ⊢
  iterate 10 refine aD rfl ?_
  refine aJ rfl rfl (fun K hK=>?_);go_simp;refine hK _ _ (fun h=>absurd rfl h) ?_;clear hK K hS hrun V2;(try simp only[Act.put,gA,gS,gZ,sA,sZ,sS])
  refine aK ?_;go_upto_region 4 with (fail);have KS:=hIz (show ∀V,Upd (fun k=>(Value.slice A2 n c2).ownBlock=some k) w3 V→V.cell? ⟨p,2,none⟩=some (.slice A2 n c2)∧V.cell? ⟨p,3,none⟩=some (.slice A3 n c3) from fun V hv=>by
   have kb:=H3.out.1.upd hv (fun e=>(HN.out.2.2.2.1 _ e).1 rfl);exact⟨kb.cell 2,kb.cell 3⟩)
  have hS:w3.drew.cell? ⟨p,2,none⟩=some (.slice A2 n c2)∧w3.drew.cell? ⟨p,3,none⟩=some (.slice A3 n c3):=KS.out _ (Upd.refl _ _).drew;refine bT (fun W=>W.cell? ⟨p,2,none⟩=some (.slice A2 n c2)∧W.cell? ⟨p,3,none⟩=some (.slice A3 n c3)) (aN 16) (by kernel_rfl) ?_;have HJ0:=hIz (show Upd (fun _=>False) w3 w3.drew from(Upd.refl _ w3).drew);generalize w3.drew=V0 at HJ0 hS ⊢;intro hd;(refine aB 0 rfl hd hS ?_;clear hd;intro hd;(try simp only[Act.put,gA,gZ,sA,sZ,sS]))
  (refine aW (i:=1) (v:=?_) rfl (by kernel_rfl) hd (fun _ _ d _ _ h=>by cases d <;> exact h) (by first | with_reducible rfl | kernel_rfl) ?_ ?_;rotate_left;(focus (intro wS;go_simp;(try with_reducible rfl);done));clear hd;intro hd;(try simp only[Act.put,gA,gS,gZ,sA,sZ,sS]))
  refine aB 2 rfl hd hS ?_;clear hd;intro hd;refine aB 3 rfl hd hS ?_;clear hd;intro hd;refine aB 4 rfl hd hS ?_;clear hd;intro hd;refine aB 5 rfl hd hS ?_;clear hd;intro hd;refine aB 8 rfl hd hS ?_;clear hd;intro hd;refine aB 9 rfl hd hS ?_;clear hd;intro hd;refine aB 10 rfl hd hS ?_;clear hd;intro hd;refine aB 11 rfl hd hS ?_;clear hd;intro hd;clear hS;refine sQ hd 6 12 ?_ ?_<;>(clear hd;intro hd)
  ·skip
   have koV1:=Blk.new V0 143 #[.slice none 0 0];have HJ1:=hIz ((HJ0.out).alloc (.cells #[.slice none 0 0] 143));have HBo1:=hIz koV1;clear koV1;refine aV (S:=fun W=>W.cell? ⟨p,2,none⟩=some (.slice A2 n c2)∧W.cell? ⟨p,3,none⟩=some (.slice A3 n c3)) (late:=aN 16) rfl rfl (fun K hK=>?_);go_simp;refine hK _ _ (fun _ _=>KS.out _ (HJ1.out.mono (fun _ _ h=>by first | exact h.elim | exact h))) ?_;clear hK K;(try simp only[Act.put,gA,gS,gZ,sA,sZ,sS])
   have hS:(V0.alloc (.cells #[.slice none 0 0] 143)).cell? ⟨p,2,none⟩=some (.slice A2 n c2)∧(V0.alloc (.cells #[.slice none 0 0] 143)).cell? ⟨p,3,none⟩=some (.slice A3 n c3):=KS.out _ (HJ1.out.mono (fun _ _ h=>by first | exact h.elim | exact h));generalize V0.alloc (.cells #[.slice none 0 0] 143)=V1 at HJ1 HBo1 hS ⊢;clear hS;refine sQ hd 7 12 ?_ ?_<;>(clear hd;intro hd)
   ·skip
    obtain⟨B2,d2,V2,happ,o6,u6,p6⟩:=cG V1 0 129 143 1 24 _ Tryz.underlying129 eP rfl (by decide) (by decide) A2 n c2 (kE fo n) (aA H3.out.2.2.2.1 HJ1.out (fun _ _ h=>h)) (some ⟨V0.heap.size,0,none⟩) 1 1 [.slice none 0 0] (iM HBo1.out) rfl (by simp;rfl) (by omega) (Nat.zero_le _);have HJ2:=hIz (show Upd (fun k=>(Value.slice A2 n c2).ownBlock=some k) w3 V2 from(HJ1.out.mono (fun _ _ h=>h.elim)).trans u6 (fun k h=>.inl h));have HO:=aI3 o6 p6 (show w3.heap.size≤V1.heap.size from HJ1.out.size);clear o6 u6 p6;refine aV (S:=fun W=>W.cell? ⟨p,2,none⟩=some (.slice A2 n c2)∧W.cell? ⟨p,3,none⟩=some (.slice A3 n c3)) (late:=aN 16) rfl rfl (fun K hK=>?_);refine bM _ _ _ rfl rfl rfl happ ?_;refine hK _ _ (fun _ _=>KS.out _ HJ2.out) ?_;clear hK K happ;(try simp only[Act.put,gA,gS,gZ,sA,sZ,sS])
    refine aP hd 12 ?_;clear hd;intro hd;have kiV3:=Blk.new V2 143 #[.slice none 0 0];have HJ3:=hIz ((HJ2.out).alloc (.cells #[.slice none 0 0] 143));have HO:=aI2 (HO.out.1.alloc (.cells #[.slice none 0 0] 143)) HO.out.2;have HBi3:=hIz kiV3;clear kiV3;refine aV (S:=fun W=>W.cell? ⟨p,2,none⟩=some (.slice A2 n c2)∧W.cell? ⟨p,3,none⟩=some (.slice A3 n c3)) (late:=aN 16) rfl rfl (fun K hK=>?_);go_simp;refine hK _ _ (fun _ _=>KS.out _ (HJ3.out.mono (fun _ _ h=>by first | exact h.elim | exact h))) ?_;clear hK K;(try simp only[Act.put,gA,gS,gZ,sA,sZ,sS])
    have hS:(V2.alloc (.cells #[.slice none 0 0] 143)).cell? ⟨p,2,none⟩=some (.slice A2 n c2)∧(V2.alloc (.cells #[.slice none 0 0] 143)).cell? ⟨p,3,none⟩=some (.slice A3 n c3):=KS.out _ (HJ3.out.mono (fun _ _ h=>by first | exact h.elim | exact h));generalize V2.alloc (.cells #[.slice none 0 0] 143)=V3 at HJ3 HBi3 HO hS ⊢;clear hS;refine aP hd 13 ?_;clear hd;intro hd;obtain⟨B3,d3,V4,happ,o6,u6,p6⟩:=cG V3 0 129 143 1 24 _ Tryz.underlying129 eP rfl (by decide) (by decide) A3 n c3 (kE fi n) (aA H3.out.2.2.2.2.1 HJ3.out (fun k h1 h2=>HN.out.2.2.2.2.2 k h2 h1)) (some ⟨V2.heap.size,0,none⟩) 1 1 [.slice none 0 0] (iM HBi3.out) rfl (by simp;rfl) (by omega) (Nat.zero_le _);have HF:=qL HG.out.1 HL.out H3.out.1 H3.out.2.1 H3.out.2.2.1 H3.out.2.2.2.2.2.1 HX.out.2.2.2.2.2.2 H3.out.2.2.2.2.2.2 HN.out.1 HN.out.2.1 HN.out.2.2.1 HN.out.2.2.2.1 HN.out.2.2.2.2.1 HN.out.2.2.2.2.2 HJ3.out HO.out.1 HO.out.2.1 HO.out.2.2 o6 u6 p6;clear o6 u6 p6;refine aV (S:=fun W=>W.cell? ⟨p,2,none⟩=some (.slice A2 n c2)∧W.cell? ⟨p,3,none⟩=some (.slice A3 n c3)) (late:=aN 16) rfl rfl (fun K hK=>?_);refine bM _ _ _ rfl rfl rfl happ ?_;refine hK _ _ (fun _ _=>⟨HF.out.1.cell 2,HF.out.1.cell 3⟩) ?_;clear hK K happ;(try simp only[Act.put,gA,gS,gZ,sA,sZ,sS])
    have r2:V4.cell? ⟨p,2,none⟩=some (.slice A2 n c2):=HF.out.1.cell 2;have f2:V4.frozen? ⟨p,2,none⟩=false:=HF.out.1.frozen 2;have kz:=HF.out.1.set 2 (.slice B2 (n+1) d2);have r3:(V4.setCell ⟨p,2,none⟩ (.slice B2 (n+1) d2)).cell? ⟨p,3,none⟩=some (.slice A3 n c3):=kz.cell 3;have f3:(V4.setCell ⟨p,2,none⟩ (.slice B2 (n+1) d2)).frozen? ⟨p,3,none⟩=false:=kz.frozen 3;have FIN:=hIz HF.out.2;clear kz;refine aP hd 14 ?_;clear hd;intro hd;refine aV (S:=fun W=>W.cell? ⟨p,2,none⟩=some (.slice A2 n c2)∧W.cell? ⟨p,3,none⟩=some (.slice A3 n c3)) (late:=aN 16) rfl rfl (fun K hK=>?_);go_simp;refine hK _ _ (fun h _=>⟨HF.out.1.cell 2,HF.out.1.cell 3⟩) ?_;clear hK K;(try simp only[Act.put,gA,gS,gZ,sA,sZ,sS])
    refine aP hd 15 ?_;clear hd;intro hd;refine aV (S:=fun W=>W.cell? ⟨p,2,none⟩=some (.slice A2 n c2)∧W.cell? ⟨p,3,none⟩=some (.slice A3 n c3)) (late:=aN 16) rfl rfl (fun K hK=>?_);go_simp;refine hK _ _ (fun h _=>⟨HF.out.1.cell 2,HF.out.1.cell 3⟩) ?_;clear hK K;(try simp only[Act.put,gA,gS,gZ,sA,sZ,sS])
    refine aP hd 16 ?_;clear hd;intro hd;refine aV (S:=fun W=>W.cell? ⟨p,2,none⟩=some (.slice A2 n c2)∧W.cell? ⟨p,3,none⟩=some (.slice A3 n c3)) (late:=aN 16) rfl rfl (fun K hK=>?_);go_simp;refine hK _ _ (fun h _=>absurd h (by decide)) ?_;clear hK K;(try simp only[Act.put,gA,gS,gZ,sA,sZ,sS])
    refine aP hd 17 ?_;clear hd;intro hd;refine aV (S:=fun W=>W.cell? ⟨p,2,none⟩=some (.slice A2 n c2)∧W.cell? ⟨p,3,none⟩=some (.slice A3 n c3)) (late:=aN 16) rfl rfl (fun K hK=>?_);go_simp;refine hK _ _ (fun h _=>absurd h (by decide)) ?_;clear hK K;(try simp only[Act.put,gA,gS,gZ,sA,sZ,sS])
    refine aP hd 18 ?_;clear hd;intro hd;refine aV (S:=fun W=>W.cell? ⟨p,2,none⟩=some (.slice A2 n c2)∧W.cell? ⟨p,3,none⟩=some (.slice A3 n c3)) (late:=aN 16) rfl rfl (fun K hK=>?_);go_simp;refine hK _ _ (fun h _=>absurd h (by decide)) ?_;clear hK K;(try simp only[Act.put,gA,gS,gZ,sA,sZ,sS])
    refine aP hd 19 ?_;clear hd;intro hd;refine aV (S:=fun W=>W.cell? ⟨p,2,none⟩=some (.slice A2 n c2)∧W.cell? ⟨p,3,none⟩=some (.slice A3 n c3)) (late:=aN 16) rfl rfl (fun K hK=>?_);go_simp;refine hK _ _ (fun h _=>absurd h (by decide)) ?_;clear hK K;(try simp only[Act.put,gA,gS,gZ,sA,sZ,sS])
    refine dO (by kernel_rfl) ?_;generalize (V4.setCell ⟨p,2,none⟩ (.slice B2 (n+1) d2)).setCell ⟨p,3,none⟩ (.slice B3 (n+1) d3)=WF at FIN ⊢;have l0:=FIN.out.2.1;have q1:WF.cell? ⟨p,1,none⟩=some (.map (some r)):=FIN.out.2.2;have hw:IntKind.i64.wrap (((n:Int)+1)-1)=(n:Int):=by rw[IntKind.wrap_i64];omega
    clear r2 f2 r3 f3;go_wp2;go_ret;exact⟨by rw[HG.out.2.2,HL.out];rfl,by rw[HG.out.2.1];exact FIN.out.1⟩
   ·skip
    have kiV2:=Blk.new V1 143 #[.slice none 0 0];have koV2:=HBo1.out.alloc (.cells #[.slice none 0 0] 143);have HJ2:=hIz ((HJ1.out).alloc (.cells #[.slice none 0 0] 143));have HBo2:=hIz koV2;have HBi2:=hIz kiV2;clear koV2 kiV2;refine aV (S:=fun W=>W.cell? ⟨p,2,none⟩=some (.slice A2 n c2)∧W.cell? ⟨p,3,none⟩=some (.slice A3 n c3)) (late:=aN 16) rfl rfl (fun K hK=>?_);go_simp;refine hK _ _ (fun _ _=>KS.out _ (HJ2.out.mono (fun _ _ h=>by first | exact h.elim | exact h))) ?_;clear hK K;(try simp only[Act.put,gA,gS,gZ,sA,sZ,sS])
    have hS:(V1.alloc (.cells #[.slice none 0 0] 143)).cell? ⟨p,2,none⟩=some (.slice A2 n c2)∧(V1.alloc (.cells #[.slice none 0 0] 143)).cell? ⟨p,3,none⟩=some (.slice A3 n c3):=KS.out _ (HJ2.out.mono (fun _ _ h=>by first | exact h.elim | exact h));generalize V1.alloc (.cells #[.slice none 0 0] 143)=V2 at HJ2 HBo2 HBi2 hS ⊢;clear hS;refine aP hd 7 ?_;clear hd;intro hd;obtain⟨B2,d2,V3,happ,o6,u6,p6⟩:=cG V2 0 129 143 1 24 _ Tryz.underlying129 eP rfl (by decide) (by decide) A2 n c2 (kE fo n) (aA H3.out.2.2.2.1 HJ2.out (fun _ _ h=>h)) (some ⟨V0.heap.size,0,none⟩) 1 1 [.slice none 0 0] (iM HBo2.out) rfl (by simp;rfl) (by omega) (Nat.zero_le _);have HJ3:=hIz (show Upd (fun k=>(Value.slice A2 n c2).ownBlock=some k) w3 V3 from(HJ2.out.mono (fun _ _ h=>h.elim)).trans u6 (fun k h=>.inl h));have HBi3:=hIz (HBi2.out.upd u6 (fun e=>by have:=(HN.out.2.2.2.1 _ e).2.2;have:=H3.out.2.2.2.2.2.2;have:=H3.out.2.2.2.2.2.1.size;have:=HJ1.out.size;omega));have HO:=aI3 o6 p6 (show w3.heap.size≤V2.heap.size from HJ2.out.size);clear o6 u6 p6;refine aV (S:=fun W=>W.cell? ⟨p,2,none⟩=some (.slice A2 n c2)∧W.cell? ⟨p,3,none⟩=some (.slice A3 n c3)) (late:=aN 16) rfl rfl (fun K hK=>?_);refine bM _ _ _ rfl rfl rfl happ ?_;refine hK _ _ (fun _ _=>KS.out _ HJ3.out) ?_;clear hK K happ;(try simp only[Act.put,gA,gS,gZ,sA,sZ,sS])
    refine aP hd 13 ?_;clear hd;intro hd;obtain⟨B3,d3,V4,happ,o6,u6,p6⟩:=cG V3 0 129 143 1 24 _ Tryz.underlying129 eP rfl (by decide) (by decide) A3 n c3 (kE fi n) (aA H3.out.2.2.2.2.1 HJ3.out (fun k h1 h2=>HN.out.2.2.2.2.2 k h2 h1)) (some ⟨V1.heap.size,0,none⟩) 1 1 [.slice none 0 0] (iM HBi3.out) rfl (by simp;rfl) (by omega) (Nat.zero_le _);have HF:=qL HG.out.1 HL.out H3.out.1 H3.out.2.1 H3.out.2.2.1 H3.out.2.2.2.2.2.1 HX.out.2.2.2.2.2.2 H3.out.2.2.2.2.2.2 HN.out.1 HN.out.2.1 HN.out.2.2.1 HN.out.2.2.2.1 HN.out.2.2.2.2.1 HN.out.2.2.2.2.2 HJ3.out HO.out.1 HO.out.2.1 HO.out.2.2 o6 u6 p6;clear o6 u6 p6;refine aV (S:=fun W=>W.cell? ⟨p,2,none⟩=some (.slice A2 n c2)∧W.cell? ⟨p,3,none⟩=some (.slice A3 n c3)) (late:=aN 16) rfl rfl (fun K hK=>?_);refine bM _ _ _ rfl rfl rfl happ ?_;refine hK _ _ (fun _ _=>⟨HF.out.1.cell 2,HF.out.1.cell 3⟩) ?_;clear hK K happ;(try simp only[Act.put,gA,gS,gZ,sA,sZ,sS])
    have r2:V4.cell? ⟨p,2,none⟩=some (.slice A2 n c2):=HF.out.1.cell 2;have f2:V4.frozen? ⟨p,2,none⟩=false:=HF.out.1.frozen 2;have kz:=HF.out.1.set 2 (.slice B2 (n+1) d2);have r3:(V4.setCell ⟨p,2,none⟩ (.slice B2 (n+1) d2)).cell? ⟨p,3,none⟩=some (.slice A3 n c3):=kz.cell 3;have f3:(V4.setCell ⟨p,2,none⟩ (.slice B2 (n+1) d2)).frozen? ⟨p,3,none⟩=false:=kz.frozen 3;have FIN:=hIz HF.out.2;clear kz;refine aP hd 14 ?_;clear hd;intro hd;refine aV (S:=fun W=>W.cell? ⟨p,2,none⟩=some (.slice A2 n c2)∧W.cell? ⟨p,3,none⟩=some (.slice A3 n c3)) (late:=aN 16) rfl rfl (fun K hK=>?_);go_simp;refine hK _ _ (fun h _=>⟨HF.out.1.cell 2,HF.out.1.cell 3⟩) ?_;clear hK K;(try simp only[Act.put,gA,gS,gZ,sA,sZ,sS])
    refine aP hd 15 ?_;clear hd;intro hd;refine aV (S:=fun W=>W.cell? ⟨p,2,none⟩=some (.slice A2 n c2)∧W.cell? ⟨p,3,none⟩=some (.slice A3 n c3)) (late:=aN 16) rfl rfl (fun K hK=>?_);go_simp;refine hK _ _ (fun h _=>⟨HF.out.1.cell 2,HF.out.1.cell 3⟩) ?_;clear hK K;(try simp only[Act.put,gA,gS,gZ,sA,sZ,sS])
    refine aP hd 16 ?_;clear hd;intro hd;refine aV (S:=fun W=>W.cell? ⟨p,2,none⟩=some (.slice A2 n c2)∧W.cell? ⟨p,3,none⟩=some (.slice A3 n c3)) (late:=aN 16) rfl rfl (fun K hK=>?_);go_simp;refine hK _ _ (fun h _=>absurd h (by decide)) ?_;clear hK K;(try simp only[Act.put,gA,gS,gZ,sA,sZ,sS])
    refine aP hd 17 ?_;clear hd;intro hd;refine aV (S:=fun W=>W.cell? ⟨p,2,none⟩=some (.slice A2 n c2)∧W.cell? ⟨p,3,none⟩=some (.slice A3 n c3)) (late:=aN 16) rfl rfl (fun K hK=>?_);go_simp;refine hK _ _ (fun h _=>absurd h (by decide)) ?_;clear hK K;(try simp only[Act.put,gA,gS,gZ,sA,sZ,sS])
    refine aP hd 18 ?_;clear hd;intro hd;refine aV (S:=fun W=>W.cell? ⟨p,2,none⟩=some (.slice A2 n c2)∧W.cell? ⟨p,3,none⟩=some (.slice A3 n c3)) (late:=aN 16) rfl rfl (fun K hK=>?_);go_simp;refine hK _ _ (fun h _=>absurd h (by decide)) ?_;clear hK K;(try simp only[Act.put,gA,gS,gZ,sA,sZ,sS])
    refine aP hd 19 ?_;clear hd;intro hd;refine aV (S:=fun W=>W.cell? ⟨p,2,none⟩=some (.slice A2 n c2)∧W.cell? ⟨p,3,none⟩=some (.slice A3 n c3)) (late:=aN 16) rfl rfl (fun K hK=>?_);go_simp;refine hK _ _ (fun h _=>absurd h (by decide)) ?_;clear hK K;(try simp only[Act.put,gA,gS,gZ,sA,sZ,sS])
    refine dO (by kernel_rfl) ?_;generalize (V4.setCell ⟨p,2,none⟩ (.slice B2 (n+1) d2)).setCell ⟨p,3,none⟩ (.slice B3 (n+1) d3)=WF at FIN ⊢;have l0:=FIN.out.2.1;have q1:WF.cell? ⟨p,1,none⟩=some (.map (some r)):=FIN.out.2.2;have hw:IntKind.i64.wrap (((n:Int)+1)-1)=(n:Int):=by rw[IntKind.wrap_i64];omega
    clear r2 f2 r3 f3;go_wp2;go_ret;exact⟨by rw[HG.out.2.2,HL.out];rfl,by rw[HG.out.2.1];exact FIN.out.1⟩
  ·skip
   have kiV1:=Blk.new V0 143 #[.slice none 0 0];have HJ1:=hIz ((HJ0.out).alloc (.cells #[.slice none 0 0] 143));have HBi1:=hIz kiV1;clear kiV1;refine aV (S:=fun W=>W.cell? ⟨p,2,none⟩=some (.slice A2 n c2)∧W.cell? ⟨p,3,none⟩=some (.slice A3 n c3)) (late:=aN 16) rfl rfl (fun K hK=>?_);go_simp;refine hK _ _ (fun _ _=>KS.out _ (HJ1.out.mono (fun _ _ h=>by first | exact h.elim | exact h))) ?_;clear hK K;(try simp only[Act.put,gA,gS,gZ,sA,sZ,sS])
   have hS:(V0.alloc (.cells #[.slice none 0 0] 143)).cell? ⟨p,2,none⟩=some (.slice A2 n c2)∧(V0.alloc (.cells #[.slice none 0 0] 143)).cell? ⟨p,3,none⟩=some (.slice A3 n c3):=KS.out _ (HJ1.out.mono (fun _ _ h=>by first | exact h.elim | exact h));generalize V0.alloc (.cells #[.slice none 0 0] 143)=V1 at HJ1 HBi1 hS ⊢;clear hS;refine aP hd 6 ?_;clear hd;intro hd;have koV2:=Blk.new V1 143 #[.slice none 0 0];have kiV2:=HBi1.out.alloc (.cells #[.slice none 0 0] 143);have HJ2:=hIz ((HJ1.out).alloc (.cells #[.slice none 0 0] 143));have HBi2:=hIz kiV2;have HBo2:=hIz koV2;clear kiV2 koV2;refine aV (S:=fun W=>W.cell? ⟨p,2,none⟩=some (.slice A2 n c2)∧W.cell? ⟨p,3,none⟩=some (.slice A3 n c3)) (late:=aN 16) rfl rfl (fun K hK=>?_);go_simp;refine hK _ _ (fun _ _=>KS.out _ (HJ2.out.mono (fun _ _ h=>by first | exact h.elim | exact h))) ?_;clear hK K;(try simp only[Act.put,gA,gS,gZ,sA,sZ,sS])
   have hS:(V1.alloc (.cells #[.slice none 0 0] 143)).cell? ⟨p,2,none⟩=some (.slice A2 n c2)∧(V1.alloc (.cells #[.slice none 0 0] 143)).cell? ⟨p,3,none⟩=some (.slice A3 n c3):=KS.out _ (HJ2.out.mono (fun _ _ h=>by first | exact h.elim | exact h));generalize V1.alloc (.cells #[.slice none 0 0] 143)=V2 at HJ2 HBi2 HBo2 hS ⊢;clear hS;refine aP hd 7 ?_;clear hd;intro hd;obtain⟨B2,d2,V3,happ,o6,u6,p6⟩:=cG V2 0 129 143 1 24 _ Tryz.underlying129 eP rfl (by decide) (by decide) A2 n c2 (kE fo n) (aA H3.out.2.2.2.1 HJ2.out (fun _ _ h=>h)) (some ⟨V1.heap.size,0,none⟩) 1 1 [.slice none 0 0] (iM HBo2.out) rfl (by simp;rfl) (by omega) (Nat.zero_le _);have HJ3:=hIz (show Upd (fun k=>(Value.slice A2 n c2).ownBlock=some k) w3 V3 from(HJ2.out.mono (fun _ _ h=>h.elim)).trans u6 (fun k h=>.inl h));have HBi3:=hIz (HBi2.out.upd u6 (fun e=>by have:=(HN.out.2.2.2.1 _ e).2.2;have:=H3.out.2.2.2.2.2.2;have:=H3.out.2.2.2.2.2.1.size;have:=HJ0.out.size;omega));have HO:=aI3 o6 p6 (show w3.heap.size≤V2.heap.size from HJ2.out.size);clear o6 u6 p6;refine aV (S:=fun W=>W.cell? ⟨p,2,none⟩=some (.slice A2 n c2)∧W.cell? ⟨p,3,none⟩=some (.slice A3 n c3)) (late:=aN 16) rfl rfl (fun K hK=>?_);refine bM _ _ _ rfl rfl rfl happ ?_;refine hK _ _ (fun _ _=>KS.out _ HJ3.out) ?_;clear hK K happ;(try simp only[Act.put,gA,gS,gZ,sA,sZ,sS])
   refine aP hd 13 ?_;clear hd;intro hd;obtain⟨B3,d3,V4,happ,o6,u6,p6⟩:=cG V3 0 129 143 1 24 _ Tryz.underlying129 eP rfl (by decide) (by decide) A3 n c3 (kE fi n) (aA H3.out.2.2.2.2.1 HJ3.out (fun k h1 h2=>HN.out.2.2.2.2.2 k h2 h1)) (some ⟨V0.heap.size,0,none⟩) 1 1 [.slice none 0 0] (iM HBi3.out) rfl (by simp;rfl) (by omega) (Nat.zero_le _);have HF:=qL HG.out.1 HL.out H3.out.1 H3.out.2.1 H3.out.2.2.1 H3.out.2.2.2.2.2.1 HX.out.2.2.2.2.2.2 H3.out.2.2.2.2.2.2 HN.out.1 HN.out.2.1 HN.out.2.2.1 HN.out.2.2.2.1 HN.out.2.2.2.2.1 HN.out.2.2.2.2.2 HJ3.out HO.out.1 HO.out.2.1 HO.out.2.2 o6 u6 p6;clear o6 u6 p6;refine aV (S:=fun W=>W.cell? ⟨p,2,none⟩=some (.slice A2 n c2)∧W.cell? ⟨p,3,none⟩=some (.slice A3 n c3)) (late:=aN 16) rfl rfl (fun K hK=>?_);refine bM _ _ _ rfl rfl rfl happ ?_;refine hK _ _ (fun _ _=>⟨HF.out.1.cell 2,HF.out.1.cell 3⟩) ?_;clear hK K happ;(try simp only[Act.put,gA,gS,gZ,sA,sZ,sS])
   have r2:V4.cell? ⟨p,2,none⟩=some (.slice A2 n c2):=HF.out.1.cell 2;have f2:V4.frozen? ⟨p,2,none⟩=false:=HF.out.1.frozen 2;have kz:=HF.out.1.set 2 (.slice B2 (n+1) d2);have r3:(V4.setCell ⟨p,2,none⟩ (.slice B2 (n+1) d2)).cell? ⟨p,3,none⟩=some (.slice A3 n c3):=kz.cell 3;have f3:(V4.setCell ⟨p,2,none⟩ (.slice B2 (n+1) d2)).frozen? ⟨p,3,none⟩=false:=kz.frozen 3;have FIN:=hIz HF.out.2;clear kz;refine aP hd 14 ?_;clear hd;intro hd;refine aV (S:=fun W=>W.cell? ⟨p,2,none⟩=some (.slice A2 n c2)∧W.cell? ⟨p,3,none⟩=some (.slice A3 n c3)) (late:=aN 16) rfl rfl (fun K hK=>?_);go_simp;refine hK _ _ (fun h _=>⟨HF.out.1.cell 2,HF.out.1.cell 3⟩) ?_;clear hK K;(try simp only[Act.put,gA,gS,gZ,sA,sZ,sS])
   refine aP hd 15 ?_;clear hd;intro hd;refine aV (S:=fun W=>W.cell? ⟨p,2,none⟩=some (.slice A2 n c2)∧W.cell? ⟨p,3,none⟩=some (.slice A3 n c3)) (late:=aN 16) rfl rfl (fun K hK=>?_);go_simp;refine hK _ _ (fun h _=>⟨HF.out.1.cell 2,HF.out.1.cell 3⟩) ?_;clear hK K;(try simp only[Act.put,gA,gS,gZ,sA,sZ,sS])
   refine aP hd 16 ?_;clear hd;intro hd;refine aV (S:=fun W=>W.cell? ⟨p,2,none⟩=some (.slice A2 n c2)∧W.cell? ⟨p,3,none⟩=some (.slice A3 n c3)) (late:=aN 16) rfl rfl (fun K hK=>?_);go_simp;refine hK _ _ (fun h _=>absurd h (by decide)) ?_;clear hK K;(try simp only[Act.put,gA,gS,gZ,sA,sZ,sS])
   refine aP hd 17 ?_;clear hd;intro hd;refine aV (S:=fun W=>W.cell? ⟨p,2,none⟩=some (.slice A2 n c2)∧W.cell? ⟨p,3,none⟩=some (.slice A3 n c3)) (late:=aN 16) rfl rfl (fun K hK=>?_);go_simp;refine hK _ _ (fun h _=>absurd h (by decide)) ?_;clear hK K;(try simp only[Act.put,gA,gS,gZ,sA,sZ,sS])
   refine aP hd 18 ?_;clear hd;intro hd;refine aV (S:=fun W=>W.cell? ⟨p,2,none⟩=some (.slice A2 n c2)∧W.cell? ⟨p,3,none⟩=some (.slice A3 n c3)) (late:=aN 16) rfl rfl (fun K hK=>?_);go_simp;refine hK _ _ (fun h _=>absurd h (by decide)) ?_;clear hK K;(try simp only[Act.put,gA,gS,gZ,sA,sZ,sS])
   refine aP hd 19 ?_;clear hd;intro hd;refine aV (S:=fun W=>W.cell? ⟨p,2,none⟩=some (.slice A2 n c2)∧W.cell? ⟨p,3,none⟩=some (.slice A3 n c3)) (late:=aN 16) rfl rfl (fun K hK=>?_);go_simp;refine hK _ _ (fun h _=>absurd h (by decide)) ?_;clear hK K;(try simp only[Act.put,gA,gS,gZ,sA,sZ,sS])
   refine dO (by kernel_rfl) ?_;generalize (V4.setCell ⟨p,2,none⟩ (.slice B2 (n+1) d2)).setCell ⟨p,3,none⟩ (.slice B3 (n+1) d3)=WF at FIN ⊢;have l0:=FIN.out.2.1;have q1:WF.cell? ⟨p,1,none⟩=some (.map (some r)):=FIN.out.2.2;have hw:IntKind.i64.wrap (((n:Int)+1)-1)=(n:Int):=by rw[IntKind.wrap_i64];omega
   clear r2 f2 r3 f3;go_wp2;go_ret;exact⟨by rw[HG.out.2.2,HL.out];rfl,by rw[HG.out.2.1];exact FIN.out.1⟩
open Go.RowKit
def gF(x:Int):List Value:=[.int .i64 x,.int .i64 0,.int .i64 0,.int .i64 0]
def qsC(m:Nat)(last:Int):List Value:=((List.range m).flatMap fun (i:Nat)=>gF ((i:Int)+2))++gF last
def lfC(L:List (List Nat)):List Value:=L.flatMap wdC
inductive QRo
 | p | a | l
structure QuI(w:World)(O:Nat→Option QRo)(p:Nat)(side dep cnt:Nat)(m:Nat)(last:Int)(L:List (List Nat))(pv lv:Value):Prop where
 blk:Blk w p 163 #[.int .i64 (side:Int),.int .i64 (dep:Int),.int .i64 (cnt:Int),pv,lv]
 rp:w.ownsRow 0 204 4 pv (m+1) (qsC m last)
 rl:w.ownsRow 0 168 64 lv L.length (lfC L)
 op:O p=some .p
 oa:∀k,pv.ownBlock=some k→O k=some .a
 ol:∀k,lv.ownBlock=some k→O k=some .l
 lt:∀k,O k≠none→k<w.heap.size
structure PD(side dep cnt m:Nat)(last:Int)(L:List (List Nat))(b:Option (List Nat)):Prop where
 s1:1≤side
 s2:side≤1024
 d1:1≤dep
 d2:dep≤4
 no:b=none→m=0∧last=0∧L=[]∧cnt=0
 is:∀r,b=some r→m+1=dep∧last=1∧L=[r]∧cnt=dB r∧Wd r
def QuS(w:World)(F:Nat→Prop)(p side:Nat)(b:Option (List Nat)):Prop:=∃O dep cnt m last L pv lv,QuI w O p side dep cnt m last L pv lv∧PD side dep cnt m last L b∧F=fun k=>O k≠none
theorem QuI.upd{w w':World}{O:Nat→Option QRo}{p side dep cnt m:Nat}{last:Int}{L:List (List Nat)}{pv lv:Value}{G:Nat→Prop}(h:QuI w O p side dep cnt m last L pv lv)(hu:Upd G w w')(hd:∀k,O k≠none→¬G k):QuI w' O p side dep cnt m last L pv lv:=by
 have no:∀k t,O k=some t→¬G k:=fun k t e=>hd k (by simp[e])
 exact⟨h.blk.upd hu (no _ _ h.op),aA h.rp hu fun k hk=>no _ _ (h.oa k hk),aA h.rl hu fun k hk=>no _ _ (h.ol k hk),h.op,h.oa,h.ol,fun k hk=>Nat.lt_of_lt_of_le (h.lt k hk) hu.size⟩
theorem QuS.upd{w w':World}{F G:Nat→Prop}{p side:Nat}{b:Option (List Nat)}(h:QuS w F p side b)(hu:Upd G w w')(hd:∀k,F k→¬G k):QuS w' F p side b:=by
 obtain⟨O,dep,cnt,m,last,L,pv,lv,hs,ok,rfl⟩:=h;exact⟨O,dep,cnt,m,last,L,pv,lv,hs.upd hu hd,ok,rfl⟩
theorem QuS.below{w w':World}{F:Nat→Prop}{p side:Nat}{b:Option (List Nat)}(h:QuS w F p side b)(hb:Below w.heap.size w w'):QuS w' F p side b:=h.upd (upF hb) (fun _ _=>id)
theorem QuS.lt{w:World}{F:Nat→Prop}{p side:Nat}{b:Option (List Nat)}(h:QuS w F p side b):∀k,F k→k<w.heap.size:=by
 obtain⟨O,dep,cnt,m,last,L,pv,lv,hs,ok,rfl⟩:=h;exact hs.lt
theorem QuI.no{w:World}{O:Nat→Option QRo}{p side dep cnt m:Nat}{last:Int}{L:List (List Nat)}{pv lv:Value}(h:QuI w O p side dep cnt m last L pv lv):(∀k,pv.ownBlock=some k→¬k=p)∧(∀k,lv.ownBlock=some k→¬k=p)∧∀k,pv.ownBlock=some k→¬lv.ownBlock=some k:=
 ⟨fun k hk e=>(by have:=h.oa k hk;rw[e,h.op] at this;cases this),fun k hk e=>(by have:=h.ol k hk;rw[e,h.op] at this;cases this),fun k hk e=>by have:=h.oa k hk;rw[h.ol k e] at this;cases this⟩
theorem QuI.setD{w:World}{O:Nat→Option QRo}{p side dep cnt m:Nat}{last:Int}{L:List (List Nat)}{pv lv:Value}(h:QuI w O p side dep cnt m last L pv lv)(d':Nat):QuI (w.setCell ⟨p,1,none⟩ (.int .i64 (d':Int))) O p side d' cnt m last L pv lv:=by
 have us:=(Upd.refl (fun k=>k=p) w).setCell (p:=⟨p,1,none⟩) (.inl rfl) (.int .i64 (d':Int));exact⟨h.blk.set 1 _,aA h.rp us h.no.1,aA h.rl us h.no.2.1,h.op,h.oa,h.ol,fun k hk=>Nat.lt_of_lt_of_le (h.lt k hk) us.size⟩
theorem QuI.setC{w:World}{O:Nat→Option QRo}{p side dep cnt m:Nat}{last:Int}{L:List (List Nat)}{pv lv:Value}(h:QuI w O p side dep cnt m last L pv lv)(c':Nat):QuI (w.setCell ⟨p,2,none⟩ (.int .i64 (c':Int))) O p side dep c' m last L pv lv:=by
 have us:=(Upd.refl (fun k=>k=p) w).setCell (p:=⟨p,2,none⟩) (.inl rfl) (.int .i64 (c':Int));exact⟨h.blk.set 2 _,aA h.rp us h.no.1,aA h.rl us h.no.2.1,h.op,h.oa,h.ol,fun k hk=>Nat.lt_of_lt_of_le (h.lt k hk) us.size⟩
def eX(B p side:Nat)(b:Option (List Nat))(w':World):Prop:=∃F,QuS w' F p side b∧∀k,F k→B≤k
theorem GW(w:World)(side:Nat):QuI ((w.alloc (.cells #[.int .i64 0,.int .i64 0,.int .i64 0,.int .i64 0] 204)).alloc (.cells #[.int .i64 (side:Int),.int .i64 1,.int .i64 0,.slice (some ⟨w.heap.size,0,none⟩) 1 1,.slice none 0 0] 163)) (fun k=>if k=w.heap.size+1 then some QRo.p else if k=w.heap.size then some QRo.a else none) (w.heap.size+1) side 1 0 0 0 [] (.slice (some ⟨w.heap.size,0,none⟩) 1 1) (.slice none 0 0):=by
 have k1:=Blk.new (w.alloc (.cells #[.int .i64 0,.int .i64 0,.int .i64 0,.int .i64 0] 204)) 163 #[.int .i64 (side:Int),.int .i64 1,.int .i64 0,.slice (some ⟨w.heap.size,0,none⟩) 1 1,.slice none 0 0];have hz:(w.alloc (.cells #[.int .i64 0,.int .i64 0,.int .i64 0,.int .i64 0] 204)).heap.size=w.heap.size+1:=by simp
 rw[hz] at k1;refine⟨k1,?_,World.ownsRow_nil _ _ _ _,if_pos rfl,?_,?_,?_⟩
 ·have own:(w.alloc (.cells #[.int .i64 0,.int .i64 0,.int .i64 0,.int .i64 0] 204)).ownsRow 0 204 4 (.slice (some ⟨w.heap.size,0,none⟩) 1 1) (0+1) (qsC 0 0):=⟨rfl,.inr ⟨w.heap.size,1,#[.int .i64 0,.int .i64 0,.int .i64 0,.int .i64 0],rfl,Nat.zero_le _,heap_alloc_new w _,Nat.le_refl _,by decide,rfl,rfl⟩⟩;exact own.alloc _
 ·intro k hk;simp[Value.ownBlock] at hk
  subst hk;rw[if_neg (by omega),if_pos rfl]
 ·intro k hk;simp[Value.ownBlock] at hk
 ·intro k hk;simp only[World.size_alloc] at *
  split at hk
  ·omega
  split at hk
  ·omega
  ·exact absurd rfl hk
theorem sR:(Tryz.prog.info? 204).map (fun i=>(i.zero,i.size,i.bytes))=some (some (.agg #[.int .i64 0,.int .i64 0,.int .i64 0,.int .i64 0]),4,32):=by kernel_rfl
theorem GY(w:World):(Instr.makeSlice 160 (.int .i64 1) (.int .i64 1)).run Tryz.prog w=.ok (.slice (some ⟨w.heap.size,0,none⟩) 1 1) (w.alloc (.cells #[.int .i64 0,.int .i64 0,.int .i64 0,.int .i64 0] 204)):=by
 obtain⟨i0,hi0,hz0,hz1,hz2⟩:=info_parts sR;have hr:=run_make (P:=Tryz.prog) w 160 204 i0 _ Tryz.underlying160 hi0 hz0 .i64 .i64 1 1 (by omega) (Int.le_refl _) (by rw[hz2];omega) (by omega);rw[hz1] at hr;have e:madeCells (Value.agg #[.int .i64 0,.int .i64 0,.int .i64 0,.int .i64 0]).cells (Int.toNat 1*4)=#[.int .i64 0,.int .i64 0,.int .i64 0,.int .i64 0]:=by kernel_rfl
 rw[e] at hr;exact hr
def BS(w:World)(side:Nat)(e:Ending)(w':World):Prop:=∃p,e=.returned (.tuple #[.pointer (some ⟨p,0,none⟩),.int .i64 0])∧eX w.heap.size p side none w'∧Below w.heap.size w w'
theorem jL(w:World)(side:Nat)(h1:1≤side)(h2:side≤1024):Calls Tryz.prog 69 #[.int .i64 (side:Int)] w (BS w side):=by
 have hz:((w.alloc (.cells #[.int .i64 0,.int .i64 0,.int .i64 0,.int .i64 0] 204)).alloc (.cells #[.int .i64 (side:Int),.int .i64 1,.int .i64 0,.slice (some ⟨w.heap.size,0,none⟩) 1 1,.slice none 0 0] 163)).heap.size=w.heap.size+1+1:=by simp
 have u0:Below w.heap.size w ((w.alloc (.cells #[.int .i64 0,.int .i64 0,.int .i64 0,.int .i64 0] 204)).alloc (.cells #[.int .i64 (side:Int),.int .i64 1,.int .i64 0,.slice (some ⟨w.heap.size,0,none⟩) 1 1,.slice none 0 0] 163)):=by(repeat (first | exact Below.refl _ _ | apply Below.drew | refine Below.alloc ?_ (by first | exact Nat.le_refl _ | (simp;done) | (simp;omega)) _ | refine Below.setCell ?_ (by first | exact Nat.le_refl _ | (simp;done) | (simp;omega)) _))
 have H:=aI2 (GW w side) u0;have t1:¬((side:Int)<1):=by omega
 have t2:¬((1024:Int)<(side:Int)):=by omega
 clear u0 hz;go_enter Tryz.func69,Tryz.ntmps69;have hmk:=GY w;go_upto_region 4 with (fail);generalize (w.alloc (.cells #[.int .i64 0,.int .i64 0,.int .i64 0,.int .i64 0] 204)).alloc (.cells #[.int .i64 (side:Int),.int .i64 1,.int .i64 0,.slice (some ⟨w.heap.size,0,none⟩) 1 1,.slice none 0 0] 163)=W0 at H ⊢;clear hmk;go_loopw [] (fun wr=>∃d:Nat,1≤d∧d≤4∧Hid (QuI wr (fun k=>if k=w.heap.size+1 then some QRo.p else if k=w.heap.size then some QRo.a else none) (w.heap.size+1) side d 0 0 0 [] (.slice (some ⟨w.heap.size,0,none⟩) 1 1) (.slice none 0 0))∧Hid (Below w.heap.size w wr)) (fun wr=>4-(match wr.cell? ⟨w.heap.size+1,1,none⟩ with | some v=>(intOf v).toNat | none=>0))
 case atStart=>exact⟨1,Nat.le_refl _,by decide,hIz H.out.1,hIz H.out.2⟩
 case round =>
  obtain⟨d,hd1,hd4,hq,hbw⟩:=hrel;have hlo:∀k,(if k=w.heap.size+1 then some QRo.p else if k=w.heap.size then some QRo.a else none)≠none→w.heap.size≤k:=fun k hk=>by
   split at hk
   ·omega
   split at hk
   ·omega
   ·exact absurd rfl hk
  have hd:d=1∨d=2∨d=3∨d=4:=by omega
  rcases hd with rfl|rfl|rfl|rfl
  ·have q1:wr.cell? ⟨w.heap.size+1,1,none⟩=some (.int .i64 1):=hq.out.blk.cell 1;have f1:=hq.out.blk.frozen 1;have HN:=hIz (hq.out.setD 2);have HB:=hIz (hbw.out.trans (((Upd.refl (fun k=>k=w.heap.size+1) wr).setCell (p:=⟨w.heap.size+1,1,none⟩) (.inl rfl) (.int .i64 ((2:Nat):Int))).below (fun k _ e=>by omega) hbw.out.size));by_cases hlt:(128:Int)<(side:Int)
   ·go_wp2;go_roundw
    case rel=>exact⟨2,by decide,by decide,HN,HB⟩
    case measure =>
     have:=show(wr.setCell ⟨w.heap.size+1,1,none⟩ (.int .i64 2)).cell? ⟨w.heap.size+1,1,none⟩=some (.int .i64 2) from HN.out.blk.cell 1
     simp[q1,intOf,this]
   ·have FIN:=hIz (show BS w side (.returned (.tuple #[.pointer (some ⟨w.heap.size+1,0,none⟩),.int .i64 0])) wr from⟨_,rfl,⟨_,⟨_,_,_,_,_,_,_,_,hq.out,⟨h1,h2,by decide,by decide,fun _=>⟨rfl,rfl,rfl,rfl⟩,fun _ e=>by cases e⟩,rfl⟩,hlo⟩,hbw.out⟩);clear HN HB hq hbw;go_wp2;refine bodyPost_ret (v:=.tuple #[.pointer (some ⟨w.heap.size+1,0,none⟩),.int .i64 0]) (by simp[results,Tryz.f69,go_sem]) rfl FIN.out
  ·have q1:wr.cell? ⟨w.heap.size+1,1,none⟩=some (.int .i64 2):=hq.out.blk.cell 1;have f1:=hq.out.blk.frozen 1;have HN:=hIz (hq.out.setD 3);have HB:=hIz (hbw.out.trans (((Upd.refl (fun k=>k=w.heap.size+1) wr).setCell (p:=⟨w.heap.size+1,1,none⟩) (.inl rfl) (.int .i64 ((3:Nat):Int))).below (fun k _ e=>by omega) hbw.out.size));by_cases hlt:(256:Int)<(side:Int)
   ·go_wp2;go_roundw
    case rel=>exact⟨3,by decide,by decide,HN,HB⟩
    case measure =>
     have:=show(wr.setCell ⟨w.heap.size+1,1,none⟩ (.int .i64 3)).cell? ⟨w.heap.size+1,1,none⟩=some (.int .i64 3) from HN.out.blk.cell 1
     simp[q1,intOf,this]
   ·have FIN:=hIz (show BS w side (.returned (.tuple #[.pointer (some ⟨w.heap.size+1,0,none⟩),.int .i64 0])) wr from⟨_,rfl,⟨_,⟨_,_,_,_,_,_,_,_,hq.out,⟨h1,h2,by decide,by decide,fun _=>⟨rfl,rfl,rfl,rfl⟩,fun _ e=>by cases e⟩,rfl⟩,hlo⟩,hbw.out⟩);clear HN HB hq hbw;go_wp2;refine bodyPost_ret (v:=.tuple #[.pointer (some ⟨w.heap.size+1,0,none⟩),.int .i64 0]) (by simp[results,Tryz.f69,go_sem]) rfl FIN.out
  ·have q1:wr.cell? ⟨w.heap.size+1,1,none⟩=some (.int .i64 3):=hq.out.blk.cell 1;have f1:=hq.out.blk.frozen 1;have HN:=hIz (hq.out.setD 4);have HB:=hIz (hbw.out.trans (((Upd.refl (fun k=>k=w.heap.size+1) wr).setCell (p:=⟨w.heap.size+1,1,none⟩) (.inl rfl) (.int .i64 ((4:Nat):Int))).below (fun k _ e=>by omega) hbw.out.size));by_cases hlt:(512:Int)<(side:Int)
   ·go_wp2;go_roundw
    case rel=>exact⟨4,by decide,by decide,HN,HB⟩
    case measure =>
     have:=show(wr.setCell ⟨w.heap.size+1,1,none⟩ (.int .i64 4)).cell? ⟨w.heap.size+1,1,none⟩=some (.int .i64 4) from HN.out.blk.cell 1
     simp[q1,intOf,this]
   ·have FIN:=hIz (show BS w side (.returned (.tuple #[.pointer (some ⟨w.heap.size+1,0,none⟩),.int .i64 0])) wr from⟨_,rfl,⟨_,⟨_,_,_,_,_,_,_,_,hq.out,⟨h1,h2,by decide,by decide,fun _=>⟨rfl,rfl,rfl,rfl⟩,fun _ e=>by cases e⟩,rfl⟩,hlo⟩,hbw.out⟩);clear HN HB hq hbw;go_wp2;refine bodyPost_ret (v:=.tuple #[.pointer (some ⟨w.heap.size+1,0,none⟩),.int .i64 0]) (by simp[results,Tryz.f69,go_sem]) rfl FIN.out
  ·have q1:wr.cell? ⟨w.heap.size+1,1,none⟩=some (.int .i64 4):=hq.out.blk.cell 1;have FIN:=hIz (show BS w side (.returned (.tuple #[.pointer (some ⟨w.heap.size+1,0,none⟩),.int .i64 0])) wr from⟨_,rfl,⟨_,⟨_,_,_,_,_,_,_,_,hq.out,⟨h1,h2,by decide,by decide,fun _=>⟨rfl,rfl,rfl,rfl⟩,fun _ e=>by cases e⟩,rfl⟩,hlo⟩,hbw.out⟩);clear hq hbw;go_wp2;refine bodyPost_ret (v:=.tuple #[.pointer (some ⟨w.heap.size+1,0,none⟩),.int .i64 0]) (by simp[results,Tryz.f69,go_sem]) rfl FIN.out
open Go.RowKit
theorem BT{m k:Nat}{last:Int}(h:k<m):(qsC m last)[k*4]?=some (.int .i64 ((k:Int)+2)):=by
 have hl:((List.range m).flatMap fun (i:Nat)=>gF ((i:Int)+2)).length=m*4:=by rw[dV _ 4 (fun _=>rfl),List.length_range]
 unfold qsC;rw[List.getElem?_append_left (by omega)];have:=dQ (fun (i:Nat)=>gF ((i:Int)+2)) 4 (fun _=>rfl) (List.range m) k 0 k (by simp[h]) (by decide);rw[Nat.add_zero] at this;rw[this];rfl
theorem gK{m:Nat}{last:Int}:(qsC m last)[m*4]?=some (.int .i64 last):=by
 have hl:((List.range m).flatMap fun (i:Nat)=>gF ((i:Int)+2)).length=m*4:=by rw[dV _ 4 (fun _=>rfl),List.length_range]
 unfold qsC;rw[List.getElem?_append_right (by omega),hl,Nat.sub_self];rfl
theorem eH(w:World)(p side:Nat)(hs:1≤side)(q0:w.cell? ⟨p,0,none⟩=some (.int .i64 (side:Int))):Calls Tryz.prog 90 #[.pointer (some ⟨p,0,none⟩)] w (jS w (.bool true)):=by
 have h0:0<side:=by omega
 go_enter Tryz.func90,Tryz.ntmps90;go_wp2;go_ret;exact⟨rfl,rfl⟩
theorem qM(w:World)(p side i:Nat)(hs:i<side)(q0:w.cell? ⟨p,0,none⟩=some (.int .i64 (side:Int))):Calls Tryz.prog 117 #[.pointer (some ⟨p,0,none⟩),.int .i64 (i:Int)] w (jS w (.bool true)):=by
 have h0:(0:Int)≤(i:Int):=by omega
 have h1:(i:Int)<(side:Int):=by omega
 go_enter Tryz.func117,Tryz.ntmps117;go_wp2;go_ret;exact⟨rfl,rfl⟩
theorem dA(w:World)(p side:Nat)(hs:1≤side)(q0:w.cell? ⟨p,0,none⟩=some (.int .i64 (side:Int))):Calls Tryz.prog 214 #[.pointer (some ⟨p,0,none⟩)] w (jS w (.int .i64 (side:Int))):=by
 go_enter Tryz.func214,Tryz.ntmps214;go_wp2_with fail;refine(eH w p side hs q0).mono ?_;rintro e w' ⟨rfl,hw⟩;subst w';go_wp2;go_ret;exact⟨rfl,rfl⟩
theorem GZ(w:World)(p side cnt:Nat)(hs:1≤side)(q0:w.cell? ⟨p,0,none⟩=some (.int .i64 (side:Int)))(q2:w.cell? ⟨p,2,none⟩=some (.int .i64 (cnt:Int))):Calls Tryz.prog 64 #[.pointer (some ⟨p,0,none⟩)] w (jS w (.int .i64 (cnt:Int))):=by
 go_enter Tryz.func64,Tryz.ntmps64;go_wp2_with fail;refine(eH w p side hs q0).mono ?_;rintro e w' ⟨rfl,hw⟩;subst w';go_wp2;go_ret;exact⟨rfl,rfl⟩
theorem mP(w:World)(O:Nat→Option QRo)(p side dep cnt m:Nat)(last:Int)(L:List (List Nat))(pv lv:Value)(h:QuI w O p side dep cnt m last L pv lv)(hd:m<dep)(hd4:dep≤4)(hl:last=0∧m=0∨last=1∧m+1=dep) :
  Calls Tryz.prog 118 #[.pointer (some ⟨p,0,none⟩),.int .i64 0,.int .i64 0] w (Sam w (.int .i64 last)):=by
 have q1:w.cell? ⟨p,1,none⟩=some (.int .i64 (dep:Int)):=h.blk.cell 1;obtain⟨pg,pc,e,-,-,-,-,hc⟩:=aL h.rp (by omega);subst e;have SR:=hIz (show ∀W,Below w.heap.size w W→∀k,k≤m→W.cell? ⟨p,3,none⟩=some (.slice (some ⟨pg,0,none⟩) (m+1) pc)∧W.cell? ⟨pg,k*4,none⟩=some (.int .i64 (if k<m then (k:Int)+2 else last)) from fun W hb k hk=>by
  have hi:=h.upd (upF hb) (fun _ _=>id);refine⟨hi.blk.cell 3,?_⟩;have hcc:=(aL hi.rp (by omega));obtain⟨g',c',e',-,-,-,-,hc'⟩:=hcc;injection e' with e';injection e' with e';injection e' with e';subst e';by_cases hkm:k<m
  ·rw[if_pos hkm];exact(hc' _ _ (BT hkm)).1
  ·obtain rfl:k=m:=by omega
   rw[if_neg hkm];exact(hc' _ _ gK).1)
 obtain⟨n,hn⟩:∃n,m+1=n:=⟨_,rfl⟩;rw[hn] at SR;have hw1:IntKind.i64.wrap ((dep:Int)-1)=(dep:Int)-1:=by rw[IntKind.wrap_i64];omega
 clear h hc;go_enter Tryz.func118,Tryz.ntmps118;go_wp2_with fail;clear q1;go_loopw [7,8] (fun a l wr=>∃k:Nat,k≤m∧a=.int .i64 k∧l=.int .i64 ((dep:Int)-1-k)∧Hid (Below w.heap.size w wr)) (fun _ l _=>(intOf l+1).toNat)
 case atStart=>exact⟨0,Nat.zero_le _,rfl,by simp,hIz bR⟩
 case round =>
  obtain⟨k,hk,rfl,rfl,hb⟩:=hrel;obtain⟨l,hl0⟩:∃l:Nat,(dep:Int)-1-(k:Int)=(l:Int):=⟨dep-1-k,by omega⟩;rw[hl0];have hl10:l≤10:=by omega
  have hge:(0:Int)≤(l:Int):=by omega
  have hkn:(k:Int)<(n:Int):=by omega
  have hS:=SR.out wr.drew hb.out.drew k hk;have hwy:=nI l hl10 wr.drew;have HB:=hIz hb.out.drew;clear hb;go_upto_region 5 with (fail);refine aM (fun W=>W.cell? ⟨p,3,none⟩=some (.slice (some ⟨pg,0,none⟩) n pc)∧W.cell? ⟨pg,k*4,none⟩=some (.int .i64 (if k<m then (k:Int)+2 else last))) 13 [(0,true),(1,true),(2,true),(3,true),(4,true),(5,true),(6,true),(7,true),(9,true),(8,false),(10,true),(11,true),(12,true)] hS ?_;generalize wr.drew=V0 at hS hwy HB ⊢
  iterate 9 refine aD rfl ?_
  refine aJ rfl rfl (fun K hK=>?_);go_simp;refine hwy.mono ?_;clear hwy;rintro e V1 ⟨rfl,b1⟩;have HB1:=hIz (tHn HB.out b1);have hS:=SR.out V1 HB1.out k hk;refine hK _ _ (fun _=>hS) ?_;clear hK K b1;(try simp only[Act.put,gA,gS,gZ,sA,sZ,sS])
  iterate 3 refine aD rfl ?_
  refine aK ?_;clear hS;by_cases hkm:k<m
  ·rw[if_pos hkm];have z0:((k:Int)+2==0)=false:=by simp;omega
   have z1:((l:Int)==0)=false:=by
    have:l≠0:=by omega
    simpa using this
   have w0:IntKind.i64.wrap ((k:Int)+1)=(k:Int)+1:=IntWalk.i64_in _ (by omega);have w1:IntKind.i64.wrap ((l:Int)-1)=(l:Int)-1:=by rw[IntKind.wrap_i64];omega
   go_wp2;go_roundw
   case rel=>exact⟨k+1,by omega,by go_num,by congr 1;omega,HB1⟩
   case measure=>simp[intOf] <;> omega
  ·rw[if_neg hkm];rcases hl with ⟨rfl,hm⟩|⟨rfl,hm⟩
   ·go_wp2;go_ret;exact⟨rfl,HB1.out⟩
   ·obtain rfl:l=0:=by omega
    go_wp2;go_ret;exact⟨rfl,HB1.out⟩
open Go.RowKit
def aY:Option (List Nat)→Nat→Nat→Bool
 | none,_,_=>false
 | some r,i,j=>eQ r i j
theorem HJ(w:World)(F:Nat→Prop)(p side:Nat)(b:Option (List Nat))(h:QuS w F p side b)(i j:Nat)(hi:i<side)(hj:j<side)(hi6:i<64)(hj6:j<64) :
  Calls Tryz.prog 75 #[.pointer (some ⟨p,0,none⟩),.int .i64 (i:Int),.int .i64 (j:Int)] w (Sam w (.tuple #[.bool (aY b i j),.int .i64 0])):=by
 obtain⟨O,dep,cnt,m,last,L,pv,lv,hq,ok,-⟩:=h;have q0:w.cell? ⟨p,0,none⟩=some (.int .i64 (side:Int)):=hq.blk.cell 0;have d1:=ok.d1;have d2:=ok.d2;have s1:=ok.s1;have qi:(i:Int).tdiv 64=0:=by rw[Int.tdiv_eq_ediv_of_nonneg (by omega)];omega
 have qj:(j:Int).tdiv 64=0:=by rw[Int.tdiv_eq_ediv_of_nonneg (by omega)];omega
 have ri:(i:Int).tmod 64=i:=by rw[Int.tmod_eq_emod_of_nonneg (by omega)];omega
 have rj:(j:Int).tmod 64=j:=by rw[Int.tmod_eq_emod_of_nonneg (by omega)];omega
 cases b with
 | none =>
  obtain⟨rfl,rfl,rfl,rfl⟩:=ok.no rfl;have hlf:=mP w O p side dep 0 0 0 [] pv lv hq (by omega) d2 (.inl ⟨rfl,rfl⟩);clear hq ok d1 d2;go_enter Tryz.func75,Tryz.ntmps75;go_wp2_with fail;refine(eH w p side s1 q0).mono ?_;rintro e w' ⟨rfl,hw⟩;subst w';go_wp2_with fail;refine(qM w p side i hi q0).mono ?_;rintro e w' ⟨rfl,hw⟩;subst w';go_wp2_with fail;refine(qM w p side j hj q0).mono ?_;rintro e w' ⟨rfl,hw⟩;subst w';go_wp2_with fail;refine hlf.mono ?_;clear hlf;rintro e W1 ⟨rfl,b1⟩;have FIN:=hIz b1;clear b1 q0;go_wp2;refine bodyPost_ret (v:=.tuple #[.bool false,.int .i64 0]) (by simp[results,Tryz.f75,go_sem]) rfl ⟨rfl,FIN.out⟩
 | some r =>
  obtain⟨hm,rfl,rfl,rfl,hr⟩:=ok.is r rfl;have hlf:=mP w O p side dep (dB r) m 1 [r] pv lv hq (by omega) d2 (.inr ⟨rfl,hm⟩);obtain⟨lg,lc,e,-,-,-,-,-⟩:=aL hq.rl (by simp);subst e;have SR:=hIz (show ∀W,Below w.heap.size w W→W.cell? ⟨p,4,none⟩=some (.slice (some ⟨lg,0,none⟩) 1 lc)∧W.rangeAt lg 0 (wdC r) from fun W hb=>by
   have hi:=hq.upd (upF hb) (fun _ _=>id);refine⟨hi.blk.cell 4,fun j u hu=>?_⟩;obtain⟨g',c',e',-,-,-,-,hc'⟩:=aL hi.rl (by simp);injection e' with e';injection e' with e';injection e' with e';subst e';rw[Nat.zero_add];exact(hc' j u (by simpa[lfC] using hu)).1)
  have HR:=hIz hr;have hsz:=bG hr;clear hq ok d1 d2 hm hr;go_enter Tryz.func75,Tryz.ntmps75;go_wp2_with fail;refine(eH w p side s1 q0).mono ?_;rintro e w' ⟨rfl,hw⟩;subst w';go_wp2_with fail;refine(qM w p side i hi q0).mono ?_;rintro e w' ⟨rfl,hw⟩;subst w';go_wp2_with fail;refine(qM w p side j hj q0).mono ?_;rintro e w' ⟨rfl,hw⟩;subst w';go_wp2_with fail;refine hlf.mono ?_;clear hlf;rintro e W1 ⟨rfl,b1⟩;have HB1:=hIz b1;obtain⟨q4,hrg⟩:=SR.out W1 b1;have hcon:=GN W1 r HR.out i j hi6 hj6;clear b1 q0;unfold wdV at hcon;go_upto_region 8 with (fail);go_wp2_with (first | (refine wpList_load_mid rfl 168 _ rfl lg 0 rfl (wdC r) (.array 64 166) hrg Tryz.underlying168 rfl hsz ?_) | fail);refine hcon.mono ?_;clear hcon q4 hrg SR hsz;rintro e W2 ⟨rfl,b2⟩;have FIN:=hIz (tHn HB1.out b2);clear b2;go_wp2;refine bodyPost_ret (v:=.tuple #[.bool (eQ r i j),.int .i64 0]) (by simp[results,Tryz.f75,go_sem]) rfl ⟨rfl,FIN.out⟩
open Go.RowKit
def jT(i j:Nat):List Nat:=aT.set i (2 ^ j)
theorem bE:aT.length=64:=by simp[aT]
theorem cR:Wd aT:=⟨bE,fun x hx=>by
 unfold aT at hx;rw[List.eq_of_mem_replicate hx];decide⟩
theorem iN{i:Nat}(hi:i<64):aT[i]?=some 0:=by unfold aT;rw[List.getElem?_replicate,if_pos hi]
theorem ML(j:Nat):(((2:Nat) ^ j:Nat):Int)=(2:Int) ^ j:=by push_cast;rfl
theorem nK{j:Nat}(hj:j<64):2 ^ j<18446744073709551616:=Nat.pow_lt_pow_right (a:=2) (by decide) hj
theorem qO{i j:Nat}(hj:j<64):Wd (jT i j):=⟨by simp[jT,bE],fun x hx=>by
 rcases List.mem_or_eq_of_mem_set hx with h|rfl
 ·exact cR.fit x h
 ·exact nK hj⟩
theorem MM(w:World)(g0 i j:Nat)(hi:i<64)(hj:j<64)(hr:Blk w g0 124 #[.int .i64 (i:Int),.int .i64 (j:Int)]):Calls Tryz.prog 99 #[.slice (some ⟨g0,0,none⟩) 1 1] w (Sam w (.tuple #[wdV (jT i j),.int .i64 0])):=by
 have k0:=(Blk.new w 168 Z64).alloc (.cells Z64 168);have k1:=Blk.new (w.alloc (.cells Z64 168)) 168 Z64;simp only[World.size_alloc] at k1
 have u0:Below w.heap.size w ((w.alloc (.cells Z64 168)).alloc (.cells Z64 168)):=by(repeat (first | exact Below.refl _ _ | apply Below.drew | refine Below.alloc ?_ (by first | exact Nat.le_refl _ | (simp;done) | (simp;omega)) _ | refine Below.setCell ?_ (by first | exact Nat.le_refl _ | (simp;done) | (simp;omega)) _))
 have H:=aI4 (hr.upd (upF u0) id) (bB.mp k0) (bB.mp k1) u0;have hg0:=hr.lt;clear k0 k1 u0 hr;go_enter Tryz.func99,Tryz.ntmps99;go_upto_region 2 with (fail);generalize (w.alloc (.cells Z64 168)).alloc (.cells Z64 168)=W0 at H ⊢;go_wp2_with fail;go_loopw [9] (fun t wr=>∃k:Nat,k≤1∧t=.int .i64 k∧Hid (Blk wr g0 124 #[.int .i64 (i:Int),.int .i64 (j:Int)])∧Hid (Blk wr w.heap.size 168 (wdC aT).toArray)∧Hid (Blk wr (w.heap.size+1) 168 (wdC (if k=0 then aT else jT i j)).toArray)∧Hid (Below w.heap.size w wr)) (fun t _=>1-(intOf t).toNat)
 case atStart=>exact⟨0,Nat.zero_le _,rfl,hIz H.out.1,hIz H.out.2.1,hIz H.out.2.2.1,hIz H.out.2.2.2⟩
 case round =>
  obtain⟨k,hk,rfl,hC,hZ,hB,hbw⟩:=hrel;by_cases hlt:k<1
  ·obtain rfl:k=0:=by omega
   have q0:wr.cell? ⟨g0,0,none⟩=some (.int .i64 (i:Int)):=hC.out.cell 0;have q1:wr.cell? ⟨g0,1,none⟩=some (.int .i64 (j:Int)):=hC.out.cell 1;have k5:=Blk.new wr 124 #[.int .i64 (i:Int),.int .i64 (j:Int)];have b5:Below wr.heap.size wr (wr.alloc (.cells #[.int .i64 (i:Int),.int .i64 (j:Int)] 124)):=bR.alloc (Nat.le_refl _) _;have H5:=aI5 k5 (hC.out.alloc (.cells #[.int .i64 (i:Int),.int .i64 (j:Int)] 124)) (hZ.out.alloc (.cells #[.int .i64 (i:Int),.int .i64 (j:Int)] 124)) (hB.out.alloc (.cells #[.int .i64 (i:Int),.int .i64 (j:Int)] 124)) (tHn hbw.out b5);have hlw:w.heap.size+1<wr.heap.size:=hB.out.lt;clear k5 b5 hC hZ hB hbw;go_upto_region 5 with (fail);generalize wr.alloc (.cells #[.int .i64 (i:Int),.int .i64 (j:Int)] 124)=W5 at H5 ⊢;clear q0 q1;have q0:W5.cell? ⟨wr.heap.size,0,none⟩=some (.int .i64 (i:Int)):=H5.out.1.cell 0;have q1:W5.cell? ⟨wr.heap.size,1,none⟩=some (.int .i64 (j:Int)):=H5.out.1.cell 1;go_wp2_with fail;refine(kR i hi W5).mono ?_;rintro e w' ⟨rfl,hw⟩;subst w';go_wp2_with fail;refine(kR j hj W5).mono ?_;rintro e w' ⟨rfl,hw⟩;subst w';go_upto_region 7 with (fail);have kB:Blk W5 (w.heap.size+1) 168 (wdC aT).toArray:=H5.out.2.2.2.1;have c3:W5.drew.cell? ⟨w.heap.size+1,i,none⟩=some (.int .u64 0):=(kB.drew.cell i).trans (by simpa using fL (iN hi));have f3:W5.drew.frozen? ⟨w.heap.size+1,i,none⟩=false:=kB.drew.frozen i;have hS:W5.drew.cell? ⟨wr.heap.size,0,none⟩=some (.int .i64 (i:Int))∧W5.drew.cell? ⟨wr.heap.size,1,none⟩=some (.int .i64 (j:Int))∧W5.drew.cell? ⟨w.heap.size+1,i,none⟩=some (.int .u64 0):=⟨q0,q1,c3⟩
   have hiI:(i:Int)<(64:Int):=by omega
   have hj0:¬((j:Int)<0):=by omega
   have HK:=hIz kB;clear q0 q1 kB;obtain⟨q,hq⟩:∃q:Nat,2 ^ j=q:=⟨_,rfl⟩;have hq64:q<18446744073709551616:=by rw[← hq];exact nK hj
   have hqi:((q:Nat):Int)=(2:Int) ^ j:=by rw[← hq,Int.natCast_pow];rfl
   have hwp:IntKind.u64.wrap ((2:Int) ^ j)=(q:Int):=by
    rw[← hqi,IntKind.wrap_u64];omega
   have hor:=bits_or_u64_nat 0 q (by decide) hq64;rw[Nat.zero_or] at hor;have hor:bits .or .u64 0 (q:Int)=(q:Int):=hor;clear hqi hq64;have HQ:=hIz hq;clear hq;refine aM (fun W=>W.cell? ⟨wr.heap.size,0,none⟩=some (.int .i64 (i:Int))∧W.cell? ⟨wr.heap.size,1,none⟩=some (.int .i64 (j:Int))∧W.cell? ⟨w.heap.size+1,i,none⟩=some (.int .u64 0)) 9 [(0,true),(1,true),(2,true),(3,true),(4,true),(5,true),(6,true),(7,true),(8,true),(9,false)] hS ?_
   iterate 9 refine aD rfl ?_
   refine aJ rfl rfl (fun K hK=>?_);obtain⟨z0,z1,z2⟩:=hS;go_simp;refine hK _ _ (fun h=>absurd rfl h) ?_;clear hK K z0 z1 z2 f3 c3;(try simp only[Act.put,gA,gS,gZ,sA,sZ,sS])
   refine aK ?_;have us:Upd (fun k=>k=w.heap.size+1) W5 ((W5.setCell ⟨w.heap.size+1,i,none⟩ (.int .u64 (q:Int))).drew):=((Upd.refl (fun k=>k=w.heap.size+1) W5).setCell (p:=⟨w.heap.size+1,i,none⟩) (.inl rfl) _).drew;have HN:=hIz (show Blk ((W5.setCell ⟨w.heap.size+1,i,none⟩ (.int .u64 (q:Int))).drew) g0 124 #[.int .i64 (i:Int),.int .i64 (j:Int)]∧Blk ((W5.setCell ⟨w.heap.size+1,i,none⟩ (.int .u64 (q:Int))).drew) w.heap.size 168 (wdC aT).toArray∧Blk ((W5.setCell ⟨w.heap.size+1,i,none⟩ (.int .u64 (q:Int))).drew) (w.heap.size+1) 168 (wdC (jT i j)).toArray∧Below w.heap.size w ((W5.setCell ⟨w.heap.size+1,i,none⟩ (.int .u64 (q:Int))).drew) from by
    refine⟨H5.out.2.1.upd us (by omega),H5.out.2.2.1.upd us (by omega),?_,H5.out.2.2.2.2.trans (us.below (fun k _ e=>by omega) (by have:=H5.out.2.2.2.2.size;exact this))⟩;have:=(HK.out.set i (.int .u64 (q:Int))).drew;rw[lR] at this;unfold jT;rw[HQ.out];exact this)
   clear us H5 HK;generalize (W5.setCell ⟨w.heap.size+1,i,none⟩ (.int .u64 (q:Int))).drew=W6 at HN ⊢;go_wp2;go_roundw
   case rel=>exact⟨1,by decide,by go_num,hIz HN.out.1,hIz HN.out.2.1,hIz HN.out.2.2.1,hIz HN.out.2.2.2⟩
   case measure=>simp[intOf]
  ·obtain rfl:k=1:=by omega
   have hB2:Blk wr (w.heap.size+1) 168 (wdC (jT i j)).toArray:=hB.out;have hz:=qO (i:=i) hj;obtain⟨r,hrr⟩:∃r,jT i j=r:=⟨_,rfl⟩;rw[hrr] at hB2 hz;have HRR:=hIz hrr;clear hrr;have hrg:=bL hB2;have hsz:=bG hz;have hth:wr.there w.heap.size 0 (wdC r).toArray.size:=kQ hZ.out (by simp[bI,hz.len,aT]);have hsz2:(Tryz.prog.info? 168).map (·.size)=some (wdC r).toArray.size:=by simpa using hsz
   have h1c:(wdC r).toArray.all (·.oneCell')=true:=all_oneCell_toArray (eW _);have FIN:=hIz (show Below w.heap.size w (wr.setCells w.heap.size 0 (wdC r))∧(wr.setCells w.heap.size 0 (wdC r)).rangeAt w.heap.size 0 (wdC r) from⟨hbw.out.trans ((Upd.setCells (F:=fun q=>q=w.heap.size) (.inl rfl) _ _ (Upd.refl _ _)).below (fun q _ e=>by omega) hbw.out.size),World.rangeAt_setCells_same _ _ _ _ (by simpa using hth)⟩);clear hC hZ hB hbw hB2;unfold wdV;go_upto_region 9 with (fail);go_wp2_with (first | (refine wpList_load_mid rfl 168 _ rfl (w.heap.size+1) 0 rfl (wdC r) (.array 64 166) hrg Tryz.underlying168 rfl hsz ?_) | (refine wpList_store_mid rfl 168 _ _ rfl w.heap.size 0 (wdC r).toArray rfl rfl hth hsz2 h1c ?_));have hlv:=run_loadVar_mid (P:=Tryz.prog) _ w.heap.size 0 168 (wdC r) (.array 64 166) FIN.out.2 Tryz.underlying168 rfl hsz;refine bodyPost_ret (v:=.tuple #[.agg (wdC r).toArray,.int .i64 0]) (by simp[results,Tryz.f99,Act.put,asAddr,hlv,Result.andThen,Sem.run_bind]) rfl ⟨by rw[HRR.out];rfl,FIN.out.1⟩
open Go.RowKit
theorem BU(W:World){r:List Nat}{i x:Nat}(h:r[i]?=some x):(part 166 (wdC r).toArray (i*1)).run Tryz.prog W=.ok (.int .u64 (x:Int)) W:=by
 have h2:=fL h;simp[part,isAgg,run_underlying Tryz.underlying166,h2]
theorem lU(W:World)(d:Nat){r s:List Nat}(hr:r.length=64)(hs:s.length=64):∀(is:List Nat),(∀i∈is,i<64)→(Op.eqItems (d+1) 166 1 (wdC r).toArray (wdC s).toArray is).run Tryz.prog W=.ok (decide (∀i∈is,r[i]?=s[i]?)) W
 | [],_=>by simp[Op.eqItems]
 | i::is,hi=>by
  have hi0:=hi i (by simp);obtain⟨x,hx⟩:∃x,r[i]?=some x:=⟨r[i]'(by omega),gEz _⟩;obtain⟨y,hy⟩:∃x,s[i]?=some x:=⟨s[i]'(by omega),gEz _⟩;have h9:=run_equalIn_int (P:=Tryz.prog) W d 166 .u64 .u64 (x:Int) (y:Int) Tryz.underlying166;have ih:=lU W d hr hs is (fun j hj=>hi j (by simp[hj]));simp only[Op.eqItems,Sem.run_bind,BU W hx,BU W hy,Result.andThen_ok,h9]
  by_cases hxy:x=y
  ·subst hxy;simp only[beq_self_eq_true,Bool.not_true,Bool.false_eq_true,if_false]
   rw[ih];simp[hx,hy]
  ·have:((x:Int)==(y:Int))=false:=beq_eq_false_iff_ne.2 (fun e=>hxy (by omega));rw[this];simp[hx,hy,hxy]
theorem KX{r s:List Nat}(hr:r.length=64)(hs:s.length=64):decide (∀i∈List.range 64,r[i]?=s[i]?)=decide (r=s):=by
 rw[Bool.eq_iff_iff,decide_eq_true_iff,decide_eq_true_iff];constructor
 ·intro h;apply List.ext_getElem?
  intro i;by_cases hi:i<64
  ·exact h i (List.mem_range.2 hi)
  ·rw[List.getElem?_eq_none (by omega),List.getElem?_eq_none (by omega)]
 ·rintro rfl i _;rfl
theorem wQ:(Tryz.prog.info? 166).isSome=true:=by kernel_rfl
theorem sU:Tryz.prog.cellsOf 166=1:=by kernel_rfl
theorem BV(W:World){r s:List Nat}(hr:Wd r)(hs:Wd s):(binOp .eql 168 (.agg (wdC r).toArray) (.agg (wdC s).toArray)).run Tryz.prog W=.ok (.bool (decide (r=s))) W:=by
 obtain⟨i0,hi0⟩:=Option.isSome_iff_exists.1 wQ;have e:(Op.equal 168 (.agg (wdC r).toArray) (.agg (wdC s).toArray)).run Tryz.prog W=.ok (decide (r=s)) W:=by
  show(Op.equalIn (9999+1) _ _ _).run _ _=_
  rw[run_equalIn_array (P:=Tryz.prog) W 9999 _ _ Tryz.underlying168 hi0,sU];rw[lU W 9998 hr.len hs.len _ (fun i hi=>List.mem_range.1 hi),KX hr.len hs.len]
 simp only[binOp]
 simp[e]
open Go.RowKit
structure QuX(w:World)(O:Nat→Option QRo)(p side dep cnt np:Nat)(xs:List Value)(nl:Nat)(ls:List Value)(pv lv:Value):Prop where
 blk:Blk w p 163 #[.int .i64 (side:Int),.int .i64 (dep:Int),.int .i64 (cnt:Int),pv,lv]
 rp:w.ownsRow 0 204 4 pv np xs
 rl:w.ownsRow 0 168 64 lv nl ls
 op:O p=some .p
 oa:∀k,pv.ownBlock=some k→O k=some .a
 ol:∀k,lv.ownBlock=some k→O k=some .l
 lt:∀k,O k≠none→k<w.heap.size
theorem QuI.x{w:World}{O:Nat→Option QRo}{p side dep cnt m:Nat}{last:Int}{L:List (List Nat)}{pv lv:Value}(h:QuI w O p side dep cnt m last L pv lv):QuX w O p side dep cnt (m+1) (qsC m last) L.length (lfC L) pv lv:=⟨h.blk,h.rp,h.rl,h.op,h.oa,h.ol,h.lt⟩
theorem QuX.i{w:World}{O:Nat→Option QRo}{p side dep cnt m:Nat}{last:Int}{L:List (List Nat)}{pv lv:Value}(h:QuX w O p side dep cnt (m+1) (qsC m last) L.length (lfC L) pv lv):QuI w O p side dep cnt m last L pv lv:=⟨h.blk,h.rp,h.rl,h.op,h.oa,h.ol,h.lt⟩
theorem QuX.upd{w w':World}{O:Nat→Option QRo}{p side dep cnt np nl:Nat}{xs ls:List Value}{pv lv:Value}{G:Nat→Prop}(h:QuX w O p side dep cnt np xs nl ls pv lv)(hu:Upd G w w')(hd:∀k,O k≠none→¬G k):QuX w' O p side dep cnt np xs nl ls pv lv:=by
 have no:∀k t,O k=some t→¬G k:=fun k t e=>hd k (by simp[e])
 exact⟨h.blk.upd hu (no _ _ h.op),aA h.rp hu fun k hk=>no _ _ (h.oa k hk),aA h.rl hu fun k hk=>no _ _ (h.ol k hk),h.op,h.oa,h.ol,fun k hk=>Nat.lt_of_lt_of_le (h.lt k hk) hu.size⟩
theorem QuX.below{w w':World}{O:Nat→Option QRo}{p side dep cnt np nl:Nat}{xs ls:List Value}{pv lv:Value}(h:QuX w O p side dep cnt np xs nl ls pv lv)(hb:Below w.heap.size w w'):QuX w' O p side dep cnt np xs nl ls pv lv:=h.upd (upF hb) (fun _ _=>id)
theorem vB(m:Nat)(last:Int):(qsC m last).length=(m+1)*4:=by
 unfold qsC;rw[List.length_append,dV _ 4 (fun _=>rfl),List.length_range];show m*4+4=_
 omega
theorem IA(m:Nat):(qsC m 0++gF 0).set (m*4) (.int .i64 ((m:Int)+2))=qsC (m+1) 0:=by
 have hl:((List.range m).flatMap fun (i:Nat)=>gF ((i:Int)+2)).length=m*4:=by rw[dV _ 4 (fun _=>rfl),List.length_range]
 unfold qsC;rw[List.append_assoc,List.set_append_right _ _ (by omega),hl,Nat.sub_self,List.range_succ,List.flatMap_append,List.flatMap_cons,List.flatMap_nil,List.append_nil,List.append_assoc];rfl
theorem MN(m:Nat):(qsC m 0).set (m*4) (.int .i64 1)=qsC m 1:=by
 have hl:((List.range m).flatMap fun (i:Nat)=>gF ((i:Int)+2)).length=m*4:=by rw[dV _ 4 (fun _=>rfl),List.length_range]
 unfold qsC;rw[List.set_append_right _ _ (by omega),hl,Nat.sub_self];rfl
theorem QuX.pushP{w w1:World}{O:Nat→Option QRo}{p side dep cnt np nl:Nat}{xs ls:List Value}{pv lv:Value}(h:QuX w O p side dep cnt np xs nl ls pv lv){nv:Value}{n':Nat}{ys:List Value}(own:w1.ownsRow 0 204 4 nv n' ys)(u:Upd (fun k=>pv.ownBlock=some k) w w1)
  (pl:∀k,nv.ownBlock=some k→pv.ownBlock=some k∨w.heap.size≤k):∃O',QuX (w1.setCell ⟨p,3,none⟩ nv) O' p side dep cnt n' ys nl ls nv lv∧(∀k,O' k≠none→O k≠none∨w.heap.size≤k)∧Upd (fun k=>O k≠none) w (w1.setCell ⟨p,3,none⟩ nv):=by
 have us:=(Upd.refl (fun k=>k=p) w1).setCell (p:=⟨p,3,none⟩) (.inl rfl) nv;have fresh:∀k,w.heap.size≤k→O k=none:=fun k hk=>by
  cases e:O k with
  | none=>rfl
  | some t=>have:=h.lt k (by simp[e]);omega
 have hn:∀k,nv.ownBlock=some k→O k=some .a∨O k=none:=fun k hk=>by
  rcases pl k hk with h1|h1
  ·exact .inl (h.oa k h1)
  ·exact .inr (fresh k h1)
 have keep:∀k t,O k=some t→(t=QRo.a→False)→(if nv.ownBlock=some k then some QRo.a else O k)=some t:=fun k t e ht=>by
  rw[if_neg,e];intro hk;rcases hn k hk with h1|h1
  ·rw[h1] at e;injection e with e;exact ht e.symm
  ·rw[h1] at e;cases e
 have bp:¬pv.ownBlock=some p:=fun e=>by have:=h.oa _ e;rw[h.op] at this;cases this
 have np':∀k,nv.ownBlock=some k→¬k=p:=fun k hk e=>by
  subst e;rcases hn k hk with h1|h1
  ·rw[h.op] at h1;cases h1
  ·rw[h.op] at h1;cases h1
 refine⟨fun k=>if nv.ownBlock=some k then some QRo.a else O k,?_,fun k hk=>?_,?_⟩
 ·constructor
  case blk=>exact(h.blk.upd u bp).set 3 nv
  case rp=>exact aA own us np'
  case rl=>exact aA (aA h.rl u fun k hk e=>(by have:=h.ol k hk;rw[h.oa k e] at this;cases this)) us fun k hk e=>(by have:=h.ol k hk;rw[e,h.op] at this;cases this)
  case op=>exact keep _ _ h.op nofun
  case oa=>exact fun k hk=>if_pos hk
  case ol=>exact fun k hk=>keep _ _ (h.ol k hk) nofun
  case lt =>
   intro k hk;(try dsimp only at hk)
   by_cases h1:nv.ownBlock=some k
   ·exact Nat.lt_of_lt_of_le (own.lt k h1).2 us.size
   ·rw[if_neg h1] at hk;exact Nat.lt_of_lt_of_le (h.lt k hk) (Nat.le_trans u.size us.size)
 ·(try dsimp only at hk)
  by_cases h1:nv.ownBlock=some k
  ·rcases pl k h1 with h2|h2
   ·exact .inl (by rw[h.oa k h2];nofun)
   ·exact .inr h2
  ·rw[if_neg h1] at hk;exact .inl hk
 ·exact(u.mono (fun k _ hk=>by rw[h.oa k hk];nofun)).trans us (fun k hk=>.inl (by rw[hk,h.op];nofun))
theorem QuX.pushL{w w1:World}{O:Nat→Option QRo}{p side dep cnt np nl:Nat}{xs ls:List Value}{pv lv:Value}(h:QuX w O p side dep cnt np xs nl ls pv lv){nv:Value}{n':Nat}{ys:List Value}(own:w1.ownsRow 0 168 64 nv n' ys)(u:Upd (fun k=>lv.ownBlock=some k) w w1)
  (pl:∀k,nv.ownBlock=some k→lv.ownBlock=some k∨w.heap.size≤k):∃O',QuX (w1.setCell ⟨p,4,none⟩ nv) O' p side dep cnt np xs n' ys pv nv∧(∀k,O' k≠none→O k≠none∨w.heap.size≤k)∧Upd (fun k=>O k≠none) w (w1.setCell ⟨p,4,none⟩ nv):=by
 have us:=(Upd.refl (fun k=>k=p) w1).setCell (p:=⟨p,4,none⟩) (.inl rfl) nv;have fresh:∀k,w.heap.size≤k→O k=none:=fun k hk=>by
  cases e:O k with
  | none=>rfl
  | some t=>have:=h.lt k (by simp[e]);omega
 have hn:∀k,nv.ownBlock=some k→O k=some .l∨O k=none:=fun k hk=>by
  rcases pl k hk with h1|h1
  ·exact .inl (h.ol k h1)
  ·exact .inr (fresh k h1)
 have keep:∀k t,O k=some t→(t=QRo.l→False)→(if nv.ownBlock=some k then some QRo.l else O k)=some t:=fun k t e ht=>by
  rw[if_neg,e];intro hk;rcases hn k hk with h1|h1
  ·rw[h1] at e;injection e with e;exact ht e.symm
  ·rw[h1] at e;cases e
 have bp:¬lv.ownBlock=some p:=fun e=>by have:=h.ol _ e;rw[h.op] at this;cases this
 have np':∀k,nv.ownBlock=some k→¬k=p:=fun k hk e=>by
  subst e;rcases hn k hk with h1|h1
  ·rw[h.op] at h1;cases h1
  ·rw[h.op] at h1;cases h1
 refine⟨fun k=>if nv.ownBlock=some k then some QRo.l else O k,?_,fun k hk=>?_,?_⟩
 ·constructor
  case blk=>exact(h.blk.upd u bp).set 4 nv
  case rl=>exact aA own us np'
  case rp=>exact aA (aA h.rp u fun k hk e=>(by have:=h.oa k hk;rw[h.ol k e] at this;cases this)) us fun k hk e=>(by have:=h.oa k hk;rw[e,h.op] at this;cases this)
  case op=>exact keep _ _ h.op nofun
  case ol=>exact fun k hk=>if_pos hk
  case oa=>exact fun k hk=>keep _ _ (h.oa k hk) nofun
  case lt =>
   intro k hk;(try dsimp only at hk)
   by_cases h1:nv.ownBlock=some k
   ·exact Nat.lt_of_lt_of_le (own.lt k h1).2 us.size
   ·rw[if_neg h1] at hk;exact Nat.lt_of_lt_of_le (h.lt k hk) (Nat.le_trans u.size us.size)
 ·(try dsimp only at hk)
  by_cases h1:nv.ownBlock=some k
  ·rcases pl k h1 with h2|h2
   ·exact .inl (by rw[h.ol k h2];nofun)
   ·exact .inr h2
  ·rw[if_neg h1] at hk;exact .inl hk
 ·exact(u.mono (fun k _ hk=>by rw[h.ol k hk];nofun)).trans us (fun k hk=>.inl (by rw[hk,h.op];nofun))
theorem QuX.setP{w:World}{O:Nat→Option QRo}{p side dep cnt np nl g cap:Nat}{xs ls:List Value}{lv:Value}(h:QuX w O p side dep cnt np xs nl ls (.slice (some ⟨g,0,none⟩) np cap) lv){i:Nat}(hi:i<np*4)(u:Value) :
  QuX (w.setCell ⟨g,i,none⟩ u) O p side dep cnt np (xs.set i u) nl ls (.slice (some ⟨g,0,none⟩) np cap) lv∧Upd (fun k=>O k≠none) w (w.setCell ⟨g,i,none⟩ u):=by
 have us:=(Upd.refl (fun k=>k=g) w).setCell (p:=⟨g,i,none⟩) (.inl rfl) u;have hg:O g=some .a:=h.oa g rfl;refine⟨?_,us.mono (fun k _ e=>by rw[e,hg];nofun)⟩;constructor
 case blk=>exact h.blk.upd us (fun e=>by have:=hg;rw[← e,h.op] at this;cases this)
 case rp=>exact cF h.rp hi u
 case rl=>exact aA h.rl us fun k hk e=>(by have:=h.ol k hk;rw[e,hg] at this;cases this)
 case op=>exact h.op
 case oa=>exact h.oa
 case ol=>exact h.ol
 case lt=>exact fun k hk=>Nat.lt_of_lt_of_le (h.lt k hk) us.size
open Go.RowKit
def BX(w:World)(O:Nat→Option QRo)(p side dep cnt:Nat)(r:List Nat)(e:Ending)(w':World):Prop:=
 e=.returned (.int .i64 0)∧∃O' pv' lv',QuI w' O' p side dep cnt (dep-1) 1 [r] pv' lv'∧Upd (fun k=>O k≠none) w w'∧∀k,O' k≠none→O k≠none∨w.heap.size≤k
theorem QuX.cellP{w:World}{O:Nat→Option QRo}{p side dep cnt np nl pg pc:Nat}{xs ls:List Value}{lv:Value}(h:QuX w O p side dep cnt np xs nl ls (.slice (some ⟨pg,0,none⟩) np pc) lv)(hn:0<np){i:Nat}{v:Value}(hi:xs[i]?=some v):w.cell? ⟨pg,i,none⟩=some v∧w.frozen? ⟨pg,i,none⟩=false:=by
 obtain⟨g',c',e',-,-,-,-,hc'⟩:=aL h.rp hn;injection e' with e';injection e' with e';injection e' with e';subst e';exact hc' i v hi
theorem BY(w:World)(O:Nat→Option QRo)(p side dep cnt m:Nat)(r:List Nat)(pv lv:Value)(h:QuI w O p side dep cnt m 1 [r] pv lv)(hd:m+1=dep)(hd4:dep≤4) :
  Calls Tryz.prog 135 #[.pointer (some ⟨p,0,none⟩),.int .i64 0,.int .i64 0] w (BX w O p side dep cnt r):=by
 have hx:=h.x;have q1:w.cell? ⟨p,1,none⟩=some (.int .i64 (dep:Int)):=h.blk.cell 1;obtain⟨pg,pc,e,-,-,-,-,-⟩:=aL h.rp (by omega);subst e;have SR:=hIz (show ∀W,Below w.heap.size w W→∀k,k≤m→W.cell? ⟨p,3,none⟩=some (.slice (some ⟨pg,0,none⟩) (m+1) pc)∧W.cell? ⟨pg,k*4,none⟩=some (.int .i64 (if k<m then (k:Int)+2 else 1)) from fun W hb k hk=>by
  have hi:=hx.below hb;refine⟨hi.blk.cell 3,?_⟩;by_cases hkm:k<m
  ·rw[if_pos hkm];exact(hi.cellP (by omega) (BT hkm)).1
  ·obtain rfl:k=m:=by omega
   rw[if_neg hkm];exact(hi.cellP (by omega) gK).1)
 have HP:=hIz (show ∀W,Below w.heap.size w W→BX w O p side dep cnt r (.returned (.int .i64 0)) W from fun W hb=>⟨rfl,O,_,_,by
  have hm:dep-1=m:=by omega
  rw[hm];exact(hx.below hb).i,Upd.of_below hb _,fun _ hk=>.inl hk⟩)
 obtain⟨n,hn⟩:∃n,m+1=n:=⟨_,rfl⟩;rw[hn] at SR;have hw1:IntKind.i64.wrap ((dep:Int)-1)=(dep:Int)-1:=by rw[IntKind.wrap_i64];omega
 have hdm:(dep:Int)-1=(m:Int):=by omega
 rw[hdm] at hw1;have hw1:IntKind.i64.wrap ((dep:Int)-1)=(m:Int):=by rw[hdm];exact hw1
 clear h hx;go_enter Tryz.func135,Tryz.ntmps135;go_wp2_with fail;clear q1;go_loopw [7,8] (fun a l wr=>∃k:Nat,k≤m∧a=.int .i64 k∧l=.int .i64 ((m:Int)-k)∧Hid (Below w.heap.size w wr)) (fun _ l _=>(intOf l).toNat)
 case atStart=>exact⟨0,Nat.zero_le _,rfl,by simp,hIz bR⟩
 case round =>
  obtain⟨k,hk,rfl,rfl,hb⟩:=hrel;obtain⟨l,hl0⟩:∃l:Nat,(m:Int)-(k:Int)=(l:Int):=⟨m-k,by omega⟩;rw[hl0];have hl10:l≤10:=by omega
  have hkn:(k:Int)<(n:Int):=by omega
  have hwy:=nI l hl10 wr;by_cases hlt:k<m
  ·have hlp:0<l:=by omega
   go_wp2_with fail;refine hwy.mono ?_;clear hwy;rintro e V1 ⟨rfl,b1⟩;have HB1:=hIz (tHn hb.out b1);obtain⟨q3,qk⟩:=SR.out V1 HB1.out k hk;rw[if_pos hlt] at qk;have z0:((k:Int)+2==0)=false:=by simp;omega
   have w0:IntKind.i64.wrap ((k:Int)+1)=(k:Int)+1:=IntWalk.i64_in _ (by omega);have w1:IntKind.i64.wrap ((l:Int)-1)=(l:Int)-1:=by rw[IntKind.wrap_i64];omega
   clear b1 hb;go_wp2;go_roundw
   case rel=>exact⟨k+1,by omega,by go_num,by congr 1;omega,HB1⟩
   case measure=>simp[intOf] <;> omega
  ·obtain rfl:k=m:=by omega
   obtain rfl:l=0:=by omega
   clear hwy;go_wp2_with fail;refine(nI 0 (by decide) wr).mono ?_;rintro e V1 ⟨rfl,b1⟩;have HB1:=hIz (tHn hb.out b1);obtain⟨q3,qk⟩:=SR.out V1 HB1.out k hk;rw[if_neg hlt] at qk;clear b1 hb;have FIN:=hIz (HP.out V1 HB1.out);go_wp2;go_ret;exact FIN.out
end Go.Proofs.YtnokckdkaifibaaGreatDoor
