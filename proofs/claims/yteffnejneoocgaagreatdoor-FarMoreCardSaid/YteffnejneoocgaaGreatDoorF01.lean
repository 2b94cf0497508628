/- Base words over memory for the proofs of this seat: which blocks may have turned (Upd), a block known whole (Blk), a map known by its entries (MapIs). Nothing here names the program; A region that draws its order, walked in one order of the prover's choice: operations that yield the same value in every world of a class S are taken first; the others come up alone; S holds behind each of those but the last. Nothing here names the program; A region that draws its order: some stable operations are taken first; of the rest every order is walked. Nothing here names the program; A region that draws its order, walked in one order: a guarded operation that comes up alone. Nothing here names the program; Rows of cells in memory: read, copied, appended to; The bits of a word, counted by halves (plain arithmetic). Nothing here names the program; Blocks of bits: counting a word's bits; Blocks of bits: how many cells; Texts and edges in order: the plain law (no program in sight); Edges: a name's letter, a name, a label; texts and edges held one against the other; Edges: edges held one against the other; lists that rise; Edges: a graph as a value in memory; lists that rise; names. -/
import Derived.WalkKit
import Derived.WalkSpells
import Derived.Maps.OwnOps
import Derived.Maps.AppendAt
import Derived.Deep.Draws
import Derived.OrdersHeld
import Derived.Tactics
import Derived.KernelRfl
import Derived.Deep.MidRow
import Derived.Test.YteffnejneoocgaaGreatDoorProg
import Derived.WalkLawsBesides
import Derived.Deep.QuietTactic
import Derived.Deep.Cut
import Derived.WalkMore
import Derived.WalkSmall
import Derived.Laws.MakeOwn
import Derived.BigQuiet
import Derived.StillTailTactics
import Derived.Carry
import Derived.Lib.Hide
import Derived.DeepKeys4
import Derived.IntWalk
import Derived.Laws.Bits64b
import Derived.Lib.Bytealg
import Derived.Laws.Externs
import Derived.Sort.Grow
set_option linter.unusedVariables false
set_option linter.unusedSimpArgs false
set_option maxHeartbeats 16000000
set_option maxRecDepth 100000
namespace Go.Proofs.YteffnejneoocgaaGreatDoor
abbrev Z64:Array Value:=#[.int .u64 0,.int .u64 0,.int .u64 0,.int .u64 0,.int .u64 0,.int .u64 0,.int .u64 0,.int .u64 0,.int .u64 0,.int .u64 0,.int .u64 0,.int .u64 0,.int .u64 0,.int .u64 0,.int .u64 0,.int .u64 0,.int .u64 0,.int .u64 0,.int .u64 0,.int .u64 0,.int .u64 0,.int .u64 0,.int .u64 0,.int .u64 0,.int .u64 0,.int .u64 0,.int .u64 0,.int .u64 0,.int .u64 0,.int .u64 0,.int .u64 0,.int .u64 0,.int .u64 0,.int .u64 0,.int .u64 0,.int .u64 0,.int .u64 0,.int .u64 0,.int .u64 0,.int .u64 0,.int .u64 0,.int .u64 0,.int .u64 0,.int .u64 0,.int .u64 0,.int .u64 0,.int .u64 0,.int .u64 0,.int .u64 0,.int .u64 0,.int .u64 0,.int .u64 0,.int .u64 0,.int .u64 0,.int .u64 0,.int .u64 0,.int .u64 0,.int .u64 0,.int .u64 0,.int .u64 0,.int .u64 0,.int .u64 0,.int .u64 0,.int .u64 0]
theorem aI2 {p0 p1:Prop}(h0:p0)(h1:p1):Go.RowKit.Hid (p0∧p1):=Lib.hid ⟨h0,h1⟩
theorem aI3 {p0 p1 p2:Prop}(h0:p0)(h1:p1)(h2:p2):Go.RowKit.Hid (p0∧p1∧p2):=Lib.hid ⟨h0,h1,h2⟩
theorem aI4 {p0 p1 p2 p3:Prop}(h0:p0)(h1:p1)(h2:p2)(h3:p3):Go.RowKit.Hid (p0∧p1∧p2∧p3):=Lib.hid ⟨h0,h1,h2,h3⟩
theorem aI5 {p0 p1 p2 p3 p4:Prop}(h0:p0)(h1:p1)(h2:p2)(h3:p3)(h4:p4):Go.RowKit.Hid (p0∧p1∧p2∧p3∧p4):=Lib.hid ⟨h0,h1,h2,h3,h4⟩
theorem aI6 {p0 p1 p2 p3 p4 p5:Prop}(h0:p0)(h1:p1)(h2:p2)(h3:p3)(h4:p4)(h5:p5):Go.RowKit.Hid (p0∧p1∧p2∧p3∧p4∧p5):=Lib.hid ⟨h0,h1,h2,h3,h4,h5⟩
theorem aI7 {p0 p1 p2 p3 p4 p5 p6:Prop}(h0:p0)(h1:p1)(h2:p2)(h3:p3)(h4:p4)(h5:p5)(h6:p6):Go.RowKit.Hid (p0∧p1∧p2∧p3∧p4∧p5∧p6):=Lib.hid ⟨h0,h1,h2,h3,h4,h5,h6⟩
theorem aI8 {p0 p1 p2 p3 p4 p5 p6 p7:Prop}(h0:p0)(h1:p1)(h2:p2)(h3:p3)(h4:p4)(h5:p5)(h6:p6)(h7:p7):Go.RowKit.Hid (p0∧p1∧p2∧p3∧p4∧p5∧p6∧p7):=Lib.hid ⟨h0,h1,h2,h3,h4,h5,h6,h7⟩
theorem aI9 {p0 p1 p2 p3 p4 p5 p6 p7 p8:Prop}(h0:p0)(h1:p1)(h2:p2)(h3:p3)(h4:p4)(h5:p5)(h6:p6)(h7:p7)(h8:p8):Go.RowKit.Hid (p0∧p1∧p2∧p3∧p4∧p5∧p6∧p7∧p8):=Lib.hid ⟨h0,h1,h2,h3,h4,h5,h6,h7,h8⟩
theorem aI10 {p0 p1 p2 p3 p4 p5 p6 p7 p8 p9:Prop}(h0:p0)(h1:p1)(h2:p2)(h3:p3)(h4:p4)(h5:p5)(h6:p6)(h7:p7)(h8:p8)(h9:p9):Go.RowKit.Hid (p0∧p1∧p2∧p3∧p4∧p5∧p6∧p7∧p8∧p9):=Lib.hid ⟨h0,h1,h2,h3,h4,h5,h6,h7,h8,h9⟩
theorem aI11 {p0 p1 p2 p3 p4 p5 p6 p7 p8 p9 p10:Prop}(h0:p0)(h1:p1)(h2:p2)(h3:p3)(h4:p4)(h5:p5)(h6:p6)(h7:p7)(h8:p8)(h9:p9)(h10:p10):Go.RowKit.Hid (p0∧p1∧p2∧p3∧p4∧p5∧p6∧p7∧p8∧p9∧p10):=Lib.hid ⟨h0,h1,h2,h3,h4,h5,h6,h7,h8,h9,h10⟩
theorem aI12 {p0 p1 p2 p3 p4 p5 p6 p7 p8 p9 p10 p11:Prop}(h0:p0)(h1:p1)(h2:p2)(h3:p3)(h4:p4)(h5:p5)(h6:p6)(h7:p7)(h8:p8)(h9:p9)(h10:p10)(h11:p11):Go.RowKit.Hid (p0∧p1∧p2∧p3∧p4∧p5∧p6∧p7∧p8∧p9∧p10∧p11):=Lib.hid ⟨h0,h1,h2,h3,h4,h5,h6,h7,h8,h9,h10,h11⟩
theorem aI13 {p0 p1 p2 p3 p4 p5 p6 p7 p8 p9 p10 p11 p12:Prop}(h0:p0)(h1:p1)(h2:p2)(h3:p3)(h4:p4)(h5:p5)(h6:p6)(h7:p7)(h8:p8)(h9:p9)(h10:p10)(h11:p11)(h12:p12):Go.RowKit.Hid (p0∧p1∧p2∧p3∧p4∧p5∧p6∧p7∧p8∧p9∧p10∧p11∧p12):=Lib.hid ⟨h0,h1,h2,h3,h4,h5,h6,h7,h8,h9,h10,h11,h12⟩
theorem aI14 {p0 p1 p2 p3 p4 p5 p6 p7 p8 p9 p10 p11 p12 p13:Prop}(h0:p0)(h1:p1)(h2:p2)(h3:p3)(h4:p4)(h5:p5)(h6:p6)(h7:p7)(h8:p8)(h9:p9)(h10:p10)(h11:p11)(h12:p12)(h13:p13):Go.RowKit.Hid (p0∧p1∧p2∧p3∧p4∧p5∧p6∧p7∧p8∧p9∧p10∧p11∧p12∧p13):=Lib.hid ⟨h0,h1,h2,h3,h4,h5,h6,h7,h8,h9,h10,h11,h12,h13⟩
theorem aI15 {p0 p1 p2 p3 p4 p5 p6 p7 p8 p9 p10 p11 p12 p13 p14:Prop}(h0:p0)(h1:p1)(h2:p2)(h3:p3)(h4:p4)(h5:p5)(h6:p6)(h7:p7)(h8:p8)(h9:p9)(h10:p10)(h11:p11)(h12:p12)(h13:p13)(h14:p14):Go.RowKit.Hid (p0∧p1∧p2∧p3∧p4∧p5∧p6∧p7∧p8∧p9∧p10∧p11∧p12∧p13∧p14):=Lib.hid ⟨h0,h1,h2,h3,h4,h5,h6,h7,h8,h9,h10,h11,h12,h13,h14⟩
theorem aI16 {p0 p1 p2 p3 p4 p5 p6 p7 p8 p9 p10 p11 p12 p13 p14 p15:Prop}(h0:p0)(h1:p1)(h2:p2)(h3:p3)(h4:p4)(h5:p5)(h6:p6)(h7:p7)(h8:p8)(h9:p9)(h10:p10)(h11:p11)(h12:p12)(h13:p13)(h14:p14)(h15:p15):Go.RowKit.Hid (p0∧p1∧p2∧p3∧p4∧p5∧p6∧p7∧p8∧p9∧p10∧p11∧p12∧p13∧p14∧p15):=Lib.hid ⟨h0,h1,h2,h3,h4,h5,h6,h7,h8,h9,h10,h11,h12,h13,h14,h15⟩
theorem hIz {p:Prop}(h:p):Go.RowKit.Hid p:=Lib.hid h
theorem gEz {α:Type _}{l:List α}{i:Nat}(h:i<l.length):l[i]?=some l[i]:=List.getElem?_eq_getElem h
theorem gO {α:Type _}{l:List α}{i:Nat}{a:α}:l[i]?=some a↔∃ h:i<l.length,l[i]=a:=List.getElem?_eq_some_iff
theorem mG {α:Type _}{l:List α}{i:Nat}{a:α}(h:l[i]?=some a):a∈l:=List.mem_of_getElem? h
theorem bR {B:Nat}{w:World}:Go.RowKit.Below B w w:=Go.RowKit.Below.refl _ _
theorem gA{α:Type _}{l:List α}{i:Nat}(h:i<l.toArray.size):l.toArray[i]=l[i]'h:=rfl
theorem gS{α:Type _}{a:α}{xs:List α}{i:Nat}(h:i+1<(a::xs).length):(a::xs)[i+1]=xs[i]'(Nat.lt_of_succ_lt_succ h):=rfl
theorem gZ{α:Type _}{a:α}{xs:List α}(h:0<(a::xs).length):(a::xs)[0]=a:=rfl
theorem sA{α:Type _}{l:List α}{i:Nat}{a:α}:l.toArray.setIfInBounds i a=(l.set i a).toArray:=List.setIfInBounds_toArray ..
theorem sZ{α:Type _}{x:α}{xs:List α}{a:α}:(x::xs).set 0 a=a::xs:=rfl
theorem sS{α:Type _}{x:α}{xs:List α}{n:Nat}{a:α}:(x::xs).set (n+1) a=x::xs.set n a:=rfl
open Go.RowKit
structure Upd(F:Nat→Prop)(w w':World):Prop where
 os:w'.os=w.os
 tape:w'.tape=w.tape
 output:w'.output=w.output
 size:w.heap.size≤w'.heap.size
 block:∀k,k<w.heap.size→¬F k→w'.heap[k]?=w.heap[k]?

theorem Upd.refl(F:Nat→Prop)(w:World):Upd F w w:=⟨rfl,rfl,rfl,Nat.le_refl _,fun _ _ _=>rfl⟩
theorem Upd.trans{F F':Nat→Prop}{a b c:World}(h:Upd F a b)(k:Upd F' b c)(hF:∀i,F' i→F i∨a.heap.size≤i):Upd F a c:=
 ⟨k.os.trans h.os,k.tape.trans h.tape,k.output.trans h.output,Nat.le_trans h.size k.size,fun i hi hn =>
  (k.block i (Nat.lt_of_lt_of_le hi h.size) (fun hf=>by rcases hF i hf with h1 | h1;exact hn h1;omega)).trans (h.block i hi hn)⟩
theorem Upd.mono{F F':Nat→Prop}{a b:World}(h:Upd F a b)(hF:∀i,i<a.heap.size→F i→F' i):Upd F' a b:=
 ⟨h.os,h.tape,h.output,h.size,fun i hi hn=>h.block i hi (fun hf=>hn (hF i hi hf))⟩
theorem Upd.drew{F:Nat→Prop}{a w:World}(h:Upd F a w):Upd F a w.drew:=⟨h.os,h.tape,h.output,h.size,h.block⟩
theorem Upd.drewN{F:Nat→Prop}{a w:World}(h:Upd F a w)(n:Nat):Upd F a (w.drewN n):=⟨h.os,h.tape,h.output,h.size,h.block⟩
theorem Upd.alloc{F:Nat→Prop}{a w:World}(h:Upd F a w)(o:Obj):Upd F a (w.alloc o):=
 ⟨h.os,h.tape,h.output,by have:=h.size;simp;omega,fun i hi hn=>(Below.heap_alloc w o i (by have:=h.size;omega)).trans (h.block i hi hn)⟩
theorem Upd.setCell{F:Nat→Prop}{a w:World}(h:Upd F a w){p:Addr}(hp:F p.block∨a.heap.size≤p.block)(u:Value):Upd F a (w.setCell p u):=
 ⟨h.os,h.tape,h.output,by have:=h.size;simp[World.setCell];omega,fun i hi hn=>(Below.heap_setCell w p u i (by
  rintro rfl;rcases hp with h1|h1;exact hn h1;omega)).trans (h.block i hi hn)⟩
theorem Upd.grown{F:Nat→Prop}{a w w':World}{row:Option Nat}(h:Upd F a w)(hg:w.grownBy w' row)(hr:∀k,row=some k→F k∨a.heap.size≤k):Upd F a w':=
 ⟨hg.os.trans h.os,hg.tape.trans h.tape,hg.output.trans h.output,Nat.le_trans h.size hg.size,fun i hi hn =>
  (hg.block i (Nat.lt_of_lt_of_le hi h.size) (fun e=>by rcases hr i e.symm with h1 | h1;exact hn h1;omega)).trans (h.block i hi hn)⟩
theorem Upd.below{F:Nat→Prop}{B:Nat}{w w':World}(h:Upd F w w')(hF:∀i,i<w.heap.size→F i→B≤i)(hB:B≤w.heap.size):Below B w w':=
 ⟨h.os,h.tape,h.output,h.size,fun k hk=>h.block k (by omega) (fun hf=>by have:=hF k (by omega) hf;omega)⟩
theorem Upd.of_below{w w':World}(h:Below w.heap.size w w')(F:Nat→Prop):Upd F w w':=⟨h.os,h.tape,h.output,h.size,fun k hk _=>h.block k hk⟩
theorem Upd.of_grown{w w':World}{row:Option Nat}(hg:w.grownBy w' row):Upd (fun k=>row=some k) w w':=
 ⟨hg.os,hg.tape,hg.output,hg.size,fun i hi hn=>hg.block i hi (fun e=>hn e.symm)⟩
theorem Upd.cell{F:Nat→Prop}{w w':World}(h:Upd F w w'){p:Addr}(hp:p.block<w.heap.size)(hn:¬F p.block):w'.cell? p=w.cell? p:=
 World.cell?_of_block (w:=w) (h.block p.block hp hn)
theorem Upd.to_grown{w w':World}{F:Nat→Prop}{row:Option Nat}(h:Upd F w w')(hF:∀i,i<w.heap.size→F i→row=some i):w.grownBy w' row:=
 ⟨h.os,h.tape,h.output,h.size,fun i hi hn=>h.block i hi (fun hf=>hn (hF i hi hf).symm)⟩

def Blk(w:World)(g:Nat)(t:TypeId)(cs:Array Value):Prop:=w.heap[g]?=some (.cells cs t (0,0))
section
variable {w w':World} {g:Nat} {t:TypeId} {cs:Array Value}
theorem Blk.lt(h:Blk w g t cs):g<w.heap.size:=(Array.getElem?_eq_some_iff.1 h).1
theorem Blk.cell(h:Blk w g t cs)(i:Nat):w.cell? ⟨g,i,none⟩=cs[i]?:=cell_of_row w g i cs t (0,0) h
theorem Blk.frozen(h:Blk w g t cs)(i:Nat):w.frozen? ⟨g,i,none⟩=false:=by
 unfold Blk at h;simp[World.frozen?,h]
theorem Blk.new(w:World)(t:TypeId)(cs:Array Value):Blk (w.alloc (.cells cs t)) w.heap.size t cs:=heap_alloc_new w _
theorem Blk.drew(h:Blk w g t cs):Blk w.drew g t cs:=h
theorem Blk.alloc(h:Blk w g t cs)(o:Obj):Blk (w.alloc o) g t cs:=(Below.heap_alloc w o g h.lt).trans h
theorem Blk.set(h:Blk w g t cs)(i:Nat)(u:Value):Blk (w.setCell ⟨g,i,none⟩ u) g t (cs.setIfInBounds i u):=by
 unfold Blk at h ⊢;simp[World.setCell,Array.getElem?_modify,h]
theorem Blk.upd{F:Nat→Prop}(h:Blk w g t cs)(hb:Upd F w w')(hg:¬F g):Blk w' g t cs:=(hb.block g h.lt hg).trans h
theorem Blk.grown{row:Option Nat}(h:Blk w g t cs)(hb:w.grownBy w' row)(hg:some g≠row):Blk w' g t cs:=(hb.block g h.lt hg).trans h
end
theorem aB{w w':World}{F:Nat→Prop}{base e size n:Nat}{v:Value}{xs:List Value}(h:w.ownsRow base e size v n xs)(hu:Upd F w w')(hn:∀k,v.ownBlock=some k→¬F k):w'.ownsRow base e size v n xs:=by
 refine⟨h.1,?_⟩;rcases h.2 with h2|⟨g,cap,cur,rfl,hb,hg,r⟩
 ·exact Or.inl h2
 ·exact Or.inr ⟨g,cap,cur,rfl,hb,by rw[hu.block g (Array.getElem?_eq_some_iff.1 hg).1 (hn g rfl)];exact hg,r⟩
theorem bQ{w:World}{base base' e size n:Nat}{v:Value}{xs:List Value}(h:w.ownsRow base e size v n xs)(hb:∀k,v.ownBlock=some k→base'≤k):w.ownsRow base' e size v n xs:=by
 refine⟨h.1,?_⟩;rcases h.2 with h2|⟨g,cap,cur,rfl,_,hg,r⟩
 ·exact Or.inl h2
 ·exact Or.inr ⟨g,cap,cur,rfl,hb g rfl,hg,r⟩

def bW(w:World)(P:Program)(k:TypeId)(r:Nat)(kv:List (Value × Value)):Prop:=
 ∃es clock,w.heap[r]?=some (.map es clock)∧es.toList.map (fun e=>(e.key,e.val))=kv∧(∀p∈kv,∃l,keyOf P k p.1=some l)∧(kv.map Prod.fst).Nodup

section
variable {w w':World} {P:Program} {k:TypeId} {r:Nat} {kv:List (Value × Value)}
theorem bW.lt(h:bW w P k r kv):r<w.heap.size:=by
 obtain⟨es,clock,hb,_⟩:=h;exact(Array.getElem?_eq_some_iff.1 hb).1
theorem bW.made(w:World)(P:Program)(k:TypeId):bW (w.alloc (.map #[] 0)) P k w.heap.size []:=
 ⟨#[],0,(MapKept.heap_alloc w _).1,rfl,by simp,by simp⟩
theorem bW.upd{F:Nat→Prop}(h:bW w P k r kv)(hb:Upd F w w')(hg:¬F r):bW w' P k r kv:=by
 have hlt:=h.lt;obtain⟨es,clock,hh,rest⟩:=h;exact⟨es,clock,(hb.block r hlt hg).trans hh,rest⟩
theorem bW.alloc(h:bW w P k r kv)(o:Obj):bW (w.alloc o) P k r kv:=h.upd (F:=fun _=>False) ((Upd.refl _ w).alloc o) id
theorem bW.drew(h:bW w P k r kv):bW w.drew P k r kv:=h
theorem bW.drewN(h:bW w P k r kv)(n:Nat):bW (w.drewN n) P k r kv:=h
theorem sV{kv:List (Value × Value)}(h:(kv.map Prod.fst).Nodup){key v v':Value}(h1:(key,v)∈kv)(h2:(key,v')∈kv):v=v':=by
 induction kv with
 | nil=>cases h1
 | cons p kv ih =>
  simp only[List.map_cons,List.nodup_cons] at h
  rcases List.mem_cons.1 h1 with e1|e1 <;> rcases List.mem_cons.1 h2 with e2|e2
  ·subst e1;injection e2 with _ e2;exact e2.symm
  ·exact absurd (List.mem_map.2 ⟨_,e2,by rw[← e1]⟩) h.1
  ·exact absurd (List.mem_map.2 ⟨_,e1,by rw[← e2]⟩) h.1
  ·exact ih h.2 e1 e2

theorem bW.look_hit(h:bW w P k r kv)(K:Maps.Keyed P k){t e:TypeId}(ht:P.underlying t=some (.map k e)){key v:Value}(hm:(key,v)∈kv)(ok:Bool) :
  (Instr.lookup t (.map (some r)) key ok).run P w=.ok (if ok then .tuple #[v,.bool true] else v) w:=by
 obtain⟨es,clock,hb,rfl,hk,hn⟩:=h;obtain⟨l,hl⟩:=hk _ hm;have hes:∀e∈es.toList,∃l,keyOf P k e.key=some l:=fun e he=>hk (e.key,e.val) (List.mem_map.2 ⟨e,he,rfl⟩)
 rcases K.find w hl es.toList hes with ⟨_,h2⟩|⟨j,e0,h1,h2,h3⟩
 ·obtain⟨e,he,heq⟩:=List.mem_map.1 hm;exact absurd (by injection heq) (h2 e he)
 ·have hv:e0.val=v:=sV hn (List.mem_map.2 ⟨e0,mG h2,by rw[h3]⟩) hm;subst hv;cases ok <;> simp[Instr.lookup,run_underlying ht,MapKept.run_getObj_map hb,K.check w _ hl,h1,Result.andThen]

theorem bW.look_miss(h:bW w P k r kv)(K:Maps.Keyed P k){t e:TypeId}(ht:P.underlying t=some (.map k e)){key z:Value}(hkey:∃l,keyOf P k key=some l)(hm:∀p∈kv,p.1≠key)
  (hz:(zeroValue e).run P w=.ok z w) (ok:Bool) :
  (Instr.lookup t (.map (some r)) key ok).run P w=.ok (if ok then .tuple #[z,.bool false] else z) w:=by
 obtain⟨es,clock,hb,rfl,hk,hn⟩:=h;obtain⟨l,hl⟩:=hkey;have hes:∀e∈es.toList,∃l,keyOf P k e.key=some l:=fun e he=>hk (e.key,e.val) (List.mem_map.2 ⟨e,he,rfl⟩)
 rcases K.find w hl es.toList hes with ⟨h1,h2⟩|⟨j,e0,h1,h2,h3⟩
 ·cases ok <;> simp[Instr.lookup,run_underlying ht,MapKept.run_getObj_map hb,K.check w _ hl,h1,hz,Result.andThen]
 ·exact absurd h3 (hm (e0.key,e0.val) (List.mem_map.2 ⟨e0,mG h2,rfl⟩))

theorem bW.put_miss(h:bW w P k r kv)(K:Maps.Keyed P k){t e:TypeId}(ht:P.underlying t=some (.map k e)){key:Value}(v:Value)(hkey:∃l,keyOf P k key=some l)(hm:∀p∈kv,p.1≠key) :
  ∃w',(Instr.mapUpdate t (.map (some r)) key v).run P w=.ok () w'∧bW w' P k r (kv++[(key,v)])∧w.grownBy w' (some r)∧w'.heap.size=w.heap.size:=by
 obtain⟨es,clock,hb,rfl,hk,hn⟩:=h;obtain⟨l,hl⟩:=hkey;have hes:∀e∈es.toList,∃l,keyOf P k e.key=some l:=fun e he=>hk (e.key,e.val) (List.mem_map.2 ⟨e,he,rfl⟩)
 rcases K.find w hl es.toList hes with ⟨h1,h2⟩|⟨j,e0,h1,h2,h3⟩
 ·refine⟨ChangeMaps.setBlock w r (.map (es.push ⟨key,v,clock⟩) (clock+1)),by simp[Instr.mapUpdate,run_underlying ht,MapKept.run_getObj_map hb,K.check w false hl,h1,MapKept.run_setObj_map _ hb,Result.andThen,ChangeMaps.setBlock],
   ⟨_,_,ChangeMaps.heap_setBlock_same hb _,by simp,?_,?_⟩,⟨rfl,rfl,rfl,by simp[ChangeMaps.setBlock],fun i _ hi=>ChangeMaps.heap_setBlock_other hb _ (fun e=>hi (by rw[e]))⟩,by simp[ChangeMaps.setBlock]⟩
  ·intro p hp;rcases List.mem_append.1 hp with hp|hp
   ·exact hk p hp
   ·obtain rfl:=List.mem_singleton.1 hp;exact⟨l,hl⟩
  ·rw[List.map_append,List.nodup_append];refine⟨hn,by simp,?_⟩;intro a ha b hb' e;simp only[List.map_cons,List.map_nil,List.mem_singleton] at hb'
   subst hb';obtain⟨p,hp,rfl⟩:=List.mem_map.1 ha;exact hm p hp e
 ·exact absurd h3 (hm (e0.key,e0.val) (List.mem_map.2 ⟨e0,mG h2,rfl⟩))
end
theorem bW.put_hit{w:World}{P:Program}{k:TypeId}{r:Nat}{kv:List (Value × Value)}(h:bW w P k r kv)(K:Maps.Keyed P k){t e:TypeId}(ht:P.underlying t=some (.map k e)){key v0:Value}(v:Value)(hm:(key,v0)∈kv) :
  ∃w' j,(Instr.mapUpdate t (.map (some r)) key v).run P w=.ok () w'∧kv[j]?=some (key,v0)∧bW w' P k r (kv.set j (key,v))∧w.grownBy w' (some r)∧w'.heap.size=w.heap.size:=by
 obtain⟨es,clock,hb,rfl,hk,hn⟩:=h;obtain⟨l,hl⟩:=hk _ hm;have hes:∀e∈es.toList,∃l,keyOf P k e.key=some l:=fun e he=>hk (e.key,e.val) (List.mem_map.2 ⟨e,he,rfl⟩)
 rcases K.find w hl es.toList hes with ⟨_,h2⟩|⟨j,e0,h1,h2,h3⟩
 ·obtain⟨e,he,heq⟩:=List.mem_map.1 hm;exact absurd (by injection heq) (h2 e he)
 ·have hv:e0.val=v0:=sV hn (List.mem_map.2 ⟨e0,mG h2,by rw[h3]⟩) hm;subst hv;subst h3;have hj:es[j]?=some e0:=by simpa using h2
  have hjl:j<es.size:=(Array.getElem?_eq_some_iff.1 hj).1;have hje:es[j]=e0:=(Array.getElem?_eq_some_iff.1 hj).2;refine⟨ChangeMaps.setBlock w r (.map (es.modify j fun e=>{ e with key:=e0.key,val:=v }) clock),j,
   by simp[Instr.mapUpdate,run_underlying ht,MapKept.run_getObj_map hb,K.check w false hl,h1,hj,K.stays w hl,MapKept.run_setObj_map _ hb,Result.andThen,ChangeMaps.setBlock],by simp[hj],
   ⟨_,_,ChangeMaps.heap_setBlock_same hb _,?_,?_,?_⟩,⟨rfl,rfl,rfl,by simp[ChangeMaps.setBlock],fun i _ hi=>ChangeMaps.heap_setBlock_other hb _ (fun e=>hi (by rw[e]))⟩,by simp[ChangeMaps.setBlock]⟩
  ·apply List.ext_getElem?
   intro i;simp only[List.getElem?_map,Array.getElem?_toList,Array.getElem?_modify,List.getElem?_set,List.length_map,Array.length_toList]
   by_cases hij:j=i
   ·subst hij;simp[hjl]
   ·simp[hij]
  ·intro p hp;rcases List.mem_or_eq_of_mem_set hp with hp|rfl
   ·exact hk p hp
   ·exact⟨l,hl⟩
  ·have:((List.map (fun e=>(e.key,e.val)) es.toList).set j (e0.key,v)).map Prod.fst=(List.map (fun e=>(e.key,e.val)) es.toList).map Prod.fst:=by
    apply List.ext_getElem?
    intro i;simp only[List.getElem?_map,List.getElem?_set,Array.getElem?_toList,List.length_map,Array.length_toList]
    by_cases hij:j=i
    ·subst hij;simp[hjl,hje]
    ·simp[hij]
   rw[this];exact hn

theorem wpList_append_run{P:Program}{ops:Array Oper}{rest:List Oper}{o:Oper}{a:Act}{Q:Exit→Act→World→Prop}{w w':World}{v v2 v':Value}(hgd:o.guard=none)(s x:Operand)(t:TypeId)
  (ho:o.op=.call { callee:=.builtin .append,args:=#[s,x],argTypes:=#[t,t] }) (hs:a.eval s=v) (hx:a.eval x=v2)
  (hrun:(Builtin.append_ #[t,t] o.type #[v,v2]).run P w=.ok v' w') (h:wpList P ops Q rest (a.put o.dst v') w'):wpList P ops Q (o::rest) a w:=by
 refine wpList_plain hgd fun _ hK=>?_
 unfold Oper.wp execOp;simp only[ho,resolve,invoke,builtin,Sem.run_bind,Sem.run_pure,Result.andThen_ok,List.map_toArray,List.map_cons,List.map_nil,hs,hx,hrun]
 exact hK _ _ h

theorem cO{α β:Type}(f:α→List β)(c:Nat)(hf:∀x,(f x).length=c):∀(l:List α) (i j:Nat) (x:α),l[i]?=some x→j<c→(l.flatMap f)[i*c+j]?=(f x)[j]?
 | [],i,j,x,h,_=>by simp at h
 | y::l,0,j,x,h,hj=>by
  simp at h
  subst h;simp only[List.flatMap_cons,Nat.zero_mul,Nat.zero_add]
  rw[List.getElem?_append_left (by rw[hf];exact hj)]
 | y::l,i+1,j,x,h,hj=>by
  simp only[List.getElem?_cons_succ] at h
  simp only[List.flatMap_cons]
  rw[List.getElem?_append_right (by rw[hf,Nat.add_mul];omega),hf,show(i+1)*c+j-c=i*c+j by rw[Nat.add_mul];omega];exact cO f c hf l i j x h hj
theorem dL{α β:Type}(f:α→List β)(c:Nat)(hf:∀x,(f x).length=c):∀(l:List α),(l.flatMap f).length=l.length*c
 | []=>by simp
 | y::l=>by simp[hf,dL f c hf l,Nat.add_mul,Nat.add_comm]

theorem aK{w:World}{base e size n:Nat}{v:Value}{xs:List Value}(h:w.ownsRow base e size v n xs):∃A c,v=.slice A n c∧n≤c∧(A=none∨∃g,A=some ⟨g,0,none⟩):=by
 rcases h.2 with ⟨rfl,rfl⟩|⟨g,cap,cur,rfl,_,_,hc,_⟩
 ·exact⟨none,0,rfl,Nat.le_refl _,.inl rfl⟩
 ·exact⟨_,cap,rfl,hc,.inr ⟨g,rfl⟩⟩
theorem aN{w:World}{base e size n:Nat}{v:Value}{xs:List Value}(h:w.ownsRow base e size v n xs)(hn:0<n) :
  ∃g c,v=.slice (some ⟨g,0,none⟩) n c∧v.ownBlock=some g∧n≤c∧g<w.heap.size∧base≤g∧∀j u,xs[j]?=some u→w.cell? ⟨g,j,none⟩=some u∧w.frozen? ⟨g,j,none⟩=false:=by
 have hc:=fun g (hg:v.ownBlock=some g)=>h.cells hg
 have hlt:=h.lt;rcases h.2 with ⟨_,rfl⟩|⟨g,cap,cur,rfl,_,hg,hcap,_⟩
 ·omega
 ·refine⟨g,cap,rfl,rfl,hcap,(hlt g rfl).2,(hlt g rfl).1,fun j u hu=>⟨?_,by simp[World.frozen?,hg]⟩⟩;have:=hc g rfl j u hu;rwa [Addr.add_lit,Nat.zero_add] at this
theorem upF{w w':World}(h:Below w.heap.size w w'):Upd (fun _=>False) w w':=Upd.of_below h _
theorem tHn{w w1 w2:World}(a:Below w.heap.size w w1)(b:Below w1.heap.size w1 w2):Below w.heap.size w w2:=a.trans (b.mono a.size)
section
variable {P:Program} {ops:Array Oper} {Q:Exit→Act→World→Prop} {md:Region.Mode} {S:World→Prop} {n:Nat}
def sW(md:Region.Mode)(ops:Array Oper):Nat→List Nat→List Nat
 | 0,acc=>acc
 | f+1,acc=>sW md ops f (acc++acc.flatMap fun j=>match ops[j]? with
   | some o=>(o.after.toList.filter (Region.binds md)).map (·.on)
   | none=>[]).eraseDups

def dD(md:Region.Mode)(ops:Array Oper)(listed:Array Bool):Prop:=
 ∀(j:Nat) (oj:Oper),ops[j]?=some oj→listed.getD j false=true→∀e∈oj.after,Region.binds md e=true→listed.getD e.on false=true

theorem iV{listed:Array Bool}(hd:dD md ops listed):∀(f:Nat) (acc:List Nat),(∀j∈acc,listed.getD j false=true)→∀j∈sW md ops f acc,listed.getD j false=true
 | 0,_,h,j,hj=>h j hj
 | f+1,acc,h,j,hj=>by
  refine iV hd f _ (fun k hk=>?_) j hj;rw[List.mem_eraseDups,List.mem_append] at hk;rcases hk with hk|hk
  ·exact h k hk
  ·obtain⟨m,hm,hk⟩:=List.mem_flatMap.1 hk;cases ho:ops[m]? with
   | none=>rw[ho] at hk;cases hk
   | some o =>
    rw[ho] at hk;obtain⟨e,he,rfl⟩:=List.mem_map.1 hk;obtain⟨he1,he2⟩:=List.mem_filter.1 he;exact hd m o ho (h m hm) e (by simpa using he1) he2

theorem dD.set{listed:Array Bool}{i:Nat}(hd:dD md ops listed)(hi:i∈Region.ready md ops listed):dD md ops (listed.setIfInBounds i true):=by
 intro j oj hj hl e he hb;by_cases hij:i=j
 ·subst hij;obtain⟨_,o,ho,hall⟩:=mem_ready.1 hi;rw[hj] at ho;injection ho with ho;subst ho;exact getD_set_true (hall e he hb)
 ·rw[getD_set_ne false hij] at hl;exact getD_set_true (hd j oj hj hl e he hb)

theorem jQ(m:Nat):dD md ops (Array.replicate m false):=by
 intro j oj _ hl;exfalso
 simp only[Array.getD_eq_getD_getElem?,Array.getElem?_replicate] at hl
 split at hl <;> simp at hl

def bB(P:Program)(md:Region.Mode)(ops:Array Oper)(Q:Exit→Act→World→Prop)(S:World→Prop)(n:Nat):Nat→Array Bool→Act→World→Prop
 | 0,listed,a,w=>Region.ready md ops listed=[]∧Q .normal a w
 | fuel+1,listed,a,w =>
  (Region.ready md ops listed=[]→Q .normal a w) ∧
  ∀i∈Region.ready md ops listed,wpOp P ops Q i (fun a' w'=>(i≠n→S w')∧bB P md ops Q S n fuel (listed.setIfInBounds i true) a' w') a w

theorem jR:∀(fuel:Nat) (listed:Array Bool) (a:Act) (w:World),bB P md ops Q S n fuel listed a w→wpAny P md ops Q fuel listed a w
 | 0,_,_,_,h=>h
 | fuel+1,_,_,_,h=>⟨h.1,fun i hi=>wpOp_mono (fun a' w' h'=>jR fuel _ a' w' h'.2) (h.2 i hi)⟩

theorem mH{i f:Nat}{oi:Oper}{v:Value}(hi:ops[i]?=some oi)(hsel:∀(j:Nat) (o:Oper) cs b,ops[j]?=some o→o.op≠.select cs b)
  (hQ:∀c a w,Q (.panic c) (a.put oi.dst v) w→Q (.panic c) a w) (hpn:ops.size≤n∨i∈sW md ops f [n]) :
  ∀(fuel:Nat) (listed:Array Bool) (a:Act) (w:World),
   (∀j oj,ops[j]?=some oj→j≠i→listed.getD j true=false→(∀e∈oj.after,Region.binds md e=true→e.on≠i)→oi.apart ops oj=true) →
   dD md ops listed→i∈Region.ready md ops listed→YieldsIf P ops S oi v a→S w →
   bB P md ops Q S n fuel (listed.setIfInBounds i true) (a.put oi.dst v) w→bB P md ops Q S n (fuel+1) listed a w:=by
 intro fuel;induction fuel with
 | zero =>
  intro listed a w _ _ hr hy hS H;refine⟨fun h=>(by rw[h] at hr;cases hr),fun j hj=>?_⟩;by_cases hji:j=i
  ·subst hji;exact hy.wpOp hi hS ⟨fun _=>hS,H⟩
  ·have:=ready_mono hj hji;rw[H.1] at this;cases this
 | succ fuel ih =>
  intro listed a w hfree hd hr hy hS H;refine⟨fun h=>(by rw[h] at hr;cases hr),fun j hj=>?_⟩;by_cases hji:j=i
  ·subst hji;exact hy.wpOp hi hS ⟨fun _=>hS,H⟩
  ·have h1:=H.2 j (ready_mono hj hji);obtain⟨hjun,oj,hoj,hall⟩:=mem_ready.1 hj;have hiun:listed.getD i false=false:=by
    have h0:=(mem_ready.1 hr).1;rcases Nat.lt_or_ge i listed.size with h' | h'
    ·simp[h'] at h0 ⊢;exact h0
    ·simp[Array.getElem?_eq_none h']
   have hnot:∀e∈oj.after,Region.binds md e=true→e.on≠i:=fun e he hb heq=>by
    have h1:=hall e he hb;rw[heq,hiun] at h1;cases h1
   have hjn:j≠n:=by
    rintro rfl;rcases hpn with hp|hp
    ·have:=(Array.getElem?_eq_some_iff.1 hoj).1;omega
    ·have hd':=hd.set hj;have hl:∀k∈[j],(listed.setIfInBounds j true).getD k false=true:=by
      intro k hk;obtain rfl:=List.mem_singleton.1 hk;have hks:k<listed.size:=by
       rcases Nat.lt_or_ge k listed.size with h' | h'
       ·exact h'
       ·simp[Array.getElem?_eq_none h'] at hjun
      simp[hks]
     have:=iV hd' f [j] hl i hp;rw[getD_set_ne false hji,hiun] at this;cases this
   have h2:=wpOp_putIf hoj (hfree j oj hoj hji hjun hnot) (fun cs b=>hsel i oi cs b hi) (fun cs b=>hsel j oj cs b hoj) hQ hy h1;have hfree':∀k ok,ops[k]?=some ok→k≠i→(listed.setIfInBounds j true).getD k true=false →
     (∀e∈ok.after,Region.binds md e=true→e.on≠i)→oi.apart ops ok=true:=fun k ok hk hki hun hno=>by
    refine hfree k ok hk hki ?_ hno;by_cases hjk:j=k
    ·subst hjk;exact hjun
    ·rw[getD_set_ne true hjk] at hun;exact hun
   refine wpOp_mono (fun a' w' h3=>⟨h3.2.1,ih (listed.setIfInBounds j true) a' w' hfree' (hd.set hj) (ready_mono hr (Ne.symm hji)) h3.1 (h3.2.1 hjn) ?_⟩) h2;rw[Array.setIfInBounds_comm _ _ hji];exact h3.2.2

def kK(md:Region.Mode)(ops:Array Oper)(n:Nat):List (Nat × Bool)→Array Bool→Bool
 | [],listed=>(Region.ready md ops listed).isEmpty
 | (i,true)::r,listed=>Region.free md ops listed i&&(Region.ready md ops listed).contains i&&kK md ops n r (listed.setIfInBounds i true)
 | (i,false)::r,listed=>(Region.ready md ops listed==[i])&&(i != n||r.isEmpty)&&kK md ops n r (listed.setIfInBounds i true)

def QO(md:Region.Mode)(ops:Array Oper)(n:Nat)(σ:List (Nat × Bool)):Bool:=
 Region.noSelect ops&&decide (σ.length=ops.size)&&(decide (ops.size≤n)||σ.all fun p=>!p.2||(sW md ops ops.size [n]).contains p.1)&&kK md ops n σ (Array.replicate ops.size false)

def fG(P:Program)(ops:Array Oper)(Q:Exit→Act→World→Prop)(S:World→Prop)(n:Nat):List (Nat × Bool)→Act→World→Prop
 | [],a,w=>Q .normal a w
 | (i,true)::r,a,w=>∃v oi,ops[i]?=some oi∧YieldsIf P ops S oi v a∧fG P ops Q S n r (a.put oi.dst v) w
 | (i,false)::r,a,w=>wpOp P ops Q i (fun a' w'=>(i≠n→S w')∧fG P ops Q S n r a' w') a w

theorem jS(hsel:Region.noSelect ops=true)(hQ:∀c a d v w,Q (.panic c) (Act.put a d v) w→Q (.panic c) a w)(f:Nat) :
  ∀(σ:List (Nat × Bool)) (listed:Array Bool) (a:Act) (w:World),(ops.size≤n∨∀p∈σ,p.2=true→p.1∈sW md ops f [n])→dD md ops listed→kK md ops n σ listed=true →
   (σ≠[]→S w)→fG P ops Q S n σ a w→bB P md ops Q S n σ.length listed a w
 | [],listed,a,w,_,_,hB,_,h=>⟨by simpa[kK] using hB,h⟩
 | (i,true)::r,listed,a,w,hp,hd,hB,hS,h=>by
  simp only[kK,Bool.and_eq_true] at hB
  obtain⟨⟨hf,hr⟩,hB'⟩:=hB;obtain⟨v,oi,ho,hy,h'⟩:=h;have hi:i∈Region.ready md ops listed:=by simpa using hr
  have hSw:S w:=hS (by simp);exact mH (f:=f) ho (Region.noSelect_spec hsel) (fun c a w=>hQ c a _ _ w) (hp.imp id fun h=>h (i,true) (by simp) rfl) r.length listed a w (Region.free_spec ho hf) hd hi hy hSw
   (jS hsel hQ f r _ _ w (hp.imp id fun h p hpr=>h p (by simp[hpr])) (hd.set hi) hB' (fun _=>hSw) h')
 | (i,false)::r,listed,a,w,hp,hd,hB,hS,h=>by
  simp only[kK,Bool.and_eq_true] at hB
  obtain⟨⟨hr,hl⟩,hB'⟩:=hB;have hr':Region.ready md ops listed=[i]:=by simpa using hr
  have hi:i∈Region.ready md ops listed:=by rw[hr'];simp
  refine⟨fun h0=>(by rw[h0] at hr';cases hr'),fun j hj=>?_⟩;rw[hr'] at hj;obtain rfl:=List.mem_singleton.1 hj;refine wpOp_mono (fun a' w' h3=>⟨h3.1,jS hsel hQ f r _ a' w' (hp.imp id fun h p hpr=>h p (by simp[hpr])) (hd.set hi) hB' (fun hne=>h3.1 ?_) h3.2⟩) h;rintro rfl;simp at hl
  exact hne hl

theorem aT{rid:Nat}{a:Act}{w:World}{l:List Oper}(S:World→Prop)(n:Nat)(σ:List (Nat × Bool))(hm:P.follows .mixedOrders=true)(hB:QO .any l.toArray n σ=true)
  (hQ:∀c a d v w,Q (.panic c) (Act.put a d v) w→Q (.panic c) a w) (hS:S w.drew) (h:fG P l.toArray Q S n σ a w.drew):(Code.region rid l.toArray true).wp P Q a w:=by
 simp only[QO,Bool.and_eq_true,Bool.or_eq_true,decide_eq_true_eq] at hB
 obtain⟨⟨⟨hsel,hlen⟩,hp⟩,hB'⟩:=hB;refine wp_region_any hm (jR (S:=S) (n:=n) _ _ _ _ ?_);rw[← hlen];refine jS hsel hQ l.toArray.size σ _ a w.drew (hp.imp id fun h p hpr hp2=>?_) (jQ _) (by rw[hlen];exact hB') (fun _=>hS) h;have:=List.all_eq_true.1 h p hpr;simpa[hp2] using this

theorem qS{i:Nat}{r:List (Nat × Bool)}{a:Act}{w:World}{oi:Oper}{v:Value}(hi:ops[i]?=some oi)(hw:Region.wanted oi (yielded ops a.tmps)=true)
  (hy:∀w,S w→(execOp a.eval oi).run P w=.ok (.value v) w) (h:fG P ops Q S n r (a.put oi.dst v) w):fG P ops Q S n ((i,true)::r) a w:=
 ⟨v,oi,hi,.inl ⟨hw,hy⟩,h⟩
theorem eX{i:Nat}{r:List (Nat × Bool)}{a:Act}{w:World}{oi:Oper}(hi:ops[i]?=some oi)(hw:Region.wanted oi (yielded ops a.tmps)=false)
  (h:fG P ops Q S n r (a.put oi.dst undef) w):fG P ops Q S n ((i,true)::r) a w:=
 ⟨undef,oi,hi,.inr ⟨hw,rfl⟩,h⟩
theorem aM{i:Nat}{r:List (Nat × Bool)}{a:Act}{w:World}{oi:Oper}(hi:ops[i]?=some oi)(hg:oi.guard=none)
  (h:∀K:Act→World→Prop,(∀a w,(i≠n→S w)→fG P ops Q S n r a w→K a w)→oi.wp P a w K Q):fG P ops Q S n ((i,false)::r) a w:=by
 show wpOp P ops Q i _ a w
 unfold wpOp;simp only[hi]
 rw[if_pos (by simp[Region.wanted,hg])];exact .inl (h _ fun a w h1 h2=>⟨h1,h2⟩)
theorem aG{a:Act}{w:World}(h:Q .normal a w):fG P ops Q S n [] a w:=h
end
theorem bX{P:Program}{o:Oper}{a:Act}{K:Act→World→Prop}{Q:Exit→Act→World→Prop}{w w':World}{v v2 v':Value}(s x:Operand)(t:TypeId)
  (ho:o.op=.call { callee:=.builtin .append,args:=#[s,x],argTypes:=#[t,t] }) (hs:a.eval s=v) (hx:a.eval x=v2)
  (hrun:(Builtin.append_ #[t,t] o.type #[v,v2]).run P w=.ok v' w') (h:K (a.put o.dst v') w'):o.wp P a w K Q:=by
 unfold Oper.wp execOp;simp only[ho,resolve,invoke,builtin,Sem.run_bind,Sem.run_pure,Result.andThen_ok,List.map_toArray,List.map_cons,List.map_nil,hs,hx,hrun]
 exact h
theorem aC{P:Program}{ops:Array Oper}{Q:Exit→Act→World→Prop}{S:World→Prop}{a:Act}{w:World}{oi:Oper}{v:Value}{n i:Nat}{r:List (Nat × Bool)}{a':Act}(hi:ops[i]?=some oi)(h:fG P ops Q S n r a' w)(hw:Region.wanted oi (yielded ops a.tmps)=true:=by first | with_reducible rfl | kernel_rfl)(hy:∀w,S w→(execOp a.eval oi).run P w=.ok (.value v) w:=by intro wS hS;(try dsimp only at hS);go_split_ands;go_simp;(try with_reducible rfl);done)(e:a.put oi.dst v=a':=by(try simp only[Act.put,gA,gS,gZ,sA,sZ,sS]);first | done | exact rfl):fG P ops Q S n ((i,true)::r) a w:=by subst e;exact qS hi hw hy h
theorem QP{P:Program}{ops:Array Oper}{Q:Exit→Act→World→Prop}{S:World→Prop}{a:Act}{w:World}{oi:Oper}{v:Value}{n i:Nat}{r:List (Nat × Bool)}(hi:ops[i]?=some oi)(h:fG P ops Q S n r (a.put oi.dst v) w)(hw:Region.wanted oi (yielded ops a.tmps)=true:=by first | with_reducible rfl | kernel_rfl)(hy:∀w,S w→(execOp a.eval oi).run P w=.ok (.value v) w:=by intro wS hS;(try dsimp only at hS);go_split_ands;go_simp;(try with_reducible rfl);done):fG P ops Q S n ((i,true)::r) a w:=qS hi hw hy h
theorem aF{P:Program}{Q:Exit→Act→World→Prop}{rid:Nat}{a:Act}{w:World}{l:List Oper}(S:World→Prop)(n:Nat)(σ:List (Nat × Bool))(hS:S w.drew)(h:fG P l.toArray Q S n σ a w.drew)(hm:P.follows .mixedOrders=true:=by kernel_rfl)(hB:QO .any l.toArray n σ=true:=by kernel_rfl)(hQ:∀c a d v w,Q (.panic c) (Act.put a d v) w→Q (.panic c) a w:=by intro _ _ d _ _ h;cases d <;> exact h):(Code.region rid l.toArray true).wp P Q a w:=aT S n σ hm hB hQ hS h
open Go
section
variable {P:Program} {ops:Array Oper} {Q:Exit→Act→World→Prop} {md:Region.Mode} {S:World→Prop} {n:Nat}
theorem IB{f:Nat}{listed:Array Bool}{a:Act}{w:World}{L:List Nat}(hL:Region.ready md ops listed=L)(hne:L≠[])
  (h:∀i∈L,wpOp P ops Q i (fun a' w'=>(i≠n→S w')∧bB P md ops Q S n f (listed.setIfInBounds i true) a' w') a w):bB P md ops Q S n (f+1) listed a w:=by
 subst hL;exact⟨fun e=>absurd e hne,h⟩
theorem aH{i f:Nat}{listed:Array Bool}{a:Act}{w:World}{oi:Oper}(hi:ops[i]?=some oi)(hg:oi.guard=none)
  (h:∀K:Act→World→Prop,(∀a w,S w→bB P md ops Q S n f (listed.setIfInBounds i true) a w→K a w)→oi.wp P a w K Q) :
  wpOp P ops Q i (fun a' w'=>(i≠n→S w')∧bB P md ops Q S n f (listed.setIfInBounds i true) a' w') a w:=by
 unfold wpOp;simp only[hi]
 rw[if_pos (by simp[Region.wanted,hg])];exact .inl (h _ fun a w h1 h2=>⟨fun _=>h1,h2⟩)
theorem fL{listed:Array Bool}{a:Act}{w:World}(hL:Region.ready md ops listed=[])(h:Q .normal a w):bB P md ops Q S n 0 listed a w:=⟨hL,h⟩
end
open Go
section
variable {P:Program} {ops:Array Oper} {Q:Exit→Act→World→Prop} {md:Region.Mode} {S:World→Prop} {n:Nat}
theorem BL{i:Nat}{r:List (Nat × Bool)}{a:Act}{w:World}{oi:Oper}(hi:ops[i]?=some oi)(hw:Region.wanted oi (yielded ops a.tmps)=true)
  (h:∀K:Act→World→Prop,(∀a w,(i≠n→S w)→fG P ops Q S n r a w→K a w)→oi.wp P a w K Q):fG P ops Q S n ((i,false)::r) a w:=by
 show wpOp P ops Q i _ a w
 unfold wpOp;simp only[hi]
 rw[if_pos hw];exact .inl (h _ fun a w h1 h2=>⟨h1,h2⟩)
theorem sX{i:Nat}{r:List (Nat × Bool)}{a:Act}{w:World}{oi:Oper}(hi:ops[i]?=some oi)(hw:Region.wanted oi (yielded ops a.tmps)=false)(hS:S w)
  (h:fG P ops Q S n r (a.put oi.dst undef) w):fG P ops Q S n ((i,false)::r) a w:=by
 show wpOp P ops Q i _ a w
 unfold wpOp;simp only[hi,hw]
 exact⟨fun _=>hS,h⟩
end
open Go.RowKit
def Wf(a:Int):Prop:=(Lit.int .i64 a).wf=true
def NA(w:World)(size:Nat)(A:Option Addr)(n:Nat)(xs:List Value):Prop:=
 xs.length=n*size∧(A=none→n=0)∧∀ad,A=some ad→∀j u,xs[j]?=some u→w.cell? (ad.add j)=some u
theorem NA.nil{w:World}{size n:Nat}{xs:List Value}(h:NA w size none n xs):n=0∧xs=[]:=by
 have hn:=h.2.1 rfl;subst hn;exact⟨rfl,List.eq_nil_of_length_eq_zero (by simpa using h.1)⟩
theorem cH:(Tryz.prog.info? 9).map (fun i=>(i.zero,i.size,i.bytes))=some (some (.string ByteArray.empty),1,16):=by kernel_rfl
theorem iW:(Tryz.prog.info? 88).map (fun i=>(i.zero,i.size,i.bytes))=some (some (.agg #[.string ByteArray.empty,.string ByteArray.empty,.string ByteArray.empty]),3,48):=by kernel_rfl
def Sam(w:World)(v:Value)(e:Ending)(w':World):Prop:=e=.returned v∧Below w.heap.size w w'

def aX(w:World)(A:Option Addr)(xs:List Value):Prop:=∀j u,xs[j]?=some u→∃b o,A=some ⟨b,o,none⟩∧w.cell? ⟨b,o+j,none⟩=some u
theorem aX.upd{w w':World}{A:Option Addr}{xs:List Value}{F:Nat→Prop}(h:aX w A xs)(hu:Upd F w w')(hF:∀b o s,A=some ⟨b,o,s⟩→¬F b):aX w' A xs:=fun j u hj=>by
 obtain⟨b,o,rfl,hc⟩:=h j u hj;exact⟨b,o,rfl,(hu.cell (p:=⟨b,o+j,none⟩) (World.block_lt_of_cell? w _ hc) (hF b o none rfl)).trans hc⟩
theorem aX.below{w w':World}{A:Option Addr}{xs:List Value}(h:aX w A xs)(hb:Below w.heap.size w w'):aX w' A xs:=h.upd (upF hb) (fun _ _ _ _=>id)
theorem aX.reads{w:World}{A:Option Addr}{xs:List Value}{n size:Nat}(h:aX w A xs)(hl:xs.length=n*size)(h0:0<size):NA w size A n xs:=by
 refine⟨hl,?_,?_⟩
 ·rintro rfl;rcases Nat.eq_zero_or_pos n with h1|h1
  ·exact h1
  ·have:0<xs.length:=by rw[hl];exact Nat.mul_pos h1 h0
   obtain⟨b,o,e,-⟩:=h 0 xs[0] (gEz this);cases e
 ·rintro ad rfl j u hj;obtain⟨b,o,e,hc⟩:=h j u hj;injection e with e;subst e;rw[Addr.add_lit];exact hc
theorem aX.of_own{w:World}{base e size n c:Nat}{A:Option Addr}{xs:List Value}(h:w.ownsRow base e size (.slice A n c) n xs):aX w A xs:=fun j u hj=>by
 rcases h.2 with ⟨hv,h0⟩|⟨g,cap,cur,hv,_⟩
 ·have hl:0<xs.length:=Nat.lt_of_le_of_lt (Nat.zero_le _) (gO.1 hj).1;rw[h.1,h0] at hl;omega
 ·injection hv with hv;subst hv;have:=h.cells (g:=g) rfl j u hj;rw[Addr.add_lit,Nat.zero_add] at this;exact⟨g,0,rfl,by rw[Nat.zero_add];exact this⟩
theorem cI(w:World)(base t e size bytes:Nat)(z:Value)(ht:Tryz.prog.underlying t=some (.slice e))(hi:(Tryz.prog.info? e).map (fun i=>(i.zero,i.size,i.bytes))=some (some z,size,bytes))(hzs:z.cells.size=size)(h0:0<size)
  (v:Value) (n:Nat) (xs:List Value) (own:w.ownsRow base e size v n xs) (news:List Value) (m:Nat) (hl:news.length=m*size) (h1:∀u∈news,u.oneCell'=true) (hn:(n+m)*bytes≤140737488355328) (h63:n+m≤maxLen) (hb:base≤w.heap.size) :
  ∃v' w',(Builtin.append_ #[t,t] t #[v,.slice (some ⟨w.heap.size,0,none⟩) m m]).run Tryz.prog (w.alloc (.cells news.toArray e))=.ok v' w'∧w'.ownsRow base e size v' (n+m) (xs++news)∧Upd (fun k=>v.ownBlock=some k) w w'∧∀k,v'.ownBlock=some k→v.ownBlock=some k∨w.heap.size≤k:=by
 obtain⟨i0,hi0,hz0,hz1,hz2⟩:=info_parts hi;obtain⟨v',w',happ,own',gr,-,pl⟩:=run_append_own_at (P:=Tryz.prog) (w.alloc (.cells news.toArray e)) base t t e i0 z size bytes ht hi0 hz0 hz1 hz2 hzs h0 v n xs (own.alloc _) ⟨w.heap.size,0,none⟩ m m news hl (fun j u hu=>by
  have:=(Blk.new w e news.toArray).cell j;rw[Addr.add_lit,Nat.zero_add,this];simpa using hu) h1 h63 hn (by simp;omega)
 refine⟨v',w',happ,own',((Upd.refl _ w).alloc _).grown gr (fun k hk=>.inl hk),fun k hk=>?_⟩;rcases pl with h|h
 ·exact .inl (by rw[← h];exact hk)
 ·rw[h] at hk;injection hk with hk;simp at hk
  exact .inr (by omega)

def pcN:Nat→Nat→Nat
 | 0,_=>0
 | k+1,x=>x % 2+pcN k (x / 2)
theorem iP:∀(k x:Nat),pcN k x≤k
 | 0,_=>Nat.le_refl _
 | k+1,x=>by
  have:=iP k (x / 2);unfold pcN;omega
theorem sY:∀(k m x:Nat),pcN (k+m) x=pcN k x+pcN m (x / 2 ^ k)
 | 0,m,x=>by simp[pcN]
 | k+1,m,x=>by
  rw[show k+1+m=(k+m)+1 by omega,pcN,pcN,sY k m (x / 2),Nat.div_div_eq_div_mul,Nat.pow_succ,Nat.mul_comm 2];omega
theorem BM:∀(k x:Nat),pcN k (x % 2 ^ k)=pcN k x
 | 0,_=>rfl
 | k+1,x=>by
  have h:x % 2 ^ (k+1) / 2=x / 2 % 2 ^ k:=by
   rw[Nat.pow_succ,Nat.mul_comm,Nat.mod_mul_right_div_self]
  have h2:x % 2 ^ (k+1) % 2=x % 2:=by
   rw[Nat.pow_succ];exact Nat.mod_mul_left_mod _ _ _
  rw[pcN,pcN,h,h2,BM k]
def msk(c:Nat):Nat→Nat
 | 0=>0
 | n+1=>c+256*msk c n
theorem iX(a b c d:Nat)(ha:a<256)(hc:c<256):(a+256*b) &&& (c+256*d)=(a &&& c)+256*(b &&& d):=by
 apply Nat.eq_of_testBit_eq
 intro i;have hac:a &&& c<2 ^ 8:=Nat.lt_of_le_of_lt Nat.and_le_left ha;rw[Nat.testBit_and,show a+256*b=2 ^ 8*b+a by omega,show c+256*d=2 ^ 8*d+c by omega,show(a &&& c)+256*(b &&& d)=2 ^ 8*(b &&& d)+(a &&& c) by omega,
  Nat.testBit_two_pow_mul_add _ ha,Nat.testBit_two_pow_mul_add _ hc,Nat.testBit_two_pow_mul_add _ hac]
 split <;> simp
def s1(n x:Nat):Nat:=(x / 2 &&& msk 85 n)+(x &&& msk 85 n)
def s2(n x:Nat):Nat:=(x / 4 &&& msk 51 n)+(x &&& msk 51 n)
def s3(n x:Nat):Nat:=(x / 16+x) &&& msk 15 n
theorem vR:∀a,a<256→∀t,t<2→((a / 2+128*t) &&& 85)+(a &&& 85)=s1 1 a∧s1 1 a<256:=by decide +kernel
theorem NB:∀a,a<256→∀t,t<4→((a / 4+64*t) &&& 51)+(a &&& 51)=s2 1 a∧s2 1 a<256:=by decide +kernel
theorem xJ(n a b:Nat)(ha:a<256):s1 (n+1) (a+256*b)=s1 1 a+256*s1 n b:=by
 have h:=(vR a ha (b % 2) (by omega)).1;have e:(a+256*b) / 2=(a / 2+128*(b % 2))+256*(b / 2):=by omega
 have hm:msk 85 (n+1)=85+256*msk 85 n:=rfl;have:s1 (n+1) (a+256*b)=((a+256*b) / 2 &&& msk 85 (n+1))+((a+256*b) &&& msk 85 (n+1)):=rfl;rw[this,hm,e,iX _ _ _ _ (by omega) (by decide),iX _ _ _ _ ha (by decide),← h];have:s1 n b=(b / 2 &&& msk 85 n)+(b &&& msk 85 n):=rfl;rw[this];omega
theorem xK(n a b:Nat)(ha:a<256):s2 (n+1) (a+256*b)=s2 1 a+256*s2 n b:=by
 have h:=(NB a ha (b % 4) (by omega)).1;have e:(a+256*b) / 4=(a / 4+64*(b % 4))+256*(b / 4):=by omega
 have hm:msk 51 (n+1)=51+256*msk 51 n:=rfl;have:s2 (n+1) (a+256*b)=((a+256*b) / 4 &&& msk 51 (n+1))+((a+256*b) &&& msk 51 (n+1)):=rfl;rw[this,hm,e,iX _ _ _ _ (by omega) (by decide),iX _ _ _ _ ha (by decide),← h];have:s2 n b=(b / 4 &&& msk 51 n)+(b &&& msk 51 n):=rfl;rw[this];omega
theorem IC(n a b:Nat)(ha:a≤68)(hb:b % 16≤4):s3 (n+1) (a+256*b)=s3 1 a+256*s3 n b:=by
 have e:(a+256*b) / 16+(a+256*b)=(a / 16+a+16*(b % 16))+256*(b / 16+b):=by omega
 have hm:msk 15 (n+1)=15+256*msk 15 n:=rfl;have:s3 (n+1) (a+256*b)=((a+256*b) / 16+(a+256*b)) &&& msk 15 (n+1):=rfl;rw[this,hm,e,iX _ _ _ _ (by omega) (by decide)];have e1:s3 1 a=(a / 16+a) &&& 15:=rfl;have e2:∀x,x &&& 15=x % 16:=fun x=>Nat.and_two_pow_sub_one_eq_mod x 4
 rw[e1,e2,e2];have:s3 n b=(b / 16+b) &&& msk 15 n:=rfl;rw[this];omega
theorem BN:∀a,a<256→s3 1 (s2 1 (s1 1 a))=pcN 8 a∧s2 1 (s1 1 a)≤68∧s2 1 (s1 1 a) % 16≤4:=by decide +kernel
def pcs:Nat→Nat→Nat
 | 0,_=>0
 | n+1,x=>pcN 8 x+256*pcs n (x / 256)
theorem TE(n b:Nat)(hb:b<256 ^ n):s2 n (s1 n b) % 16≤4:=by
 cases n with
 | zero =>
  have:s2 0 (s1 0 b)=0:=by
   have h:s1 0 b=0:=by unfold s1 msk;simp
   rw[h];rfl
  rw[this];decide
 | succ n =>
  have e:b=b % 256+256*(b / 256):=by omega
  have h1:=(BN (b % 256) (by omega)).2.2;have hs:=(vR (b % 256) (by omega) 0 (by omega)).2;rw[e,xJ _ _ _ (by omega),xK _ _ _ hs];omega
theorem xL:∀(n x:Nat),x<256 ^ n→s3 n (s2 n (s1 n x))=pcs n x
 | 0,x,_=>by unfold s3 msk pcs;simp
 | n+1,x,hx=>by
  have e:x=x % 256+256*(x / 256):=by omega
  have hb:x / 256<256 ^ n:=by rw[Nat.pow_succ] at hx;omega
  have h1:=BN (x % 256) (by omega);have hs:=(vR (x % 256) (by omega) 0 (by omega)).2;have hp:pcN 8 (x % 256)=pcN 8 x:=BM 8 x;have:s3 (n+1) (s2 (n+1) (s1 (n+1) x))=s3 1 (s2 1 (s1 1 (x % 256)))+256*s3 n (s2 n (s1 n (x / 256))):=by
   conv=>lhs;rw[e]
   rw[xJ _ _ _ (by omega),xK _ _ _ hs,IC _ _ _ h1.2.1 (TE n _ hb)]
  rw[this,xL n _ hb,h1.1,hp];rfl
theorem UF{p0 p1 p2 p3 p4 p5 p6 p7 y y1 y2 y3 y4 y5 y6:Nat}(h:y=p0+256*y1)(h1:y1=p1+256*y2)(h2:y2=p2+256*y3)(h3:y3=p3+256*y4)(h4:y4=p4+256*y5)(h5:y5=p5+256*y6)(h6:y6=p6+256*p7)
  (b0:p0≤8) (b1:p1≤8) (b2:p2≤8) (b3:p3≤8) (b4:p4≤8) (b5:p5≤8) (b6:p6≤8) (b7:p7≤8) :
  ((y+y / 256)+(y+y / 256) / 65536+((y+y / 256)+(y+y / 256) / 65536) / 4294967296) % 128=p0+p1+p2+p3+p4+p5+p6+p7:=by
 have e1:y / 256=y1:=by omega
 rw[e1];have e2:(y+y1) / 65536=y2+y3:=by
  have:y+y1=(p0+p1)+256*(p1+p2)+65536*(y2+y3):=by omega
  rw[this];clear this e1 h h1 h2 h3 h4 h5 h6;omega
 rw[e2];have e3:(y+y1+(y2+y3)) / 4294967296=y4+y5+y6+p7:=by
  have:y+y1+(y2+y3)=(p0+p1+p2+p3)+256*(p1+p2+p3+p4)+65536*(p2+p3+p4+p5)+16777216*(p3+p4+p5+p6)+4294967296*(y4+y5+y6+p7):=by omega
  rw[this];clear this e1 e2 h h1 h2 h3 h4 h5 h6;omega
 rw[e3];have:y+y1+(y2+y3)+(y4+y5+y6+p7)=(p0+p1+p2+p3+p4+p5+p6+p7)+256*(y1+y2+y3+y4+y5+y6+p7):=by omega
 rw[this];clear this e1 e2 e3 h h1 h2 h3 h4 h5 h6;omega
theorem NC(x:Nat):((pcs 8 x+pcs 8 x / 256)+(pcs 8 x+pcs 8 x / 256) / 65536+((pcs 8 x+pcs 8 x / 256)+(pcs 8 x+pcs 8 x / 256) / 65536) / 4294967296) % 128=pcN 64 x:=by
 have e:pcN 64 x=pcN 8 x+pcN 8 (x / 256)+pcN 8 (x / 256 / 256)+pcN 8 (x / 256 / 256 / 256)+pcN 8 (x / 256 / 256 / 256 / 256)+pcN 8 (x / 256 / 256 / 256 / 256 / 256)+pcN 8 (x / 256 / 256 / 256 / 256 / 256 / 256)+pcN 8 (x / 256 / 256 / 256 / 256 / 256 / 256 / 256):=by
  have s:∀m y,pcN (8+m) y=pcN 8 y+pcN m (y / 256):=fun m y=>sY 8 m y
  have e1:=s 56 x;have e2:=s 48 (x / 256);have e3:=s 40 (x / 256 / 256);have e4:=s 32 (x / 256 / 256 / 256);have e5:=s 24 (x / 256 / 256 / 256 / 256);have e6:=s 16 (x / 256 / 256 / 256 / 256 / 256);have e7:=s 8 (x / 256 / 256 / 256 / 256 / 256 / 256);show pcN (8+56) x=_
  rw[e1];show _+pcN (8+48) _=_
  rw[e2];show _+(_+pcN (8+40) _)=_
  rw[e3];show _+(_+(_+pcN (8+32) _))=_
  rw[e4];show _+(_+(_+(_+pcN (8+24) _)))=_
  rw[e5];show _+(_+(_+(_+(_+pcN (8+16) _))))=_
  rw[e6];show _+(_+(_+(_+(_+(_+pcN (8+8) _)))))=_
  rw[e7];simp only[Nat.add_assoc]
 rw[e];have z:∀y,pcs 1 y=pcN 8 y:=fun y=>by simp[pcs]
 exact UF (y:=pcs 8 x) (y1:=pcs 7 (x / 256)) (y2:=pcs 6 (x / 256 / 256)) (y3:=pcs 5 (x / 256 / 256 / 256)) (y4:=pcs 4 (x / 256 / 256 / 256 / 256)) (y5:=pcs 3 (x / 256 / 256 / 256 / 256 / 256)) (y6:=pcs 2 (x / 256 / 256 / 256 / 256 / 256 / 256)) rfl rfl rfl rfl rfl rfl (by rw[← z];rfl) (iP 8 _) (iP 8 _) (iP 8 _) (iP 8 _) (iP 8 _) (iP 8 _) (iP 8 _) (iP 8 _)
open Go.RowKit
theorem xM(c:Nat)(hc:c<256):∀n,msk c n<256 ^ n
 | 0=>by simp[msk]
 | n+1=>by
  have:=xM c hc n;rw[Nat.pow_succ];unfold msk;omega
theorem MK:∀n x,pcs n x≤msk 8 n
 | 0,_=>Nat.le_refl _
 | n+1,x=>by
  have:=MK n (x / 256);have:=iP 8 x;unfold pcs msk;omega
theorem xN(x y c d:Nat)(hx:x<18446744073709551616)(hy:y<18446744073709551616)(hc:c<18446744073709551616)(h:(x &&& c)+(y &&& c)=d)(hd:d<18446744073709551616) :
  IntKind.u64.wrap (bits .and .u64 (x:Int) (c:Int)+bits .and .u64 (y:Int) (c:Int))=(d:Int):=by
 rw[bits_and_u64_nat x c hx hc,bits_and_u64_nat y c hy hc,IntKind.wrap_u64];omega
theorem mV(x y d:Nat)(h:x+y=d)(hd:d<18446744073709551616):IntKind.u64.wrap ((x:Int)+(y:Int))=(d:Int):=by
 rw[IntKind.wrap_u64];omega
theorem zC(n:Int):bits .and .i64 n 127=n % 128:=by
 have h127:(BitVec.ofInt 64 127).toNat=2 ^ 7-1:=by decide
 have key:(BitVec.ofInt 64 n &&& BitVec.ofInt 64 127).toNat=(n % ((2 ^ 64:Nat):Int)).toNat % 2 ^ 7:=by
  rw[BitVec.toNat_and,BitVec.toNat_ofInt,h127,Nat.and_two_pow_sub_one_eq_mod]
 show IntKind.i64.wrap ((BitVec.ofInt 64 n &&& BitVec.ofInt 64 127).toNat:Nat)=n % 128
 rw[key,IntKind.wrap_i64];omega
theorem ID(x:Nat)(hx:x<18446744073709551616)(w:World):Calls Tryz.prog 196 #[.int .u64 (x:Int)] w (fun e w'=>e=.returned (.int .i64 (pcN 64 x:Nat))∧w'=w):=by
 have k5:=xM 85 (by decide) 8;have k3:=xM 51 (by decide) 8;have k1:=xM 15 (by decide) 8;have e8:(256:Nat) ^ 8=18446744073709551616:=by decide
 rw[e8] at k5 k3 k1;have m5:msk 85 8=6148914691236517205:=by decide
 have m3:msk 51 8=3689348814741910323:=by decide
 have m1:msk 15 8=1085102592571150095:=by decide
 have m8:msk 8 8=578721382704613384:=by decide
 have st:=xL 8 x (by rw[e8];exact hx);have sm:=NC x;have sl:=MK 8 x;have h1:=xN (x / 2) x (msk 85 8) (s1 8 x) (by omega) hx k5 rfl (by
  have a:=Nat.and_le_right (n:=x / 2) (m:=msk 85 8);have b:=Nat.and_le_right (n:=x) (m:=msk 85 8);unfold s1;omega)
 have l1:s1 8 x<18446744073709551616:=by
  have a:=Nat.and_le_right (n:=x / 2) (m:=msk 85 8);have b:=Nat.and_le_right (n:=x) (m:=msk 85 8);unfold s1;omega
 generalize s1 8 x=y1 at h1 l1 st;have l2:s2 8 y1<18446744073709551616:=by
  have a:=Nat.and_le_right (n:=y1 / 4) (m:=msk 51 8);have b:=Nat.and_le_right (n:=y1) (m:=msk 51 8);unfold s2;omega
 have h2:=xN (y1 / 4) y1 (msk 51 8) (s2 8 y1) (by omega) l1 k3 rfl l2;have l2b:s2 8 y1≤2*3689348814741910323:=by
  have a:=Nat.and_le_right (n:=y1 / 4) (m:=msk 51 8);have b:=Nat.and_le_right (n:=y1) (m:=msk 51 8);unfold s2;omega
 generalize s2 8 y1=y2 at h2 l2 l2b st;have h3a:=mV (y2 / 16) y2 (y2 / 16+y2) rfl (by omega);have h3:=bits_and_u64_nat (y2 / 16+y2) (msk 15 8) (by omega) k1;have e3:(y2 / 16+y2) &&& msk 15 8=pcs 8 x:=st;rw[e3] at h3;generalize pcs 8 x=y3 at h3 sl sm;rw[m8] at sl;have h4:=mV y3 (y3 / 256) (y3+y3 / 256) rfl (by omega);obtain⟨y4,hy4⟩:∃y,y3+y3 / 256=y:=⟨_,rfl⟩;have l4:y4≤581000000000000000:=by omega
 rw[hy4] at h4 sm;have h5:=mV y4 (y4 / 65536) (y4+y4 / 65536) rfl (by omega);obtain⟨y5,hy5⟩:∃y,y4+y4 / 65536=y:=⟨_,rfl⟩;have l5:y5≤582000000000000000:=by omega
 rw[hy5] at h5 sm;have h6:=mV y5 (y5 / 4294967296) (y5+y5 / 4294967296) rfl (by omega);obtain⟨y6,hy6⟩:∃y,y5+y5 / 4294967296=y:=⟨_,rfl⟩;have l6:y6≤583000000000000000:=by omega
 rw[hy6] at h6 sm;rw[m5] at h1;rw[m3] at h2;rw[m1] at h3;have g1:∀(a b:Nat) (c:Int),c=((b:Nat):Int)→((a / b:Nat):Int)=(a:Int) / c:=fun a b c h=>by rw[h];rfl
 have n1:((6148914691236517205:Nat):Int)=6148914691236517205:=rfl;have n2:((3689348814741910323:Nat):Int)=3689348814741910323:=rfl;have n3:((1085102592571150095:Nat):Int)=1085102592571150095:=rfl;rw[n1,g1 x 2 2 rfl] at h1;rw[n2,g1 y1 4 4 rfl] at h2;rw[Int.natCast_add,g1 y2 16 16 rfl] at h3a h3;rw[n3] at h3;rw[g1 y3 256 256 rfl] at h4;rw[g1 y4 65536 65536 rfl] at h5;rw[g1 y5 4294967296 4294967296 rfl] at h6;clear g1 n1 n2 n3;have h7:bits .and .i64 (y6:Int) 127=((pcN 64 x:Nat):Int):=by rw[zC,← sm];rfl
 clear e3 st sl hy4 hy5 hy6 k5 k3 k1 e8 m5 m3 m1 m8;go_enter Tryz.func196,Tryz.ntmps196;go_wp2;go_ret;exact⟨by rw[← h7];rfl,rfl⟩
open Go.RowKit
structure Wd(r:List Nat):Prop where
 len:r.length=64
 fit:∀x∈r,x<18446744073709551616
def wdC(r:List Nat):List Value:=r.map fun (x:Nat)=>Value.int .u64 (x:Int)
theorem bJ(r:List Nat):(wdC r).length=r.length:=by simp[wdC]
theorem gH{r:List Nat}{k x:Nat}(h:r[k]?=some x):(wdC r)[k]?=some (.int .u64 (x:Int)):=by simp[wdC,h]
def wdV(r:List Nat):Value:=.agg (wdC r).toArray
theorem bS{w:World}{b:Nat}{t:TypeId}{cs:List Value}(h:Blk w b t cs.toArray):w.rangeAt b 0 cs:=fun j v hv=>by
 rw[Nat.zero_add,h.cell j];simpa using hv
theorem bO{r:List Nat}(hr:Wd r):(Tryz.prog.info? 164).map (·.size)=some (wdC r).length:=by rw[bJ,hr.len];kernel_rfl
theorem xO{w:World}{r:List Nat}(hr:Wd r){k x:Nat}(h:r[k]?=some x):(Instr.index 164 (wdV r) (.int .i64 (k:Int))).run Tryz.prog w=.ok (.int .u64 (x:Int)) w:=by
 have hk:=(gO.1 h).1;rw[hr.len] at hk;have h2:=gH h;have h3:(wdC r).toArray[k]?=some (.int .u64 (x:Int)):=by simpa using h2
 have hi:0≤(k:Int)∧(k:Int)<((64:Nat):Int):=by omega
 unfold wdV;simp[Instr.index,run_underlying Tryz.underlying164,asIntOf,hi,go_sem,Result.andThen]
 rw[if_pos hk,h2];rfl
def eP(r:List Nat):Nat:=(r.map (pcN 64)).sum
theorem BO{r:List Nat}{k x:Nat}(h:r[k]?=some x):eP (r.take (k+1))=eP (r.take k)+pcN 64 x:=by
 unfold eP;rw[List.take_add_one,h,List.map_append,List.sum_append];simp
theorem qU:∀(r:List Nat),eP r≤r.length*64
 | []=>Nat.le_refl _
 | x::r=>by
  have:=qU r;have:=iP 64 x;unfold eP at *;rw[List.map_cons,List.sum_cons,List.length_cons];omega
theorem IE(w:World)(r:List Nat)(hr:Wd r):Calls Tryz.prog 168 #[wdV r] w (Sam w (.int .i64 (eP r:Nat))):=by
 have k0:=Blk.new w 164 (wdC r).toArray;have u0:Below w.heap.size w (w.alloc (.cells (wdC r).toArray 164)):=bR.alloc (Nat.le_refl _) _;have hrg:=bS k0;have hsz:=bO hr;have H:=aI2 hr u0;clear k0 u0 hr;unfold wdV;go_enter Tryz.func168,Tryz.ntmps168;go_upto_region 2 with (fail);generalize w.alloc (.cells (wdC r).toArray 164)=W0 at H hrg ⊢;have HX:=hIz (show ∀(W:World) (k x:Nat),r[k]?=some x→(Instr.index 164 (.agg (wdC r).toArray) (.int .i64 (k:Int))).run Tryz.prog W=.ok (.int .u64 (x:Int)) W from fun W k x h=>xO H.out.1 h);go_wp2_with (refine wpList_load_mid rfl 164 _ rfl w.heap.size 0 rfl (wdC r) (.array 64 162) hrg Tryz.underlying164 rfl hsz ?_);clear hrg hsz;go_loopw [3,7] (fun s i wr=>∃k:Nat,k≤64∧i=.int .i64 k∧s=.int .i64 ((eP (r.take k):Nat):Int)∧wr=W0) (fun _ i _=>64-(intOf i).toNat)
 case atStart=>exact⟨0,Nat.zero_le _,rfl,rfl,rfl⟩
 case round =>
  obtain⟨k,hk,rfl,rfl,hwr⟩:=hrel;subst hwr;by_cases hlt:k<64
  ·have hltI:(k:Int)<(64:Int):=by omega
   have hkw:IntKind.i64.wrap ((k:Int)+1)=(k:Int)+1:=IntWalk.i64_in _ (by omega);obtain⟨x,hx⟩:∃x,r[k]?=some x:=⟨r[k]'(by rw[H.out.1.len];exact hlt),gEz _⟩;have hix:=HX.out wr k x hx;have hx64:=H.out.1.fit x (mG hx);have hst:eP (r.take (k+1))=eP (r.take k)+pcN 64 x:=BO hx;have hle:=qU (r.take k);rw[List.length_take] at hle;have hp:=iP 64 x;have hsw:IntKind.i64.wrap (((eP (r.take k):Nat):Int)+((pcN 64 x:Nat):Int))=((eP (r.take (k+1)):Nat):Int):=by rw[hst,IntKind.wrap_i64];omega
   have hcon:=ID x hx64 wr;clear hle hst hx;generalize eP (r.take k)=q0 at hsw ⊢;generalize hq1:eP (r.take (k+1))=q1 at hsw;have HQ:=hIz hq1;clear hq1;generalize pcN 64 x=q2 at hsw hp hcon;go_wp2_with fail;refine hcon.mono ?_;clear hcon;rintro e w' ⟨rfl,hw⟩;subst w';go_wp2;go_roundw
   case rel=>exact⟨k+1,by omega,by go_num,by rw[HQ.out],by first | rfl | trivial⟩
   case measure=>simp[intOf];omega
  ·obtain rfl:k=64:=by omega
   have e1:r.take 64=r:=by rw[← H.out.1.len,List.take_length]
   rw[e1];go_wp2;go_ret;exact⟨rfl,H.out.2⟩
open Go.RowKit
structure Sto{α:Type}(lt:α→α→Bool):Prop where
 irr:∀a,lt a a=false
 tr:∀a b c,lt a b=true→lt b c=true→lt a c=true
 tri:∀a b,lt a b=false→lt b a=false→a=b
theorem Sto.asym{α:Type}{lt:α→α→Bool}(h:Sto lt){a b:α}(k:lt a b=true):lt b a=false:=by
 cases e:lt b a
 ·rfl
 ·have:=h.tr a b a k e;rw[h.irr] at this;cases this
theorem Sto.ne{α:Type}{lt:α→α→Bool}(h:Sto lt){a b:α}(k:lt a b=true):a≠b:=by
 rintro rfl;rw[h.irr] at k;cases k

abbrev Txt:=ByteArray
def kO(a b:Txt):Int:=Lib.compareBytes a.data.toList b.data.toList
def ltT(a b:Txt):Bool:=Op.bytesLess a.toList b.toList
theorem nK{a b:Txt}(h:a.data.toList=b.data.toList):a=b:=by
 obtain⟨⟨a⟩⟩:=a;obtain⟨⟨b⟩⟩:=b;simp at h
 rw[h]
def tA(l:List UInt8):Txt:=⟨l.toArray⟩
theorem zD(s:Txt):tA s.data.toList=s:=by
 obtain⟨a⟩:=s;rfl
theorem gC(a:Txt):a.toList=a.data.toList:=ByteArray.toList_eq a
theorem fM:∀(a b:List UInt8),(Lib.compareBytes a b = -1∧Op.bytesLess a b=true)∨(Lib.compareBytes a b=0∧a=b)∨(Lib.compareBytes a b=1∧Op.bytesLess b a=true)
 | [],[]=>.inr (.inl ⟨rfl,rfl⟩)
 | [],_::_=>.inl ⟨rfl,rfl⟩
 | _::_,[]=>.inr (.inr ⟨rfl,rfl⟩)
 | x::a,y::b=>by
  unfold Lib.compareBytes Op.bytesLess;by_cases h1:x<y
  ·simp[h1]
  ·by_cases h2:y<x
   ·simp[h1,h2]
   ·have e:x=y:=UInt8.le_antisymm (UInt8.not_lt.1 h2) (UInt8.not_lt.1 h1);subst e;rcases fM a b with ⟨c,d⟩|⟨c,d⟩|⟨c,d⟩
    ·exact .inl (by simp[h1,c,d])
    ·exact .inr (.inl (by simp[h1,c];exact d))
    ·exact .inr (.inr (by simp[h1,c,d]))
theorem kR:∀(a:List UInt8),Op.bytesLess a a=false
 | []=>rfl
 | x::a=>by simp[Op.bytesLess,kR a]
theorem vS:∀(a b c:List UInt8),Op.bytesLess a b=true→Op.bytesLess b c=true→Op.bytesLess a c=true
 | _,b,[],_,k=>by cases b <;> simp[Op.bytesLess] at k
 | a,[],_::_,h,_=>by cases a <;> simp[Op.bytesLess] at h
 | [],_::_,_::_,_,_=>rfl
 | x::a,y::b,z::c,h,k=>by
  simp only[Op.bytesLess,Bool.or_eq_true,decide_eq_true_eq,Bool.and_eq_true,beq_iff_eq] at h k ⊢
  rcases h with h|⟨rfl,h⟩
  ·rcases k with k|⟨rfl,k⟩
   ·exact .inl (UInt8.lt_trans h k)
   ·exact .inl h
  ·rcases k with k|⟨rfl,k⟩
   ·exact .inl k
   ·exact .inr ⟨rfl,vS a b c h k⟩
theorem fJ:Sto ltT:=by
 refine⟨fun a=>kR _,fun a b c=>vS _ _ _,fun a b h k=>?_⟩;unfold ltT at h k;rw[gC,gC] at h k;rcases fM a.data.toList b.data.toList with ⟨_,d⟩|⟨_,d⟩|⟨_,d⟩
 ·rw[h] at d;cases d
 ·exact nK d
 ·rw[k] at d;cases d
theorem pR(a b:Txt):(kO a b = -1∧ltT a b=true∧a≠b)∨(kO a b=0∧a=b)∨(kO a b=1∧ltT b a=true∧a≠b):=by
 unfold kO ltT;rw[gC,gC];rcases fM a.data.toList b.data.toList with ⟨c,d⟩|⟨c,d⟩|⟨c,d⟩
 ·refine .inl ⟨c,d,?_⟩;rintro rfl;rw[kR] at d;cases d
 ·exact .inr (.inl ⟨c,nK d⟩)
 ·refine .inr (.inr ⟨c,d,?_⟩);rintro rfl;rw[kR] at d;cases d
theorem iY(a b:Txt):decide (kO a b<0)=ltT a b:=by
 rcases pR a b with ⟨c,d,_⟩|⟨c,rfl⟩|⟨c,d,_⟩
 ·rw[c,d];rfl
 ·rw[c,fJ.irr];rfl
 ·rw[c,fJ.asym d];rfl

structure Ed where
 fr:Txt
 lb:Txt
 to:Txt
deriving DecidableEq
def Ed.cells(x:Ed):List Value:=[.string x.fr,.string x.lb,.string x.to]
def Ed.agg(x:Ed):Value:=.agg #[.string x.fr,.string x.lb,.string x.to]
def GU(a b:Ed):Int:=if kO a.fr b.fr≠0 then kO a.fr b.fr else if kO a.lb b.lb≠0 then kO a.lb b.lb else kO a.to b.to
def ltE(a b:Ed):Bool:=if a.fr=b.fr then (if a.lb=b.lb then ltT a.to b.to else ltT a.lb b.lb) else ltT a.fr b.fr
theorem fB{a b:Txt}:kO a b=0↔a=b:=by
 rcases pR a b with ⟨c,_,d⟩|⟨c,d⟩|⟨c,_,d⟩
 ·simp[c,d]
 ·exact⟨fun _=>d,fun _=>c⟩
 ·simp[c,d]
theorem vT(a b:Ed):decide (GU a b<0)=ltE a b:=by
 unfold GU ltE;by_cases h1:a.fr=b.fr
 ·rw[if_neg (by rw[fB.2 h1];simp),if_pos h1];by_cases h2:a.lb=b.lb
  ·rw[if_neg (by rw[fB.2 h2];simp),if_pos h2,iY]
  ·rw[if_pos (fun e=>h2 (fB.1 e)),if_neg h2,iY]
 ·rw[if_pos (fun e=>h1 (fB.1 e)),if_neg h1,iY]
theorem sR:Sto ltE:=by
 have tr:=fJ.tr;refine⟨fun a=>by simp[ltE,fJ.irr],fun a b c h k=>?_,fun a b h k=>?_⟩
 ·unfold ltE at *;by_cases h1:a.fr=b.fr
  ·rw[if_pos h1] at h;by_cases k1:b.fr=c.fr
   ·rw[if_pos k1] at k;rw[if_pos (h1.trans k1)];by_cases h2:a.lb=b.lb
    ·rw[if_pos h2] at h;by_cases k2:b.lb=c.lb
     ·rw[if_pos k2] at k;rw[if_pos (h2.trans k2)];exact tr _ _ _ h k
     ·rw[if_neg k2] at k;rw[if_neg (fun e=>k2 (h2.symm.trans e)),h2];exact k
    ·rw[if_neg h2] at h;by_cases k2:b.lb=c.lb
     ·rw[if_neg (fun e=>h2 (e.trans k2.symm)),← k2];exact h
     ·rw[if_neg k2] at k;have:=tr _ _ _ h k;rw[if_neg (fJ.ne this)];exact this
   ·rw[if_neg k1] at k;rw[if_neg (fun e=>k1 (h1.symm.trans e)),h1];exact k
  ·rw[if_neg h1] at h;by_cases k1:b.fr=c.fr
   ·rw[if_neg (fun e=>h1 (e.trans k1.symm)),← k1];exact h
   ·rw[if_neg k1] at k;have:=tr _ _ _ h k;rw[if_neg (fJ.ne this)];exact this
 ·obtain⟨a1,a2,a3⟩:=a;obtain⟨b1,b2,b3⟩:=b;unfold ltE at *;simp only at *
  by_cases h1:a1=b1
  ·subst h1;simp only[if_true] at h k
   by_cases h2:a2=b2
   ·subst h2;simp only[if_true] at h k
    rw[fJ.tri _ _ h k]
   ·rw[if_neg h2] at h;rw[if_neg (fun e=>h2 e.symm)] at k;exact(h2 (fJ.tri _ _ h k)).elim
  ·rw[if_neg h1] at h;rw[if_neg (fun e=>h1 e.symm)] at k;exact(h1 (fJ.tri _ _ h k)).elim

def cT{α:Type}(lt:α→α→Bool)(l:List α):Prop:=l.Pairwise fun a b=>lt a b=true
theorem cT.uniq{α:Type}{lt:α→α→Bool}(hs:Sto lt):∀{l m:List α},cT lt l→cT lt m→(∀x,x∈l↔x∈m)→l=m
 | [],[],_,_,_=>rfl
 | [],y::m,_,_,h=>absurd ((h y).2 (by simp)) (by simp)
 | x::l,[],_,_,h=>absurd ((h x).1 (by simp)) (by simp)
 | x::l,y::m,hl,hm,h=>by
  have l1:=List.pairwise_cons.1 hl;have m1:=List.pairwise_cons.1 hm;have e:x=y:=by
   rcases List.mem_cons.1 ((h x).1 (by simp)) with e|hx
   ·exact e
   ·rcases List.mem_cons.1 ((h y).2 (by simp)) with e|hy
    ·exact e.symm
    ·have a:=m1.1 x hx;have b:=l1.1 y hy;rw[hs.asym a] at b;cases b
  subst e;congr 1
  refine cT.uniq hs l1.2 m1.2 (fun z=>?_);have hz:=h z;simp only[List.mem_cons] at hz
  constructor
  ·intro k;rcases hz.1 (.inr k) with rfl|k2
   ·have:=l1.1 _ k;rw[hs.irr] at this;cases this
   ·exact k2
  ·intro k;rcases hz.2 (.inr k) with rfl|k2
   ·have:=m1.1 _ k;rw[hs.irr] at this;cases this
   ·exact k2
structure gG{α:Type}(lt:α→α→Bool)(l m:List α):Prop where
 up:cT lt m
 mem:∀x,x∈m↔x∈l
theorem gG.uniq{α:Type}{lt:α→α→Bool}(hs:Sto lt){l l' m m':List α}(h:gG lt l m)(k:gG lt l' m')(e:∀x,x∈l↔x∈l'):m=m':=
 cT.uniq hs h.up k.up (fun x=>(h.mem x).trans ((e x).trans (k.mem x).symm))
theorem gG.self{α:Type}{lt:α→α→Bool}{l:List α}(h:cT lt l):gG lt l l:=⟨h,fun _=>Iff.rfl⟩
def cpt{α:Type}[DecidableEq α]:List α→List α
 | []=>[]
 | [x]=>[x]
 | x::y::l=>if x=y then cpt (y::l) else x::cpt (y::l)
theorem vU{α:Type}[DecidableEq α]:∀(l:List α) (x:α),x∈cpt l↔x∈l
 | [],x=>Iff.rfl
 | [y],x=>Iff.rfl
 | a::b::l,x=>by
  have ih:=vU (b::l) x;unfold cpt;split
  ·rename_i e
   subst e;rw[ih];simp
  ·rw[List.mem_cons,ih,List.mem_cons (a:=x) (b:=a)]
theorem tB{α:Type}[DecidableEq α]{lt:α→α→Bool}(hs:Sto lt):∀(l:List α),l.Pairwise (fun a b=>lt b a=false)→cT lt (cpt l)
 | [],_=>.nil
 | [y],_=>List.pairwise_singleton _ _
 | a::b::l,h=>by
  obtain⟨h1,h2⟩:=List.pairwise_cons.1 h;have ih:=tB hs (b::l) h2;unfold cpt;split
  ·exact ih
  ·rename_i hne
   refine List.pairwise_cons.2 ⟨fun x hx=>?_,ih⟩;have hb:lt a b=true:=by
    cases e:lt a b
    ·exact(hne (hs.tri _ _ e (h1 b (by simp)))).elim
    ·rfl
   rcases List.mem_cons.1 ((vU _ x).1 hx) with rfl|hx
   ·exact hb
   ·have hbx:=(List.pairwise_cons.1 h2).1 x hx;cases e:lt b x
    ·rw[hs.tri _ _ e hbx] at hb;exact hb
    ·exact hs.tr _ _ _ hb e
theorem ND{α:Type}[DecidableEq α]{lt:α→α→Bool}(hs:Sto lt){l:List α}(h:l.Pairwise (fun a b=>lt b a=false)):gG lt l (cpt l):=⟨tB hs l h,vU l⟩
open Go.RowKit
def zE(n:Nat):Bool:=decide ((97≤n∧n≤122)∨(65≤n∧n≤90)∨(48≤n∧n≤57)∨n=95)
def dE(s:Txt):Bool:=decide (1≤s.size∧s.size≤16)&&s.data.toList.all fun b=>zE b.toNat
def fS(s:Txt):Bool:=dE s&&decide (97≤(s.data.toList.headD 0).toNat∧(s.data.toList.headD 0).toNat≤122)
def gB(w:World)(v:Value)(e:Ending)(w':World):Prop:=e=.returned v∧w'=w

theorem iG{a b:Bool}(h:a=b):Ending.returned (.bool a)=.returned (.bool b):=by rw[h]
theorem pS(n:Nat)(w:World):Calls Tryz.prog 135 #[.int .u8 (n:Int)] w (gB w (.bool (zE n))):=by
 have key:∀b,zE n=b→Calls Tryz.prog 135 #[.int .u8 (n:Int)] w (gB w (.bool b)):=by
  intro b hb;have HB:=hIz hb;clear hb;go_enter Tryz.func135,Tryz.ntmps135;go_wp2
  all_goals
   go_ret;refine⟨iG ?_,rfl⟩;rw[← HB.out,Bool.eq_iff_iff];simp[zE]
   try omega
 exact key _ rfl

theorem dP(a b:Txt)(w:World):Calls Tryz.prog 70 #[.string a,.string b] w (gB w (.int .i64 (kO a b))):=by
 have h1:Calls Tryz.prog 109 #[.string a,.string b] w (gB w (.int .i64 (kO a b))):=by
  go_enter Tryz.func109,Tryz.ntmps109;go_wp2;rw[run_callFunc_extern Tryz.func147 (by kernel_rfl) (by kernel_rfl) (by kernel_rfl) (e:=Extern.BytealgCompare.compare) (by kernel_rfl),Lib.run_compareString];simp only[Result.andThen]
  rw[Oper.upon_value];go_wp2;go_ret;exact⟨rfl,rfl⟩
 generalize kO a b=x at h1 ⊢;go_enter Tryz.func70,Tryz.ntmps70;go_wp2_with fail;refine h1.mono ?_;rintro e w' ⟨rfl,rfl⟩;go_wp2;go_ret;exact⟨rfl,rfl⟩

theorem pT{s:Txt}(h:¬(1≤s.size∧s.size≤16)):dE s=false:=by simp only[dE,decide_eq_false h,Bool.false_and]
theorem xP{s:Txt}{k:Nat}(hk:k<s.size)(h:zE s[k].toNat=false):dE s=false:=by
 unfold dE;rw[Bool.and_eq_false_iff];refine .inr ?_;rw[List.all_eq_false];exact⟨s[k],by simp[ByteArray.getElem_eq_getElem_data],by rw[h];simp⟩
theorem tC{s:Txt}(h:1≤s.size∧s.size≤16)(ha:∀k (hk:k<s.size),zE s[k].toNat=true):dE s=true:=by
 unfold dE;rw[decide_eq_true h,Bool.true_and,List.all_eq_true];intro b hb;obtain⟨i,hi,rfl⟩:=List.getElem_of_mem hb;have:=ha i (by simpa using hi);simpa[ByteArray.getElem_eq_getElem_data] using this

theorem kS(s:Txt)(w:World)(hs:s.size≤9223372036854775807):Calls Tryz.prog 103 #[.string s] w (gB w (.bool (dE s))):=by
 by_cases hl:1≤s.size∧s.size≤16
 ·have h1:¬((s.size:Int)<1):=by omega
  have h2:¬(16<(s.size:Int)):=by omega
  have HL:=hIz hl;clear hl;go_enter Tryz.func103,Tryz.ntmps103;go_wp2_with fail;go_loop [3] (fun i=>∃k:Nat,k≤s.size∧i=.int .i64 k∧Hid (∀j (hj:j<s.size),j<k→zE s[j].toNat=true)) (fun i=>s.size-(intOf i).toNat)
  case atStart=>exact⟨0,Nat.zero_le _,rfl,hIz (fun j _ hj=>by omega)⟩
  case round =>
   obtain⟨k,hk,rfl,hall⟩:=hrel;by_cases hlt:k<s.size
   ·cases hb:zE s[k].toNat with
    | true =>
     have HB:=hIz hb;go_wp2_with fail;refine(pS _ _).mono ?_;rintro e w' ⟨rfl,rfl⟩;go_wp2;go_round
     case rel=>exact⟨k+1,by omega,by go_num,hIz (fun j hj h=>by
      rcases Nat.lt_succ_iff_lt_or_eq.1 h with h|rfl
      ·exact hall.out j hj h
      ·exact HB.out)⟩
     case measure=>simp[intOf];omega
    | false =>
     have HB:=hIz hb;go_wp2_with fail;refine(pS _ _).mono ?_;rintro e w' ⟨rfl,rfl⟩;go_wp2;go_ret;exact⟨iG (xP hlt HB.out).symm,rfl⟩
   ·obtain rfl:k=s.size:=by omega
    go_wp2;go_ret;exact⟨iG (tC HL.out (fun j hj=>hall.out j hj hj)).symm,rfl⟩
 ·rw[pT hl];by_cases h1:(s.size:Int)<1
  ·go_enter Tryz.func103,Tryz.ntmps103;go_wp2;go_ret;exact⟨rfl,rfl⟩
  ·have h2:16<(s.size:Int):=by omega
   go_enter Tryz.func103,Tryz.ntmps103;go_wp2;go_ret;exact⟨rfl,rfl⟩

theorem BP{s:Txt}(h:0<s.size):s.data.toList.headD 0=s[0]:=by
 obtain⟨⟨l⟩⟩:=s;cases l with
 | nil=>simp[ByteArray.size] at h
 | cons a l=>rfl
theorem BQ(s:Txt)(w:World)(hs:s.size≤9223372036854775807):Calls Tryz.prog 104 #[.string s] w (gB w (.bool (fS s))):=by
 have key:∀b,fS s=b→Calls Tryz.prog 104 #[.string s] w (gB w (.bool b)):=by
  intro b hb;cases hn:dE s with
  | false =>
   have e:b=false:=by rw[← hb,fS,hn,Bool.false_and]
   subst e;have hcon:=kS s w hs;rw[hn] at hcon;clear hb hn;go_enter Tryz.func104,Tryz.ntmps104;go_wp2_with fail;refine hcon.mono ?_;rintro e w' ⟨rfl,rfl⟩;go_wp2;go_ret;exact⟨rfl,rfl⟩
  | true =>
   have h1:0<s.size:=by
    unfold dE at hn;simp at hn
    omega
   have hb':decide (97≤(s[0].toNat:Int)∧(s[0].toNat:Int)≤122)=b:=by
    rw[← hb,fS,hn,Bool.true_and,BP h1];exact decide_eq_decide.2 (by omega)
   have hcon:=kS s w hs;rw[hn] at hcon;have HB:=hIz hb';have h2:(0:Int)<(s.size:Int):=by omega
   clear hb hn hb';go_enter Tryz.func104,Tryz.ntmps104;go_wp2_with fail;refine hcon.mono ?_;rintro e w' ⟨rfl,rfl⟩;go_wp2
   all_goals
    go_ret;refine⟨iG ?_,rfl⟩;rw[← HB.out,Bool.eq_iff_iff];simp
    try omega
 exact key _ rfl
open Go.RowKit
def or3(a b c:Int):Int:=if a≠0 then a else if b≠0 then b else c
theorem NE(x y:Ed):GU x y=or3 (kO x.fr y.fr) (kO x.lb y.lb) (kO x.to y.to):=rfl

theorem NF(w:World)(g:Nat)(a b c:Int)(h:Blk w g 3 #[.int .i64 a,.int .i64 b,.int .i64 c]) :
  Calls Tryz.prog 92 #[.slice (some ⟨g,0,none⟩) 3 3] w (gB w (.int .i64 (or3 a b c))):=by
 have key:∀x,or3 a b c=x→Calls Tryz.prog 92 #[.slice (some ⟨g,0,none⟩) 3 3] w (gB w (.int .i64 x)):=by
  intro x hx;have c0:w.cell? ⟨g,0,none⟩=some (.int .i64 a):=h.cell 0;have c1:w.cell? ⟨g,1,none⟩=some (.int .i64 b):=h.cell 1;have c2:w.cell? ⟨g,2,none⟩=some (.int .i64 c):=h.cell 2;clear h;have HX:=hIz hx;clear hx;go_enter Tryz.func92,Tryz.ntmps92;go_wp2_with fail;go_loop [5,8] (fun _ i=>∃k:Nat,k≤3∧i=.int .i64 k∧Hid ((1≤k→a=0)∧(2≤k→b=0)∧(3≤k→c=0))) (fun _ i=>3-(intOf i).toNat)
  case atStart=>exact⟨0,by omega,rfl,hIz ⟨by omega,by omega,by omega⟩⟩
  case round =>
   obtain⟨k,hk,rfl,hz⟩:=hrel;have hk4:k=0∨k=1∨k=2∨k=3:=by omega
   rcases hk4 with rfl|rfl|rfl|rfl
   ·by_cases ha:a=0
    ·have HA:=hIz ha;have e:(a==0)=true:=by simpa using ha
     go_wp2;go_round
     case rel=>exact⟨1,by omega,rfl,hIz ⟨fun _=>HA.out,by omega,by omega⟩⟩
     case measure=>simp[intOf]
    ·have HA:=hIz ha;go_wp2;go_ret;refine⟨?_,rfl⟩;rw[← HX.out,or3,if_pos HA.out];rfl
   ·by_cases ha:b=0
    ·have HA:=hIz ha;go_wp2;go_round
     case rel=>exact⟨2,by omega,rfl,hIz ⟨fun _=>hz.out.1 (by omega),fun _=>HA.out,by omega⟩⟩
     case measure=>simp[intOf]
    ·have HA:=hIz ha;go_wp2;go_ret;refine⟨?_,rfl⟩;rw[← HX.out,or3,if_neg (by simp[hz.out.1 (by omega)]),if_pos HA.out];rfl
   ·by_cases ha:c=0
    ·have HA:=hIz ha;go_wp2;go_round
     case rel=>exact⟨3,by omega,rfl,hIz ⟨fun _=>hz.out.1 (by omega),fun _=>hz.out.2.1 (by omega),fun _=>HA.out⟩⟩
     case measure=>simp[intOf]
    ·have HA:=hIz ha;go_wp2;go_ret;refine⟨?_,rfl⟩;rw[← HX.out,or3,if_neg (by simp[hz.out.1 (by omega)]),if_neg (by simp[hz.out.2.1 (by omega)])];rfl
   ·go_wp2;go_ret;refine⟨?_,rfl⟩;rw[← HX.out,or3,if_neg (by simp[hz.out.1 (by omega)]),if_neg (by simp[hz.out.2.1 (by omega)]),hz.out.2.2 (by omega)];rfl
 exact key _ rfl

def SS(w:World)(v:Value)(e:Ending)(w':World):Prop:=e=.returned v∧∃q os,w'=Sort.grow (w.drewN q) os
theorem SS.below{w w':World}{v:Value}{e:Ending}(h:SS w v e w'):Below w.heap.size w w':=by
 obtain⟨-,q,os,rfl⟩:=h;refine⟨rfl,rfl,rfl,by simp[Sort.grow,World.drewN],fun k hk=>?_⟩;simp only[Sort.grow,World.drewN]
 rw[Array.getElem?_append_left hk]

theorem pU(x y:Ed)(w:World):Calls Tryz.prog 102 #[x.agg,y.agg] w (SS w (.int .i64 (GU x y))):=by
 obtain⟨a0,a1,a2⟩:=x;obtain⟨b0,b1,b2⟩:=y;rw[NE];dsimp only
 obtain⟨v0,e0⟩:∃v,kO a0 b0=v:=⟨_,rfl⟩;obtain⟨v1,e1⟩:∃v,kO a1 b1=v:=⟨_,rfl⟩;obtain⟨v2,e2⟩:∃v,kO a2 b2=v:=⟨_,rfl⟩;have H0:=fun W=>dP a0 b0 W
 have H1:=fun W=>dP a1 b1 W
 have H2:=fun W=>dP a2 b2 W
 rw[e0] at H0 ⊢;rw[e1] at H1 ⊢;rw[e2] at H2 ⊢;clear e0 e1 e2;have k0:=(Blk.new w 88 #[.string a0,.string a1,.string a2]).alloc (.cells #[.string b0,.string b1,.string b2] 88);have k1:=Blk.new (w.alloc (.cells #[.string a0,.string a1,.string a2] 88)) 88 #[.string b0,.string b1,.string b2];simp only[World.size_alloc] at k1
 have HK:=aI2 k0 k1;have hg:∀o,Sort.grow (w.drewN 1) #[.cells #[.string a0,.string a1,.string a2] 88,.cells #[.string b0,.string b1,.string b2] 88,o]=((w.alloc (.cells #[.string a0,.string a1,.string a2] 88)).alloc (.cells #[.string b0,.string b1,.string b2] 88)).drew.alloc o:=fun o=>by
  rw[Sort.alloc_eq_grow,Sort.alloc_eq_grow,Sort.alloc_eq_grow,Sort.grow_grow,Sort.drew_grow,Sort.grow_grow];rfl
 have HG:=hIz hg;clear k0 k1 hg;unfold Ed.agg;go_enter Tryz.func102,Tryz.ntmps102;go_upto_region 1 with (fail);generalize (w.alloc (.cells #[.string a0,.string a1,.string a2] 88)).alloc (.cells #[.string b0,.string b1,.string b2] 88)=W0 at HK HG ⊢;have c00:W0.cell? ⟨w.heap.size,0,none⟩=some (.string a0):=HK.out.1.cell 0;have c01:W0.cell? ⟨w.heap.size,1,none⟩=some (.string a1):=HK.out.1.cell 1;have c02:W0.cell? ⟨w.heap.size,2,none⟩=some (.string a2):=HK.out.1.cell 2;have c10:W0.cell? ⟨w.heap.size+1,0,none⟩=some (.string b0):=HK.out.2.cell 0;have c11:W0.cell? ⟨w.heap.size+1,1,none⟩=some (.string b1):=HK.out.2.cell 1;have c12:W0.cell? ⟨w.heap.size+1,2,none⟩=some (.string b2):=HK.out.2.cell 2;refine aT (fun w'=>w'.cell? ⟨w.heap.size,0,none⟩=some (.string a0)∧w'.cell? ⟨w.heap.size,1,none⟩=some (.string a1)∧w'.cell? ⟨w.heap.size,2,none⟩=some (.string a2)∧w'.cell? ⟨w.heap.size+1,0,none⟩=some (.string b0)∧w'.cell? ⟨w.heap.size+1,1,none⟩=some (.string b1)∧w'.cell? ⟨w.heap.size+1,2,none⟩=some (.string b2)) 18
  [(0,true),(1,true),(2,true),(3,true),(5,true),(6,true),(7,true),(8,true),(10,true),(11,true),(12,true),(13,true),(4,false),(9,false),(14,false),(15,false),(16,false),(17,true)] (by kernel_rfl) (by kernel_rfl) (fun _ _ d _ _ h=>by cases d <;> exact h) ⟨c00,c01,c02,c10,c11,c12⟩ ?_
 iterate 12 refine aC rfl ?_
 refine aM rfl rfl (fun K hK=>?_);go_simp;refine(H0 _).mono ?_;rintro e w1 ⟨rfl,rfl⟩;refine hK _ _ (fun _=>⟨c00,c01,c02,c10,c11,c12⟩) ?_;clear hK K;(try simp only[Act.put,gA,gS,gZ,sA,sZ,sS])
 refine aM rfl rfl (fun K hK=>?_);go_simp;refine(H1 _).mono ?_;rintro e w1 ⟨rfl,rfl⟩;refine hK _ _ (fun _=>⟨c00,c01,c02,c10,c11,c12⟩) ?_;clear hK K;(try simp only[Act.put,gA,gS,gZ,sA,sZ,sS])
 refine aM rfl rfl (fun K hK=>?_);go_simp;refine(H2 _).mono ?_;rintro e w1 ⟨rfl,rfl⟩;refine hK _ _ (fun _=>⟨c00,c01,c02,c10,c11,c12⟩) ?_;clear hK K;(try simp only[Act.put,gA,gS,gZ,sA,sZ,sS])
 have bA:Below W0.heap.size W0 (W0.drew.alloc (.cells #[.int .i64 v0,.int .i64 v1,.int .i64 v2] 3)):=by(repeat (first | exact Below.refl _ _ | apply Below.drew | refine Below.alloc ?_ (by first | exact Nat.le_refl _ | (simp;done) | (simp;omega)) _ | refine Below.setCell ?_ (by first | exact Nat.le_refl _ | (simp;done) | (simp;omega)) _))
 have up:∀w',Below W0.heap.size W0 w'→w'.cell? ⟨w.heap.size,0,none⟩=some (.string a0)∧w'.cell? ⟨w.heap.size,1,none⟩=some (.string a1)∧w'.cell? ⟨w.heap.size,2,none⟩=some (.string a2)∧w'.cell? ⟨w.heap.size+1,0,none⟩=some (.string b0)∧w'.cell? ⟨w.heap.size+1,1,none⟩=some (.string b1)∧w'.cell? ⟨w.heap.size+1,2,none⟩=some (.string b2):=fun w' hb=>by
  have u:=Upd.of_below hb (fun _=>False);have h1:=HK.out.1.upd u id;have h2:=HK.out.2.upd u id;exact⟨h1.cell 0,h1.cell 1,h1.cell 2,h2.cell 0,h2.cell 1,h2.cell 2⟩
 have SA:=hIz (up _ bA);have kA:=Blk.new W0.drew 3 #[.int .i64 v0,.int .i64 v1,.int .i64 v2];have HA:=hIz (NF _ _ v0 v1 v2 kA);clear up bA kA;refine aM rfl rfl (fun K hK=>?_);go_simp;refine hK _ _ (fun _=>SA.out) ?_;clear hK K;(try simp only[Act.put,gA,gS,gZ,sA,sZ,sS])
 refine aM rfl rfl (fun K hK=>?_);go_simp;refine HA.out.mono ?_;rintro e w1 ⟨rfl,rfl⟩;refine hK _ _ (fun _=>SA.out) ?_;clear hK K;(try simp only[Act.put,gA,gS,gZ,sA,sZ,sS])
 refine aC rfl ?_;refine aG ?_;go_wp2;go_ret;exact⟨rfl,1,_,(HG.out _).symm⟩
open Go.RowKit
def aE(N:List Txt):List Value:=N.map Value.string
def aR(E:List Ed):List Value:=E.flatMap Ed.cells
theorem fC(N:List Txt):(aE N).length=N.length*1:=by simp[aE]
theorem cU(E:List Ed):(aR E).length=E.length*3:=dL Ed.cells 3 (fun _=>rfl) E
theorem qV(N:List Txt):∀u∈aE N,u.oneCell'=true:=by
 intro u hu;obtain⟨f,_,rfl⟩:=List.mem_map.1 hu;rfl
theorem BR(E:List Ed):∀u∈aR E,u.oneCell'=true:=by
 intro u hu;obtain⟨f,_,hf⟩:=List.mem_flatMap.1 hu;simp[Ed.cells] at hf
 rcases hf with rfl|rfl|rfl <;> rfl
def fH(s:Txt):Prop:=s.size≤9223372036854775807
def BS(x:Ed):Prop:=fH x.fr∧fH x.lb∧fH x.to
theorem aX.txt{w:World}{A:Option Addr}{N:List Txt}(h:aX w A (aE N)){k:Nat}{s:Txt}(hk:N[k]?=some s) :
  ∃b o,A=some ⟨b,o,none⟩∧w.cell? ⟨b,o+k,none⟩=some (.string s):=h k (.string s) (by simp[aE,hk])
theorem aX.ed{w:World}{B:Option Addr}{E:List Ed}(h:aX w B (aR E)){k:Nat}{x:Ed}(hk:E[k]?=some x) :
  ∃b o,B=some ⟨b,o,none⟩∧w.cell? ⟨b,o+k*3,none⟩=some (.string x.fr)∧w.cell? ⟨b,o+k*3+1,none⟩=some (.string x.lb)∧w.cell? ⟨b,o+k*3+2,none⟩=some (.string x.to):=by
 have hg:=fun j (hj:j<3)=>cO Ed.cells 3 (fun _=>rfl) E k j x hk hj
 obtain⟨b,o,rfl,h0⟩:=h _ _ (hg 0 (by omega));obtain⟨b1,o1,e1,h1⟩:=h _ _ (hg 1 (by omega));obtain⟨b2,o2,e2,h2⟩:=h _ _ (hg 2 (by omega));injection e1 with e1;injection e1 with e1 e1';injection e2 with e2;injection e2 with e2 e2';subst e1;subst e1';subst e2;subst e2';exact⟨_,_,rfl,h0,h1,h2⟩

structure QQ(N:List Txt)(E:List Ed):Prop where
 n:N.length*16≤140737488355328
 e:E.length*48≤140737488355328
 tn:∀s∈N,fH s
 te:∀x∈E,BS x
structure lN(w:World)(A:Option Addr)(c:Nat)(B:Option Addr)(d:Nat)(N:List Txt)(E:List Ed):Prop where
 rn:aX w A (aE N)
 re:aX w B (aR E)
 hc:N.length≤c
 hd:E.length≤d
 fit:QQ N E
theorem lN.below{w w':World}{A B:Option Addr}{c d:Nat}{N:List Txt}{E:List Ed}(h:lN w A c B d N E)(hb:Below w.heap.size w w'):lN w' A c B d N E:=⟨h.rn.below hb,h.re.below hb,h.hc,h.hd,h.fit⟩
def cP(A:Option Addr)(n c:Nat)(B:Option Addr)(m d:Nat):Value:=.agg #[.slice A n c,.slice B m d]

def upB{α:Type}(lt:α→α→Bool):List α→Bool
 | []=>true
 | [_]=>true
 | a::b::l=>lt a b&&upB lt (b::l)
theorem iZ{α:Type}{lt:α→α→Bool}:∀(l:List α),upB lt l=true↔∀i a b,l[i]?=some a→l[i+1]?=some b→lt a b=true
 | []=>by simp[upB]
 | [x]=>by simp[upB]
 | x::y::l=>by
  have ih:=iZ (lt:=lt) (y::l);rw[upB,Bool.and_eq_true,ih];constructor
  ·rintro⟨h1,h2⟩ i a b ha hb;cases i with
   | zero =>
    simp at ha hb
    subst ha;subst hb;exact h1
   | succ i=>exact h2 i a b (by simpa using ha) (by simpa using hb)
  ·intro h;exact⟨h 0 x y rfl rfl,fun i a b ha hb=>h (i+1) a b (by simpa using ha) (by simpa using hb)⟩
theorem eR{α:Type}{lt:α→α→Bool}(hs:Sto lt):∀{l:List α},upB lt l=true→cT lt l
 | [],_=>.nil
 | [_],_=>List.pairwise_singleton _ _
 | x::y::l,h=>by
  rw[upB,Bool.and_eq_true] at h;have ih:=eR hs h.2;refine List.pairwise_cons.2 ⟨fun z hz=>?_,ih⟩;rcases List.mem_cons.1 hz with rfl|hz
  ·exact h.1
  ·exact hs.tr _ _ _ h.1 ((List.pairwise_cons.1 ih).1 z hz)
theorem fT{α:Type}{lt:α→α→Bool}:∀{l:List α},cT lt l→upB lt l=true
 | [],_=>rfl
 | [_],_=>rfl
 | x::y::l,h=>by
  obtain⟨h1,h2⟩:=List.pairwise_cons.1 h;rw[upB,h1 y (by simp),fT h2];rfl
theorem jT{α:Type}{lt:α→α→Bool}{l:List α}{i:Nat}{a b:α}(ha:l[i]?=some a)(hb:l[i+1]?=some b)(h:lt a b=false):upB lt l=false:=by
 cases e:upB lt l
 ·rfl
 ·rw[(iZ l).1 e i a b ha hb] at h;cases h

theorem zF(w:World)(A:Option Addr)(c:Nat)(N:List Txt)(h:aX w A (aE N))(_hc:N.length≤c)(hn:N.length*16≤140737488355328) :
  Calls Tryz.prog 100 #[.slice A N.length c,.func (.func 70) #[] #[]] w (Sam w (.bool (upB ltT N))):=by
 have HH:=hIz h;clear h;go_enter Tryz.func100,Tryz.ntmps100;go_wp2_with fail;go_loopw [5] (fun i wr=>∃k:Nat,k≤N.length∧i=.int .i64 ((k:Int)+1)∧Hid (Below w.heap.size w wr)∧Hid (∀j,j<k→∀a b,N[j]?=some a→N[j+1]?=some b→ltT a b=true)) (fun i _=>N.length+1-(intOf i).toNat)
 case atStart=>exact⟨0,Nat.zero_le _,rfl,hIz bR,hIz (fun j hj=>by omega)⟩
 case round =>
  obtain⟨k,hk,rfl,hb,hall⟩:=hrel;have hkw:IntKind.i64.wrap (k:Int)=(k:Int):=IntWalk.i64_in _ (by omega);have hkw2:IntKind.i64.wrap ((k:Int)+1+1)=(k:Int)+1+1:=IntWalk.i64_in _ (by omega);by_cases hlt:k+1<N.length
  ·have hltI:(k:Int)+1<(N.length:Int):=by omega
   have hltI2:(k:Int)<(N.length:Int):=by omega
   have ht:((k:Int)+1).toNat=k+1:=by omega
   have hn0:(0:Int)≤(k:Int)+1:=by omega
   have h0:=HH.out.below hb.out;obtain⟨x,hx⟩:∃x,N[k]?=some x:=⟨N[k],gEz _⟩;obtain⟨y,hy⟩:∃y,N[k+1]?=some y:=⟨N[k+1],gEz _⟩;obtain⟨ab,ao,rfl,x0⟩:=h0.txt hx;obtain⟨_,_,e1,y0⟩:=h0.txt hy;injection e1 with e1;injection e1 with e1 e2;subst e1;subst e2;have HXY:=aI2 hx hy;clear h0 hx hy;have b2':Below wr.heap.size wr wr.drew:=bR.drew;clear b2';go_upto_region 4 with (fail);refine aT (fun w'=>w'.cell? ⟨ab,ao+k,none⟩=some (.string x)∧w'.cell? ⟨ab,ao+(k+1),none⟩=some (.string y)) 12 [(0,true),(1,true),(2,true),(3,true),(4,true),(5,true),(6,true),(7,true),(8,true),(9,true),(10,false),(11,true)] (by kernel_rfl) (by kernel_rfl) (fun _ _ d _ _ h=>by cases d <;> exact h) ⟨x0,y0⟩ ?_
   iterate 10 refine aC rfl ?_
   refine aM rfl rfl (fun K hK=>?_);go_simp;refine(dP x y _).mono ?_;rintro e w2 ⟨rfl,rfl⟩;have b2:Below wr.heap.size wr wr.drew:=bR.drew;have hcmp:=iY x y;obtain⟨v,hv⟩:∃v,kO x y=v:=⟨_,rfl⟩;rw[hv] at hcmp ⊢;clear hv;refine hK _ _ (fun _=>⟨x0,y0⟩) ?_;clear hK K;(try simp only[Act.put,gA,gS,gZ,sA,sZ,sS])
   have HB:=hIz (tHn hb.out b2);have HC:=hIz hcmp;clear hcmp b2;by_cases hv:v<0
   ·have hv1:decide (0≤v)=false:=by simpa using hv
    have hlt2:ltT x y=true:=by rw[← HC.out];simpa using hv
    have HL:=hIz hlt2;clear hlt2;refine aC rfl ?_;refine aG ?_;go_wp2;go_roundw
    case rel=>exact⟨k+1,by omega,by go_num,HB,hIz (fun j hj a b ha hb=>by
     rcases Nat.lt_succ_iff_lt_or_eq.1 hj with h|rfl
     ·exact hall.out j h a b ha hb
     ·rw[HXY.out.1] at ha;rw[HXY.out.2] at hb;injection ha with ha;injection hb with hb;subst ha;subst hb;exact HL.out)⟩
    case measure=>simp[intOf];omega
   ·have hv1:decide (0≤v)=true:=by simpa using hv
    have hlt2:ltT x y=false:=by rw[← HC.out];simpa using hv
    have HL:=hIz hlt2;clear hlt2;refine aC rfl ?_;refine aG ?_;go_wp2;go_ret;exact⟨iG (jT HXY.out.1 HXY.out.2 HL.out).symm,HB.out⟩
  ·have hgeI:(N.length:Int)≤(k:Int)+1:=by omega
   go_wp2;go_ret;refine⟨iG ?_,hb.out⟩;refine((iZ N).2 (fun i a b ha hb'=>?_)).symm;have:=(gO.1 hb').1;exact hall.out i (by omega) a b ha hb'

theorem BT(w:World)(A:Option Addr)(c:Nat)(N:List Ed)(h:aX w A (aR N))(_hc:N.length≤c)(hn:N.length*48≤140737488355328) :
  Calls Tryz.prog 101 #[.slice A N.length c,.func (.func 102) #[] #[]] w (Sam w (.bool (upB ltE N))):=by
 have HH:=hIz h;clear h;go_enter Tryz.func101,Tryz.ntmps101;go_wp2_with fail;go_loopw [5] (fun i wr=>∃k:Nat,k≤N.length∧i=.int .i64 ((k:Int)+1)∧Hid (Below w.heap.size w wr)∧Hid (∀j,j<k→∀a b,N[j]?=some a→N[j+1]?=some b→ltE a b=true)) (fun i _=>N.length+1-(intOf i).toNat)
 case atStart=>exact⟨0,Nat.zero_le _,rfl,hIz bR,hIz (fun j hj=>by omega)⟩
 case round =>
  obtain⟨k,hk,rfl,hb,hall⟩:=hrel;have hkw:IntKind.i64.wrap (k:Int)=(k:Int):=IntWalk.i64_in _ (by omega);have hkw2:IntKind.i64.wrap ((k:Int)+1+1)=(k:Int)+1+1:=IntWalk.i64_in _ (by omega);by_cases hlt:k+1<N.length
  ·have hltI:(k:Int)+1<(N.length:Int):=by omega
   have hltI2:(k:Int)<(N.length:Int):=by omega
   have ht:((k:Int)+1).toNat=k+1:=by omega
   have hn0:(0:Int)≤(k:Int)+1:=by omega
   have h0:=HH.out.below hb.out;obtain⟨⟨x1,x2,x3⟩,hx⟩:∃x,N[k]?=some x:=⟨N[k],gEz _⟩;obtain⟨⟨y1,y2,y3⟩,hy⟩:∃y,N[k+1]?=some y:=⟨N[k+1],gEz _⟩;obtain⟨ab,ao,rfl,x0,x0',x0''⟩:=h0.ed hx;obtain⟨_,_,e1,y0,y0',y0''⟩:=h0.ed hy;injection e1 with e1;injection e1 with e1 e2;subst e1;subst e2;dsimp only at x0 x0' x0'' y0 y0' y0''
   have HXY:=aI2 hx hy;clear h0 hx hy;have b2':Below wr.heap.size wr wr.drew:=bR.drew;clear b2';go_upto_region 4 with (fail);refine aT (fun w'=>w'.cell? ⟨ab,ao+k*3,none⟩=some (.string x1)∧w'.cell? ⟨ab,ao+k*3+1,none⟩=some (.string x2)∧w'.cell? ⟨ab,ao+k*3+2,none⟩=some (.string x3)∧w'.cell? ⟨ab,ao+(k+1)*3,none⟩=some (.string y1)∧w'.cell? ⟨ab,ao+(k+1)*3+1,none⟩=some (.string y2)∧w'.cell? ⟨ab,ao+(k+1)*3+2,none⟩=some (.string y3)) 12 [(0,true),(1,true),(2,true),(3,true),(4,true),(5,true),(6,true),(7,true),(8,true),(9,true),(10,false),(11,true)] (by kernel_rfl) (by kernel_rfl) (fun _ _ d _ _ h=>by cases d <;> exact h) ⟨x0,x0',x0'',y0,y0',y0''⟩ ?_
   iterate 10 refine aC rfl ?_
   refine aM rfl rfl (fun K hK=>?_);go_simp;refine(pU ⟨x1,x2,x3⟩ ⟨y1,y2,y3⟩ _).mono ?_;intro e w2 hL;have b2:Below wr.heap.size wr w2:=(Below.refl wr.heap.size wr).drew.trans hL.below;obtain⟨rfl,-⟩:=hL;have hcmp:=vT ⟨x1,x2,x3⟩ ⟨y1,y2,y3⟩;obtain⟨v,hv⟩:∃v,GU ⟨x1,x2,x3⟩ ⟨y1,y2,y3⟩=v:=⟨_,rfl⟩;rw[hv] at hcmp ⊢;clear hv;have sb:w2.cell? ⟨ab,ao+k*3,none⟩=some (.string x1)∧w2.cell? ⟨ab,ao+k*3+1,none⟩=some (.string x2)∧w2.cell? ⟨ab,ao+k*3+2,none⟩=some (.string x3)∧w2.cell? ⟨ab,ao+(k+1)*3,none⟩=some (.string y1)∧w2.cell? ⟨ab,ao+(k+1)*3+1,none⟩=some (.string y2)∧w2.cell? ⟨ab,ao+(k+1)*3+2,none⟩=some (.string y3):=by
    have hbl:ab<wr.heap.size:=World.block_lt_of_cell? wr _ x0;have cc:=fun j=>b2.cell (p:=⟨ab,j,none⟩) hbl
    exact⟨(cc _).trans x0,(cc _).trans x0',(cc _).trans x0'',(cc _).trans y0,(cc _).trans y0',(cc _).trans y0''⟩
   refine hK _ _ (fun _=>sb) ?_;clear hK K;(try simp only[Act.put,gA,gS,gZ,sA,sZ,sS])
   have HB:=hIz (tHn hb.out b2);have HC:=hIz hcmp;clear hcmp b2;by_cases hv:v<0
   ·have hv1:decide (0≤v)=false:=by simpa using hv
    have hlt2:ltE ⟨x1,x2,x3⟩ ⟨y1,y2,y3⟩=true:=by rw[← HC.out];simpa using hv
    have HL:=hIz hlt2;clear hlt2;refine aC rfl ?_;refine aG ?_;go_wp2;go_roundw
    case rel=>exact⟨k+1,by omega,by go_num,HB,hIz (fun j hj a b ha hb=>by
     rcases Nat.lt_succ_iff_lt_or_eq.1 hj with h|rfl
     ·exact hall.out j h a b ha hb
     ·rw[HXY.out.1] at ha;rw[HXY.out.2] at hb;injection ha with ha;injection hb with hb;subst ha;subst hb;exact HL.out)⟩
    case measure=>simp[intOf];omega
   ·have hv1:decide (0≤v)=true:=by simpa using hv
    have hlt2:ltE ⟨x1,x2,x3⟩ ⟨y1,y2,y3⟩=false:=by rw[← HC.out];simpa using hv
    have HL:=hIz hlt2;clear hlt2;refine aC rfl ?_;refine aG ?_;go_wp2;go_ret;exact⟨iG (jT HXY.out.1 HXY.out.2 HL.out).symm,HB.out⟩
  ·have hgeI:(N.length:Int)≤(k:Int)+1:=by omega
   go_wp2;go_ret;refine⟨iG ?_,hb.out⟩;refine((iZ N).2 (fun i a b ha hb'=>?_)).symm;have:=(gO.1 hb').1;exact hall.out i (by omega) a b ha hb'
end Go.Proofs.YteffnejneoocgaaGreatDoor
