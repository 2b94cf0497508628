/- Base words over memory for the proofs of this seat: which blocks may have turned (Upd), a block known whole (Blk), a map known by its entries (MapIs). Nothing here names the program; Texts and edges in order: the plain law (no program in sight); The document's answer of layer 16: two rising lists as one (plain); A region that draws its order, walked in one order of the prover's choice: operations that yield the same value in every world of a class S are taken first; the others come up alone; S holds behind each of those but the last. Nothing here names the program; A region that draws its order: some stable operations are taken first; of the rest every order is walked. Nothing here names the program; A region that draws its order, walked in one order: a guarded operation that comes up alone. Nothing here names the program; Rows of cells in memory: read, copied, appended to; Edges: a name's letter, a name, a label; texts and edges held one against the other; Edges: edges held one against the other; lists that rise; Edges: a graph as a value in memory; lists that rise; names; Edges: are all names, all labels? Are all ends among the nodes?. -/
import Derived.WalkKit
import Derived.WalkSpells
import Derived.Maps.OwnOps
import Derived.Maps.AppendAt
import Derived.Deep.Draws
import Derived.Lib.Bytealg
import Derived.OrdersHeld
import Derived.Tactics
import Derived.KernelRfl
import Derived.Deep.MidRow
import Derived.Test.YtddffnonlmfhdaaGreatDoorProg
import Derived.WalkLawsBesides
import Derived.Deep.QuietTactic
import Derived.Deep.Cut
import Derived.WalkMore
import Derived.WalkSmall
import Derived.Laws.MakeOwn
import Derived.BigQuiet
import Derived.StillTailTactics
import Derived.Carry
import Derived.Lib.Hide
import Derived.DeepKeys4
import Derived.IntWalk
import Derived.Laws.Externs
import Derived.Sort.Grow
set_option linter.unusedVariables false
set_option linter.unusedSimpArgs false
set_option maxHeartbeats 16000000
set_option maxRecDepth 100000
namespace Go.Proofs.YtddffnonlmfhdaaGreatDoor
abbrev Z64:Array Value:=#[.int .u64 0,.int .u64 0,.int .u64 0,.int .u64 0,.int .u64 0,.int .u64 0,.int .u64 0,.int .u64 0,.int .u64 0,.int .u64 0,.int .u64 0,.int .u64 0,.int .u64 0,.int .u64 0,.int .u64 0,.int .u64 0,.int .u64 0,.int .u64 0,.int .u64 0,.int .u64 0,.int .u64 0,.int .u64 0,.int .u64 0,.int .u64 0,.int .u64 0,.int .u64 0,.int .u64 0,.int .u64 0,.int .u64 0,.int .u64 0,.int .u64 0,.int .u64 0,.int .u64 0,.int .u64 0,.int .u64 0,.int .u64 0,.int .u64 0,.int .u64 0,.int .u64 0,.int .u64 0,.int .u64 0,.int .u64 0,.int .u64 0,.int .u64 0,.int .u64 0,.int .u64 0,.int .u64 0,.int .u64 0,.int .u64 0,.int .u64 0,.int .u64 0,.int .u64 0,.int .u64 0,.int .u64 0,.int .u64 0,.int .u64 0,.int .u64 0,.int .u64 0,.int .u64 0,.int .u64 0,.int .u64 0,.int .u64 0,.int .u64 0,.int .u64 0]
theorem aI2 {p0 p1:Prop}(h0:p0)(h1:p1):Go.RowKit.Hid (p0∧p1):=Lib.hid ⟨h0,h1⟩
theorem aI3 {p0 p1 p2:Prop}(h0:p0)(h1:p1)(h2:p2):Go.RowKit.Hid (p0∧p1∧p2):=Lib.hid ⟨h0,h1,h2⟩
theorem aI4 {p0 p1 p2 p3:Prop}(h0:p0)(h1:p1)(h2:p2)(h3:p3):Go.RowKit.Hid (p0∧p1∧p2∧p3):=Lib.hid ⟨h0,h1,h2,h3⟩
theorem aI5 {p0 p1 p2 p3 p4:Prop}(h0:p0)(h1:p1)(h2:p2)(h3:p3)(h4:p4):Go.RowKit.Hid (p0∧p1∧p2∧p3∧p4):=Lib.hid ⟨h0,h1,h2,h3,h4⟩
theorem aI6 {p0 p1 p2 p3 p4 p5:Prop}(h0:p0)(h1:p1)(h2:p2)(h3:p3)(h4:p4)(h5:p5):Go.RowKit.Hid (p0∧p1∧p2∧p3∧p4∧p5):=Lib.hid ⟨h0,h1,h2,h3,h4,h5⟩
theorem aI7 {p0 p1 p2 p3 p4 p5 p6:Prop}(h0:p0)(h1:p1)(h2:p2)(h3:p3)(h4:p4)(h5:p5)(h6:p6):Go.RowKit.Hid (p0∧p1∧p2∧p3∧p4∧p5∧p6):=Lib.hid ⟨h0,h1,h2,h3,h4,h5,h6⟩
theorem aI8 {p0 p1 p2 p3 p4 p5 p6 p7:Prop}(h0:p0)(h1:p1)(h2:p2)(h3:p3)(h4:p4)(h5:p5)(h6:p6)(h7:p7):Go.RowKit.Hid (p0∧p1∧p2∧p3∧p4∧p5∧p6∧p7):=Lib.hid ⟨h0,h1,h2,h3,h4,h5,h6,h7⟩
theorem aI9 {p0 p1 p2 p3 p4 p5 p6 p7 p8:Prop}(h0:p0)(h1:p1)(h2:p2)(h3:p3)(h4:p4)(h5:p5)(h6:p6)(h7:p7)(h8:p8):Go.RowKit.Hid (p0∧p1∧p2∧p3∧p4∧p5∧p6∧p7∧p8):=Lib.hid ⟨h0,h1,h2,h3,h4,h5,h6,h7,h8⟩
theorem aI10 {p0 p1 p2 p3 p4 p5 p6 p7 p8 p9:Prop}(h0:p0)(h1:p1)(h2:p2)(h3:p3)(h4:p4)(h5:p5)(h6:p6)(h7:p7)(h8:p8)(h9:p9):Go.RowKit.Hid (p0∧p1∧p2∧p3∧p4∧p5∧p6∧p7∧p8∧p9):=Lib.hid ⟨h0,h1,h2,h3,h4,h5,h6,h7,h8,h9⟩
theorem aI11 {p0 p1 p2 p3 p4 p5 p6 p7 p8 p9 p10:Prop}(h0:p0)(h1:p1)(h2:p2)(h3:p3)(h4:p4)(h5:p5)(h6:p6)(h7:p7)(h8:p8)(h9:p9)(h10:p10):Go.RowKit.Hid (p0∧p1∧p2∧p3∧p4∧p5∧p6∧p7∧p8∧p9∧p10):=Lib.hid ⟨h0,h1,h2,h3,h4,h5,h6,h7,h8,h9,h10⟩
theorem aI12 {p0 p1 p2 p3 p4 p5 p6 p7 p8 p9 p10 p11:Prop}(h0:p0)(h1:p1)(h2:p2)(h3:p3)(h4:p4)(h5:p5)(h6:p6)(h7:p7)(h8:p8)(h9:p9)(h10:p10)(h11:p11):Go.RowKit.Hid (p0∧p1∧p2∧p3∧p4∧p5∧p6∧p7∧p8∧p9∧p10∧p11):=Lib.hid ⟨h0,h1,h2,h3,h4,h5,h6,h7,h8,h9,h10,h11⟩
theorem aI13 {p0 p1 p2 p3 p4 p5 p6 p7 p8 p9 p10 p11 p12:Prop}(h0:p0)(h1:p1)(h2:p2)(h3:p3)(h4:p4)(h5:p5)(h6:p6)(h7:p7)(h8:p8)(h9:p9)(h10:p10)(h11:p11)(h12:p12):Go.RowKit.Hid (p0∧p1∧p2∧p3∧p4∧p5∧p6∧p7∧p8∧p9∧p10∧p11∧p12):=Lib.hid ⟨h0,h1,h2,h3,h4,h5,h6,h7,h8,h9,h10,h11,h12⟩
theorem aI14 {p0 p1 p2 p3 p4 p5 p6 p7 p8 p9 p10 p11 p12 p13:Prop}(h0:p0)(h1:p1)(h2:p2)(h3:p3)(h4:p4)(h5:p5)(h6:p6)(h7:p7)(h8:p8)(h9:p9)(h10:p10)(h11:p11)(h12:p12)(h13:p13):Go.RowKit.Hid (p0∧p1∧p2∧p3∧p4∧p5∧p6∧p7∧p8∧p9∧p10∧p11∧p12∧p13):=Lib.hid ⟨h0,h1,h2,h3,h4,h5,h6,h7,h8,h9,h10,h11,h12,h13⟩
theorem aI15 {p0 p1 p2 p3 p4 p5 p6 p7 p8 p9 p10 p11 p12 p13 p14:Prop}(h0:p0)(h1:p1)(h2:p2)(h3:p3)(h4:p4)(h5:p5)(h6:p6)(h7:p7)(h8:p8)(h9:p9)(h10:p10)(h11:p11)(h12:p12)(h13:p13)(h14:p14):Go.RowKit.Hid (p0∧p1∧p2∧p3∧p4∧p5∧p6∧p7∧p8∧p9∧p10∧p11∧p12∧p13∧p14):=Lib.hid ⟨h0,h1,h2,h3,h4,h5,h6,h7,h8,h9,h10,h11,h12,h13,h14⟩
theorem aI16 {p0 p1 p2 p3 p4 p5 p6 p7 p8 p9 p10 p11 p12 p13 p14 p15:Prop}(h0:p0)(h1:p1)(h2:p2)(h3:p3)(h4:p4)(h5:p5)(h6:p6)(h7:p7)(h8:p8)(h9:p9)(h10:p10)(h11:p11)(h12:p12)(h13:p13)(h14:p14)(h15:p15):Go.RowKit.Hid (p0∧p1∧p2∧p3∧p4∧p5∧p6∧p7∧p8∧p9∧p10∧p11∧p12∧p13∧p14∧p15):=Lib.hid ⟨h0,h1,h2,h3,h4,h5,h6,h7,h8,h9,h10,h11,h12,h13,h14,h15⟩
theorem hIz {p:Prop}(h:p):Go.RowKit.Hid p:=Lib.hid h
theorem gEz {α:Type _}{l:List α}{i:Nat}(h:i<l.length):l[i]?=some l[i]:=List.getElem?_eq_getElem h
theorem gO {α:Type _}{l:List α}{i:Nat}{a:α}:l[i]?=some a↔∃ h:i<l.length,l[i]=a:=List.getElem?_eq_some_iff
theorem mG {α:Type _}{l:List α}{i:Nat}{a:α}(h:l[i]?=some a):a∈l:=List.mem_of_getElem? h
theorem bR {B:Nat}{w:World}:Go.RowKit.Below B w w:=Go.RowKit.Below.refl _ _
theorem gA{α:Type _}{l:List α}{i:Nat}(h:i<l.toArray.size):l.toArray[i]=l[i]'h:=rfl
theorem gS{α:Type _}{a:α}{xs:List α}{i:Nat}(h:i+1<(a::xs).length):(a::xs)[i+1]=xs[i]'(Nat.lt_of_succ_lt_succ h):=rfl
theorem gZ{α:Type _}{a:α}{xs:List α}(h:0<(a::xs).length):(a::xs)[0]=a:=rfl
theorem sA{α:Type _}{l:List α}{i:Nat}{a:α}:l.toArray.setIfInBounds i a=(l.set i a).toArray:=List.setIfInBounds_toArray ..
theorem sZ{α:Type _}{x:α}{xs:List α}{a:α}:(x::xs).set 0 a=a::xs:=rfl
theorem sS{α:Type _}{x:α}{xs:List α}{n:Nat}{a:α}:(x::xs).set (n+1) a=x::xs.set n a:=rfl
open Go.RowKit
structure Upd(F:Nat→Prop)(w w':World):Prop where
 os:w'.os=w.os
 tape:w'.tape=w.tape
 output:w'.output=w.output
 size:w.heap.size≤w'.heap.size
 block:∀k,k<w.heap.size→¬F k→w'.heap[k]?=w.heap[k]?

theorem Upd.refl(F:Nat→Prop)(w:World):Upd F w w:=⟨rfl,rfl,rfl,Nat.le_refl _,fun _ _ _=>rfl⟩
theorem Upd.trans{F F':Nat→Prop}{a b c:World}(h:Upd F a b)(k:Upd F' b c)(hF:∀i,F' i→F i∨a.heap.size≤i):Upd F a c:=
 ⟨k.os.trans h.os,k.tape.trans h.tape,k.output.trans h.output,Nat.le_trans h.size k.size,fun i hi hn =>
  (k.block i (Nat.lt_of_lt_of_le hi h.size) (fun hf=>by rcases hF i hf with h1 | h1;exact hn h1;omega)).trans (h.block i hi hn)⟩
theorem Upd.mono{F F':Nat→Prop}{a b:World}(h:Upd F a b)(hF:∀i,i<a.heap.size→F i→F' i):Upd F' a b:=
 ⟨h.os,h.tape,h.output,h.size,fun i hi hn=>h.block i hi (fun hf=>hn (hF i hi hf))⟩
theorem Upd.drew{F:Nat→Prop}{a w:World}(h:Upd F a w):Upd F a w.drew:=⟨h.os,h.tape,h.output,h.size,h.block⟩
theorem Upd.drewN{F:Nat→Prop}{a w:World}(h:Upd F a w)(n:Nat):Upd F a (w.drewN n):=⟨h.os,h.tape,h.output,h.size,h.block⟩
theorem Upd.alloc{F:Nat→Prop}{a w:World}(h:Upd F a w)(o:Obj):Upd F a (w.alloc o):=
 ⟨h.os,h.tape,h.output,by have:=h.size;simp;omega,fun i hi hn=>(Below.heap_alloc w o i (by have:=h.size;omega)).trans (h.block i hi hn)⟩
theorem Upd.setCell{F:Nat→Prop}{a w:World}(h:Upd F a w){p:Addr}(hp:F p.block∨a.heap.size≤p.block)(u:Value):Upd F a (w.setCell p u):=
 ⟨h.os,h.tape,h.output,by have:=h.size;simp[World.setCell];omega,fun i hi hn=>(Below.heap_setCell w p u i (by
  rintro rfl;rcases hp with h1|h1;exact hn h1;omega)).trans (h.block i hi hn)⟩
theorem Upd.grown{F:Nat→Prop}{a w w':World}{row:Option Nat}(h:Upd F a w)(hg:w.grownBy w' row)(hr:∀k,row=some k→F k∨a.heap.size≤k):Upd F a w':=
 ⟨hg.os.trans h.os,hg.tape.trans h.tape,hg.output.trans h.output,Nat.le_trans h.size hg.size,fun i hi hn =>
  (hg.block i (Nat.lt_of_lt_of_le hi h.size) (fun e=>by rcases hr i e.symm with h1 | h1;exact hn h1;omega)).trans (h.block i hi hn)⟩
theorem Upd.below{F:Nat→Prop}{B:Nat}{w w':World}(h:Upd F w w')(hF:∀i,i<w.heap.size→F i→B≤i)(hB:B≤w.heap.size):Below B w w':=
 ⟨h.os,h.tape,h.output,h.size,fun k hk=>h.block k (by omega) (fun hf=>by have:=hF k (by omega) hf;omega)⟩
theorem Upd.of_below{w w':World}(h:Below w.heap.size w w')(F:Nat→Prop):Upd F w w':=⟨h.os,h.tape,h.output,h.size,fun k hk _=>h.block k hk⟩
theorem Upd.of_grown{w w':World}{row:Option Nat}(hg:w.grownBy w' row):Upd (fun k=>row=some k) w w':=
 ⟨hg.os,hg.tape,hg.output,hg.size,fun i hi hn=>hg.block i hi (fun e=>hn e.symm)⟩
theorem Upd.cell{F:Nat→Prop}{w w':World}(h:Upd F w w'){p:Addr}(hp:p.block<w.heap.size)(hn:¬F p.block):w'.cell? p=w.cell? p:=
 World.cell?_of_block (w:=w) (h.block p.block hp hn)
theorem Upd.to_grown{w w':World}{F:Nat→Prop}{row:Option Nat}(h:Upd F w w')(hF:∀i,i<w.heap.size→F i→row=some i):w.grownBy w' row:=
 ⟨h.os,h.tape,h.output,h.size,fun i hi hn=>h.block i hi (fun hf=>hn (hF i hi hf).symm)⟩

def Blk(w:World)(g:Nat)(t:TypeId)(cs:Array Value):Prop:=w.heap[g]?=some (.cells cs t (0,0))
section
variable {w w':World} {g:Nat} {t:TypeId} {cs:Array Value}
theorem Blk.lt(h:Blk w g t cs):g<w.heap.size:=(Array.getElem?_eq_some_iff.1 h).1
theorem Blk.cell(h:Blk w g t cs)(i:Nat):w.cell? ⟨g,i,none⟩=cs[i]?:=cell_of_row w g i cs t (0,0) h
theorem Blk.frozen(h:Blk w g t cs)(i:Nat):w.frozen? ⟨g,i,none⟩=false:=by
 unfold Blk at h;simp[World.frozen?,h]
theorem Blk.new(w:World)(t:TypeId)(cs:Array Value):Blk (w.alloc (.cells cs t)) w.heap.size t cs:=heap_alloc_new w _
theorem Blk.drew(h:Blk w g t cs):Blk w.drew g t cs:=h
theorem Blk.alloc(h:Blk w g t cs)(o:Obj):Blk (w.alloc o) g t cs:=(Below.heap_alloc w o g h.lt).trans h
theorem Blk.set(h:Blk w g t cs)(i:Nat)(u:Value):Blk (w.setCell ⟨g,i,none⟩ u) g t (cs.setIfInBounds i u):=by
 unfold Blk at h ⊢;simp[World.setCell,Array.getElem?_modify,h]
theorem Blk.upd{F:Nat→Prop}(h:Blk w g t cs)(hb:Upd F w w')(hg:¬F g):Blk w' g t cs:=(hb.block g h.lt hg).trans h
theorem Blk.grown{row:Option Nat}(h:Blk w g t cs)(hb:w.grownBy w' row)(hg:some g≠row):Blk w' g t cs:=(hb.block g h.lt hg).trans h
end
theorem aA{w w':World}{F:Nat→Prop}{base e size n:Nat}{v:Value}{xs:List Value}(h:w.ownsRow base e size v n xs)(hu:Upd F w w')(hn:∀k,v.ownBlock=some k→¬F k):w'.ownsRow base e size v n xs:=by
 refine⟨h.1,?_⟩;rcases h.2 with h2|⟨g,cap,cur,rfl,hb,hg,r⟩
 ·exact Or.inl h2
 ·exact Or.inr ⟨g,cap,cur,rfl,hb,by rw[hu.block g (Array.getElem?_eq_some_iff.1 hg).1 (hn g rfl)];exact hg,r⟩
theorem aJ{w:World}{base base' e size n:Nat}{v:Value}{xs:List Value}(h:w.ownsRow base e size v n xs)(hb:∀k,v.ownBlock=some k→base'≤k):w.ownsRow base' e size v n xs:=by
 refine⟨h.1,?_⟩;rcases h.2 with h2|⟨g,cap,cur,rfl,_,hg,r⟩
 ·exact Or.inl h2
 ·exact Or.inr ⟨g,cap,cur,rfl,hb g rfl,hg,r⟩

def cX(w:World)(P:Program)(k:TypeId)(r:Nat)(kv:List (Value × Value)):Prop:=
 ∃es clock,w.heap[r]?=some (.map es clock)∧es.toList.map (fun e=>(e.key,e.val))=kv∧(∀p∈kv,∃l,keyOf P k p.1=some l)∧(kv.map Prod.fst).Nodup

section
variable {w w':World} {P:Program} {k:TypeId} {r:Nat} {kv:List (Value × Value)}
theorem cX.lt(h:cX w P k r kv):r<w.heap.size:=by
 obtain⟨es,clock,hb,_⟩:=h;exact(Array.getElem?_eq_some_iff.1 hb).1
theorem cX.made(w:World)(P:Program)(k:TypeId):cX (w.alloc (.map #[] 0)) P k w.heap.size []:=
 ⟨#[],0,(MapKept.heap_alloc w _).1,rfl,by simp,by simp⟩
theorem cX.upd{F:Nat→Prop}(h:cX w P k r kv)(hb:Upd F w w')(hg:¬F r):cX w' P k r kv:=by
 have hlt:=h.lt;obtain⟨es,clock,hh,rest⟩:=h;exact⟨es,clock,(hb.block r hlt hg).trans hh,rest⟩
theorem cX.alloc(h:cX w P k r kv)(o:Obj):cX (w.alloc o) P k r kv:=h.upd (F:=fun _=>False) ((Upd.refl _ w).alloc o) id
theorem cX.drew(h:cX w P k r kv):cX w.drew P k r kv:=h
theorem sG{kv:List (Value × Value)}(h:(kv.map Prod.fst).Nodup){key v v':Value}(h1:(key,v)∈kv)(h2:(key,v')∈kv):v=v':=by
 induction kv with
 | nil=>cases h1
 | cons p kv ih =>
  simp only[List.map_cons,List.nodup_cons] at h
  rcases List.mem_cons.1 h1 with e1|e1 <;> rcases List.mem_cons.1 h2 with e2|e2
  ·subst e1;injection e2 with _ e2;exact e2.symm
  ·exact absurd (List.mem_map.2 ⟨_,e2,by rw[← e1]⟩) h.1
  ·exact absurd (List.mem_map.2 ⟨_,e1,by rw[← e2]⟩) h.1
  ·exact ih h.2 e1 e2

theorem cX.look_hit(h:cX w P k r kv)(K:Maps.Keyed P k){t e:TypeId}(ht:P.underlying t=some (.map k e)){key v:Value}(hm:(key,v)∈kv)(ok:Bool) :
  (Instr.lookup t (.map (some r)) key ok).run P w=.ok (if ok then .tuple #[v,.bool true] else v) w:=by
 obtain⟨es,clock,hb,rfl,hk,hn⟩:=h;obtain⟨l,hl⟩:=hk _ hm;have hes:∀e∈es.toList,∃l,keyOf P k e.key=some l:=fun e he=>hk (e.key,e.val) (List.mem_map.2 ⟨e,he,rfl⟩)
 rcases K.find w hl es.toList hes with ⟨_,h2⟩|⟨j,e0,h1,h2,h3⟩
 ·obtain⟨e,he,heq⟩:=List.mem_map.1 hm;exact absurd (by injection heq) (h2 e he)
 ·have hv:e0.val=v:=sG hn (List.mem_map.2 ⟨e0,mG h2,by rw[h3]⟩) hm;subst hv;cases ok <;> simp[Instr.lookup,run_underlying ht,MapKept.run_getObj_map hb,K.check w _ hl,h1,Result.andThen]

theorem cX.look_miss(h:cX w P k r kv)(K:Maps.Keyed P k){t e:TypeId}(ht:P.underlying t=some (.map k e)){key z:Value}(hkey:∃l,keyOf P k key=some l)(hm:∀p∈kv,p.1≠key)
  (hz:(zeroValue e).run P w=.ok z w) (ok:Bool) :
  (Instr.lookup t (.map (some r)) key ok).run P w=.ok (if ok then .tuple #[z,.bool false] else z) w:=by
 obtain⟨es,clock,hb,rfl,hk,hn⟩:=h;obtain⟨l,hl⟩:=hkey;have hes:∀e∈es.toList,∃l,keyOf P k e.key=some l:=fun e he=>hk (e.key,e.val) (List.mem_map.2 ⟨e,he,rfl⟩)
 rcases K.find w hl es.toList hes with ⟨h1,h2⟩|⟨j,e0,h1,h2,h3⟩
 ·cases ok <;> simp[Instr.lookup,run_underlying ht,MapKept.run_getObj_map hb,K.check w _ hl,h1,hz,Result.andThen]
 ·exact absurd h3 (hm (e0.key,e0.val) (List.mem_map.2 ⟨e0,mG h2,rfl⟩))

theorem cX.put_miss(h:cX w P k r kv)(K:Maps.Keyed P k){t e:TypeId}(ht:P.underlying t=some (.map k e)){key:Value}(v:Value)(hkey:∃l,keyOf P k key=some l)(hm:∀p∈kv,p.1≠key) :
  ∃w',(Instr.mapUpdate t (.map (some r)) key v).run P w=.ok () w'∧cX w' P k r (kv++[(key,v)])∧w.grownBy w' (some r)∧w'.heap.size=w.heap.size:=by
 obtain⟨es,clock,hb,rfl,hk,hn⟩:=h;obtain⟨l,hl⟩:=hkey;have hes:∀e∈es.toList,∃l,keyOf P k e.key=some l:=fun e he=>hk (e.key,e.val) (List.mem_map.2 ⟨e,he,rfl⟩)
 rcases K.find w hl es.toList hes with ⟨h1,h2⟩|⟨j,e0,h1,h2,h3⟩
 ·refine⟨ChangeMaps.setBlock w r (.map (es.push ⟨key,v,clock⟩) (clock+1)),by simp[Instr.mapUpdate,run_underlying ht,MapKept.run_getObj_map hb,K.check w false hl,h1,MapKept.run_setObj_map _ hb,Result.andThen,ChangeMaps.setBlock],
   ⟨_,_,ChangeMaps.heap_setBlock_same hb _,by simp,?_,?_⟩,⟨rfl,rfl,rfl,by simp[ChangeMaps.setBlock],fun i _ hi=>ChangeMaps.heap_setBlock_other hb _ (fun e=>hi (by rw[e]))⟩,by simp[ChangeMaps.setBlock]⟩
  ·intro p hp;rcases List.mem_append.1 hp with hp|hp
   ·exact hk p hp
   ·obtain rfl:=List.mem_singleton.1 hp;exact⟨l,hl⟩
  ·rw[List.map_append,List.nodup_append];refine⟨hn,by simp,?_⟩;intro a ha b hb' e;simp only[List.map_cons,List.map_nil,List.mem_singleton] at hb'
   subst hb';obtain⟨p,hp,rfl⟩:=List.mem_map.1 ha;exact hm p hp e
 ·exact absurd h3 (hm (e0.key,e0.val) (List.mem_map.2 ⟨e0,mG h2,rfl⟩))
end
theorem cX.put_hit{w:World}{P:Program}{k:TypeId}{r:Nat}{kv:List (Value × Value)}(h:cX w P k r kv)(K:Maps.Keyed P k){t e:TypeId}(ht:P.underlying t=some (.map k e)){key v0:Value}(v:Value)(hm:(key,v0)∈kv) :
  ∃w' j,(Instr.mapUpdate t (.map (some r)) key v).run P w=.ok () w'∧kv[j]?=some (key,v0)∧cX w' P k r (kv.set j (key,v))∧w.grownBy w' (some r)∧w'.heap.size=w.heap.size:=by
 obtain⟨es,clock,hb,rfl,hk,hn⟩:=h;obtain⟨l,hl⟩:=hk _ hm;have hes:∀e∈es.toList,∃l,keyOf P k e.key=some l:=fun e he=>hk (e.key,e.val) (List.mem_map.2 ⟨e,he,rfl⟩)
 rcases K.find w hl es.toList hes with ⟨_,h2⟩|⟨j,e0,h1,h2,h3⟩
 ·obtain⟨e,he,heq⟩:=List.mem_map.1 hm;exact absurd (by injection heq) (h2 e he)
 ·have hv:e0.val=v0:=sG hn (List.mem_map.2 ⟨e0,mG h2,by rw[h3]⟩) hm;subst hv;subst h3;have hj:es[j]?=some e0:=by simpa using h2
  have hjl:j<es.size:=(Array.getElem?_eq_some_iff.1 hj).1;have hje:es[j]=e0:=(Array.getElem?_eq_some_iff.1 hj).2;refine⟨ChangeMaps.setBlock w r (.map (es.modify j fun e=>{ e with key:=e0.key,val:=v }) clock),j,
   by simp[Instr.mapUpdate,run_underlying ht,MapKept.run_getObj_map hb,K.check w false hl,h1,hj,K.stays w hl,MapKept.run_setObj_map _ hb,Result.andThen,ChangeMaps.setBlock],by simp[hj],
   ⟨_,_,ChangeMaps.heap_setBlock_same hb _,?_,?_,?_⟩,⟨rfl,rfl,rfl,by simp[ChangeMaps.setBlock],fun i _ hi=>ChangeMaps.heap_setBlock_other hb _ (fun e=>hi (by rw[e]))⟩,by simp[ChangeMaps.setBlock]⟩
  ·apply List.ext_getElem?
   intro i;simp only[List.getElem?_map,Array.getElem?_toList,Array.getElem?_modify,List.getElem?_set,List.length_map,Array.length_toList]
   by_cases hij:j=i
   ·subst hij;simp[hjl]
   ·simp[hij]
  ·intro p hp;rcases List.mem_or_eq_of_mem_set hp with hp|rfl
   ·exact hk p hp
   ·exact⟨l,hl⟩
  ·have:((List.map (fun e=>(e.key,e.val)) es.toList).set j (e0.key,v)).map Prod.fst=(List.map (fun e=>(e.key,e.val)) es.toList).map Prod.fst:=by
    apply List.ext_getElem?
    intro i;simp only[List.getElem?_map,List.getElem?_set,Array.getElem?_toList,List.length_map,Array.length_toList]
    by_cases hij:j=i
    ·subst hij;simp[hjl,hje]
    ·simp[hij]
   rw[this];exact hn

theorem wpList_append_run{P:Program}{ops:Array Oper}{rest:List Oper}{o:Oper}{a:Act}{Q:Exit→Act→World→Prop}{w w':World}{v v2 v':Value}(hgd:o.guard=none)(s x:Operand)(t:TypeId)
  (ho:o.op=.call { callee:=.builtin .append,args:=#[s,x],argTypes:=#[t,t] }) (hs:a.eval s=v) (hx:a.eval x=v2)
  (hrun:(Builtin.append_ #[t,t] o.type #[v,v2]).run P w=.ok v' w') (h:wpList P ops Q rest (a.put o.dst v') w'):wpList P ops Q (o::rest) a w:=by
 refine wpList_plain hgd fun _ hK=>?_
 unfold Oper.wp execOp;simp only[ho,resolve,invoke,builtin,Sem.run_bind,Sem.run_pure,Result.andThen_ok,List.map_toArray,List.map_cons,List.map_nil,hs,hx,hrun]
 exact hK _ _ h

theorem dR{α β:Type}(f:α→List β)(c:Nat)(hf:∀x,(f x).length=c):∀(l:List α) (i j:Nat) (x:α),l[i]?=some x→j<c→(l.flatMap f)[i*c+j]?=(f x)[j]?
 | [],i,j,x,h,_=>by simp at h
 | y::l,0,j,x,h,hj=>by
  simp at h
  subst h;simp only[List.flatMap_cons,Nat.zero_mul,Nat.zero_add]
  rw[List.getElem?_append_left (by rw[hf];exact hj)]
 | y::l,i+1,j,x,h,hj=>by
  simp only[List.getElem?_cons_succ] at h
  simp only[List.flatMap_cons]
  rw[List.getElem?_append_right (by rw[hf,Nat.add_mul];omega),hf,show(i+1)*c+j-c=i*c+j by rw[Nat.add_mul];omega];exact dR f c hf l i j x h hj
theorem dS{α β:Type}(f:α→List β)(c:Nat)(hf:∀x,(f x).length=c):∀(l:List α),(l.flatMap f).length=l.length*c
 | []=>by simp
 | y::l=>by simp[hf,dS f c hf l,Nat.add_mul,Nat.add_comm]

theorem aG{w:World}{base e size n:Nat}{v:Value}{xs:List Value}(h:w.ownsRow base e size v n xs):∃A c,v=.slice A n c∧n≤c∧(A=none∨∃g,A=some ⟨g,0,none⟩):=by
 rcases h.2 with ⟨rfl,rfl⟩|⟨g,cap,cur,rfl,_,_,hc,_⟩
 ·exact⟨none,0,rfl,Nat.le_refl _,.inl rfl⟩
 ·exact⟨_,cap,rfl,hc,.inr ⟨g,rfl⟩⟩
theorem bC{w:World}{base e size n:Nat}{v:Value}{xs:List Value}(h:w.ownsRow base e size v n xs)(hn:0<n) :
  ∃g c,v=.slice (some ⟨g,0,none⟩) n c∧v.ownBlock=some g∧n≤c∧g<w.heap.size∧base≤g∧∀j u,xs[j]?=some u→w.cell? ⟨g,j,none⟩=some u∧w.frozen? ⟨g,j,none⟩=false:=by
 have hc:=fun g (hg:v.ownBlock=some g)=>h.cells hg
 have hlt:=h.lt;rcases h.2 with ⟨_,rfl⟩|⟨g,cap,cur,rfl,_,hg,hcap,_⟩
 ·omega
 ·refine⟨g,cap,rfl,rfl,hcap,(hlt g rfl).2,(hlt g rfl).1,fun j u hu=>⟨?_,by simp[World.frozen?,hg]⟩⟩;have:=hc g rfl j u hu;rwa [Addr.add_lit,Nat.zero_add] at this
theorem upF{w w':World}(h:Below w.heap.size w w'):Upd (fun _=>False) w w':=Upd.of_below h _
theorem tHn{w w1 w2:World}(a:Below w.heap.size w w1)(b:Below w1.heap.size w1 w2):Below w.heap.size w w2:=a.trans (b.mono a.size)
open Go.RowKit
structure Sto{α:Type}(lt:α→α→Bool):Prop where
 irr:∀a,lt a a=false
 tr:∀a b c,lt a b=true→lt b c=true→lt a c=true
 tri:∀a b,lt a b=false→lt b a=false→a=b
theorem Sto.asym{α:Type}{lt:α→α→Bool}(h:Sto lt){a b:α}(k:lt a b=true):lt b a=false:=by
 cases e:lt b a
 ·rfl
 ·have:=h.tr a b a k e;rw[h.irr] at this;cases this
theorem Sto.ne{α:Type}{lt:α→α→Bool}(h:Sto lt){a b:α}(k:lt a b=true):a≠b:=by
 rintro rfl;rw[h.irr] at k;cases k

abbrev Txt:=ByteArray
def jT(a b:Txt):Int:=Lib.compareBytes a.data.toList b.data.toList
def ltT(a b:Txt):Bool:=Op.bytesLess a.toList b.toList
theorem nN{a b:Txt}(h:a.data.toList=b.data.toList):a=b:=by
 obtain⟨⟨a⟩⟩:=a;obtain⟨⟨b⟩⟩:=b;simp at h
 rw[h]
def sH(l:List UInt8):Txt:=⟨l.toArray⟩
theorem yK(s:Txt):sH s.data.toList=s:=by
 obtain⟨a⟩:=s;rfl
theorem fE(a:Txt):a.toList=a.data.toList:=ByteArray.toList_eq a
theorem fG:∀(a b:List UInt8),(Lib.compareBytes a b = -1∧Op.bytesLess a b=true)∨(Lib.compareBytes a b=0∧a=b)∨(Lib.compareBytes a b=1∧Op.bytesLess b a=true)
 | [],[]=>.inr (.inl ⟨rfl,rfl⟩)
 | [],_::_=>.inl ⟨rfl,rfl⟩
 | _::_,[]=>.inr (.inr ⟨rfl,rfl⟩)
 | x::a,y::b=>by
  unfold Lib.compareBytes Op.bytesLess;by_cases h1:x<y
  ·simp[h1]
  ·by_cases h2:y<x
   ·simp[h1,h2]
   ·have e:x=y:=UInt8.le_antisymm (UInt8.not_lt.1 h2) (UInt8.not_lt.1 h1);subst e;rcases fG a b with ⟨c,d⟩|⟨c,d⟩|⟨c,d⟩
    ·exact .inl (by simp[h1,c,d])
    ·exact .inr (.inl (by simp[h1,c];exact d))
    ·exact .inr (.inr (by simp[h1,c,d]))
theorem jU:∀(a:List UInt8),Op.bytesLess a a=false
 | []=>rfl
 | x::a=>by simp[Op.bytesLess,jU a]
theorem vD:∀(a b c:List UInt8),Op.bytesLess a b=true→Op.bytesLess b c=true→Op.bytesLess a c=true
 | _,b,[],_,k=>by cases b <;> simp[Op.bytesLess] at k
 | a,[],_::_,h,_=>by cases a <;> simp[Op.bytesLess] at h
 | [],_::_,_::_,_,_=>rfl
 | x::a,y::b,z::c,h,k=>by
  simp only[Op.bytesLess,Bool.or_eq_true,decide_eq_true_eq,Bool.and_eq_true,beq_iff_eq] at h k ⊢
  rcases h with h|⟨rfl,h⟩
  ·rcases k with k|⟨rfl,k⟩
   ·exact .inl (UInt8.lt_trans h k)
   ·exact .inl h
  ·rcases k with k|⟨rfl,k⟩
   ·exact .inl k
   ·exact .inr ⟨rfl,vD a b c h k⟩
theorem dW:Sto ltT:=by
 refine⟨fun a=>jU _,fun a b c=>vD _ _ _,fun a b h k=>?_⟩;unfold ltT at h k;rw[fE,fE] at h k;rcases fG a.data.toList b.data.toList with ⟨_,d⟩|⟨_,d⟩|⟨_,d⟩
 ·rw[h] at d;cases d
 ·exact nN d
 ·rw[k] at d;cases d
theorem pJ(a b:Txt):(jT a b = -1∧ltT a b=true∧a≠b)∨(jT a b=0∧a=b)∨(jT a b=1∧ltT b a=true∧a≠b):=by
 unfold jT ltT;rw[fE,fE];rcases fG a.data.toList b.data.toList with ⟨c,d⟩|⟨c,d⟩|⟨c,d⟩
 ·refine .inl ⟨c,d,?_⟩;rintro rfl;rw[jU] at d;cases d
 ·exact .inr (.inl ⟨c,nN d⟩)
 ·refine .inr (.inr ⟨c,d,?_⟩);rintro rfl;rw[jU] at d;cases d
theorem jE(a b:Txt):decide (jT a b<0)=ltT a b:=by
 rcases pJ a b with ⟨c,d,_⟩|⟨c,rfl⟩|⟨c,d,_⟩
 ·rw[c,d];rfl
 ·rw[c,dW.irr];rfl
 ·rw[c,dW.asym d];rfl

structure Ed where
 fr:Txt
 lb:Txt
 to:Txt
deriving DecidableEq
def Ed.cells(x:Ed):List Value:=[.string x.fr,.string x.lb,.string x.to]
def Ed.agg(x:Ed):Value:=.agg #[.string x.fr,.string x.lb,.string x.to]
def FA(a b:Ed):Int:=if jT a.fr b.fr≠0 then jT a.fr b.fr else if jT a.lb b.lb≠0 then jT a.lb b.lb else jT a.to b.to
def ltE(a b:Ed):Bool:=if a.fr=b.fr then (if a.lb=b.lb then ltT a.to b.to else ltT a.lb b.lb) else ltT a.fr b.fr
theorem eW{a b:Txt}:jT a b=0↔a=b:=by
 rcases pJ a b with ⟨c,_,d⟩|⟨c,d⟩|⟨c,_,d⟩
 ·simp[c,d]
 ·exact⟨fun _=>d,fun _=>c⟩
 ·simp[c,d]
theorem vE(a b:Ed):decide (FA a b<0)=ltE a b:=by
 unfold FA ltE;by_cases h1:a.fr=b.fr
 ·rw[if_neg (by rw[eW.2 h1];simp),if_pos h1];by_cases h2:a.lb=b.lb
  ·rw[if_neg (by rw[eW.2 h2];simp),if_pos h2,jE]
  ·rw[if_pos (fun e=>h2 (eW.1 e)),if_neg h2,jE]
 ·rw[if_pos (fun e=>h1 (eW.1 e)),if_neg h1,jE]
theorem jR:Sto ltE:=by
 have tr:=dW.tr;refine⟨fun a=>by simp[ltE,dW.irr],fun a b c h k=>?_,fun a b h k=>?_⟩
 ·unfold ltE at *;by_cases h1:a.fr=b.fr
  ·rw[if_pos h1] at h;by_cases k1:b.fr=c.fr
   ·rw[if_pos k1] at k;rw[if_pos (h1.trans k1)];by_cases h2:a.lb=b.lb
    ·rw[if_pos h2] at h;by_cases k2:b.lb=c.lb
     ·rw[if_pos k2] at k;rw[if_pos (h2.trans k2)];exact tr _ _ _ h k
     ·rw[if_neg k2] at k;rw[if_neg (fun e=>k2 (h2.symm.trans e)),h2];exact k
    ·rw[if_neg h2] at h;by_cases k2:b.lb=c.lb
     ·rw[if_neg (fun e=>h2 (e.trans k2.symm)),← k2];exact h
     ·rw[if_neg k2] at k;have:=tr _ _ _ h k;rw[if_neg (dW.ne this)];exact this
   ·rw[if_neg k1] at k;rw[if_neg (fun e=>k1 (h1.symm.trans e)),h1];exact k
  ·rw[if_neg h1] at h;by_cases k1:b.fr=c.fr
   ·rw[if_neg (fun e=>h1 (e.trans k1.symm)),← k1];exact h
   ·rw[if_neg k1] at k;have:=tr _ _ _ h k;rw[if_neg (dW.ne this)];exact this
 ·obtain⟨a1,a2,a3⟩:=a;obtain⟨b1,b2,b3⟩:=b;unfold ltE at *;simp only at *
  by_cases h1:a1=b1
  ·subst h1;simp only[if_true] at h k
   by_cases h2:a2=b2
   ·subst h2;simp only[if_true] at h k
    rw[dW.tri _ _ h k]
   ·rw[if_neg h2] at h;rw[if_neg (fun e=>h2 e.symm)] at k;exact(h2 (dW.tri _ _ h k)).elim
  ·rw[if_neg h1] at h;rw[if_neg (fun e=>h1 e.symm)] at k;exact(h1 (dW.tri _ _ h k)).elim

def cL{α:Type}(lt:α→α→Bool)(l:List α):Prop:=l.Pairwise fun a b=>lt a b=true
theorem cL.uniq{α:Type}{lt:α→α→Bool}(hs:Sto lt):∀{l m:List α},cL lt l→cL lt m→(∀x,x∈l↔x∈m)→l=m
 | [],[],_,_,_=>rfl
 | [],y::m,_,_,h=>absurd ((h y).2 (by simp)) (by simp)
 | x::l,[],_,_,h=>absurd ((h x).1 (by simp)) (by simp)
 | x::l,y::m,hl,hm,h=>by
  have l1:=List.pairwise_cons.1 hl;have m1:=List.pairwise_cons.1 hm;have e:x=y:=by
   rcases List.mem_cons.1 ((h x).1 (by simp)) with e|hx
   ·exact e
   ·rcases List.mem_cons.1 ((h y).2 (by simp)) with e|hy
    ·exact e.symm
    ·have a:=m1.1 x hx;have b:=l1.1 y hy;rw[hs.asym a] at b;cases b
  subst e;congr 1
  refine cL.uniq hs l1.2 m1.2 (fun z=>?_);have hz:=h z;simp only[List.mem_cons] at hz
  constructor
  ·intro k;rcases hz.1 (.inr k) with rfl|k2
   ·have:=l1.1 _ k;rw[hs.irr] at this;cases this
   ·exact k2
  ·intro k;rcases hz.2 (.inr k) with rfl|k2
   ·have:=m1.1 _ k;rw[hs.irr] at this;cases this
   ·exact k2
structure eX{α:Type}(lt:α→α→Bool)(l m:List α):Prop where
 up:cL lt m
 mem:∀x,x∈m↔x∈l
theorem eX.uniq{α:Type}{lt:α→α→Bool}(hs:Sto lt){l l' m m':List α}(h:eX lt l m)(k:eX lt l' m')(e:∀x,x∈l↔x∈l'):m=m':=
 cL.uniq hs h.up k.up (fun x=>(h.mem x).trans ((e x).trans (k.mem x).symm))
theorem eX.self{α:Type}{lt:α→α→Bool}{l:List α}(h:cL lt l):eX lt l l:=⟨h,fun _=>Iff.rfl⟩
def cpt{α:Type}[DecidableEq α]:List α→List α
 | []=>[]
 | [x]=>[x]
 | x::y::l=>if x=y then cpt (y::l) else x::cpt (y::l)
theorem vF{α:Type}[DecidableEq α]:∀(l:List α) (x:α),x∈cpt l↔x∈l
 | [],x=>Iff.rfl
 | [y],x=>Iff.rfl
 | a::b::l,x=>by
  have ih:=vF (b::l) x;unfold cpt;split
  ·rename_i e
   subst e;rw[ih];simp
  ·rw[List.mem_cons,ih,List.mem_cons (a:=x) (b:=a)]
theorem sI{α:Type}[DecidableEq α]{lt:α→α→Bool}(hs:Sto lt):∀(l:List α),l.Pairwise (fun a b=>lt b a=false)→cL lt (cpt l)
 | [],_=>.nil
 | [y],_=>List.pairwise_singleton _ _
 | a::b::l,h=>by
  obtain⟨h1,h2⟩:=List.pairwise_cons.1 h;have ih:=sI hs (b::l) h2;unfold cpt;split
  ·exact ih
  ·rename_i hne
   refine List.pairwise_cons.2 ⟨fun x hx=>?_,ih⟩;have hb:lt a b=true:=by
    cases e:lt a b
    ·exact(hne (hs.tri _ _ e (h1 b (by simp)))).elim
    ·rfl
   rcases List.mem_cons.1 ((vF _ x).1 hx) with rfl|hx
   ·exact hb
   ·have hbx:=(List.pairwise_cons.1 h2).1 x hx;cases e:lt b x
    ·rw[hs.tri _ _ e hbx] at hb;exact hb
    ·exact hs.tr _ _ _ hb e
theorem KC{α:Type}[DecidableEq α]{lt:α→α→Bool}(hs:Sto lt){l:List α}(h:l.Pairwise (fun a b=>lt b a=false)):eX lt l (cpt l):=⟨sI hs l h,vF l⟩
open Go.RowKit
section
variable {α:Type} [DecidableEq α] {lt:α→α→Bool}
def mrg(lt:α→α→Bool)(A B:List α):List α:=
 match A,B with
 | [],B=>B
 | A,[]=>A
 | x::a,y::b=>if lt x y=true then x::mrg lt a (y::b) else if x=y then y::mrg lt a b else y::mrg lt (x::a) b
termination_by A.length+B.length
theorem mU(B:List α):mrg lt [] B=B:=by rw[mrg]
theorem qP(A:List α):mrg lt A []=A:=by
 cases A with
 | nil=>rw[mrg]
 | cons x a=>rw[mrg];simp
theorem mV(x:α)(a:List α)(y:α)(b:List α):mrg lt (x::a) (y::b)=if lt x y=true then x::mrg lt a (y::b) else if x=y then y::mrg lt a b else y::mrg lt (x::a) b:=by rw[mrg]
theorem mW(hs:Sto lt):∀(n:Nat) (A B:List α),A.length+B.length≤n→cL lt A→cL lt B→cL lt (mrg lt A B)∧(∀z,z∈mrg lt A B↔z∈A∨z∈B)∧(mrg lt A B).length≤A.length+B.length
 | n,[],B,_,_,hB=>by rw[mU];exact⟨hB,by simp,by simp⟩
 | n,x::a,[],_,hA,_=>by rw[qP];exact⟨hA,by simp,by simp⟩
 | 0,x::a,y::b,h,_,_=>by simp at h
 | n+1,x::a,y::b,h,hA,hB=>by
  obtain⟨hA1,hA2⟩:=List.pairwise_cons.1 hA;obtain⟨hB1,hB2⟩:=List.pairwise_cons.1 hB;rw[mV];simp only[List.length_cons] at h
  by_cases hxy:lt x y=true
  ·rw[if_pos hxy];obtain⟨r,m,l⟩:=mW hs n a (y::b) (by simp;omega) hA2 hB;refine⟨List.pairwise_cons.2 ⟨fun z hz=>?_,r⟩,fun z=>by rw[List.mem_cons,m,List.mem_cons (a:=z) (b:=x)];simp only[or_assoc],by simp only[List.length_cons] at l ⊢;omega⟩;rcases (m z).1 hz with hz|hz
   ·exact hA1 z hz
   ·rcases List.mem_cons.1 hz with rfl|hz
    ·exact hxy
    ·exact hs.tr _ _ _ hxy (hB1 z hz)
  ·rw[if_neg hxy];by_cases he:x=y
   ·subst he;rw[if_pos rfl];obtain⟨r,m,l⟩:=mW hs n a b (by omega) hA2 hB2;refine⟨List.pairwise_cons.2 ⟨fun z hz=>?_,r⟩,fun z=>?_,by simp only[List.length_cons] at l ⊢;omega⟩
    ·rcases (m z).1 hz with hz|hz
     ·exact hA1 z hz
     ·exact hB1 z hz
    ·rw[List.mem_cons,m,List.mem_cons,List.mem_cons];constructor
     ·rintro (h|h|h)
      ·exact .inl (.inl h)
      ·exact .inl (.inr h)
      ·exact .inr (.inr h)
     ·rintro ((h|h)|(h|h))
      ·exact .inl h
      ·exact .inr (.inl h)
      ·exact .inl h
      ·exact .inr (.inr h)
   ·rw[if_neg he];obtain⟨r,m,l⟩:=mW hs n (x::a) b (by simp;omega) hA hB2;have hyx:lt y x=true:=by
     cases e:lt y x
     ·exact(he (hs.tri _ _ (by simpa using hxy) e)).elim
     ·rfl
    refine⟨List.pairwise_cons.2 ⟨fun z hz=>?_,r⟩,fun z=>?_,by simp only[List.length_cons] at l ⊢;omega⟩
    ·rcases (m z).1 hz with hz|hz
     ·rcases List.mem_cons.1 hz with rfl|hz
      ·exact hyx
      ·exact hs.tr _ _ _ hyx (hA1 z hz)
     ·exact hB1 z hz
    ·rw[List.mem_cons,m,List.mem_cons (a:=z) (b:=y)];constructor
     ·rintro (h|h|h)
      ·exact .inr (.inl h)
      ·exact .inl h
      ·exact .inr (.inr h)
     ·rintro (h|h|h)
      ·exact .inr (.inl h)
      ·exact .inl h
      ·exact .inr (.inr h)
omit [DecidableEq α] in
theorem eD{l:List α}{k:Nat}{x:α}(h:l[k]?=some x):l.drop k=x::l.drop (k+1):=by
 obtain⟨hk,rfl⟩:=gO.1 h;exact List.drop_eq_getElem_cons hk
theorem gG{A B:List α}{i j:Nat}{x:α}(hx:A[i]?=some x)(h:B.length≤j∨∃y,B[j]?=some y∧lt x y=true):mrg lt (A.drop i) (B.drop j)=x::mrg lt (A.drop (i+1)) (B.drop j):=by
 rw[eD hx];rcases h with h|⟨y,hy,hl⟩
 ·rw[List.drop_of_length_le h,qP,qP]
 ·rw[eD hy,mV,if_pos hl]
theorem gH{A B:List α}{i j:Nat}{y:α}(hy:B[j]?=some y)(h:A.length≤i∨∃x,A[i]?=some x∧lt x y=false∧x≠y):mrg lt (A.drop i) (B.drop j)=y::mrg lt (A.drop i) (B.drop (j+1)):=by
 rw[eD hy];rcases h with h|⟨x,hx,hl,hne⟩
 ·rw[List.drop_of_length_le h,mU,mU]
 ·rw[eD hx,mV,if_neg (by rw[hl];simp),if_neg hne]
theorem qQ(hs:Sto lt){A B:List α}{i j:Nat}{y:α}(hx:A[i]?=some y)(hy:B[j]?=some y):mrg lt (A.drop i) (B.drop j)=y::mrg lt (A.drop (i+1)) (B.drop (j+1)):=by
 rw[eD hy,eD hx,mV,if_neg (by rw[hs.irr];simp),if_pos rfl]
theorem vG{A B:List α}{i j:Nat}(h1:A.length≤i)(h2:B.length≤j):mrg lt (A.drop i) (B.drop j)=[]:=by
 rw[List.drop_of_length_le h1,List.drop_of_length_le h2,mU]
end
section
variable {P:Program} {ops:Array Oper} {Q:Exit→Act→World→Prop} {md:Region.Mode} {S:World→Prop} {n:Nat}
def sJ(md:Region.Mode)(ops:Array Oper):Nat→List Nat→List Nat
 | 0,acc=>acc
 | f+1,acc=>sJ md ops f (acc++acc.flatMap fun j=>match ops[j]? with
   | some o=>(o.after.toList.filter (Region.binds md)).map (·.on)
   | none=>[]).eraseDups

def dM(md:Region.Mode)(ops:Array Oper)(listed:Array Bool):Prop:=
 ∀(j:Nat) (oj:Oper),ops[j]?=some oj→listed.getD j false=true→∀e∈oj.after,Region.binds md e=true→listed.getD e.on false=true

theorem iF{listed:Array Bool}(hd:dM md ops listed):∀(f:Nat) (acc:List Nat),(∀j∈acc,listed.getD j false=true)→∀j∈sJ md ops f acc,listed.getD j false=true
 | 0,_,h,j,hj=>h j hj
 | f+1,acc,h,j,hj=>by
  refine iF hd f _ (fun k hk=>?_) j hj;rw[List.mem_eraseDups,List.mem_append] at hk;rcases hk with hk|hk
  ·exact h k hk
  ·obtain⟨m,hm,hk⟩:=List.mem_flatMap.1 hk;cases ho:ops[m]? with
   | none=>rw[ho] at hk;cases hk
   | some o =>
    rw[ho] at hk;obtain⟨e,he,rfl⟩:=List.mem_map.1 hk;obtain⟨he1,he2⟩:=List.mem_filter.1 he;exact hd m o ho (h m hm) e (by simpa using he1) he2

theorem dM.set{listed:Array Bool}{i:Nat}(hd:dM md ops listed)(hi:i∈Region.ready md ops listed):dM md ops (listed.setIfInBounds i true):=by
 intro j oj hj hl e he hb;by_cases hij:i=j
 ·subst hij;obtain⟨_,o,ho,hall⟩:=mem_ready.1 hi;rw[hj] at ho;injection ho with ho;subst ho;exact getD_set_true (hall e he hb)
 ·rw[getD_set_ne false hij] at hl;exact getD_set_true (hd j oj hj hl e he hb)

theorem lJ(m:Nat):dM md ops (Array.replicate m false):=by
 intro j oj _ hl;exfalso
 simp only[Array.getD_eq_getD_getElem?,Array.getElem?_replicate] at hl
 split at hl <;> simp at hl

def bH(P:Program)(md:Region.Mode)(ops:Array Oper)(Q:Exit→Act→World→Prop)(S:World→Prop)(n:Nat):Nat→Array Bool→Act→World→Prop
 | 0,listed,a,w=>Region.ready md ops listed=[]∧Q .normal a w
 | fuel+1,listed,a,w =>
  (Region.ready md ops listed=[]→Q .normal a w) ∧
  ∀i∈Region.ready md ops listed,wpOp P ops Q i (fun a' w'=>(i≠n→S w')∧bH P md ops Q S n fuel (listed.setIfInBounds i true) a' w') a w

theorem lK:∀(fuel:Nat) (listed:Array Bool) (a:Act) (w:World),bH P md ops Q S n fuel listed a w→wpAny P md ops Q fuel listed a w
 | 0,_,_,_,h=>h
 | fuel+1,_,_,_,h=>⟨h.1,fun i hi=>wpOp_mono (fun a' w' h'=>lK fuel _ a' w' h'.2) (h.2 i hi)⟩

theorem mI{i f:Nat}{oi:Oper}{v:Value}(hi:ops[i]?=some oi)(hsel:∀(j:Nat) (o:Oper) cs b,ops[j]?=some o→o.op≠.select cs b)
  (hQ:∀c a w,Q (.panic c) (a.put oi.dst v) w→Q (.panic c) a w) (hpn:ops.size≤n∨i∈sJ md ops f [n]) :
  ∀(fuel:Nat) (listed:Array Bool) (a:Act) (w:World),
   (∀j oj,ops[j]?=some oj→j≠i→listed.getD j true=false→(∀e∈oj.after,Region.binds md e=true→e.on≠i)→oi.apart ops oj=true) →
   dM md ops listed→i∈Region.ready md ops listed→YieldsIf P ops S oi v a→S w →
   bH P md ops Q S n fuel (listed.setIfInBounds i true) (a.put oi.dst v) w→bH P md ops Q S n (fuel+1) listed a w:=by
 intro fuel;induction fuel with
 | zero =>
  intro listed a w _ _ hr hy hS H;refine⟨fun h=>(by rw[h] at hr;cases hr),fun j hj=>?_⟩;by_cases hji:j=i
  ·subst hji;exact hy.wpOp hi hS ⟨fun _=>hS,H⟩
  ·have:=ready_mono hj hji;rw[H.1] at this;cases this
 | succ fuel ih =>
  intro listed a w hfree hd hr hy hS H;refine⟨fun h=>(by rw[h] at hr;cases hr),fun j hj=>?_⟩;by_cases hji:j=i
  ·subst hji;exact hy.wpOp hi hS ⟨fun _=>hS,H⟩
  ·have h1:=H.2 j (ready_mono hj hji);obtain⟨hjun,oj,hoj,hall⟩:=mem_ready.1 hj;have hiun:listed.getD i false=false:=by
    have h0:=(mem_ready.1 hr).1;rcases Nat.lt_or_ge i listed.size with h' | h'
    ·simp[h'] at h0 ⊢;exact h0
    ·simp[Array.getElem?_eq_none h']
   have hnot:∀e∈oj.after,Region.binds md e=true→e.on≠i:=fun e he hb heq=>by
    have h1:=hall e he hb;rw[heq,hiun] at h1;cases h1
   have hjn:j≠n:=by
    rintro rfl;rcases hpn with hp|hp
    ·have:=(Array.getElem?_eq_some_iff.1 hoj).1;omega
    ·have hd':=hd.set hj;have hl:∀k∈[j],(listed.setIfInBounds j true).getD k false=true:=by
      intro k hk;obtain rfl:=List.mem_singleton.1 hk;have hks:k<listed.size:=by
       rcases Nat.lt_or_ge k listed.size with h' | h'
       ·exact h'
       ·simp[Array.getElem?_eq_none h'] at hjun
      simp[hks]
     have:=iF hd' f [j] hl i hp;rw[getD_set_ne false hji,hiun] at this;cases this
   have h2:=wpOp_putIf hoj (hfree j oj hoj hji hjun hnot) (fun cs b=>hsel i oi cs b hi) (fun cs b=>hsel j oj cs b hoj) hQ hy h1;have hfree':∀k ok,ops[k]?=some ok→k≠i→(listed.setIfInBounds j true).getD k true=false →
     (∀e∈ok.after,Region.binds md e=true→e.on≠i)→oi.apart ops ok=true:=fun k ok hk hki hun hno=>by
    refine hfree k ok hk hki ?_ hno;by_cases hjk:j=k
    ·subst hjk;exact hjun
    ·rw[getD_set_ne true hjk] at hun;exact hun
   refine wpOp_mono (fun a' w' h3=>⟨h3.2.1,ih (listed.setIfInBounds j true) a' w' hfree' (hd.set hj) (ready_mono hr (Ne.symm hji)) h3.1 (h3.2.1 hjn) ?_⟩) h2;rw[Array.setIfInBounds_comm _ _ hji];exact h3.2.2

def jF(md:Region.Mode)(ops:Array Oper)(n:Nat):List (Nat × Bool)→Array Bool→Bool
 | [],listed=>(Region.ready md ops listed).isEmpty
 | (i,true)::r,listed=>Region.free md ops listed i&&(Region.ready md ops listed).contains i&&jF md ops n r (listed.setIfInBounds i true)
 | (i,false)::r,listed=>(Region.ready md ops listed==[i])&&(i != n||r.isEmpty)&&jF md ops n r (listed.setIfInBounds i true)

def OZ(md:Region.Mode)(ops:Array Oper)(n:Nat)(σ:List (Nat × Bool)):Bool:=
 Region.noSelect ops&&decide (σ.length=ops.size)&&(decide (ops.size≤n)||σ.all fun p=>!p.2||(sJ md ops ops.size [n]).contains p.1)&&jF md ops n σ (Array.replicate ops.size false)

def fH(P:Program)(ops:Array Oper)(Q:Exit→Act→World→Prop)(S:World→Prop)(n:Nat):List (Nat × Bool)→Act→World→Prop
 | [],a,w=>Q .normal a w
 | (i,true)::r,a,w=>∃v oi,ops[i]?=some oi∧YieldsIf P ops S oi v a∧fH P ops Q S n r (a.put oi.dst v) w
 | (i,false)::r,a,w=>wpOp P ops Q i (fun a' w'=>(i≠n→S w')∧fH P ops Q S n r a' w') a w

theorem lL(hsel:Region.noSelect ops=true)(hQ:∀c a d v w,Q (.panic c) (Act.put a d v) w→Q (.panic c) a w)(f:Nat) :
  ∀(σ:List (Nat × Bool)) (listed:Array Bool) (a:Act) (w:World),(ops.size≤n∨∀p∈σ,p.2=true→p.1∈sJ md ops f [n])→dM md ops listed→jF md ops n σ listed=true →
   (σ≠[]→S w)→fH P ops Q S n σ a w→bH P md ops Q S n σ.length listed a w
 | [],listed,a,w,_,_,hB,_,h=>⟨by simpa[jF] using hB,h⟩
 | (i,true)::r,listed,a,w,hp,hd,hB,hS,h=>by
  simp only[jF,Bool.and_eq_true] at hB
  obtain⟨⟨hf,hr⟩,hB'⟩:=hB;obtain⟨v,oi,ho,hy,h'⟩:=h;have hi:i∈Region.ready md ops listed:=by simpa using hr
  have hSw:S w:=hS (by simp);exact mI (f:=f) ho (Region.noSelect_spec hsel) (fun c a w=>hQ c a _ _ w) (hp.imp id fun h=>h (i,true) (by simp) rfl) r.length listed a w (Region.free_spec ho hf) hd hi hy hSw
   (lL hsel hQ f r _ _ w (hp.imp id fun h p hpr=>h p (by simp[hpr])) (hd.set hi) hB' (fun _=>hSw) h')
 | (i,false)::r,listed,a,w,hp,hd,hB,hS,h=>by
  simp only[jF,Bool.and_eq_true] at hB
  obtain⟨⟨hr,hl⟩,hB'⟩:=hB;have hr':Region.ready md ops listed=[i]:=by simpa using hr
  have hi:i∈Region.ready md ops listed:=by rw[hr'];simp
  refine⟨fun h0=>(by rw[h0] at hr';cases hr'),fun j hj=>?_⟩;rw[hr'] at hj;obtain rfl:=List.mem_singleton.1 hj;refine wpOp_mono (fun a' w' h3=>⟨h3.1,lL hsel hQ f r _ a' w' (hp.imp id fun h p hpr=>h p (by simp[hpr])) (hd.set hi) hB' (fun hne=>h3.1 ?_) h3.2⟩) h;rintro rfl;simp at hl
  exact hne hl

theorem aO{rid:Nat}{a:Act}{w:World}{l:List Oper}(S:World→Prop)(n:Nat)(σ:List (Nat × Bool))(hm:P.follows .mixedOrders=true)(hB:OZ .any l.toArray n σ=true)
  (hQ:∀c a d v w,Q (.panic c) (Act.put a d v) w→Q (.panic c) a w) (hS:S w.drew) (h:fH P l.toArray Q S n σ a w.drew):(Code.region rid l.toArray true).wp P Q a w:=by
 simp only[OZ,Bool.and_eq_true,Bool.or_eq_true,decide_eq_true_eq] at hB
 obtain⟨⟨⟨hsel,hlen⟩,hp⟩,hB'⟩:=hB;refine wp_region_any hm (lK (S:=S) (n:=n) _ _ _ _ ?_);rw[← hlen];refine lL hsel hQ l.toArray.size σ _ a w.drew (hp.imp id fun h p hpr hp2=>?_) (lJ _) (by rw[hlen];exact hB') (fun _=>hS) h;have:=List.all_eq_true.1 h p hpr;simpa[hp2] using this

theorem qR{i:Nat}{r:List (Nat × Bool)}{a:Act}{w:World}{oi:Oper}{v:Value}(hi:ops[i]?=some oi)(hw:Region.wanted oi (yielded ops a.tmps)=true)
  (hy:∀w,S w→(execOp a.eval oi).run P w=.ok (.value v) w) (h:fH P ops Q S n r (a.put oi.dst v) w):fH P ops Q S n ((i,true)::r) a w:=
 ⟨v,oi,hi,.inl ⟨hw,hy⟩,h⟩
theorem cE{i:Nat}{r:List (Nat × Bool)}{a:Act}{w:World}{oi:Oper}(hi:ops[i]?=some oi)(hw:Region.wanted oi (yielded ops a.tmps)=false)
  (h:fH P ops Q S n r (a.put oi.dst undef) w):fH P ops Q S n ((i,true)::r) a w:=
 ⟨undef,oi,hi,.inr ⟨hw,rfl⟩,h⟩
theorem aN{i:Nat}{r:List (Nat × Bool)}{a:Act}{w:World}{oi:Oper}(hi:ops[i]?=some oi)(hg:oi.guard=none)
  (h:∀K:Act→World→Prop,(∀a w,(i≠n→S w)→fH P ops Q S n r a w→K a w)→oi.wp P a w K Q):fH P ops Q S n ((i,false)::r) a w:=by
 show wpOp P ops Q i _ a w
 unfold wpOp;simp only[hi]
 rw[if_pos (by simp[Region.wanted,hg])];exact .inl (h _ fun a w h1 h2=>⟨h1,h2⟩)
theorem aF{a:Act}{w:World}(h:Q .normal a w):fH P ops Q S n [] a w:=h
end
theorem bI{P:Program}{o:Oper}{a:Act}{K:Act→World→Prop}{Q:Exit→Act→World→Prop}{w w':World}{v v2 v':Value}(s x:Operand)(t:TypeId)
  (ho:o.op=.call { callee:=.builtin .append,args:=#[s,x],argTypes:=#[t,t] }) (hs:a.eval s=v) (hx:a.eval x=v2)
  (hrun:(Builtin.append_ #[t,t] o.type #[v,v2]).run P w=.ok v' w') (h:K (a.put o.dst v') w'):o.wp P a w K Q:=by
 unfold Oper.wp execOp;simp only[ho,resolve,invoke,builtin,Sem.run_bind,Sem.run_pure,Result.andThen_ok,List.map_toArray,List.map_cons,List.map_nil,hs,hx,hrun]
 exact h
theorem aB{P:Program}{ops:Array Oper}{Q:Exit→Act→World→Prop}{S:World→Prop}{a:Act}{w:World}{oi:Oper}{v:Value}{n i:Nat}{r:List (Nat × Bool)}{a':Act}(hi:ops[i]?=some oi)(h:fH P ops Q S n r a' w)(hw:Region.wanted oi (yielded ops a.tmps)=true:=by first | with_reducible rfl | kernel_rfl)(hy:∀w,S w→(execOp a.eval oi).run P w=.ok (.value v) w:=by intro wS hS;(try dsimp only at hS);go_split_ands;go_simp;(try with_reducible rfl);done)(e:a.put oi.dst v=a':=by(try simp only[Act.put,gA,gS,gZ,sA,sZ,sS]);first | done | exact rfl):fH P ops Q S n ((i,true)::r) a w:=by subst e;exact qR hi hw hy h
theorem NG{P:Program}{ops:Array Oper}{Q:Exit→Act→World→Prop}{S:World→Prop}{a:Act}{w:World}{oi:Oper}{v:Value}{n i:Nat}{r:List (Nat × Bool)}(hi:ops[i]?=some oi)(h:fH P ops Q S n r (a.put oi.dst v) w)(hw:Region.wanted oi (yielded ops a.tmps)=true:=by first | with_reducible rfl | kernel_rfl)(hy:∀w,S w→(execOp a.eval oi).run P w=.ok (.value v) w:=by intro wS hS;(try dsimp only at hS);go_split_ands;go_simp;(try with_reducible rfl);done):fH P ops Q S n ((i,true)::r) a w:=qR hi hw hy h
theorem aE{P:Program}{Q:Exit→Act→World→Prop}{rid:Nat}{a:Act}{w:World}{l:List Oper}(S:World→Prop)(n:Nat)(σ:List (Nat × Bool))(hS:S w.drew)(h:fH P l.toArray Q S n σ a w.drew)(hm:P.follows .mixedOrders=true:=by kernel_rfl)(hB:OZ .any l.toArray n σ=true:=by kernel_rfl)(hQ:∀c a d v w,Q (.panic c) (Act.put a d v) w→Q (.panic c) a w:=by intro _ _ d _ _ h;cases d <;> exact h):(Code.region rid l.toArray true).wp P Q a w:=aO S n σ hm hB hQ hS h
open Go
section
variable {P:Program} {ops:Array Oper} {Q:Exit→Act→World→Prop} {md:Region.Mode} {S:World→Prop} {n:Nat}
theorem FC{f:Nat}{listed:Array Bool}{a:Act}{w:World}{L:List Nat}(hL:Region.ready md ops listed=L)(hne:L≠[])
  (h:∀i∈L,wpOp P ops Q i (fun a' w'=>(i≠n→S w')∧bH P md ops Q S n f (listed.setIfInBounds i true) a' w') a w):bH P md ops Q S n (f+1) listed a w:=by
 subst hL;exact⟨fun e=>absurd e hne,h⟩
theorem aL{i f:Nat}{listed:Array Bool}{a:Act}{w:World}{oi:Oper}(hi:ops[i]?=some oi)(hg:oi.guard=none)
  (h:∀K:Act→World→Prop,(∀a w,S w→bH P md ops Q S n f (listed.setIfInBounds i true) a w→K a w)→oi.wp P a w K Q) :
  wpOp P ops Q i (fun a' w'=>(i≠n→S w')∧bH P md ops Q S n f (listed.setIfInBounds i true) a' w') a w:=by
 unfold wpOp;simp only[hi]
 rw[if_pos (by simp[Region.wanted,hg])];exact .inl (h _ fun a w h1 h2=>⟨fun _=>h1,h2⟩)
theorem iQ{listed:Array Bool}{a:Act}{w:World}(hL:Region.ready md ops listed=[])(h:Q .normal a w):bH P md ops Q S n 0 listed a w:=⟨hL,h⟩
end
open Go
section
variable {P:Program} {ops:Array Oper} {Q:Exit→Act→World→Prop} {md:Region.Mode} {S:World→Prop} {n:Nat}
theorem cM{i:Nat}{r:List (Nat × Bool)}{a:Act}{w:World}{oi:Oper}(hi:ops[i]?=some oi)(hw:Region.wanted oi (yielded ops a.tmps)=true)
  (h:∀K:Act→World→Prop,(∀a w,(i≠n→S w)→fH P ops Q S n r a w→K a w)→oi.wp P a w K Q):fH P ops Q S n ((i,false)::r) a w:=by
 show wpOp P ops Q i _ a w
 unfold wpOp;simp only[hi]
 rw[if_pos hw];exact .inl (h _ fun a w h1 h2=>⟨h1,h2⟩)
theorem gI{i:Nat}{r:List (Nat × Bool)}{a:Act}{w:World}{oi:Oper}(hi:ops[i]?=some oi)(hw:Region.wanted oi (yielded ops a.tmps)=false)(hS:S w)
  (h:fH P ops Q S n r (a.put oi.dst undef) w):fH P ops Q S n ((i,false)::r) a w:=by
 show wpOp P ops Q i _ a w
 unfold wpOp;simp only[hi,hw]
 exact⟨fun _=>hS,h⟩
end
open Go.RowKit
def KG(w:World)(size:Nat)(A:Option Addr)(n:Nat)(xs:List Value):Prop:=
 xs.length=n*size∧(A=none→n=0)∧∀ad,A=some ad→∀j u,xs[j]?=some u→w.cell? (ad.add j)=some u
theorem KG.nil{w:World}{size n:Nat}{xs:List Value}(h:KG w size none n xs):n=0∧xs=[]:=by
 have hn:=h.2.1 rfl;subst hn;exact⟨rfl,List.eq_nil_of_length_eq_zero (by simpa using h.1)⟩
theorem bJ:(Tryz.prog.info? 9).map (fun i=>(i.zero,i.size,i.bytes))=some (some (.string ByteArray.empty),1,16):=by kernel_rfl
theorem dN:(Tryz.prog.info? 32).map (fun i=>(i.zero,i.size,i.bytes))=some (some (.agg #[.string ByteArray.empty,.string ByteArray.empty,.string ByteArray.empty]),3,48):=by kernel_rfl
def Sam(w:World)(v:Value)(e:Ending)(w':World):Prop:=e=.returned v∧Below w.heap.size w w'

def aV(w:World)(A:Option Addr)(xs:List Value):Prop:=∀j u,xs[j]?=some u→∃b o,A=some ⟨b,o,none⟩∧w.cell? ⟨b,o+j,none⟩=some u
theorem aV.upd{w w':World}{A:Option Addr}{xs:List Value}{F:Nat→Prop}(h:aV w A xs)(hu:Upd F w w')(hF:∀b o s,A=some ⟨b,o,s⟩→¬F b):aV w' A xs:=fun j u hj=>by
 obtain⟨b,o,rfl,hc⟩:=h j u hj;exact⟨b,o,rfl,(hu.cell (p:=⟨b,o+j,none⟩) (World.block_lt_of_cell? w _ hc) (hF b o none rfl)).trans hc⟩
theorem aV.below{w w':World}{A:Option Addr}{xs:List Value}(h:aV w A xs)(hb:Below w.heap.size w w'):aV w' A xs:=h.upd (upF hb) (fun _ _ _ _=>id)
theorem aV.reads{w:World}{A:Option Addr}{xs:List Value}{n size:Nat}(h:aV w A xs)(hl:xs.length=n*size)(h0:0<size):KG w size A n xs:=by
 refine⟨hl,?_,?_⟩
 ·rintro rfl;rcases Nat.eq_zero_or_pos n with h1|h1
  ·exact h1
  ·have:0<xs.length:=by rw[hl];exact Nat.mul_pos h1 h0
   obtain⟨b,o,e,-⟩:=h 0 xs[0] (gEz this);cases e
 ·rintro ad rfl j u hj;obtain⟨b,o,e,hc⟩:=h j u hj;injection e with e;subst e;rw[Addr.add_lit];exact hc
theorem aV.of_own{w:World}{base e size n c:Nat}{A:Option Addr}{xs:List Value}(h:w.ownsRow base e size (.slice A n c) n xs):aV w A xs:=fun j u hj=>by
 rcases h.2 with ⟨hv,h0⟩|⟨g,cap,cur,hv,_⟩
 ·have hl:0<xs.length:=Nat.lt_of_le_of_lt (Nat.zero_le _) (gO.1 hj).1;rw[h.1,h0] at hl;omega
 ·injection hv with hv;subst hv;have:=h.cells (g:=g) rfl j u hj;rw[Addr.add_lit,Nat.zero_add] at this;exact⟨g,0,rfl,by rw[Nat.zero_add];exact this⟩
theorem eV(w:World)(base t e size bytes:Nat)(z:Value)(ht:Tryz.prog.underlying t=some (.slice e))(hi:(Tryz.prog.info? e).map (fun i=>(i.zero,i.size,i.bytes))=some (some z,size,bytes))(hzs:z.cells.size=size)(h0:0<size)
  (v:Value) (n:Nat) (xs:List Value) (own:w.ownsRow base e size v n xs) (news:List Value) (m:Nat) (hl:news.length=m*size) (h1:∀u∈news,u.oneCell'=true) (hn:(n+m)*bytes≤140737488355328) (h63:n+m≤maxLen) (hb:base≤w.heap.size) :
  ∃v' w',(Builtin.append_ #[t,t] t #[v,.slice (some ⟨w.heap.size,0,none⟩) m m]).run Tryz.prog (w.alloc (.cells news.toArray e))=.ok v' w'∧w'.ownsRow base e size v' (n+m) (xs++news)∧Upd (fun k=>v.ownBlock=some k) w w'∧∀k,v'.ownBlock=some k→v.ownBlock=some k∨w.heap.size≤k:=by
 obtain⟨i0,hi0,hz0,hz1,hz2⟩:=info_parts hi;obtain⟨v',w',happ,own',gr,-,pl⟩:=run_append_own_at (P:=Tryz.prog) (w.alloc (.cells news.toArray e)) base t t e i0 z size bytes ht hi0 hz0 hz1 hz2 hzs h0 v n xs (own.alloc _) ⟨w.heap.size,0,none⟩ m m news hl (fun j u hu=>by
  have:=(Blk.new w e news.toArray).cell j;rw[Addr.add_lit,Nat.zero_add,this];simpa using hu) h1 h63 hn (by simp;omega)
 refine⟨v',w',happ,own',((Upd.refl _ w).alloc _).grown gr (fun k hk=>.inl hk),fun k hk=>?_⟩;rcases pl with h|h
 ·exact .inl (by rw[← h];exact hk)
 ·rw[h] at hk;injection hk with hk;simp at hk
  exact .inr (by omega)

open Go.RowKit
def yL(n:Nat):Bool:=decide ((97≤n∧n≤122)∨(65≤n∧n≤90)∨(48≤n∧n≤57)∨n=95)
def cH(s:Txt):Bool:=decide (1≤s.size∧s.size≤16)&&s.data.toList.all fun b=>yL b.toNat
def eP(s:Txt):Bool:=cH s&&decide (97≤(s.data.toList.headD 0).toNat∧(s.data.toList.headD 0).toNat≤122)
def eJ(w:World)(v:Value)(e:Ending)(w':World):Prop:=e=.returned v∧w'=w

theorem fV{a b:Bool}(h:a=b):Ending.returned (.bool a)=.returned (.bool b):=by rw[h]
theorem pK(n:Nat)(w:World):Calls Tryz.prog 164 #[.int .u8 (n:Int)] w (eJ w (.bool (yL n))):=by
 have key:∀b,yL n=b→Calls Tryz.prog 164 #[.int .u8 (n:Int)] w (eJ w (.bool b)):=by
  intro b hb;have HB:=hIz hb;clear hb;go_enter Tryz.func164,Tryz.ntmps164;go_wp2
  all_goals
   go_ret;refine⟨fV ?_,rfl⟩;rw[← HB.out,Bool.eq_iff_iff];simp[yL]
   try omega
 exact key _ rfl

theorem eQ(a b:Txt)(w:World):Calls Tryz.prog 80 #[.string a,.string b] w (eJ w (.int .i64 (jT a b))):=by
 have h1:Calls Tryz.prog 122 #[.string a,.string b] w (eJ w (.int .i64 (jT a b))):=by
  go_enter Tryz.func122,Tryz.ntmps122;go_wp2;rw[run_callFunc_extern Tryz.func160 (by kernel_rfl) (by kernel_rfl) (by kernel_rfl) (e:=Extern.BytealgCompare.compare) (by kernel_rfl),Lib.run_compareString];simp only[Result.andThen]
  rw[Oper.upon_value];go_wp2;go_ret;exact⟨rfl,rfl⟩
 generalize jT a b=x at h1 ⊢;go_enter Tryz.func80,Tryz.ntmps80;go_wp2_with fail;refine h1.mono ?_;rintro e w' ⟨rfl,rfl⟩;go_wp2;go_ret;exact⟨rfl,rfl⟩

theorem pL{s:Txt}(h:¬(1≤s.size∧s.size≤16)):cH s=false:=by simp only[cH,decide_eq_false h,Bool.false_and]
theorem wO{s:Txt}{k:Nat}(hk:k<s.size)(h:yL s[k].toNat=false):cH s=false:=by
 unfold cH;rw[Bool.and_eq_false_iff];refine .inr ?_;rw[List.all_eq_false];exact⟨s[k],by simp[ByteArray.getElem_eq_getElem_data],by rw[h];simp⟩
theorem sK{s:Txt}(h:1≤s.size∧s.size≤16)(ha:∀k (hk:k<s.size),yL s[k].toNat=true):cH s=true:=by
 unfold cH;rw[decide_eq_true h,Bool.true_and,List.all_eq_true];intro b hb;obtain⟨i,hi,rfl⟩:=List.getElem_of_mem hb;have:=ha i (by simpa using hi);simpa[ByteArray.getElem_eq_getElem_data] using this

theorem jV(s:Txt)(w:World)(hs:s.size≤9223372036854775807):Calls Tryz.prog 131 #[.string s] w (eJ w (.bool (cH s))):=by
 by_cases hl:1≤s.size∧s.size≤16
 ·have h1:¬((s.size:Int)<1):=by omega
  have h2:¬(16<(s.size:Int)):=by omega
  have HL:=hIz hl;clear hl;go_enter Tryz.func131,Tryz.ntmps131;go_wp2_with fail;go_loop [3] (fun i=>∃k:Nat,k≤s.size∧i=.int .i64 k∧Hid (∀j (hj:j<s.size),j<k→yL s[j].toNat=true)) (fun i=>s.size-(intOf i).toNat)
  case atStart=>exact⟨0,Nat.zero_le _,rfl,hIz (fun j _ hj=>by omega)⟩
  case round =>
   obtain⟨k,hk,rfl,hall⟩:=hrel;by_cases hlt:k<s.size
   ·cases hb:yL s[k].toNat with
    | true =>
     have HB:=hIz hb;go_wp2_with fail;refine(pK _ _).mono ?_;rintro e w' ⟨rfl,rfl⟩;go_wp2;go_round
     case rel=>exact⟨k+1,by omega,by go_num,hIz (fun j hj h=>by
      rcases Nat.lt_succ_iff_lt_or_eq.1 h with h|rfl
      ·exact hall.out j hj h
      ·exact HB.out)⟩
     case measure=>simp[intOf];omega
    | false =>
     have HB:=hIz hb;go_wp2_with fail;refine(pK _ _).mono ?_;rintro e w' ⟨rfl,rfl⟩;go_wp2;go_ret;exact⟨fV (wO hlt HB.out).symm,rfl⟩
   ·obtain rfl:k=s.size:=by omega
    go_wp2;go_ret;exact⟨fV (sK HL.out (fun j hj=>hall.out j hj hj)).symm,rfl⟩
 ·rw[pL hl];by_cases h1:(s.size:Int)<1
  ·go_enter Tryz.func131,Tryz.ntmps131;go_wp2;go_ret;exact⟨rfl,rfl⟩
  ·have h2:16<(s.size:Int):=by omega
   go_enter Tryz.func131,Tryz.ntmps131;go_wp2;go_ret;exact⟨rfl,rfl⟩

theorem zZ{s:Txt}(h:0<s.size):s.data.toList.headD 0=s[0]:=by
 obtain⟨⟨l⟩⟩:=s;cases l with
 | nil=>simp[ByteArray.size] at h
 | cons a l=>rfl
theorem AB(s:Txt)(w:World)(hs:s.size≤9223372036854775807):Calls Tryz.prog 132 #[.string s] w (eJ w (.bool (eP s))):=by
 have key:∀b,eP s=b→Calls Tryz.prog 132 #[.string s] w (eJ w (.bool b)):=by
  intro b hb;cases hn:cH s with
  | false =>
   have e:b=false:=by rw[← hb,eP,hn,Bool.false_and]
   subst e;have hcon:=jV s w hs;rw[hn] at hcon;clear hb hn;go_enter Tryz.func132,Tryz.ntmps132;go_wp2_with fail;refine hcon.mono ?_;rintro e w' ⟨rfl,rfl⟩;go_wp2;go_ret;exact⟨rfl,rfl⟩
  | true =>
   have h1:0<s.size:=by
    unfold cH at hn;simp at hn
    omega
   have hb':decide (97≤(s[0].toNat:Int)∧(s[0].toNat:Int)≤122)=b:=by
    rw[← hb,eP,hn,Bool.true_and,zZ h1];exact decide_eq_decide.2 (by omega)
   have hcon:=jV s w hs;rw[hn] at hcon;have HB:=hIz hb';have h2:(0:Int)<(s.size:Int):=by omega
   clear hb hn hb';go_enter Tryz.func132,Tryz.ntmps132;go_wp2_with fail;refine hcon.mono ?_;rintro e w' ⟨rfl,rfl⟩;go_wp2
   all_goals
    go_ret;refine⟨fV ?_,rfl⟩;rw[← HB.out,Bool.eq_iff_iff];simp
    try omega
 exact key _ rfl
open Go.RowKit
def or3(a b c:Int):Int:=if a≠0 then a else if b≠0 then b else c
theorem KH(x y:Ed):FA x y=or3 (jT x.fr y.fr) (jT x.lb y.lb) (jT x.to y.to):=rfl

theorem KI(w:World)(g:Nat)(a b c:Int)(h:Blk w g 3 #[.int .i64 a,.int .i64 b,.int .i64 c]) :
  Calls Tryz.prog 126 #[.slice (some ⟨g,0,none⟩) 3 3] w (eJ w (.int .i64 (or3 a b c))):=by
 have key:∀x,or3 a b c=x→Calls Tryz.prog 126 #[.slice (some ⟨g,0,none⟩) 3 3] w (eJ w (.int .i64 x)):=by
  intro x hx;have c0:w.cell? ⟨g,0,none⟩=some (.int .i64 a):=h.cell 0;have c1:w.cell? ⟨g,1,none⟩=some (.int .i64 b):=h.cell 1;have c2:w.cell? ⟨g,2,none⟩=some (.int .i64 c):=h.cell 2;clear h;have HX:=hIz hx;clear hx;go_enter Tryz.func126,Tryz.ntmps126;go_wp2_with fail;go_loop [5,8] (fun _ i=>∃k:Nat,k≤3∧i=.int .i64 k∧Hid ((1≤k→a=0)∧(2≤k→b=0)∧(3≤k→c=0))) (fun _ i=>3-(intOf i).toNat)
  case atStart=>exact⟨0,by omega,rfl,hIz ⟨by omega,by omega,by omega⟩⟩
  case round =>
   obtain⟨k,hk,rfl,hz⟩:=hrel;have hk4:k=0∨k=1∨k=2∨k=3:=by omega
   rcases hk4 with rfl|rfl|rfl|rfl
   ·by_cases ha:a=0
    ·have HA:=hIz ha;have e:(a==0)=true:=by simpa using ha
     go_wp2;go_round
     case rel=>exact⟨1,by omega,rfl,hIz ⟨fun _=>HA.out,by omega,by omega⟩⟩
     case measure=>simp[intOf]
    ·have HA:=hIz ha;go_wp2;go_ret;refine⟨?_,rfl⟩;rw[← HX.out,or3,if_pos HA.out];rfl
   ·by_cases ha:b=0
    ·have HA:=hIz ha;go_wp2;go_round
     case rel=>exact⟨2,by omega,rfl,hIz ⟨fun _=>hz.out.1 (by omega),fun _=>HA.out,by omega⟩⟩
     case measure=>simp[intOf]
    ·have HA:=hIz ha;go_wp2;go_ret;refine⟨?_,rfl⟩;rw[← HX.out,or3,if_neg (by simp[hz.out.1 (by omega)]),if_pos HA.out];rfl
   ·by_cases ha:c=0
    ·have HA:=hIz ha;go_wp2;go_round
     case rel=>exact⟨3,by omega,rfl,hIz ⟨fun _=>hz.out.1 (by omega),fun _=>hz.out.2.1 (by omega),fun _=>HA.out⟩⟩
     case measure=>simp[intOf]
    ·have HA:=hIz ha;go_wp2;go_ret;refine⟨?_,rfl⟩;rw[← HX.out,or3,if_neg (by simp[hz.out.1 (by omega)]),if_neg (by simp[hz.out.2.1 (by omega)])];rfl
   ·go_wp2;go_ret;refine⟨?_,rfl⟩;rw[← HX.out,or3,if_neg (by simp[hz.out.1 (by omega)]),if_neg (by simp[hz.out.2.1 (by omega)]),hz.out.2.2 (by omega)];rfl
 exact key _ rfl

def PA(w:World)(v:Value)(e:Ending)(w':World):Prop:=e=.returned v∧∃q os,w'=Sort.grow (w.drewN q) os
theorem PA.below{w w':World}{v:Value}{e:Ending}(h:PA w v e w'):Below w.heap.size w w':=by
 obtain⟨-,q,os,rfl⟩:=h;refine⟨rfl,rfl,rfl,by simp[Sort.grow,World.drewN],fun k hk=>?_⟩;simp only[Sort.grow,World.drewN]
 rw[Array.getElem?_append_left hk]

theorem pM(x y:Ed)(w:World):Calls Tryz.prog 130 #[x.agg,y.agg] w (PA w (.int .i64 (FA x y))):=by
 obtain⟨a0,a1,a2⟩:=x;obtain⟨b0,b1,b2⟩:=y;rw[KH];dsimp only
 obtain⟨v0,e0⟩:∃v,jT a0 b0=v:=⟨_,rfl⟩;obtain⟨v1,e1⟩:∃v,jT a1 b1=v:=⟨_,rfl⟩;obtain⟨v2,e2⟩:∃v,jT a2 b2=v:=⟨_,rfl⟩;have H0:=fun W=>eQ a0 b0 W
 have H1:=fun W=>eQ a1 b1 W
 have H2:=fun W=>eQ a2 b2 W
 rw[e0] at H0 ⊢;rw[e1] at H1 ⊢;rw[e2] at H2 ⊢;clear e0 e1 e2;have k0:=(Blk.new w 32 #[.string a0,.string a1,.string a2]).alloc (.cells #[.string b0,.string b1,.string b2] 32);have k1:=Blk.new (w.alloc (.cells #[.string a0,.string a1,.string a2] 32)) 32 #[.string b0,.string b1,.string b2];simp only[World.size_alloc] at k1
 have HK:=aI2 k0 k1;have hg:∀o,Sort.grow (w.drewN 1) #[.cells #[.string a0,.string a1,.string a2] 32,.cells #[.string b0,.string b1,.string b2] 32,o]=((w.alloc (.cells #[.string a0,.string a1,.string a2] 32)).alloc (.cells #[.string b0,.string b1,.string b2] 32)).drew.alloc o:=fun o=>by
  rw[Sort.alloc_eq_grow,Sort.alloc_eq_grow,Sort.alloc_eq_grow,Sort.grow_grow,Sort.drew_grow,Sort.grow_grow];rfl
 have HG:=hIz hg;clear k0 k1 hg;unfold Ed.agg;go_enter Tryz.func130,Tryz.ntmps130;go_upto_region 1 with (fail);generalize (w.alloc (.cells #[.string a0,.string a1,.string a2] 32)).alloc (.cells #[.string b0,.string b1,.string b2] 32)=W0 at HK HG ⊢;have c00:W0.cell? ⟨w.heap.size,0,none⟩=some (.string a0):=HK.out.1.cell 0;have c01:W0.cell? ⟨w.heap.size,1,none⟩=some (.string a1):=HK.out.1.cell 1;have c02:W0.cell? ⟨w.heap.size,2,none⟩=some (.string a2):=HK.out.1.cell 2;have c10:W0.cell? ⟨w.heap.size+1,0,none⟩=some (.string b0):=HK.out.2.cell 0;have c11:W0.cell? ⟨w.heap.size+1,1,none⟩=some (.string b1):=HK.out.2.cell 1;have c12:W0.cell? ⟨w.heap.size+1,2,none⟩=some (.string b2):=HK.out.2.cell 2;refine aO (fun w'=>w'.cell? ⟨w.heap.size,0,none⟩=some (.string a0)∧w'.cell? ⟨w.heap.size,1,none⟩=some (.string a1)∧w'.cell? ⟨w.heap.size,2,none⟩=some (.string a2)∧w'.cell? ⟨w.heap.size+1,0,none⟩=some (.string b0)∧w'.cell? ⟨w.heap.size+1,1,none⟩=some (.string b1)∧w'.cell? ⟨w.heap.size+1,2,none⟩=some (.string b2)) 18
  [(0,true),(1,true),(2,true),(3,true),(5,true),(6,true),(7,true),(8,true),(10,true),(11,true),(12,true),(13,true),(4,false),(9,false),(14,false),(15,false),(16,false),(17,true)] (by kernel_rfl) (by kernel_rfl) (fun _ _ d _ _ h=>by cases d <;> exact h) ⟨c00,c01,c02,c10,c11,c12⟩ ?_
 iterate 12 refine aB rfl ?_
 refine aN rfl rfl (fun K hK=>?_);go_simp;refine(H0 _).mono ?_;rintro e w1 ⟨rfl,rfl⟩;refine hK _ _ (fun _=>⟨c00,c01,c02,c10,c11,c12⟩) ?_;clear hK K;(try simp only[Act.put,gA,gS,gZ,sA,sZ,sS])
 refine aN rfl rfl (fun K hK=>?_);go_simp;refine(H1 _).mono ?_;rintro e w1 ⟨rfl,rfl⟩;refine hK _ _ (fun _=>⟨c00,c01,c02,c10,c11,c12⟩) ?_;clear hK K;(try simp only[Act.put,gA,gS,gZ,sA,sZ,sS])
 refine aN rfl rfl (fun K hK=>?_);go_simp;refine(H2 _).mono ?_;rintro e w1 ⟨rfl,rfl⟩;refine hK _ _ (fun _=>⟨c00,c01,c02,c10,c11,c12⟩) ?_;clear hK K;(try simp only[Act.put,gA,gS,gZ,sA,sZ,sS])
 have bA:Below W0.heap.size W0 (W0.drew.alloc (.cells #[.int .i64 v0,.int .i64 v1,.int .i64 v2] 3)):=by(repeat (first | exact Below.refl _ _ | apply Below.drew | refine Below.alloc ?_ (by first | exact Nat.le_refl _ | (simp;done) | (simp;omega)) _ | refine Below.setCell ?_ (by first | exact Nat.le_refl _ | (simp;done) | (simp;omega)) _))
 have up:∀w',Below W0.heap.size W0 w'→w'.cell? ⟨w.heap.size,0,none⟩=some (.string a0)∧w'.cell? ⟨w.heap.size,1,none⟩=some (.string a1)∧w'.cell? ⟨w.heap.size,2,none⟩=some (.string a2)∧w'.cell? ⟨w.heap.size+1,0,none⟩=some (.string b0)∧w'.cell? ⟨w.heap.size+1,1,none⟩=some (.string b1)∧w'.cell? ⟨w.heap.size+1,2,none⟩=some (.string b2):=fun w' hb=>by
  have u:=Upd.of_below hb (fun _=>False);have h1:=HK.out.1.upd u id;have h2:=HK.out.2.upd u id;exact⟨h1.cell 0,h1.cell 1,h1.cell 2,h2.cell 0,h2.cell 1,h2.cell 2⟩
 have SA:=hIz (up _ bA);have kA:=Blk.new W0.drew 3 #[.int .i64 v0,.int .i64 v1,.int .i64 v2];have HA:=hIz (KI _ _ v0 v1 v2 kA);clear up bA kA;refine aN rfl rfl (fun K hK=>?_);go_simp;refine hK _ _ (fun _=>SA.out) ?_;clear hK K;(try simp only[Act.put,gA,gS,gZ,sA,sZ,sS])
 refine aN rfl rfl (fun K hK=>?_);go_simp;refine HA.out.mono ?_;rintro e w1 ⟨rfl,rfl⟩;refine hK _ _ (fun _=>SA.out) ?_;clear hK K;(try simp only[Act.put,gA,gS,gZ,sA,sZ,sS])
 refine aB rfl ?_;refine aF ?_;go_wp2;go_ret;exact⟨rfl,1,_,(HG.out _).symm⟩
open Go.RowKit
def aC(N:List Txt):List Value:=N.map Value.string
def aH(E:List Ed):List Value:=E.flatMap Ed.cells
theorem cC(N:List Txt):(aC N).length=N.length*1:=by simp[aC]
theorem bK(E:List Ed):(aH E).length=E.length*3:=dS Ed.cells 3 (fun _=>rfl) E
theorem gT(N:List Txt):∀u∈aC N,u.oneCell'=true:=by
 intro u hu;obtain⟨f,_,rfl⟩:=List.mem_map.1 hu;rfl
theorem mJ(E:List Ed):∀u∈aH E,u.oneCell'=true:=by
 intro u hu;obtain⟨f,_,hf⟩:=List.mem_flatMap.1 hu;simp[Ed.cells] at hf
 rcases hf with rfl|rfl|rfl <;> rfl
def cT(s:Txt):Prop:=s.size≤9223372036854775807
def pE(x:Ed):Prop:=cT x.fr∧cT x.lb∧cT x.to
theorem aV.txt{w:World}{A:Option Addr}{N:List Txt}(h:aV w A (aC N)){k:Nat}{s:Txt}(hk:N[k]?=some s) :
  ∃b o,A=some ⟨b,o,none⟩∧w.cell? ⟨b,o+k,none⟩=some (.string s):=h k (.string s) (by simp[aC,hk])
theorem aV.ed{w:World}{B:Option Addr}{E:List Ed}(h:aV w B (aH E)){k:Nat}{x:Ed}(hk:E[k]?=some x) :
  ∃b o,B=some ⟨b,o,none⟩∧w.cell? ⟨b,o+k*3,none⟩=some (.string x.fr)∧w.cell? ⟨b,o+k*3+1,none⟩=some (.string x.lb)∧w.cell? ⟨b,o+k*3+2,none⟩=some (.string x.to):=by
 have hg:=fun j (hj:j<3)=>dR Ed.cells 3 (fun _=>rfl) E k j x hk hj
 obtain⟨b,o,rfl,h0⟩:=h _ _ (hg 0 (by omega));obtain⟨b1,o1,e1,h1⟩:=h _ _ (hg 1 (by omega));obtain⟨b2,o2,e2,h2⟩:=h _ _ (hg 2 (by omega));injection e1 with e1;injection e1 with e1 e1';injection e2 with e2;injection e2 with e2 e2';subst e1;subst e1';subst e2;subst e2';exact⟨_,_,rfl,h0,h1,h2⟩

structure yM(N:List Txt)(E:List Ed):Prop where
 n:N.length*16≤140737488355328
 e:E.length*48≤140737488355328
 tn:∀s∈N,cT s
 te:∀x∈E,pE x
structure dX(w:World)(A:Option Addr)(c:Nat)(B:Option Addr)(d:Nat)(N:List Txt)(E:List Ed):Prop where
 rn:aV w A (aC N)
 re:aV w B (aH E)
 hc:N.length≤c
 hd:E.length≤d
 fit:yM N E
theorem dX.below{w w':World}{A B:Option Addr}{c d:Nat}{N:List Txt}{E:List Ed}(h:dX w A c B d N E)(hb:Below w.heap.size w w'):dX w' A c B d N E:=⟨h.rn.below hb,h.re.below hb,h.hc,h.hd,h.fit⟩
def bQ(A:Option Addr)(n c:Nat)(B:Option Addr)(m d:Nat):Value:=.agg #[.slice A n c,.slice B m d]

def upB{α:Type}(lt:α→α→Bool):List α→Bool
 | []=>true
 | [_]=>true
 | a::b::l=>lt a b&&upB lt (b::l)
theorem lM{α:Type}{lt:α→α→Bool}:∀(l:List α),upB lt l=true↔∀i a b,l[i]?=some a→l[i+1]?=some b→lt a b=true
 | []=>by simp[upB]
 | [x]=>by simp[upB]
 | x::y::l=>by
  have ih:=lM (lt:=lt) (y::l);rw[upB,Bool.and_eq_true,ih];constructor
  ·rintro⟨h1,h2⟩ i a b ha hb;cases i with
   | zero =>
    simp at ha hb
    subst ha;subst hb;exact h1
   | succ i=>exact h2 i a b (by simpa using ha) (by simpa using hb)
  ·intro h;exact⟨h 0 x y rfl rfl,fun i a b ha hb=>h (i+1) a b (by simpa using ha) (by simpa using hb)⟩
theorem eR{α:Type}{lt:α→α→Bool}(hs:Sto lt):∀{l:List α},upB lt l=true→cL lt l
 | [],_=>.nil
 | [_],_=>List.pairwise_singleton _ _
 | x::y::l,h=>by
  rw[upB,Bool.and_eq_true] at h;have ih:=eR hs h.2;refine List.pairwise_cons.2 ⟨fun z hz=>?_,ih⟩;rcases List.mem_cons.1 hz with rfl|hz
  ·exact h.1
  ·exact hs.tr _ _ _ h.1 ((List.pairwise_cons.1 ih).1 z hz)
theorem fJ{α:Type}{lt:α→α→Bool}:∀{l:List α},cL lt l→upB lt l=true
 | [],_=>rfl
 | [_],_=>rfl
 | x::y::l,h=>by
  obtain⟨h1,h2⟩:=List.pairwise_cons.1 h;rw[upB,h1 y (by simp),fJ h2];rfl
theorem mX{α:Type}{lt:α→α→Bool}{l:List α}{i:Nat}{a b:α}(ha:l[i]?=some a)(hb:l[i+1]?=some b)(h:lt a b=false):upB lt l=false:=by
 cases e:upB lt l
 ·rfl
 ·rw[(lM l).1 e i a b ha hb] at h;cases h

theorem yN(w:World)(A:Option Addr)(c:Nat)(N:List Txt)(h:aV w A (aC N))(_hc:N.length≤c)(hn:N.length*16≤140737488355328) :
  Calls Tryz.prog 128 #[.slice A N.length c,.func (.func 80) #[] #[]] w (Sam w (.bool (upB ltT N))):=by
 have HH:=hIz h;clear h;go_enter Tryz.func128,Tryz.ntmps128;go_wp2_with fail;go_loopw [5] (fun i wr=>∃k:Nat,k≤N.length∧i=.int .i64 ((k:Int)+1)∧Hid (Below w.heap.size w wr)∧Hid (∀j,j<k→∀a b,N[j]?=some a→N[j+1]?=some b→ltT a b=true)) (fun i _=>N.length+1-(intOf i).toNat)
 case atStart=>exact⟨0,Nat.zero_le _,rfl,hIz bR,hIz (fun j hj=>by omega)⟩
 case round =>
  obtain⟨k,hk,rfl,hb,hall⟩:=hrel;have hkw:IntKind.i64.wrap (k:Int)=(k:Int):=IntWalk.i64_in _ (by omega);have hkw2:IntKind.i64.wrap ((k:Int)+1+1)=(k:Int)+1+1:=IntWalk.i64_in _ (by omega);by_cases hlt:k+1<N.length
  ·have hltI:(k:Int)+1<(N.length:Int):=by omega
   have hltI2:(k:Int)<(N.length:Int):=by omega
   have ht:((k:Int)+1).toNat=k+1:=by omega
   have hn0:(0:Int)≤(k:Int)+1:=by omega
   have h0:=HH.out.below hb.out;obtain⟨x,hx⟩:∃x,N[k]?=some x:=⟨N[k],gEz _⟩;obtain⟨y,hy⟩:∃y,N[k+1]?=some y:=⟨N[k+1],gEz _⟩;obtain⟨ab,ao,rfl,x0⟩:=h0.txt hx;obtain⟨_,_,e1,y0⟩:=h0.txt hy;injection e1 with e1;injection e1 with e1 e2;subst e1;subst e2;have HXY:=aI2 hx hy;clear h0 hx hy;have b2':Below wr.heap.size wr wr.drew:=bR.drew;clear b2';go_upto_region 4 with (fail);refine aO (fun w'=>w'.cell? ⟨ab,ao+k,none⟩=some (.string x)∧w'.cell? ⟨ab,ao+(k+1),none⟩=some (.string y)) 12 [(0,true),(1,true),(2,true),(3,true),(4,true),(5,true),(6,true),(7,true),(8,true),(9,true),(10,false),(11,true)] (by kernel_rfl) (by kernel_rfl) (fun _ _ d _ _ h=>by cases d <;> exact h) ⟨x0,y0⟩ ?_
   iterate 10 refine aB rfl ?_
   refine aN rfl rfl (fun K hK=>?_);go_simp;refine(eQ x y _).mono ?_;rintro e w2 ⟨rfl,rfl⟩;have b2:Below wr.heap.size wr wr.drew:=bR.drew;have hcmp:=jE x y;obtain⟨v,hv⟩:∃v,jT x y=v:=⟨_,rfl⟩;rw[hv] at hcmp ⊢;clear hv;refine hK _ _ (fun _=>⟨x0,y0⟩) ?_;clear hK K;(try simp only[Act.put,gA,gS,gZ,sA,sZ,sS])
   have HB:=hIz (tHn hb.out b2);have HC:=hIz hcmp;clear hcmp b2;by_cases hv:v<0
   ·have hv1:decide (0≤v)=false:=by simpa using hv
    have hlt2:ltT x y=true:=by rw[← HC.out];simpa using hv
    have HL:=hIz hlt2;clear hlt2;refine aB rfl ?_;refine aF ?_;go_wp2;go_roundw
    case rel=>exact⟨k+1,by omega,by go_num,HB,hIz (fun j hj a b ha hb=>by
     rcases Nat.lt_succ_iff_lt_or_eq.1 hj with h|rfl
     ·exact hall.out j h a b ha hb
     ·rw[HXY.out.1] at ha;rw[HXY.out.2] at hb;injection ha with ha;injection hb with hb;subst ha;subst hb;exact HL.out)⟩
    case measure=>simp[intOf];omega
   ·have hv1:decide (0≤v)=true:=by simpa using hv
    have hlt2:ltT x y=false:=by rw[← HC.out];simpa using hv
    have HL:=hIz hlt2;clear hlt2;refine aB rfl ?_;refine aF ?_;go_wp2;go_ret;exact⟨fV (mX HXY.out.1 HXY.out.2 HL.out).symm,HB.out⟩
  ·have hgeI:(N.length:Int)≤(k:Int)+1:=by omega
   go_wp2;go_ret;refine⟨fV ?_,hb.out⟩;refine((lM N).2 (fun i a b ha hb'=>?_)).symm;have:=(gO.1 hb').1;exact hall.out i (by omega) a b ha hb'

theorem AC(w:World)(A:Option Addr)(c:Nat)(N:List Ed)(h:aV w A (aH N))(_hc:N.length≤c)(hn:N.length*48≤140737488355328) :
  Calls Tryz.prog 129 #[.slice A N.length c,.func (.func 130) #[] #[]] w (Sam w (.bool (upB ltE N))):=by
 have HH:=hIz h;clear h;go_enter Tryz.func129,Tryz.ntmps129;go_wp2_with fail;go_loopw [5] (fun i wr=>∃k:Nat,k≤N.length∧i=.int .i64 ((k:Int)+1)∧Hid (Below w.heap.size w wr)∧Hid (∀j,j<k→∀a b,N[j]?=some a→N[j+1]?=some b→ltE a b=true)) (fun i _=>N.length+1-(intOf i).toNat)
 case atStart=>exact⟨0,Nat.zero_le _,rfl,hIz bR,hIz (fun j hj=>by omega)⟩
 case round =>
  obtain⟨k,hk,rfl,hb,hall⟩:=hrel;have hkw:IntKind.i64.wrap (k:Int)=(k:Int):=IntWalk.i64_in _ (by omega);have hkw2:IntKind.i64.wrap ((k:Int)+1+1)=(k:Int)+1+1:=IntWalk.i64_in _ (by omega);by_cases hlt:k+1<N.length
  ·have hltI:(k:Int)+1<(N.length:Int):=by omega
   have hltI2:(k:Int)<(N.length:Int):=by omega
   have ht:((k:Int)+1).toNat=k+1:=by omega
   have hn0:(0:Int)≤(k:Int)+1:=by omega
   have h0:=HH.out.below hb.out;obtain⟨⟨x1,x2,x3⟩,hx⟩:∃x,N[k]?=some x:=⟨N[k],gEz _⟩;obtain⟨⟨y1,y2,y3⟩,hy⟩:∃y,N[k+1]?=some y:=⟨N[k+1],gEz _⟩;obtain⟨ab,ao,rfl,x0,x0',x0''⟩:=h0.ed hx;obtain⟨_,_,e1,y0,y0',y0''⟩:=h0.ed hy;injection e1 with e1;injection e1 with e1 e2;subst e1;subst e2;dsimp only at x0 x0' x0'' y0 y0' y0''
   have HXY:=aI2 hx hy;clear h0 hx hy;have b2':Below wr.heap.size wr wr.drew:=bR.drew;clear b2';go_upto_region 4 with (fail);refine aO (fun w'=>w'.cell? ⟨ab,ao+k*3,none⟩=some (.string x1)∧w'.cell? ⟨ab,ao+k*3+1,none⟩=some (.string x2)∧w'.cell? ⟨ab,ao+k*3+2,none⟩=some (.string x3)∧w'.cell? ⟨ab,ao+(k+1)*3,none⟩=some (.string y1)∧w'.cell? ⟨ab,ao+(k+1)*3+1,none⟩=some (.string y2)∧w'.cell? ⟨ab,ao+(k+1)*3+2,none⟩=some (.string y3)) 12 [(0,true),(1,true),(2,true),(3,true),(4,true),(5,true),(6,true),(7,true),(8,true),(9,true),(10,false),(11,true)] (by kernel_rfl) (by kernel_rfl) (fun _ _ d _ _ h=>by cases d <;> exact h) ⟨x0,x0',x0'',y0,y0',y0''⟩ ?_
   iterate 10 refine aB rfl ?_
   refine aN rfl rfl (fun K hK=>?_);go_simp;refine(pM ⟨x1,x2,x3⟩ ⟨y1,y2,y3⟩ _).mono ?_;intro e w2 hL;have b2:Below wr.heap.size wr w2:=(Below.refl wr.heap.size wr).drew.trans hL.below;obtain⟨rfl,-⟩:=hL;have hcmp:=vE ⟨x1,x2,x3⟩ ⟨y1,y2,y3⟩;obtain⟨v,hv⟩:∃v,FA ⟨x1,x2,x3⟩ ⟨y1,y2,y3⟩=v:=⟨_,rfl⟩;rw[hv] at hcmp ⊢;clear hv;have sb:w2.cell? ⟨ab,ao+k*3,none⟩=some (.string x1)∧w2.cell? ⟨ab,ao+k*3+1,none⟩=some (.string x2)∧w2.cell? ⟨ab,ao+k*3+2,none⟩=some (.string x3)∧w2.cell? ⟨ab,ao+(k+1)*3,none⟩=some (.string y1)∧w2.cell? ⟨ab,ao+(k+1)*3+1,none⟩=some (.string y2)∧w2.cell? ⟨ab,ao+(k+1)*3+2,none⟩=some (.string y3):=by
    have hbl:ab<wr.heap.size:=World.block_lt_of_cell? wr _ x0;have cc:=fun j=>b2.cell (p:=⟨ab,j,none⟩) hbl
    exact⟨(cc _).trans x0,(cc _).trans x0',(cc _).trans x0'',(cc _).trans y0,(cc _).trans y0',(cc _).trans y0''⟩
   refine hK _ _ (fun _=>sb) ?_;clear hK K;(try simp only[Act.put,gA,gS,gZ,sA,sZ,sS])
   have HB:=hIz (tHn hb.out b2);have HC:=hIz hcmp;clear hcmp b2;by_cases hv:v<0
   ·have hv1:decide (0≤v)=false:=by simpa using hv
    have hlt2:ltE ⟨x1,x2,x3⟩ ⟨y1,y2,y3⟩=true:=by rw[← HC.out];simpa using hv
    have HL:=hIz hlt2;clear hlt2;refine aB rfl ?_;refine aF ?_;go_wp2;go_roundw
    case rel=>exact⟨k+1,by omega,by go_num,HB,hIz (fun j hj a b ha hb=>by
     rcases Nat.lt_succ_iff_lt_or_eq.1 hj with h|rfl
     ·exact hall.out j h a b ha hb
     ·rw[HXY.out.1] at ha;rw[HXY.out.2] at hb;injection ha with ha;injection hb with hb;subst ha;subst hb;exact HL.out)⟩
    case measure=>simp[intOf];omega
   ·have hv1:decide (0≤v)=true:=by simpa using hv
    have hlt2:ltE ⟨x1,x2,x3⟩ ⟨y1,y2,y3⟩=false:=by rw[← HC.out];simpa using hv
    have HL:=hIz hlt2;clear hlt2;refine aB rfl ?_;refine aF ?_;go_wp2;go_ret;exact⟨fV (mX HXY.out.1 HXY.out.2 HL.out).symm,HB.out⟩
  ·have hgeI:(N.length:Int)≤(k:Int)+1:=by omega
   go_wp2;go_ret;refine⟨fV ?_,hb.out⟩;refine((lM N).2 (fun i a b ha hb'=>?_)).symm;have:=(gO.1 hb').1;exact hall.out i (by omega) a b ha hb'
open Go.RowKit
def dY(x:Ed):Bool:=cH x.fr&&(eP x.lb&&cH x.to)
def bT(N:List Txt)(E:List Ed):Bool:=N.all cH&&E.all dY
theorem bE{α:Type}{p:α→Bool}{l:List α}{k:Nat}{x:α}(h:l[k]?=some x)(hp:p x=false):l.all p=false:=by
 rw[List.all_eq_false];exact⟨x,mG h,by rw[hp];simp⟩
theorem eS{α:Type}{p:α→Bool}{l:List α}(h:∀(k:Nat) (x:α),l[k]?=some x→p x=true):l.all p=true:=by
 rw[List.all_eq_true];intro x hx;obtain⟨k,hk⟩:=List.mem_iff_getElem?.1 hx;exact h k x hk

theorem sL(w:World)(A:Option Addr)(c:Nat)(B:Option Addr)(d:Nat)(N:List Txt)(E:List Ed)(h:dX w A c B d N E) :
  Calls Tryz.prog 90 #[bQ A N.length c B E.length d] w (Sam w (.bool (bT N E))):=by
 have k0:=Blk.new w 34 #[.slice A N.length c,.slice B E.length d];have u0:Below w.heap.size w (w.alloc (.cells #[.slice A N.length c,.slice B E.length d] 34)):=bR.alloc (Nat.le_refl _) _;have hn:N.length≤140737488355328:=by have:=h.fit.n;omega
 have hd:E.length≤140737488355328:=by have:=h.fit.e;omega
 have HA:=aI2 h.fit.tn h.fit.te;have H:=aI3 (h.below u0) k0 u0;clear h k0 u0;unfold bQ;go_enter Tryz.func90,Tryz.ntmps90;go_upto_region 1 with (fail);generalize w.alloc (.cells #[.slice A N.length c,.slice B E.length d] 34)=W0 at H ⊢;have q0:W0.cell? ⟨w.heap.size,0,none⟩=some (.slice A N.length c):=H.out.2.1.cell 0;have q1:W0.cell? ⟨w.heap.size,1,none⟩=some (.slice B E.length d):=H.out.2.1.cell 1;go_wp2_with fail;go_loop [4,10] (fun _ i=>∃k:Nat,k≤N.length∧i=.int .i64 k∧Hid (∀j,j<k→∀x,N[j]?=some x→cH x=true)) (fun _ i=>N.length-(intOf i).toNat)
 case atStart=>exact⟨0,Nat.zero_le _,rfl,hIz (fun j hj=>by omega)⟩
 case round =>
  obtain⟨k,hk,rfl,hall⟩:=hrel;by_cases hlt:k<N.length
  ·have hltI:(k:Int)<(N.length:Int):=by omega
   have hkw:IntKind.i64.wrap ((k:Int)+1)=(k:Int)+1:=IntWalk.i64_in _ (by omega);obtain⟨x,hx⟩:∃x,N[k]?=some x:=⟨N[k],gEz _⟩;obtain⟨ab,ao,rfl,x0⟩:=H.out.1.rn.txt hx;have hcon:=fun w=>jV x w (HA.out.1 x (mG hx))
   obtain⟨b,hb⟩:∃b,cH x=b:=⟨_,rfl⟩;rw[hb] at hcon;have HX:=aI2 hx hb;clear hx hb;cases b
   ·go_wp2_with fail;refine(hcon _).mono ?_;rintro e w' ⟨rfl,rfl⟩;go_wp2;go_ret;refine⟨fV ?_,H.out.2.2⟩;rw[bT,bE HX.out.1 HX.out.2,Bool.false_and]
   ·go_wp2_with fail;refine(hcon _).mono ?_;rintro e w' ⟨rfl,rfl⟩;go_wp2;go_round
    case rel=>exact⟨k+1,by omega,by go_num,hIz (fun j hj y hy=>by
     rcases Nat.lt_succ_iff_lt_or_eq.1 hj with h|rfl
     ·exact hall.out j h y hy
     ·rw[HX.out.1] at hy;injection hy with hy;rw[← hy];exact HX.out.2)⟩
    case measure=>simp[intOf];omega
  ·obtain rfl:k=N.length:=by omega
   have hN:N.all cH=true:=eS (fun j x hx=>hall.out j (gO.1 hx).1 x hx);have HN:=hIz hN;clear hN hall hk hlt;go_wp2_with fail;clear q0 q1;go_loopw [6,21] (fun _ i wr=>∃k:Nat,k≤E.length∧i=.int .i64 k∧Hid (Below W0.heap.size W0 wr)∧Hid (∀j,j<k→∀x,E[j]?=some x→dY x=true)) (fun _ i _=>E.length-(intOf i).toNat)
   case atStart=>exact⟨0,Nat.zero_le _,rfl,hIz bR,hIz (fun j hj=>by omega)⟩
   case round =>
    obtain⟨k,hk,rfl,hb,hall⟩:=hrel;by_cases hlt:k<E.length
    ·have hltI:(k:Int)<(E.length:Int):=by omega
     have hkw:IntKind.i64.wrap ((k:Int)+1)=(k:Int)+1:=IntWalk.i64_in _ (by omega);obtain⟨⟨s0,s1,s2⟩,hx⟩:∃x,E[k]?=some x:=⟨E[k],gEz _⟩;obtain⟨ab,ao,rfl,x0,x1,x2⟩:=(H.out.1.below hb.out).re.ed hx;dsimp only at x0 x1 x2
     have hok:=HA.out.2 _ (mG hx);have c0:=fun w=>jV s0 w hok.1
     have c1:=fun w=>AB s1 w hok.2.1
     have c2:=fun w=>jV s2 w hok.2.2
     obtain⟨v0,e0⟩:∃b,cH s0=b:=⟨_,rfl⟩;obtain⟨v1,e1⟩:∃b,eP s1=b:=⟨_,rfl⟩;obtain⟨v2,e2⟩:∃b,cH s2=b:=⟨_,rfl⟩;rw[e0] at c0;rw[e1] at c1;rw[e2] at c2;have hv:dY ⟨s0,s1,s2⟩=(v0&&(v1&&v2)):=by rw[dY,e0,e1,e2]
     have kx:=Blk.new wr 32 #[.string s0,.string s1,.string s2];have bx:Below wr.heap.size wr (wr.alloc (.cells #[.string s0,.string s1,.string s2] 32)):=bR.alloc (Nat.le_refl _) _;have HX:=aI4 hx hv kx (tHn hb.out bx);clear hx hok e0 e1 e2 hv kx bx;go_upto_region 10 with (fail);generalize wr.alloc (.cells #[.string s0,.string s1,.string s2] 32)=W1 at HX ⊢;clear x0 x1 x2;have x0:W1.cell? ⟨wr.heap.size,0,none⟩=some (.string s0):=HX.out.2.2.1.cell 0;have x1:W1.cell? ⟨wr.heap.size,1,none⟩=some (.string s1):=HX.out.2.2.1.cell 1;have x2:W1.cell? ⟨wr.heap.size,2,none⟩=some (.string s2):=HX.out.2.2.1.cell 2;go_wp2_with fail;refine(c0 _).mono ?_;rintro e w' ⟨rfl,rfl⟩;cases v0
     ·go_wp2;go_ret;refine⟨fV ?_,tHn H.out.2.2 HX.out.2.2.2⟩;rw[bT,bE (p:=dY) HX.out.1 HX.out.2.1,Bool.and_false]
     ·go_wp2_with fail;refine(c1 _).mono ?_;rintro e w' ⟨rfl,rfl⟩;cases v1
      ·go_wp2;go_ret;refine⟨fV ?_,tHn H.out.2.2 HX.out.2.2.2⟩;rw[bT,bE (p:=dY) HX.out.1 HX.out.2.1,Bool.and_false]
      ·go_wp2_with fail;refine(c2 _).mono ?_;rintro e w' ⟨rfl,rfl⟩;cases v2
       ·go_wp2;go_ret;refine⟨fV ?_,tHn H.out.2.2 HX.out.2.2.2⟩;rw[bT,bE (p:=dY) HX.out.1 HX.out.2.1,Bool.and_false]
       ·go_wp2;go_roundw
        case rel=>exact⟨k+1,by omega,by go_num,hIz HX.out.2.2.2,hIz (fun j hj y hy=>by
         rcases Nat.lt_succ_iff_lt_or_eq.1 hj with h|rfl
         ·exact hall.out j h y hy
         ·rw[HX.out.1] at hy;injection hy with hy;rw[← hy];exact HX.out.2.1)⟩
        case measure=>simp[intOf];omega
    ·obtain rfl:k=E.length:=by omega
     go_wp2;go_ret;refine⟨fV ?_,tHn H.out.2.2 hb.out⟩;rw[bT,HN.out,Bool.true_and];exact(eS (fun j x hx=>hall.out j (gO.1 hx).1 x hx)).symm

def kvN(N:List Txt):Nat→List (Value × Value)
 | 0=>[]
 | k+1=>match N[k]? with
  | some s=>kvN N k++[(.string s,.int .i64 ((k:Int)+1))]
  | none=>kvN N k
theorem lN(N:List Txt):∀k,∀q∈kvN N k,∃(i:Nat) (s:Txt),i<k∧N[i]?=some s∧q=(.string s,.int .i64 ((i:Int)+1))
 | 0,q,h=>by simp[kvN] at h
 | k+1,q,h=>by
  unfold kvN at h;cases hx:N[k]? with
  | none =>
   rw[hx] at h;obtain⟨i,s,h1,h2,h3⟩:=lN N k q h;exact⟨i,s,by omega,h2,h3⟩
  | some s =>
   rw[hx] at h;rcases List.mem_append.1 h with h|h
   ·obtain⟨i,s,h1,h2,h3⟩:=lN N k q h;exact⟨i,s,by omega,h2,h3⟩
   ·exact⟨k,s,by omega,hx,List.mem_singleton.1 h⟩
theorem AD(N:List Txt):∀k (i:Nat) (s:Txt),i<k→N[i]?=some s→((.string s,.int .i64 ((i:Int)+1)):Value × Value)∈kvN N k
 | 0,_,_,h,_=>by omega
 | k+1,i,s,h,hi=>by
  unfold kvN;by_cases e:i=k
  ·subst e;rw[hi];simp
  ·have:=AD N k i s (by omega) hi;cases N[k]? with
   | none=>exact this
   | some _=>exact List.mem_append.2 (.inl this)
theorem fK:Maps.Keyed Tryz.prog 9:=Maps.string_keyed Tryz.underlying9
theorem lO{s:Txt}(hs:cT s):∃l,keyOf Tryz.prog 9 (.string s)=some l:=by
 have h:s.size≤maxLen:=hs;simp[keyOf,mapKey,Tryz.underlying9,h]
def inB(s:Txt)(N:List Txt):Bool:=N.any fun t=>decide (t=s)
theorem aQ{s:Txt}{N:List Txt}:inB s N=true↔s∈N:=by
 unfold inB;rw[List.any_eq_true];constructor
 ·rintro⟨t,h,e⟩;rw[of_decide_eq_true e] at h;exact h
 ·intro h;exact⟨s,h,by simp⟩
theorem KJ{N:List Txt}(hN:upB ltT N=true){k:Nat}{s:Txt}(hs:N[k]?=some s):∀q∈kvN N k,q.1≠.string s:=by
 intro q hq e;obtain⟨i,t,hi,ht,rfl⟩:=lN N k q hq;simp only[Value.string.injEq] at e
 subst e;have h:=eR dW hN;have h1:=List.pairwise_iff_getElem.1 h i k (gO.1 ht).1 (gO.1 hs).1 hi;rw[(gO.1 ht).2,(gO.1 hs).2,dW.irr] at h1;cases h1
theorem sM{w:World}{r:Nat}{N:List Txt}(h:cX w Tryz.prog 9 r (kvN N N.length))(s:Txt)(hk:cT s) :
  ∃v:Int,(Instr.lookup 105 (.map (some r)) (.string s) false).run Tryz.prog w=.ok (.int .i64 v) w∧((v==0)=!inB s N)∧0≤v:=by
 by_cases hs:s∈N
 ·obtain⟨i,hi⟩:=List.mem_iff_getElem?.1 hs;refine⟨(i:Int)+1,h.look_hit fK Tryz.underlying105 (AD N N.length i s (gO.1 hi).1 hi) false,?_,by omega⟩;rw[aQ.2 hs];simp
  omega
 ·refine⟨0,h.look_miss fK Tryz.underlying105 (lO hk) (fun q hq e=>?_) (by kernel_rfl) false,by rw[show inB s N=false from by cases e:inB s N;rfl;exact(hs (aQ.1 e)).elim];rfl,by omega⟩;obtain⟨i,t,hi,ht,rfl⟩:=lN N N.length q hq;simp only[Value.string.injEq] at e
  subst e;exact hs (mG ht)
def fD(N:List Txt)(x:Ed):Bool:=inB x.fr N&&inB x.to N
def fL(N:List Txt)(E:List Ed):Bool:=upB ltT N&&(upB ltE E&&E.all (fD N))

theorem FD(w:World)(A:Option Addr)(c:Nat)(B:Option Addr)(d:Nat)(N:List Txt)(E:List Ed)(h:dX w A c B d N E) :
  Calls Tryz.prog 89 #[bQ A N.length c B E.length d] w (Sam w (.bool (fL N E))):=by
 have k0:=Blk.new w 34 #[.slice A N.length c,.slice B E.length d];have u0:Below w.heap.size w (w.alloc (.cells #[.slice A N.length c,.slice B E.length d] 34)):=bR.alloc (Nat.le_refl _) _;have hn:N.length≤140737488355328:=by have:=h.fit.n;omega
 have hd:E.length≤140737488355328:=by have:=h.fit.e;omega
 have HA:=aI3 h.fit h.hc h.hd;have H:=aI3 (h.below u0) k0 u0;clear h k0 u0;obtain⟨v0,e0⟩:∃b,upB ltT N=b:=⟨_,rfl⟩;obtain⟨v1,e1⟩:∃b,upB ltE E=b:=⟨_,rfl⟩;have HE:=aI2 e0 e1;clear e0 e1;unfold bQ;go_enter Tryz.func89,Tryz.ntmps89;go_upto_region 1 with (fail);generalize w.alloc (.cells #[.slice A N.length c,.slice B E.length d] 34)=W0 at H ⊢;have q0:W0.cell? ⟨w.heap.size,0,none⟩=some (.slice A N.length c):=H.out.2.1.cell 0;have q1:W0.cell? ⟨w.heap.size,1,none⟩=some (.slice B E.length d):=H.out.2.1.cell 1;go_wp2_with fail;refine(yN W0 A c N H.out.1.rn HA.out.2.1 HA.out.1.n).mono ?_;rintro e w1 ⟨rfl,b1⟩;rw[HE.out.1];have k1:=H.out.2.1.upd (upF b1) id;clear q0 q1;have q0:w1.cell? ⟨w.heap.size,0,none⟩=some (.slice A N.length c):=k1.cell 0;have q1:w1.cell? ⟨w.heap.size,1,none⟩=some (.slice B E.length d):=k1.cell 1;have H1:=aI3 (H.out.1.below b1) k1 (tHn H.out.2.2 b1);clear k1 b1;cases v0
 ·go_wp2;go_ret;refine⟨fV ?_,H1.out.2.2⟩;rw[fL,HE.out.1,Bool.false_and]
 go_wp2_with fail;refine(AC w1 B d E H1.out.1.re HA.out.2.2 HA.out.1.e).mono ?_;rintro e w2 ⟨rfl,b2⟩;rw[HE.out.2];have k2:=H1.out.2.1.upd (upF b2) id;clear q0 q1;have q0:w2.cell? ⟨w.heap.size,0,none⟩=some (.slice A N.length c):=k2.cell 0;have H2:=aI3 (H1.out.1.below b2) k2 (tHn H1.out.2.2 b2);clear k2 b2;cases v1
 ·go_wp2;go_ret;refine⟨fV ?_,H2.out.2.2⟩;rw[fL,HE.out.1,HE.out.2];rfl
 have hmm:=@run_makeMap Tryz.prog;clear q0;go_upto_region 4 with (fail);have m3:=cX.made w2 Tryz.prog 9;have b3:Below w2.heap.size w2 (w2.alloc (.map #[] 0)):=bR.alloc (Nat.le_refl _) _;have k3:=H2.out.2.1.upd (upF b3) id;have H3:=aI4 (H2.out.1.below b3) k3 (tHn H2.out.2.2 b3) m3;have hr1:w.heap.size<w2.heap.size:=H2.out.2.1.lt;clear b3 m3 k3 hmm;generalize w2.alloc (.map #[] 0)=W3 at H3 ⊢;have q0:W3.cell? ⟨w.heap.size,0,none⟩=some (.slice A N.length c):=H3.out.2.1.cell 0;go_wp2_with fail;clear q0;have HA2:=hIz (show ∀b o s,A=some ⟨b,o,s⟩→N≠[]→b<w2.heap.size from fun b o s e hne=>by
  obtain⟨x,hx⟩:=List.exists_mem_of_ne_nil N hne;obtain⟨i,hi⟩:=List.mem_iff_getElem?.1 hx;obtain⟨b',o',e',hc⟩:=H2.out.1.rn.txt hi;rw[e] at e';injection e' with e';injection e' with e' _ _;subst e';exact World.block_lt_of_cell? w2 _ hc)
 have HB2:=hIz (show ∀b o s,B=some ⟨b,o,s⟩→E≠[]→b<w2.heap.size from fun b o s e hne=>by
  obtain⟨x,hx⟩:=List.exists_mem_of_ne_nil E hne;obtain⟨i,hi⟩:=List.mem_iff_getElem?.1 hx;obtain⟨b',o',e',hc,-,-⟩:=H2.out.1.re.ed hi;rw[e] at e';injection e' with e';injection e' with e' _ _;subst e';exact World.block_lt_of_cell? w2 _ hc)
 go_loopw [4,5,22] (fun _ _ i wr=>∃k:Nat,k≤N.length∧i=.int .i64 k∧Hid (Upd (fun q=>q=w2.heap.size) W3 wr)∧Hid (cX wr Tryz.prog 9 w2.heap.size (kvN N k))) (fun _ _ i _=>N.length-(intOf i).toNat)
 case atStart=>exact⟨0,Nat.zero_le _,rfl,hIz (Upd.refl _ _),hIz H3.out.2.2.2⟩
 case round =>
  obtain⟨k,hk,rfl,hu,hm⟩:=hrel;by_cases hlt:k<N.length
  ·have hltI:(k:Int)<(N.length:Int):=by omega
   have hkw:IntKind.i64.wrap ((k:Int)+1)=(k:Int)+1:=IntWalk.i64_in _ (by omega);obtain⟨x,hx⟩:∃x,N[k]?=some x:=⟨N[k],gEz _⟩;obtain⟨ab,ao,rfl,y0⟩:=H3.out.1.rn.txt hx;have hab:=HA2.out ab ao none rfl (fun e=>by rw[e] at hx;simp at hx);have x0:wr.cell? ⟨ab,ao+k,none⟩=some (.string x):=(hu.out.cell (p:=⟨ab,ao+k,none⟩) (World.block_lt_of_cell? W3 _ y0) (by show ¬ab=_;omega)).trans y0;obtain⟨w5,hrun,hm5,hg5,hz5⟩:=hm.out.put_miss fK Tryz.underlying105 (.int .i64 ((k:Int)+1)) (lO (HA.out.1.tn x (mG hx))) (KJ HE.out.1 hx);have hkv:kvN N (k+1)=kvN N k++[(.string x,.int .i64 ((k:Int)+1))]:=by rw[kvN,hx]
   rw[← hkv] at hm5;have HX:=aI2 hm5 (hu.out.trans (Upd.of_grown hg5) (fun i e=>.inl (by injection e with e;exact e.symm)));clear y0 hx hm5 hg5 hz5 hkv;go_wp2;go_roundw
   case rel=>exact⟨k+1,by omega,by go_num,hIz HX.out.2,hIz HX.out.1⟩
   case measure=>simp[intOf];omega
  ·obtain rfl:k=N.length:=by omega
   have k4:=H3.out.2.1.upd hu.out (by omega);have q1:wr.cell? ⟨w.heap.size,1,none⟩=some (.slice B E.length d):=k4.cell 1;have bw4:Below w.heap.size w wr:=H3.out.2.2.1.trans (hu.out.below (fun q _ e=>by omega) H3.out.2.2.1.size);have re4:∀(j:Nat) (x:Ed),E[j]?=some x→∃b o,B=some ⟨b,o,none⟩∧b<wr.heap.size∧wr.cell? ⟨b,o+j*3,none⟩=some (.string x.fr)∧wr.cell? ⟨b,o+j*3+1,none⟩=some (.string x.lb)∧wr.cell? ⟨b,o+j*3+2,none⟩=some (.string x.to):=fun j x hx=>by
    obtain⟨bb,bo,e,y0,y1,y2⟩:=H3.out.1.re.ed hx;have hbb:=HB2.out bb bo none e (fun e=>by rw[e] at hx;simp at hx);have hlt3:=World.block_lt_of_cell? W3 _ y0;have cc:=fun i=>hu.out.cell (p:=⟨bb,i,none⟩) hlt3 (by show ¬bb=_;omega)
    exact⟨bb,bo,e,Nat.lt_of_lt_of_le hlt3 hu.out.size,(cc _).trans y0,(cc _).trans y1,(cc _).trans y2⟩
   have H4:=aI2 bw4 re4;clear k4 bw4 re4 hk hlt hu;obtain⟨W4,hW4⟩:∃W,W=wr:=⟨_,rfl⟩;subst hW4;go_wp2_with fail;clear q1;go_loopw [7,35] (fun _ i wz=>∃k:Nat,k≤E.length∧i=.int .i64 k∧Hid (Below W4.heap.size W4 wz)∧Hid (∀j,j<k→∀x,E[j]?=some x→fD N x=true)) (fun _ i _=>E.length-(intOf i).toNat)
   case atStart=>exact⟨0,Nat.zero_le _,rfl,hIz bR,hIz (fun j hj=>by omega)⟩
   case round =>
    obtain⟨k,hk,rfl,hb,hall⟩:=hrel;by_cases hlt:k<E.length
    ·have hltI:(k:Int)<(E.length:Int):=by omega
     have hkw:IntKind.i64.wrap ((k:Int)+1)=(k:Int)+1:=IntWalk.i64_in _ (by omega);obtain⟨⟨s0,s1,s2⟩,hx⟩:∃x,E[k]?=some x:=⟨E[k],gEz _⟩;obtain⟨ab,ao,rfl,hlt4,y0,y1,y2⟩:=H4.out.2 k _ hx;dsimp only at y0 y1 y2
     have cc:=fun i=>hb.out.cell (p:=⟨ab,i,none⟩) hlt4
     have x0:=(cc _).trans y0;have x1:=(cc _).trans y1;have x2:=(cc _).trans y2;have kx:=Blk.new wr 32 #[.string s0,.string s1,.string s2];have bx:Below wr.heap.size wr (wr.alloc (.cells #[.string s0,.string s1,.string s2] 32)):=bR.alloc (Nat.le_refl _) _;have b5:=tHn hb.out bx;have hm5:=hm.out.upd (upF b5) id;have HX:=aI4 hx kx b5 hm5;clear hx y0 y1 y2 cc kx bx b5 hm5;go_upto_region 12 with (fail);generalize wr.alloc (.cells #[.string s0,.string s1,.string s2] 32)=W5 at HX ⊢;clear x0 x1 x2;have x0:W5.cell? ⟨wr.heap.size,0,none⟩=some (.string s0):=HX.out.2.1.cell 0;have x2:W5.cell? ⟨wr.heap.size,2,none⟩=some (.string s2):=HX.out.2.1.cell 2;obtain⟨v0,l0,h0,-⟩:=sM HX.out.2.2.2 s0 ((HA.out.1.te _ (mG HX.out.1)).1);obtain⟨v1,l1,h1,-⟩:=sM HX.out.2.2.2 s2 ((HA.out.1.te _ (mG HX.out.1)).2.2);obtain⟨i0,e0⟩:∃b,inB s0 N=b:=⟨_,rfl⟩;obtain⟨i1,e1⟩:∃b,inB s2 N=b:=⟨_,rfl⟩;rw[e0] at h0;rw[e1] at h1;have hv:fD N ⟨s0,s1,s2⟩=(i0&&i1):=by rw[fD,e0,e1]
     have HV:=hIz hv;clear e0 e1 hv;have fin:w.heap.size≤W4.heap.size:=H4.out.1.size;cases i0
     ·simp only[Bool.not_false] at h0
      go_wp2;go_ret;refine⟨fV ?_,tHn H4.out.1 HX.out.2.2.1⟩;rw[fL,HE.out.1,HE.out.2,bE (p:=fD N) HX.out.1 HV.out];rfl
     ·simp only[Bool.not_true] at h0
      cases i1
      ·simp only[Bool.not_false] at h1
       go_wp2;go_ret;refine⟨fV ?_,tHn H4.out.1 HX.out.2.2.1⟩;rw[fL,HE.out.1,HE.out.2,bE (p:=fD N) HX.out.1 HV.out];rfl
      ·simp only[Bool.not_true] at h1
       go_wp2;go_roundw
       case rel=>exact⟨k+1,by omega,by go_num,hIz HX.out.2.2.1,hIz (fun j hj y hy=>by
        rcases Nat.lt_succ_iff_lt_or_eq.1 hj with h|rfl
        ·exact hall.out j h y hy
        ·rw[HX.out.1] at hy;injection hy with hy;rw[← hy];exact HV.out)⟩
       case measure=>simp[intOf];omega
    ·obtain rfl:k=E.length:=by omega
     go_wp2;go_ret;refine⟨fV ?_,tHn H4.out.1 hb.out⟩;rw[fL,HE.out.1,HE.out.2,eS (p:=fD N) (fun j x hx=>hall.out j (gO.1 hx).1 x hx)];rfl
end Go.Proofs.YtddffnonlmfhdaaGreatDoor
