/- Edges: slices.Concat of two lists; Rows: a row put behind a row of the call's own; Graphs: slices.Insert of a hop into a row of the call's own; Blocks of bits: two blocks, word by word; Blocks of bits: Get; quad: the ways of a corner; Graphs: a hop put in its place; Edges: Of; two graphs that are the same; Edges: cut to what this seat wants; Graphs that grow: the plain law (no program in sight); A region that draws its order: some stable operations are taken first; of the rest every order is walked, stable ones taken as they come up. Nothing here names the program. -/
import Derived.Test.YtnokckdkaifibaaGreatDoorO03
import Derived.Shelf.Spec.SlicesInsertGrow
import Derived.Test.YtnokckdkaifibaaGreatDoorO02
import Derived.Laws.BitsAllLaws
import Derived.Test.YtnokckdkaifibaaGreatDoorO01
set_option linter.unusedVariables false
set_option linter.unusedSimpArgs false
set_option maxHeartbeats 16000000
set_option maxRecDepth 100000
namespace Go.Proofs.YtnokckdkaifibaaGreatDoor
open Go.RowKit Go.Sort Go.Shelf
theorem oQ(w:World)(t e:TypeId)(ht:Tryz.prog.underlying t=some (.slice e))(i:TypeInfo)(hi:Tryz.prog.info? e=some i)(b:Option Addr)(n c d:Nat)(hn:n≤c)(h63:n≤9223372036854775807) :
  (Builtin.append_ #[t,t] t #[.slice b n c,.slice none 0 d]).run Tryz.prog w=.ok (.slice b n c) w:=by
 have h1:¬(9223372036854775807<(n:Int)):=by omega
 cases b <;> simp[Builtin.append_,run_underlying ht,sizeOf,typeInfo,hi,hn,Builtin.lenOf,run_firstCells_none,storeCells]
theorem kC(w:World)(base t e size bytes:Nat)(z:Value)(ht:Tryz.prog.underlying t=some (.slice e))(hi:(Tryz.prog.info? e).map (fun i=>(i.zero,i.size,i.bytes))=some (some z,size,bytes))(hzs:z.cells.size=size)(h0:0<size)(h8:8≤bytes)
  (B:Option Addr) (n c:Nat) (xs:List Value) (own:w.ownsRow base e size (.slice B n c) n xs) (A:Option Addr) (m d:Nat) (ys:List Value) (hr:bO w A ys) (hl:ys.length=m*size) (h1:∀u∈ys,u.oneCell'=true) (hn:(n+m)*bytes≤140737488355328) (hb:base≤w.heap.size) :
  ∃B' c' w',(Builtin.append_ #[t,t] t #[.slice B n c,.slice A m d]).run Tryz.prog w=.ok (.slice B' (n+m) c') w'∧w'.ownsRow base e size (.slice B' (n+m) c') (n+m) (xs++ys)∧Below base w w':=by
 obtain⟨i0,hi0,hz0,hz1,hz2⟩:=info_parts hi;have hnm:n+m≤maxLen:=by
  have:(n+m)*8≤(n+m)*bytes:=Nat.mul_le_mul_left _ h8;unfold maxLen;omega
 have hre:=hr.reads hl h0;rcases A with _|ad
 ·obtain⟨rfl,rfl⟩:=hre.nil;obtain⟨A',c',hv,hc,-⟩:=aH own;injection hv with _ _ hcc;refine⟨B,c,w,oQ w t e ht i0 hi0 B n c d (by omega) (by unfold maxLen at hnm;omega),by simpa using own,bR.mono hb⟩
 ·obtain⟨v',w',happ,own',gr,-,pl⟩:=run_append_own_at (P:=Tryz.prog) w base t t e i0 z size bytes ht hi0 hz0 hz1 hz2 hzs h0 (.slice B n c) n xs own ad m d ys hl (hre.2.2 ad rfl) h1 hnm (by simpa using hn) hb;obtain⟨B',c',rfl,-,-⟩:=aH own';exact⟨B',c',w',happ,own',(Below.refl base w).grown gr hb (fun k hk=>(own.lt k hk).1)⟩

theorem cO(w:World)(g:Nat)(A:Option Addr)(c:Nat)(B:Option Addr)(d:Nat)(N M:List Txt)(k:Blk w g 34 #[.slice A N.length c,.slice B M.length d])(hN:bO w A (aG N))(hM:bO w B (aG M))(hl:(N.length+M.length)*16≤140737488355328) :
  Calls Tryz.prog 123 #[.slice (some ⟨g,0,none⟩) 2 2] w (CP w (N++M)):=by
 have H:=aI3 k hN hM;clear k hN hM;obtain⟨n,hn⟩:∃n,N.length=n:=⟨_,rfl⟩;obtain⟨m,hm⟩:∃m,M.length=m:=⟨_,rfl⟩;have HL:=aI2 hn hm;have c0:w.cell? ⟨g,0,none⟩=some (.slice A n c):=by rw[← hn];exact H.out.1.cell 0
 have c1:w.cell? ⟨g,1,none⟩=some (.slice B m d):=by rw[← hm];exact H.out.1.cell 1
 rw[hn,hm] at hl;clear hn hm;go_enter Tryz.func123,Tryz.ntmps123;go_wp2_with fail;go_loop [3,11] (fun s i=>∃j:Nat,j≤2∧i=.int .i64 j∧s=.int .i64 (((if j=0 then 0 else if j=1 then n else n+m:Nat)):Int)) (fun _ i=>2-(intOf i).toNat)
 case atStart=>exact⟨0,by omega,rfl,rfl⟩
 case round =>
  obtain⟨j,hj,rfl,rfl⟩:=hrel;have hj3:j=0∨j=1∨j=2:=by omega
  have w1:IntKind.i64.wrap (0+(n:Int))=(n:Int):=by rw[Int.zero_add];exact IntWalk.i64_in _ (by omega)
  have w2:IntKind.i64.wrap ((n:Int)+(m:Int))=(n:Int)+(m:Int):=IntWalk.i64_in _ (by omega);have p1:¬((n:Int)<0):=by omega
  have p2:¬((n:Int)+(m:Int)<0):=by omega
  rcases hj3 with rfl|rfl|rfl
  ·go_wp2;go_round
   case rel=>exact⟨1,by omega,rfl,by simp⟩
   case measure=>simp[intOf]
  ·go_wp2;go_round
   case rel=>exact⟨2,by omega,rfl,by simp⟩
   case measure=>simp[intOf]
  ·have hgrow:Calls Tryz.prog 168 #[.slice none 0 0,.int .i64 ((n:Int)+(m:Int))] w fun e w'=>∃B0 c0,e=.returned (.slice B0 0 c0)∧w'.ownsRow w.heap.size 9 1 (.slice B0 0 c0) 0 []∧Below w.heap.size w w':=by
    rw[← Int.natCast_add];by_cases h0:n+m=0
    ·have h:=Any8.slices_Grow_room RJ none 0 0 (n+m) w (Nat.le_refl _) (by omega) (by omega) (by omega);exact h.mono (by rintro e w' ⟨rfl,rfl⟩;exact⟨none,0,rfl,World.ownsRow_nil _ _ _ _,Below.refl _ _⟩)
    ·obtain⟨i0,hi0,hz0,hz1,hz2⟩:=info_parts dE;have h:=Any8.slices_Grow_grow RJ i0 _ hi0 hz0 (by rw[hz1];decide) none 0 0 (n+m) [] w (Nat.le_refl _) (by omega) (by rw[hz2];omega) (by omega) (by simp) (fun _=>rfl) (fun a h=>by cases h);refine h.mono ?_;rintro e w' ⟨rfl,rfl⟩;refine⟨_,_,rfl,⟨rfl,.inr ⟨w.heap.size,_,_,rfl,Nat.le_refl _,heap_alloc_new _ _,Nat.zero_le _,grownCap_le_maxLen w _ _ _ (by unfold maxLen;omega),?_,by simp⟩⟩,((Below.refl w.heap.size w).drew).alloc (Nat.le_refl _) _⟩;have hge:=grownCap_ge w (0+(n+m)) 0 (uK.t 25);have hzc:(.string ByteArray.empty:Value).cells.size=1:=rfl;simp only[Array.size_append,size_zeroCells,List.size_toArray,List.length_nil,hzc]
     omega
   go_wp2_with fail;refine hgrow.mono ?_;rintro e W1 ⟨B0,c0',rfl,own0,b1⟩;clear hgrow;have k1:=H.out.1.upd (upF b1) id;have H1:=aI2 own0 b1;clear own0 k1 b1 c0 c1;go_wp2_with fail;go_loopw [6,27] (fun v i wr=>∃(j:Nat) (B':Option Addr) (c' q:Nat) (L:List Txt),i=.int .i64 j∧v=.slice B' q c'∧Hid (wr.ownsRow w.heap.size 9 1 (.slice B' q c') q (aG L)∧Below w.heap.size w wr)∧((j=0∧q=0∧L=[])∨(j=1∧q=n∧L=N)∨(j=2∧q=n+m∧L=N++M))) (fun _ i _=>2-(intOf i).toNat)
   case atStart=>exact⟨0,B0,c0',0,[],rfl,rfl,H1,.inl ⟨rfl,rfl,rfl⟩⟩
   case round =>
    obtain⟨j,B',c',q,L,rfl,rfl,HR,hc⟩:=hrel;have kr:=H.out.1.upd (Upd.of_below HR.out.2 (fun _=>False)) id;have c0:wr.cell? ⟨g,0,none⟩=some (.slice A n c):=by rw[← HL.out.1];exact kr.cell 0
    have c1:wr.cell? ⟨g,1,none⟩=some (.slice B m d):=by rw[← HL.out.2];exact kr.cell 1
    clear kr;rcases hc with ⟨rfl,rfl,rfl⟩|⟨rfl,rfl,rfl⟩|⟨rfl,rfl,rfl⟩
    ·obtain⟨B2,c2,W2,happ,own2,b2⟩:=kC wr w.heap.size 34 9 1 16 _ Tryz.underlying34 dE rfl (by decide) (by decide) B' 0 c' _ HR.out.1 A n c _ (H.out.2.1.below HR.out.2) (by rw[gD,HL.out.1]) (wM N) (by omega) HR.out.2.size;have HN:=hIz (show W2.ownsRow w.heap.size 9 1 (.slice B2 n c2) n (aG N)∧Below w.heap.size w W2 from⟨by simpa[aG] using own2,HR.out.2.trans b2⟩);rw[Nat.zero_add] at happ;clear own2 b2;go_wp2_with (at_builtin;refine wpList_append_run rfl _ _ _ rfl rfl rfl happ ?_);go_roundw
     case rel=>exact⟨1,B2,c2,n,N,by go_num,rfl,HN,.inr (.inl ⟨rfl,rfl,rfl⟩)⟩
     case measure=>simp[intOf]
    ·obtain⟨B2,c2,W2,happ,own2,b2⟩:=kC wr w.heap.size 34 9 1 16 _ Tryz.underlying34 dE rfl (by decide) (by decide) B' q c' _ HR.out.1 B m d _ (H.out.2.2.below HR.out.2) (by rw[gD,HL.out.2]) (wM M) (by omega) HR.out.2.size;have HN:=hIz (show W2.ownsRow w.heap.size 9 1 (.slice B2 (q+m) c2) (q+m) (aG (L++M))∧Below w.heap.size w W2 from⟨by simpa[aG] using own2,HR.out.2.trans b2⟩);clear own2 b2;go_wp2_with (at_builtin;refine wpList_append_run rfl _ _ _ rfl rfl rfl happ ?_);go_roundw
     case rel=>exact⟨2,B2,c2,q+m,L++M,by go_num,rfl,HN,.inr (.inr ⟨rfl,rfl,rfl⟩)⟩
     case measure=>simp[intOf]
    ·have FIN:=hIz (show CP w (N++M) (.returned (.slice B' (n+m) c')) wr from⟨_,rfl,by rw[List.length_append,HL.out.1,HL.out.2];exact HR.out.1,HR.out.2⟩);go_wp2;go_ret;exact FIN.out

theorem cB(w:World)(g:Nat)(A:Option Addr)(c:Nat)(B:Option Addr)(d:Nat)(N M:List Ed)(k:Blk w g 40 #[.slice A N.length c,.slice B M.length d])(hN:bO w A (aT N))(hM:bO w B (aT M))(hl:(N.length+M.length)*48≤140737488355328) :
  Calls Tryz.prog 124 #[.slice (some ⟨g,0,none⟩) 2 2] w (NJ w (N++M)):=by
 have H:=aI3 k hN hM;clear k hN hM;obtain⟨n,hn⟩:∃n,N.length=n:=⟨_,rfl⟩;obtain⟨m,hm⟩:∃m,M.length=m:=⟨_,rfl⟩;have HL:=aI2 hn hm;have c0:w.cell? ⟨g,0,none⟩=some (.slice A n c):=by rw[← hn];exact H.out.1.cell 0
 have c1:w.cell? ⟨g,1,none⟩=some (.slice B m d):=by rw[← hm];exact H.out.1.cell 1
 rw[hn,hm] at hl;clear hn hm;go_enter Tryz.func124,Tryz.ntmps124;go_wp2_with fail;go_loop [3,11] (fun s i=>∃j:Nat,j≤2∧i=.int .i64 j∧s=.int .i64 (((if j=0 then 0 else if j=1 then n else n+m:Nat)):Int)) (fun _ i=>2-(intOf i).toNat)
 case atStart=>exact⟨0,by omega,rfl,rfl⟩
 case round =>
  obtain⟨j,hj,rfl,rfl⟩:=hrel;have hj3:j=0∨j=1∨j=2:=by omega
  have w1:IntKind.i64.wrap (0+(n:Int))=(n:Int):=by rw[Int.zero_add];exact IntWalk.i64_in _ (by omega)
  have w2:IntKind.i64.wrap ((n:Int)+(m:Int))=(n:Int)+(m:Int):=IntWalk.i64_in _ (by omega);have p1:¬((n:Int)<0):=by omega
  have p2:¬((n:Int)+(m:Int)<0):=by omega
  rcases hj3 with rfl|rfl|rfl
  ·go_wp2;go_round
   case rel=>exact⟨1,by omega,rfl,by simp⟩
   case measure=>simp[intOf]
  ·go_wp2;go_round
   case rel=>exact⟨2,by omega,rfl,by simp⟩
   case measure=>simp[intOf]
  ·have hgrow:Calls Tryz.prog 169 #[.slice none 0 0,.int .i64 ((n:Int)+(m:Int))] w fun e w'=>∃B0 c0,e=.returned (.slice B0 0 c0)∧w'.ownsRow w.heap.size 23 3 (.slice B0 0 c0) 0 []∧Below w.heap.size w w':=by
    rw[← Int.natCast_add];by_cases h0:n+m=0
    ·have h:=Any8.slices_Grow_room RK none 0 0 (n+m) w (Nat.le_refl _) (by omega) (by omega) (by omega);exact h.mono (by rintro e w' ⟨rfl,rfl⟩;exact⟨none,0,rfl,World.ownsRow_nil _ _ _ _,Below.refl _ _⟩)
    ·obtain⟨i0,hi0,hz0,hz1,hz2⟩:=info_parts iX;have h:=Any8.slices_Grow_grow RK i0 _ hi0 hz0 (by rw[hz1];decide) none 0 0 (n+m) [] w (Nat.le_refl _) (by omega) (by rw[hz2];omega) (by omega) (by simp) (fun _=>rfl) (fun a h=>by cases h);refine h.mono ?_;rintro e w' ⟨rfl,rfl⟩;refine⟨_,_,rfl,⟨rfl,.inr ⟨w.heap.size,_,_,rfl,Nat.le_refl _,heap_alloc_new _ _,Nat.zero_le _,grownCap_le_maxLen w _ _ _ (by unfold maxLen;omega),?_,by simp⟩⟩,((Below.refl w.heap.size w).drew).alloc (Nat.le_refl _) _⟩;have hge:=grownCap_ge w (0+(n+m)) 0 (uL.t 25);have hzc:(.agg #[.string ByteArray.empty,.string ByteArray.empty,.string ByteArray.empty]:Value).cells.size=3:=rfl;simp only[Array.size_append,size_zeroCells,List.size_toArray,List.length_nil,hzc]
     omega
   go_wp2_with fail;refine hgrow.mono ?_;rintro e W1 ⟨B0,c0',rfl,own0,b1⟩;clear hgrow;have k1:=H.out.1.upd (upF b1) id;have H1:=aI2 own0 b1;clear own0 k1 b1 c0 c1;go_wp2_with fail;go_loopw [6,27] (fun v i wr=>∃(j:Nat) (B':Option Addr) (c' q:Nat) (L:List Ed),i=.int .i64 j∧v=.slice B' q c'∧Hid (wr.ownsRow w.heap.size 23 3 (.slice B' q c') q (aT L)∧Below w.heap.size w wr)∧((j=0∧q=0∧L=[])∨(j=1∧q=n∧L=N)∨(j=2∧q=n+m∧L=N++M))) (fun _ i _=>2-(intOf i).toNat)
   case atStart=>exact⟨0,B0,c0',0,[],rfl,rfl,H1,.inl ⟨rfl,rfl,rfl⟩⟩
   case round =>
    obtain⟨j,B',c',q,L,rfl,rfl,HR,hc⟩:=hrel;have kr:=H.out.1.upd (Upd.of_below HR.out.2 (fun _=>False)) id;have c0:wr.cell? ⟨g,0,none⟩=some (.slice A n c):=by rw[← HL.out.1];exact kr.cell 0
    have c1:wr.cell? ⟨g,1,none⟩=some (.slice B m d):=by rw[← HL.out.2];exact kr.cell 1
    clear kr;rcases hc with ⟨rfl,rfl,rfl⟩|⟨rfl,rfl,rfl⟩|⟨rfl,rfl,rfl⟩
    ·obtain⟨B2,c2,W2,happ,own2,b2⟩:=kC wr w.heap.size 40 23 3 48 _ Tryz.underlying40 iX rfl (by decide) (by decide) B' 0 c' _ HR.out.1 A n c _ (H.out.2.1.below HR.out.2) (by rw[dG,HL.out.1]) (CZ N) (by omega) HR.out.2.size;have HN:=hIz (show W2.ownsRow w.heap.size 23 3 (.slice B2 n c2) n (aT N)∧Below w.heap.size w W2 from⟨by simpa[aT] using own2,HR.out.2.trans b2⟩);rw[Nat.zero_add] at happ;clear own2 b2;go_wp2_with (at_builtin;refine wpList_append_run rfl _ _ _ rfl rfl rfl happ ?_);go_roundw
     case rel=>exact⟨1,B2,c2,n,N,by go_num,rfl,HN,.inr (.inl ⟨rfl,rfl,rfl⟩)⟩
     case measure=>simp[intOf]
    ·obtain⟨B2,c2,W2,happ,own2,b2⟩:=kC wr w.heap.size 40 23 3 48 _ Tryz.underlying40 iX rfl (by decide) (by decide) B' q c' _ HR.out.1 B m d _ (H.out.2.2.below HR.out.2) (by rw[dG,HL.out.2]) (CZ M) (by omega) HR.out.2.size;have HN:=hIz (show W2.ownsRow w.heap.size 23 3 (.slice B2 (q+m) c2) (q+m) (aT (L++M))∧Below w.heap.size w W2 from⟨by simpa[aT] using own2,HR.out.2.trans b2⟩);clear own2 b2;go_wp2_with (at_builtin;refine wpList_append_run rfl _ _ _ rfl rfl rfl happ ?_);go_roundw
     case rel=>exact⟨2,B2,c2,q+m,L++M,by go_num,rfl,HN,.inr (.inr ⟨rfl,rfl,rfl⟩)⟩
     case measure=>simp[intOf]
    ·have FIN:=hIz (show NJ w (N++M) (.returned (.slice B' (n+m) c')) wr from⟨_,rfl,by rw[List.length_append,HL.out.1,HL.out.2];exact HR.out.1,HR.out.2⟩);go_wp2;go_ret;exact FIN.out
open Go.RowKit
theorem cK(w:World)(base t e size bytes:Nat)(z:Value)(ht:Tryz.prog.underlying t=some (.slice e))(hi:(Tryz.prog.info? e).map (fun i=>(i.zero,i.size,i.bytes))=some (some z,size,bytes))(hzs:z.cells.size=size)(h0:0<size)(h8:8≤bytes)
  (B:Option Addr) (n c:Nat) (xs:List Value) (own:w.ownsRow base e size (.slice B n c) n xs) (A:Option Addr) (m d:Nat) (ys:List Value) (hr:bO w A ys) (hl:ys.length=m*size) (h1:∀u∈ys,u.oneCell'=true) (hn:(n+m)*bytes≤140737488355328) (hb:base≤w.heap.size) :
  ∃B' c' w',(Builtin.append_ #[t,t] t #[.slice B n c,.slice A m d]).run Tryz.prog w=.ok (.slice B' (n+m) c') w'∧w'.ownsRow base e size (.slice B' (n+m) c') (n+m) (xs++ys)∧Upd (fun k=>(Value.slice B n c).ownBlock=some k) w w'∧∀k,(Value.slice B' (n+m) c').ownBlock=some k→(Value.slice B n c).ownBlock=some k∨w.heap.size≤k:=by
 obtain⟨i0,hi0,hz0,hz1,hz2⟩:=info_parts hi;have hnm:n+m≤maxLen:=by
  have:(n+m)*8≤(n+m)*bytes:=Nat.mul_le_mul_left _ h8;unfold maxLen;omega
 have hre:=hr.reads hl h0;rcases A with _|ad
 ·obtain⟨rfl,rfl⟩:=hre.nil;obtain⟨A',c',hv,hc,-⟩:=aH own;injection hv with _ _ hcc;exact⟨B,c,w,oQ w t e ht i0 hi0 B n c d (by omega) (by unfold maxLen at hnm;omega),by simpa using own,Upd.refl _ _,fun k hk=>.inl hk⟩
 ·obtain⟨v',w',happ,own',gr,-,pl⟩:=run_append_own_at (P:=Tryz.prog) w base t t e i0 z size bytes ht hi0 hz0 hz1 hz2 hzs h0 (.slice B n c) n xs own ad m d ys hl (hre.2.2 ad rfl) h1 hnm (by simpa using hn) hb;obtain⟨B',c',rfl,-,-⟩:=aH own';refine⟨B',c',w',happ,own',(Upd.refl _ w).grown gr (fun k hk=>.inl hk),fun k hk=>?_⟩;rcases pl with h|h
  ·exact .inl (by rw[← h];exact hk)
  ·rw[h] at hk;injection hk with hk;exact .inr (by omega)
theorem OO(w:World)(base:Nat)(v:Value)(L:List Ed)(own:w.ownsRow base 23 3 v L.length (aT L))(x:Ed)(hl:(L.length+1)*48≤140737488355328)(hb:base≤w.heap.size) :
  ∃v' w',(Builtin.append_ #[40,40] 40 #[v,.slice (some ⟨w.heap.size,0,none⟩) 1 1]).run Tryz.prog (w.alloc (.cells #[.string x.fr,.string x.lb,.string x.to] 23))=.ok v' w'∧w'.ownsRow base 23 3 v' (L++[x]).length (aT (L++[x]))∧Upd (fun k=>v.ownBlock=some k) w w'∧∀k,v'.ownBlock=some k→v.ownBlock=some k∨w.heap.size≤k:=by
 obtain⟨v',w',happ,own',up,pl⟩:=dB w base 40 23 3 48 _ Tryz.underlying40 iX rfl (by decide) v L.length _ own [.string x.fr,.string x.lb,.string x.to] 1 rfl (by simp;exact⟨rfl,rfl,rfl⟩) hl (by unfold maxLen;omega) hb;refine⟨v',w',happ,?_,up,pl⟩;rw[List.length_append,aT,List.flatMap_append];exact own'
open Go.RowKit
theorem dO(b:Nat):∀(vs:List Value) (o:Nat) (w:World) (cur:Array Value) (t:TypeId),w.heap[b]?=some (.cells cur t (0,0))→o+vs.length≤cur.size →
  ∃cur',(w.setCells b o vs).heap[b]?=some (.cells cur' t (0,0))∧cur'.size=cur.size∧cur'.toList=cur.toList.take o++vs++cur.toList.drop (o+vs.length)
 | [],o,w,cur,t,h,_=>⟨cur,h,rfl,by simp⟩
 | v::r,o,w,cur,t,h,hl=>by
  have hb:=Blk.set (show Blk w b t cur from h) o v;simp only[List.length_cons] at hl
  obtain⟨c',e1,e2,e3⟩:=dO b r (o+1) _ _ t hb (by simp;omega);refine⟨c',e1,by rw[e2];simp,?_⟩;rw[e3,Array.toList_setIfInBounds,List.drop_set_of_lt (by omega),List.take_set];have h1:(cur.toList.take (o+1)).set o v=cur.toList.take o++[v]:=by
   rw[List.take_add_one,gEz (by simp;omega)];rw[List.set_append_right _ _ (by simp;omega)];have:o-(cur.toList.take o).length=0:=by simp;omega
   rw[this];rfl
  rw[h1];simp[Nat.add_assoc,Nat.add_comm 1]
theorem Upd.setCells{F:Nat→Prop}{a:World}{b:Nat}(hp:F b∨a.heap.size≤b):∀(vs:List Value) (o:Nat) {w:World},Upd F a w→Upd F a (w.setCells b o vs)
 | [],_,_,h=>h
 | v::r,o,_w,h=>Upd.setCells hp r (o+1) (h.setCell (p:=⟨b,o,none⟩) hp v)
theorem fO{P:Program}(w:World)(dT sT ty elem:TypeId)(size b o dLen dCap:Nat)(a:Addr)(sLen sCap:Nat)(cs:List Value)
  (hu:P.underlying dT=some (.slice elem)) (hs:(P.info? elem).map (·.size)=some size) (hn:cs.length=Nat.min sLen dLen*size)
  (hsrc:∀j v,cs[j]?=some v→w.cell? (a.add j)=some v) (hc:∀j,j<cs.length→(w.cell? ⟨b,o+j,none⟩).isSome=true) (hf:∀j,j<cs.length→w.frozen? ⟨b,o+j,none⟩=false) (h1:∀v∈cs,v.oneCell'=true) :
  (Builtin.copy_ #[dT,sT] ty #[.slice (some ⟨b,o,none⟩) dLen dCap,.slice (some a) sLen sCap]).run P w=.ok (goInt (Nat.min sLen dLen)) (w.setCells b o cs):=by
 have hl:=run_loadCells_list (P:=P) w a cs hsrc;have hst:=run_storeCells_cells (P:=P) b o cs 0 w (by simpa using hc) (by simpa using hf) h1;cases hq:P.info? elem with
 | none=>simp[hq] at hs
 | some i =>
  have hi:i.size=size:=by simpa[hq] using hs
  simp[Builtin.copy_,run_underlying hu,Builtin.lenOf,Builtin.firstCells,sizeOf,typeInfo,hq,hi,← hn,hl,hst]
theorem kD{w:World}{b:Nat}{cur:Array Value}{t:TypeId}(h:w.heap[b]?=some (.cells cur t (0,0))){k:Nat}(hk:k<cur.size):(w.cell? ⟨b,k,none⟩).isSome=true:=by
 rw[cell_of_row w b k cur t (0,0) h,Array.getElem?_eq_getElem hk];rfl
theorem kE{w:World}{b:Nat}{cur:Array Value}{t:TypeId}(h:w.heap[b]?=some (.cells cur t (0,0)))(k:Nat):w.frozen? ⟨b,k,none⟩=false:=by simp[World.frozen?,h]
theorem KB{α:Type}(C X v:List α)(k:Nat)(hX:C.take X.length=X)(hk:k≤X.length)(hC:X.length+v.length≤C.length) :
  ((C.take (k+v.length)++X.drop k++C.drop (k+v.length+(X.drop k).length)).take k++v++(C.take (k+v.length)++X.drop k++C.drop (k+v.length+(X.drop k).length)).drop (k+v.length)).take (X.length+v.length)=X.take k++v++X.drop k:=by
 have h1:(C.take (k+v.length)++X.drop k++C.drop (k+v.length+(X.drop k).length)).take k=X.take k:=by
  rw[List.append_assoc,List.take_append_of_le_length (by rw[List.length_take];omega),List.take_take,Nat.min_eq_left (by omega)];conv=>rhs;rw[← hX]
  rw[List.take_take,Nat.min_eq_left hk]
 have h2:(C.take (k+v.length)++X.drop k++C.drop (k+v.length+(X.drop k).length)).drop (k+v.length)=X.drop k++C.drop (k+v.length+(X.drop k).length):=by
  rw[List.append_assoc];exact List.drop_left' (by rw[List.length_take];omega)
 rw[h1,h2,← List.append_assoc];exact List.take_left' (by simp;omega)
theorem KC{α:Type}(C v Y:List α)(k:Nat)(hC:k+v.length+Y.length≤C.length) :
  ((C.take k++v++C.drop (k+v.length)).take (k+v.length)++Y++(C.take k++v++C.drop (k+v.length)).drop (k+v.length+Y.length)).take (k+v.length+Y.length)=C.take k++v++Y:=by
 have h1:(C.take k++v++C.drop (k+v.length)).take (k+v.length)=C.take k++v:=List.take_left' (by simp;omega);rw[h1];exact List.take_left' (by simp;omega)
def eQ(L:List Hp)(i:Nat)(h:Hp):List Hp:=L.take i++h::L.drop i
theorem iG(N M:List Hp):aR (N++M)=aR N++aR M:=by simp[aR]
theorem oR(L:List Hp){i:Nat}(h:Hp)(hi:i≤L.length):(eQ L i h).length=L.length+1:=by simp[eQ];omega
theorem OP(L:List Hp)(i:Nat)(hi:i≤L.length):aR (L.take i)=(aR L).take (i*2):=by
 conv=>rhs;rw[← List.take_append_drop i L,iG]
 exact(List.take_left' (by rw[dH,List.length_take];omega)).symm
theorem OQ(L:List Hp)(i:Nat)(hi:i≤L.length):aR (L.drop i)=(aR L).drop (i*2):=by
 conv=>rhs;rw[← List.take_append_drop i L,iG]
 exact(List.drop_left' (by rw[dH,List.length_take];omega)).symm
theorem oS(L:List Hp)(i:Nat)(h:Hp)(hi:i≤L.length):aR (eQ L i h)=(aR L).take (i*2)++h.cells++(aR L).drop (i*2):=by
 rw[eQ,iG,OP L i hi];show _++(h.cells++aR (L.drop i))=_
 rw[OQ L i hi,List.append_assoc]

def rU(w:World)(base:Nat)(v:Value)(L:List Hp)(e:Ending)(w':World):Prop:=
 ∃A' c',e=.returned (.slice A' L.length c')∧w'.ownsRow base 145 2 (.slice A' L.length c') L.length (aR L)∧Upd (fun k=>v.ownBlock=some k) w w'∧∀k,(Value.slice A' L.length c').ownBlock=some k→v.ownBlock=some k∨w.heap.size≤k
theorem AN(w:World)(base:Nat)(A:Option Addr)(c:Nat)(L:List Hp)(own:w.ownsRow base 145 2 (.slice A L.length c) L.length (aR L))(g:Nat)(h:Hp)(hg:Blk w g 145 h.cells.toArray)(hb:base≤w.heap.size)(hl:(L.length+1)*24≤140737488355328) :
  Calls Tryz.prog 156 #[.slice A L.length c,.int .i64 L.length,.slice (some ⟨g,0,none⟩) 1 1] w (rU w base (.slice A L.length c) (eQ L L.length h)):=by
 have hr:bO w (some ⟨g,0,none⟩) h.cells:=fun j u hj=>⟨g,0,rfl,by rw[Nat.zero_add,hg.cell j];simpa using hj⟩
 obtain⟨A',c',w',happ,own',up,pl⟩:=cK w base 143 145 2 24 _ Tryz.underlying143 lJ rfl (by decide) (by decide) A L.length c _ own (some ⟨g,0,none⟩) 1 1 h.cells hr rfl (by simp[Hp.cells];exact⟨rfl,rfl⟩) hl hb;have e:L++[h]=eQ L L.length h:=by simp[eQ]
 have e2:aR L++h.cells=aR (eQ L L.length h):=by rw[← e,iG];simp[aR]
 have e3:L.length+1=(eQ L L.length h).length:=by rw[← e];simp
 have e4:=aH own;rw[e2] at own';rw[e3] at own' pl;have HH:=hIz (show rU w base (.slice A L.length c) (eQ L L.length h) (.returned (.slice A' (L.length+1) c')) w' from⟨A',c',by rw[e3],own',up,pl⟩);clear own' up pl e3 e e2 own hr hg hb;obtain⟨n,hn⟩:∃n,L.length=n:=⟨_,rfl⟩;rw[hn] at hl e4 happ HH ⊢;clear hn;obtain⟨A0,c0,e5,e6,e7⟩:=e4;injection e5 with e5 _ e8;subst e5;subst e8;have hc63:n≤9223372036854775807:=by omega
 go_enter Tryz.func156,Tryz.ntmps156;rcases e7 with rfl|⟨g0,rfl⟩
 all_goals
  go_wp2_with (at_builtin;refine wpList_append_run rfl _ _ _ rfl rfl rfl happ ?_)
  all_goals
   go_ret;exact HH.out
theorem wR(w:World)(base g0 c:Nat)(L:List Hp)(own:w.ownsRow base 145 2 (.slice (some ⟨g0,0,none⟩) L.length c) L.length (aR L))(g:Nat)(h:Hp)(hg:Blk w g 145 h.cells.toArray)(hne:g≠g0)(i:Nat)(hi:i<L.length)(hc:L.length+1≤c) :
  Calls Tryz.prog 156 #[.slice (some ⟨g0,0,none⟩) L.length c,.int .i64 i,.slice (some ⟨g,0,none⟩) 1 1] w (rU w base (.slice (some ⟨g0,0,none⟩) L.length c) (eQ L i h)):=by
 obtain⟨n,hn⟩:∃n,L.length=n:=⟨_,rfl⟩;have hcl:=dH L;rw[hn] at own hi hc hcl ⊢;rcases own.2 with ⟨e,-⟩|⟨g1,c1,cur,e,hbase,hh,hcn,hcm,hcs,hct⟩
 ·cases e
 injection e with e _ e2;injection e with e;injection e with e;subst e;subst e2;have hlen:n*2+2≤cur.toList.length:=by rw[Array.length_toList,hcs];omega
 have hv:h.cells.length=2:=rfl;have hdl:((aR L).drop (i*2)).length=(n-i)*2:=by rw[List.length_drop,hcl];omega
 obtain⟨Y,hY⟩:∃Y,Y=(aR L).drop (i*2):=⟨_,rfl⟩;rw[← hY] at hdl;have hYc:∀j u,Y[j]?=some u→w.drew.cell? ((⟨g0,i*2,none⟩:Addr).add j)=some u:=fun j u hu=>by
  rw[hY,List.getElem?_drop,← hct,List.getElem?_take] at hu;split at hu
  ·rw[Addr.add_lit];rw[cell_of_row w.drew g0 _ cur _ (0,0) hh];simpa using hu
  ·cases hu
 have hYo:∀u∈Y,u.oneCell'=true:=fun u hu=>DE L u (by rw[hY] at hu;exact List.mem_of_mem_drop hu)
 have hsz:(Tryz.prog.info? 145).map (·.size)=some 2:=by
  obtain⟨i0,hi0,h0,h1,h2⟩:=info_parts lJ;rw[hi0];simp[h1]
 have hcp1:∀ty dc sc,(Builtin.copy_ #[143,143] ty #[.slice (some ⟨g0,(i+1)*2,none⟩) (n+1-(i+1)) dc,.slice (some ⟨g0,i*2,none⟩) (n+1-i) sc]).run Tryz.prog w.drew=.ok (goInt ((n+1-(i+1):Nat):Int)) (w.drew.setCells g0 ((i+1)*2) Y):=fun ty dc sc=>by
  have e:Nat.min (n+1-i) (n+1-(i+1))=n+1-(i+1):=by simp only[Nat.min_def];split <;> omega
  rw[fO w.drew 143 143 ty 145 2 g0 ((i+1)*2) (n+1-(i+1)) dc ⟨g0,i*2,none⟩ (n+1-i) sc Y Tryz.underlying143 hsz (by rw[hdl,e];omega) hYc
   (fun j hj=>kD (w:=w.drew) hh (by rw[hdl] at hj;rw[hcs];omega)) (fun j hj=>kE (w:=w.drew) hh _) hYo,e]
 obtain⟨cu1,k1,z1,l1⟩:=dO g0 Y ((i+1)*2) w.drew cur _ hh (by rw[hdl,hcs];omega);have u1:Upd (fun k=>(Value.slice (some ⟨g0,0,none⟩) n c).ownBlock=some k) w (w.drew.setCells g0 ((i+1)*2) Y):=Upd.setCells (F:=fun k=>(Value.slice (some ⟨g0,0,none⟩) n c).ownBlock=some k) (a:=w) (b:=g0) (.inl rfl) Y _ (Upd.refl _ w).drew;have kg:Blk (w.drew.setCells g0 ((i+1)*2) Y) g 145 h.cells.toArray:=hg.upd u1 (fun e=>by injection e with e;exact hne e.symm);have hov:∀lb cb,(callFunc 196 #[.slice (some ⟨g,0,none⟩) 1 1,.slice (some ⟨g0,(i+1)*2,none⟩) lb cb]).run Tryz.prog w=.ok (.value (.bool false)) w:=fun lb cb=>by
  rw[run_callFunc_extern Tryz.func196 (by kernel_rfl) (by kernel_rfl) (by kernel_rfl) (e:=Extern.SlicesOverlaps.overlaps #[143,143] #[4]) (by kernel_rfl)];obtain⟨i0,hi0,h0,h1,h2⟩:=info_parts lJ;rw[Lib.run_overlaps_apart w 143 4 145 Tryz.underlying143 2 (fun w=>by simp[sizeOf,typeInfo,hi0,h1]) ⟨g,0,none⟩ ⟨g0,(i+1)*2,none⟩ 1 1 lb cb hne 145 145 2 cur.size (by unfold Blk at hg;simp[World.shape?,hg,Hp.cells]) (by simp[World.shape?,hh]) (by rw[hcs];omega) (hg.frozen _) (hg.frozen _)];rfl
 have hcp2:∀ty dc,(Builtin.copy_ #[143,143] ty #[.slice (some ⟨g0,i*2,none⟩) (n+1-i) dc,.slice (some ⟨g,0,none⟩) 1 1]).run Tryz.prog (w.drew.setCells g0 ((i+1)*2) Y)=.ok (goInt 1) ((w.drew.setCells g0 ((i+1)*2) Y).setCells g0 (i*2) h.cells):=fun ty dc=>by
  have e:Nat.min 1 (n+1-i)=1:=by simp only[Nat.min_def];split <;> omega
  rw[fO _ 143 143 ty 145 2 g0 (i*2) (n+1-i) dc ⟨g,0,none⟩ 1 1 h.cells Tryz.underlying143 hsz (by rw[e];rfl) (fun j u hu=>by rw[Addr.add_lit,Nat.zero_add,kg.cell];simpa using hu)
   (fun j hj=>kD k1 (by rw[z1,hcs];rw[hv] at hj;omega)) (fun j hj=>kE k1 _) (by simp[Hp.cells];exact⟨rfl,rfl⟩),e]
  rfl
 obtain⟨cu2,k2,z2,l2⟩:=dO g0 h.cells (i*2) _ cu1 _ k1 (by rw[z1,hcs,hv];omega);have u2:=Upd.setCells (F:=fun k=>(Value.slice (some ⟨g0,0,none⟩) n c).ownBlock=some k) (a:=w) (b:=g0) (.inl rfl) h.cells (i*2) u1;have own':((w.drew.setCells g0 ((i+1)*2) Y).setCells g0 (i*2) h.cells).ownsRow base 145 2 (.slice (some ⟨g0,0,none⟩) (eQ L i h).length c) (eQ L i h).length (aR (eQ L i h)):=by
  have e0:(eQ L i h).length=n+1:=by rw[oR L h (by omega),hn]
  rw[e0];refine⟨by rw[dH,e0],.inr ⟨g0,c,cu2,rfl,hbase,k2,hc,hcm,by rw[z2,z1,hcs],?_⟩⟩;rw[oS L i h (by omega),l2,l1,hY];have:=KB cur.toList (aR L) h.cells (i*2) (by rw[hcl];exact hct) (by omega) (by rw[hcl,hv];exact hlen);rw[hv,hcl] at this;rw[show(n+1)*2=n*2+2 by omega,show(i+1)*2=i*2+2 by omega];exact this
 have e0:n+1=(eQ L i h).length:=by rw[oR L h (by omega),hn]
 have HH:=hIz (show rU w base (.slice (some ⟨g0,0,none⟩) n c) (eQ L i h) (.returned (.slice (some ⟨g0,0,none⟩) (n+1) c)) ((w.drew.setCells g0 ((i+1)*2) Y).setCells g0 (i*2) h.cells) from⟨_,c,by rw[e0],own',u2,fun k hk=>.inl hk⟩);clear own own' u2 u1 kg l1 l2 k1 k2 z1 z2 hg hh hcs hct hlen hdl hYc hYo hY hn hcl hv hsz e0;generalize (w.drew.setCells g0 ((i+1)*2) Y).setCells g0 (i*2) h.cells=W2 at hcp2 HH;generalize w.drew.setCells g0 ((i+1)*2) Y=W1 at hcp1 hcp2;have hz2:¬((i:Int)=(n:Int)):=by omega
 have hw1:IntKind.i64.wrap ((i:Int)+(1:Int))=(i:Int)+(1:Int):=by unfold maxLen at hcm;rw[IntKind.wrap_i64];omega
 have hc63:c≤9223372036854775807:=by unfold maxLen at hcm;omega
 have hin:i≤n:=by omega
 have htn:((i:Int)+(1:Int)).toNat=i+1:=by omega
 have hb1:(0:Int)≤(i:Int)+1:=by omega
 have hb2:¬(c=i+1):=by omega
 have hb3:(i:Int)≤(n:Int)+1:=by omega
 have hb4:¬(c=i):=by omega
 go_enter Tryz.func156,Tryz.ntmps156;go_upto_region 15 with (simp only[hov]);refine aP (fun _=>True) 9 [(0,true),(1,true),(2,true),(3,true),(4,true),(5,true),(6,true),(7,true),(8,false)] (by kernel_rfl) (by kernel_rfl) (fun _ _ d _ _ h=>by cases d <;> exact h) trivial ?_
 iterate 8 refine aD rfl ?_
 refine aK rfl rfl (fun K hK=>?_);refine wp_copy_runI _ _ _ 143 143 rfl (.slice (some ⟨g0,(i+1)*2,none⟩) (n+1-(i+1)) (c-(i+1))) (.slice (some ⟨g0,i*2,none⟩) (n+1-i) (c-i)) (by simp[Act.eval]) (by simp[Act.eval]) (hcp1 _ _ _) ?_;refine hK _ _ (fun _=>trivial) ?_;clear hK K;(try simp only[Act.put,gA,gS,gZ,sA,sZ,sS])
 refine aJ ?_;go_wp2_with (at_builtin;refine wpList_copy_runI _ rfl _ _ 143 143 rfl _ _ rfl rfl (hcp2 _ _) ?_);go_ret;exact HH.out
theorem KE{w:World}{base e size n c:Nat}{A:Option Addr}{xs:List Value}(h:w.ownsRow base e size (.slice A n c) n xs):n≤c∧c≤maxLen:=by
 rcases h.2 with ⟨e,e2⟩|⟨g,cap,cur,e,_,_,hc,hm,_⟩
 ·injection e with _ _ e3;subst e3;rw[e2];exact⟨Nat.le_refl _,by unfold maxLen;omega⟩
 ·injection e with _ _ e3;subst e3;exact⟨hc,hm⟩
theorem wT(w:World)(base g0 c:Nat)(L:List Hp)(own:w.ownsRow base 145 2 (.slice (some ⟨g0,0,none⟩) L.length c) L.length (aR L))(g:Nat)(h:Hp)(hg:Blk w g 145 h.cells.toArray)(hb:base≤w.heap.size)(i:Nat)(hi:i<L.length)(hc:c<L.length+1)(hl:(L.length+1)*24≤140737488355328) :
  Calls Tryz.prog 156 #[.slice (some ⟨g0,0,none⟩) L.length c,.int .i64 i,.slice (some ⟨g,0,none⟩) 1 1] w (rU w base (.slice (some ⟨g0,0,none⟩) L.length c) (eQ L i h)):=by
 obtain⟨n,hn⟩:∃n,L.length=n:=⟨_,rfl⟩;have hcl:=dH L;have hil:=oR L h (Nat.le_of_lt hi);have hgs:=(own.lt g0 rfl).2;have hrr:=bO.of_own own;have hcm:=KE own;rw[hn] at hi hc hcl hl hil hcm ⊢;rw[hn] at own;have hold0:∀j u,(aR L)[j]?=some u→w.cell? ⟨g0,j,none⟩=some u:=fun j u hu=>by
  obtain⟨b',o',e,y⟩:=hrr j u hu;injection e with e;injection e with e1 e2;subst e1;subst e2;rwa [Nat.zero_add] at y
 obtain⟨i0,hi0,hz0,hz1,hz2⟩:=info_parts lJ;have hsz:(Tryz.prog.info? 145).map (·.size)=some 2:=by rw[hi0];simp[hz1]
 have hv:h.cells.length=2:=rfl;have hkk:(n:Int)+1-(i:Int)=((n+1-i:Nat):Int):=by omega
 have hik:i+(n+1-i)=n+1:=by omega
 have hold:(Builtin.firstCells i0.size i (.slice (some ⟨g0,0,none⟩) i c)).run Tryz.prog w.drew=.ok ((aR L).take (i*2)).toArray w.drew:=by
  rw[hz1];exact run_firstCells_some w.drew 2 i ⟨g0,0,none⟩ i c _ (by rw[List.length_take];omega) (fun j v hj=>by
   rw[Addr.add_lit,Nat.zero_add];rw[List.getElem?_take] at hj;split at hj
   ·exact hold0 j v hj
   ·cases hj)
 have hrz:∀ty,(Builtin.append_ #[143,3] ty #[.slice (some ⟨g0,0,none⟩) i c,.int .i64 ((n:Int)+1-(i:Int))]).run Tryz.prog w =
   .ok (.slice (some ⟨w.heap.size,0,none⟩) (n+1) (grownCap w (n+1) c 145)) (w.drew.alloc (.cells (((aR L).take (i*2)).toArray++Builtin.zeroCells (Value.agg #[.string ByteArray.empty,.int .i64 0]).cells (n+1-i)++Builtin.zeroCells (Value.agg #[.string ByteArray.empty,.int .i64 0]).cells (grownCap w (n+1) c 145-(n+1))) 145)):=fun ty=>by
  have h:=Lib.run_append_grow_zeros w 143 3 ty 145 i0 _ .i64 .i64 Tryz.underlying143 Tryz.underlying3 hi0 hz0 (some ⟨g0,0,none⟩) i c ((aR L).take (i*2)) hold (n+1-i) (by omega) (by omega) (by omega) (by omega) (by rw[hz2];omega) (by rw[hz2,hik];exact growslice_fits hc hl);rw[hik] at h;rw[hkk];exact h
 have hG63:grownCap w (n+1) c 145≤maxLen:=grownCap_le_maxLen w (n+1) c 145 (by unfold maxLen;omega);have hGn:n+1≤grownCap w (n+1) c 145:=grownCap_ge w _ _ _;obtain⟨G,hG⟩:∃G,G=grownCap w (n+1) c 145:=⟨_,rfl⟩;rw[← hG] at hrz hG63 hGn;obtain⟨ROW,hROW⟩:∃ROW:Array Value,ROW=((aR L).take (i*2)).toArray++Builtin.zeroCells (Value.agg #[.string ByteArray.empty,.int .i64 0]).cells (n+1-i)++Builtin.zeroCells (Value.agg #[.string ByteArray.empty,.int .i64 0]).cells (G-(n+1)):=⟨_,rfl⟩;rw[← hROW] at hrz;have hRl:ROW.size=G*2:=by
  rw[hROW];simp only[Array.size_append,List.size_toArray,size_zeroCells,List.length_take,hcl]
  simp[Value.cells]
  omega
 have hRt:ROW.toList.take (i*2)=(aR L).take (i*2):=by
  rw[hROW];simp only[Array.toList_append,List.append_assoc]
  exact List.take_left' (by rw[List.length_take];omega)
 clear hROW hold;have k0:(w.drew.alloc (.cells ROW 145)).heap[w.heap.size]?=some (.cells ROW 145 (0,0)):=Blk.new w.drew _ _;have u0:Upd (fun k=>(Value.slice (some ⟨g0,0,none⟩) n c).ownBlock=some k) w (w.drew.alloc (.cells ROW 145)):=((Upd.refl _ w).drew).alloc _;have b0:Upd (fun _=>False) w (w.drew.alloc (.cells ROW 145)):=((Upd.refl _ w).drew).alloc _;generalize w.drew.alloc (.cells ROW 145)=W0 at hrz k0 u0 b0;have hcpA:∀ty dc,(Builtin.copy_ #[143,143] ty #[.slice (some ⟨w.heap.size,i*2,none⟩) (n+1-i) dc,.slice (some ⟨g,0,none⟩) 1 1]).run Tryz.prog W0=.ok (goInt 1) (W0.setCells w.heap.size (i*2) h.cells):=fun ty dc=>by
  have e:Nat.min 1 (n+1-i)=1:=by simp only[Nat.min_def];split <;> omega
  rw[fO _ 143 143 ty 145 2 w.heap.size (i*2) (n+1-i) dc ⟨g,0,none⟩ 1 1 h.cells Tryz.underlying143 hsz (by rw[e];rfl) (fun j u hu=>by rw[Addr.add_lit,Nat.zero_add,(hg.upd b0 id).cell];simpa using hu)
   (fun j hj=>kD k0 (by rw[hRl];rw[hv] at hj;omega)) (fun j hj=>kE k0 _) (by simp[Hp.cells];exact⟨rfl,rfl⟩),e]
  rfl
 obtain⟨cu1,k1,z1,l1⟩:=dO w.heap.size h.cells (i*2) W0 ROW _ k0 (by rw[hRl,hv];omega);have u1:=Upd.setCells (F:=fun k=>(Value.slice (some ⟨g0,0,none⟩) n c).ownBlock=some k) (a:=w) (b:=w.heap.size) (.inr (Nat.le_refl _)) h.cells (i*2) u0;have b1:=Upd.setCells (F:=fun _=>False) (a:=w) (b:=w.heap.size) (.inr (Nat.le_refl _)) h.cells (i*2) b0;generalize W0.setCells w.heap.size (i*2) h.cells=W1 at hcpA k1 u1 b1;have hdl:((aR L).drop (i*2)).length=(n-i)*2:=by rw[List.length_drop,hcl];omega
 obtain⟨Y,hY⟩:∃Y,Y=(aR L).drop (i*2):=⟨_,rfl⟩;rw[← hY] at hdl;have hYc:∀j u,Y[j]?=some u→W1.drew.cell? ((⟨g0,i*2,none⟩:Addr).add j)=some u:=fun j u hu=>by
  rw[hY,List.getElem?_drop] at hu;rw[Addr.add_lit];show W1.cell? _=_
  rw[b1.cell (by exact hgs) id];exact hold0 _ _ hu
 have hYo:∀u∈Y,u.oneCell'=true:=fun u hu=>DE L u (by rw[hY] at hu;exact List.mem_of_mem_drop hu)
 have hcpB:∀ty dc sc,(Builtin.copy_ #[143,143] ty #[.slice (some ⟨w.heap.size,(i+1)*2,none⟩) (n+1-(i+1)) dc,.slice (some ⟨g0,i*2,none⟩) (n-i) sc]).run Tryz.prog W1.drew=.ok (goInt ((n-i:Nat):Int)) (W1.drew.setCells w.heap.size ((i+1)*2) Y):=fun ty dc sc=>by
  have e:Nat.min (n-i) (n+1-(i+1))=n-i:=by simp only[Nat.min_def];split <;> omega
  rw[fO W1.drew 143 143 ty 145 2 w.heap.size ((i+1)*2) (n+1-(i+1)) dc ⟨g0,i*2,none⟩ (n-i) sc Y Tryz.underlying143 hsz (by rw[hdl,e]) hYc
   (fun j hj=>kD (w:=W1.drew) k1 (by rw[hdl] at hj;rw[z1,hRl];omega)) (fun j hj=>kE (w:=W1.drew) k1 _) hYo,e]
 obtain⟨cu2,k2,z2,l2⟩:=dO w.heap.size Y ((i+1)*2) W1.drew cu1 _ k1 (by rw[hdl,z1,hRl];omega);have u2:=Upd.setCells (F:=fun k=>(Value.slice (some ⟨g0,0,none⟩) n c).ownBlock=some k) (a:=w) (b:=w.heap.size) (.inr (Nat.le_refl _)) Y ((i+1)*2) u1.drew;generalize W1.drew.setCells w.heap.size ((i+1)*2) Y=W2 at hcpB k2 u2;have own':W2.ownsRow base 145 2 (.slice (some ⟨w.heap.size,0,none⟩) (eQ L i h).length G) (eQ L i h).length (aR (eQ L i h)):=by
  rw[hil];refine⟨by rw[dH,hil],.inr ⟨w.heap.size,G,cu2,rfl,hb,k2,hGn,hG63,by rw[z2,z1,hRl],?_⟩⟩;rw[oS L i h (by omega),l2,l1,← hY,← hRt];have:=KC ROW.toList h.cells Y (i*2) (by rw[hv,hdl,Array.length_toList,hRl];omega);rw[hv,hdl] at this;rw[hdl,hv,show(n+1)*2=i*2+2+(n-i)*2 by omega,show(i+1)*2=i*2+2 by omega];exact this
 have HH:=hIz (show rU w base (.slice (some ⟨g0,0,none⟩) n c) (eQ L i h) (.returned (.slice (some ⟨w.heap.size,0,none⟩) (n+1) G)) W2 from⟨_,G,by rw[hil],own',u2,fun k hk=>.inr (by injection hk with hk;exact Nat.le_of_eq hk)⟩);clear own own' u0 u1 u2 b0 b1 k0 k1 k2 z1 z2 l1 l2 hg hRl hRt hdl hYc hYo hY hn hcl hv hsz hil hrr hold0 hik hi0 hz0 hz1 hz2;have hz2:¬((i:Int)=(n:Int)):=by omega
 have hz3:(c:Int)<(n:Int)+1:=by omega
 have hw1:IntKind.i64.wrap ((i:Int)+(1:Int))=(i:Int)+(1:Int):=by rw[IntKind.wrap_i64];omega
 have hc63:c≤9223372036854775807:=by omega
 have hG64:G≤9223372036854775807:=by unfold maxLen at hG63;omega
 have hin:i≤n:=by omega
 have hnc:n≤c:=hcm.1;have htn:((i:Int)+(1:Int)).toNat=i+1:=by omega
 have hb1:(0:Int)≤(i:Int)+1:=by omega
 have hb3:(i:Int)≤(n:Int):=by omega
 have hb4:¬(c=i):=by omega
 have hb5:¬(G=i):=by omega
 have hb6:¬(G=i+1):=by omega
 clear hcm hkk hG hG63;go_enter Tryz.func156,Tryz.ntmps156;go_upto_region 11 with (first
  | (at_builtin;refine Lib.wpList_append_run _ rfl _ _ _ _ rfl _ _ rfl rfl _ _ (hrz _) ?_)
  | (at_builtin;refine wpList_copy_runI _ rfl _ _ 143 143 rfl _ _ rfl rfl (hcpA _ _) ?_))
 refine aP (fun _=>True) 9 [(0,true),(1,true),(2,true),(3,true),(4,true),(5,true),(6,true),(7,true),(8,false)] (by kernel_rfl) (by kernel_rfl) (fun _ _ d _ _ h=>by cases d <;> exact h) trivial ?_
 iterate 8 refine aD rfl ?_
 refine aK rfl rfl (fun K hK=>?_);refine wp_copy_runI _ _ _ 143 143 rfl (.slice (some ⟨w.heap.size,(i+1)*2,none⟩) (n+1-(i+1)) (G-(i+1))) (.slice (some ⟨g0,i*2,none⟩) (n-i) (c-i)) (by simp[Act.eval]) (by simp[Act.eval]) (hcpB _ _ _) ?_;refine hK _ _ (fun _=>trivial) ?_;clear hK K;(try simp only[Act.put,gA,gS,gZ,sA,sZ,sS])
 refine aJ ?_;go_wp2;go_ret;exact HH.out
theorem AO(w:World)(base:Nat)(A:Option Addr)(c:Nat)(L:List Hp)(own:w.ownsRow base 145 2 (.slice A L.length c) L.length (aR L))(g:Nat)(h:Hp)(hg:Blk w g 145 h.cells.toArray)(hne:(Value.slice A L.length c).ownBlock≠some g)(hb:base≤w.heap.size)(i:Nat)(hi:i≤L.length)(hl:(L.length+1)*24≤140737488355328) :
  Calls Tryz.prog 156 #[.slice A L.length c,.int .i64 i,.slice (some ⟨g,0,none⟩) 1 1] w (rU w base (.slice A L.length c) (eQ L i h)):=by
 rcases Nat.lt_or_eq_of_le hi with h1|rfl
 ·obtain⟨A0,c0,e5,e6,e7⟩:=aH own;injection e5 with e5 _ e8;subst e5;subst e8;rcases e7 with rfl|⟨g0,rfl⟩
  ·exfalso
   rcases own.2 with ⟨_,e⟩|⟨_,_,_,e,_⟩
   ·omega
   ·injection e with e;cases e
  ·rcases Nat.lt_or_ge c (L.length+1) with h2|h2
   ·exact wT w base g0 c L own g h hg hb i h1 h2 hl
   ·exact wR w base g0 c L own g h hg (fun e=>hne (by rw[e];rfl)) i h1 h2
 ·exact AN w base A c L own g h hg hb hl
open Go.RowKit
def aV:List Nat:=List.replicate 64 0
def aZ(x y:Nat):Nat:=x &&& (18446744073709551615-y)
def orN(x y:Nat):Nat:=x ||| y
def AP(f:Nat→Nat→Nat)(a b:List Nat)(k:Nat):List Nat:=(List.zipWith f a b).take k++a.drop k
theorem uM(f:Nat→Nat→Nat)(a b:List Nat):AP f a b 0=a:=by simp[AP]
theorem yH{f:Nat→Nat→Nat}{a b:List Nat}(ha:a.length=64)(hb:b.length=64):AP f a b 64=List.zipWith f a b:=by
 unfold AP;rw[List.take_of_length_le (by rw[List.length_zipWith,ha,hb];decide),List.drop_of_length_le (by omega),List.append_nil]
theorem DV{f:Nat→Nat→Nat}{a b:List Nat}{k x:Nat}(hab:a.length=b.length)(h:a[k]?=some x):(AP f a b k)[k]?=some x:=by
 have hk:=(gO.1 h).1;unfold AP;have hl:((List.zipWith f a b).take k).length=k:=by rw[List.length_take,List.length_zipWith];omega
 rw[List.getElem?_append_right (by omega),hl,Nat.sub_self,List.getElem?_drop,Nat.add_zero,h]
theorem yI{f:Nat→Nat→Nat}{a b:List Nat}{k x y:Nat}(hab:a.length=b.length)(hx:a[k]?=some x)(hy:b[k]?=some y):(AP f a b k).set k (f x y)=AP f a b (k+1):=by
 obtain⟨hk,hxe⟩:=gO.1 hx;have hz:(List.zipWith f a b)[k]?=some (f x y):=by rw[List.getElem?_zipWith,hx,hy]
 have hl:((List.zipWith f a b).take k).length=k:=by rw[List.length_take,List.length_zipWith];omega
 unfold AP;rw[List.set_append_right _ _ (by omega),hl,Nat.sub_self,List.drop_eq_getElem_cons hk,List.set_cons_zero,List.take_add_one,hz,Option.toList_some,List.append_assoc,List.singleton_append]
theorem bB{W:World}{g:Nat}{t:TypeId}:Blk W g t Z64↔Blk W g t (wdC aV).toArray:=by
 have e:Z64=(wdC aV).toArray:=by kernel_rfl
 rw[e]
theorem lN{W:World}{g n:Nat}{t:TypeId}{cs:Array Value}(h:Blk W g t cs)(hn:n≤cs.size):W.there g 0 n:=fun i hi=>by
 have hlt:i<cs.size:=by omega
 rw[Nat.zero_add];exact⟨by rw[h.cell i,Array.getElem?_eq_getElem hlt];rfl,h.frozen i⟩
theorem fK(r:List Nat):∀v∈wdC r,v.oneCell'=true:=fun v hv=>by
 obtain⟨x,_,rfl⟩:=List.mem_map.1 hv;rfl
theorem DW(x y:Nat)(hx:x<18446744073709551616)(hy:y<18446744073709551616):bits .andNot .u64 (x:Int) (y:Int)=((aZ x y:Nat):Int):=u64_andNot_nat x y hx hy
theorem wU{f:Nat→Nat→Nat}:∀{a b:List Nat} {z:Nat},z∈List.zipWith f a b→∃x∈a,∃y∈b,z=f x y
 | [],_,_,h=>by simp at h
 | _::_,[],_,h=>by simp at h
 | x::a,y::b,z,h=>by
  rw[List.zipWith_cons_cons,List.mem_cons] at h;rcases h with rfl|h
  ·exact⟨x,by simp,y,by simp,rfl⟩
  ·obtain⟨x',hx,y',hy,e⟩:=wU h;exact⟨x',by simp[hx],y',by simp[hy],e⟩
theorem mQ{a b:List Nat}(ha:Wd a)(hb:Wd b):Wd (List.zipWith aZ a b):=⟨by rw[List.length_zipWith,ha.len,hb.len];decide,fun z hz=>by
 obtain⟨x,hx,y,_,rfl⟩:=wU hz;exact Nat.lt_of_le_of_lt Nat.and_le_left (ha.fit x hx)⟩
theorem OR(x y:Nat)(hx:x<18446744073709551616)(hy:y<18446744073709551616):bits .or .u64 (x:Int) (y:Int)=((orN x y:Nat):Int):=bits_or_u64_nat x y hx hy
theorem RL{a b:List Nat}(ha:Wd a)(hb:Wd b):Wd (List.zipWith orN a b):=⟨by rw[List.length_zipWith,ha.len,hb.len];decide,fun z hz=>by
 obtain⟨x,hx,y,hy,rfl⟩:=wU hz;exact Nat.or_lt_two_pow (n:=64) (ha.fit x hx) (hb.fit y hy)⟩
theorem mR(r:List Nat)(k x:Nat):(wdC r).toArray.setIfInBounds k (.int .u64 (x:Int))=(wdC (r.set k x)).toArray:=by
 simp[wdC,List.map_set]
theorem uN(w:World)(a b:List Nat)(ha:Wd a)(hb:Wd b):Calls Tryz.prog 137 #[wdV a,wdV b] w (Sam w (wdV (List.zipWith aZ a b))):=by
 have k0:=((Blk.new w 168 (wdC a).toArray).alloc (.cells (wdC b).toArray 168)).alloc (.cells Z64 168);have k1:=(Blk.new (w.alloc (.cells (wdC a).toArray 168)) 168 (wdC b).toArray).alloc (.cells Z64 168);have k2:=Blk.new ((w.alloc (.cells (wdC a).toArray 168)).alloc (.cells (wdC b).toArray 168)) 168 Z64;simp only[World.size_alloc] at k1 k2
 have u0:Below w.heap.size w (((w.alloc (.cells (wdC a).toArray 168)).alloc (.cells (wdC b).toArray 168)).alloc (.cells Z64 168)):=by(repeat (first | exact Below.refl _ _ | apply Below.drew | refine Below.alloc ?_ (by first | exact Nat.le_refl _ | (simp;done) | (simp;omega)) _ | refine Below.setCell ?_ (by first | exact Nat.le_refl _ | (simp;done) | (simp;omega)) _))
 have H:=aI6 ha hb k0 k1 (bB.mp k2) u0;clear k0 k1 k2 u0 ha hb;unfold wdV;go_enter Tryz.func137,Tryz.ntmps137;go_upto_region 1 with (fail);generalize ((w.alloc (.cells (wdC a).toArray 168)).alloc (.cells (wdC b).toArray 168)).alloc (.cells Z64 168)=W0 at H ⊢;go_wp2_with fail;go_loopw [6] (fun i wr=>∃k:Nat,k≤64∧i=.int .i64 k∧Hid (Blk wr w.heap.size 168 (wdC (AP aZ a b k)).toArray)∧Hid (Blk wr (w.heap.size+1) 168 (wdC b).toArray)∧Hid (Blk wr (w.heap.size+1+1) 168 (wdC aV).toArray)∧Hid (Below w.heap.size w wr)) (fun i _=>64-(intOf i).toNat)
 case atStart=>exact⟨0,Nat.zero_le _,rfl,hIz (by rw[uM];exact H.out.2.2.1),hIz H.out.2.2.2.1,hIz H.out.2.2.2.2.1,hIz H.out.2.2.2.2.2⟩
 case round =>
  obtain⟨k,hk,rfl,hA,hB,hC,hbw⟩:=hrel;have hab:a.length=b.length:=by rw[H.out.1.len,H.out.2.1.len]
  by_cases hlt:k<64
  ·have hltI:(k:Int)<(64:Int):=by omega
   have hkw:IntKind.i64.wrap ((k:Int)+1)=(k:Int)+1:=IntWalk.i64_in _ (by omega);obtain⟨x,hx⟩:∃x,a[k]?=some x:=⟨a[k]'(by rw[H.out.1.len];exact hlt),gEz _⟩;obtain⟨y,hy⟩:∃x,b[k]?=some x:=⟨b[k]'(by rw[H.out.2.1.len];exact hlt),gEz _⟩;have hop:=DW x y (H.out.1.fit x (mG hx)) (H.out.2.1.fit y (mG hy));have c0:wr.drew.cell? ⟨w.heap.size,k,none⟩=some (.int .u64 (x:Int)):=(hA.out.drew.cell k).trans (by simpa using gB (DV (f:=aZ) hab hx));have c1:wr.drew.cell? ⟨w.heap.size+1,k,none⟩=some (.int .u64 (y:Int)):=(hB.out.drew.cell k).trans (by simpa using gB hy);have f0:wr.drew.frozen? ⟨w.heap.size,k,none⟩=false:=hA.out.drew.frozen k;have hS:wr.drew.cell? ⟨w.heap.size,k,none⟩=some (.int .u64 (x:Int))∧wr.drew.cell? ⟨w.heap.size+1,k,none⟩=some (.int .u64 (y:Int)):=⟨c0,c1⟩;have hb2:Upd (fun q=>q=w.heap.size) wr.drew (wr.drew.setCell ⟨w.heap.size,k,none⟩ (.int .u64 ((aZ x y:Nat):Int))):=(Upd.refl (fun q=>q=w.heap.size) wr.drew).setCell (p:=⟨w.heap.size,k,none⟩) (.inl rfl) _;have HN:=hIz (show Blk (wr.drew.setCell ⟨w.heap.size,k,none⟩ (.int .u64 ((aZ x y:Nat):Int))) w.heap.size 168 (wdC (AP aZ a b (k+1))).toArray∧Blk (wr.drew.setCell ⟨w.heap.size,k,none⟩ (.int .u64 ((aZ x y:Nat):Int))) (w.heap.size+1) 168 (wdC b).toArray∧Blk (wr.drew.setCell ⟨w.heap.size,k,none⟩ (.int .u64 ((aZ x y:Nat):Int))) (w.heap.size+1+1) 168 (wdC aV).toArray∧Below w.heap.size w (wr.drew.setCell ⟨w.heap.size,k,none⟩ (.int .u64 ((aZ x y:Nat):Int))) from by
    refine⟨?_,hB.out.drew.upd hb2 (by omega),hC.out.drew.upd hb2 (by omega),hbw.out.drew.trans (hb2.below (fun q _ e=>Nat.le_of_eq e.symm) hbw.out.size)⟩;have:=hA.out.drew.set k (.int .u64 ((aZ x y:Nat):Int));rw[mR,yI hab hx hy] at this;exact this)
   clear hA hB hC hbw hb2 hx hy c1;generalize hq:(aZ x y:Nat)=q at hop HN;clear hq;go_upto_region 4 with (fail);refine aN (fun W=>W.cell? ⟨w.heap.size,k,none⟩=some (.int .u64 (x:Int))∧W.cell? ⟨w.heap.size+1,k,none⟩=some (.int .u64 (y:Int))) 8 [(0,true),(1,true),(2,true),(3,true),(4,true),(5,true),(6,true),(7,true),(8,false)] hS ?_;generalize wr.drew=V0 at hS c0 f0 HN ⊢
   iterate 8 refine aD rfl ?_
   refine aK rfl rfl (fun K hK=>?_);go_simp;refine hK _ _ (fun h=>absurd rfl h) ?_;clear hK K hS c0 f0 hop;(try simp only[Act.put,gA,gS,gZ,sA,sZ,sS])
   refine aJ ?_;generalize V0.setCell ⟨w.heap.size,k,none⟩ (.int .u64 (q:Int))=W1 at HN ⊢;go_wp2;go_roundw
   case rel=>exact⟨k+1,by omega,by go_num,hIz HN.out.1,hIz HN.out.2.1,hIz HN.out.2.2.1,hIz HN.out.2.2.2⟩
   case measure=>simp[intOf];omega
  ·obtain rfl:k=64:=by omega
   have hA2:=hA.out;rw[yH H.out.1.len H.out.2.1.len] at hA2;have hz:Wd (List.zipWith aZ a b):=mQ H.out.1 H.out.2.1;have hrg:=bP hA2;have hsz:=bH hz;have hth:wr.there (w.heap.size+1+1) 0 (wdC (List.zipWith aZ a b)).toArray.size:=lN hC.out (by simp[bJ,hz.len,aV]);have hsz2:(Tryz.prog.info? 168).map (·.size)=some (wdC (List.zipWith aZ a b)).toArray.size:=by simpa using hsz
   have h1c:(wdC (List.zipWith aZ a b)).toArray.all (·.oneCell')=true:=all_oneCell_toArray (fK _);have FIN:=hIz (show Below w.heap.size w (wr.setCells (w.heap.size+1+1) 0 (wdC (List.zipWith aZ a b)))∧(wr.setCells (w.heap.size+1+1) 0 (wdC (List.zipWith aZ a b))).rangeAt (w.heap.size+1+1) 0 (wdC (List.zipWith aZ a b)) from⟨hbw.out.trans ((Upd.setCells (F:=fun q=>q=w.heap.size+1+1) (.inl rfl) _ _ (Upd.refl _ _)).below (fun q _ e=>by omega) hbw.out.size),World.rangeAt_setCells_same _ _ _ _ (by simpa using hth)⟩);clear hA hB hC hbw hA2;go_upto_region 6 with (fail);go_wp2_with (first | (refine wpList_load_mid rfl 168 _ rfl w.heap.size 0 rfl (wdC (List.zipWith aZ a b)) (.array 64 166) hrg Tryz.underlying168 rfl hsz ?_) | (refine wpList_store_mid rfl 168 _ _ rfl (w.heap.size+1+1) 0 (wdC (List.zipWith aZ a b)).toArray rfl rfl hth hsz2 h1c ?_));have hlv:=run_loadVar_mid (P:=Tryz.prog) _ (w.heap.size+1+1) 0 168 (wdC (List.zipWith aZ a b)) (.array 64 166) FIN.out.2 Tryz.underlying168 rfl hsz;refine bodyPost_ret (v:=.agg (wdC (List.zipWith aZ a b)).toArray) (by simp[results,Tryz.f137,Act.put,asAddr,hlv,Result.andThen,Sem.run_bind]) rfl ⟨rfl,FIN.out.1⟩
theorem OS(w:World)(a b:List Nat)(ha:Wd a)(hb:Wd b):Calls Tryz.prog 138 #[wdV a,wdV b] w (Sam w (wdV (List.zipWith orN a b))):=by
 have k0:=((Blk.new w 168 (wdC a).toArray).alloc (.cells (wdC b).toArray 168)).alloc (.cells Z64 168);have k1:=(Blk.new (w.alloc (.cells (wdC a).toArray 168)) 168 (wdC b).toArray).alloc (.cells Z64 168);have k2:=Blk.new ((w.alloc (.cells (wdC a).toArray 168)).alloc (.cells (wdC b).toArray 168)) 168 Z64;simp only[World.size_alloc] at k1 k2
 have u0:Below w.heap.size w (((w.alloc (.cells (wdC a).toArray 168)).alloc (.cells (wdC b).toArray 168)).alloc (.cells Z64 168)):=by(repeat (first | exact Below.refl _ _ | apply Below.drew | refine Below.alloc ?_ (by first | exact Nat.le_refl _ | (simp;done) | (simp;omega)) _ | refine Below.setCell ?_ (by first | exact Nat.le_refl _ | (simp;done) | (simp;omega)) _))
 have H:=aI6 ha hb k0 k1 (bB.mp k2) u0;clear k0 k1 k2 u0 ha hb;unfold wdV;go_enter Tryz.func138,Tryz.ntmps138;go_upto_region 1 with (fail);generalize ((w.alloc (.cells (wdC a).toArray 168)).alloc (.cells (wdC b).toArray 168)).alloc (.cells Z64 168)=W0 at H ⊢;go_wp2_with fail;go_loopw [6] (fun i wr=>∃k:Nat,k≤64∧i=.int .i64 k∧Hid (Blk wr w.heap.size 168 (wdC (AP orN a b k)).toArray)∧Hid (Blk wr (w.heap.size+1) 168 (wdC b).toArray)∧Hid (Blk wr (w.heap.size+1+1) 168 (wdC aV).toArray)∧Hid (Below w.heap.size w wr)) (fun i _=>64-(intOf i).toNat)
 case atStart=>exact⟨0,Nat.zero_le _,rfl,hIz (by rw[uM];exact H.out.2.2.1),hIz H.out.2.2.2.1,hIz H.out.2.2.2.2.1,hIz H.out.2.2.2.2.2⟩
 case round =>
  obtain⟨k,hk,rfl,hA,hB,hC,hbw⟩:=hrel;have hab:a.length=b.length:=by rw[H.out.1.len,H.out.2.1.len]
  by_cases hlt:k<64
  ·have hltI:(k:Int)<(64:Int):=by omega
   have hkw:IntKind.i64.wrap ((k:Int)+1)=(k:Int)+1:=IntWalk.i64_in _ (by omega);obtain⟨x,hx⟩:∃x,a[k]?=some x:=⟨a[k]'(by rw[H.out.1.len];exact hlt),gEz _⟩;obtain⟨y,hy⟩:∃x,b[k]?=some x:=⟨b[k]'(by rw[H.out.2.1.len];exact hlt),gEz _⟩;have hop:=OR x y (H.out.1.fit x (mG hx)) (H.out.2.1.fit y (mG hy));have c0:wr.drew.cell? ⟨w.heap.size,k,none⟩=some (.int .u64 (x:Int)):=(hA.out.drew.cell k).trans (by simpa using gB (DV (f:=orN) hab hx));have c1:wr.drew.cell? ⟨w.heap.size+1,k,none⟩=some (.int .u64 (y:Int)):=(hB.out.drew.cell k).trans (by simpa using gB hy);have f0:wr.drew.frozen? ⟨w.heap.size,k,none⟩=false:=hA.out.drew.frozen k;have hS:wr.drew.cell? ⟨w.heap.size,k,none⟩=some (.int .u64 (x:Int))∧wr.drew.cell? ⟨w.heap.size+1,k,none⟩=some (.int .u64 (y:Int)):=⟨c0,c1⟩;have hb2:Upd (fun q=>q=w.heap.size) wr.drew (wr.drew.setCell ⟨w.heap.size,k,none⟩ (.int .u64 ((orN x y:Nat):Int))):=(Upd.refl (fun q=>q=w.heap.size) wr.drew).setCell (p:=⟨w.heap.size,k,none⟩) (.inl rfl) _;have HN:=hIz (show Blk (wr.drew.setCell ⟨w.heap.size,k,none⟩ (.int .u64 ((orN x y:Nat):Int))) w.heap.size 168 (wdC (AP orN a b (k+1))).toArray∧Blk (wr.drew.setCell ⟨w.heap.size,k,none⟩ (.int .u64 ((orN x y:Nat):Int))) (w.heap.size+1) 168 (wdC b).toArray∧Blk (wr.drew.setCell ⟨w.heap.size,k,none⟩ (.int .u64 ((orN x y:Nat):Int))) (w.heap.size+1+1) 168 (wdC aV).toArray∧Below w.heap.size w (wr.drew.setCell ⟨w.heap.size,k,none⟩ (.int .u64 ((orN x y:Nat):Int))) from by
    refine⟨?_,hB.out.drew.upd hb2 (by omega),hC.out.drew.upd hb2 (by omega),hbw.out.drew.trans (hb2.below (fun q _ e=>Nat.le_of_eq e.symm) hbw.out.size)⟩;have:=hA.out.drew.set k (.int .u64 ((orN x y:Nat):Int));rw[mR,yI hab hx hy] at this;exact this)
   clear hA hB hC hbw hb2 hx hy c1;generalize hq:(orN x y:Nat)=q at hop HN;clear hq;go_upto_region 4 with (fail);refine aN (fun W=>W.cell? ⟨w.heap.size,k,none⟩=some (.int .u64 (x:Int))∧W.cell? ⟨w.heap.size+1,k,none⟩=some (.int .u64 (y:Int))) 8 [(0,true),(1,true),(2,true),(3,true),(4,true),(5,true),(6,true),(7,true),(8,false)] hS ?_;generalize wr.drew=V0 at hS c0 f0 HN ⊢
   iterate 8 refine aD rfl ?_
   refine aK rfl rfl (fun K hK=>?_);go_simp;refine hK _ _ (fun h=>absurd rfl h) ?_;clear hK K hS c0 f0 hop;(try simp only[Act.put,gA,gS,gZ,sA,sZ,sS])
   refine aJ ?_;generalize V0.setCell ⟨w.heap.size,k,none⟩ (.int .u64 (q:Int))=W1 at HN ⊢;go_wp2;go_roundw
   case rel=>exact⟨k+1,by omega,by go_num,hIz HN.out.1,hIz HN.out.2.1,hIz HN.out.2.2.1,hIz HN.out.2.2.2⟩
   case measure=>simp[intOf];omega
  ·obtain rfl:k=64:=by omega
   have hA2:=hA.out;rw[yH H.out.1.len H.out.2.1.len] at hA2;have hz:Wd (List.zipWith orN a b):=RL H.out.1 H.out.2.1;have hrg:=bP hA2;have hsz:=bH hz;have hth:wr.there (w.heap.size+1+1) 0 (wdC (List.zipWith orN a b)).toArray.size:=lN hC.out (by simp[bJ,hz.len,aV]);have hsz2:(Tryz.prog.info? 168).map (·.size)=some (wdC (List.zipWith orN a b)).toArray.size:=by simpa using hsz
   have h1c:(wdC (List.zipWith orN a b)).toArray.all (·.oneCell')=true:=all_oneCell_toArray (fK _);have FIN:=hIz (show Below w.heap.size w (wr.setCells (w.heap.size+1+1) 0 (wdC (List.zipWith orN a b)))∧(wr.setCells (w.heap.size+1+1) 0 (wdC (List.zipWith orN a b))).rangeAt (w.heap.size+1+1) 0 (wdC (List.zipWith orN a b)) from⟨hbw.out.trans ((Upd.setCells (F:=fun q=>q=w.heap.size+1+1) (.inl rfl) _ _ (Upd.refl _ _)).below (fun q _ e=>by omega) hbw.out.size),World.rangeAt_setCells_same _ _ _ _ (by simpa using hth)⟩);clear hA hB hC hbw hA2;go_upto_region 6 with (fail);go_wp2_with (first | (refine wpList_load_mid rfl 168 _ rfl w.heap.size 0 rfl (wdC (List.zipWith orN a b)) (.array 64 166) hrg Tryz.underlying168 rfl hsz ?_) | (refine wpList_store_mid rfl 168 _ _ rfl (w.heap.size+1+1) 0 (wdC (List.zipWith orN a b)).toArray rfl rfl hth hsz2 h1c ?_));have hlv:=run_loadVar_mid (P:=Tryz.prog) _ (w.heap.size+1+1) 0 168 (wdC (List.zipWith orN a b)) (.array 64 166) FIN.out.2 Tryz.underlying168 rfl hsz;refine bodyPost_ret (v:=.agg (wdC (List.zipWith orN a b)).toArray) (by simp[results,Tryz.f138,Act.put,asAddr,hlv,Result.andThen,Sem.run_bind]) rfl ⟨rfl,FIN.out.1⟩
open Go.RowKit
theorem lO(n:Nat)(hn:n<64)(w:World):Calls Tryz.prog 146 #[.int .i64 (n:Int)] w (fun e w'=>e=.returned (.bool true)∧w'=w):=by
 have h0:(0:Int)≤(n:Int):=by omega
 have h1:(n:Int)<64:=by omega
 go_enter Tryz.func146,Tryz.ntmps146;go_wp2;go_ret;exact⟨rfl,rfl⟩
def fE(r:List Nat)(i j:Nat):Bool:=(r[i]?.getD 0).testBit j
theorem OT(x:Nat)(hx:x<18446744073709551616)(j:Nat):(bits .and .u64 ((x:Int) / 2 ^ j) 1==1)=x.testBit j:=by
 rw[show((x:Int) / 2 ^ j)=((x / 2 ^ j:Nat):Int) by push_cast;rfl];have hlt:x / 2 ^ j<18446744073709551616:=Nat.lt_of_le_of_lt (Nat.div_le_self _ _) hx;have h:=bits_and_u64_nat (x / 2 ^ j) 1 hlt (by decide);have e:((1:Nat):Int)=1:=rfl;rw[e] at h;rw[h,Nat.and_one_is_mod,Nat.testBit_eq_decide_div_mod_eq];by_cases hq:x / 2 ^ j % 2=1
 ·simp[hq]
 ·have:x / 2 ^ j % 2=0:=by omega
  simp[this]
theorem KF(w:World)(r:List Nat)(hr:Wd r)(i j:Nat)(hi:i<64)(hj:j<64):Calls Tryz.prog 119 #[wdV r,.int .i64 (i:Int),.int .i64 (j:Int)] w (Sam w (.tuple #[.bool (fE r i j),.int .i64 0])):=by
 have k0:=Blk.new w 168 (wdC r).toArray;have u0:Below w.heap.size w (w.alloc (.cells (wdC r).toArray 168)):=bR.alloc (Nat.le_refl _) _;obtain⟨x,hx⟩:∃x,r[i]?=some x:=⟨r[i]'(by rw[hr.len];exact hi),gEz _⟩;have c0:(w.alloc (.cells (wdC r).toArray 168)).cell? ⟨w.heap.size,i,none⟩=some (.int .u64 (x:Int)):=(k0.cell i).trans (by simpa using gB hx);have hb:fE r i j=x.testBit j:=by unfold fE;rw[hx];rfl
 have ha:=OT x (hr.fit x (mG hx)) j;rw[hb,← ha];have H:=hIz u0;have hiI:(i:Int)<(64:Int):=by omega
 have hj0:¬((j:Int)<0):=by omega
 clear k0 u0 hx hr hb ha;unfold wdV;go_enter Tryz.func119,Tryz.ntmps119;go_upto_region 1 with (fail);generalize w.alloc (.cells (wdC r).toArray 168)=W0 at H c0 ⊢;go_wp2_with fail;refine(lO i hi W0).mono ?_;rintro e w' ⟨rfl,hw⟩;subst w';go_wp2_with fail;refine(lO j hj W0).mono ?_;rintro e w' ⟨rfl,hw⟩;subst w';go_wp2;refine bodyPost_ret (v:=.tuple #[.bool (bits .and .u64 ((x:Int) / 2 ^ j) 1==1),.int .i64 0]) (by simp[results,Tryz.f119,go_sem]) rfl ⟨rfl,H.out⟩
theorem oW(l:Nat)(hl:l≤10)(w:World):Calls Tryz.prog 163 #[.int .i64 0,.int .i64 0,.int .i64 (l:Int)] w (Sam w (.int .i64 0)):=by
 have h0:¬((l:Int)<0):=by omega
 have h1:bits .and .i64 0 1=0:=by decide +kernel
 have h2:wrap64 0=0:=by decide +kernel
 have h3:bits .or .i64 0 0=0:=by decide +kernel
 go_enter Tryz.func163,Tryz.ntmps163;go_upto_region 1 with (fail);go_quiet (fail)
 go_wp2;go_ret;exact⟨rfl,(Upd.refl (fun _=>False) w).drewN _ |>.below (fun _ _ h=>h.elim) (Nat.le_refl _)⟩
open Go.RowKit
def uO(L:List Hp)(h:Hp):List Hp:=eQ L (AC L h) h
theorem DX{L:List Hp}{h:Hp}(hn:∀x∈L,ltH x h=false):AC L h=0:=by
 unfold AC;rw[List.countP_eq_zero];intro x hx;rw[hn x hx];simp
theorem KG(h:Hp):uO [] h=[h]:=rfl
theorem KH{x:Hp}{L:List Hp}{h:Hp}(hx:ltH x h=true):uO (x::L) h=x::uO L h:=by
 unfold uO AC eQ;rw[List.countP_cons_of_pos (p:=fun x=>ltH x h) hx];rfl
theorem OU{x:Hp}{L:List Hp}{h:Hp}(hup:eO ltH (x::L))(hx:ltH x h=false):uO (x::L) h=h::x::L:=by
 unfold uO eQ;have h0:=(List.pairwise_cons.1 hup).1;rw[DX (fun y hy=>by
  rcases List.mem_cons.1 hy with rfl|hy
  ·exact hx
  ·cases e:ltH y h
   ·rfl
   ·rw[JJ.tr _ _ _ (h0 y hy) e] at hx;cases hx)]
 rfl
theorem rV{L:List Hp}{h y:Hp}:y∈uO L h↔y∈L∨y=h:=by
 unfold uO eQ;rw[List.mem_append,List.mem_cons];have:y∈L↔y∈L.take (AC L h)∨y∈L.drop (AC L h):=by rw[← List.mem_append,List.take_append_drop]
 rw[this];constructor
 ·rintro (h|h|h)
  ·exact .inl (.inl h)
  ·exact .inr h
  ·exact .inl (.inr h)
 ·rintro ((h|h)|h)
  ·exact .inl h
  ·exact .inr (.inr h)
  ·exact .inr (.inl h)
theorem mS:∀{L:List Hp} {h:Hp},eO ltH L→h ∉ L→eO ltH (uO L h)
 | [],h,_,_=>by rw[KG];exact List.pairwise_singleton _ _
 | x::L,h,hup,hn=>by
  have h0:=List.pairwise_cons.1 hup;cases hx:ltH x h with
  | true =>
   rw[KH hx];refine List.pairwise_cons.2 ⟨fun y hy=>?_,mS h0.2 (fun e=>hn (List.mem_cons_of_mem _ e))⟩;rcases rV.1 hy with h1|rfl
   ·exact h0.1 y h1
   ·exact hx
  | false =>
   rw[OU hup hx];have hhx:ltH h x=true:=by
    cases e:ltH h x with
    | true=>rfl
    | false=>exact(hn (by rw[JJ.tri _ _ e hx];exact List.mem_cons_self ..)).elim
   refine List.pairwise_cons.2 ⟨fun y hy=>?_,hup⟩;rcases List.mem_cons.1 hy with rfl|hy
   ·exact hhx
   ·exact JJ.tr _ _ _ hhx (h0.1 y hy)

theorem DY(w:World)(base:Nat)(A:Option Addr)(c:Nat)(L:List Hp)(h:Hp)(own:w.ownsRow base 145 2 (.slice A L.length c) L.length (aR L))(hup:eO ltH L)(hb:base≤w.heap.size)(hl:(L.length+1)*24≤140737488355328) :
  Calls Tryz.prog 106 #[.slice A L.length c,h.agg] w (rU w base (.slice A L.length c) (uO L h)):=by
 unfold uO;obtain⟨i,hi⟩:∃i,AC L h=i:=⟨_,rfl⟩;have hil:i≤L.length:=by rw[← hi];exact OJ L h
 rw[hi];obtain⟨s0,s1⟩:=h;have k0:=Blk.new w 145 #[.string s0,.int .i64 s1];have u0:Below w.heap.size w (w.alloc (.cells #[.string s0,.int .i64 s1] 145)):=bR.alloc (Nat.le_refl _) _;have H:=aI6 (own.alloc (.cells #[.string s0,.int .i64 s1] 145)) k0 u0 hup (own.lt) hi;clear k0 u0 own hup hi;unfold Hp.agg;dsimp only
 go_enter Tryz.func106,Tryz.ntmps106;go_upto_region 1 with (fail);generalize w.alloc (.cells #[.string s0,.int .i64 s1] 145)=W0 at H ⊢;have q0:W0.cell? ⟨w.heap.size,0,none⟩=some (.string s0):=H.out.2.1.cell 0;have q1:W0.cell? ⟨w.heap.size,1,none⟩=some (.int .i64 s1):=H.out.2.1.cell 1;have hcon:=DF W0 A c L ⟨s0,s1⟩ (bO.of_own H.out.1) H.out.2.2.2.1 (by omega);rw[H.out.2.2.2.2.2] at hcon;unfold Hp.agg at hcon;dsimp only at hcon
 go_wp2_with fail;refine hcon.mono ?_;clear hcon q0 q1;rintro e w1 ⟨rfl,b1⟩;have k1:=H.out.2.1.upd (upF b1) id;have k2:=Blk.new w1 145 #[.string s0,.int .i64 s1];have o2:=(aB H.out.1 (upF b1) (fun _ _ h=>h)).alloc (.cells #[.string s0,.int .i64 s1] 145);have b2:Below w.heap.size w (w1.alloc (.cells #[.string s0,.int .i64 s1] 145)):=(tHn H.out.2.2.1 b1).alloc (by have:=H.out.2.2.1.size;have:=b1.size;omega) _;have q0:w1.cell? ⟨w.heap.size,0,none⟩=some (.string s0):=k1.cell 0;have q1:w1.cell? ⟨w.heap.size,1,none⟩=some (.int .i64 s1):=k1.cell 1;have hne:(Value.slice A L.length c).ownBlock≠some w1.heap.size:=fun e=>by
  have:=(H.out.2.2.2.2.1 _ e).2;have:=b2.size;have:=H.out.2.2.1.size;have:=b1.size;omega
 have hcon:=AO _ base A c L o2 w1.heap.size ⟨s0,s1⟩ k2 hne (by have:=b2.size;omega) i hil hl;have HB:=hIz b2;clear k1 k2 o2 b2 b1;go_wp2_with fail;refine hcon.mono ?_;clear hcon q0 q1;generalize w1.alloc (.cells #[.string s0,.int .i64 s1] 145)=W2 at HB ⊢;rintro e w3 ⟨A',c',rfl,o3,u3,p3⟩;have FIN:=hIz (show rU w base (.slice A L.length c) (eQ L i ⟨s0,s1⟩) (.returned (.slice A' (eQ L i ⟨s0,s1⟩).length c')) w3 from⟨A',c',rfl,o3,(Upd.of_below HB.out _).trans u3 (fun k hk=>.inl hk),fun k hk=>by
  rcases p3 k hk with h|h
  ·exact .inl h
  ·exact .inr (by have:=HB.out.size;omega)⟩)
 clear o3 u3 p3;go_wp2;go_ret;exact FIN.out
open Go.RowKit
def OfP(w:World)(N:List Txt)(E:List Ed)(e:Ending)(w':World):Prop:=
 (cV N E=false∧e=.returned (.tuple #[dX none 0 0 none 0 0,.int .i64 173])∧Below w.heap.size w w')∨(cV N E=true∧JY w N E e w')

theorem OV(w:World)(A:Option Addr)(c:Nat)(B:Option Addr)(d:Nat)(N:List Txt)(E:List Ed)(h:qL w A c B d N E)(hb:(N.length+E.length*2)*16≤140737488355328) :
  Calls Tryz.prog 101 #[.slice A N.length c,.slice B E.length d] w (OfP w N E):=by
 have k0:=Blk.new w 52 #[.slice none 0 0,.slice none 0 0];have u0:Below w.heap.size w (w.alloc (.cells #[.slice none 0 0,.slice none 0 0] 52)):=bR.alloc (Nat.le_refl _) _;have H:=aI3 (h.below u0) k0 u0;clear h k0 u0;obtain⟨b0,hb0⟩:∃b,cV N E=b:=⟨_,rfl⟩;have HN:=hIz hb0;clear hb0;go_enter Tryz.func101,Tryz.ntmps101;go_upto_region 1 with (fail);generalize w.alloc (.cells #[.slice none 0 0,.slice none 0 0] 52)=W0 at H ⊢;have hz0:w.heap.size+1≤W0.heap.size:=H.out.2.1.lt;go_wp2_with fail;refine(uD W0 A c B d N E H.out.1).mono ?_;rintro e w1 ⟨rfl,b1⟩;rw[HN.out];have k1:=H.out.2.1.upd (upF b1) id;have fin:∀w8:World,Blk w8 w.heap.size 52 #[.slice none 0 0,.slice none 0 0]→∀v0 v1:Value,Blk ((w8.setCell ⟨w.heap.size,0,none⟩ v0).setCell ⟨w.heap.size,1,none⟩ v1) w.heap.size 52 #[v0,v1]∧Upd (fun q=>q=w.heap.size) w8 ((w8.setCell ⟨w.heap.size,0,none⟩ v0).setCell ⟨w.heap.size,1,none⟩ v1):=fun w8 k8 v0 v1 =>
  ⟨(k8.set 0 v0).set 1 v1,((Upd.refl (fun q=>q=w.heap.size) w8).setCell (p:=⟨w.heap.size,0,none⟩) (.inl rfl) v0).setCell (p:=⟨w.heap.size,1,none⟩) (.inl rfl) v1⟩
 have H1:=aI3 (H.out.1.below b1) k1 (tHn H.out.2.2 b1);have FN:=hIz fin;have z1:=b1.size;clear k1 b1 fin;cases b0
 ·have c0:w1.cell? ⟨w.heap.size,0,none⟩=some (.slice none 0 0):=H1.out.2.1.cell 0;have c1':w1.cell? ⟨w.heap.size,1,none⟩=some (.slice none 0 0):=H1.out.2.1.cell 1;have f0:=H1.out.2.1.frozen 0;have f1:=H1.out.2.1.frozen 1;obtain⟨kF,uF⟩:=FN.out _ H1.out.2.1 (.slice none 0 0) (.slice none 0 0);have e0:=kF.cell 0;have e1:=kF.cell 1;simp only[List.getElem?_toArray,List.getElem?_cons_succ,List.getElem?_cons_zero] at e0 e1
  have FIN:=hIz (show OfP w N E (.returned (.tuple #[dX none 0 0 none 0 0,.int .i64 173])) _ from .inl ⟨HN.out,rfl,H1.out.2.2.trans (uF.below (fun q _ e=>by omega) H1.out.2.2.size)⟩);clear kF uF;go_wp2;refine bodyPost_ret (v:=.tuple #[dX none 0 0 none 0 0,.int .i64 173]) (by simp[results,Tryz.f101,go_sem,dX,e0,e1]) rfl FIN.out
 ·go_wp2_with fail;refine(KA w1 A c B d N E H1.out.1 (kW.of HN.out) hb).mono ?_;rintro e w2 (⟨hc,A2,c2,B2,d2,rfl,oT,oE,b2⟩|⟨hc,rfl,b2⟩)
  ·have k2:=H1.out.2.1.upd (upF b2) id;have c0:w2.cell? ⟨w.heap.size,0,none⟩=some (.slice none 0 0):=k2.cell 0;have c1':w2.cell? ⟨w.heap.size,1,none⟩=some (.slice none 0 0):=k2.cell 1;have f0:=k2.frozen 0;have f1:=k2.frozen 1;obtain⟨n,hn⟩:∃n,(gN N E).length=n:=⟨_,rfl⟩;obtain⟨m,hm⟩:∃m,(gE E).length=m:=⟨_,rfl⟩;obtain⟨kF,uF⟩:=FN.out _ k2 (.slice A2 n c2) (.slice B2 m d2);have e0:=kF.cell 0;have e1:=kF.cell 1;simp only[List.getElem?_toArray,List.getElem?_cons_succ,List.getElem?_cons_zero] at e0 e1
   have bw:=tHn H1.out.2.2 b2;have FIN:=hIz (show OfP w N E (.returned (.tuple #[dX A2 n c2 B2 m d2,.int .i64 0])) _ from .inr ⟨HN.out,.inl ⟨hc,A2,c2,B2,d2,by rw[hn,hm],bC (aB oT uF (fun q hq e=>by have:=(oT.lt q hq).1;omega)) (fun q hq=>by have:=(oT.lt q hq).1;omega),bC (aB oE uF (fun q hq e=>by have:=(oE.lt q hq).1;omega)) (fun q hq=>by have:=(oE.lt q hq).1;omega),bw.trans (uF.below (fun q _ e=>by omega) bw.size)⟩⟩);rw[hn,hm];unfold dX;clear kF uF oT oE b2 bw k2 hc hn hm;go_wp2;refine bodyPost_ret (v:=.tuple #[dX A2 n c2 B2 m d2,.int .i64 0]) (by simp[results,Tryz.f101,go_sem,dX,e0,e1]) rfl FIN.out
  ·have k2:=H1.out.2.1.upd (upF b2) id;have c0:w2.cell? ⟨w.heap.size,0,none⟩=some (.slice none 0 0):=k2.cell 0;have c1':w2.cell? ⟨w.heap.size,1,none⟩=some (.slice none 0 0):=k2.cell 1;have f0:=k2.frozen 0;have f1:=k2.frozen 1;obtain⟨cp,hcp⟩:∃cp,eG (gN N E) (gE E)=cp:=⟨_,rfl⟩;obtain⟨kF,uF⟩:=FN.out _ k2 (.slice none 0 0) (.slice none 0 0);have e0:=kF.cell 0;have e1:=kF.cell 1;simp only[List.getElem?_toArray,List.getElem?_cons_succ,List.getElem?_cons_zero] at e0 e1
   have bw:=tHn H1.out.2.2 b2;have FIN:=hIz (show OfP w N E (.returned (.tuple #[dX none 0 0 none 0 0,.int .i64 cp])) _ from .inr ⟨HN.out,.inr ⟨hc,by rw[hcp],bw.trans (uF.below (fun q _ e=>by omega) bw.size)⟩⟩);rw[hcp];unfold dX;clear kF uF b2 bw k2 hc hcp;go_wp2;refine bodyPost_ret (v:=.tuple #[dX none 0 0 none 0 0,.int .i64 cp]) (by simp[results,Tryz.f101,go_sem,dX,e0,e1]) rfl FIN.out
open Go.RowKit
def KI(N:List Txt)(E:List Ed)(N':List Txt)(E':List Ed):Bool:=decide (N=N')&&decide (E=E')
open Go.RowKit
theorem nP{α β:Type}[DecidableEq α](f:α→List β):∀{L M:List α},L.Nodup→(∀x∈L,x∈M)→(L.flatMap f).length≤(M.flatMap f).length
 | [],M,_,_=>by simp
 | a::L,M,hd,hs=>by
  obtain⟨h1,h2⟩:=List.nodup_cons.1 hd;have hp:=List.perm_cons_erase (hs a (by simp));have ih:=nP f (L:=L) (M:=M.erase a) h2 (fun x hx=>by
   have hne:x≠a:=by rintro rfl;exact h1 hx
   exact(List.mem_erase_of_ne hne).2 (hs x (by simp[hx])))
  have hl:=(hp.flatMap_right f).length_eq;rw[List.flatMap_cons,List.length_append] at hl ⊢;omega
theorem fH{α:Type}[DecidableEq α]{L M:List α}(hd:L.Nodup)(hs:∀x∈L,x∈M):L.length≤M.length:=by
 have:=nP (fun x=>[x]) hd hs;simpa using this
theorem eO.nodup{α:Type}{lt:α→α→Bool}(hs:Sto lt){l:List α}(h:eO lt l):l.Nodup:=List.Pairwise.imp (fun {_a _b} h=>hs.ne h) h
theorem KJ{E:List Ed}{s:Txt}:s∈fJ E E.length↔∃x∈E,s=x.fr∨s=x.to:=by
 rw[qM];constructor
 ·rintro⟨i,x,_,hx,h⟩;exact⟨x,mG hx,h⟩
 ·rintro⟨x,hx,h⟩;obtain⟨i,hi,e⟩:=List.getElem_of_mem hx;exact⟨i,x,hi,by rw[gEz hi,e],h⟩
theorem yJ{N:List Txt}{E:List Ed}{s:Txt}:s∈eE N E↔s∈N∧¬∃x∈E,s=x.fr∨s=x.to:=by
 unfold eE;rw[List.mem_filter,← KJ,← bK (s:=s) (N:=fJ E E.length)];simp
theorem DZ(s:Txt):(fU s).length=s.size+3:=by simp[fU,QT]
theorem EA(x:Ed):(kV x).length=x.fr.size+x.lb.size+x.to.size+5:=by simp[kV,QT];omega
theorem qR:∀(D:List Ed),(∀x∈D,1≤x.lb.size)→((D.flatMap rR).flatMap fU).length≤(D.flatMap kV).length
 | [],_=>by simp
 | x::D,h=>by
  have ih:=qR D (fun y hy=>h y (by simp[hy]));have h1:=h x (by simp);simp only[List.flatMap_cons,List.flatMap_append,List.length_append,EA]
  simp only[rR,List.flatMap_cons,List.flatMap_nil,List.append_nil,List.length_append,DZ]
  omega
theorem KL{N N':List Txt}{E E':List Ed}(hN:N'.Nodup)(hE:E.Nodup)(hE':E'.Nodup)(sN:∀s∈N',s∈N)(sE:∀x∈E',x∈E)(hl:∀x∈E,1≤x.lb.size) :
  (oH N' E').length≤(oH N E).length:=by
 have h1:(eE N' E').Nodup:=List.Nodup.sublist List.filter_sublist hN;have h2:((eE N' E').flatMap fU).length≤((eE N E++(E.filter fun x=>!decide (x∈E')).flatMap rR).flatMap fU).length:=by
  refine nP fU h1 (fun s hs=>?_);obtain⟨m1,m2⟩:=yJ.1 hs;rw[List.mem_append];by_cases h:∃x∈E,s=x.fr∨s=x.to
  ·obtain⟨x,hx,hsx⟩:=h;refine .inr (List.mem_flatMap.2 ⟨x,List.mem_filter.2 ⟨hx,?_⟩,?_⟩)
   ·simp only[Bool.not_eq_true',decide_eq_false_iff_not]
    intro hx';exact m2 ⟨x,hx',hsx⟩
   ·simp[rR];exact hsx
  ·exact .inl (yJ.2 ⟨sN s m1,h⟩)
 have h3:=qR (E.filter fun x=>!decide (x∈E')) (fun x hx=>hl x (List.mem_filter.1 hx).1);have h4:((E'++E.filter fun x=>!decide (x∈E')).flatMap kV).length≤(E.flatMap kV).length:=by
  refine nP kV ?_ (fun x hx=>?_)
  ·rw[List.nodup_append];refine⟨hE',List.Nodup.sublist List.filter_sublist hE,fun a ha b hb=>?_⟩;rintro rfl;have:=(List.mem_filter.1 hb).2;simp[ha] at this
  ·rcases List.mem_append.1 hx with hx|hx
   ·exact sE x hx
   ·exact(List.mem_filter.1 hx).1
 unfold oH;simp only[List.flatMap_append,List.length_append] at h2 h4 ⊢
 omega
theorem EB{E:List Ed}{s:Txt}:s∈lbs E↔∃x∈E,x.lb=s:=List.mem_map
theorem KM{N N':List Txt}{E E':List Ed}(hN:N'.Nodup)(hE:E.Nodup)(hE':E'.Nodup)(sN:∀s∈N',s∈N)(sE:∀x∈E',x∈E)(hl:∀x∈E,1≤x.lb.size)(h:eG N E=0):eG N' E'=0:=by
 unfold eG at h ⊢;have h1:=fH hN sN;have h2:(lM ltT (lbs E')).length≤(lM ltT (lbs E)).length:=fH ((cG gJ _).up.nodup gJ) (fun s hs=>by
  obtain⟨x,hx,e⟩:=EB.1 (((cG gJ _).mem s).1 hs);exact((cG gJ _).mem s).2 (EB.2 ⟨x,sE x hx,e⟩))
 have h3:=fH hE' sE;have h4:=KL hN hE hE' sN sE hl;split at h
 ·omega
 split at h
 ·omega
 split at h
 ·omega
 split at h
 ·omega
 rw[if_neg (by omega),if_neg (by omega),if_neg (by omega),if_neg (by omega)]

def ofI(N:List Txt)(E:List Ed):Int:=if cV N E=false then 173 else eG (gN N E) (gE E)
theorem fB{N:List Txt}{E:List Ed}:cV N E=true↔(∀s∈N,fN s=true)∧∀x∈E,fN x.fr=true∧lF x.lb=true∧fN x.to=true:=by
 unfold cV iF;simp[List.all_eq_true]
theorem lP{N:List Txt}{E:List Ed}{s:Txt}:s∈gN N E↔s∈N∨∃x∈E,s=x.fr∨s=x.to:=((cG gJ _).mem s).trans oP
theorem gK{E:List Ed}{x:Ed}:x∈gE E↔x∈E:=(cG qI E).mem x
theorem yK(N:List Txt)(E:List Ed):(gN N E).Nodup:=(cG gJ _).up.nodup gJ
theorem rW(E:List Ed):(gE E).Nodup:=(cG qI _).up.nodup qI
theorem lQ{N:List Txt}{E:List Ed}(h:ofI N E=0):cV N E=true:=by
 unfold ofI at h;split at h
 ·cases h
 ·rename_i h1;simpa using h1
theorem rX{N:List Txt}{E:List Ed}(h:ofI N E=0):eG (gN N E) (gE E)=0:=by
 unfold ofI at h;split at h
 ·cases h
 ·exact h
theorem RM{N:List Txt}{E:List Ed}(h:cV N E=true):∀x∈E,1≤x.lb.size:=fun x hx=>(fV (oI ((fB.1 h).2 x hx).2.1)).1
theorem wV{N N':List Txt}{E E':List Ed}(sN:∀s∈N',s∈N∨∃x∈E,s=x.fr∨s=x.to)(sE:∀x∈E',x∈E)(h:ofI N E=0):ofI N' E'=0:=by
 have hn:=lQ h;have hn':cV N' E'=true:=by
  rw[fB] at hn ⊢;refine⟨fun s hs=>?_,fun x hx=>hn.2 x (sE x hx)⟩;rcases sN s hs with h1|⟨x,hx,rfl|rfl⟩
  ·exact hn.1 s h1
  ·exact(hn.2 x hx).1
  ·exact(hn.2 x hx).2.2
 unfold ofI;rw[hn'];simp only[Bool.true_eq_false,if_false]
 refine KM (yK _ _) (rW _) (rW _) (fun s hs=>?_) (fun x hx=>gK.2 (sE x (gK.1 hx))) (fun x hx=>RM hn x (gK.1 hx)) (rX h);rw[lP] at hs ⊢;rcases hs with h1|⟨x,hx,h1⟩
 ·exact sN s h1
 ·exact .inr ⟨x,sE x hx,h1⟩
theorem wW{N N':List Txt}{E E':List Ed}(h:∀s,(s∈N∨∃x∈E,s=x.fr∨s=x.to)↔(s∈N'∨∃x∈E',s=x.fr∨s=x.to)):gN N E=gN N' E':=
 (cG gJ _).uniq gJ (cG gJ _) (fun s=>oP.trans ((h s).trans oP.symm))
theorem wX{E E':List Ed}(h:∀x,x∈E↔x∈E'):gE E=gE E':=(cG qI _).uniq qI (cG qI _) h
theorem rY{N N':List Txt}{E E':List Ed}(h:∀s,(s∈N∨∃x∈E,s=x.fr∨s=x.to)↔(s∈N'∨∃x∈E',s=x.fr∨s=x.to))(k:∀x,x∈E↔x∈E')
  (hm:∀s∈N,s∈N'∨∃x∈E',s=x.fr∨s=x.to) (hm':∀s∈N',s∈N∨∃x∈E,s=x.fr∨s=x.to):ofI N E=ofI N' E':=by
 have h1:cV N E=cV N' E':=by
  rw[Bool.eq_iff_iff,fB,fB];constructor
  ·rintro⟨a,b⟩;refine⟨fun s hs=>?_,fun x hx=>b x ((k x).2 hx)⟩;rcases hm' s hs with h1|⟨x,hx,rfl|rfl⟩
   ·exact a s h1
   ·exact(b x hx).1
   ·exact(b x hx).2.2
  ·rintro⟨a,b⟩;refine⟨fun s hs=>?_,fun x hx=>b x ((k x).1 hx)⟩;rcases hm s hs with h1|⟨x,hx,rfl|rfl⟩
   ·exact a s h1
   ·exact(b x hx).1
   ·exact(b x hx).2.2
 unfold ofI;rw[h1,wW h,wX k]

structure Gr where
 N:List Txt
 X:List Ed
structure GOk(G:Gr):Prop where
 nd:G.N.Nodup
 xd:G.X.Nodup
 ends:∀x∈G.X,x.fr∈G.N∧x.to∈G.N
 may:ofI G.N G.X=0
def cI(N:List Txt)(s:Txt):List Txt:=if inB s N=true then N else N++[s]
theorem dC{N:List Txt}{s t:Txt}:t∈cI N s↔t∈N∨t=s:=by
 unfold cI;split
 ·rename_i h
  constructor
  ·exact .inl
  ·rintro (h1|rfl)
   ·exact h1
   ·exact bK.1 h
 ·simp
theorem gL{N:List Txt}(h:N.Nodup)(s:Txt):(cI N s).Nodup:=by
 unfold cI;split
 ·exact h
 ·rename_i hs
  rw[List.nodup_append];refine⟨h,by simp,fun a ha b hb=>?_⟩;rw[List.mem_singleton] at hb;subst hb;rintro rfl;exact hs (bK.2 ha)
def cL(G:Gr)(s:Txt):Gr × Bool × Int:=
 if inB s G.N=true then (G,false,0) else if ofI (G.N++[s]) G.X=0 then (⟨G.N++[s],G.X⟩,true,0) else (G,false,ofI (G.N++[s]) G.X)
def aM(G:Gr)(x:Ed):Gr × Bool × Int:=
 if x∈G.X then (G,false,0) else if ofI G.N (G.X++[x])=0 then (⟨cI (cI G.N x.fr) x.to,G.X++[x]⟩,true,0) else (G,false,ofI G.N (G.X++[x]))
theorem GOk.new:GOk ⟨[],[]⟩:=⟨by simp,by simp,by simp,by
 have h1:gE []=[]:=by
  have h:∀x:Ed,x ∉ gE []:=fun x hx=>by simpa using gK.1 hx
  exact List.eq_nil_iff_forall_not_mem.2 h
 have h2:gN [] []=[]:=by
  have h:∀x:Txt,x ∉ gN [] []:=fun x hx=>by simpa using lP.1 hx
  exact List.eq_nil_iff_forall_not_mem.2 h
 have h3:lM ltT (lbs [])=[]:=by
  have h:∀x:Txt,x ∉ lM ltT (lbs []):=fun x hx=>by simpa[lbs] using ((cG gJ _).mem x).1 hx
  exact List.eq_nil_iff_forall_not_mem.2 h
 simp[ofI,cV,h1,h2,eG,h3,oH,eE]⟩
theorem GOk.node{G:Gr}(h:GOk G)(s:Txt):GOk (cL G s).1:=by
 unfold cL;split
 ·exact h
 split
 ·rename_i h1 h2
  refine⟨?_,h.xd,fun x hx=>⟨List.mem_append.2 (.inl (h.ends x hx).1),List.mem_append.2 (.inl (h.ends x hx).2)⟩,h2⟩;have:=gL h.nd s;unfold cI at this;rwa [if_neg h1] at this
 ·exact h
theorem GOk.edge{G:Gr}(h:GOk G)(x:Ed):GOk (aM G x).1:=by
 unfold aM;split
 ·exact h
 split
 ·rename_i h1 h2
  refine⟨gL (gL h.nd _) _,?_,?_,?_⟩
  ·rw[List.nodup_append];refine⟨h.xd,by simp,fun a ha b hb=>?_⟩;rw[List.mem_singleton] at hb;subst hb;rintro rfl;exact h1 ha
  ·intro y hy;simp only[dC]
   rcases List.mem_append.1 hy with hy|hy
   ·exact⟨.inl (.inl (h.ends y hy).1),.inl (.inl (h.ends y hy).2)⟩
   ·rw[List.mem_singleton] at hy;subst hy;exact⟨.inl (.inr rfl),.inr rfl⟩
  ·refine wV (N:=G.N) (E:=G.X++[x]) (fun s hs=>?_) (fun _ hy=>hy) h2;simp only[dC] at hs
   rcases hs with (hs|rfl)|rfl
   ·exact .inl hs
   ·exact .inr ⟨x,by simp,.inl rfl⟩
   ·exact .inr ⟨x,by simp,.inr rfl⟩
 ·exact h
def eW(G:Gr):List Txt:=gN G.N G.X
def eR(G:Gr):List Ed:=gE G.X
theorem nQ{G:Gr}(h:GOk G){s:Txt}:s∈eW G↔s∈G.N:=by
 unfold eW;rw[lP];constructor
 ·rintro (h1|⟨x,hx,rfl|rfl⟩)
  ·exact h1
  ·exact(h.ends x hx).1
  ·exact(h.ends x hx).2
 ·exact .inl
theorem OW{G:Gr}(N:List Txt)(E:List Ed):ofI (eW G++N) (eR G++E)=ofI (G.N++N) (G.X++E):=by
 have e:∀x,x∈eR G++E↔x∈G.X++E:=fun x=>by rw[List.mem_append,List.mem_append,eR,gK]
 have m1:∀s∈eW G++N,s∈G.N++N∨∃x∈G.X++E,s=x.fr∨s=x.to:=fun s hs=>by
  rcases List.mem_append.1 hs with hs|hs
  ·rcases lP.1 hs with h1|⟨x,hx,h1⟩
   ·exact .inl (List.mem_append.2 (.inl h1))
   ·exact .inr ⟨x,List.mem_append.2 (.inl hx),h1⟩
  ·exact .inl (List.mem_append.2 (.inr hs))
 have m2:∀s∈G.N++N,s∈eW G++N∨∃x∈eR G++E,s=x.fr∨s=x.to:=fun s hs=>by
  rcases List.mem_append.1 hs with hs|hs
  ·exact .inl (List.mem_append.2 (.inl (lP.2 (.inl hs))))
  ·exact .inl (List.mem_append.2 (.inr hs))
 refine rY (fun s=>?_) e m1 m2;constructor
 ·rintro (h|⟨x,hx,h⟩)
  ·exact m1 s h
  ·exact .inr ⟨x,(e x).1 hx,h⟩
 ·rintro (h|⟨x,hx,h⟩)
  ·exact m2 s h
  ·exact .inr ⟨x,(e x).2 hx,h⟩
open Go
section
variable {P:Program} {ops:Array Oper} {Q:Exit→Act→World→Prop} {md:Region.Mode} {S:World→Prop} {n:Nat}
theorem dY{rid:Nat}{a:Act}{w:World}{l:List Oper}(S:World→Prop)(hm:P.follows .mixedOrders=true)(_hsel:Region.noSelect l.toArray=true)
  (_hS:S w.drew) (h:bI P .any l.toArray Q S l.toArray.size l.length (Array.replicate l.toArray.size false) a w.drew):(Code.region rid l.toArray true).wp P Q a w:=by
 refine wp_region_any hm (jW (S:=S) (n:=l.toArray.size) _ _ _ _ ?_);simpa using h
theorem jC{f m:Nat}{a:Act}{w:World}(h:dU md ops (Array.replicate m false)→bI P md ops Q S n f (Array.replicate m false) a w):bI P md ops Q S n f (Array.replicate m false) a w:=h (jV m)
theorem yL{i f:Nat}{listed:Array Bool}{a:Act}{w:World}{oi:Oper}{v:Value}(hi:ops[i]?=some oi)(hB:(Region.noSelect ops&&Region.free md ops listed i&&(Region.ready md ops listed).contains i)=true)
  (hd:dU md ops listed) (hn:ops.size≤n) (hQ:∀c a d v w,Q (.panic c) (Act.put a d v) w→Q (.panic c) a w) (hS:S w)
  (hw:Region.wanted oi (yielded ops a.tmps)=true) (hy:∀w,S w→(execOp a.eval oi).run P w=.ok (.value v) w)
  (h:dU md ops (listed.setIfInBounds i true)→bI P md ops Q S n f (listed.setIfInBounds i true) (a.put oi.dst v) w):bI P md ops Q S n (f+1) listed a w:=by
 simp only[Bool.and_eq_true] at hB
 obtain⟨⟨h1,h2⟩,h3⟩:=hB;have hr:i∈Region.ready md ops listed:=by simpa using h3
 exact nD (f:=ops.size) hi (Region.noSelect_spec h1) (fun c a w=>hQ c a _ _ w) (.inl hn) f listed a w (Region.free_spec hi h2) hd hr (.inl ⟨hw,hy⟩) hS (h (hd.set hr))
theorem dJ{f:Nat}{listed:Array Bool}{a:Act}{w:World}{L:List Nat}(hd:dU md ops listed)(hL:Region.ready md ops listed=L)(hne:L≠[])
  (h:∀i∈L,(dU md ops (listed.setIfInBounds i true))→wpOp P ops Q i (fun a' w'=>(i≠n→S w')∧bI P md ops Q S n f (listed.setIfInBounds i true) a' w') a w):bI P md ops Q S n (f+1) listed a w:=
 JD hL hne (fun i hi=>h i hi (hd.set (by rw[hL];exact hi)))
end
theorem aC{P:Program}{ops:Array Oper}{Q:Exit→Act→World→Prop}{S:World→Prop}{a:Act}{w:World}{oi:Oper}{v:Value}{md:Region.Mode}{n f:Nat}{listed l':Array Bool}{a':Act}(i:Nat)(hi:ops[i]?=some oi)(hd:dU md ops listed)(hS:S w)(h:dU md ops l'→bI P md ops Q S n f l' a' w)(hn:ops.size≤n:=by exact Nat.le_refl _)(hB:(Region.noSelect ops&&Region.free md ops listed i&&(Region.ready md ops listed).contains i)=true:=by kernel_rfl)(hQ:∀c a d v w,Q (.panic c) (Act.put a d v) w→Q (.panic c) a w:=by intro _ _ d _ _ h;cases d <;> exact h)(hw:Region.wanted oi (yielded ops a.tmps)=true:=by first | with_reducible rfl | kernel_rfl)(hy:∀w,S w→(execOp a.eval oi).run P w=.ok (.value v) w:=by intro wS hS;(try dsimp only at hS);go_split_ands;go_simp;(try with_reducible rfl);done)(e:a.put oi.dst v=a':=by(try simp only[Act.put,gA,gS,gZ,sA,sZ,sS]);first | done | exact rfl)(e2:listed.setIfInBounds i true=l':=by(try simp only[Act.put,gA,gS,gZ,sA,sZ,sS]);first | done | exact rfl):bI P md ops Q S n (f+1) listed a w:=by subst e e2;exact yL hi hB hd hn hQ hS hw hy h
theorem aE{P:Program}{ops:Array Oper}{Q:Exit→Act→World→Prop}{S:World→Prop}{md:Region.Mode}{n:Nat}{f:Nat}{listed:Array Bool}{a:Act}{w:World}(hd:dU md ops listed)(i0:Nat)(h0:dU md ops (listed.setIfInBounds i0 true)→wpOp P ops Q i0 (fun a' w'=>(i0≠n→S w')∧bI P md ops Q S n f (listed.setIfInBounds i0 true) a' w') a w)(hL:Region.ready md ops listed=[i0]:=by kernel_rfl):bI P md ops Q S n (f+1) listed a w:=by
  refine dJ hd hL (by simp) (fun i hi hd2=>?_);obtain rfl:=List.mem_singleton.1 hi;exact h0 hd2
theorem cD{P:Program}{ops:Array Oper}{Q:Exit→Act→World→Prop}{S:World→Prop}{md:Region.Mode}{n:Nat}{f:Nat}{listed:Array Bool}{a:Act}{w:World}(hd:dU md ops listed)(i0 i1:Nat)(h0:dU md ops (listed.setIfInBounds i0 true)→wpOp P ops Q i0 (fun a' w'=>(i0≠n→S w')∧bI P md ops Q S n f (listed.setIfInBounds i0 true) a' w') a w)(h1:dU md ops (listed.setIfInBounds i1 true)→wpOp P ops Q i1 (fun a' w'=>(i1≠n→S w')∧bI P md ops Q S n f (listed.setIfInBounds i1 true) a' w') a w)(hL:Region.ready md ops listed=[i0,i1]:=by kernel_rfl):bI P md ops Q S n (f+1) listed a w:=by
  refine dJ hd hL (by simp) (fun i hi hd2=>?_);simp only[List.mem_cons,List.not_mem_nil,or_false] at hi
  rcases hi with rfl|rfl
  exact h0 hd2;exact h1 hd2
theorem rZ{P:Program}{ops:Array Oper}{Q:Exit→Act→World→Prop}{S:World→Prop}{md:Region.Mode}{n:Nat}{f:Nat}{listed:Array Bool}{a:Act}{w:World}(hd:dU md ops listed)(i0 i1 i2:Nat)(h0:dU md ops (listed.setIfInBounds i0 true)→wpOp P ops Q i0 (fun a' w'=>(i0≠n→S w')∧bI P md ops Q S n f (listed.setIfInBounds i0 true) a' w') a w)(h1:dU md ops (listed.setIfInBounds i1 true)→wpOp P ops Q i1 (fun a' w'=>(i1≠n→S w')∧bI P md ops Q S n f (listed.setIfInBounds i1 true) a' w') a w)(h2:dU md ops (listed.setIfInBounds i2 true)→wpOp P ops Q i2 (fun a' w'=>(i2≠n→S w')∧bI P md ops Q S n f (listed.setIfInBounds i2 true) a' w') a w)(hL:Region.ready md ops listed=[i0,i1,i2]:=by kernel_rfl):bI P md ops Q S n (f+1) listed a w:=by
  refine dJ hd hL (by simp) (fun i hi hd2=>?_);simp only[List.mem_cons,List.not_mem_nil,or_false] at hi
  rcases hi with rfl|rfl|rfl
  exact h0 hd2;exact h1 hd2;exact h2 hd2
theorem TN{P:Program}{ops:Array Oper}{Q:Exit→Act→World→Prop}{S:World→Prop}{md:Region.Mode}{n:Nat}{f:Nat}{listed:Array Bool}{a:Act}{w:World}(hd:dU md ops listed)(i0 i1 i2 i3:Nat)(h0:dU md ops (listed.setIfInBounds i0 true)→wpOp P ops Q i0 (fun a' w'=>(i0≠n→S w')∧bI P md ops Q S n f (listed.setIfInBounds i0 true) a' w') a w)(h1:dU md ops (listed.setIfInBounds i1 true)→wpOp P ops Q i1 (fun a' w'=>(i1≠n→S w')∧bI P md ops Q S n f (listed.setIfInBounds i1 true) a' w') a w)(h2:dU md ops (listed.setIfInBounds i2 true)→wpOp P ops Q i2 (fun a' w'=>(i2≠n→S w')∧bI P md ops Q S n f (listed.setIfInBounds i2 true) a' w') a w)(h3:dU md ops (listed.setIfInBounds i3 true)→wpOp P ops Q i3 (fun a' w'=>(i3≠n→S w')∧bI P md ops Q S n f (listed.setIfInBounds i3 true) a' w') a w)(hL:Region.ready md ops listed=[i0,i1,i2,i3]:=by kernel_rfl):bI P md ops Q S n (f+1) listed a w:=by
  refine dJ hd hL (by simp) (fun i hi hd2=>?_);simp only[List.mem_cons,List.not_mem_nil,or_false] at hi
  rcases hi with rfl|rfl|rfl|rfl
  exact h0 hd2;exact h1 hd2;exact h2 hd2;exact h3 hd2
theorem TO{P:Program}{ops:Array Oper}{Q:Exit→Act→World→Prop}{S:World→Prop}{md:Region.Mode}{n:Nat}{f:Nat}{listed:Array Bool}{a:Act}{w:World}(hd:dU md ops listed)(i0 i1 i2 i3 i4:Nat)(h0:dU md ops (listed.setIfInBounds i0 true)→wpOp P ops Q i0 (fun a' w'=>(i0≠n→S w')∧bI P md ops Q S n f (listed.setIfInBounds i0 true) a' w') a w)(h1:dU md ops (listed.setIfInBounds i1 true)→wpOp P ops Q i1 (fun a' w'=>(i1≠n→S w')∧bI P md ops Q S n f (listed.setIfInBounds i1 true) a' w') a w)(h2:dU md ops (listed.setIfInBounds i2 true)→wpOp P ops Q i2 (fun a' w'=>(i2≠n→S w')∧bI P md ops Q S n f (listed.setIfInBounds i2 true) a' w') a w)(h3:dU md ops (listed.setIfInBounds i3 true)→wpOp P ops Q i3 (fun a' w'=>(i3≠n→S w')∧bI P md ops Q S n f (listed.setIfInBounds i3 true) a' w') a w)(h4:dU md ops (listed.setIfInBounds i4 true)→wpOp P ops Q i4 (fun a' w'=>(i4≠n→S w')∧bI P md ops Q S n f (listed.setIfInBounds i4 true) a' w') a w)(hL:Region.ready md ops listed=[i0,i1,i2,i3,i4]:=by kernel_rfl):bI P md ops Q S n (f+1) listed a w:=by
  refine dJ hd hL (by simp) (fun i hi hd2=>?_);simp only[List.mem_cons,List.not_mem_nil,or_false] at hi
  rcases hi with rfl|rfl|rfl|rfl|rfl
  exact h0 hd2;exact h1 hd2;exact h2 hd2;exact h3 hd2;exact h4 hd2
end Go.Proofs.YtnokckdkaifibaaGreatDoor
