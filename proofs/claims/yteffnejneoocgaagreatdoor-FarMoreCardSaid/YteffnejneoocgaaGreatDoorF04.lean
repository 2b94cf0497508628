/- Edges: slices.Concat of two lists; Rows: a row put behind a row of the call's own; Graphs: slices.Insert of a hop into a row of the call's own; Blocks of bits: two blocks, word by word; Blocks of bits: Get; quad: the ways of a corner; Graphs: a hop put in its place; Edges: Of; two graphs that are the same; Edges: cut to what this seat wants; Graphs that grow: the plain law (no program in sight); A region that draws its order: some stable operations are taken first; of the rest every order is walked, stable ones taken as they come up. Nothing here names the program. -/
import Derived.Test.YteffnejneoocgaaGreatDoorF03
import Derived.Shelf.Spec.SlicesInsertGrow
import Derived.Test.YteffnejneoocgaaGreatDoorF02
import Derived.Laws.BitsAllLaws
import Derived.Test.YteffnejneoocgaaGreatDoorF01
set_option linter.unusedVariables false
set_option linter.unusedSimpArgs false
set_option maxHeartbeats 16000000
set_option maxRecDepth 100000
namespace Go.Proofs.YteffnejneoocgaaGreatDoor
open Go.RowKit Go.Sort Go.Shelf
theorem nT(w:World)(t e:TypeId)(ht:Tryz.prog.underlying t=some (.slice e))(i:TypeInfo)(hi:Tryz.prog.info? e=some i)(b:Option Addr)(n c d:Nat)(hn:n≤c)(h63:n≤9223372036854775807) :
  (Builtin.append_ #[t,t] t #[.slice b n c,.slice none 0 d]).run Tryz.prog w=.ok (.slice b n c) w:=by
 have h1:¬(9223372036854775807<(n:Int)):=by omega
 cases b <;> simp[Builtin.append_,run_underlying ht,sizeOf,typeInfo,hi,hn,Builtin.lenOf,run_firstCells_none,storeCells]
theorem gK(w:World)(base t e size bytes:Nat)(z:Value)(ht:Tryz.prog.underlying t=some (.slice e))(hi:(Tryz.prog.info? e).map (fun i=>(i.zero,i.size,i.bytes))=some (some z,size,bytes))(hzs:z.cells.size=size)(h0:0<size)(h8:8≤bytes)
  (B:Option Addr) (n c:Nat) (xs:List Value) (own:w.ownsRow base e size (.slice B n c) n xs) (A:Option Addr) (m d:Nat) (ys:List Value) (hr:aX w A ys) (hl:ys.length=m*size) (h1:∀u∈ys,u.oneCell'=true) (hn:(n+m)*bytes≤140737488355328) (hb:base≤w.heap.size) :
  ∃B' c' w',(Builtin.append_ #[t,t] t #[.slice B n c,.slice A m d]).run Tryz.prog w=.ok (.slice B' (n+m) c') w'∧w'.ownsRow base e size (.slice B' (n+m) c') (n+m) (xs++ys)∧Below base w w':=by
 obtain⟨i0,hi0,hz0,hz1,hz2⟩:=info_parts hi;have hnm:n+m≤maxLen:=by
  have:(n+m)*8≤(n+m)*bytes:=Nat.mul_le_mul_left _ h8;unfold maxLen;omega
 have hre:=hr.reads hl h0;rcases A with _|ad
 ·obtain⟨rfl,rfl⟩:=hre.nil;obtain⟨A',c',hv,hc,-⟩:=aK own;injection hv with _ _ hcc;refine⟨B,c,w,nT w t e ht i0 hi0 B n c d (by omega) (by unfold maxLen at hnm;omega),by simpa using own,bR.mono hb⟩
 ·obtain⟨v',w',happ,own',gr,-,pl⟩:=run_append_own_at (P:=Tryz.prog) w base t t e i0 z size bytes ht hi0 hz0 hz1 hz2 hzs h0 (.slice B n c) n xs own ad m d ys hl (hre.2.2 ad rfl) h1 hnm (by simpa using hn) hb;obtain⟨B',c',rfl,-,-⟩:=aK own';exact⟨B',c',w',happ,own',(Below.refl base w).grown gr hb (fun k hk=>(own.lt k hk).1)⟩

theorem cE(w:World)(g:Nat)(A:Option Addr)(c:Nat)(B:Option Addr)(d:Nat)(N M:List Txt)(k:Blk w g 25 #[.slice A N.length c,.slice B M.length d])(hN:aX w A (aE N))(hM:aX w B (aE M))(hl:(N.length+M.length)*16≤140737488355328) :
  Calls Tryz.prog 85 #[.slice (some ⟨g,0,none⟩) 2 2] w (pK w (N++M)):=by
 have H:=aI3 k hN hM;clear k hN hM;obtain⟨n,hn⟩:∃n,N.length=n:=⟨_,rfl⟩;obtain⟨m,hm⟩:∃m,M.length=m:=⟨_,rfl⟩;have HL:=aI2 hn hm;have c0:w.cell? ⟨g,0,none⟩=some (.slice A n c):=by rw[← hn];exact H.out.1.cell 0
 have c1:w.cell? ⟨g,1,none⟩=some (.slice B m d):=by rw[← hm];exact H.out.1.cell 1
 rw[hn,hm] at hl;clear hn hm;go_enter Tryz.func85,Tryz.ntmps85;go_wp2_with fail;go_loop [3,11] (fun s i=>∃j:Nat,j≤2∧i=.int .i64 j∧s=.int .i64 (((if j=0 then 0 else if j=1 then n else n+m:Nat)):Int)) (fun _ i=>2-(intOf i).toNat)
 case atStart=>exact⟨0,by omega,rfl,rfl⟩
 case round =>
  obtain⟨j,hj,rfl,rfl⟩:=hrel;have hj3:j=0∨j=1∨j=2:=by omega
  have w1:IntKind.i64.wrap (0+(n:Int))=(n:Int):=by rw[Int.zero_add];exact IntWalk.i64_in _ (by omega)
  have w2:IntKind.i64.wrap ((n:Int)+(m:Int))=(n:Int)+(m:Int):=IntWalk.i64_in _ (by omega);have p1:¬((n:Int)<0):=by omega
  have p2:¬((n:Int)+(m:Int)<0):=by omega
  rcases hj3 with rfl|rfl|rfl
  ·go_wp2;go_round
   case rel=>exact⟨1,by omega,rfl,by simp⟩
   case measure=>simp[intOf]
  ·go_wp2;go_round
   case rel=>exact⟨2,by omega,rfl,by simp⟩
   case measure=>simp[intOf]
  ·have hgrow:Calls Tryz.prog 118 #[.slice none 0 0,.int .i64 ((n:Int)+(m:Int))] w fun e w'=>∃B0 c0,e=.returned (.slice B0 0 c0)∧w'.ownsRow w.heap.size 9 1 (.slice B0 0 c0) 0 []∧Below w.heap.size w w':=by
    rw[← Int.natCast_add];by_cases h0:n+m=0
    ·have h:=Any8.slices_Grow_room QY none 0 0 (n+m) w (Nat.le_refl _) (by omega) (by omega) (by omega);exact h.mono (by rintro e w' ⟨rfl,rfl⟩;exact⟨none,0,rfl,World.ownsRow_nil _ _ _ _,Below.refl _ _⟩)
    ·obtain⟨i0,hi0,hz0,hz1,hz2⟩:=info_parts cH;have h:=Any8.slices_Grow_grow QY i0 _ hi0 hz0 (by rw[hz1];decide) none 0 0 (n+m) [] w (Nat.le_refl _) (by omega) (by rw[hz2];omega) (by omega) (by simp) (fun _=>rfl) (fun a h=>by cases h);refine h.mono ?_;rintro e w' ⟨rfl,rfl⟩;refine⟨_,_,rfl,⟨rfl,.inr ⟨w.heap.size,_,_,rfl,Nat.le_refl _,heap_alloc_new _ _,Nat.zero_le _,grownCap_le_maxLen w _ _ _ (by unfold maxLen;omega),?_,by simp⟩⟩,((Below.refl w.heap.size w).drew).alloc (Nat.le_refl _) _⟩;have hge:=grownCap_ge w (0+(n+m)) 0 (tP.t 25);have hzc:(.string ByteArray.empty:Value).cells.size=1:=rfl;simp only[Array.size_append,size_zeroCells,List.size_toArray,List.length_nil,hzc]
     omega
   go_wp2_with fail;refine hgrow.mono ?_;rintro e W1 ⟨B0,c0',rfl,own0,b1⟩;clear hgrow;have k1:=H.out.1.upd (upF b1) id;have H1:=aI2 own0 b1;clear own0 k1 b1 c0 c1;go_wp2_with fail;go_loopw [6,27] (fun v i wr=>∃(j:Nat) (B':Option Addr) (c' q:Nat) (L:List Txt),i=.int .i64 j∧v=.slice B' q c'∧Hid (wr.ownsRow w.heap.size 9 1 (.slice B' q c') q (aE L)∧Below w.heap.size w wr)∧((j=0∧q=0∧L=[])∨(j=1∧q=n∧L=N)∨(j=2∧q=n+m∧L=N++M))) (fun _ i _=>2-(intOf i).toNat)
   case atStart=>exact⟨0,B0,c0',0,[],rfl,rfl,H1,.inl ⟨rfl,rfl,rfl⟩⟩
   case round =>
    obtain⟨j,B',c',q,L,rfl,rfl,HR,hc⟩:=hrel;have kr:=H.out.1.upd (Upd.of_below HR.out.2 (fun _=>False)) id;have c0:wr.cell? ⟨g,0,none⟩=some (.slice A n c):=by rw[← HL.out.1];exact kr.cell 0
    have c1:wr.cell? ⟨g,1,none⟩=some (.slice B m d):=by rw[← HL.out.2];exact kr.cell 1
    clear kr;rcases hc with ⟨rfl,rfl,rfl⟩|⟨rfl,rfl,rfl⟩|⟨rfl,rfl,rfl⟩
    ·obtain⟨B2,c2,W2,happ,own2,b2⟩:=gK wr w.heap.size 25 9 1 16 _ Tryz.underlying25 cH rfl (by decide) (by decide) B' 0 c' _ HR.out.1 A n c _ (H.out.2.1.below HR.out.2) (by rw[fC,HL.out.1]) (qV N) (by omega) HR.out.2.size;have HN:=hIz (show W2.ownsRow w.heap.size 9 1 (.slice B2 n c2) n (aE N)∧Below w.heap.size w W2 from⟨by simpa[aE] using own2,HR.out.2.trans b2⟩);rw[Nat.zero_add] at happ;clear own2 b2;go_wp2_with (at_builtin;refine wpList_append_run rfl _ _ _ rfl rfl rfl happ ?_);go_roundw
     case rel=>exact⟨1,B2,c2,n,N,by go_num,rfl,HN,.inr (.inl ⟨rfl,rfl,rfl⟩)⟩
     case measure=>simp[intOf]
    ·obtain⟨B2,c2,W2,happ,own2,b2⟩:=gK wr w.heap.size 25 9 1 16 _ Tryz.underlying25 cH rfl (by decide) (by decide) B' q c' _ HR.out.1 B m d _ (H.out.2.2.below HR.out.2) (by rw[fC,HL.out.2]) (qV M) (by omega) HR.out.2.size;have HN:=hIz (show W2.ownsRow w.heap.size 9 1 (.slice B2 (q+m) c2) (q+m) (aE (L++M))∧Below w.heap.size w W2 from⟨by simpa[aE] using own2,HR.out.2.trans b2⟩);clear own2 b2;go_wp2_with (at_builtin;refine wpList_append_run rfl _ _ _ rfl rfl rfl happ ?_);go_roundw
     case rel=>exact⟨2,B2,c2,q+m,L++M,by go_num,rfl,HN,.inr (.inr ⟨rfl,rfl,rfl⟩)⟩
     case measure=>simp[intOf]
    ·have FIN:=hIz (show pK w (N++M) (.returned (.slice B' (n+m) c')) wr from⟨_,rfl,by rw[List.length_append,HL.out.1,HL.out.2];exact HR.out.1,HR.out.2⟩);go_wp2;go_ret;exact FIN.out

theorem bU(w:World)(g:Nat)(A:Option Addr)(c:Nat)(B:Option Addr)(d:Nat)(N M:List Ed)(k:Blk w g 26 #[.slice A N.length c,.slice B M.length d])(hN:aX w A (aR N))(hM:aX w B (aR M))(hl:(N.length+M.length)*48≤140737488355328) :
  Calls Tryz.prog 86 #[.slice (some ⟨g,0,none⟩) 2 2] w (MP w (N++M)):=by
 have H:=aI3 k hN hM;clear k hN hM;obtain⟨n,hn⟩:∃n,N.length=n:=⟨_,rfl⟩;obtain⟨m,hm⟩:∃m,M.length=m:=⟨_,rfl⟩;have HL:=aI2 hn hm;have c0:w.cell? ⟨g,0,none⟩=some (.slice A n c):=by rw[← hn];exact H.out.1.cell 0
 have c1:w.cell? ⟨g,1,none⟩=some (.slice B m d):=by rw[← hm];exact H.out.1.cell 1
 rw[hn,hm] at hl;clear hn hm;go_enter Tryz.func86,Tryz.ntmps86;go_wp2_with fail;go_loop [3,11] (fun s i=>∃j:Nat,j≤2∧i=.int .i64 j∧s=.int .i64 (((if j=0 then 0 else if j=1 then n else n+m:Nat)):Int)) (fun _ i=>2-(intOf i).toNat)
 case atStart=>exact⟨0,by omega,rfl,rfl⟩
 case round =>
  obtain⟨j,hj,rfl,rfl⟩:=hrel;have hj3:j=0∨j=1∨j=2:=by omega
  have w1:IntKind.i64.wrap (0+(n:Int))=(n:Int):=by rw[Int.zero_add];exact IntWalk.i64_in _ (by omega)
  have w2:IntKind.i64.wrap ((n:Int)+(m:Int))=(n:Int)+(m:Int):=IntWalk.i64_in _ (by omega);have p1:¬((n:Int)<0):=by omega
  have p2:¬((n:Int)+(m:Int)<0):=by omega
  rcases hj3 with rfl|rfl|rfl
  ·go_wp2;go_round
   case rel=>exact⟨1,by omega,rfl,by simp⟩
   case measure=>simp[intOf]
  ·go_wp2;go_round
   case rel=>exact⟨2,by omega,rfl,by simp⟩
   case measure=>simp[intOf]
  ·have hgrow:Calls Tryz.prog 119 #[.slice none 0 0,.int .i64 ((n:Int)+(m:Int))] w fun e w'=>∃B0 c0,e=.returned (.slice B0 0 c0)∧w'.ownsRow w.heap.size 88 3 (.slice B0 0 c0) 0 []∧Below w.heap.size w w':=by
    rw[← Int.natCast_add];by_cases h0:n+m=0
    ·have h:=Any8.slices_Grow_room QZ none 0 0 (n+m) w (Nat.le_refl _) (by omega) (by omega) (by omega);exact h.mono (by rintro e w' ⟨rfl,rfl⟩;exact⟨none,0,rfl,World.ownsRow_nil _ _ _ _,Below.refl _ _⟩)
    ·obtain⟨i0,hi0,hz0,hz1,hz2⟩:=info_parts iW;have h:=Any8.slices_Grow_grow QZ i0 _ hi0 hz0 (by rw[hz1];decide) none 0 0 (n+m) [] w (Nat.le_refl _) (by omega) (by rw[hz2];omega) (by omega) (by simp) (fun _=>rfl) (fun a h=>by cases h);refine h.mono ?_;rintro e w' ⟨rfl,rfl⟩;refine⟨_,_,rfl,⟨rfl,.inr ⟨w.heap.size,_,_,rfl,Nat.le_refl _,heap_alloc_new _ _,Nat.zero_le _,grownCap_le_maxLen w _ _ _ (by unfold maxLen;omega),?_,by simp⟩⟩,((Below.refl w.heap.size w).drew).alloc (Nat.le_refl _) _⟩;have hge:=grownCap_ge w (0+(n+m)) 0 (tQ.t 25);have hzc:(.agg #[.string ByteArray.empty,.string ByteArray.empty,.string ByteArray.empty]:Value).cells.size=3:=rfl;simp only[Array.size_append,size_zeroCells,List.size_toArray,List.length_nil,hzc]
     omega
   go_wp2_with fail;refine hgrow.mono ?_;rintro e W1 ⟨B0,c0',rfl,own0,b1⟩;clear hgrow;have k1:=H.out.1.upd (upF b1) id;have H1:=aI2 own0 b1;clear own0 k1 b1 c0 c1;go_wp2_with fail;go_loopw [6,27] (fun v i wr=>∃(j:Nat) (B':Option Addr) (c' q:Nat) (L:List Ed),i=.int .i64 j∧v=.slice B' q c'∧Hid (wr.ownsRow w.heap.size 88 3 (.slice B' q c') q (aR L)∧Below w.heap.size w wr)∧((j=0∧q=0∧L=[])∨(j=1∧q=n∧L=N)∨(j=2∧q=n+m∧L=N++M))) (fun _ i _=>2-(intOf i).toNat)
   case atStart=>exact⟨0,B0,c0',0,[],rfl,rfl,H1,.inl ⟨rfl,rfl,rfl⟩⟩
   case round =>
    obtain⟨j,B',c',q,L,rfl,rfl,HR,hc⟩:=hrel;have kr:=H.out.1.upd (Upd.of_below HR.out.2 (fun _=>False)) id;have c0:wr.cell? ⟨g,0,none⟩=some (.slice A n c):=by rw[← HL.out.1];exact kr.cell 0
    have c1:wr.cell? ⟨g,1,none⟩=some (.slice B m d):=by rw[← HL.out.2];exact kr.cell 1
    clear kr;rcases hc with ⟨rfl,rfl,rfl⟩|⟨rfl,rfl,rfl⟩|⟨rfl,rfl,rfl⟩
    ·obtain⟨B2,c2,W2,happ,own2,b2⟩:=gK wr w.heap.size 26 88 3 48 _ Tryz.underlying26 iW rfl (by decide) (by decide) B' 0 c' _ HR.out.1 A n c _ (H.out.2.1.below HR.out.2) (by rw[cU,HL.out.1]) (BR N) (by omega) HR.out.2.size;have HN:=hIz (show W2.ownsRow w.heap.size 88 3 (.slice B2 n c2) n (aR N)∧Below w.heap.size w W2 from⟨by simpa[aR] using own2,HR.out.2.trans b2⟩);rw[Nat.zero_add] at happ;clear own2 b2;go_wp2_with (at_builtin;refine wpList_append_run rfl _ _ _ rfl rfl rfl happ ?_);go_roundw
     case rel=>exact⟨1,B2,c2,n,N,by go_num,rfl,HN,.inr (.inl ⟨rfl,rfl,rfl⟩)⟩
     case measure=>simp[intOf]
    ·obtain⟨B2,c2,W2,happ,own2,b2⟩:=gK wr w.heap.size 26 88 3 48 _ Tryz.underlying26 iW rfl (by decide) (by decide) B' q c' _ HR.out.1 B m d _ (H.out.2.2.below HR.out.2) (by rw[cU,HL.out.2]) (BR M) (by omega) HR.out.2.size;have HN:=hIz (show W2.ownsRow w.heap.size 88 3 (.slice B2 (q+m) c2) (q+m) (aR (L++M))∧Below w.heap.size w W2 from⟨by simpa[aR] using own2,HR.out.2.trans b2⟩);clear own2 b2;go_wp2_with (at_builtin;refine wpList_append_run rfl _ _ _ rfl rfl rfl happ ?_);go_roundw
     case rel=>exact⟨2,B2,c2,q+m,L++M,by go_num,rfl,HN,.inr (.inr ⟨rfl,rfl,rfl⟩)⟩
     case measure=>simp[intOf]
    ·have FIN:=hIz (show MP w (N++M) (.returned (.slice B' (n+m) c')) wr from⟨_,rfl,by rw[List.length_append,HL.out.1,HL.out.2];exact HR.out.1,HR.out.2⟩);go_wp2;go_ret;exact FIN.out
open Go.RowKit
theorem dR(w:World)(base t e size bytes:Nat)(z:Value)(ht:Tryz.prog.underlying t=some (.slice e))(hi:(Tryz.prog.info? e).map (fun i=>(i.zero,i.size,i.bytes))=some (some z,size,bytes))(hzs:z.cells.size=size)(h0:0<size)(h8:8≤bytes)
  (B:Option Addr) (n c:Nat) (xs:List Value) (own:w.ownsRow base e size (.slice B n c) n xs) (A:Option Addr) (m d:Nat) (ys:List Value) (hr:aX w A ys) (hl:ys.length=m*size) (h1:∀u∈ys,u.oneCell'=true) (hn:(n+m)*bytes≤140737488355328) (hb:base≤w.heap.size) :
  ∃B' c' w',(Builtin.append_ #[t,t] t #[.slice B n c,.slice A m d]).run Tryz.prog w=.ok (.slice B' (n+m) c') w'∧w'.ownsRow base e size (.slice B' (n+m) c') (n+m) (xs++ys)∧Upd (fun k=>(Value.slice B n c).ownBlock=some k) w w'∧∀k,(Value.slice B' (n+m) c').ownBlock=some k→(Value.slice B n c).ownBlock=some k∨w.heap.size≤k:=by
 obtain⟨i0,hi0,hz0,hz1,hz2⟩:=info_parts hi;have hnm:n+m≤maxLen:=by
  have:(n+m)*8≤(n+m)*bytes:=Nat.mul_le_mul_left _ h8;unfold maxLen;omega
 have hre:=hr.reads hl h0;rcases A with _|ad
 ·obtain⟨rfl,rfl⟩:=hre.nil;obtain⟨A',c',hv,hc,-⟩:=aK own;injection hv with _ _ hcc;exact⟨B,c,w,nT w t e ht i0 hi0 B n c d (by omega) (by unfold maxLen at hnm;omega),by simpa using own,Upd.refl _ _,fun k hk=>.inl hk⟩
 ·obtain⟨v',w',happ,own',gr,-,pl⟩:=run_append_own_at (P:=Tryz.prog) w base t t e i0 z size bytes ht hi0 hz0 hz1 hz2 hzs h0 (.slice B n c) n xs own ad m d ys hl (hre.2.2 ad rfl) h1 hnm (by simpa using hn) hb;obtain⟨B',c',rfl,-,-⟩:=aK own';refine⟨B',c',w',happ,own',(Upd.refl _ w).grown gr (fun k hk=>.inl hk),fun k hk=>?_⟩;rcases pl with h|h
  ·exact .inl (by rw[← h];exact hk)
  ·rw[h] at hk;injection hk with hk;exact .inr (by omega)
theorem NP(w:World)(base:Nat)(v:Value)(L:List Ed)(own:w.ownsRow base 88 3 v L.length (aR L))(x:Ed)(hl:(L.length+1)*48≤140737488355328)(hb:base≤w.heap.size) :
  ∃v' w',(Builtin.append_ #[26,26] 26 #[v,.slice (some ⟨w.heap.size,0,none⟩) 1 1]).run Tryz.prog (w.alloc (.cells #[.string x.fr,.string x.lb,.string x.to] 88))=.ok v' w'∧w'.ownsRow base 88 3 v' (L++[x]).length (aR (L++[x]))∧Upd (fun k=>v.ownBlock=some k) w w'∧∀k,v'.ownBlock=some k→v.ownBlock=some k∨w.heap.size≤k:=by
 obtain⟨v',w',happ,own',up,pl⟩:=cI w base 26 88 3 48 _ Tryz.underlying26 iW rfl (by decide) v L.length _ own [.string x.fr,.string x.lb,.string x.to] 1 rfl (by simp;exact⟨rfl,rfl,rfl⟩) hl (by unfold maxLen;omega) hb;refine⟨v',w',happ,?_,up,pl⟩;rw[List.length_append,aR,List.flatMap_append];exact own'
open Go.RowKit
theorem dC(b:Nat):∀(vs:List Value) (o:Nat) (w:World) (cur:Array Value) (t:TypeId),w.heap[b]?=some (.cells cur t (0,0))→o+vs.length≤cur.size →
  ∃cur',(w.setCells b o vs).heap[b]?=some (.cells cur' t (0,0))∧cur'.size=cur.size∧cur'.toList=cur.toList.take o++vs++cur.toList.drop (o+vs.length)
 | [],o,w,cur,t,h,_=>⟨cur,h,rfl,by simp⟩
 | v::r,o,w,cur,t,h,hl=>by
  have hb:=Blk.set (show Blk w b t cur from h) o v;simp only[List.length_cons] at hl
  obtain⟨c',e1,e2,e3⟩:=dC b r (o+1) _ _ t hb (by simp;omega);refine⟨c',e1,by rw[e2];simp,?_⟩;rw[e3,Array.toList_setIfInBounds,List.drop_set_of_lt (by omega),List.take_set];have h1:(cur.toList.take (o+1)).set o v=cur.toList.take o++[v]:=by
   rw[List.take_add_one,gEz (by simp;omega)];rw[List.set_append_right _ _ (by simp;omega)];have:o-(cur.toList.take o).length=0:=by simp;omega
   rw[this];rfl
  rw[h1];simp[Nat.add_assoc,Nat.add_comm 1]
theorem Upd.setCells{F:Nat→Prop}{a:World}{b:Nat}(hp:F b∨a.heap.size≤b):∀(vs:List Value) (o:Nat) {w:World},Upd F a w→Upd F a (w.setCells b o vs)
 | [],_,_,h=>h
 | v::r,o,_w,h=>Upd.setCells hp r (o+1) (h.setCell (p:=⟨b,o,none⟩) hp v)
theorem fN{P:Program}(w:World)(dT sT ty elem:TypeId)(size b o dLen dCap:Nat)(a:Addr)(sLen sCap:Nat)(cs:List Value)
  (hu:P.underlying dT=some (.slice elem)) (hs:(P.info? elem).map (·.size)=some size) (hn:cs.length=Nat.min sLen dLen*size)
  (hsrc:∀j v,cs[j]?=some v→w.cell? (a.add j)=some v) (hc:∀j,j<cs.length→(w.cell? ⟨b,o+j,none⟩).isSome=true) (hf:∀j,j<cs.length→w.frozen? ⟨b,o+j,none⟩=false) (h1:∀v∈cs,v.oneCell'=true) :
  (Builtin.copy_ #[dT,sT] ty #[.slice (some ⟨b,o,none⟩) dLen dCap,.slice (some a) sLen sCap]).run P w=.ok (goInt (Nat.min sLen dLen)) (w.setCells b o cs):=by
 have hl:=run_loadCells_list (P:=P) w a cs hsrc;have hst:=run_storeCells_cells (P:=P) b o cs 0 w (by simpa using hc) (by simpa using hf) h1;cases hq:P.info? elem with
 | none=>simp[hq] at hs
 | some i =>
  have hi:i.size=size:=by simpa[hq] using hs
  simp[Builtin.copy_,run_underlying hu,Builtin.lenOf,Builtin.firstCells,sizeOf,typeInfo,hq,hi,← hn,hl,hst]
theorem jU{w:World}{b:Nat}{cur:Array Value}{t:TypeId}(h:w.heap[b]?=some (.cells cur t (0,0))){k:Nat}(hk:k<cur.size):(w.cell? ⟨b,k,none⟩).isSome=true:=by
 rw[cell_of_row w b k cur t (0,0) h,Array.getElem?_eq_getElem hk];rfl
theorem jV{w:World}{b:Nat}{cur:Array Value}{t:TypeId}(h:w.heap[b]?=some (.cells cur t (0,0)))(k:Nat):w.frozen? ⟨b,k,none⟩=false:=by simp[World.frozen?,h]
theorem IV{α:Type}(C X v:List α)(k:Nat)(hX:C.take X.length=X)(hk:k≤X.length)(hC:X.length+v.length≤C.length) :
  ((C.take (k+v.length)++X.drop k++C.drop (k+v.length+(X.drop k).length)).take k++v++(C.take (k+v.length)++X.drop k++C.drop (k+v.length+(X.drop k).length)).drop (k+v.length)).take (X.length+v.length)=X.take k++v++X.drop k:=by
 have h1:(C.take (k+v.length)++X.drop k++C.drop (k+v.length+(X.drop k).length)).take k=X.take k:=by
  rw[List.append_assoc,List.take_append_of_le_length (by rw[List.length_take];omega),List.take_take,Nat.min_eq_left (by omega)];conv=>rhs;rw[← hX]
  rw[List.take_take,Nat.min_eq_left hk]
 have h2:(C.take (k+v.length)++X.drop k++C.drop (k+v.length+(X.drop k).length)).drop (k+v.length)=X.drop k++C.drop (k+v.length+(X.drop k).length):=by
  rw[List.append_assoc];exact List.drop_left' (by rw[List.length_take];omega)
 rw[h1,h2,← List.append_assoc];exact List.take_left' (by simp;omega)
theorem IW{α:Type}(C v Y:List α)(k:Nat)(hC:k+v.length+Y.length≤C.length) :
  ((C.take k++v++C.drop (k+v.length)).take (k+v.length)++Y++(C.take k++v++C.drop (k+v.length)).drop (k+v.length+Y.length)).take (k+v.length+Y.length)=C.take k++v++Y:=by
 have h1:(C.take k++v++C.drop (k+v.length)).take (k+v.length)=C.take k++v:=List.take_left' (by simp;omega);rw[h1];exact List.take_left' (by simp;omega)
def eH(L:List Hp)(i:Nat)(h:Hp):List Hp:=L.take i++h::L.drop i
theorem iI(N M:List Hp):aQ (N++M)=aQ N++aQ M:=by simp[aQ]
theorem nW(L:List Hp){i:Nat}(h:Hp)(hi:i≤L.length):(eH L i h).length=L.length+1:=by simp[eH];omega
theorem NQ(L:List Hp)(i:Nat)(hi:i≤L.length):aQ (L.take i)=(aQ L).take (i*2):=by
 conv=>rhs;rw[← List.take_append_drop i L,iI]
 exact(List.take_left' (by rw[cV,List.length_take];omega)).symm
theorem NR(L:List Hp)(i:Nat)(hi:i≤L.length):aQ (L.drop i)=(aQ L).drop (i*2):=by
 conv=>rhs;rw[← List.take_append_drop i L,iI]
 exact(List.drop_left' (by rw[cV,List.length_take];omega)).symm
theorem nX(L:List Hp)(i:Nat)(h:Hp)(hi:i≤L.length):aQ (eH L i h)=(aQ L).take (i*2)++h.cells++(aQ L).drop (i*2):=by
 rw[eH,iI,NQ L i hi];show _++(h.cells++aQ (L.drop i))=_
 rw[NR L i hi,List.append_assoc]

def rD(w:World)(base:Nat)(v:Value)(L:List Hp)(e:Ending)(w':World):Prop:=
 ∃A' c',e=.returned (.slice A' L.length c')∧w'.ownsRow base 143 2 (.slice A' L.length c') L.length (aQ L)∧Upd (fun k=>v.ownBlock=some k) w w'∧∀k,(Value.slice A' L.length c').ownBlock=some k→v.ownBlock=some k∨w.heap.size≤k
theorem zP(w:World)(base:Nat)(A:Option Addr)(c:Nat)(L:List Hp)(own:w.ownsRow base 143 2 (.slice A L.length c) L.length (aQ L))(g:Nat)(h:Hp)(hg:Blk w g 143 h.cells.toArray)(hb:base≤w.heap.size)(hl:(L.length+1)*24≤140737488355328) :
  Calls Tryz.prog 107 #[.slice A L.length c,.int .i64 L.length,.slice (some ⟨g,0,none⟩) 1 1] w (rD w base (.slice A L.length c) (eH L L.length h)):=by
 have hr:aX w (some ⟨g,0,none⟩) h.cells:=fun j u hj=>⟨g,0,rfl,by rw[Nat.zero_add,hg.cell j];simpa using hj⟩
 obtain⟨A',c',w',happ,own',up,pl⟩:=dR w base 140 143 2 24 _ Tryz.underlying140 kU rfl (by decide) (by decide) A L.length c _ own (some ⟨g,0,none⟩) 1 1 h.cells hr rfl (by simp[Hp.cells];exact⟨rfl,rfl⟩) hl hb;have e:L++[h]=eH L L.length h:=by simp[eH]
 have e2:aQ L++h.cells=aQ (eH L L.length h):=by rw[← e,iI];simp[aQ]
 have e3:L.length+1=(eH L L.length h).length:=by rw[← e];simp
 have e4:=aK own;rw[e2] at own';rw[e3] at own' pl;have HH:=hIz (show rD w base (.slice A L.length c) (eH L L.length h) (.returned (.slice A' (L.length+1) c')) w' from⟨A',c',by rw[e3],own',up,pl⟩);clear own' up pl e3 e e2 own hr hg hb;obtain⟨n,hn⟩:∃n,L.length=n:=⟨_,rfl⟩;rw[hn] at hl e4 happ HH ⊢;clear hn;obtain⟨A0,c0,e5,e6,e7⟩:=e4;injection e5 with e5 _ e8;subst e5;subst e8;have hc63:n≤9223372036854775807:=by omega
 go_enter Tryz.func107,Tryz.ntmps107;rcases e7 with rfl|⟨g0,rfl⟩
 all_goals
  go_wp2_with (at_builtin;refine wpList_append_run rfl _ _ _ rfl rfl rfl happ ?_)
  all_goals
   go_ret;exact HH.out
theorem vX(w:World)(base g0 c:Nat)(L:List Hp)(own:w.ownsRow base 143 2 (.slice (some ⟨g0,0,none⟩) L.length c) L.length (aQ L))(g:Nat)(h:Hp)(hg:Blk w g 143 h.cells.toArray)(hne:g≠g0)(i:Nat)(hi:i<L.length)(hc:L.length+1≤c) :
  Calls Tryz.prog 107 #[.slice (some ⟨g0,0,none⟩) L.length c,.int .i64 i,.slice (some ⟨g,0,none⟩) 1 1] w (rD w base (.slice (some ⟨g0,0,none⟩) L.length c) (eH L i h)):=by
 obtain⟨n,hn⟩:∃n,L.length=n:=⟨_,rfl⟩;have hcl:=cV L;rw[hn] at own hi hc hcl ⊢;rcases own.2 with ⟨e,-⟩|⟨g1,c1,cur,e,hbase,hh,hcn,hcm,hcs,hct⟩
 ·cases e
 injection e with e _ e2;injection e with e;injection e with e;subst e;subst e2;have hlen:n*2+2≤cur.toList.length:=by rw[Array.length_toList,hcs];omega
 have hv:h.cells.length=2:=rfl;have hdl:((aQ L).drop (i*2)).length=(n-i)*2:=by rw[List.length_drop,hcl];omega
 obtain⟨Y,hY⟩:∃Y,Y=(aQ L).drop (i*2):=⟨_,rfl⟩;rw[← hY] at hdl;have hYc:∀j u,Y[j]?=some u→w.drew.cell? ((⟨g0,i*2,none⟩:Addr).add j)=some u:=fun j u hu=>by
  rw[hY,List.getElem?_drop,← hct,List.getElem?_take] at hu;split at hu
  ·rw[Addr.add_lit];rw[cell_of_row w.drew g0 _ cur _ (0,0) hh];simpa using hu
  ·cases hu
 have hYo:∀u∈Y,u.oneCell'=true:=fun u hu=>BY L u (by rw[hY] at hu;exact List.mem_of_mem_drop hu)
 have hsz:(Tryz.prog.info? 143).map (·.size)=some 2:=by
  obtain⟨i0,hi0,h0,h1,h2⟩:=info_parts kU;rw[hi0];simp[h1]
 have hcp1:∀ty dc sc,(Builtin.copy_ #[140,140] ty #[.slice (some ⟨g0,(i+1)*2,none⟩) (n+1-(i+1)) dc,.slice (some ⟨g0,i*2,none⟩) (n+1-i) sc]).run Tryz.prog w.drew=.ok (goInt ((n+1-(i+1):Nat):Int)) (w.drew.setCells g0 ((i+1)*2) Y):=fun ty dc sc=>by
  have e:Nat.min (n+1-i) (n+1-(i+1))=n+1-(i+1):=by simp only[Nat.min_def];split <;> omega
  rw[fN w.drew 140 140 ty 143 2 g0 ((i+1)*2) (n+1-(i+1)) dc ⟨g0,i*2,none⟩ (n+1-i) sc Y Tryz.underlying140 hsz (by rw[hdl,e];omega) hYc
   (fun j hj=>jU (w:=w.drew) hh (by rw[hdl] at hj;rw[hcs];omega)) (fun j hj=>jV (w:=w.drew) hh _) hYo,e]
 obtain⟨cu1,k1,z1,l1⟩:=dC g0 Y ((i+1)*2) w.drew cur _ hh (by rw[hdl,hcs];omega);have u1:Upd (fun k=>(Value.slice (some ⟨g0,0,none⟩) n c).ownBlock=some k) w (w.drew.setCells g0 ((i+1)*2) Y):=Upd.setCells (F:=fun k=>(Value.slice (some ⟨g0,0,none⟩) n c).ownBlock=some k) (a:=w) (b:=g0) (.inl rfl) Y _ (Upd.refl _ w).drew;have kg:Blk (w.drew.setCells g0 ((i+1)*2) Y) g 143 h.cells.toArray:=hg.upd u1 (fun e=>by injection e with e;exact hne e.symm);have hov:∀lb cb,(callFunc 143 #[.slice (some ⟨g,0,none⟩) 1 1,.slice (some ⟨g0,(i+1)*2,none⟩) lb cb]).run Tryz.prog w=.ok (.value (.bool false)) w:=fun lb cb=>by
  rw[run_callFunc_extern Tryz.func143 (by kernel_rfl) (by kernel_rfl) (by kernel_rfl) (e:=Extern.SlicesOverlaps.overlaps #[140,140] #[4]) (by kernel_rfl)];obtain⟨i0,hi0,h0,h1,h2⟩:=info_parts kU;rw[Lib.run_overlaps_apart w 140 4 143 Tryz.underlying140 2 (fun w=>by simp[sizeOf,typeInfo,hi0,h1]) ⟨g,0,none⟩ ⟨g0,(i+1)*2,none⟩ 1 1 lb cb hne 143 143 2 cur.size (by unfold Blk at hg;simp[World.shape?,hg,Hp.cells]) (by simp[World.shape?,hh]) (by rw[hcs];omega) (hg.frozen _) (hg.frozen _)];rfl
 have hcp2:∀ty dc,(Builtin.copy_ #[140,140] ty #[.slice (some ⟨g0,i*2,none⟩) (n+1-i) dc,.slice (some ⟨g,0,none⟩) 1 1]).run Tryz.prog (w.drew.setCells g0 ((i+1)*2) Y)=.ok (goInt 1) ((w.drew.setCells g0 ((i+1)*2) Y).setCells g0 (i*2) h.cells):=fun ty dc=>by
  have e:Nat.min 1 (n+1-i)=1:=by simp only[Nat.min_def];split <;> omega
  rw[fN _ 140 140 ty 143 2 g0 (i*2) (n+1-i) dc ⟨g,0,none⟩ 1 1 h.cells Tryz.underlying140 hsz (by rw[e];rfl) (fun j u hu=>by rw[Addr.add_lit,Nat.zero_add,kg.cell];simpa using hu)
   (fun j hj=>jU k1 (by rw[z1,hcs];rw[hv] at hj;omega)) (fun j hj=>jV k1 _) (by simp[Hp.cells];exact⟨rfl,rfl⟩),e]
  rfl
 obtain⟨cu2,k2,z2,l2⟩:=dC g0 h.cells (i*2) _ cu1 _ k1 (by rw[z1,hcs,hv];omega);have u2:=Upd.setCells (F:=fun k=>(Value.slice (some ⟨g0,0,none⟩) n c).ownBlock=some k) (a:=w) (b:=g0) (.inl rfl) h.cells (i*2) u1;have own':((w.drew.setCells g0 ((i+1)*2) Y).setCells g0 (i*2) h.cells).ownsRow base 143 2 (.slice (some ⟨g0,0,none⟩) (eH L i h).length c) (eH L i h).length (aQ (eH L i h)):=by
  have e0:(eH L i h).length=n+1:=by rw[nW L h (by omega),hn]
  rw[e0];refine⟨by rw[cV,e0],.inr ⟨g0,c,cu2,rfl,hbase,k2,hc,hcm,by rw[z2,z1,hcs],?_⟩⟩;rw[nX L i h (by omega),l2,l1,hY];have:=IV cur.toList (aQ L) h.cells (i*2) (by rw[hcl];exact hct) (by omega) (by rw[hcl,hv];exact hlen);rw[hv,hcl] at this;rw[show(n+1)*2=n*2+2 by omega,show(i+1)*2=i*2+2 by omega];exact this
 have e0:n+1=(eH L i h).length:=by rw[nW L h (by omega),hn]
 have HH:=hIz (show rD w base (.slice (some ⟨g0,0,none⟩) n c) (eH L i h) (.returned (.slice (some ⟨g0,0,none⟩) (n+1) c)) ((w.drew.setCells g0 ((i+1)*2) Y).setCells g0 (i*2) h.cells) from⟨_,c,by rw[e0],own',u2,fun k hk=>.inl hk⟩);clear own own' u2 u1 kg l1 l2 k1 k2 z1 z2 hg hh hcs hct hlen hdl hYc hYo hY hn hcl hv hsz e0;generalize (w.drew.setCells g0 ((i+1)*2) Y).setCells g0 (i*2) h.cells=W2 at hcp2 HH;generalize w.drew.setCells g0 ((i+1)*2) Y=W1 at hcp1 hcp2;have hz2:¬((i:Int)=(n:Int)):=by omega
 have hw1:IntKind.i64.wrap ((i:Int)+(1:Int))=(i:Int)+(1:Int):=by unfold maxLen at hcm;rw[IntKind.wrap_i64];omega
 have hc63:c≤9223372036854775807:=by unfold maxLen at hcm;omega
 have hin:i≤n:=by omega
 have htn:((i:Int)+(1:Int)).toNat=i+1:=by omega
 have hb1:(0:Int)≤(i:Int)+1:=by omega
 have hb2:¬(c=i+1):=by omega
 have hb3:(i:Int)≤(n:Int)+1:=by omega
 have hb4:¬(c=i):=by omega
 go_enter Tryz.func107,Tryz.ntmps107;go_upto_region 15 with (simp only[hov]);refine aT (fun _=>True) 9 [(0,true),(1,true),(2,true),(3,true),(4,true),(5,true),(6,true),(7,true),(8,false)] (by kernel_rfl) (by kernel_rfl) (fun _ _ d _ _ h=>by cases d <;> exact h) trivial ?_
 iterate 8 refine aC rfl ?_
 refine aM rfl rfl (fun K hK=>?_);refine wp_copy_runI _ _ _ 140 140 rfl (.slice (some ⟨g0,(i+1)*2,none⟩) (n+1-(i+1)) (c-(i+1))) (.slice (some ⟨g0,i*2,none⟩) (n+1-i) (c-i)) (by simp[Act.eval]) (by simp[Act.eval]) (hcp1 _ _ _) ?_;refine hK _ _ (fun _=>trivial) ?_;clear hK K;(try simp only[Act.put,gA,gS,gZ,sA,sZ,sS])
 refine aG ?_;go_wp2_with (at_builtin;refine wpList_copy_runI _ rfl _ _ 140 140 rfl _ _ rfl rfl (hcp2 _ _) ?_);go_ret;exact HH.out
theorem IX{w:World}{base e size n c:Nat}{A:Option Addr}{xs:List Value}(h:w.ownsRow base e size (.slice A n c) n xs):n≤c∧c≤maxLen:=by
 rcases h.2 with ⟨e,e2⟩|⟨g,cap,cur,e,_,_,hc,hm,_⟩
 ·injection e with _ _ e3;subst e3;rw[e2];exact⟨Nat.le_refl _,by unfold maxLen;omega⟩
 ·injection e with _ _ e3;subst e3;exact⟨hc,hm⟩
theorem vY(w:World)(base g0 c:Nat)(L:List Hp)(own:w.ownsRow base 143 2 (.slice (some ⟨g0,0,none⟩) L.length c) L.length (aQ L))(g:Nat)(h:Hp)(hg:Blk w g 143 h.cells.toArray)(hb:base≤w.heap.size)(i:Nat)(hi:i<L.length)(hc:c<L.length+1)(hl:(L.length+1)*24≤140737488355328) :
  Calls Tryz.prog 107 #[.slice (some ⟨g0,0,none⟩) L.length c,.int .i64 i,.slice (some ⟨g,0,none⟩) 1 1] w (rD w base (.slice (some ⟨g0,0,none⟩) L.length c) (eH L i h)):=by
 obtain⟨n,hn⟩:∃n,L.length=n:=⟨_,rfl⟩;have hcl:=cV L;have hil:=nW L h (Nat.le_of_lt hi);have hgs:=(own.lt g0 rfl).2;have hrr:=aX.of_own own;have hcm:=IX own;rw[hn] at hi hc hcl hl hil hcm ⊢;rw[hn] at own;have hold0:∀j u,(aQ L)[j]?=some u→w.cell? ⟨g0,j,none⟩=some u:=fun j u hu=>by
  obtain⟨b',o',e,y⟩:=hrr j u hu;injection e with e;injection e with e1 e2;subst e1;subst e2;rwa [Nat.zero_add] at y
 obtain⟨i0,hi0,hz0,hz1,hz2⟩:=info_parts kU;have hsz:(Tryz.prog.info? 143).map (·.size)=some 2:=by rw[hi0];simp[hz1]
 have hv:h.cells.length=2:=rfl;have hkk:(n:Int)+1-(i:Int)=((n+1-i:Nat):Int):=by omega
 have hik:i+(n+1-i)=n+1:=by omega
 have hold:(Builtin.firstCells i0.size i (.slice (some ⟨g0,0,none⟩) i c)).run Tryz.prog w.drew=.ok ((aQ L).take (i*2)).toArray w.drew:=by
  rw[hz1];exact run_firstCells_some w.drew 2 i ⟨g0,0,none⟩ i c _ (by rw[List.length_take];omega) (fun j v hj=>by
   rw[Addr.add_lit,Nat.zero_add];rw[List.getElem?_take] at hj;split at hj
   ·exact hold0 j v hj
   ·cases hj)
 have hrz:∀ty,(Builtin.append_ #[140,3] ty #[.slice (some ⟨g0,0,none⟩) i c,.int .i64 ((n:Int)+1-(i:Int))]).run Tryz.prog w =
   .ok (.slice (some ⟨w.heap.size,0,none⟩) (n+1) (grownCap w (n+1) c 143)) (w.drew.alloc (.cells (((aQ L).take (i*2)).toArray++Builtin.zeroCells (Value.agg #[.string ByteArray.empty,.int .i64 0]).cells (n+1-i)++Builtin.zeroCells (Value.agg #[.string ByteArray.empty,.int .i64 0]).cells (grownCap w (n+1) c 143-(n+1))) 143)):=fun ty=>by
  have h:=Lib.run_append_grow_zeros w 140 3 ty 143 i0 _ .i64 .i64 Tryz.underlying140 Tryz.underlying3 hi0 hz0 (some ⟨g0,0,none⟩) i c ((aQ L).take (i*2)) hold (n+1-i) (by omega) (by omega) (by omega) (by omega) (by rw[hz2];omega) (by rw[hz2,hik];exact growslice_fits hc hl);rw[hik] at h;rw[hkk];exact h
 have hG63:grownCap w (n+1) c 143≤maxLen:=grownCap_le_maxLen w (n+1) c 143 (by unfold maxLen;omega);have hGn:n+1≤grownCap w (n+1) c 143:=grownCap_ge w _ _ _;obtain⟨G,hG⟩:∃G,G=grownCap w (n+1) c 143:=⟨_,rfl⟩;rw[← hG] at hrz hG63 hGn;obtain⟨ROW,hROW⟩:∃ROW:Array Value,ROW=((aQ L).take (i*2)).toArray++Builtin.zeroCells (Value.agg #[.string ByteArray.empty,.int .i64 0]).cells (n+1-i)++Builtin.zeroCells (Value.agg #[.string ByteArray.empty,.int .i64 0]).cells (G-(n+1)):=⟨_,rfl⟩;rw[← hROW] at hrz;have hRl:ROW.size=G*2:=by
  rw[hROW];simp only[Array.size_append,List.size_toArray,size_zeroCells,List.length_take,hcl]
  simp[Value.cells]
  omega
 have hRt:ROW.toList.take (i*2)=(aQ L).take (i*2):=by
  rw[hROW];simp only[Array.toList_append,List.append_assoc]
  exact List.take_left' (by rw[List.length_take];omega)
 clear hROW hold;have k0:(w.drew.alloc (.cells ROW 143)).heap[w.heap.size]?=some (.cells ROW 143 (0,0)):=Blk.new w.drew _ _;have u0:Upd (fun k=>(Value.slice (some ⟨g0,0,none⟩) n c).ownBlock=some k) w (w.drew.alloc (.cells ROW 143)):=((Upd.refl _ w).drew).alloc _;have b0:Upd (fun _=>False) w (w.drew.alloc (.cells ROW 143)):=((Upd.refl _ w).drew).alloc _;generalize w.drew.alloc (.cells ROW 143)=W0 at hrz k0 u0 b0;have hcpA:∀ty dc,(Builtin.copy_ #[140,140] ty #[.slice (some ⟨w.heap.size,i*2,none⟩) (n+1-i) dc,.slice (some ⟨g,0,none⟩) 1 1]).run Tryz.prog W0=.ok (goInt 1) (W0.setCells w.heap.size (i*2) h.cells):=fun ty dc=>by
  have e:Nat.min 1 (n+1-i)=1:=by simp only[Nat.min_def];split <;> omega
  rw[fN _ 140 140 ty 143 2 w.heap.size (i*2) (n+1-i) dc ⟨g,0,none⟩ 1 1 h.cells Tryz.underlying140 hsz (by rw[e];rfl) (fun j u hu=>by rw[Addr.add_lit,Nat.zero_add,(hg.upd b0 id).cell];simpa using hu)
   (fun j hj=>jU k0 (by rw[hRl];rw[hv] at hj;omega)) (fun j hj=>jV k0 _) (by simp[Hp.cells];exact⟨rfl,rfl⟩),e]
  rfl
 obtain⟨cu1,k1,z1,l1⟩:=dC w.heap.size h.cells (i*2) W0 ROW _ k0 (by rw[hRl,hv];omega);have u1:=Upd.setCells (F:=fun k=>(Value.slice (some ⟨g0,0,none⟩) n c).ownBlock=some k) (a:=w) (b:=w.heap.size) (.inr (Nat.le_refl _)) h.cells (i*2) u0;have b1:=Upd.setCells (F:=fun _=>False) (a:=w) (b:=w.heap.size) (.inr (Nat.le_refl _)) h.cells (i*2) b0;generalize W0.setCells w.heap.size (i*2) h.cells=W1 at hcpA k1 u1 b1;have hdl:((aQ L).drop (i*2)).length=(n-i)*2:=by rw[List.length_drop,hcl];omega
 obtain⟨Y,hY⟩:∃Y,Y=(aQ L).drop (i*2):=⟨_,rfl⟩;rw[← hY] at hdl;have hYc:∀j u,Y[j]?=some u→W1.drew.cell? ((⟨g0,i*2,none⟩:Addr).add j)=some u:=fun j u hu=>by
  rw[hY,List.getElem?_drop] at hu;rw[Addr.add_lit];show W1.cell? _=_
  rw[b1.cell (by exact hgs) id];exact hold0 _ _ hu
 have hYo:∀u∈Y,u.oneCell'=true:=fun u hu=>BY L u (by rw[hY] at hu;exact List.mem_of_mem_drop hu)
 have hcpB:∀ty dc sc,(Builtin.copy_ #[140,140] ty #[.slice (some ⟨w.heap.size,(i+1)*2,none⟩) (n+1-(i+1)) dc,.slice (some ⟨g0,i*2,none⟩) (n-i) sc]).run Tryz.prog W1.drew=.ok (goInt ((n-i:Nat):Int)) (W1.drew.setCells w.heap.size ((i+1)*2) Y):=fun ty dc sc=>by
  have e:Nat.min (n-i) (n+1-(i+1))=n-i:=by simp only[Nat.min_def];split <;> omega
  rw[fN W1.drew 140 140 ty 143 2 w.heap.size ((i+1)*2) (n+1-(i+1)) dc ⟨g0,i*2,none⟩ (n-i) sc Y Tryz.underlying140 hsz (by rw[hdl,e]) hYc
   (fun j hj=>jU (w:=W1.drew) k1 (by rw[hdl] at hj;rw[z1,hRl];omega)) (fun j hj=>jV (w:=W1.drew) k1 _) hYo,e]
 obtain⟨cu2,k2,z2,l2⟩:=dC w.heap.size Y ((i+1)*2) W1.drew cu1 _ k1 (by rw[hdl,z1,hRl];omega);have u2:=Upd.setCells (F:=fun k=>(Value.slice (some ⟨g0,0,none⟩) n c).ownBlock=some k) (a:=w) (b:=w.heap.size) (.inr (Nat.le_refl _)) Y ((i+1)*2) u1.drew;generalize W1.drew.setCells w.heap.size ((i+1)*2) Y=W2 at hcpB k2 u2;have own':W2.ownsRow base 143 2 (.slice (some ⟨w.heap.size,0,none⟩) (eH L i h).length G) (eH L i h).length (aQ (eH L i h)):=by
  rw[hil];refine⟨by rw[cV,hil],.inr ⟨w.heap.size,G,cu2,rfl,hb,k2,hGn,hG63,by rw[z2,z1,hRl],?_⟩⟩;rw[nX L i h (by omega),l2,l1,← hY,← hRt];have:=IW ROW.toList h.cells Y (i*2) (by rw[hv,hdl,Array.length_toList,hRl];omega);rw[hv,hdl] at this;rw[hdl,hv,show(n+1)*2=i*2+2+(n-i)*2 by omega,show(i+1)*2=i*2+2 by omega];exact this
 have HH:=hIz (show rD w base (.slice (some ⟨g0,0,none⟩) n c) (eH L i h) (.returned (.slice (some ⟨w.heap.size,0,none⟩) (n+1) G)) W2 from⟨_,G,by rw[hil],own',u2,fun k hk=>.inr (by injection hk with hk;exact Nat.le_of_eq hk)⟩);clear own own' u0 u1 u2 b0 b1 k0 k1 k2 z1 z2 l1 l2 hg hRl hRt hdl hYc hYo hY hn hcl hv hsz hil hrr hold0 hik hi0 hz0 hz1 hz2;have hz2:¬((i:Int)=(n:Int)):=by omega
 have hz3:(c:Int)<(n:Int)+1:=by omega
 have hw1:IntKind.i64.wrap ((i:Int)+(1:Int))=(i:Int)+(1:Int):=by rw[IntKind.wrap_i64];omega
 have hc63:c≤9223372036854775807:=by omega
 have hG64:G≤9223372036854775807:=by unfold maxLen at hG63;omega
 have hin:i≤n:=by omega
 have hnc:n≤c:=hcm.1;have htn:((i:Int)+(1:Int)).toNat=i+1:=by omega
 have hb1:(0:Int)≤(i:Int)+1:=by omega
 have hb3:(i:Int)≤(n:Int):=by omega
 have hb4:¬(c=i):=by omega
 have hb5:¬(G=i):=by omega
 have hb6:¬(G=i+1):=by omega
 clear hcm hkk hG hG63;go_enter Tryz.func107,Tryz.ntmps107;go_upto_region 11 with (first
  | (at_builtin;refine Lib.wpList_append_run _ rfl _ _ _ _ rfl _ _ rfl rfl _ _ (hrz _) ?_)
  | (at_builtin;refine wpList_copy_runI _ rfl _ _ 140 140 rfl _ _ rfl rfl (hcpA _ _) ?_))
 refine aT (fun _=>True) 9 [(0,true),(1,true),(2,true),(3,true),(4,true),(5,true),(6,true),(7,true),(8,false)] (by kernel_rfl) (by kernel_rfl) (fun _ _ d _ _ h=>by cases d <;> exact h) trivial ?_
 iterate 8 refine aC rfl ?_
 refine aM rfl rfl (fun K hK=>?_);refine wp_copy_runI _ _ _ 140 140 rfl (.slice (some ⟨w.heap.size,(i+1)*2,none⟩) (n+1-(i+1)) (G-(i+1))) (.slice (some ⟨g0,i*2,none⟩) (n-i) (c-i)) (by simp[Act.eval]) (by simp[Act.eval]) (hcpB _ _ _) ?_;refine hK _ _ (fun _=>trivial) ?_;clear hK K;(try simp only[Act.put,gA,gS,gZ,sA,sZ,sS])
 refine aG ?_;go_wp2;go_ret;exact HH.out
theorem zQ(w:World)(base:Nat)(A:Option Addr)(c:Nat)(L:List Hp)(own:w.ownsRow base 143 2 (.slice A L.length c) L.length (aQ L))(g:Nat)(h:Hp)(hg:Blk w g 143 h.cells.toArray)(hne:(Value.slice A L.length c).ownBlock≠some g)(hb:base≤w.heap.size)(i:Nat)(hi:i≤L.length)(hl:(L.length+1)*24≤140737488355328) :
  Calls Tryz.prog 107 #[.slice A L.length c,.int .i64 i,.slice (some ⟨g,0,none⟩) 1 1] w (rD w base (.slice A L.length c) (eH L i h)):=by
 rcases Nat.lt_or_eq_of_le hi with h1|rfl
 ·obtain⟨A0,c0,e5,e6,e7⟩:=aK own;injection e5 with e5 _ e8;subst e5;subst e8;rcases e7 with rfl|⟨g0,rfl⟩
  ·exfalso
   rcases own.2 with ⟨_,e⟩|⟨_,_,_,e,_⟩
   ·omega
   ·injection e with e;cases e
  ·rcases Nat.lt_or_ge c (L.length+1) with h2|h2
   ·exact vY w base g0 c L own g h hg hb i h1 h2 hl
   ·exact vX w base g0 c L own g h hg (fun e=>hne (by rw[e];rfl)) i h1 h2
 ·exact zP w base A c L own g h hg hb hl
open Go.RowKit
def aV:List Nat:=List.replicate 64 0
def bL(x y:Nat):Nat:=x &&& (18446744073709551615-y)
def orN(x y:Nat):Nat:=x ||| y
def zR(f:Nat→Nat→Nat)(a b:List Nat)(k:Nat):List Nat:=(List.zipWith f a b).take k++a.drop k
theorem tR(f:Nat→Nat→Nat)(a b:List Nat):zR f a b 0=a:=by simp[zR]
theorem xV{f:Nat→Nat→Nat}{a b:List Nat}(ha:a.length=64)(hb:b.length=64):zR f a b 64=List.zipWith f a b:=by
 unfold zR;rw[List.take_of_length_le (by rw[List.length_zipWith,ha,hb];decide),List.drop_of_length_le (by omega),List.append_nil]
theorem CO{f:Nat→Nat→Nat}{a b:List Nat}{k x:Nat}(hab:a.length=b.length)(h:a[k]?=some x):(zR f a b k)[k]?=some x:=by
 have hk:=(gO.1 h).1;unfold zR;have hl:((List.zipWith f a b).take k).length=k:=by rw[List.length_take,List.length_zipWith];omega
 rw[List.getElem?_append_right (by omega),hl,Nat.sub_self,List.getElem?_drop,Nat.add_zero,h]
theorem xW{f:Nat→Nat→Nat}{a b:List Nat}{k x y:Nat}(hab:a.length=b.length)(hx:a[k]?=some x)(hy:b[k]?=some y):(zR f a b k).set k (f x y)=zR f a b (k+1):=by
 obtain⟨hk,hxe⟩:=gO.1 hx;have hz:(List.zipWith f a b)[k]?=some (f x y):=by rw[List.getElem?_zipWith,hx,hy]
 have hl:((List.zipWith f a b).take k).length=k:=by rw[List.length_take,List.length_zipWith];omega
 unfold zR;rw[List.set_append_right _ _ (by omega),hl,Nat.sub_self,List.drop_eq_getElem_cons hk,List.set_cons_zero,List.take_add_one,hz,Option.toList_some,List.append_assoc,List.singleton_append]
theorem aY{W:World}{g:Nat}{t:TypeId}:Blk W g t Z64↔Blk W g t (wdC aV).toArray:=by
 have e:Z64=(wdC aV).toArray:=by kernel_rfl
 rw[e]
theorem kW{W:World}{g n:Nat}{t:TypeId}{cs:Array Value}(h:Blk W g t cs)(hn:n≤cs.size):W.there g 0 n:=fun i hi=>by
 have hlt:i<cs.size:=by omega
 rw[Nat.zero_add];exact⟨by rw[h.cell i,Array.getElem?_eq_getElem hlt];rfl,h.frozen i⟩
theorem gL(r:List Nat):∀v∈wdC r,v.oneCell'=true:=fun v hv=>by
 obtain⟨x,_,rfl⟩:=List.mem_map.1 hv;rfl
theorem CP(x y:Nat)(hx:x<18446744073709551616)(hy:y<18446744073709551616):bits .andNot .u64 (x:Int) (y:Int)=((bL x y:Nat):Int):=u64_andNot_nat x y hx hy
theorem vZ{f:Nat→Nat→Nat}:∀{a b:List Nat} {z:Nat},z∈List.zipWith f a b→∃x∈a,∃y∈b,z=f x y
 | [],_,_,h=>by simp at h
 | _::_,[],_,h=>by simp at h
 | x::a,y::b,z,h=>by
  rw[List.zipWith_cons_cons,List.mem_cons] at h;rcases h with rfl|h
  ·exact⟨x,by simp,y,by simp,rfl⟩
  ·obtain⟨x',hx,y',hy,e⟩:=vZ h;exact⟨x',by simp[hx],y',by simp[hy],e⟩
theorem CQ{a b:List Nat}(ha:Wd a)(hb:Wd b):Wd (List.zipWith bL a b):=⟨by rw[List.length_zipWith,ha.len,hb.len];decide,fun z hz=>by
 obtain⟨x,hx,y,_,rfl⟩:=vZ hz;exact Nat.lt_of_le_of_lt Nat.and_le_left (ha.fit x hx)⟩
theorem NS(x y:Nat)(hx:x<18446744073709551616)(hy:y<18446744073709551616):bits .or .u64 (x:Int) (y:Int)=((orN x y:Nat):Int):=bits_or_u64_nat x y hx hy
theorem RA{a b:List Nat}(ha:Wd a)(hb:Wd b):Wd (List.zipWith orN a b):=⟨by rw[List.length_zipWith,ha.len,hb.len];decide,fun z hz=>by
 obtain⟨x,hx,y,hy,rfl⟩:=vZ hz;exact Nat.or_lt_two_pow (n:=64) (ha.fit x hx) (hb.fit y hy)⟩
theorem lS(r:List Nat)(k x:Nat):(wdC r).toArray.setIfInBounds k (.int .u64 (x:Int))=(wdC (r.set k x)).toArray:=by
 simp[wdC,List.map_set]
theorem CR(w:World)(a b:List Nat)(ha:Wd a)(hb:Wd b):Calls Tryz.prog 169 #[wdV a,wdV b] w (Sam w (wdV (List.zipWith bL a b))):=by
 have k0:=((Blk.new w 164 (wdC a).toArray).alloc (.cells (wdC b).toArray 164)).alloc (.cells Z64 164);have k1:=(Blk.new (w.alloc (.cells (wdC a).toArray 164)) 164 (wdC b).toArray).alloc (.cells Z64 164);have k2:=Blk.new ((w.alloc (.cells (wdC a).toArray 164)).alloc (.cells (wdC b).toArray 164)) 164 Z64;simp only[World.size_alloc] at k1 k2
 have u0:Below w.heap.size w (((w.alloc (.cells (wdC a).toArray 164)).alloc (.cells (wdC b).toArray 164)).alloc (.cells Z64 164)):=by(repeat (first | exact Below.refl _ _ | apply Below.drew | refine Below.alloc ?_ (by first | exact Nat.le_refl _ | (simp;done) | (simp;omega)) _ | refine Below.setCell ?_ (by first | exact Nat.le_refl _ | (simp;done) | (simp;omega)) _))
 have H:=aI6 ha hb k0 k1 (aY.mp k2) u0;clear k0 k1 k2 u0 ha hb;unfold wdV;go_enter Tryz.func169,Tryz.ntmps169;go_upto_region 1 with (fail);generalize ((w.alloc (.cells (wdC a).toArray 164)).alloc (.cells (wdC b).toArray 164)).alloc (.cells Z64 164)=W0 at H ⊢;go_wp2_with fail;go_loopw [6] (fun i wr=>∃k:Nat,k≤64∧i=.int .i64 k∧Hid (Blk wr w.heap.size 164 (wdC (zR bL a b k)).toArray)∧Hid (Blk wr (w.heap.size+1) 164 (wdC b).toArray)∧Hid (Blk wr (w.heap.size+1+1) 164 (wdC aV).toArray)∧Hid (Below w.heap.size w wr)) (fun i _=>64-(intOf i).toNat)
 case atStart=>exact⟨0,Nat.zero_le _,rfl,hIz (by rw[tR];exact H.out.2.2.1),hIz H.out.2.2.2.1,hIz H.out.2.2.2.2.1,hIz H.out.2.2.2.2.2⟩
 case round =>
  obtain⟨k,hk,rfl,hA,hB,hC,hbw⟩:=hrel;have hab:a.length=b.length:=by rw[H.out.1.len,H.out.2.1.len]
  by_cases hlt:k<64
  ·have hltI:(k:Int)<(64:Int):=by omega
   have hkw:IntKind.i64.wrap ((k:Int)+1)=(k:Int)+1:=IntWalk.i64_in _ (by omega);obtain⟨x,hx⟩:∃x,a[k]?=some x:=⟨a[k]'(by rw[H.out.1.len];exact hlt),gEz _⟩;obtain⟨y,hy⟩:∃x,b[k]?=some x:=⟨b[k]'(by rw[H.out.2.1.len];exact hlt),gEz _⟩;have hop:=CP x y (H.out.1.fit x (mG hx)) (H.out.2.1.fit y (mG hy));have c0:wr.drew.cell? ⟨w.heap.size,k,none⟩=some (.int .u64 (x:Int)):=(hA.out.drew.cell k).trans (by simpa using gH (CO (f:=bL) hab hx));have c1:wr.drew.cell? ⟨w.heap.size+1,k,none⟩=some (.int .u64 (y:Int)):=(hB.out.drew.cell k).trans (by simpa using gH hy);have f0:wr.drew.frozen? ⟨w.heap.size,k,none⟩=false:=hA.out.drew.frozen k;have hS:wr.drew.cell? ⟨w.heap.size,k,none⟩=some (.int .u64 (x:Int))∧wr.drew.cell? ⟨w.heap.size+1,k,none⟩=some (.int .u64 (y:Int)):=⟨c0,c1⟩;have hb2:Upd (fun q=>q=w.heap.size) wr.drew (wr.drew.setCell ⟨w.heap.size,k,none⟩ (.int .u64 ((bL x y:Nat):Int))):=(Upd.refl (fun q=>q=w.heap.size) wr.drew).setCell (p:=⟨w.heap.size,k,none⟩) (.inl rfl) _;have HN:=hIz (show Blk (wr.drew.setCell ⟨w.heap.size,k,none⟩ (.int .u64 ((bL x y:Nat):Int))) w.heap.size 164 (wdC (zR bL a b (k+1))).toArray∧Blk (wr.drew.setCell ⟨w.heap.size,k,none⟩ (.int .u64 ((bL x y:Nat):Int))) (w.heap.size+1) 164 (wdC b).toArray∧Blk (wr.drew.setCell ⟨w.heap.size,k,none⟩ (.int .u64 ((bL x y:Nat):Int))) (w.heap.size+1+1) 164 (wdC aV).toArray∧Below w.heap.size w (wr.drew.setCell ⟨w.heap.size,k,none⟩ (.int .u64 ((bL x y:Nat):Int))) from by
    refine⟨?_,hB.out.drew.upd hb2 (by omega),hC.out.drew.upd hb2 (by omega),hbw.out.drew.trans (hb2.below (fun q _ e=>Nat.le_of_eq e.symm) hbw.out.size)⟩;have:=hA.out.drew.set k (.int .u64 ((bL x y:Nat):Int));rw[lS,xW hab hx hy] at this;exact this)
   clear hA hB hC hbw hb2 hx hy c1;generalize hq:(bL x y:Nat)=q at hop HN;clear hq;go_upto_region 4 with (fail);refine aF (fun W=>W.cell? ⟨w.heap.size,k,none⟩=some (.int .u64 (x:Int))∧W.cell? ⟨w.heap.size+1,k,none⟩=some (.int .u64 (y:Int))) 8 [(0,true),(1,true),(2,true),(3,true),(4,true),(5,true),(6,true),(7,true),(8,false)] hS ?_;generalize wr.drew=V0 at hS c0 f0 HN ⊢
   iterate 8 refine aC rfl ?_
   refine aM rfl rfl (fun K hK=>?_);go_simp;refine hK _ _ (fun h=>absurd rfl h) ?_;clear hK K hS c0 f0 hop;(try simp only[Act.put,gA,gS,gZ,sA,sZ,sS])
   refine aG ?_;generalize V0.setCell ⟨w.heap.size,k,none⟩ (.int .u64 (q:Int))=W1 at HN ⊢;go_wp2;go_roundw
   case rel=>exact⟨k+1,by omega,by go_num,hIz HN.out.1,hIz HN.out.2.1,hIz HN.out.2.2.1,hIz HN.out.2.2.2⟩
   case measure=>simp[intOf];omega
  ·obtain rfl:k=64:=by omega
   have hA2:=hA.out;rw[xV H.out.1.len H.out.2.1.len] at hA2;have hz:Wd (List.zipWith bL a b):=CQ H.out.1 H.out.2.1;have hrg:=bS hA2;have hsz:=bO hz;have hth:wr.there (w.heap.size+1+1) 0 (wdC (List.zipWith bL a b)).toArray.size:=kW hC.out (by simp[bJ,hz.len,aV]);have hsz2:(Tryz.prog.info? 164).map (·.size)=some (wdC (List.zipWith bL a b)).toArray.size:=by simpa using hsz
   have h1c:(wdC (List.zipWith bL a b)).toArray.all (·.oneCell')=true:=all_oneCell_toArray (gL _);have FIN:=hIz (show Below w.heap.size w (wr.setCells (w.heap.size+1+1) 0 (wdC (List.zipWith bL a b)))∧(wr.setCells (w.heap.size+1+1) 0 (wdC (List.zipWith bL a b))).rangeAt (w.heap.size+1+1) 0 (wdC (List.zipWith bL a b)) from⟨hbw.out.trans ((Upd.setCells (F:=fun q=>q=w.heap.size+1+1) (.inl rfl) _ _ (Upd.refl _ _)).below (fun q _ e=>by omega) hbw.out.size),World.rangeAt_setCells_same _ _ _ _ (by simpa using hth)⟩);clear hA hB hC hbw hA2;go_upto_region 6 with (fail);go_wp2_with (first | (refine wpList_load_mid rfl 164 _ rfl w.heap.size 0 rfl (wdC (List.zipWith bL a b)) (.array 64 162) hrg Tryz.underlying164 rfl hsz ?_) | (refine wpList_store_mid rfl 164 _ _ rfl (w.heap.size+1+1) 0 (wdC (List.zipWith bL a b)).toArray rfl rfl hth hsz2 h1c ?_));have hlv:=run_loadVar_mid (P:=Tryz.prog) _ (w.heap.size+1+1) 0 164 (wdC (List.zipWith bL a b)) (.array 64 162) FIN.out.2 Tryz.underlying164 rfl hsz;refine bodyPost_ret (v:=.agg (wdC (List.zipWith bL a b)).toArray) (by simp[results,Tryz.f169,Act.put,asAddr,hlv,Result.andThen,Sem.run_bind]) rfl ⟨rfl,FIN.out.1⟩
theorem NT(w:World)(a b:List Nat)(ha:Wd a)(hb:Wd b):Calls Tryz.prog 170 #[wdV a,wdV b] w (Sam w (wdV (List.zipWith orN a b))):=by
 have k0:=((Blk.new w 164 (wdC a).toArray).alloc (.cells (wdC b).toArray 164)).alloc (.cells Z64 164);have k1:=(Blk.new (w.alloc (.cells (wdC a).toArray 164)) 164 (wdC b).toArray).alloc (.cells Z64 164);have k2:=Blk.new ((w.alloc (.cells (wdC a).toArray 164)).alloc (.cells (wdC b).toArray 164)) 164 Z64;simp only[World.size_alloc] at k1 k2
 have u0:Below w.heap.size w (((w.alloc (.cells (wdC a).toArray 164)).alloc (.cells (wdC b).toArray 164)).alloc (.cells Z64 164)):=by(repeat (first | exact Below.refl _ _ | apply Below.drew | refine Below.alloc ?_ (by first | exact Nat.le_refl _ | (simp;done) | (simp;omega)) _ | refine Below.setCell ?_ (by first | exact Nat.le_refl _ | (simp;done) | (simp;omega)) _))
 have H:=aI6 ha hb k0 k1 (aY.mp k2) u0;clear k0 k1 k2 u0 ha hb;unfold wdV;go_enter Tryz.func170,Tryz.ntmps170;go_upto_region 1 with (fail);generalize ((w.alloc (.cells (wdC a).toArray 164)).alloc (.cells (wdC b).toArray 164)).alloc (.cells Z64 164)=W0 at H ⊢;go_wp2_with fail;go_loopw [6] (fun i wr=>∃k:Nat,k≤64∧i=.int .i64 k∧Hid (Blk wr w.heap.size 164 (wdC (zR orN a b k)).toArray)∧Hid (Blk wr (w.heap.size+1) 164 (wdC b).toArray)∧Hid (Blk wr (w.heap.size+1+1) 164 (wdC aV).toArray)∧Hid (Below w.heap.size w wr)) (fun i _=>64-(intOf i).toNat)
 case atStart=>exact⟨0,Nat.zero_le _,rfl,hIz (by rw[tR];exact H.out.2.2.1),hIz H.out.2.2.2.1,hIz H.out.2.2.2.2.1,hIz H.out.2.2.2.2.2⟩
 case round =>
  obtain⟨k,hk,rfl,hA,hB,hC,hbw⟩:=hrel;have hab:a.length=b.length:=by rw[H.out.1.len,H.out.2.1.len]
  by_cases hlt:k<64
  ·have hltI:(k:Int)<(64:Int):=by omega
   have hkw:IntKind.i64.wrap ((k:Int)+1)=(k:Int)+1:=IntWalk.i64_in _ (by omega);obtain⟨x,hx⟩:∃x,a[k]?=some x:=⟨a[k]'(by rw[H.out.1.len];exact hlt),gEz _⟩;obtain⟨y,hy⟩:∃x,b[k]?=some x:=⟨b[k]'(by rw[H.out.2.1.len];exact hlt),gEz _⟩;have hop:=NS x y (H.out.1.fit x (mG hx)) (H.out.2.1.fit y (mG hy));have c0:wr.drew.cell? ⟨w.heap.size,k,none⟩=some (.int .u64 (x:Int)):=(hA.out.drew.cell k).trans (by simpa using gH (CO (f:=orN) hab hx));have c1:wr.drew.cell? ⟨w.heap.size+1,k,none⟩=some (.int .u64 (y:Int)):=(hB.out.drew.cell k).trans (by simpa using gH hy);have f0:wr.drew.frozen? ⟨w.heap.size,k,none⟩=false:=hA.out.drew.frozen k;have hS:wr.drew.cell? ⟨w.heap.size,k,none⟩=some (.int .u64 (x:Int))∧wr.drew.cell? ⟨w.heap.size+1,k,none⟩=some (.int .u64 (y:Int)):=⟨c0,c1⟩;have hb2:Upd (fun q=>q=w.heap.size) wr.drew (wr.drew.setCell ⟨w.heap.size,k,none⟩ (.int .u64 ((orN x y:Nat):Int))):=(Upd.refl (fun q=>q=w.heap.size) wr.drew).setCell (p:=⟨w.heap.size,k,none⟩) (.inl rfl) _;have HN:=hIz (show Blk (wr.drew.setCell ⟨w.heap.size,k,none⟩ (.int .u64 ((orN x y:Nat):Int))) w.heap.size 164 (wdC (zR orN a b (k+1))).toArray∧Blk (wr.drew.setCell ⟨w.heap.size,k,none⟩ (.int .u64 ((orN x y:Nat):Int))) (w.heap.size+1) 164 (wdC b).toArray∧Blk (wr.drew.setCell ⟨w.heap.size,k,none⟩ (.int .u64 ((orN x y:Nat):Int))) (w.heap.size+1+1) 164 (wdC aV).toArray∧Below w.heap.size w (wr.drew.setCell ⟨w.heap.size,k,none⟩ (.int .u64 ((orN x y:Nat):Int))) from by
    refine⟨?_,hB.out.drew.upd hb2 (by omega),hC.out.drew.upd hb2 (by omega),hbw.out.drew.trans (hb2.below (fun q _ e=>Nat.le_of_eq e.symm) hbw.out.size)⟩;have:=hA.out.drew.set k (.int .u64 ((orN x y:Nat):Int));rw[lS,xW hab hx hy] at this;exact this)
   clear hA hB hC hbw hb2 hx hy c1;generalize hq:(orN x y:Nat)=q at hop HN;clear hq;go_upto_region 4 with (fail);refine aF (fun W=>W.cell? ⟨w.heap.size,k,none⟩=some (.int .u64 (x:Int))∧W.cell? ⟨w.heap.size+1,k,none⟩=some (.int .u64 (y:Int))) 8 [(0,true),(1,true),(2,true),(3,true),(4,true),(5,true),(6,true),(7,true),(8,false)] hS ?_;generalize wr.drew=V0 at hS c0 f0 HN ⊢
   iterate 8 refine aC rfl ?_
   refine aM rfl rfl (fun K hK=>?_);go_simp;refine hK _ _ (fun h=>absurd rfl h) ?_;clear hK K hS c0 f0 hop;(try simp only[Act.put,gA,gS,gZ,sA,sZ,sS])
   refine aG ?_;generalize V0.setCell ⟨w.heap.size,k,none⟩ (.int .u64 (q:Int))=W1 at HN ⊢;go_wp2;go_roundw
   case rel=>exact⟨k+1,by omega,by go_num,hIz HN.out.1,hIz HN.out.2.1,hIz HN.out.2.2.1,hIz HN.out.2.2.2⟩
   case measure=>simp[intOf];omega
  ·obtain rfl:k=64:=by omega
   have hA2:=hA.out;rw[xV H.out.1.len H.out.2.1.len] at hA2;have hz:Wd (List.zipWith orN a b):=RA H.out.1 H.out.2.1;have hrg:=bS hA2;have hsz:=bO hz;have hth:wr.there (w.heap.size+1+1) 0 (wdC (List.zipWith orN a b)).toArray.size:=kW hC.out (by simp[bJ,hz.len,aV]);have hsz2:(Tryz.prog.info? 164).map (·.size)=some (wdC (List.zipWith orN a b)).toArray.size:=by simpa using hsz
   have h1c:(wdC (List.zipWith orN a b)).toArray.all (·.oneCell')=true:=all_oneCell_toArray (gL _);have FIN:=hIz (show Below w.heap.size w (wr.setCells (w.heap.size+1+1) 0 (wdC (List.zipWith orN a b)))∧(wr.setCells (w.heap.size+1+1) 0 (wdC (List.zipWith orN a b))).rangeAt (w.heap.size+1+1) 0 (wdC (List.zipWith orN a b)) from⟨hbw.out.trans ((Upd.setCells (F:=fun q=>q=w.heap.size+1+1) (.inl rfl) _ _ (Upd.refl _ _)).below (fun q _ e=>by omega) hbw.out.size),World.rangeAt_setCells_same _ _ _ _ (by simpa using hth)⟩);clear hA hB hC hbw hA2;go_upto_region 6 with (fail);go_wp2_with (first | (refine wpList_load_mid rfl 164 _ rfl w.heap.size 0 rfl (wdC (List.zipWith orN a b)) (.array 64 162) hrg Tryz.underlying164 rfl hsz ?_) | (refine wpList_store_mid rfl 164 _ _ rfl (w.heap.size+1+1) 0 (wdC (List.zipWith orN a b)).toArray rfl rfl hth hsz2 h1c ?_));have hlv:=run_loadVar_mid (P:=Tryz.prog) _ (w.heap.size+1+1) 0 164 (wdC (List.zipWith orN a b)) (.array 64 162) FIN.out.2 Tryz.underlying164 rfl hsz;refine bodyPost_ret (v:=.agg (wdC (List.zipWith orN a b)).toArray) (by simp[results,Tryz.f170,Act.put,asAddr,hlv,Result.andThen,Sem.run_bind]) rfl ⟨rfl,FIN.out.1⟩
open Go.RowKit
theorem kY(n:Nat)(hn:n<64)(w:World):Calls Tryz.prog 116 #[.int .i64 (n:Int)] w (fun e w'=>e=.returned (.bool true)∧w'=w):=by
 have h0:(0:Int)≤(n:Int):=by omega
 have h1:(n:Int)<64:=by omega
 go_enter Tryz.func116,Tryz.ntmps116;go_wp2;go_ret;exact⟨rfl,rfl⟩
def iJ(r:List Nat)(i j:Nat):Bool:=(r[i]?.getD 0).testBit j
theorem NU(x:Nat)(hx:x<18446744073709551616)(j:Nat):(bits .and .u64 ((x:Int) / 2 ^ j) 1==1)=x.testBit j:=by
 rw[show((x:Int) / 2 ^ j)=((x / 2 ^ j:Nat):Int) by push_cast;rfl];have hlt:x / 2 ^ j<18446744073709551616:=Nat.lt_of_le_of_lt (Nat.div_le_self _ _) hx;have h:=bits_and_u64_nat (x / 2 ^ j) 1 hlt (by decide);have e:((1:Nat):Int)=1:=rfl;rw[e] at h;rw[h,Nat.and_one_is_mod,Nat.testBit_eq_decide_div_mod_eq];by_cases hq:x / 2 ^ j % 2=1
 ·simp[hq]
 ·have:x / 2 ^ j % 2=0:=by omega
  simp[this]
theorem IY(w:World)(r:List Nat)(hr:Wd r)(i j:Nat)(hi:i<64)(hj:j<64):Calls Tryz.prog 79 #[wdV r,.int .i64 (i:Int),.int .i64 (j:Int)] w (Sam w (.tuple #[.bool (iJ r i j),.int .i64 0])):=by
 have k0:=Blk.new w 164 (wdC r).toArray;have u0:Below w.heap.size w (w.alloc (.cells (wdC r).toArray 164)):=bR.alloc (Nat.le_refl _) _;obtain⟨x,hx⟩:∃x,r[i]?=some x:=⟨r[i]'(by rw[hr.len];exact hi),gEz _⟩;have c0:(w.alloc (.cells (wdC r).toArray 164)).cell? ⟨w.heap.size,i,none⟩=some (.int .u64 (x:Int)):=(k0.cell i).trans (by simpa using gH hx);have hb:iJ r i j=x.testBit j:=by unfold iJ;rw[hx];rfl
 have ha:=NU x (hr.fit x (mG hx)) j;rw[hb,← ha];have H:=hIz u0;have hiI:(i:Int)<(64:Int):=by omega
 have hj0:¬((j:Int)<0):=by omega
 clear k0 u0 hx hr hb ha;unfold wdV;go_enter Tryz.func79,Tryz.ntmps79;go_upto_region 1 with (fail);generalize w.alloc (.cells (wdC r).toArray 164)=W0 at H c0 ⊢;go_wp2_with fail;refine(kY i hi W0).mono ?_;rintro e w' ⟨rfl,hw⟩;subst w';go_wp2_with fail;refine(kY j hj W0).mono ?_;rintro e w' ⟨rfl,hw⟩;subst w';go_wp2;refine bodyPost_ret (v:=.tuple #[.bool (bits .and .u64 ((x:Int) / 2 ^ j) 1==1),.int .i64 0]) (by simp[results,Tryz.f79,go_sem]) rfl ⟨rfl,H.out⟩
theorem nY(l:Nat)(hl:l≤10)(w:World):Calls Tryz.prog 115 #[.int .i64 0,.int .i64 0,.int .i64 (l:Int)] w (Sam w (.int .i64 0)):=by
 have h0:¬((l:Int)<0):=by omega
 have h1:bits .and .i64 0 1=0:=by decide +kernel
 have h2:wrap64 0=0:=by decide +kernel
 have h3:bits .or .i64 0 0=0:=by decide +kernel
 go_enter Tryz.func115,Tryz.ntmps115;go_upto_region 1 with (fail);go_quiet (fail)
 go_wp2;go_ret;exact⟨rfl,(Upd.refl (fun _=>False) w).drewN _ |>.below (fun _ _ h=>h.elim) (Nat.le_refl _)⟩
open Go.RowKit
def tS(L:List Hp)(h:Hp):List Hp:=eH L (zG L h) h
theorem CS{L:List Hp}{h:Hp}(hn:∀x∈L,ltH x h=false):zG L h=0:=by
 unfold zG;rw[List.countP_eq_zero];intro x hx;rw[hn x hx];simp
theorem IZ(h:Hp):tS [] h=[h]:=rfl
theorem JA{x:Hp}{L:List Hp}{h:Hp}(hx:ltH x h=true):tS (x::L) h=x::tS L h:=by
 unfold tS zG eH;rw[List.countP_cons_of_pos (p:=fun x=>ltH x h) hx];rfl
theorem NV{x:Hp}{L:List Hp}{h:Hp}(hup:cT ltH (x::L))(hx:ltH x h=false):tS (x::L) h=h::x::L:=by
 unfold tS eH;have h0:=(List.pairwise_cons.1 hup).1;rw[CS (fun y hy=>by
  rcases List.mem_cons.1 hy with rfl|hy
  ·exact hx
  ·cases e:ltH y h
   ·rfl
   ·rw[GV.tr _ _ _ (h0 y hy) e] at hx;cases hx)]
 rfl
theorem rE{L:List Hp}{h y:Hp}:y∈tS L h↔y∈L∨y=h:=by
 unfold tS eH;rw[List.mem_append,List.mem_cons];have:y∈L↔y∈L.take (zG L h)∨y∈L.drop (zG L h):=by rw[← List.mem_append,List.take_append_drop]
 rw[this];constructor
 ·rintro (h|h|h)
  ·exact .inl (.inl h)
  ·exact .inr h
  ·exact .inl (.inr h)
 ·rintro ((h|h)|h)
  ·exact .inl h
  ·exact .inr (.inr h)
  ·exact .inr (.inl h)
theorem lT:∀{L:List Hp} {h:Hp},cT ltH L→h ∉ L→cT ltH (tS L h)
 | [],h,_,_=>by rw[IZ];exact List.pairwise_singleton _ _
 | x::L,h,hup,hn=>by
  have h0:=List.pairwise_cons.1 hup;cases hx:ltH x h with
  | true =>
   rw[JA hx];refine List.pairwise_cons.2 ⟨fun y hy=>?_,lT h0.2 (fun e=>hn (List.mem_cons_of_mem _ e))⟩;rcases rE.1 hy with h1|rfl
   ·exact h0.1 y h1
   ·exact hx
  | false =>
   rw[NV hup hx];have hhx:ltH h x=true:=by
    cases e:ltH h x with
    | true=>rfl
    | false=>exact(hn (by rw[GV.tri _ _ e hx];exact List.mem_cons_self ..)).elim
   refine List.pairwise_cons.2 ⟨fun y hy=>?_,hup⟩;rcases List.mem_cons.1 hy with rfl|hy
   ·exact hhx
   ·exact GV.tr _ _ _ hhx (h0.1 y hy)

theorem CT(w:World)(base:Nat)(A:Option Addr)(c:Nat)(L:List Hp)(h:Hp)(own:w.ownsRow base 143 2 (.slice A L.length c) L.length (aQ L))(hup:cT ltH L)(hb:base≤w.heap.size)(hl:(L.length+1)*24≤140737488355328) :
  Calls Tryz.prog 68 #[.slice A L.length c,h.agg] w (rD w base (.slice A L.length c) (tS L h)):=by
 unfold tS;obtain⟨i,hi⟩:∃i,zG L h=i:=⟨_,rfl⟩;have hil:i≤L.length:=by rw[← hi];exact NK L h
 rw[hi];obtain⟨s0,s1⟩:=h;have k0:=Blk.new w 143 #[.string s0,.int .i64 s1];have u0:Below w.heap.size w (w.alloc (.cells #[.string s0,.int .i64 s1] 143)):=bR.alloc (Nat.le_refl _) _;have H:=aI6 (own.alloc (.cells #[.string s0,.int .i64 s1] 143)) k0 u0 hup (own.lt) hi;clear k0 u0 own hup hi;unfold Hp.agg;dsimp only
 go_enter Tryz.func68,Tryz.ntmps68;go_upto_region 1 with (fail);generalize w.alloc (.cells #[.string s0,.int .i64 s1] 143)=W0 at H ⊢;have q0:W0.cell? ⟨w.heap.size,0,none⟩=some (.string s0):=H.out.2.1.cell 0;have q1:W0.cell? ⟨w.heap.size,1,none⟩=some (.int .i64 s1):=H.out.2.1.cell 1;have hcon:=CA W0 A c L ⟨s0,s1⟩ (aX.of_own H.out.1) H.out.2.2.2.1 (by omega);rw[H.out.2.2.2.2.2] at hcon;unfold Hp.agg at hcon;dsimp only at hcon
 go_wp2_with fail;refine hcon.mono ?_;clear hcon q0 q1;rintro e w1 ⟨rfl,b1⟩;have k1:=H.out.2.1.upd (upF b1) id;have k2:=Blk.new w1 143 #[.string s0,.int .i64 s1];have o2:=(aB H.out.1 (upF b1) (fun _ _ h=>h)).alloc (.cells #[.string s0,.int .i64 s1] 143);have b2:Below w.heap.size w (w1.alloc (.cells #[.string s0,.int .i64 s1] 143)):=(tHn H.out.2.2.1 b1).alloc (by have:=H.out.2.2.1.size;have:=b1.size;omega) _;have q0:w1.cell? ⟨w.heap.size,0,none⟩=some (.string s0):=k1.cell 0;have q1:w1.cell? ⟨w.heap.size,1,none⟩=some (.int .i64 s1):=k1.cell 1;have hne:(Value.slice A L.length c).ownBlock≠some w1.heap.size:=fun e=>by
  have:=(H.out.2.2.2.2.1 _ e).2;have:=b2.size;have:=H.out.2.2.1.size;have:=b1.size;omega
 have hcon:=zQ _ base A c L o2 w1.heap.size ⟨s0,s1⟩ k2 hne (by have:=b2.size;omega) i hil hl;have HB:=hIz b2;clear k1 k2 o2 b2 b1;go_wp2_with fail;refine hcon.mono ?_;clear hcon q0 q1;generalize w1.alloc (.cells #[.string s0,.int .i64 s1] 143)=W2 at HB ⊢;rintro e w3 ⟨A',c',rfl,o3,u3,p3⟩;have FIN:=hIz (show rD w base (.slice A L.length c) (eH L i ⟨s0,s1⟩) (.returned (.slice A' (eH L i ⟨s0,s1⟩).length c')) w3 from⟨A',c',rfl,o3,(Upd.of_below HB.out _).trans u3 (fun k hk=>.inl hk),fun k hk=>by
  rcases p3 k hk with h|h
  ·exact .inl h
  ·exact .inr (by have:=HB.out.size;omega)⟩)
 clear o3 u3 p3;go_wp2;go_ret;exact FIN.out
open Go.RowKit
def OfP(w:World)(N:List Txt)(E:List Ed)(e:Ending)(w':World):Prop:=
 (bT N E=false∧e=.returned (.tuple #[cP none 0 0 none 0 0,.int .i64 173])∧Below w.heap.size w w')∨(bT N E=true∧IT w N E e w')

theorem NW(w:World)(A:Option Addr)(c:Nat)(B:Option Addr)(d:Nat)(N:List Txt)(E:List Ed)(h:lN w A c B d N E)(hb:(N.length+E.length*2)*16≤140737488355328) :
  Calls Tryz.prog 84 #[.slice A N.length c,.slice B E.length d] w (OfP w N E):=by
 have k0:=Blk.new w 28 #[.slice none 0 0,.slice none 0 0];have u0:Below w.heap.size w (w.alloc (.cells #[.slice none 0 0,.slice none 0 0] 28)):=bR.alloc (Nat.le_refl _) _;have H:=aI3 (h.below u0) k0 u0;clear h k0 u0;obtain⟨b0,hb0⟩:∃b,bT N E=b:=⟨_,rfl⟩;have HN:=hIz hb0;clear hb0;go_enter Tryz.func84,Tryz.ntmps84;go_upto_region 1 with (fail);generalize w.alloc (.cells #[.slice none 0 0,.slice none 0 0] 28)=W0 at H ⊢;have hz0:w.heap.size+1≤W0.heap.size:=H.out.2.1.lt;go_wp2_with fail;refine(tE W0 A c B d N E H.out.1).mono ?_;rintro e w1 ⟨rfl,b1⟩;rw[HN.out];have k1:=H.out.2.1.upd (upF b1) id;have fin:∀w8:World,Blk w8 w.heap.size 28 #[.slice none 0 0,.slice none 0 0]→∀v0 v1:Value,Blk ((w8.setCell ⟨w.heap.size,0,none⟩ v0).setCell ⟨w.heap.size,1,none⟩ v1) w.heap.size 28 #[v0,v1]∧Upd (fun q=>q=w.heap.size) w8 ((w8.setCell ⟨w.heap.size,0,none⟩ v0).setCell ⟨w.heap.size,1,none⟩ v1):=fun w8 k8 v0 v1 =>
  ⟨(k8.set 0 v0).set 1 v1,((Upd.refl (fun q=>q=w.heap.size) w8).setCell (p:=⟨w.heap.size,0,none⟩) (.inl rfl) v0).setCell (p:=⟨w.heap.size,1,none⟩) (.inl rfl) v1⟩
 have H1:=aI3 (H.out.1.below b1) k1 (tHn H.out.2.2 b1);have FN:=hIz fin;have z1:=b1.size;clear k1 b1 fin;cases b0
 ·have c0:w1.cell? ⟨w.heap.size,0,none⟩=some (.slice none 0 0):=H1.out.2.1.cell 0;have c1':w1.cell? ⟨w.heap.size,1,none⟩=some (.slice none 0 0):=H1.out.2.1.cell 1;have f0:=H1.out.2.1.frozen 0;have f1:=H1.out.2.1.frozen 1;obtain⟨kF,uF⟩:=FN.out _ H1.out.2.1 (.slice none 0 0) (.slice none 0 0);have e0:=kF.cell 0;have e1:=kF.cell 1;simp only[List.getElem?_toArray,List.getElem?_cons_succ,List.getElem?_cons_zero] at e0 e1
  have FIN:=hIz (show OfP w N E (.returned (.tuple #[cP none 0 0 none 0 0,.int .i64 173])) _ from .inl ⟨HN.out,rfl,H1.out.2.2.trans (uF.below (fun q _ e=>by omega) H1.out.2.2.size)⟩);clear kF uF;go_wp2;refine bodyPost_ret (v:=.tuple #[cP none 0 0 none 0 0,.int .i64 173]) (by simp[results,Tryz.f84,go_sem,cP,e0,e1]) rfl FIN.out
 ·go_wp2_with fail;refine(IU w1 A c B d N E H1.out.1 (kE.of HN.out) hb).mono ?_;rintro e w2 (⟨hc,A2,c2,B2,d2,rfl,oT,oE,b2⟩|⟨hc,rfl,b2⟩)
  ·have k2:=H1.out.2.1.upd (upF b2) id;have c0:w2.cell? ⟨w.heap.size,0,none⟩=some (.slice none 0 0):=k2.cell 0;have c1':w2.cell? ⟨w.heap.size,1,none⟩=some (.slice none 0 0):=k2.cell 1;have f0:=k2.frozen 0;have f1:=k2.frozen 1;obtain⟨n,hn⟩:∃n,(gN N E).length=n:=⟨_,rfl⟩;obtain⟨m,hm⟩:∃m,(gE E).length=m:=⟨_,rfl⟩;obtain⟨kF,uF⟩:=FN.out _ k2 (.slice A2 n c2) (.slice B2 m d2);have e0:=kF.cell 0;have e1:=kF.cell 1;simp only[List.getElem?_toArray,List.getElem?_cons_succ,List.getElem?_cons_zero] at e0 e1
   have bw:=tHn H1.out.2.2 b2;have FIN:=hIz (show OfP w N E (.returned (.tuple #[cP A2 n c2 B2 m d2,.int .i64 0])) _ from .inr ⟨HN.out,.inl ⟨hc,A2,c2,B2,d2,by rw[hn,hm],bQ (aB oT uF (fun q hq e=>by have:=(oT.lt q hq).1;omega)) (fun q hq=>by have:=(oT.lt q hq).1;omega),bQ (aB oE uF (fun q hq e=>by have:=(oE.lt q hq).1;omega)) (fun q hq=>by have:=(oE.lt q hq).1;omega),bw.trans (uF.below (fun q _ e=>by omega) bw.size)⟩⟩);rw[hn,hm];unfold cP;clear kF uF oT oE b2 bw k2 hc hn hm;go_wp2;refine bodyPost_ret (v:=.tuple #[cP A2 n c2 B2 m d2,.int .i64 0]) (by simp[results,Tryz.f84,go_sem,cP,e0,e1]) rfl FIN.out
  ·have k2:=H1.out.2.1.upd (upF b2) id;have c0:w2.cell? ⟨w.heap.size,0,none⟩=some (.slice none 0 0):=k2.cell 0;have c1':w2.cell? ⟨w.heap.size,1,none⟩=some (.slice none 0 0):=k2.cell 1;have f0:=k2.frozen 0;have f1:=k2.frozen 1;obtain⟨cp,hcp⟩:∃cp,cG (gN N E) (gE E)=cp:=⟨_,rfl⟩;obtain⟨kF,uF⟩:=FN.out _ k2 (.slice none 0 0) (.slice none 0 0);have e0:=kF.cell 0;have e1:=kF.cell 1;simp only[List.getElem?_toArray,List.getElem?_cons_succ,List.getElem?_cons_zero] at e0 e1
   have bw:=tHn H1.out.2.2 b2;have FIN:=hIz (show OfP w N E (.returned (.tuple #[cP none 0 0 none 0 0,.int .i64 cp])) _ from .inr ⟨HN.out,.inr ⟨hc,by rw[hcp],bw.trans (uF.below (fun q _ e=>by omega) bw.size)⟩⟩);rw[hcp];unfold cP;clear kF uF b2 bw k2 hc hcp;go_wp2;refine bodyPost_ret (v:=.tuple #[cP none 0 0 none 0 0,.int .i64 cp]) (by simp[results,Tryz.f84,go_sem,cP,e0,e1]) rfl FIN.out
open Go.RowKit
def JB(N:List Txt)(E:List Ed)(N':List Txt)(E':List Ed):Bool:=decide (N=N')&&decide (E=E')
open Go.RowKit
theorem mX{α β:Type}[DecidableEq α](f:α→List β):∀{L M:List α},L.Nodup→(∀x∈L,x∈M)→(L.flatMap f).length≤(M.flatMap f).length
 | [],M,_,_=>by simp
 | a::L,M,hd,hs=>by
  obtain⟨h1,h2⟩:=List.nodup_cons.1 hd;have hp:=List.perm_cons_erase (hs a (by simp));have ih:=mX f (L:=L) (M:=M.erase a) h2 (fun x hx=>by
   have hne:x≠a:=by rintro rfl;exact h1 hx
   exact(List.mem_erase_of_ne hne).2 (hs x (by simp[hx])))
  have hl:=(hp.flatMap_right f).length_eq;rw[List.flatMap_cons,List.length_append] at hl ⊢;omega
theorem fX{α:Type}[DecidableEq α]{L M:List α}(hd:L.Nodup)(hs:∀x∈L,x∈M):L.length≤M.length:=by
 have:=mX (fun x=>[x]) hd hs;simpa using this
theorem cT.nodup{α:Type}{lt:α→α→Bool}(hs:Sto lt){l:List α}(h:cT lt l):l.Nodup:=List.Pairwise.imp (fun {_a _b} h=>hs.ne h) h
theorem JC{E:List Ed}{s:Txt}:s∈dV E E.length↔∃x∈E,s=x.fr∨s=x.to:=by
 rw[lQ];constructor
 ·rintro⟨i,x,_,hx,h⟩;exact⟨x,mG hx,h⟩
 ·rintro⟨x,hx,h⟩;obtain⟨i,hi,e⟩:=List.getElem_of_mem hx;exact⟨i,x,hi,by rw[gEz hi,e],h⟩
theorem xX{N:List Txt}{E:List Ed}{s:Txt}:s∈cB N E↔s∈N∧¬∃x∈E,s=x.fr∨s=x.to:=by
 unfold cB;rw[List.mem_filter,← JC,← bC (s:=s) (N:=dV E E.length)];simp
theorem CU(s:Txt):(eC s).length=s.size+3:=by simp[eC,MO]
theorem CV(x:Ed):(iH x).length=x.fr.size+x.lb.size+x.to.size+5:=by simp[iH,MO];omega
theorem qB:∀(D:List Ed),(∀x∈D,1≤x.lb.size)→((D.flatMap iS).flatMap eC).length≤(D.flatMap iH).length
 | [],_=>by simp
 | x::D,h=>by
  have ih:=qB D (fun y hy=>h y (by simp[hy]));have h1:=h x (by simp);simp only[List.flatMap_cons,List.flatMap_append,List.length_append,CV]
  simp only[iS,List.flatMap_cons,List.flatMap_nil,List.append_nil,List.length_append,CU]
  omega
theorem JD{N N':List Txt}{E E':List Ed}(hN:N'.Nodup)(hE:E.Nodup)(hE':E'.Nodup)(sN:∀s∈N',s∈N)(sE:∀x∈E',x∈E)(hl:∀x∈E,1≤x.lb.size) :
  (mQ N' E').length≤(mQ N E).length:=by
 have h1:(cB N' E').Nodup:=List.Nodup.sublist List.filter_sublist hN;have h2:((cB N' E').flatMap eC).length≤((cB N E++(E.filter fun x=>!decide (x∈E')).flatMap iS).flatMap eC).length:=by
  refine mX eC h1 (fun s hs=>?_);obtain⟨m1,m2⟩:=xX.1 hs;rw[List.mem_append];by_cases h:∃x∈E,s=x.fr∨s=x.to
  ·obtain⟨x,hx,hsx⟩:=h;refine .inr (List.mem_flatMap.2 ⟨x,List.mem_filter.2 ⟨hx,?_⟩,?_⟩)
   ·simp only[Bool.not_eq_true',decide_eq_false_iff_not]
    intro hx';exact m2 ⟨x,hx',hsx⟩
   ·simp[iS];exact hsx
  ·exact .inl (xX.2 ⟨sN s m1,h⟩)
 have h3:=qB (E.filter fun x=>!decide (x∈E')) (fun x hx=>hl x (List.mem_filter.1 hx).1);have h4:((E'++E.filter fun x=>!decide (x∈E')).flatMap iH).length≤(E.flatMap iH).length:=by
  refine mX iH ?_ (fun x hx=>?_)
  ·rw[List.nodup_append];refine⟨hE',List.Nodup.sublist List.filter_sublist hE,fun a ha b hb=>?_⟩;rintro rfl;have:=(List.mem_filter.1 hb).2;simp[ha] at this
  ·rcases List.mem_append.1 hx with hx|hx
   ·exact sE x hx
   ·exact(List.mem_filter.1 hx).1
 unfold mQ;simp only[List.flatMap_append,List.length_append] at h2 h4 ⊢
 omega
theorem CW{E:List Ed}{s:Txt}:s∈lbs E↔∃x∈E,x.lb=s:=List.mem_map
theorem JE{N N':List Txt}{E E':List Ed}(hN:N'.Nodup)(hE:E.Nodup)(hE':E'.Nodup)(sN:∀s∈N',s∈N)(sE:∀x∈E',x∈E)(hl:∀x∈E,1≤x.lb.size)(h:cG N E=0):cG N' E'=0:=by
 unfold cG at h ⊢;have h1:=fX hN sN;have h2:(eD ltT (lbs E')).length≤(eD ltT (lbs E)).length:=fX ((bM fJ _).up.nodup fJ) (fun s hs=>by
  obtain⟨x,hx,e⟩:=CW.1 (((bM fJ _).mem s).1 hs);exact((bM fJ _).mem s).2 (CW.2 ⟨x,sE x hx,e⟩))
 have h3:=fX hE' sE;have h4:=JD hN hE hE' sN sE hl;split at h
 ·omega
 split at h
 ·omega
 split at h
 ·omega
 split at h
 ·omega
 rw[if_neg (by omega),if_neg (by omega),if_neg (by omega),if_neg (by omega)]

def ofI(N:List Txt)(E:List Ed):Int:=if bT N E=false then 173 else cG (gN N E) (gE E)
theorem fD{N:List Txt}{E:List Ed}:bT N E=true↔(∀s∈N,dE s=true)∧∀x∈E,dE x.fr=true∧fS x.lb=true∧dE x.to=true:=by
 unfold bT dQ;simp[List.all_eq_true]
theorem mJ{N:List Txt}{E:List Ed}{s:Txt}:s∈gN N E↔s∈N∨∃x∈E,s=x.fr∨s=x.to:=((bM fJ _).mem s).trans nS
theorem jD{E:List Ed}{x:Ed}:x∈gE E↔x∈E:=(bM sR E).mem x
theorem xY(N:List Txt)(E:List Ed):(gN N E).Nodup:=(bM fJ _).up.nodup fJ
theorem rF(E:List Ed):(gE E).Nodup:=(bM sR _).up.nodup sR
theorem kZ{N:List Txt}{E:List Ed}(h:ofI N E=0):bT N E=true:=by
 unfold ofI at h;split at h
 ·cases h
 ·rename_i h1;simpa using h1
theorem rG{N:List Txt}{E:List Ed}(h:ofI N E=0):cG (gN N E) (gE E)=0:=by
 unfold ofI at h;split at h
 ·cases h
 ·exact h
theorem RB{N:List Txt}{E:List Ed}(h:bT N E=true):∀x∈E,1≤x.lb.size:=fun x hx=>(fW (nM ((fD.1 h).2 x hx).2.1)).1
theorem CX{N N':List Txt}{E E':List Ed}(sN:∀s∈N',s∈N∨∃x∈E,s=x.fr∨s=x.to)(sE:∀x∈E',x∈E)(h:ofI N E=0):ofI N' E'=0:=by
 have hn:=kZ h;have hn':bT N' E'=true:=by
  rw[fD] at hn ⊢;refine⟨fun s hs=>?_,fun x hx=>hn.2 x (sE x hx)⟩;rcases sN s hs with h1|⟨x,hx,rfl|rfl⟩
  ·exact hn.1 s h1
  ·exact(hn.2 x hx).1
  ·exact(hn.2 x hx).2.2
 unfold ofI;rw[hn'];simp only[Bool.true_eq_false,if_false]
 refine JE (xY _ _) (rF _) (rF _) (fun s hs=>?_) (fun x hx=>jD.2 (sE x (jD.1 hx))) (fun x hx=>RB hn x (jD.1 hx)) (rG h);rw[mJ] at hs ⊢;rcases hs with h1|⟨x,hx,h1⟩
 ·exact sN s h1
 ·exact .inr ⟨x,sE x hx,h1⟩
theorem wA{N N':List Txt}{E E':List Ed}(h:∀s,(s∈N∨∃x∈E,s=x.fr∨s=x.to)↔(s∈N'∨∃x∈E',s=x.fr∨s=x.to)):gN N E=gN N' E':=
 (bM fJ _).uniq fJ (bM fJ _) (fun s=>nS.trans ((h s).trans nS.symm))
theorem wB{E E':List Ed}(h:∀x,x∈E↔x∈E'):gE E=gE E':=(bM sR _).uniq sR (bM sR _) h
theorem rH{N N':List Txt}{E E':List Ed}(h:∀s,(s∈N∨∃x∈E,s=x.fr∨s=x.to)↔(s∈N'∨∃x∈E',s=x.fr∨s=x.to))(k:∀x,x∈E↔x∈E')
  (hm:∀s∈N,s∈N'∨∃x∈E',s=x.fr∨s=x.to) (hm':∀s∈N',s∈N∨∃x∈E,s=x.fr∨s=x.to):ofI N E=ofI N' E':=by
 have h1:bT N E=bT N' E':=by
  rw[Bool.eq_iff_iff,fD,fD];constructor
  ·rintro⟨a,b⟩;refine⟨fun s hs=>?_,fun x hx=>b x ((k x).2 hx)⟩;rcases hm' s hs with h1|⟨x,hx,rfl|rfl⟩
   ·exact a s h1
   ·exact(b x hx).1
   ·exact(b x hx).2.2
  ·rintro⟨a,b⟩;refine⟨fun s hs=>?_,fun x hx=>b x ((k x).1 hx)⟩;rcases hm s hs with h1|⟨x,hx,rfl|rfl⟩
   ·exact a s h1
   ·exact(b x hx).1
   ·exact(b x hx).2.2
 unfold ofI;rw[h1,wA h,wB k]

structure Gr where
 N:List Txt
 X:List Ed
structure GOk(G:Gr):Prop where
 nd:G.N.Nodup
 xd:G.X.Nodup
 ends:∀x∈G.X,x.fr∈G.N∧x.to∈G.N
 may:ofI G.N G.X=0
def dN(N:List Txt)(s:Txt):List Txt:=if inB s N=true then N else N++[s]
theorem eY{N:List Txt}{s t:Txt}:t∈dN N s↔t∈N∨t=s:=by
 unfold dN;split
 ·rename_i h
  constructor
  ·exact .inl
  ·rintro (h1|rfl)
   ·exact h1
   ·exact bC.1 h
 ·simp
theorem gM{N:List Txt}(h:N.Nodup)(s:Txt):(dN N s).Nodup:=by
 unfold dN;split
 ·exact h
 ·rename_i hs
  rw[List.nodup_append];refine⟨h,by simp,fun a ha b hb=>?_⟩;rw[List.mem_singleton] at hb;subst hb;rintro rfl;exact hs (bC.2 ha)
def cD(G:Gr)(s:Txt):Gr × Bool × Int:=
 if inB s G.N=true then (G,false,0) else if ofI (G.N++[s]) G.X=0 then (⟨G.N++[s],G.X⟩,true,0) else (G,false,ofI (G.N++[s]) G.X)
def aU(G:Gr)(x:Ed):Gr × Bool × Int:=
 if x∈G.X then (G,false,0) else if ofI G.N (G.X++[x])=0 then (⟨dN (dN G.N x.fr) x.to,G.X++[x]⟩,true,0) else (G,false,ofI G.N (G.X++[x]))
theorem GOk.node{G:Gr}(h:GOk G)(s:Txt):GOk (cD G s).1:=by
 unfold cD;split
 ·exact h
 split
 ·rename_i h1 h2
  refine⟨?_,h.xd,fun x hx=>⟨List.mem_append.2 (.inl (h.ends x hx).1),List.mem_append.2 (.inl (h.ends x hx).2)⟩,h2⟩;have:=gM h.nd s;unfold dN at this;rwa [if_neg h1] at this
 ·exact h
theorem GOk.edge{G:Gr}(h:GOk G)(x:Ed):GOk (aU G x).1:=by
 unfold aU;split
 ·exact h
 split
 ·rename_i h1 h2
  refine⟨gM (gM h.nd _) _,?_,?_,?_⟩
  ·rw[List.nodup_append];refine⟨h.xd,by simp,fun a ha b hb=>?_⟩;rw[List.mem_singleton] at hb;subst hb;rintro rfl;exact h1 ha
  ·intro y hy;simp only[eY]
   rcases List.mem_append.1 hy with hy|hy
   ·exact⟨.inl (.inl (h.ends y hy).1),.inl (.inl (h.ends y hy).2)⟩
   ·rw[List.mem_singleton] at hy;subst hy;exact⟨.inl (.inr rfl),.inr rfl⟩
  ·refine CX (N:=G.N) (E:=G.X++[x]) (fun s hs=>?_) (fun _ hy=>hy) h2;simp only[eY] at hs
   rcases hs with (hs|rfl)|rfl
   ·exact .inl hs
   ·exact .inr ⟨x,by simp,.inl rfl⟩
   ·exact .inr ⟨x,by simp,.inr rfl⟩
 ·exact h
def eT(G:Gr):List Txt:=gN G.N G.X
def eI(G:Gr):List Ed:=gE G.X
theorem mY{G:Gr}(h:GOk G){s:Txt}:s∈eT G↔s∈G.N:=by
 unfold eT;rw[mJ];constructor
 ·rintro (h1|⟨x,hx,rfl|rfl⟩)
  ·exact h1
  ·exact(h.ends x hx).1
  ·exact(h.ends x hx).2
 ·exact .inl
theorem NY{G:Gr}(N:List Txt)(E:List Ed):ofI (eT G++N) (eI G++E)=ofI (G.N++N) (G.X++E):=by
 have e:∀x,x∈eI G++E↔x∈G.X++E:=fun x=>by rw[List.mem_append,List.mem_append,eI,jD]
 have m1:∀s∈eT G++N,s∈G.N++N∨∃x∈G.X++E,s=x.fr∨s=x.to:=fun s hs=>by
  rcases List.mem_append.1 hs with hs|hs
  ·rcases mJ.1 hs with h1|⟨x,hx,h1⟩
   ·exact .inl (List.mem_append.2 (.inl h1))
   ·exact .inr ⟨x,List.mem_append.2 (.inl hx),h1⟩
  ·exact .inl (List.mem_append.2 (.inr hs))
 have m2:∀s∈G.N++N,s∈eT G++N∨∃x∈eI G++E,s=x.fr∨s=x.to:=fun s hs=>by
  rcases List.mem_append.1 hs with hs|hs
  ·exact .inl (List.mem_append.2 (.inl (mJ.2 (.inl hs))))
  ·exact .inl (List.mem_append.2 (.inr hs))
 refine rH (fun s=>?_) e m1 m2;constructor
 ·rintro (h|⟨x,hx,h⟩)
  ·exact m1 s h
  ·exact .inr ⟨x,(e x).1 hx,h⟩
 ·rintro (h|⟨x,hx,h⟩)
  ·exact m2 s h
  ·exact .inr ⟨x,(e x).2 hx,h⟩
open Go
section
variable {P:Program} {ops:Array Oper} {Q:Exit→Act→World→Prop} {md:Region.Mode} {S:World→Prop} {n:Nat}
theorem kJ{rid:Nat}{a:Act}{w:World}{l:List Oper}(S:World→Prop)(hm:P.follows .mixedOrders=true)(_hsel:Region.noSelect l.toArray=true)
  (_hS:S w.drew) (h:bB P .any l.toArray Q S l.toArray.size l.length (Array.replicate l.toArray.size false) a w.drew):(Code.region rid l.toArray true).wp P Q a w:=by
 refine wp_region_any hm (jR (S:=S) (n:=l.toArray.size) _ _ _ _ ?_);simpa using h
theorem tT{f m:Nat}{a:Act}{w:World}(h:dD md ops (Array.replicate m false)→bB P md ops Q S n f (Array.replicate m false) a w):bB P md ops Q S n f (Array.replicate m false) a w:=h (jQ m)
theorem xZ{i f:Nat}{listed:Array Bool}{a:Act}{w:World}{oi:Oper}{v:Value}(hi:ops[i]?=some oi)(hB:(Region.noSelect ops&&Region.free md ops listed i&&(Region.ready md ops listed).contains i)=true)
  (hd:dD md ops listed) (hn:ops.size≤n) (hQ:∀c a d v w,Q (.panic c) (Act.put a d v) w→Q (.panic c) a w) (hS:S w)
  (hw:Region.wanted oi (yielded ops a.tmps)=true) (hy:∀w,S w→(execOp a.eval oi).run P w=.ok (.value v) w)
  (h:dD md ops (listed.setIfInBounds i true)→bB P md ops Q S n f (listed.setIfInBounds i true) (a.put oi.dst v) w):bB P md ops Q S n (f+1) listed a w:=by
 simp only[Bool.and_eq_true] at hB
 obtain⟨⟨h1,h2⟩,h3⟩:=hB;have hr:i∈Region.ready md ops listed:=by simpa using h3
 exact mH (f:=ops.size) hi (Region.noSelect_spec h1) (fun c a w=>hQ c a _ _ w) (.inl hn) f listed a w (Region.free_spec hi h2) hd hr (.inl ⟨hw,hy⟩) hS (h (hd.set hr))
theorem nZ{f:Nat}{listed:Array Bool}{a:Act}{w:World}{L:List Nat}(hd:dD md ops listed)(hL:Region.ready md ops listed=L)(hne:L≠[])
  (h:∀i∈L,(dD md ops (listed.setIfInBounds i true))→wpOp P ops Q i (fun a' w'=>(i≠n→S w')∧bB P md ops Q S n f (listed.setIfInBounds i true) a' w') a w):bB P md ops Q S n (f+1) listed a w:=
 IB hL hne (fun i hi=>h i hi (hd.set (by rw[hL];exact hi)))
end
theorem aD{P:Program}{ops:Array Oper}{Q:Exit→Act→World→Prop}{S:World→Prop}{a:Act}{w:World}{oi:Oper}{v:Value}{md:Region.Mode}{n f:Nat}{listed l':Array Bool}{a':Act}(i:Nat)(hi:ops[i]?=some oi)(hd:dD md ops listed)(hS:S w)(h:dD md ops l'→bB P md ops Q S n f l' a' w)(hn:ops.size≤n:=by exact Nat.le_refl _)(hB:(Region.noSelect ops&&Region.free md ops listed i&&(Region.ready md ops listed).contains i)=true:=by kernel_rfl)(hQ:∀c a d v w,Q (.panic c) (Act.put a d v) w→Q (.panic c) a w:=by intro _ _ d _ _ h;cases d <;> exact h)(hw:Region.wanted oi (yielded ops a.tmps)=true:=by first | with_reducible rfl | kernel_rfl)(hy:∀w,S w→(execOp a.eval oi).run P w=.ok (.value v) w:=by intro wS hS;(try dsimp only at hS);go_split_ands;go_simp;(try with_reducible rfl);done)(e:a.put oi.dst v=a':=by(try simp only[Act.put,gA,gS,gZ,sA,sZ,sS]);first | done | exact rfl)(e2:listed.setIfInBounds i true=l':=by(try simp only[Act.put,gA,gS,gZ,sA,sZ,sS]);first | done | exact rfl):bB P md ops Q S n (f+1) listed a w:=by subst e e2;exact xZ hi hB hd hn hQ hS hw hy h
theorem aJ{P:Program}{ops:Array Oper}{Q:Exit→Act→World→Prop}{S:World→Prop}{md:Region.Mode}{n:Nat}{f:Nat}{listed:Array Bool}{a:Act}{w:World}(hd:dD md ops listed)(i0:Nat)(h0:dD md ops (listed.setIfInBounds i0 true)→wpOp P ops Q i0 (fun a' w'=>(i0≠n→S w')∧bB P md ops Q S n f (listed.setIfInBounds i0 true) a' w') a w)(hL:Region.ready md ops listed=[i0]:=by kernel_rfl):bB P md ops Q S n (f+1) listed a w:=by
  refine nZ hd hL (by simp) (fun i hi hd2=>?_);obtain rfl:=List.mem_singleton.1 hi;exact h0 hd2
theorem bV{P:Program}{ops:Array Oper}{Q:Exit→Act→World→Prop}{S:World→Prop}{md:Region.Mode}{n:Nat}{f:Nat}{listed:Array Bool}{a:Act}{w:World}(hd:dD md ops listed)(i0 i1:Nat)(h0:dD md ops (listed.setIfInBounds i0 true)→wpOp P ops Q i0 (fun a' w'=>(i0≠n→S w')∧bB P md ops Q S n f (listed.setIfInBounds i0 true) a' w') a w)(h1:dD md ops (listed.setIfInBounds i1 true)→wpOp P ops Q i1 (fun a' w'=>(i1≠n→S w')∧bB P md ops Q S n f (listed.setIfInBounds i1 true) a' w') a w)(hL:Region.ready md ops listed=[i0,i1]:=by kernel_rfl):bB P md ops Q S n (f+1) listed a w:=by
  refine nZ hd hL (by simp) (fun i hi hd2=>?_);simp only[List.mem_cons,List.not_mem_nil,or_false] at hi
  rcases hi with rfl|rfl
  exact h0 hd2;exact h1 hd2
theorem rI{P:Program}{ops:Array Oper}{Q:Exit→Act→World→Prop}{S:World→Prop}{md:Region.Mode}{n:Nat}{f:Nat}{listed:Array Bool}{a:Act}{w:World}(hd:dD md ops listed)(i0 i1 i2:Nat)(h0:dD md ops (listed.setIfInBounds i0 true)→wpOp P ops Q i0 (fun a' w'=>(i0≠n→S w')∧bB P md ops Q S n f (listed.setIfInBounds i0 true) a' w') a w)(h1:dD md ops (listed.setIfInBounds i1 true)→wpOp P ops Q i1 (fun a' w'=>(i1≠n→S w')∧bB P md ops Q S n f (listed.setIfInBounds i1 true) a' w') a w)(h2:dD md ops (listed.setIfInBounds i2 true)→wpOp P ops Q i2 (fun a' w'=>(i2≠n→S w')∧bB P md ops Q S n f (listed.setIfInBounds i2 true) a' w') a w)(hL:Region.ready md ops listed=[i0,i1,i2]:=by kernel_rfl):bB P md ops Q S n (f+1) listed a w:=by
  refine nZ hd hL (by simp) (fun i hi hd2=>?_);simp only[List.mem_cons,List.not_mem_nil,or_false] at hi
  rcases hi with rfl|rfl|rfl
  exact h0 hd2;exact h1 hd2;exact h2 hd2
theorem SW{P:Program}{ops:Array Oper}{Q:Exit→Act→World→Prop}{S:World→Prop}{md:Region.Mode}{n:Nat}{f:Nat}{listed:Array Bool}{a:Act}{w:World}(hd:dD md ops listed)(i0 i1 i2 i3:Nat)(h0:dD md ops (listed.setIfInBounds i0 true)→wpOp P ops Q i0 (fun a' w'=>(i0≠n→S w')∧bB P md ops Q S n f (listed.setIfInBounds i0 true) a' w') a w)(h1:dD md ops (listed.setIfInBounds i1 true)→wpOp P ops Q i1 (fun a' w'=>(i1≠n→S w')∧bB P md ops Q S n f (listed.setIfInBounds i1 true) a' w') a w)(h2:dD md ops (listed.setIfInBounds i2 true)→wpOp P ops Q i2 (fun a' w'=>(i2≠n→S w')∧bB P md ops Q S n f (listed.setIfInBounds i2 true) a' w') a w)(h3:dD md ops (listed.setIfInBounds i3 true)→wpOp P ops Q i3 (fun a' w'=>(i3≠n→S w')∧bB P md ops Q S n f (listed.setIfInBounds i3 true) a' w') a w)(hL:Region.ready md ops listed=[i0,i1,i2,i3]:=by kernel_rfl):bB P md ops Q S n (f+1) listed a w:=by
  refine nZ hd hL (by simp) (fun i hi hd2=>?_);simp only[List.mem_cons,List.not_mem_nil,or_false] at hi
  rcases hi with rfl|rfl|rfl|rfl
  exact h0 hd2;exact h1 hd2;exact h2 hd2;exact h3 hd2
theorem SY{P:Program}{ops:Array Oper}{Q:Exit→Act→World→Prop}{S:World→Prop}{md:Region.Mode}{n:Nat}{f:Nat}{listed:Array Bool}{a:Act}{w:World}(hd:dD md ops listed)(i0 i1 i2 i3 i4:Nat)(h0:dD md ops (listed.setIfInBounds i0 true)→wpOp P ops Q i0 (fun a' w'=>(i0≠n→S w')∧bB P md ops Q S n f (listed.setIfInBounds i0 true) a' w') a w)(h1:dD md ops (listed.setIfInBounds i1 true)→wpOp P ops Q i1 (fun a' w'=>(i1≠n→S w')∧bB P md ops Q S n f (listed.setIfInBounds i1 true) a' w') a w)(h2:dD md ops (listed.setIfInBounds i2 true)→wpOp P ops Q i2 (fun a' w'=>(i2≠n→S w')∧bB P md ops Q S n f (listed.setIfInBounds i2 true) a' w') a w)(h3:dD md ops (listed.setIfInBounds i3 true)→wpOp P ops Q i3 (fun a' w'=>(i3≠n→S w')∧bB P md ops Q S n f (listed.setIfInBounds i3 true) a' w') a w)(h4:dD md ops (listed.setIfInBounds i4 true)→wpOp P ops Q i4 (fun a' w'=>(i4≠n→S w')∧bB P md ops Q S n f (listed.setIfInBounds i4 true) a' w') a w)(hL:Region.ready md ops listed=[i0,i1,i2,i3,i4]:=by kernel_rfl):bB P md ops Q S n (f+1) listed a w:=by
  refine nZ hd hL (by simp) (fun i hi hd2=>?_);simp only[List.mem_cons,List.not_mem_nil,or_false] at hi
  rcases hi with rfl|rfl|rfl|rfl|rfl
  exact h0 hd2;exact h1 hd2;exact h2 hd2;exact h3 hd2;exact h4 hd2
end Go.Proofs.YteffnejneoocgaaGreatDoor
