/- Edges: the graph of nodes and edges in any order; The library's contracts laid at this program: which function, which type bears which number; Edges: slices.Concat of two lists; Rows: a row put behind a row of the call's own; Graphs: slices.Insert of a hop into a row of the call's own; Blocks of bits: two blocks, word by word; Blocks of bits: Get; quad: the ways of a corner; Graphs: a hop put in its place. -/
import Derived.Test.YtddffnonlmfhdaaGreatDoorW03
import Derived.Shelf.Spec.SlicesGrow
import Derived.Test.YtddffnonlmfhdaaGreatDoorProg
import Derived.Shelf.Spec.SlicesInsertGrow
import Derived.Test.YtddffnonlmfhdaaGreatDoorW02
import Derived.Laws.BitsAllLaws
import Derived.Test.YtddffnonlmfhdaaGreatDoorW01
set_option linter.unusedVariables false
set_option linter.unusedSimpArgs false
set_option maxHeartbeats 16000000
set_option maxRecDepth 100000
namespace Go.Proofs.YtddffnonlmfhdaaGreatDoor
open Go.RowKit
def endsL (x:Ed):List Txt:=[x.fr,x.to]
def allT (N:List Txt) (E:List Ed):List Txt:=N ++ E.flatMap endsL
def gN (N:List Txt) (E:List Ed):List Txt:=setOf ltT (allT N E)
def gE (E:List Ed):List Ed:=setOf ltE E
theorem allT_len (N:List Txt) (E:List Ed):(allT N E).length = N.length + E.length * 2:=by
 rw [allT,List.length_append,flat_len endsL 2 (fun _ => rfl)]
theorem mem_all {N:List Txt} {E:List Ed} {s:Txt}:s ∈ allT N E ↔ s ∈ N ∨ ∃ x ∈ E,s = x.fr ∨ s = x.to:=by
 rw [allT,List.mem_append,List.mem_flatMap]
 simp [endsL]
theorem short_made {N:List Txt} {E:List Ed} (h:Short N E):Short (gN N E) (gE E):=by
 refine ⟨fun s hs => ?_,fun x hx => h.e x (((setOf_is stoE E).mem x).1 hx)⟩
 rcases mem_all.1 (((setOf_is stoT (allT N E)).mem s).1 hs) with h1 | ⟨x,hx,rfl | rfl⟩
 ·exact h.n s h1
 ·exact (h.e x hx).1
 ·exact (h.e x hx).2.2
theorem fit_made {N:List Txt} {E:List Ed} (h:Short N E) {M:List Txt} {F:List Ed} (hM:M = gN N E) (hF:F = gE E) (h1:M.length * 16 ≤ 140737488355328) (h2:F.length * 48 ≤ 140737488355328):FitG M F:=by
 subst hM;subst hF
 have k:=short_made h
 refine ⟨h1,h2,fun s hs => ?_,fun x hx => ?_⟩
 ·have:=k.n s hs;unfold TxtOk;omega
 ·have:=k.e x hx;unfold EdOk TxtOk;omega
def MadeP (w:World) (N:List Txt) (E:List Ed) (e:Ending) (w':World):Prop:=
 (capsI (gN N E) (gE E) = 0∧∃ A c B d,e = .returned (.tuple #[twoV A (gN N E).length c B (gE E).length d,.int .i64 0])∧w'.ownsRow w.heap.size 9 1 (.slice A (gN N E).length c) (gN N E).length (txtCells (gN N E))∧w'.ownsRow w.heap.size 32 3 (.slice B (gE E).length d) (gE E).length (edCells (gE E))∧Below w.heap.size w w') ∨
 (capsI (gN N E) (gE E) ≠ 0∧e = .returned (.tuple #[twoV none 0 0 none 0 0,.int .i64 (capsI (gN N E) (gE E))])∧Below w.heap.size w w')
theorem push_two (w:World) (base:Nat) (v:Value) (L:List Txt) (own:w.ownsRow base 9 1 v L.length (txtCells L)) (s t:Txt) (hl:(L.length + 2) * 16 ≤ 140737488355328) (hb:base ≤ w.heap.size) :
  ∃ v' w',(Builtin.append_ #[26,26] 26 #[v,.slice (some ⟨w.heap.size,0,none⟩) 2 2]).run Tryz.prog (w.alloc (.cells #[.string s,.string t] 9)) = .ok v' w'∧w'.ownsRow base 9 1 v' (L ++ [s,t]).length (txtCells (L ++ [s,t]))∧Below base w w':=by
 obtain ⟨v',w',happ,own',up,-⟩:=push_own w base 26 9 1 16 _ Tryz.underlying26 info_string rfl (by decide) v L.length _ own [.string s,.string t] 2 rfl (by simp;exact ⟨rfl,rfl⟩) hl (by unfold maxLen;omega) hb
 refine ⟨v',w',happ,?_,up.below (fun k _ e => (own.lt k e).1) hb⟩
 rw [List.length_append,txtCells,List.map_append]
 exact own'
theorem allT_step {N:List Txt} {E:List Ed} {k:Nat} {x:Ed} (h:E[k]? = some x):allT N (E.take (k + 1)) = allT N (E.take k) ++ [x.fr,x.to]:=by
 rw [allT,allT,take_snoc' h,List.flatMap_append,List.append_assoc]
 rfl

theorem made_any (w:World) (A:Option Addr) (c:Nat) (B:Option Addr) (d:Nat) (N:List Txt) (E:List Ed) (h:ForG w A c B d N E) (hs:Short N E) (hb:(N.length + E.length * 2) * 16 ≤ 140737488355328) :
  Calls Tryz.prog 148 #[.slice A N.length c,.slice B E.length d] w (MadeP w N E):=by
 have k0:=Blk.new w 34 #[.slice none 0 0,.slice none 0 0]
 have u0:Below w.heap.size w (w.alloc (.cells #[.slice none 0 0,.slice none 0 0] 34)):=(Below.refl _ _).alloc (Nat.le_refl _) _
 have he:E.length * 48 ≤ 140737488355328:=h.fit.e
 have hn:N.length * 16 ≤ 140737488355328:=h.fit.n
 have HB:=Lib.hid (show ∀ (j:Nat) (x:Ed),E[j]? = some x→∃ b o,B = some ⟨b,o,none⟩∧b < w.heap.size from fun j x hx => by obtain ⟨b,o,e,y0,-⟩:=h.re.ed hx;exact ⟨b,o,e,World.block_lt_of_cell? _ _ y0⟩)
 have H:=Lib.hid (And.intro (h.below u0) (And.intro k0 (And.intro u0 hs)))
 clear h k0 u0 hs
 go_enter Tryz.func148,Tryz.ntmps148
 go_upto_region 1 with (fail)
 generalize w.alloc (.cells #[.slice none 0 0,.slice none 0 0] 34) = W0 at H ⊢
 have hz0:w.heap.size + 1 ≤ W0.heap.size:=H.out.2.1.lt
 go_wp2_with fail
 refine (clone_txt W0 A c N H.out.1.rn hn).mono ?_
 rintro e w1 ⟨v,rfl,own1,b1⟩
 obtain ⟨A1,c1,rfl,-,-⟩:=own_form own1
 have H1:=Lib.hid (And.intro own1 b1)
 clear own1 b1
 go_wp2_with fail
 go_loopw [6,8,15] (fun v _ i wr => ∃ k:Nat,k ≤ E.length∧i = .int .i64 k∧Hid (Below W0.heap.size W0 wr)∧Hid (wr.ownsRow W0.heap.size 9 1 v (allT N (E.take k)).length (txtCells (allT N (E.take k))))) (fun _ _ i _ => E.length - (intOf i).toNat)
 case atStart => exact ⟨0,Nat.zero_le _,rfl,Lib.hid H1.out.2,Lib.hid (by simpa [allT] using H1.out.1)⟩
 case round =>
  obtain ⟨k,hk,rfl,hbw,how⟩:=hrel
  obtain ⟨A5,c5,rfl,-,-⟩:=own_form how.out
  have hal:=allT_len N (E.take k)
  have htl:(E.take k).length ≤ k:=by rw [List.length_take];omega
  obtain ⟨n5,hn5⟩:∃ n5,(allT N (E.take k)).length = n5:=⟨_,rfl⟩
  by_cases hlt:k < E.length
  ·have hltI:(k:Int) < (E.length:Int):=by omega
   have hkw:IntKind.i64.wrap ((k:Int) + 1) = (k:Int) + 1:=IntWalk.i64_in _ (by omega)
   obtain ⟨⟨s0,s1,s2⟩,hx⟩:∃ x,E[k]? = some x:=⟨E[k],List.getElem?_eq_getElem _⟩
   obtain ⟨ab,ao,rfl,hab⟩:=HB.out k _ hx
   obtain ⟨ab',ao',e,y0,y1,y2⟩:=H.out.1.re.ed hx
   injection e with e;injection e with e e2;subst e;subst e2
   dsimp only at y0 y1 y2
   have cc:=fun i => hbw.out.cell (p:=⟨ab,i,none⟩) (by show ab < _;omega)
   have x0:=(cc _).trans y0
   have x1:=(cc _).trans y1
   have x2:=(cc _).trans y2
   have kx:=Blk.new wr 32 #[.string s0,.string s1,.string s2]
   have bx:Below wr.heap.size wr (wr.alloc (.cells #[.string s0,.string s1,.string s2] 32)):=(Below.refl _ _).alloc (Nat.le_refl _) _
   have ox:=how.out.alloc (.cells #[.string s0,.string s1,.string s2] 32)
   have HX:=Lib.hid (And.intro hx (And.intro kx (And.intro (hbw.out.trans (bx.mono hbw.out.size)) ox)))
   clear hx kx bx ox y0 y1 y2 cc
   go_upto_region 5 with (fail)
   generalize wr.alloc (.cells #[.string s0,.string s1,.string s2] 32) = W5 at HX ⊢
   clear x0 x1 x2
   have x0:W5.cell? ⟨wr.heap.size,0,none⟩ = some (.string s0):=HX.out.2.1.cell 0
   have x2:W5.cell? ⟨wr.heap.size,2,none⟩ = some (.string s2):=HX.out.2.1.cell 2
   obtain ⟨v6,w6,happ,own6,b6⟩:=push_two W5 W0.heap.size _ _ HX.out.2.2.2 s0 s2 (by omega) HX.out.2.2.1.size
   rw [hn5] at happ ⊢
   have H6:=Lib.hid (And.intro own6 (HX.out.2.2.1.trans b6))
   clear own6 b6 hn5 hal
   go_wp2_with (at_builtin;refine wpList_append_run rfl _ _ _ rfl rfl rfl happ ?_)
   go_roundw
   case rel => exact ⟨k + 1,by omega,by go_num,Lib.hid H6.out.2,Lib.hid (by rw [allT_step HX.out.1];exact H6.out.1)⟩
   case measure => simp [intOf];omega
  ·obtain rfl:k = E.length:=by omega
   obtain ⟨W4,hW4⟩:∃ W,W = wr:=⟨_,rfl⟩
   subst hW4
   have ow:=how.out
   rw [List.take_length] at ow hn5
   have rw4:=RowR.of_own ow
   have hl5:(allT N E).length * 16 ≤ 140737488355328:=by rw [allT_len];exact hb
   have hsT:=sorted_txt W4 A5 c5 (allT N E) rw4 hl5
   rw [hn5] at hsT
   rw [List.take_length,hn5]
   have HT:=Lib.hid hsT
   have H4:=Lib.hid hbw.out
   clear ow hn5 rw4 hsT how hbw hal htl hk hlt hl5
   go_wp2_with fail
   refine HT.out.mono ?_
   rintro e w5 ⟨M,hM,hMl,v5,rfl,own5,b5⟩
   have eM:M = gN N E:=hM.is stoT
   have H5:=Lib.hid (And.intro own5 (And.intro (H4.out.trans (b5.mono H4.out.size)) eM))
   have hM16:M.length * 16 ≤ 140737488355328:=by rw [allT_len] at hMl;omega
   clear hM hMl own5 b5 eM
   go_wp2_with fail
   refine (sorted_ed w5 B d E (H.out.1.below H5.out.2.1).re he).mono ?_
   rintro e w6 ⟨F,hF,hFl,v6,rfl,own6,b6⟩
   have eF:F = gE E:=hF.is stoE
   have hF48:F.length * 48 ≤ 140737488355328:=by omega
   obtain ⟨A6,c6,rfl,hc6,-⟩:=own_form H5.out.1
   obtain ⟨A7,c7,rfl,hc7,-⟩:=own_form own6
   have o5:=ownsRow_upd H5.out.1 (Upd.of_below b6 (fun _ => False)) (fun _ _ => id)
   have H6:=Lib.hid (And.intro o5 (And.intro own6 (And.intro (H5.out.2.1.trans (b6.mono H5.out.2.1.size)) (And.intro eF (And.intro hc6 hc7)))))
   clear hF hFl own6 b6 eF o5 hc6 hc7
   go_upto_region 8 with (fail)
   have k7:=Blk.new w6 34 #[.slice A6 M.length c6,.slice A7 F.length c7]
   have b7:Below w6.heap.size w6 (w6.alloc (.cells #[.slice A6 M.length c6,.slice A7 F.length c7] 34)):=(Below.refl _ _).alloc (Nat.le_refl _) _
   have o7:=H6.out.1.alloc (.cells #[.slice A6 M.length c6,.slice A7 F.length c7] 34)
   have o8:=H6.out.2.1.alloc (.cells #[.slice A6 M.length c6,.slice A7 F.length c7] 34)
   have H7:=Lib.hid (And.intro k7 (And.intro o7 (And.intro o8 (H6.out.2.2.1.trans (b7.mono H6.out.2.2.1.size)))))
   clear k7 b7 o7 o8
   generalize w6.alloc (.cells #[.slice A6 M.length c6,.slice A7 F.length c7] 34) = W7 at H7 ⊢
   have q0:W7.cell? ⟨w6.heap.size,0,none⟩ = some (.slice A6 M.length c6):=H7.out.1.cell 0
   have q1:W7.cell? ⟨w6.heap.size,1,none⟩ = some (.slice A7 F.length c7):=H7.out.1.cell 1
   have hG:ForG W7 A6 c6 A7 c7 M F:=⟨RowR.of_own H7.out.2.1,RowR.of_own H7.out.2.2.1,H6.out.2.2.2.2.1,H6.out.2.2.2.2.2,fit_made H.out.2.2.2 H5.out.2.2 H6.out.2.2.2.1 hM16 hF48⟩
   have hsh:Short M F:=by rw [H5.out.2.2,H6.out.2.2.2.1];exact short_made H.out.2.2.2
   have HG:=Lib.hid (And.intro hG hsh)
   clear hG hsh
   go_wp2_with fail
   refine (caps_any W7 A6 c6 A7 c7 M F HG.out.1 HG.out.2).mono ?_
   rintro e w8 ⟨rfl,b8⟩
   have bb:=H7.out.2.2.2.trans (b8.mono H7.out.2.2.2.size)
   have k8:=H.out.2.1.upd (Upd.of_below bb (fun _ => False)) id
   have c0:w8.cell? ⟨w.heap.size,0,none⟩ = some (.slice none 0 0):=k8.cell 0
   have c1':w8.cell? ⟨w.heap.size,1,none⟩ = some (.slice none 0 0):=k8.cell 1
   have f0:=k8.frozen 0
   have f1:=k8.frozen 1
   have k9:=H7.out.1.upd (Upd.of_below b8 (fun _ => False)) id
   have bw:Below w.heap.size w w8:=H.out.2.2.1.trans (bb.mono (by omega))
   have oT:=ownsRow_upd H7.out.2.1 (Upd.of_below b8 (fun _ => False)) (fun _ _ => id)
   have oE:=ownsRow_upd H7.out.2.2.1 (Upd.of_below b8 (fun _ => False)) (fun _ _ => id)
   have z7:=H4.out.size
   have z5:=H5.out.2.1.size
   have fin:∀ v0 v1:Value,(w8.setCell ⟨w.heap.size,0,none⟩ v0).setCell ⟨w.heap.size,1,none⟩ v1 = (w8.setCell ⟨w.heap.size,0,none⟩ v0).setCell ⟨w.heap.size,1,none⟩ v1∧Blk ((w8.setCell ⟨w.heap.size,0,none⟩ v0).setCell ⟨w.heap.size,1,none⟩ v1) w.heap.size 34 #[v0,v1]∧Upd (fun q => q = w.heap.size) w8 ((w8.setCell ⟨w.heap.size,0,none⟩ v0).setCell ⟨w.heap.size,1,none⟩ v1):=fun v0 v1 =>
    ⟨rfl,(k8.set 0 v0).set 1 v1,((Upd.refl (fun q => q = w.heap.size) w8).setCell (p:=⟨w.heap.size,0,none⟩) (.inl rfl) v0).setCell (p:=⟨w.heap.size,1,none⟩) (.inl rfl) v1⟩
   obtain ⟨cp,hcp⟩:∃ cp,capsI M F = cp:=⟨_,rfl⟩
   have hcg:capsI (gN N E) (gE E) = cp:=by rw [← H5.out.2.2,← H6.out.2.2.2.1];exact hcp
   rw [hcp]
   by_cases h0:cp = 0
   ·subst h0
    obtain ⟨-,kF,uF⟩:=fin (.slice A6 M.length c6) (.slice A7 F.length c7)
    have e0:=kF.cell 0
    have e1:=kF.cell 1
    simp only [List.getElem?_toArray,List.getElem?_cons_succ,List.getElem?_cons_zero] at e0 e1
    have q0:w8.cell? ⟨w6.heap.size,0,none⟩ = some (.slice A6 M.length c6):=k9.cell 0
    have q1:w8.cell? ⟨w6.heap.size,1,none⟩ = some (.slice A7 F.length c7):=k9.cell 1
    have post:MadeP w N E (.returned (.tuple #[twoV A6 M.length c6 A7 F.length c7,.int .i64 0])) ((w8.setCell ⟨w.heap.size,0,none⟩ (.slice A6 M.length c6)).setCell ⟨w.heap.size,1,none⟩ (.slice A7 F.length c7)):=by
     refine .inl ⟨hcg,A6,c6,A7,c7,by rw [← H5.out.2.2,← H6.out.2.2.2.1],?_,?_,bw.trans (uF.below (fun q _ e => by omega) bw.size)⟩
     ·rw [← H5.out.2.2]
      exact ownsRow_base (ownsRow_upd oT uF (fun q hq e => by have:=(oT.lt q hq).1;omega)) (fun q hq => by have:=(oT.lt q hq).1;omega)
     ·rw [← H6.out.2.2.2.1]
      exact ownsRow_base (ownsRow_upd oE uF (fun q hq e => by have:=(oE.lt q hq).1;omega)) (fun q hq => by have:=(oE.lt q hq).1;omega)
    have FIN:=Lib.hid post
    clear post kF uF fin hcp hcg oT oE k8 k9 bb bw b8
    go_wp2
    refine bodyPost_ret (v:=.tuple #[twoV A6 M.length c6 A7 F.length c7,.int .i64 0]) (by simp [results,Tryz.f148,go_sem,twoV,e0,e1]) rfl FIN.out
   ·obtain ⟨-,kF,uF⟩:=fin (.slice none 0 0) (.slice none 0 0)
    have e0:=kF.cell 0
    have e1:=kF.cell 1
    simp only [List.getElem?_toArray,List.getElem?_cons_succ,List.getElem?_cons_zero] at e0 e1
    have post:MadeP w N E (.returned (.tuple #[twoV none 0 0 none 0 0,.int .i64 cp])) ((w8.setCell ⟨w.heap.size,0,none⟩ (.slice none 0 0)).setCell ⟨w.heap.size,1,none⟩ (.slice none 0 0)):=
     .inr ⟨by rw [hcg];exact h0,by rw [hcg],bw.trans (uF.below (fun q _ e => by omega) bw.size)⟩
    have FIN:=Lib.hid post
    have hne:(cp == 0) = false:=by simpa using h0
    have hne2:(cp != 0) = true:=by simpa using h0
    clear post kF uF fin hcp hcg oT oE k8 k9 bb bw b8 h0
    go_wp2
    refine bodyPost_ret (v:=.tuple #[twoV none 0 0 none 0 0,.int .i64 cp]) (by simp [results,Tryz.f148,go_sem,twoV,e0,e1]) rfl FIN.out
end Go.Proofs.YtddffnonlmfhdaaGreatDoor
namespace Go.Proofs.YtddffnonlmfhdaaGreatDoor
open Go.Shelf
def ren_growT:Go.Shelf.Ren:=⟨fun | 4 => 161 | n => n,fun | 0 => 0 | 3 => 3 | 4 => 4 | 9 => 9 | 20 => 20 | 22 => 26 | 25 => 9 | n => n,fun n => n⟩
theorem growT:Lays8.n4 Tryz.prog ren_growT:={
 mixed:=(by kernel_rfl)
 f4:=⟨Tryz.f161.name,by decide,Tryz.func161.trans (congrArg some (by kernel_rfl))⟩
 t0:=Tryz.underlying0
 a0:=Tryz.isAgg0
 z0:=Tryz.sizeOf0
 v0:=Tryz.zeroValue0
 t3:=Tryz.underlying3
 a3:=Tryz.isAgg3
 z3:=Tryz.sizeOf3
 v3:=Tryz.zeroValue3
 t4:=Tryz.underlying4
 a4:=Tryz.isAgg4
 z4:=Tryz.sizeOf4
 v4:=Tryz.zeroValue4
 t9:=Tryz.underlying9
 a9:=Tryz.isAgg9
 z9:=Tryz.sizeOf9
 v9:=Tryz.zeroValue9
 t20:=Tryz.underlying20
 a20:=Tryz.isAgg20
 z20:=Tryz.sizeOf20
 v20:=Tryz.zeroValue20
 t22:=Tryz.underlying26
 a22:=Tryz.isAgg26
 z22:=Tryz.sizeOf26
 v22:=Tryz.zeroValue26 }
def ren_growE:Go.Shelf.Ren:=⟨fun | 4 => 162 | n => n,fun | 0 => 0 | 3 => 3 | 4 => 4 | 9 => 9 | 20 => 20 | 22 => 27 | 25 => 32 | n => n,fun n => n⟩
theorem growE:Lays8.n4 Tryz.prog ren_growE:={
 mixed:=(by kernel_rfl)
 f4:=⟨Tryz.f162.name,by decide,Tryz.func162.trans (congrArg some (by kernel_rfl))⟩
 t0:=Tryz.underlying0
 a0:=Tryz.isAgg0
 z0:=Tryz.sizeOf0
 v0:=Tryz.zeroValue0
 t3:=Tryz.underlying3
 a3:=Tryz.isAgg3
 z3:=Tryz.sizeOf3
 v3:=Tryz.zeroValue3
 t4:=Tryz.underlying4
 a4:=Tryz.isAgg4
 z4:=Tryz.sizeOf4
 v4:=Tryz.zeroValue4
 t9:=Tryz.underlying9
 a9:=Tryz.isAgg9
 z9:=Tryz.sizeOf9
 v9:=Tryz.zeroValue9
 t20:=Tryz.underlying20
 a20:=Tryz.isAgg20
 z20:=Tryz.sizeOf20
 v20:=Tryz.zeroValue20
 t22:=Tryz.underlying27
 a22:=Tryz.isAgg27
 z22:=Tryz.sizeOf27
 v22:=Tryz.zeroValue27 }
end Go.Proofs.YtddffnonlmfhdaaGreatDoor
namespace Go.Proofs.YtddffnonlmfhdaaGreatDoor
open Go.RowKit Go.Sort Go.Shelf
theorem append_none (w:World) (t e:TypeId) (ht:Tryz.prog.underlying t = some (.slice e)) (i:TypeInfo) (hi:Tryz.prog.info? e = some i) (b:Option Addr) (n c d:Nat) (hn:n ≤ c) (h63:n ≤ 9223372036854775807) :
  (Builtin.append_ #[t,t] t #[.slice b n c,.slice none 0 d]).run Tryz.prog w = .ok (.slice b n c) w:=by
 have h1:¬ (9223372036854775807 < (n:Int)):=by omega
 cases b <;> simp [Builtin.append_,run_underlying ht,sizeOf,typeInfo,hi,hn,Builtin.lenOf,run_firstCells_none,storeCells]
theorem append_row (w:World) (base t e size bytes:Nat) (z:Value) (ht:Tryz.prog.underlying t = some (.slice e)) (hi:(Tryz.prog.info? e).map (fun i => (i.zero,i.size,i.bytes)) = some (some z,size,bytes)) (hzs:z.cells.size = size) (h0:0 < size) (h8:8 ≤ bytes)
  (B:Option Addr) (n c:Nat) (xs:List Value) (own:w.ownsRow base e size (.slice B n c) n xs) (A:Option Addr) (m d:Nat) (ys:List Value) (hr:RowR w A ys) (hl:ys.length = m * size) (h1:∀ u ∈ ys,u.oneCell' = true) (hn:(n + m) * bytes ≤ 140737488355328) (hb:base ≤ w.heap.size) :
  ∃ B' c' w',(Builtin.append_ #[t,t] t #[.slice B n c,.slice A m d]).run Tryz.prog w = .ok (.slice B' (n + m) c') w'∧w'.ownsRow base e size (.slice B' (n + m) c') (n + m) (xs ++ ys)∧Below base w w':=by
 obtain ⟨i0,hi0,hz0,hz1,hz2⟩:=info_parts hi
 have hnm:n + m ≤ maxLen:=by
  have:(n + m) * 8 ≤ (n + m) * bytes:=Nat.mul_le_mul_left _ h8
  unfold maxLen;omega
 have hre:=hr.reads hl h0
 rcases A with _ | ad
 ·obtain ⟨rfl,rfl⟩:=hre.nil
  obtain ⟨A',c',hv,hc,-⟩:=own_form own
  injection hv with _ _ hcc
  refine ⟨B,c,w,append_none w t e ht i0 hi0 B n c d (by omega) (by unfold maxLen at hnm;omega),by simpa using own,(Below.refl _ _).mono hb⟩
 ·obtain ⟨v',w',happ,own',gr,-,pl⟩:=run_append_own_at (P:=Tryz.prog) w base t t e i0 z size bytes ht hi0 hz0 hz1 hz2 hzs h0 (.slice B n c) n xs own ad m d ys hl (hre.2.2 ad rfl) h1 hnm (by simpa using hn) hb
  obtain ⟨B',c',rfl,-,-⟩:=own_form own'
  exact ⟨B',c',w',happ,own',(Below.refl base w).grown gr hb (fun k hk => (own.lt k hk).1)⟩

theorem concat_txt (w:World) (g:Nat) (A:Option Addr) (c:Nat) (B:Option Addr) (d:Nat) (N M:List Txt) (k:Blk w g 26 #[.slice A N.length c,.slice B M.length d]) (hN:RowR w A (txtCells N)) (hM:RowR w B (txtCells M)) (hl:(N.length + M.length) * 16 ≤ 140737488355328) :
  Calls Tryz.prog 124 #[.slice (some ⟨g,0,none⟩) 2 2] w (NewT w (N ++ M)):=by
 have H:=Lib.hid (And.intro k (And.intro hN hM))
 clear k hN hM
 obtain ⟨n,hn⟩:∃ n,N.length = n:=⟨_,rfl⟩
 obtain ⟨m,hm⟩:∃ m,M.length = m:=⟨_,rfl⟩
 have HL:=Lib.hid (And.intro hn hm)
 have c0:w.cell? ⟨g,0,none⟩ = some (.slice A n c):=by rw [← hn];exact H.out.1.cell 0
 have c1:w.cell? ⟨g,1,none⟩ = some (.slice B m d):=by rw [← hm];exact H.out.1.cell 1
 rw [hn,hm] at hl
 clear hn hm
 go_enter Tryz.func124,Tryz.ntmps124
 go_wp2_with fail
 go_loop [3,11] (fun s i => ∃ j:Nat,j ≤ 2∧i = .int .i64 j∧s = .int .i64 (((if j = 0 then 0 else if j = 1 then n else n + m:Nat)):Int)) (fun _ i => 2 - (intOf i).toNat)
 case atStart => exact ⟨0,by omega,rfl,rfl⟩
 case round =>
  obtain ⟨j,hj,rfl,rfl⟩:=hrel
  have hj3:j = 0 ∨ j = 1 ∨ j = 2:=by omega
  have w1:IntKind.i64.wrap (0 + (n:Int)) = (n:Int):=by rw [Int.zero_add];exact IntWalk.i64_in _ (by omega)
  have w2:IntKind.i64.wrap ((n:Int) + (m:Int)) = (n:Int) + (m:Int):=IntWalk.i64_in _ (by omega)
  have p1:¬ ((n:Int) < 0):=by omega
  have p2:¬ ((n:Int) + (m:Int) < 0):=by omega
  rcases hj3 with rfl | rfl | rfl
  ·go_wp2
   go_round
   case rel => exact ⟨1,by omega,rfl,by simp⟩
   case measure => simp [intOf]
  ·go_wp2
   go_round
   case rel => exact ⟨2,by omega,rfl,by simp⟩
   case measure => simp [intOf]
  ·have hgrow:Calls Tryz.prog 161 #[.slice none 0 0,.int .i64 ((n:Int) + (m:Int))] w fun e w' => ∃ B0 c0,e = .returned (.slice B0 0 c0)∧w'.ownsRow w.heap.size 9 1 (.slice B0 0 c0) 0 []∧Below w.heap.size w w':=by
    rw [← Int.natCast_add]
    by_cases h0:n + m = 0
    ·have h:=Any8.slices_Grow_room growT none 0 0 (n + m) w (Nat.le_refl _) (by omega) (by omega) (by omega)
     exact h.mono (by rintro e w' ⟨rfl,rfl⟩;exact ⟨none,0,rfl,World.ownsRow_nil _ _ _ _,Below.refl _ _⟩)
    ·obtain ⟨i0,hi0,hz0,hz1,hz2⟩:=info_parts info_string
     have h:=Any8.slices_Grow_grow growT i0 _ hi0 hz0 (by rw [hz1];decide) none 0 0 (n + m) [] w (Nat.le_refl _) (by omega) (by rw [hz2];omega) (by omega) (by simp) (fun _ => rfl) (fun a h => by cases h)
     refine h.mono ?_
     rintro e w' ⟨rfl,rfl⟩
     refine ⟨_,_,rfl,⟨rfl,.inr ⟨w.heap.size,_,_,rfl,Nat.le_refl _,heap_alloc_new _ _,Nat.zero_le _,grownCap_le_maxLen w _ _ _ (by unfold maxLen;omega),?_,by simp⟩⟩,((Below.refl w.heap.size w).drew).alloc (Nat.le_refl _) _⟩
     have hge:=grownCap_ge w (0 + (n + m)) 0 (ren_growT.t 25)
     have hzc:(.string ByteArray.empty:Value).cells.size = 1:=rfl
     simp only [Array.size_append,size_zeroCells,List.size_toArray,List.length_nil,hzc]
     omega
   go_wp2_with fail
   refine hgrow.mono ?_
   rintro e W1 ⟨B0,c0',rfl,own0,b1⟩
   clear hgrow
   have k1:=H.out.1.upd (Upd.of_below b1 (fun _ => False)) id
   have H1:=Lib.hid (And.intro own0 b1)
   clear own0 k1 b1 c0 c1
   go_wp2_with fail
   go_loopw [6,27] (fun v i wr => ∃ (j:Nat) (B':Option Addr) (c' q:Nat) (L:List Txt),i = .int .i64 j∧v = .slice B' q c'∧Hid (wr.ownsRow w.heap.size 9 1 (.slice B' q c') q (txtCells L)∧Below w.heap.size w wr)∧((j = 0∧q = 0∧L = []) ∨ (j = 1∧q = n∧L = N) ∨ (j = 2∧q = n + m∧L = N ++ M))) (fun _ i _ => 2 - (intOf i).toNat)
   case atStart => exact ⟨0,B0,c0',0,[],rfl,rfl,H1,.inl ⟨rfl,rfl,rfl⟩⟩
   case round =>
    obtain ⟨j,B',c',q,L,rfl,rfl,HR,hc⟩:=hrel
    have kr:=H.out.1.upd (Upd.of_below HR.out.2 (fun _ => False)) id
    have c0:wr.cell? ⟨g,0,none⟩ = some (.slice A n c):=by rw [← HL.out.1];exact kr.cell 0
    have c1:wr.cell? ⟨g,1,none⟩ = some (.slice B m d):=by rw [← HL.out.2];exact kr.cell 1
    clear kr
    rcases hc with ⟨rfl,rfl,rfl⟩ | ⟨rfl,rfl,rfl⟩ | ⟨rfl,rfl,rfl⟩
    ·obtain ⟨B2,c2,W2,happ,own2,b2⟩:=append_row wr w.heap.size 26 9 1 16 _ Tryz.underlying26 info_string rfl (by decide) (by decide) B' 0 c' _ HR.out.1 A n c _ (H.out.2.1.below HR.out.2) (by rw [txtCells_len,HL.out.1]) (one_txt N) (by omega) HR.out.2.size
     have HN:=Lib.hid (show W2.ownsRow w.heap.size 9 1 (.slice B2 n c2) n (txtCells N)∧Below w.heap.size w W2 from ⟨by simpa [txtCells] using own2,HR.out.2.trans b2⟩)
     rw [Nat.zero_add] at happ
     clear own2 b2
     go_wp2_with (at_builtin;refine wpList_append_run rfl _ _ _ rfl rfl rfl happ ?_)
     go_roundw
     case rel => exact ⟨1,B2,c2,n,N,by go_num,rfl,HN,.inr (.inl ⟨rfl,rfl,rfl⟩)⟩
     case measure => simp [intOf]
    ·obtain ⟨B2,c2,W2,happ,own2,b2⟩:=append_row wr w.heap.size 26 9 1 16 _ Tryz.underlying26 info_string rfl (by decide) (by decide) B' q c' _ HR.out.1 B m d _ (H.out.2.2.below HR.out.2) (by rw [txtCells_len,HL.out.2]) (one_txt M) (by omega) HR.out.2.size
     have HN:=Lib.hid (show W2.ownsRow w.heap.size 9 1 (.slice B2 (q + m) c2) (q + m) (txtCells (L ++ M))∧Below w.heap.size w W2 from ⟨by simpa [txtCells] using own2,HR.out.2.trans b2⟩)
     clear own2 b2
     go_wp2_with (at_builtin;refine wpList_append_run rfl _ _ _ rfl rfl rfl happ ?_)
     go_roundw
     case rel => exact ⟨2,B2,c2,q + m,L ++ M,by go_num,rfl,HN,.inr (.inr ⟨rfl,rfl,rfl⟩)⟩
     case measure => simp [intOf]
    ·have FIN:=Lib.hid (show NewT w (N ++ M) (.returned (.slice B' (n + m) c')) wr from ⟨_,rfl,by rw [List.length_append,HL.out.1,HL.out.2];exact HR.out.1,HR.out.2⟩)
     go_wp2
     go_ret
     exact FIN.out

theorem concat_ed (w:World) (g:Nat) (A:Option Addr) (c:Nat) (B:Option Addr) (d:Nat) (N M:List Ed) (k:Blk w g 27 #[.slice A N.length c,.slice B M.length d]) (hN:RowR w A (edCells N)) (hM:RowR w B (edCells M)) (hl:(N.length + M.length) * 48 ≤ 140737488355328) :
  Calls Tryz.prog 125 #[.slice (some ⟨g,0,none⟩) 2 2] w (NewE w (N ++ M)):=by
 have H:=Lib.hid (And.intro k (And.intro hN hM))
 clear k hN hM
 obtain ⟨n,hn⟩:∃ n,N.length = n:=⟨_,rfl⟩
 obtain ⟨m,hm⟩:∃ m,M.length = m:=⟨_,rfl⟩
 have HL:=Lib.hid (And.intro hn hm)
 have c0:w.cell? ⟨g,0,none⟩ = some (.slice A n c):=by rw [← hn];exact H.out.1.cell 0
 have c1:w.cell? ⟨g,1,none⟩ = some (.slice B m d):=by rw [← hm];exact H.out.1.cell 1
 rw [hn,hm] at hl
 clear hn hm
 go_enter Tryz.func125,Tryz.ntmps125
 go_wp2_with fail
 go_loop [3,11] (fun s i => ∃ j:Nat,j ≤ 2∧i = .int .i64 j∧s = .int .i64 (((if j = 0 then 0 else if j = 1 then n else n + m:Nat)):Int)) (fun _ i => 2 - (intOf i).toNat)
 case atStart => exact ⟨0,by omega,rfl,rfl⟩
 case round =>
  obtain ⟨j,hj,rfl,rfl⟩:=hrel
  have hj3:j = 0 ∨ j = 1 ∨ j = 2:=by omega
  have w1:IntKind.i64.wrap (0 + (n:Int)) = (n:Int):=by rw [Int.zero_add];exact IntWalk.i64_in _ (by omega)
  have w2:IntKind.i64.wrap ((n:Int) + (m:Int)) = (n:Int) + (m:Int):=IntWalk.i64_in _ (by omega)
  have p1:¬ ((n:Int) < 0):=by omega
  have p2:¬ ((n:Int) + (m:Int) < 0):=by omega
  rcases hj3 with rfl | rfl | rfl
  ·go_wp2
   go_round
   case rel => exact ⟨1,by omega,rfl,by simp⟩
   case measure => simp [intOf]
  ·go_wp2
   go_round
   case rel => exact ⟨2,by omega,rfl,by simp⟩
   case measure => simp [intOf]
  ·have hgrow:Calls Tryz.prog 162 #[.slice none 0 0,.int .i64 ((n:Int) + (m:Int))] w fun e w' => ∃ B0 c0,e = .returned (.slice B0 0 c0)∧w'.ownsRow w.heap.size 32 3 (.slice B0 0 c0) 0 []∧Below w.heap.size w w':=by
    rw [← Int.natCast_add]
    by_cases h0:n + m = 0
    ·have h:=Any8.slices_Grow_room growE none 0 0 (n + m) w (Nat.le_refl _) (by omega) (by omega) (by omega)
     exact h.mono (by rintro e w' ⟨rfl,rfl⟩;exact ⟨none,0,rfl,World.ownsRow_nil _ _ _ _,Below.refl _ _⟩)
    ·obtain ⟨i0,hi0,hz0,hz1,hz2⟩:=info_parts info_edge
     have h:=Any8.slices_Grow_grow growE i0 _ hi0 hz0 (by rw [hz1];decide) none 0 0 (n + m) [] w (Nat.le_refl _) (by omega) (by rw [hz2];omega) (by omega) (by simp) (fun _ => rfl) (fun a h => by cases h)
     refine h.mono ?_
     rintro e w' ⟨rfl,rfl⟩
     refine ⟨_,_,rfl,⟨rfl,.inr ⟨w.heap.size,_,_,rfl,Nat.le_refl _,heap_alloc_new _ _,Nat.zero_le _,grownCap_le_maxLen w _ _ _ (by unfold maxLen;omega),?_,by simp⟩⟩,((Below.refl w.heap.size w).drew).alloc (Nat.le_refl _) _⟩
     have hge:=grownCap_ge w (0 + (n + m)) 0 (ren_growE.t 25)
     have hzc:(.agg #[.string ByteArray.empty,.string ByteArray.empty,.string ByteArray.empty]:Value).cells.size = 3:=rfl
     simp only [Array.size_append,size_zeroCells,List.size_toArray,List.length_nil,hzc]
     omega
   go_wp2_with fail
   refine hgrow.mono ?_
   rintro e W1 ⟨B0,c0',rfl,own0,b1⟩
   clear hgrow
   have k1:=H.out.1.upd (Upd.of_below b1 (fun _ => False)) id
   have H1:=Lib.hid (And.intro own0 b1)
   clear own0 k1 b1 c0 c1
   go_wp2_with fail
   go_loopw [6,27] (fun v i wr => ∃ (j:Nat) (B':Option Addr) (c' q:Nat) (L:List Ed),i = .int .i64 j∧v = .slice B' q c'∧Hid (wr.ownsRow w.heap.size 32 3 (.slice B' q c') q (edCells L)∧Below w.heap.size w wr)∧((j = 0∧q = 0∧L = []) ∨ (j = 1∧q = n∧L = N) ∨ (j = 2∧q = n + m∧L = N ++ M))) (fun _ i _ => 2 - (intOf i).toNat)
   case atStart => exact ⟨0,B0,c0',0,[],rfl,rfl,H1,.inl ⟨rfl,rfl,rfl⟩⟩
   case round =>
    obtain ⟨j,B',c',q,L,rfl,rfl,HR,hc⟩:=hrel
    have kr:=H.out.1.upd (Upd.of_below HR.out.2 (fun _ => False)) id
    have c0:wr.cell? ⟨g,0,none⟩ = some (.slice A n c):=by rw [← HL.out.1];exact kr.cell 0
    have c1:wr.cell? ⟨g,1,none⟩ = some (.slice B m d):=by rw [← HL.out.2];exact kr.cell 1
    clear kr
    rcases hc with ⟨rfl,rfl,rfl⟩ | ⟨rfl,rfl,rfl⟩ | ⟨rfl,rfl,rfl⟩
    ·obtain ⟨B2,c2,W2,happ,own2,b2⟩:=append_row wr w.heap.size 27 32 3 48 _ Tryz.underlying27 info_edge rfl (by decide) (by decide) B' 0 c' _ HR.out.1 A n c _ (H.out.2.1.below HR.out.2) (by rw [edCells_len,HL.out.1]) (one_ed N) (by omega) HR.out.2.size
     have HN:=Lib.hid (show W2.ownsRow w.heap.size 32 3 (.slice B2 n c2) n (edCells N)∧Below w.heap.size w W2 from ⟨by simpa [edCells] using own2,HR.out.2.trans b2⟩)
     rw [Nat.zero_add] at happ
     clear own2 b2
     go_wp2_with (at_builtin;refine wpList_append_run rfl _ _ _ rfl rfl rfl happ ?_)
     go_roundw
     case rel => exact ⟨1,B2,c2,n,N,by go_num,rfl,HN,.inr (.inl ⟨rfl,rfl,rfl⟩)⟩
     case measure => simp [intOf]
    ·obtain ⟨B2,c2,W2,happ,own2,b2⟩:=append_row wr w.heap.size 27 32 3 48 _ Tryz.underlying27 info_edge rfl (by decide) (by decide) B' q c' _ HR.out.1 B m d _ (H.out.2.2.below HR.out.2) (by rw [edCells_len,HL.out.2]) (one_ed M) (by omega) HR.out.2.size
     have HN:=Lib.hid (show W2.ownsRow w.heap.size 32 3 (.slice B2 (q + m) c2) (q + m) (edCells (L ++ M))∧Below w.heap.size w W2 from ⟨by simpa [edCells] using own2,HR.out.2.trans b2⟩)
     clear own2 b2
     go_wp2_with (at_builtin;refine wpList_append_run rfl _ _ _ rfl rfl rfl happ ?_)
     go_roundw
     case rel => exact ⟨2,B2,c2,q + m,L ++ M,by go_num,rfl,HN,.inr (.inr ⟨rfl,rfl,rfl⟩)⟩
     case measure => simp [intOf]
    ·have FIN:=Lib.hid (show NewE w (N ++ M) (.returned (.slice B' (n + m) c')) wr from ⟨_,rfl,by rw [List.length_append,HL.out.1,HL.out.2];exact HR.out.1,HR.out.2⟩)
     go_wp2
     go_ret
     exact FIN.out
end Go.Proofs.YtddffnonlmfhdaaGreatDoor
namespace Go.Proofs.YtddffnonlmfhdaaGreatDoor
open Go.RowKit
theorem append_row2 (w:World) (base t e size bytes:Nat) (z:Value) (ht:Tryz.prog.underlying t = some (.slice e)) (hi:(Tryz.prog.info? e).map (fun i => (i.zero,i.size,i.bytes)) = some (some z,size,bytes)) (hzs:z.cells.size = size) (h0:0 < size) (h8:8 ≤ bytes)
  (B:Option Addr) (n c:Nat) (xs:List Value) (own:w.ownsRow base e size (.slice B n c) n xs) (A:Option Addr) (m d:Nat) (ys:List Value) (hr:RowR w A ys) (hl:ys.length = m * size) (h1:∀ u ∈ ys,u.oneCell' = true) (hn:(n + m) * bytes ≤ 140737488355328) (hb:base ≤ w.heap.size) :
  ∃ B' c' w',(Builtin.append_ #[t,t] t #[.slice B n c,.slice A m d]).run Tryz.prog w = .ok (.slice B' (n + m) c') w'∧w'.ownsRow base e size (.slice B' (n + m) c') (n + m) (xs ++ ys)∧Upd (fun k => (Value.slice B n c).ownBlock = some k) w w'∧∀ k,(Value.slice B' (n + m) c').ownBlock = some k→(Value.slice B n c).ownBlock = some k ∨ w.heap.size ≤ k:=by
 obtain ⟨i0,hi0,hz0,hz1,hz2⟩:=info_parts hi
 have hnm:n + m ≤ maxLen:=by
  have:(n + m) * 8 ≤ (n + m) * bytes:=Nat.mul_le_mul_left _ h8
  unfold maxLen;omega
 have hre:=hr.reads hl h0
 rcases A with _ | ad
 ·obtain ⟨rfl,rfl⟩:=hre.nil
  obtain ⟨A',c',hv,hc,-⟩:=own_form own
  injection hv with _ _ hcc
  exact ⟨B,c,w,append_none w t e ht i0 hi0 B n c d (by omega) (by unfold maxLen at hnm;omega),by simpa using own,Upd.refl _ _,fun k hk => .inl hk⟩
 ·obtain ⟨v',w',happ,own',gr,-,pl⟩:=run_append_own_at (P:=Tryz.prog) w base t t e i0 z size bytes ht hi0 hz0 hz1 hz2 hzs h0 (.slice B n c) n xs own ad m d ys hl (hre.2.2 ad rfl) h1 hnm (by simpa using hn) hb
  obtain ⟨B',c',rfl,-,-⟩:=own_form own'
  refine ⟨B',c',w',happ,own',(Upd.refl _ w).grown gr (fun k hk => .inl hk),fun k hk => ?_⟩
  rcases pl with h | h
  ·exact .inl (by rw [← h];exact hk)
  ·rw [h] at hk
   injection hk with hk
   exact .inr (by omega)
theorem push_ed (w:World) (base:Nat) (v:Value) (L:List Ed) (own:w.ownsRow base 32 3 v L.length (edCells L)) (x:Ed) (hl:(L.length + 1) * 48 ≤ 140737488355328) (hb:base ≤ w.heap.size) :
  ∃ v' w',(Builtin.append_ #[27,27] 27 #[v,.slice (some ⟨w.heap.size,0,none⟩) 1 1]).run Tryz.prog (w.alloc (.cells #[.string x.fr,.string x.lb,.string x.to] 32)) = .ok v' w'∧w'.ownsRow base 32 3 v' (L ++ [x]).length (edCells (L ++ [x]))∧Upd (fun k => v.ownBlock = some k) w w'∧∀ k,v'.ownBlock = some k→v.ownBlock = some k ∨ w.heap.size ≤ k:=by
 obtain ⟨v',w',happ,own',up,pl⟩:=push_own w base 27 32 3 48 _ Tryz.underlying27 info_edge rfl (by decide) v L.length _ own [.string x.fr,.string x.lb,.string x.to] 1 rfl (by simp;exact ⟨rfl,rfl,rfl⟩) hl (by unfold maxLen;omega) hb
 refine ⟨v',w',happ,?_,up,pl⟩
 rw [List.length_append,edCells,List.flatMap_append]
 exact own'
end Go.Proofs.YtddffnonlmfhdaaGreatDoor
namespace Go.Proofs.YtddffnonlmfhdaaGreatDoor
open Go.RowKit
theorem setCells_heap (b:Nat):∀ (vs:List Value) (o:Nat) (w:World) (cur:Array Value) (t:TypeId),w.heap[b]? = some (.cells cur t (0,0))→o + vs.length ≤ cur.size →
  ∃ cur',(w.setCells b o vs).heap[b]? = some (.cells cur' t (0,0))∧cur'.size = cur.size∧cur'.toList = cur.toList.take o ++ vs ++ cur.toList.drop (o + vs.length)
 | [],o,w,cur,t,h,_ => ⟨cur,h,rfl,by simp⟩
 | v :: r,o,w,cur,t,h,hl => by
  have hb:=Blk.set (show Blk w b t cur from h) o v
  simp only [List.length_cons] at hl
  obtain ⟨c',e1,e2,e3⟩:=setCells_heap b r (o + 1) _ _ t hb (by simp;omega)
  refine ⟨c',e1,by rw [e2];simp,?_⟩
  rw [e3,Array.toList_setIfInBounds,List.drop_set_of_lt (by omega),List.take_set]
  have h1:(cur.toList.take (o + 1)).set o v = cur.toList.take o ++ [v]:=by
   rw [List.take_add_one,List.getElem?_eq_getElem (by simp;omega)]
   rw [List.set_append_right _ _ (by simp;omega)]
   have:o - (cur.toList.take o).length = 0:=by simp;omega
   rw [this]
   rfl
  rw [h1]
  simp [Nat.add_assoc,Nat.add_comm 1]
theorem Upd.setCells {F:Nat→Prop} {a:World} {b:Nat} (hp:F b ∨ a.heap.size ≤ b):∀ (vs:List Value) (o:Nat) {w:World},Upd F a w→Upd F a (w.setCells b o vs)
 | [],_,_,h => h
 | v :: r,o,_w,h => Upd.setCells hp r (o + 1) (h.setCell (p:=⟨b,o,none⟩) hp v)
theorem run_copy_rows {P:Program} (w:World) (dT sT ty elem:TypeId) (size b o dLen dCap:Nat) (a:Addr) (sLen sCap:Nat) (cs:List Value)
  (hu:P.underlying dT = some (.slice elem)) (hs:(P.info? elem).map (·.size) = some size) (hn:cs.length = Nat.min sLen dLen * size)
  (hsrc:∀ j v,cs[j]? = some v→w.cell? (a.add j) = some v) (hc:∀ j,j < cs.length→(w.cell? ⟨b,o + j,none⟩).isSome = true) (hf:∀ j,j < cs.length→w.frozen? ⟨b,o + j,none⟩ = false) (h1:∀ v ∈ cs,v.oneCell' = true) :
  (Builtin.copy_ #[dT,sT] ty #[.slice (some ⟨b,o,none⟩) dLen dCap,.slice (some a) sLen sCap]).run P w = .ok (goInt (Nat.min sLen dLen)) (w.setCells b o cs):=by
 have hl:=run_loadCells_list (P:=P) w a cs hsrc
 have hst:=run_storeCells_cells (P:=P) b o cs 0 w (by simpa using hc) (by simpa using hf) h1
 cases hq:P.info? elem with
 | none => simp [hq] at hs
 | some i =>
  have hi:i.size = size:=by simpa [hq] using hs
  simp [Builtin.copy_,run_underlying hu,Builtin.lenOf,Builtin.firstCells,sizeOf,typeInfo,hq,hi,← hn,hl,hst]
theorem cells_some {w:World} {b:Nat} {cur:Array Value} {t:TypeId} (h:w.heap[b]? = some (.cells cur t (0,0))) {k:Nat} (hk:k < cur.size):(w.cell? ⟨b,k,none⟩).isSome = true:=by
 rw [cell_of_row w b k cur t (0,0) h,Array.getElem?_eq_getElem hk]
 rfl
theorem cells_free {w:World} {b:Nat} {cur:Array Value} {t:TypeId} (h:w.heap[b]? = some (.cells cur t (0,0))) (k:Nat):w.frozen? ⟨b,k,none⟩ = false:=by simp [World.frozen?,h]
theorem ins_list {α:Type} (C X v:List α) (k:Nat) (hX:C.take X.length = X) (hk:k ≤ X.length) (hC:X.length + v.length ≤ C.length) :
  ((C.take (k + v.length) ++ X.drop k ++ C.drop (k + v.length + (X.drop k).length)).take k ++ v ++ (C.take (k + v.length) ++ X.drop k ++ C.drop (k + v.length + (X.drop k).length)).drop (k + v.length)).take (X.length + v.length) = X.take k ++ v ++ X.drop k:=by
 have h1:(C.take (k + v.length) ++ X.drop k ++ C.drop (k + v.length + (X.drop k).length)).take k = X.take k:=by
  rw [List.append_assoc,List.take_append_of_le_length (by rw [List.length_take];omega),List.take_take,Nat.min_eq_left (by omega)]
  conv => rhs;rw [← hX]
  rw [List.take_take,Nat.min_eq_left hk]
 have h2:(C.take (k + v.length) ++ X.drop k ++ C.drop (k + v.length + (X.drop k).length)).drop (k + v.length) = X.drop k ++ C.drop (k + v.length + (X.drop k).length):=by
  rw [List.append_assoc]
  exact List.drop_left' (by rw [List.length_take];omega)
 rw [h1,h2,← List.append_assoc]
 exact List.take_left' (by simp;omega)
theorem ins_grow {α:Type} (C v Y:List α) (k:Nat) (hC:k + v.length + Y.length ≤ C.length) :
  ((C.take k ++ v ++ C.drop (k + v.length)).take (k + v.length) ++ Y ++ (C.take k ++ v ++ C.drop (k + v.length)).drop (k + v.length + Y.length)).take (k + v.length + Y.length) = C.take k ++ v ++ Y:=by
 have h1:(C.take k ++ v ++ C.drop (k + v.length)).take (k + v.length) = C.take k ++ v:=List.take_left' (by simp;omega)
 rw [h1]
 exact List.take_left' (by simp;omega)
def insAt (L:List Hp) (i:Nat) (h:Hp):List Hp:=L.take i ++ h :: L.drop i
theorem hpCells_app (N M:List Hp):hpCells (N ++ M) = hpCells N ++ hpCells M:=by simp [hpCells]
theorem insAt_len (L:List Hp) {i:Nat} (h:Hp) (hi:i ≤ L.length):(insAt L i h).length = L.length + 1:=by simp [insAt];omega
theorem hp_take (L:List Hp) (i:Nat) (hi:i ≤ L.length):hpCells (L.take i) = (hpCells L).take (i * 2):=by
 conv => rhs;rw [← List.take_append_drop i L,hpCells_app]
 exact (List.take_left' (by rw [hpCells_len,List.length_take];omega)).symm
theorem hp_drop (L:List Hp) (i:Nat) (hi:i ≤ L.length):hpCells (L.drop i) = (hpCells L).drop (i * 2):=by
 conv => rhs;rw [← List.take_append_drop i L,hpCells_app]
 exact (List.drop_left' (by rw [hpCells_len,List.length_take];omega)).symm
theorem insAt_cells (L:List Hp) (i:Nat) (h:Hp) (hi:i ≤ L.length):hpCells (insAt L i h) = (hpCells L).take (i * 2) ++ h.cells ++ (hpCells L).drop (i * 2):=by
 rw [insAt,hpCells_app,hp_take L i hi]
 show _ ++ (h.cells ++ hpCells (L.drop i)) = _
 rw [hp_drop L i hi,List.append_assoc]

def InsAt (w:World) (base:Nat) (v:Value) (L:List Hp) (e:Ending) (w':World):Prop:=
 ∃ A' c',e = .returned (.slice A' L.length c')∧w'.ownsRow base 103 2 (.slice A' L.length c') L.length (hpCells L)∧Upd (fun k => v.ownBlock = some k) w w'∧∀ k,(Value.slice A' L.length c').ownBlock = some k→v.ownBlock = some k ∨ w.heap.size ≤ k
theorem insert_end (w:World) (base:Nat) (A:Option Addr) (c:Nat) (L:List Hp) (own:w.ownsRow base 103 2 (.slice A L.length c) L.length (hpCells L)) (g:Nat) (h:Hp) (hg:Blk w g 103 h.cells.toArray) (hb:base ≤ w.heap.size) (hl:(L.length + 1) * 24 ≤ 140737488355328) :
  Calls Tryz.prog 135 #[.slice A L.length c,.int .i64 L.length,.slice (some ⟨g,0,none⟩) 1 1] w (InsAt w base (.slice A L.length c) (insAt L L.length h)):=by
 have hr:RowR w (some ⟨g,0,none⟩) h.cells:=fun j u hj => ⟨g,0,rfl,by rw [Nat.zero_add,hg.cell j];simpa using hj⟩
 obtain ⟨A',c',w',happ,own',up,pl⟩:=append_row2 w base 99 103 2 24 _ Tryz.underlying99 info_hop rfl (by decide) (by decide) A L.length c _ own (some ⟨g,0,none⟩) 1 1 h.cells hr rfl (by simp [Hp.cells];exact ⟨rfl,rfl⟩) hl hb
 have e:L ++ [h] = insAt L L.length h:=by simp [insAt]
 have e2:hpCells L ++ h.cells = hpCells (insAt L L.length h):=by rw [← e,hpCells_app];simp [hpCells]
 have e3:L.length + 1 = (insAt L L.length h).length:=by rw [← e];simp
 have e4:=own_form own
 rw [e2] at own'
 rw [e3] at own' pl
 have HH:=Lib.hid (show InsAt w base (.slice A L.length c) (insAt L L.length h) (.returned (.slice A' (L.length + 1) c')) w' from ⟨A',c',by rw [e3],own',up,pl⟩)
 clear own' up pl e3 e e2 own hr hg hb
 obtain ⟨n,hn⟩:∃ n,L.length = n:=⟨_,rfl⟩
 rw [hn] at hl e4 happ HH ⊢
 clear hn
 obtain ⟨A0,c0,e5,e6,e7⟩:=e4
 injection e5 with e5 _ e8
 subst e5
 subst e8
 have hc63:n ≤ 9223372036854775807:=by omega
 go_enter Tryz.func135,Tryz.ntmps135
 rcases e7 with rfl | ⟨g0,rfl⟩
 all_goals
  go_wp2_with (at_builtin;refine wpList_append_run rfl _ _ _ rfl rfl rfl happ ?_)
  all_goals
   go_ret
   exact HH.out
theorem insert_room (w:World) (base g0 c:Nat) (L:List Hp) (own:w.ownsRow base 103 2 (.slice (some ⟨g0,0,none⟩) L.length c) L.length (hpCells L)) (g:Nat) (h:Hp) (hg:Blk w g 103 h.cells.toArray) (hne:g ≠ g0) (i:Nat) (hi:i < L.length) (hc:L.length + 1 ≤ c) :
  Calls Tryz.prog 135 #[.slice (some ⟨g0,0,none⟩) L.length c,.int .i64 i,.slice (some ⟨g,0,none⟩) 1 1] w (InsAt w base (.slice (some ⟨g0,0,none⟩) L.length c) (insAt L i h)):=by
 obtain ⟨n,hn⟩:∃ n,L.length = n:=⟨_,rfl⟩
 have hcl:=hpCells_len L
 rw [hn] at own hi hc hcl ⊢
 rcases own.2 with ⟨e,-⟩ | ⟨g1,c1,cur,e,hbase,hh,hcn,hcm,hcs,hct⟩
 ·cases e
 injection e with e _ e2
 injection e with e
 injection e with e
 subst e
 subst e2
 have hlen:n * 2 + 2 ≤ cur.toList.length:=by rw [Array.length_toList,hcs];omega
 have hv:h.cells.length = 2:=rfl
 have hdl:((hpCells L).drop (i * 2)).length = (n - i) * 2:=by rw [List.length_drop,hcl];omega
 obtain ⟨Y,hY⟩:∃ Y,Y = (hpCells L).drop (i * 2):=⟨_,rfl⟩
 rw [← hY] at hdl
 have hYc:∀ j u,Y[j]? = some u→w.drew.cell? ((⟨g0,i * 2,none⟩:Addr).add j) = some u:=fun j u hu => by
  rw [hY,List.getElem?_drop,← hct,List.getElem?_take] at hu
  split at hu
  ·rw [Addr.add_lit]
   rw [cell_of_row w.drew g0 _ cur _ (0,0) hh]
   simpa using hu
  ·cases hu
 have hYo:∀ u ∈ Y,u.oneCell' = true:=fun u hu => one_hp L u (by rw [hY] at hu;exact List.mem_of_mem_drop hu)
 have hsz:(Tryz.prog.info? 103).map (·.size) = some 2:=by
  obtain ⟨i0,hi0,h0,h1,h2⟩:=info_parts info_hop
  rw [hi0];simp [h1]
 have hcp1:∀ ty dc sc,(Builtin.copy_ #[99,99] ty #[.slice (some ⟨g0,(i + 1) * 2,none⟩) (n + 1 - (i + 1)) dc,.slice (some ⟨g0,i * 2,none⟩) (n + 1 - i) sc]).run Tryz.prog w.drew = .ok (goInt ((n + 1 - (i + 1):Nat):Int)) (w.drew.setCells g0 ((i + 1) * 2) Y):=fun ty dc sc => by
  have e:Nat.min (n + 1 - i) (n + 1 - (i + 1)) = n + 1 - (i + 1):=by simp only [Nat.min_def];split <;> omega
  rw [run_copy_rows w.drew 99 99 ty 103 2 g0 ((i + 1) * 2) (n + 1 - (i + 1)) dc ⟨g0,i * 2,none⟩ (n + 1 - i) sc Y Tryz.underlying99 hsz (by rw [hdl,e];omega) hYc
   (fun j hj => cells_some (w:=w.drew) hh (by rw [hdl] at hj;rw [hcs];omega)) (fun j hj => cells_free (w:=w.drew) hh _) hYo,e]
 obtain ⟨cu1,k1,z1,l1⟩:=setCells_heap g0 Y ((i + 1) * 2) w.drew cur _ hh (by rw [hdl,hcs];omega)
 have u1:Upd (fun k => (Value.slice (some ⟨g0,0,none⟩) n c).ownBlock = some k) w (w.drew.setCells g0 ((i + 1) * 2) Y):=Upd.setCells (F:=fun k => (Value.slice (some ⟨g0,0,none⟩) n c).ownBlock = some k) (a:=w) (b:=g0) (.inl rfl) Y _ (Upd.refl _ w).drew
 have kg:Blk (w.drew.setCells g0 ((i + 1) * 2) Y) g 103 h.cells.toArray:=hg.upd u1 (fun e => by injection e with e;exact hne e.symm)
 have hov:∀ lb cb,(callFunc 171 #[.slice (some ⟨g,0,none⟩) 1 1,.slice (some ⟨g0,(i + 1) * 2,none⟩) lb cb]).run Tryz.prog w = .ok (.value (.bool false)) w:=fun lb cb => by
  rw [run_callFunc_extern Tryz.func171 (by kernel_rfl) (by kernel_rfl) (by kernel_rfl) (e:=Extern.SlicesOverlaps.overlaps #[99,99] #[4]) (by kernel_rfl)]
  obtain ⟨i0,hi0,h0,h1,h2⟩:=info_parts info_hop
  rw [Lib.run_overlaps_apart w 99 4 103 Tryz.underlying99 2 (fun w => by simp [sizeOf,typeInfo,hi0,h1]) ⟨g,0,none⟩ ⟨g0,(i + 1) * 2,none⟩ 1 1 lb cb hne 103 103 2 cur.size (by unfold Blk at hg;simp [World.shape?,hg,Hp.cells]) (by simp [World.shape?,hh]) (by rw [hcs];omega) (hg.frozen _) (hg.frozen _)]
  rfl
 have hcp2:∀ ty dc,(Builtin.copy_ #[99,99] ty #[.slice (some ⟨g0,i * 2,none⟩) (n + 1 - i) dc,.slice (some ⟨g,0,none⟩) 1 1]).run Tryz.prog (w.drew.setCells g0 ((i + 1) * 2) Y) = .ok (goInt 1) ((w.drew.setCells g0 ((i + 1) * 2) Y).setCells g0 (i * 2) h.cells):=fun ty dc => by
  have e:Nat.min 1 (n + 1 - i) = 1:=by simp only [Nat.min_def];split <;> omega
  rw [run_copy_rows _ 99 99 ty 103 2 g0 (i * 2) (n + 1 - i) dc ⟨g,0,none⟩ 1 1 h.cells Tryz.underlying99 hsz (by rw [e];rfl) (fun j u hu => by rw [Addr.add_lit,Nat.zero_add,kg.cell];simpa using hu)
   (fun j hj => cells_some k1 (by rw [z1,hcs];rw [hv] at hj;omega)) (fun j hj => cells_free k1 _) (by simp [Hp.cells];exact ⟨rfl,rfl⟩),e]
  rfl
 obtain ⟨cu2,k2,z2,l2⟩:=setCells_heap g0 h.cells (i * 2) _ cu1 _ k1 (by rw [z1,hcs,hv];omega)
 have u2:=Upd.setCells (F:=fun k => (Value.slice (some ⟨g0,0,none⟩) n c).ownBlock = some k) (a:=w) (b:=g0) (.inl rfl) h.cells (i * 2) u1
 have own':((w.drew.setCells g0 ((i + 1) * 2) Y).setCells g0 (i * 2) h.cells).ownsRow base 103 2 (.slice (some ⟨g0,0,none⟩) (insAt L i h).length c) (insAt L i h).length (hpCells (insAt L i h)):=by
  have e0:(insAt L i h).length = n + 1:=by rw [insAt_len L h (by omega),hn]
  rw [e0]
  refine ⟨by rw [hpCells_len,e0],.inr ⟨g0,c,cu2,rfl,hbase,k2,hc,hcm,by rw [z2,z1,hcs],?_⟩⟩
  rw [insAt_cells L i h (by omega),l2,l1,hY]
  have:=ins_list cur.toList (hpCells L) h.cells (i * 2) (by rw [hcl];exact hct) (by omega) (by rw [hcl,hv];exact hlen)
  rw [hv,hcl] at this
  rw [show (n + 1) * 2 = n * 2 + 2 by omega,show (i + 1) * 2 = i * 2 + 2 by omega]
  exact this
 have e0:n + 1 = (insAt L i h).length:=by rw [insAt_len L h (by omega),hn]
 have HH:=Lib.hid (show InsAt w base (.slice (some ⟨g0,0,none⟩) n c) (insAt L i h) (.returned (.slice (some ⟨g0,0,none⟩) (n + 1) c)) ((w.drew.setCells g0 ((i + 1) * 2) Y).setCells g0 (i * 2) h.cells) from ⟨_,c,by rw [e0],own',u2,fun k hk => .inl hk⟩)
 clear own own' u2 u1 kg l1 l2 k1 k2 z1 z2 hg hh hcs hct hlen hdl hYc hYo hY hn hcl hv hsz e0
 generalize (w.drew.setCells g0 ((i + 1) * 2) Y).setCells g0 (i * 2) h.cells = W2 at hcp2 HH
 generalize w.drew.setCells g0 ((i + 1) * 2) Y = W1 at hcp1 hcp2
 have hz2:¬ ((i:Int) = (n:Int)):=by omega
 have hw1:IntKind.i64.wrap ((i:Int) + (1:Int)) = (i:Int) + (1:Int):=by unfold maxLen at hcm;rw [IntKind.wrap_i64];omega
 have hc63:c ≤ 9223372036854775807:=by unfold maxLen at hcm;omega
 have hin:i ≤ n:=by omega
 have htn:((i:Int) + (1:Int)).toNat = i + 1:=by omega
 have hb1:(0:Int) ≤ (i:Int) + 1:=by omega
 have hb2:¬ (c = i + 1):=by omega
 have hb3:(i:Int) ≤ (n:Int) + 1:=by omega
 have hb4:¬ (c = i):=by omega
 go_enter Tryz.func135,Tryz.ntmps135
 go_upto_region 15 with (simp only [hov])
 refine wp_region_ord (fun _ => True) 9 [(0,true),(1,true),(2,true),(3,true),(4,true),(5,true),(6,true),(7,true),(8,false)] (by kernel_rfl) (by kernel_rfl) (fun _ _ d _ _ h => by cases d <;> exact h) trivial ?_
 iterate 8 (refine ord_takeA rfl ?_;(try simp only [Act.put,gA,gS,gZ,sA,sZ,sS]))
 refine ord_do rfl rfl (fun K hK => ?_)
 refine wp_copy_runI _ _ _ 99 99 rfl (.slice (some ⟨g0,(i + 1) * 2,none⟩) (n + 1 - (i + 1)) (c - (i + 1))) (.slice (some ⟨g0,i * 2,none⟩) (n + 1 - i) (c - i)) (by simp [Act.eval]) (by simp [Act.eval]) (hcp1 _ _ _) ?_
 refine hK _ _ (fun _ => trivial) ?_
 clear hK K
 (try simp only [Act.put,gA,gS,gZ,sA,sZ,sS])
 refine ord_done ?_
 go_wp2_with (at_builtin;refine wpList_copy_runI _ rfl _ _ 99 99 rfl _ _ rfl rfl (hcp2 _ _) ?_)
 go_ret
 exact HH.out
theorem own_more {w:World} {base e size n c:Nat} {A:Option Addr} {xs:List Value} (h:w.ownsRow base e size (.slice A n c) n xs):n ≤ c∧c ≤ maxLen:=by
 rcases h.2 with ⟨e,e2⟩ | ⟨g,cap,cur,e,_,_,hc,hm,_⟩
 ·injection e with _ _ e3
  subst e3
  rw [e2]
  exact ⟨Nat.le_refl _,by unfold maxLen;omega⟩
 ·injection e with _ _ e3
  subst e3
  exact ⟨hc,hm⟩
theorem insert_grow (w:World) (base g0 c:Nat) (L:List Hp) (own:w.ownsRow base 103 2 (.slice (some ⟨g0,0,none⟩) L.length c) L.length (hpCells L)) (g:Nat) (h:Hp) (hg:Blk w g 103 h.cells.toArray) (hb:base ≤ w.heap.size) (i:Nat) (hi:i < L.length) (hc:c < L.length + 1) (hl:(L.length + 1) * 24 ≤ 140737488355328) :
  Calls Tryz.prog 135 #[.slice (some ⟨g0,0,none⟩) L.length c,.int .i64 i,.slice (some ⟨g,0,none⟩) 1 1] w (InsAt w base (.slice (some ⟨g0,0,none⟩) L.length c) (insAt L i h)):=by
 obtain ⟨n,hn⟩:∃ n,L.length = n:=⟨_,rfl⟩
 have hcl:=hpCells_len L
 have hil:=insAt_len L h (Nat.le_of_lt hi)
 have hgs:=(own.lt g0 rfl).2
 have hrr:=RowR.of_own own
 have hcm:=own_more own
 rw [hn] at hi hc hcl hl hil hcm ⊢
 rw [hn] at own
 have hold0:∀ j u,(hpCells L)[j]? = some u→w.cell? ⟨g0,j,none⟩ = some u:=fun j u hu => by
  obtain ⟨b',o',e,y⟩:=hrr j u hu
  injection e with e
  injection e with e1 e2
  subst e1;subst e2
  rwa [Nat.zero_add] at y
 obtain ⟨i0,hi0,hz0,hz1,hz2⟩:=info_parts info_hop
 have hsz:(Tryz.prog.info? 103).map (·.size) = some 2:=by rw [hi0];simp [hz1]
 have hv:h.cells.length = 2:=rfl
 have hkk:(n:Int) + 1 - (i:Int) = ((n + 1 - i:Nat):Int):=by omega
 have hik:i + (n + 1 - i) = n + 1:=by omega
 have hold:(Builtin.firstCells i0.size i (.slice (some ⟨g0,0,none⟩) i c)).run Tryz.prog w.drew = .ok ((hpCells L).take (i * 2)).toArray w.drew:=by
  rw [hz1]
  exact run_firstCells_some w.drew 2 i ⟨g0,0,none⟩ i c _ (by rw [List.length_take];omega) (fun j v hj => by
   rw [Addr.add_lit,Nat.zero_add]
   rw [List.getElem?_take] at hj
   split at hj
   ·exact hold0 j v hj
   ·cases hj)
 have hrz:∀ ty,(Builtin.append_ #[99,3] ty #[.slice (some ⟨g0,0,none⟩) i c,.int .i64 ((n:Int) + 1 - (i:Int))]).run Tryz.prog w =
   .ok (.slice (some ⟨w.heap.size,0,none⟩) (n + 1) (grownCap w (n + 1) c 103)) (w.drew.alloc (.cells (((hpCells L).take (i * 2)).toArray ++ Builtin.zeroCells (Value.agg #[.string ByteArray.empty,.int .i64 0]).cells (n + 1 - i) ++ Builtin.zeroCells (Value.agg #[.string ByteArray.empty,.int .i64 0]).cells (grownCap w (n + 1) c 103 - (n + 1))) 103)):=fun ty => by
  have h:=Lib.run_append_grow_zeros w 99 3 ty 103 i0 _ .i64 .i64 Tryz.underlying99 Tryz.underlying3 hi0 hz0 (some ⟨g0,0,none⟩) i c ((hpCells L).take (i * 2)) hold (n + 1 - i) (by omega) (by omega) (by omega) (by omega) (by rw [hz2];omega) (by rw [hz2,hik];exact growslice_fits hc hl)
  rw [hik] at h
  rw [hkk]
  exact h
 have hG63:grownCap w (n + 1) c 103 ≤ maxLen:=grownCap_le_maxLen w (n + 1) c 103 (by unfold maxLen;omega)
 have hGn:n + 1 ≤ grownCap w (n + 1) c 103:=grownCap_ge w _ _ _
 obtain ⟨G,hG⟩:∃ G,G = grownCap w (n + 1) c 103:=⟨_,rfl⟩
 rw [← hG] at hrz hG63 hGn
 obtain ⟨ROW,hROW⟩:∃ ROW:Array Value,ROW = ((hpCells L).take (i * 2)).toArray ++ Builtin.zeroCells (Value.agg #[.string ByteArray.empty,.int .i64 0]).cells (n + 1 - i) ++ Builtin.zeroCells (Value.agg #[.string ByteArray.empty,.int .i64 0]).cells (G - (n + 1)):=⟨_,rfl⟩
 rw [← hROW] at hrz
 have hRl:ROW.size = G * 2:=by
  rw [hROW]
  simp only [Array.size_append,List.size_toArray,size_zeroCells,List.length_take,hcl]
  simp [Value.cells]
  omega
 have hRt:ROW.toList.take (i * 2) = (hpCells L).take (i * 2):=by
  rw [hROW]
  simp only [Array.toList_append,List.append_assoc]
  exact List.take_left' (by rw [List.length_take];omega)
 clear hROW hold
 have k0:(w.drew.alloc (.cells ROW 103)).heap[w.heap.size]? = some (.cells ROW 103 (0,0)):=Blk.new w.drew _ _
 have u0:Upd (fun k => (Value.slice (some ⟨g0,0,none⟩) n c).ownBlock = some k) w (w.drew.alloc (.cells ROW 103)):=((Upd.refl _ w).drew).alloc _
 have b0:Upd (fun _ => False) w (w.drew.alloc (.cells ROW 103)):=((Upd.refl _ w).drew).alloc _
 generalize w.drew.alloc (.cells ROW 103) = W0 at hrz k0 u0 b0
 have hcpA:∀ ty dc,(Builtin.copy_ #[99,99] ty #[.slice (some ⟨w.heap.size,i * 2,none⟩) (n + 1 - i) dc,.slice (some ⟨g,0,none⟩) 1 1]).run Tryz.prog W0 = .ok (goInt 1) (W0.setCells w.heap.size (i * 2) h.cells):=fun ty dc => by
  have e:Nat.min 1 (n + 1 - i) = 1:=by simp only [Nat.min_def];split <;> omega
  rw [run_copy_rows _ 99 99 ty 103 2 w.heap.size (i * 2) (n + 1 - i) dc ⟨g,0,none⟩ 1 1 h.cells Tryz.underlying99 hsz (by rw [e];rfl) (fun j u hu => by rw [Addr.add_lit,Nat.zero_add,(hg.upd b0 id).cell];simpa using hu)
   (fun j hj => cells_some k0 (by rw [hRl];rw [hv] at hj;omega)) (fun j hj => cells_free k0 _) (by simp [Hp.cells];exact ⟨rfl,rfl⟩),e]
  rfl
 obtain ⟨cu1,k1,z1,l1⟩:=setCells_heap w.heap.size h.cells (i * 2) W0 ROW _ k0 (by rw [hRl,hv];omega)
 have u1:=Upd.setCells (F:=fun k => (Value.slice (some ⟨g0,0,none⟩) n c).ownBlock = some k) (a:=w) (b:=w.heap.size) (.inr (Nat.le_refl _)) h.cells (i * 2) u0
 have b1:=Upd.setCells (F:=fun _ => False) (a:=w) (b:=w.heap.size) (.inr (Nat.le_refl _)) h.cells (i * 2) b0
 generalize W0.setCells w.heap.size (i * 2) h.cells = W1 at hcpA k1 u1 b1
 have hdl:((hpCells L).drop (i * 2)).length = (n - i) * 2:=by rw [List.length_drop,hcl];omega
 obtain ⟨Y,hY⟩:∃ Y,Y = (hpCells L).drop (i * 2):=⟨_,rfl⟩
 rw [← hY] at hdl
 have hYc:∀ j u,Y[j]? = some u→W1.drew.cell? ((⟨g0,i * 2,none⟩:Addr).add j) = some u:=fun j u hu => by
  rw [hY,List.getElem?_drop] at hu
  rw [Addr.add_lit]
  show W1.cell? _ = _
  rw [b1.cell (by exact hgs) id]
  exact hold0 _ _ hu
 have hYo:∀ u ∈ Y,u.oneCell' = true:=fun u hu => one_hp L u (by rw [hY] at hu;exact List.mem_of_mem_drop hu)
 have hcpB:∀ ty dc sc,(Builtin.copy_ #[99,99] ty #[.slice (some ⟨w.heap.size,(i + 1) * 2,none⟩) (n + 1 - (i + 1)) dc,.slice (some ⟨g0,i * 2,none⟩) (n - i) sc]).run Tryz.prog W1.drew = .ok (goInt ((n - i:Nat):Int)) (W1.drew.setCells w.heap.size ((i + 1) * 2) Y):=fun ty dc sc => by
  have e:Nat.min (n - i) (n + 1 - (i + 1)) = n - i:=by simp only [Nat.min_def];split <;> omega
  rw [run_copy_rows W1.drew 99 99 ty 103 2 w.heap.size ((i + 1) * 2) (n + 1 - (i + 1)) dc ⟨g0,i * 2,none⟩ (n - i) sc Y Tryz.underlying99 hsz (by rw [hdl,e]) hYc
   (fun j hj => cells_some (w:=W1.drew) k1 (by rw [hdl] at hj;rw [z1,hRl];omega)) (fun j hj => cells_free (w:=W1.drew) k1 _) hYo,e]
 obtain ⟨cu2,k2,z2,l2⟩:=setCells_heap w.heap.size Y ((i + 1) * 2) W1.drew cu1 _ k1 (by rw [hdl,z1,hRl];omega)
 have u2:=Upd.setCells (F:=fun k => (Value.slice (some ⟨g0,0,none⟩) n c).ownBlock = some k) (a:=w) (b:=w.heap.size) (.inr (Nat.le_refl _)) Y ((i + 1) * 2) u1.drew
 generalize W1.drew.setCells w.heap.size ((i + 1) * 2) Y = W2 at hcpB k2 u2
 have own':W2.ownsRow base 103 2 (.slice (some ⟨w.heap.size,0,none⟩) (insAt L i h).length G) (insAt L i h).length (hpCells (insAt L i h)):=by
  rw [hil]
  refine ⟨by rw [hpCells_len,hil],.inr ⟨w.heap.size,G,cu2,rfl,hb,k2,hGn,hG63,by rw [z2,z1,hRl],?_⟩⟩
  rw [insAt_cells L i h (by omega),l2,l1,← hY,← hRt]
  have:=ins_grow ROW.toList h.cells Y (i * 2) (by rw [hv,hdl,Array.length_toList,hRl];omega)
  rw [hv,hdl] at this
  rw [hdl,hv,show (n + 1) * 2 = i * 2 + 2 + (n - i) * 2 by omega,show (i + 1) * 2 = i * 2 + 2 by omega]
  exact this
 have HH:=Lib.hid (show InsAt w base (.slice (some ⟨g0,0,none⟩) n c) (insAt L i h) (.returned (.slice (some ⟨w.heap.size,0,none⟩) (n + 1) G)) W2 from ⟨_,G,by rw [hil],own',u2,fun k hk => .inr (by injection hk with hk;exact Nat.le_of_eq hk)⟩)
 clear own own' u0 u1 u2 b0 b1 k0 k1 k2 z1 z2 l1 l2 hg hRl hRt hdl hYc hYo hY hn hcl hv hsz hil hrr hold0 hik hi0 hz0 hz1 hz2
 have hz2:¬ ((i:Int) = (n:Int)):=by omega
 have hz3:(c:Int) < (n:Int) + 1:=by omega
 have hw1:IntKind.i64.wrap ((i:Int) + (1:Int)) = (i:Int) + (1:Int):=by rw [IntKind.wrap_i64];omega
 have hc63:c ≤ 9223372036854775807:=by omega
 have hG64:G ≤ 9223372036854775807:=by unfold maxLen at hG63;omega
 have hin:i ≤ n:=by omega
 have hnc:n ≤ c:=hcm.1
 have htn:((i:Int) + (1:Int)).toNat = i + 1:=by omega
 have hb1:(0:Int) ≤ (i:Int) + 1:=by omega
 have hb3:(i:Int) ≤ (n:Int):=by omega
 have hb4:¬ (c = i):=by omega
 have hb5:¬ (G = i):=by omega
 have hb6:¬ (G = i + 1):=by omega
 clear hcm hkk hG hG63
 go_enter Tryz.func135,Tryz.ntmps135
 go_upto_region 11 with (first
  | (at_builtin;refine Lib.wpList_append_run _ rfl _ _ _ _ rfl _ _ rfl rfl _ _ (hrz _) ?_)
  | (at_builtin;refine wpList_copy_runI _ rfl _ _ 99 99 rfl _ _ rfl rfl (hcpA _ _) ?_))
 refine wp_region_ord (fun _ => True) 9 [(0,true),(1,true),(2,true),(3,true),(4,true),(5,true),(6,true),(7,true),(8,false)] (by kernel_rfl) (by kernel_rfl) (fun _ _ d _ _ h => by cases d <;> exact h) trivial ?_
 iterate 8 (refine ord_takeA rfl ?_;(try simp only [Act.put,gA,gS,gZ,sA,sZ,sS]))
 refine ord_do rfl rfl (fun K hK => ?_)
 refine wp_copy_runI _ _ _ 99 99 rfl (.slice (some ⟨w.heap.size,(i + 1) * 2,none⟩) (n + 1 - (i + 1)) (G - (i + 1))) (.slice (some ⟨g0,i * 2,none⟩) (n - i) (c - i)) (by simp [Act.eval]) (by simp [Act.eval]) (hcpB _ _ _) ?_
 refine hK _ _ (fun _ => trivial) ?_
 clear hK K
 (try simp only [Act.put,gA,gS,gZ,sA,sZ,sS])
 refine ord_done ?_
 go_wp2
 go_ret
 exact HH.out
theorem insert_hop (w:World) (base:Nat) (A:Option Addr) (c:Nat) (L:List Hp) (own:w.ownsRow base 103 2 (.slice A L.length c) L.length (hpCells L)) (g:Nat) (h:Hp) (hg:Blk w g 103 h.cells.toArray) (hne:(Value.slice A L.length c).ownBlock ≠ some g) (hb:base ≤ w.heap.size) (i:Nat) (hi:i ≤ L.length) (hl:(L.length + 1) * 24 ≤ 140737488355328) :
  Calls Tryz.prog 135 #[.slice A L.length c,.int .i64 i,.slice (some ⟨g,0,none⟩) 1 1] w (InsAt w base (.slice A L.length c) (insAt L i h)):=by
 rcases Nat.lt_or_eq_of_le hi with h1 | rfl
 ·obtain ⟨A0,c0,e5,e6,e7⟩:=own_form own
  injection e5 with e5 _ e8
  subst e5
  subst e8
  rcases e7 with rfl | ⟨g0,rfl⟩
  ·exfalso
   rcases own.2 with ⟨_,e⟩ | ⟨_,_,_,e,_⟩
   ·omega
   ·injection e with e
    cases e
  ·rcases Nat.lt_or_ge c (L.length + 1) with h2 | h2
   ·exact insert_grow w base g0 c L own g h hg hb i h1 h2 hl
   ·exact insert_room w base g0 c L own g h hg (fun e => hne (by rw [e];rfl)) i h1 h2
 ·exact insert_end w base A c L own g h hg hb hl
end Go.Proofs.YtddffnonlmfhdaaGreatDoor
namespace Go.Proofs.YtddffnonlmfhdaaGreatDoor
open Go.RowKit
def zero64:List Nat:=List.replicate 64 0
def lessN (x y:Nat):Nat:=x &&& (18446744073709551615 - y)
def orN (x y:Nat):Nat:=x ||| y
def mixW (f:Nat→Nat→Nat) (a b:List Nat) (k:Nat):List Nat:=(List.zipWith f a b).take k ++ a.drop k
theorem mixW_zero (f:Nat→Nat→Nat) (a b:List Nat):mixW f a b 0 = a:=by simp [mixW]
theorem mixW_all {f:Nat→Nat→Nat} {a b:List Nat} (ha:a.length = 64) (hb:b.length = 64):mixW f a b 64 = List.zipWith f a b:=by
 unfold mixW
 rw [List.take_of_length_le (by rw [List.length_zipWith,ha,hb];decide),List.drop_of_length_le (by omega),List.append_nil]
theorem mixW_at {f:Nat→Nat→Nat} {a b:List Nat} {k x:Nat} (hab:a.length = b.length) (h:a[k]? = some x):(mixW f a b k)[k]? = some x:=by
 have hk:=(List.getElem?_eq_some_iff.1 h).1
 unfold mixW
 have hl:((List.zipWith f a b).take k).length = k:=by rw [List.length_take,List.length_zipWith];omega
 rw [List.getElem?_append_right (by omega),hl,Nat.sub_self,List.getElem?_drop,Nat.add_zero,h]
theorem mixW_set {f:Nat→Nat→Nat} {a b:List Nat} {k x y:Nat} (hab:a.length = b.length) (hx:a[k]? = some x) (hy:b[k]? = some y):(mixW f a b k).set k (f x y) = mixW f a b (k + 1):=by
 obtain ⟨hk,hxe⟩:=List.getElem?_eq_some_iff.1 hx
 have hz:(List.zipWith f a b)[k]? = some (f x y):=by rw [List.getElem?_zipWith,hx,hy]
 have hl:((List.zipWith f a b).take k).length = k:=by rw [List.length_take,List.length_zipWith];omega
 unfold mixW
 rw [List.set_append_right _ _ (by omega),hl,Nat.sub_self,List.drop_eq_getElem_cons hk,List.set_cons_zero,List.take_add_one,hz,Option.toList_some,List.append_assoc,List.singleton_append]
theorem zero64_blk {W:World} {g:Nat} {t:TypeId}:Blk W g t #[Value.int .u64 0,.int .u64 0,.int .u64 0,.int .u64 0,.int .u64 0,.int .u64 0,.int .u64 0,.int .u64 0,.int .u64 0,.int .u64 0,.int .u64 0,.int .u64 0,.int .u64 0,.int .u64 0,.int .u64 0,.int .u64 0,.int .u64 0,.int .u64 0,.int .u64 0,.int .u64 0,.int .u64 0,.int .u64 0,.int .u64 0,.int .u64 0,.int .u64 0,.int .u64 0,.int .u64 0,.int .u64 0,.int .u64 0,.int .u64 0,.int .u64 0,.int .u64 0,.int .u64 0,.int .u64 0,.int .u64 0,.int .u64 0,.int .u64 0,.int .u64 0,.int .u64 0,.int .u64 0,.int .u64 0,.int .u64 0,.int .u64 0,.int .u64 0,.int .u64 0,.int .u64 0,.int .u64 0,.int .u64 0,.int .u64 0,.int .u64 0,.int .u64 0,.int .u64 0,.int .u64 0,.int .u64 0,.int .u64 0,.int .u64 0,.int .u64 0,.int .u64 0,.int .u64 0,.int .u64 0,.int .u64 0,.int .u64 0,.int .u64 0,.int .u64 0] ↔ Blk W g t (wdC zero64).toArray:=by
 have e:#[Value.int .u64 0,.int .u64 0,.int .u64 0,.int .u64 0,.int .u64 0,.int .u64 0,.int .u64 0,.int .u64 0,.int .u64 0,.int .u64 0,.int .u64 0,.int .u64 0,.int .u64 0,.int .u64 0,.int .u64 0,.int .u64 0,.int .u64 0,.int .u64 0,.int .u64 0,.int .u64 0,.int .u64 0,.int .u64 0,.int .u64 0,.int .u64 0,.int .u64 0,.int .u64 0,.int .u64 0,.int .u64 0,.int .u64 0,.int .u64 0,.int .u64 0,.int .u64 0,.int .u64 0,.int .u64 0,.int .u64 0,.int .u64 0,.int .u64 0,.int .u64 0,.int .u64 0,.int .u64 0,.int .u64 0,.int .u64 0,.int .u64 0,.int .u64 0,.int .u64 0,.int .u64 0,.int .u64 0,.int .u64 0,.int .u64 0,.int .u64 0,.int .u64 0,.int .u64 0,.int .u64 0,.int .u64 0,.int .u64 0,.int .u64 0,.int .u64 0,.int .u64 0,.int .u64 0,.int .u64 0,.int .u64 0,.int .u64 0,.int .u64 0,.int .u64 0] = (wdC zero64).toArray:=by kernel_rfl
 rw [e]
theorem there_blk {W:World} {g n:Nat} {t:TypeId} {cs:Array Value} (h:Blk W g t cs) (hn:n ≤ cs.size):W.there g 0 n:=fun i hi => by
 have hlt:i < cs.size:=by omega
 rw [Nat.zero_add]
 exact ⟨by rw [h.cell i,Array.getElem?_eq_getElem hlt];rfl,h.frozen i⟩
theorem one_wd (r:List Nat):∀ v ∈ wdC r,v.oneCell' = true:=fun v hv => by
 obtain ⟨x,_,rfl⟩:=List.mem_map.1 hv
 rfl
theorem u64_lessN (x y:Nat) (hx:x < 18446744073709551616) (hy:y < 18446744073709551616):bits .andNot .u64 (x:Int) (y:Int) = ((lessN x y:Nat):Int):=u64_andNot_nat x y hx hy
theorem mem_zip {f:Nat→Nat→Nat}:∀ {a b:List Nat} {z:Nat},z ∈ List.zipWith f a b→∃ x ∈ a,∃ y ∈ b,z = f x y
 | [],_,_,h => by simp at h
 | _ :: _,[],_,h => by simp at h
 | x :: a,y :: b,z,h => by
  rw [List.zipWith_cons_cons,List.mem_cons] at h
  rcases h with rfl | h
  ·exact ⟨x,by simp,y,by simp,rfl⟩
  ·obtain ⟨x',hx,y',hy,e⟩:=mem_zip h
   exact ⟨x',by simp [hx],y',by simp [hy],e⟩
theorem less_wd {a b:List Nat} (ha:Wd a) (hb:Wd b):Wd (List.zipWith lessN a b):=⟨by rw [List.length_zipWith,ha.len,hb.len];decide,fun z hz => by
 obtain ⟨x,hx,y,_,rfl⟩:=mem_zip hz
 exact Nat.lt_of_le_of_lt Nat.and_le_left (ha.fit x hx)⟩
theorem u64_orN (x y:Nat) (hx:x < 18446744073709551616) (hy:y < 18446744073709551616):bits .or .u64 (x:Int) (y:Int) = ((orN x y:Nat):Int):=bits_or_u64_nat x y hx hy
theorem or_wd {a b:List Nat} (ha:Wd a) (hb:Wd b):Wd (List.zipWith orN a b):=⟨by rw [List.length_zipWith,ha.len,hb.len];decide,fun z hz => by
 obtain ⟨x,hx,y,hy,rfl⟩:=mem_zip hz
 exact Nat.or_lt_two_pow (n:=64) (ha.fit x hx) (hb.fit y hy)⟩
theorem wdC_set (r:List Nat) (k x:Nat):(wdC r).toArray.setIfInBounds k (.int .u64 (x:Int)) = (wdC (r.set k x)).toArray:=by
 simp [wdC,List.map_set]
theorem bless_any (w:World) (a b:List Nat) (ha:Wd a) (hb:Wd b):Calls Tryz.prog 146 #[wdV a,wdV b] w (Sam w (wdV (List.zipWith lessN a b))):=by
 have k0:=((Blk.new w 168 (wdC a).toArray).alloc (.cells (wdC b).toArray 168)).alloc (.cells #[Value.int .u64 0,.int .u64 0,.int .u64 0,.int .u64 0,.int .u64 0,.int .u64 0,.int .u64 0,.int .u64 0,.int .u64 0,.int .u64 0,.int .u64 0,.int .u64 0,.int .u64 0,.int .u64 0,.int .u64 0,.int .u64 0,.int .u64 0,.int .u64 0,.int .u64 0,.int .u64 0,.int .u64 0,.int .u64 0,.int .u64 0,.int .u64 0,.int .u64 0,.int .u64 0,.int .u64 0,.int .u64 0,.int .u64 0,.int .u64 0,.int .u64 0,.int .u64 0,.int .u64 0,.int .u64 0,.int .u64 0,.int .u64 0,.int .u64 0,.int .u64 0,.int .u64 0,.int .u64 0,.int .u64 0,.int .u64 0,.int .u64 0,.int .u64 0,.int .u64 0,.int .u64 0,.int .u64 0,.int .u64 0,.int .u64 0,.int .u64 0,.int .u64 0,.int .u64 0,.int .u64 0,.int .u64 0,.int .u64 0,.int .u64 0,.int .u64 0,.int .u64 0,.int .u64 0,.int .u64 0,.int .u64 0,.int .u64 0,.int .u64 0,.int .u64 0] 168)
 have k1:=(Blk.new (w.alloc (.cells (wdC a).toArray 168)) 168 (wdC b).toArray).alloc (.cells #[Value.int .u64 0,.int .u64 0,.int .u64 0,.int .u64 0,.int .u64 0,.int .u64 0,.int .u64 0,.int .u64 0,.int .u64 0,.int .u64 0,.int .u64 0,.int .u64 0,.int .u64 0,.int .u64 0,.int .u64 0,.int .u64 0,.int .u64 0,.int .u64 0,.int .u64 0,.int .u64 0,.int .u64 0,.int .u64 0,.int .u64 0,.int .u64 0,.int .u64 0,.int .u64 0,.int .u64 0,.int .u64 0,.int .u64 0,.int .u64 0,.int .u64 0,.int .u64 0,.int .u64 0,.int .u64 0,.int .u64 0,.int .u64 0,.int .u64 0,.int .u64 0,.int .u64 0,.int .u64 0,.int .u64 0,.int .u64 0,.int .u64 0,.int .u64 0,.int .u64 0,.int .u64 0,.int .u64 0,.int .u64 0,.int .u64 0,.int .u64 0,.int .u64 0,.int .u64 0,.int .u64 0,.int .u64 0,.int .u64 0,.int .u64 0,.int .u64 0,.int .u64 0,.int .u64 0,.int .u64 0,.int .u64 0,.int .u64 0,.int .u64 0,.int .u64 0] 168)
 have k2:=Blk.new ((w.alloc (.cells (wdC a).toArray 168)).alloc (.cells (wdC b).toArray 168)) 168 #[Value.int .u64 0,.int .u64 0,.int .u64 0,.int .u64 0,.int .u64 0,.int .u64 0,.int .u64 0,.int .u64 0,.int .u64 0,.int .u64 0,.int .u64 0,.int .u64 0,.int .u64 0,.int .u64 0,.int .u64 0,.int .u64 0,.int .u64 0,.int .u64 0,.int .u64 0,.int .u64 0,.int .u64 0,.int .u64 0,.int .u64 0,.int .u64 0,.int .u64 0,.int .u64 0,.int .u64 0,.int .u64 0,.int .u64 0,.int .u64 0,.int .u64 0,.int .u64 0,.int .u64 0,.int .u64 0,.int .u64 0,.int .u64 0,.int .u64 0,.int .u64 0,.int .u64 0,.int .u64 0,.int .u64 0,.int .u64 0,.int .u64 0,.int .u64 0,.int .u64 0,.int .u64 0,.int .u64 0,.int .u64 0,.int .u64 0,.int .u64 0,.int .u64 0,.int .u64 0,.int .u64 0,.int .u64 0,.int .u64 0,.int .u64 0,.int .u64 0,.int .u64 0,.int .u64 0,.int .u64 0,.int .u64 0,.int .u64 0,.int .u64 0,.int .u64 0]
 simp only [World.size_alloc] at k1 k2
 have u0:Below w.heap.size w (((w.alloc (.cells (wdC a).toArray 168)).alloc (.cells (wdC b).toArray 168)).alloc (.cells #[Value.int .u64 0,.int .u64 0,.int .u64 0,.int .u64 0,.int .u64 0,.int .u64 0,.int .u64 0,.int .u64 0,.int .u64 0,.int .u64 0,.int .u64 0,.int .u64 0,.int .u64 0,.int .u64 0,.int .u64 0,.int .u64 0,.int .u64 0,.int .u64 0,.int .u64 0,.int .u64 0,.int .u64 0,.int .u64 0,.int .u64 0,.int .u64 0,.int .u64 0,.int .u64 0,.int .u64 0,.int .u64 0,.int .u64 0,.int .u64 0,.int .u64 0,.int .u64 0,.int .u64 0,.int .u64 0,.int .u64 0,.int .u64 0,.int .u64 0,.int .u64 0,.int .u64 0,.int .u64 0,.int .u64 0,.int .u64 0,.int .u64 0,.int .u64 0,.int .u64 0,.int .u64 0,.int .u64 0,.int .u64 0,.int .u64 0,.int .u64 0,.int .u64 0,.int .u64 0,.int .u64 0,.int .u64 0,.int .u64 0,.int .u64 0,.int .u64 0,.int .u64 0,.int .u64 0,.int .u64 0,.int .u64 0,.int .u64 0,.int .u64 0,.int .u64 0] 168)):=by (repeat (first | exact Below.refl _ _ | apply Below.drew | refine Below.alloc ?_ (by first | exact Nat.le_refl _ | (simp;done) | (simp;omega)) _ | refine Below.setCell ?_ (by first | exact Nat.le_refl _ | (simp;done) | (simp;omega)) _))
 have H:=Lib.hid (And.intro ha (And.intro hb (And.intro k0 (And.intro k1 (And.intro (zero64_blk.mp k2) u0)))))
 clear k0 k1 k2 u0 ha hb
 unfold wdV
 go_enter Tryz.func146,Tryz.ntmps146
 go_upto_region 1 with (fail)
 generalize ((w.alloc (.cells (wdC a).toArray 168)).alloc (.cells (wdC b).toArray 168)).alloc (.cells #[Value.int .u64 0,.int .u64 0,.int .u64 0,.int .u64 0,.int .u64 0,.int .u64 0,.int .u64 0,.int .u64 0,.int .u64 0,.int .u64 0,.int .u64 0,.int .u64 0,.int .u64 0,.int .u64 0,.int .u64 0,.int .u64 0,.int .u64 0,.int .u64 0,.int .u64 0,.int .u64 0,.int .u64 0,.int .u64 0,.int .u64 0,.int .u64 0,.int .u64 0,.int .u64 0,.int .u64 0,.int .u64 0,.int .u64 0,.int .u64 0,.int .u64 0,.int .u64 0,.int .u64 0,.int .u64 0,.int .u64 0,.int .u64 0,.int .u64 0,.int .u64 0,.int .u64 0,.int .u64 0,.int .u64 0,.int .u64 0,.int .u64 0,.int .u64 0,.int .u64 0,.int .u64 0,.int .u64 0,.int .u64 0,.int .u64 0,.int .u64 0,.int .u64 0,.int .u64 0,.int .u64 0,.int .u64 0,.int .u64 0,.int .u64 0,.int .u64 0,.int .u64 0,.int .u64 0,.int .u64 0,.int .u64 0,.int .u64 0,.int .u64 0,.int .u64 0] 168) = W0 at H ⊢
 go_wp2_with fail
 go_loopw [6] (fun i wr => ∃ k:Nat,k ≤ 64∧i = .int .i64 k∧Hid (Blk wr w.heap.size 168 (wdC (mixW lessN a b k)).toArray)∧Hid (Blk wr (w.heap.size + 1) 168 (wdC b).toArray)∧Hid (Blk wr (w.heap.size + 1 + 1) 168 (wdC zero64).toArray)∧Hid (Below w.heap.size w wr)) (fun i _ => 64 - (intOf i).toNat)
 case atStart => exact ⟨0,Nat.zero_le _,rfl,Lib.hid (by rw [mixW_zero];exact H.out.2.2.1),Lib.hid H.out.2.2.2.1,Lib.hid H.out.2.2.2.2.1,Lib.hid H.out.2.2.2.2.2⟩
 case round =>
  obtain ⟨k,hk,rfl,hA,hB,hC,hbw⟩:=hrel
  have hab:a.length = b.length:=by rw [H.out.1.len,H.out.2.1.len]
  by_cases hlt:k < 64
  ·have hltI:(k:Int) < (64:Int):=by omega
   have hkw:IntKind.i64.wrap ((k:Int) + 1) = (k:Int) + 1:=IntWalk.i64_in _ (by omega)
   obtain ⟨x,hx⟩:∃ x,a[k]? = some x:=⟨a[k]'(by rw [H.out.1.len];exact hlt),List.getElem?_eq_getElem _⟩
   obtain ⟨y,hy⟩:∃ x,b[k]? = some x:=⟨b[k]'(by rw [H.out.2.1.len];exact hlt),List.getElem?_eq_getElem _⟩
   have hop:=u64_lessN x y (H.out.1.fit x (List.mem_of_getElem? hx)) (H.out.2.1.fit y (List.mem_of_getElem? hy))
   have c0:wr.drew.cell? ⟨w.heap.size,k,none⟩ = some (.int .u64 (x:Int)):=(hA.out.drew.cell k).trans (by simpa using wdC_at (mixW_at (f:=lessN) hab hx))
   have c1:wr.drew.cell? ⟨w.heap.size + 1,k,none⟩ = some (.int .u64 (y:Int)):=(hB.out.drew.cell k).trans (by simpa using wdC_at hy)
   have f0:wr.drew.frozen? ⟨w.heap.size,k,none⟩ = false:=hA.out.drew.frozen k
   have hS:wr.drew.cell? ⟨w.heap.size,k,none⟩ = some (.int .u64 (x:Int))∧wr.drew.cell? ⟨w.heap.size + 1,k,none⟩ = some (.int .u64 (y:Int)):=⟨c0,c1⟩
   have hb2:Upd (fun q => q = w.heap.size) wr.drew (wr.drew.setCell ⟨w.heap.size,k,none⟩ (.int .u64 ((lessN x y:Nat):Int))):=(Upd.refl (fun q => q = w.heap.size) wr.drew).setCell (p:=⟨w.heap.size,k,none⟩) (.inl rfl) _
   have HN:=Lib.hid (show Blk (wr.drew.setCell ⟨w.heap.size,k,none⟩ (.int .u64 ((lessN x y:Nat):Int))) w.heap.size 168 (wdC (mixW lessN a b (k + 1))).toArray∧Blk (wr.drew.setCell ⟨w.heap.size,k,none⟩ (.int .u64 ((lessN x y:Nat):Int))) (w.heap.size + 1) 168 (wdC b).toArray∧Blk (wr.drew.setCell ⟨w.heap.size,k,none⟩ (.int .u64 ((lessN x y:Nat):Int))) (w.heap.size + 1 + 1) 168 (wdC zero64).toArray∧Below w.heap.size w (wr.drew.setCell ⟨w.heap.size,k,none⟩ (.int .u64 ((lessN x y:Nat):Int))) from by
    refine ⟨?_,hB.out.drew.upd hb2 (by omega),hC.out.drew.upd hb2 (by omega),hbw.out.drew.trans (hb2.below (fun q _ e => Nat.le_of_eq e.symm) hbw.out.size)⟩
    have:=hA.out.drew.set k (.int .u64 ((lessN x y:Nat):Int))
    rw [wdC_set,mixW_set hab hx hy] at this
    exact this)
   clear hA hB hC hbw hb2 hx hy c1
   generalize hq:(lessN x y:Nat) = q at hop HN
   clear hq
   go_upto_region 4 with (fail)
   refine wp_region_ord (fun W => W.cell? ⟨w.heap.size,k,none⟩ = some (.int .u64 (x:Int))∧W.cell? ⟨w.heap.size + 1,k,none⟩ = some (.int .u64 (y:Int))) 8 [(0,true),(1,true),(2,true),(3,true),(4,true),(5,true),(6,true),(7,true),(8,false)] (by kernel_rfl) (by kernel_rfl) (fun _ _ d _ _ h => by cases d <;> exact h) hS ?_
   generalize wr.drew = V0 at hS c0 f0 HN ⊢
   iterate 8 (refine ord_takeA rfl ?_;(try simp only [Act.put,gA,gS,gZ,sA,sZ,sS]))
   refine ord_do rfl rfl (fun K hK => ?_)
   go_simp
   refine hK _ _ (fun h => absurd rfl h) ?_
   clear hK K hS c0 f0 hop
   (try simp only [Act.put,gA,gS,gZ,sA,sZ,sS])
   refine ord_done ?_
   generalize V0.setCell ⟨w.heap.size,k,none⟩ (.int .u64 (q:Int)) = W1 at HN ⊢
   go_wp2
   go_roundw
   case rel => exact ⟨k + 1,by omega,by go_num,Lib.hid HN.out.1,Lib.hid HN.out.2.1,Lib.hid HN.out.2.2.1,Lib.hid HN.out.2.2.2⟩
   case measure => simp [intOf];omega
  ·obtain rfl:k = 64:=by omega
   have hA2:=hA.out
   rw [mixW_all H.out.1.len H.out.2.1.len] at hA2
   have hz:Wd (List.zipWith lessN a b):=less_wd H.out.1 H.out.2.1
   have hrg:=range_blk hA2
   have hsz:=info_wd hz
   have hth:wr.there (w.heap.size + 1 + 1) 0 (wdC (List.zipWith lessN a b)).toArray.size:=there_blk hC.out (by simp [wdC_len,hz.len,zero64])
   have hsz2:(Tryz.prog.info? 168).map (·.size) = some (wdC (List.zipWith lessN a b)).toArray.size:=by simpa using hsz
   have h1c:(wdC (List.zipWith lessN a b)).toArray.all (·.oneCell') = true:=all_oneCell_toArray (one_wd _)
   have FIN:=Lib.hid (show Below w.heap.size w (wr.setCells (w.heap.size + 1 + 1) 0 (wdC (List.zipWith lessN a b)))∧(wr.setCells (w.heap.size + 1 + 1) 0 (wdC (List.zipWith lessN a b))).rangeAt (w.heap.size + 1 + 1) 0 (wdC (List.zipWith lessN a b)) from ⟨hbw.out.trans ((Upd.setCells (F:=fun q => q = w.heap.size + 1 + 1) (.inl rfl) _ _ (Upd.refl _ _)).below (fun q _ e => by omega) hbw.out.size),World.rangeAt_setCells_same _ _ _ _ (by simpa using hth)⟩)
   clear hA hB hC hbw hA2
   go_upto_region 6 with (fail)
   go_wp2_with (first | (refine wpList_load_mid rfl 168 _ rfl w.heap.size 0 rfl (wdC (List.zipWith lessN a b)) (.array 64 166) hrg Tryz.underlying168 rfl hsz ?_) | (refine wpList_store_mid rfl 168 _ _ rfl (w.heap.size + 1 + 1) 0 (wdC (List.zipWith lessN a b)).toArray rfl rfl hth hsz2 h1c ?_))
   have hlv:=run_loadVar_mid (P:=Tryz.prog) _ (w.heap.size + 1 + 1) 0 168 (wdC (List.zipWith lessN a b)) (.array 64 166) FIN.out.2 Tryz.underlying168 rfl hsz
   refine bodyPost_ret (v:=.agg (wdC (List.zipWith lessN a b)).toArray) (by simp [results,Tryz.f146,Act.put,asAddr,hlv,Result.andThen,Sem.run_bind]) rfl ⟨rfl,FIN.out.1⟩
theorem bor_any (w:World) (a b:List Nat) (ha:Wd a) (hb:Wd b):Calls Tryz.prog 147 #[wdV a,wdV b] w (Sam w (wdV (List.zipWith orN a b))):=by
 have k0:=((Blk.new w 168 (wdC a).toArray).alloc (.cells (wdC b).toArray 168)).alloc (.cells #[Value.int .u64 0,.int .u64 0,.int .u64 0,.int .u64 0,.int .u64 0,.int .u64 0,.int .u64 0,.int .u64 0,.int .u64 0,.int .u64 0,.int .u64 0,.int .u64 0,.int .u64 0,.int .u64 0,.int .u64 0,.int .u64 0,.int .u64 0,.int .u64 0,.int .u64 0,.int .u64 0,.int .u64 0,.int .u64 0,.int .u64 0,.int .u64 0,.int .u64 0,.int .u64 0,.int .u64 0,.int .u64 0,.int .u64 0,.int .u64 0,.int .u64 0,.int .u64 0,.int .u64 0,.int .u64 0,.int .u64 0,.int .u64 0,.int .u64 0,.int .u64 0,.int .u64 0,.int .u64 0,.int .u64 0,.int .u64 0,.int .u64 0,.int .u64 0,.int .u64 0,.int .u64 0,.int .u64 0,.int .u64 0,.int .u64 0,.int .u64 0,.int .u64 0,.int .u64 0,.int .u64 0,.int .u64 0,.int .u64 0,.int .u64 0,.int .u64 0,.int .u64 0,.int .u64 0,.int .u64 0,.int .u64 0,.int .u64 0,.int .u64 0,.int .u64 0] 168)
 have k1:=(Blk.new (w.alloc (.cells (wdC a).toArray 168)) 168 (wdC b).toArray).alloc (.cells #[Value.int .u64 0,.int .u64 0,.int .u64 0,.int .u64 0,.int .u64 0,.int .u64 0,.int .u64 0,.int .u64 0,.int .u64 0,.int .u64 0,.int .u64 0,.int .u64 0,.int .u64 0,.int .u64 0,.int .u64 0,.int .u64 0,.int .u64 0,.int .u64 0,.int .u64 0,.int .u64 0,.int .u64 0,.int .u64 0,.int .u64 0,.int .u64 0,.int .u64 0,.int .u64 0,.int .u64 0,.int .u64 0,.int .u64 0,.int .u64 0,.int .u64 0,.int .u64 0,.int .u64 0,.int .u64 0,.int .u64 0,.int .u64 0,.int .u64 0,.int .u64 0,.int .u64 0,.int .u64 0,.int .u64 0,.int .u64 0,.int .u64 0,.int .u64 0,.int .u64 0,.int .u64 0,.int .u64 0,.int .u64 0,.int .u64 0,.int .u64 0,.int .u64 0,.int .u64 0,.int .u64 0,.int .u64 0,.int .u64 0,.int .u64 0,.int .u64 0,.int .u64 0,.int .u64 0,.int .u64 0,.int .u64 0,.int .u64 0,.int .u64 0,.int .u64 0] 168)
 have k2:=Blk.new ((w.alloc (.cells (wdC a).toArray 168)).alloc (.cells (wdC b).toArray 168)) 168 #[Value.int .u64 0,.int .u64 0,.int .u64 0,.int .u64 0,.int .u64 0,.int .u64 0,.int .u64 0,.int .u64 0,.int .u64 0,.int .u64 0,.int .u64 0,.int .u64 0,.int .u64 0,.int .u64 0,.int .u64 0,.int .u64 0,.int .u64 0,.int .u64 0,.int .u64 0,.int .u64 0,.int .u64 0,.int .u64 0,.int .u64 0,.int .u64 0,.int .u64 0,.int .u64 0,.int .u64 0,.int .u64 0,.int .u64 0,.int .u64 0,.int .u64 0,.int .u64 0,.int .u64 0,.int .u64 0,.int .u64 0,.int .u64 0,.int .u64 0,.int .u64 0,.int .u64 0,.int .u64 0,.int .u64 0,.int .u64 0,.int .u64 0,.int .u64 0,.int .u64 0,.int .u64 0,.int .u64 0,.int .u64 0,.int .u64 0,.int .u64 0,.int .u64 0,.int .u64 0,.int .u64 0,.int .u64 0,.int .u64 0,.int .u64 0,.int .u64 0,.int .u64 0,.int .u64 0,.int .u64 0,.int .u64 0,.int .u64 0,.int .u64 0,.int .u64 0]
 simp only [World.size_alloc] at k1 k2
 have u0:Below w.heap.size w (((w.alloc (.cells (wdC a).toArray 168)).alloc (.cells (wdC b).toArray 168)).alloc (.cells #[Value.int .u64 0,.int .u64 0,.int .u64 0,.int .u64 0,.int .u64 0,.int .u64 0,.int .u64 0,.int .u64 0,.int .u64 0,.int .u64 0,.int .u64 0,.int .u64 0,.int .u64 0,.int .u64 0,.int .u64 0,.int .u64 0,.int .u64 0,.int .u64 0,.int .u64 0,.int .u64 0,.int .u64 0,.int .u64 0,.int .u64 0,.int .u64 0,.int .u64 0,.int .u64 0,.int .u64 0,.int .u64 0,.int .u64 0,.int .u64 0,.int .u64 0,.int .u64 0,.int .u64 0,.int .u64 0,.int .u64 0,.int .u64 0,.int .u64 0,.int .u64 0,.int .u64 0,.int .u64 0,.int .u64 0,.int .u64 0,.int .u64 0,.int .u64 0,.int .u64 0,.int .u64 0,.int .u64 0,.int .u64 0,.int .u64 0,.int .u64 0,.int .u64 0,.int .u64 0,.int .u64 0,.int .u64 0,.int .u64 0,.int .u64 0,.int .u64 0,.int .u64 0,.int .u64 0,.int .u64 0,.int .u64 0,.int .u64 0,.int .u64 0,.int .u64 0] 168)):=by (repeat (first | exact Below.refl _ _ | apply Below.drew | refine Below.alloc ?_ (by first | exact Nat.le_refl _ | (simp;done) | (simp;omega)) _ | refine Below.setCell ?_ (by first | exact Nat.le_refl _ | (simp;done) | (simp;omega)) _))
 have H:=Lib.hid (And.intro ha (And.intro hb (And.intro k0 (And.intro k1 (And.intro (zero64_blk.mp k2) u0)))))
 clear k0 k1 k2 u0 ha hb
 unfold wdV
 go_enter Tryz.func147,Tryz.ntmps147
 go_upto_region 1 with (fail)
 generalize ((w.alloc (.cells (wdC a).toArray 168)).alloc (.cells (wdC b).toArray 168)).alloc (.cells #[Value.int .u64 0,.int .u64 0,.int .u64 0,.int .u64 0,.int .u64 0,.int .u64 0,.int .u64 0,.int .u64 0,.int .u64 0,.int .u64 0,.int .u64 0,.int .u64 0,.int .u64 0,.int .u64 0,.int .u64 0,.int .u64 0,.int .u64 0,.int .u64 0,.int .u64 0,.int .u64 0,.int .u64 0,.int .u64 0,.int .u64 0,.int .u64 0,.int .u64 0,.int .u64 0,.int .u64 0,.int .u64 0,.int .u64 0,.int .u64 0,.int .u64 0,.int .u64 0,.int .u64 0,.int .u64 0,.int .u64 0,.int .u64 0,.int .u64 0,.int .u64 0,.int .u64 0,.int .u64 0,.int .u64 0,.int .u64 0,.int .u64 0,.int .u64 0,.int .u64 0,.int .u64 0,.int .u64 0,.int .u64 0,.int .u64 0,.int .u64 0,.int .u64 0,.int .u64 0,.int .u64 0,.int .u64 0,.int .u64 0,.int .u64 0,.int .u64 0,.int .u64 0,.int .u64 0,.int .u64 0,.int .u64 0,.int .u64 0,.int .u64 0,.int .u64 0] 168) = W0 at H ⊢
 go_wp2_with fail
 go_loopw [6] (fun i wr => ∃ k:Nat,k ≤ 64∧i = .int .i64 k∧Hid (Blk wr w.heap.size 168 (wdC (mixW orN a b k)).toArray)∧Hid (Blk wr (w.heap.size + 1) 168 (wdC b).toArray)∧Hid (Blk wr (w.heap.size + 1 + 1) 168 (wdC zero64).toArray)∧Hid (Below w.heap.size w wr)) (fun i _ => 64 - (intOf i).toNat)
 case atStart => exact ⟨0,Nat.zero_le _,rfl,Lib.hid (by rw [mixW_zero];exact H.out.2.2.1),Lib.hid H.out.2.2.2.1,Lib.hid H.out.2.2.2.2.1,Lib.hid H.out.2.2.2.2.2⟩
 case round =>
  obtain ⟨k,hk,rfl,hA,hB,hC,hbw⟩:=hrel
  have hab:a.length = b.length:=by rw [H.out.1.len,H.out.2.1.len]
  by_cases hlt:k < 64
  ·have hltI:(k:Int) < (64:Int):=by omega
   have hkw:IntKind.i64.wrap ((k:Int) + 1) = (k:Int) + 1:=IntWalk.i64_in _ (by omega)
   obtain ⟨x,hx⟩:∃ x,a[k]? = some x:=⟨a[k]'(by rw [H.out.1.len];exact hlt),List.getElem?_eq_getElem _⟩
   obtain ⟨y,hy⟩:∃ x,b[k]? = some x:=⟨b[k]'(by rw [H.out.2.1.len];exact hlt),List.getElem?_eq_getElem _⟩
   have hop:=u64_orN x y (H.out.1.fit x (List.mem_of_getElem? hx)) (H.out.2.1.fit y (List.mem_of_getElem? hy))
   have c0:wr.drew.cell? ⟨w.heap.size,k,none⟩ = some (.int .u64 (x:Int)):=(hA.out.drew.cell k).trans (by simpa using wdC_at (mixW_at (f:=orN) hab hx))
   have c1:wr.drew.cell? ⟨w.heap.size + 1,k,none⟩ = some (.int .u64 (y:Int)):=(hB.out.drew.cell k).trans (by simpa using wdC_at hy)
   have f0:wr.drew.frozen? ⟨w.heap.size,k,none⟩ = false:=hA.out.drew.frozen k
   have hS:wr.drew.cell? ⟨w.heap.size,k,none⟩ = some (.int .u64 (x:Int))∧wr.drew.cell? ⟨w.heap.size + 1,k,none⟩ = some (.int .u64 (y:Int)):=⟨c0,c1⟩
   have hb2:Upd (fun q => q = w.heap.size) wr.drew (wr.drew.setCell ⟨w.heap.size,k,none⟩ (.int .u64 ((orN x y:Nat):Int))):=(Upd.refl (fun q => q = w.heap.size) wr.drew).setCell (p:=⟨w.heap.size,k,none⟩) (.inl rfl) _
   have HN:=Lib.hid (show Blk (wr.drew.setCell ⟨w.heap.size,k,none⟩ (.int .u64 ((orN x y:Nat):Int))) w.heap.size 168 (wdC (mixW orN a b (k + 1))).toArray∧Blk (wr.drew.setCell ⟨w.heap.size,k,none⟩ (.int .u64 ((orN x y:Nat):Int))) (w.heap.size + 1) 168 (wdC b).toArray∧Blk (wr.drew.setCell ⟨w.heap.size,k,none⟩ (.int .u64 ((orN x y:Nat):Int))) (w.heap.size + 1 + 1) 168 (wdC zero64).toArray∧Below w.heap.size w (wr.drew.setCell ⟨w.heap.size,k,none⟩ (.int .u64 ((orN x y:Nat):Int))) from by
    refine ⟨?_,hB.out.drew.upd hb2 (by omega),hC.out.drew.upd hb2 (by omega),hbw.out.drew.trans (hb2.below (fun q _ e => Nat.le_of_eq e.symm) hbw.out.size)⟩
    have:=hA.out.drew.set k (.int .u64 ((orN x y:Nat):Int))
    rw [wdC_set,mixW_set hab hx hy] at this
    exact this)
   clear hA hB hC hbw hb2 hx hy c1
   generalize hq:(orN x y:Nat) = q at hop HN
   clear hq
   go_upto_region 4 with (fail)
   refine wp_region_ord (fun W => W.cell? ⟨w.heap.size,k,none⟩ = some (.int .u64 (x:Int))∧W.cell? ⟨w.heap.size + 1,k,none⟩ = some (.int .u64 (y:Int))) 8 [(0,true),(1,true),(2,true),(3,true),(4,true),(5,true),(6,true),(7,true),(8,false)] (by kernel_rfl) (by kernel_rfl) (fun _ _ d _ _ h => by cases d <;> exact h) hS ?_
   generalize wr.drew = V0 at hS c0 f0 HN ⊢
   iterate 8 (refine ord_takeA rfl ?_;(try simp only [Act.put,gA,gS,gZ,sA,sZ,sS]))
   refine ord_do rfl rfl (fun K hK => ?_)
   go_simp
   refine hK _ _ (fun h => absurd rfl h) ?_
   clear hK K hS c0 f0 hop
   (try simp only [Act.put,gA,gS,gZ,sA,sZ,sS])
   refine ord_done ?_
   generalize V0.setCell ⟨w.heap.size,k,none⟩ (.int .u64 (q:Int)) = W1 at HN ⊢
   go_wp2
   go_roundw
   case rel => exact ⟨k + 1,by omega,by go_num,Lib.hid HN.out.1,Lib.hid HN.out.2.1,Lib.hid HN.out.2.2.1,Lib.hid HN.out.2.2.2⟩
   case measure => simp [intOf];omega
  ·obtain rfl:k = 64:=by omega
   have hA2:=hA.out
   rw [mixW_all H.out.1.len H.out.2.1.len] at hA2
   have hz:Wd (List.zipWith orN a b):=or_wd H.out.1 H.out.2.1
   have hrg:=range_blk hA2
   have hsz:=info_wd hz
   have hth:wr.there (w.heap.size + 1 + 1) 0 (wdC (List.zipWith orN a b)).toArray.size:=there_blk hC.out (by simp [wdC_len,hz.len,zero64])
   have hsz2:(Tryz.prog.info? 168).map (·.size) = some (wdC (List.zipWith orN a b)).toArray.size:=by simpa using hsz
   have h1c:(wdC (List.zipWith orN a b)).toArray.all (·.oneCell') = true:=all_oneCell_toArray (one_wd _)
   have FIN:=Lib.hid (show Below w.heap.size w (wr.setCells (w.heap.size + 1 + 1) 0 (wdC (List.zipWith orN a b)))∧(wr.setCells (w.heap.size + 1 + 1) 0 (wdC (List.zipWith orN a b))).rangeAt (w.heap.size + 1 + 1) 0 (wdC (List.zipWith orN a b)) from ⟨hbw.out.trans ((Upd.setCells (F:=fun q => q = w.heap.size + 1 + 1) (.inl rfl) _ _ (Upd.refl _ _)).below (fun q _ e => by omega) hbw.out.size),World.rangeAt_setCells_same _ _ _ _ (by simpa using hth)⟩)
   clear hA hB hC hbw hA2
   go_upto_region 6 with (fail)
   go_wp2_with (first | (refine wpList_load_mid rfl 168 _ rfl w.heap.size 0 rfl (wdC (List.zipWith orN a b)) (.array 64 166) hrg Tryz.underlying168 rfl hsz ?_) | (refine wpList_store_mid rfl 168 _ _ rfl (w.heap.size + 1 + 1) 0 (wdC (List.zipWith orN a b)).toArray rfl rfl hth hsz2 h1c ?_))
   have hlv:=run_loadVar_mid (P:=Tryz.prog) _ (w.heap.size + 1 + 1) 0 168 (wdC (List.zipWith orN a b)) (.array 64 166) FIN.out.2 Tryz.underlying168 rfl hsz
   refine bodyPost_ret (v:=.agg (wdC (List.zipWith orN a b)).toArray) (by simp [results,Tryz.f147,Act.put,asAddr,hlv,Result.andThen,Sem.run_bind]) rfl ⟨rfl,FIN.out.1⟩
end Go.Proofs.YtddffnonlmfhdaaGreatDoor
namespace Go.Proofs.YtddffnonlmfhdaaGreatDoor
open Go.RowKit
theorem blkin_any (n:Nat) (hn:n < 64) (w:World):Calls Tryz.prog 143 #[.int .i64 (n:Int)] w (fun e w' => e = .returned (.bool true)∧w' = w):=by
 have h0:(0:Int) ≤ (n:Int):=by omega
 have h1:(n:Int) < 64:=by omega
 go_enter Tryz.func143,Tryz.ntmps143
 go_wp2
 go_ret
 exact ⟨rfl,rfl⟩
def bitW (r:List Nat) (i j:Nat):Bool:=(r[i]?.getD 0).testBit j
theorem and_one (x:Nat) (hx:x < 18446744073709551616) (j:Nat):(bits .and .u64 ((x:Int) / 2 ^ j) 1 == 1) = x.testBit j:=by
 rw [show ((x:Int) / 2 ^ j) = ((x / 2 ^ j:Nat):Int) by push_cast;rfl]
 have hlt:x / 2 ^ j < 18446744073709551616:=Nat.lt_of_le_of_lt (Nat.div_le_self _ _) hx
 have h:=bits_and_u64_nat (x / 2 ^ j) 1 hlt (by decide)
 have e:((1:Nat):Int) = 1:=rfl
 rw [e] at h
 rw [h,Nat.and_one_is_mod,Nat.testBit_eq_decide_div_mod_eq]
 by_cases hq:x / 2 ^ j % 2 = 1
 ·simp [hq]
 ·have:x / 2 ^ j % 2 = 0:=by omega
  simp [this]
theorem bget_any (w:World) (r:List Nat) (hr:Wd r) (i j:Nat) (hi:i < 64) (hj:j < 64):Calls Tryz.prog 118 #[wdV r,.int .i64 (i:Int),.int .i64 (j:Int)] w (Sam w (.tuple #[.bool (bitW r i j),.int .i64 0])):=by
 have k0:=Blk.new w 168 (wdC r).toArray
 have u0:Below w.heap.size w (w.alloc (.cells (wdC r).toArray 168)):=(Below.refl _ _).alloc (Nat.le_refl _) _
 obtain ⟨x,hx⟩:∃ x,r[i]? = some x:=⟨r[i]'(by rw [hr.len];exact hi),List.getElem?_eq_getElem _⟩
 have c0:(w.alloc (.cells (wdC r).toArray 168)).cell? ⟨w.heap.size,i,none⟩ = some (.int .u64 (x:Int)):=(k0.cell i).trans (by simpa using wdC_at hx)
 have hb:bitW r i j = x.testBit j:=by unfold bitW;rw [hx];rfl
 have ha:=and_one x (hr.fit x (List.mem_of_getElem? hx)) j
 rw [hb,← ha]
 have H:=Lib.hid u0
 have hiI:(i:Int) < (64:Int):=by omega
 have hj0:¬ ((j:Int) < 0):=by omega
 clear k0 u0 hx hr hb ha
 unfold wdV
 go_enter Tryz.func118,Tryz.ntmps118
 go_upto_region 1 with (fail)
 generalize w.alloc (.cells (wdC r).toArray 168) = W0 at H c0 ⊢
 go_wp2_with fail
 refine (blkin_any i hi W0).mono ?_
 rintro e w' ⟨rfl,hw⟩
 subst w'
 go_wp2_with fail
 refine (blkin_any j hj W0).mono ?_
 rintro e w' ⟨rfl,hw⟩
 subst w'
 go_wp2
 refine bodyPost_ret (v:=.tuple #[.bool (bits .and .u64 ((x:Int) / 2 ^ j) 1 == 1),.int .i64 0]) (by simp [results,Tryz.f118,go_sem]) rfl ⟨rfl,H.out⟩
theorem way_any (l:Nat) (hl:l ≤ 10) (w:World):Calls Tryz.prog 155 #[.int .i64 0,.int .i64 0,.int .i64 (l:Int)] w (Sam w (.int .i64 0)):=by
 have h0:¬ ((l:Int) < 0):=by omega
 have h1:bits .and .i64 0 1 = 0:=by decide +kernel
 have h2:wrap64 0 = 0:=by decide +kernel
 have h3:bits .or .i64 0 0 = 0:=by decide +kernel
 go_enter Tryz.func155,Tryz.ntmps155
 go_upto_region 1 with (fail)
 go_quiet (fail)
 go_wp2
 go_ret
 exact ⟨rfl,(Upd.refl (fun _ => False) w).drewN _ |>.below (fun _ _ h => h.elim) (Nat.le_refl _)⟩
end Go.Proofs.YtddffnonlmfhdaaGreatDoor
namespace Go.Proofs.YtddffnonlmfhdaaGreatDoor
open Go.RowKit
def putH (L:List Hp) (h:Hp):List Hp:=insAt L (posH L h) h
theorem posH_none {L:List Hp} {h:Hp} (hn:∀ x ∈ L,ltH x h = false):posH L h = 0:=by
 unfold posH
 rw [List.countP_eq_zero]
 intro x hx
 rw [hn x hx]
 simp
theorem putH_nil (h:Hp):putH [] h = [h]:=rfl
theorem putH_yes {x:Hp} {L:List Hp} {h:Hp} (hx:ltH x h = true):putH (x :: L) h = x :: putH L h:=by
 unfold putH posH insAt
 rw [List.countP_cons_of_pos (p:=fun x => ltH x h) hx]
 rfl
theorem putH_no {x:Hp} {L:List Hp} {h:Hp} (hup:Rises ltH (x :: L)) (hx:ltH x h = false):putH (x :: L) h = h :: x :: L:=by
 unfold putH insAt
 have h0:=(List.pairwise_cons.1 hup).1
 rw [posH_none (fun y hy => by
  rcases List.mem_cons.1 hy with rfl | hy
  ·exact hx
  ·cases e:ltH y h
   ·rfl
   ·rw [stoH.tr _ _ _ (h0 y hy) e] at hx
    cases hx)]
 rfl
theorem putH_mem {L:List Hp} {h y:Hp}:y ∈ putH L h ↔ y ∈ L ∨ y = h:=by
 unfold putH insAt
 rw [List.mem_append,List.mem_cons]
 have:y ∈ L ↔ y ∈ L.take (posH L h) ∨ y ∈ L.drop (posH L h):=by rw [← List.mem_append,List.take_append_drop]
 rw [this]
 constructor
 ·rintro (h | h | h)
  ·exact .inl (.inl h)
  ·exact .inr h
  ·exact .inl (.inr h)
 ·rintro ((h | h) | h)
  ·exact .inl h
  ·exact .inr (.inr h)
  ·exact .inr (.inl h)
theorem putH_rises:∀ {L:List Hp} {h:Hp},Rises ltH L→h ∉ L→Rises ltH (putH L h)
 | [],h,_,_ => by rw [putH_nil];exact List.pairwise_singleton _ _
 | x :: L,h,hup,hn => by
  have h0:=List.pairwise_cons.1 hup
  cases hx:ltH x h with
  | true =>
   rw [putH_yes hx]
   refine List.pairwise_cons.2 ⟨fun y hy => ?_,putH_rises h0.2 (fun e => hn (List.mem_cons_of_mem _ e))⟩
   rcases putH_mem.1 hy with h1 | rfl
   ·exact h0.1 y h1
   ·exact hx
  | false =>
   rw [putH_no hup hx]
   have hhx:ltH h x = true:=by
    cases e:ltH h x with
    | true => rfl
    | false => exact (hn (by rw [stoH.tri _ _ e hx];exact List.mem_cons_self ..)).elim
   refine List.pairwise_cons.2 ⟨fun y hy => ?_,hup⟩
   rcases List.mem_cons.1 hy with rfl | hy
   ·exact hhx
   ·exact stoH.tr _ _ _ hhx (h0.1 y hy)

theorem put_any (w:World) (base:Nat) (A:Option Addr) (c:Nat) (L:List Hp) (h:Hp) (own:w.ownsRow base 103 2 (.slice A L.length c) L.length (hpCells L)) (hup:Rises ltH L) (hb:base ≤ w.heap.size) (hl:(L.length + 1) * 24 ≤ 140737488355328) :
  Calls Tryz.prog 92 #[.slice A L.length c,h.agg] w (InsAt w base (.slice A L.length c) (putH L h)):=by
 unfold putH
 obtain ⟨i,hi⟩:∃ i,posH L h = i:=⟨_,rfl⟩
 have hil:i ≤ L.length:=by rw [← hi];exact posH_le L h
 rw [hi]
 obtain ⟨s0,s1⟩:=h
 have k0:=Blk.new w 103 #[.string s0,.int .i64 s1]
 have u0:Below w.heap.size w (w.alloc (.cells #[.string s0,.int .i64 s1] 103)):=(Below.refl _ _).alloc (Nat.le_refl _) _
 have H:=Lib.hid (And.intro (own.alloc (.cells #[.string s0,.int .i64 s1] 103)) (And.intro k0 (And.intro u0 (And.intro hup (And.intro (own.lt) hi)))))
 clear k0 u0 own hup hi
 unfold Hp.agg
 dsimp only
 go_enter Tryz.func92,Tryz.ntmps92
 go_upto_region 1 with (fail)
 generalize w.alloc (.cells #[.string s0,.int .i64 s1] 103) = W0 at H ⊢
 have q0:W0.cell? ⟨w.heap.size,0,none⟩ = some (.string s0):=H.out.2.1.cell 0
 have q1:W0.cell? ⟨w.heap.size,1,none⟩ = some (.int .i64 s1):=H.out.2.1.cell 1
 have hcon:=bsf_any W0 A c L ⟨s0,s1⟩ (RowR.of_own H.out.1) H.out.2.2.2.1 (by omega)
 rw [H.out.2.2.2.2.2] at hcon
 unfold Hp.agg at hcon
 dsimp only at hcon
 go_wp2_with fail
 refine hcon.mono ?_
 clear hcon q0 q1
 rintro e w1 ⟨rfl,b1⟩
 have k1:=H.out.2.1.upd (Upd.of_below b1 (fun _ => False)) id
 have k2:=Blk.new w1 103 #[.string s0,.int .i64 s1]
 have o2:=(ownsRow_upd H.out.1 (Upd.of_below b1 (fun _ => False)) (fun _ _ h => h)).alloc (.cells #[.string s0,.int .i64 s1] 103)
 have b2:Below w.heap.size w (w1.alloc (.cells #[.string s0,.int .i64 s1] 103)):=(H.out.2.2.1.trans (b1.mono H.out.2.2.1.size)).alloc (by have:=H.out.2.2.1.size;have:=b1.size;omega) _
 have q0:w1.cell? ⟨w.heap.size,0,none⟩ = some (.string s0):=k1.cell 0
 have q1:w1.cell? ⟨w.heap.size,1,none⟩ = some (.int .i64 s1):=k1.cell 1
 have hne:(Value.slice A L.length c).ownBlock ≠ some w1.heap.size:=fun e => by
  have:=(H.out.2.2.2.2.1 _ e).2
  have:=b2.size
  have:=H.out.2.2.1.size
  have:=b1.size
  omega
 have hcon:=insert_hop _ base A c L o2 w1.heap.size ⟨s0,s1⟩ k2 hne (by have:=b2.size;omega) i hil hl
 have HB:=Lib.hid b2
 clear k1 k2 o2 b2 b1
 go_wp2_with fail
 refine hcon.mono ?_
 clear hcon q0 q1
 generalize w1.alloc (.cells #[.string s0,.int .i64 s1] 103) = W2 at HB ⊢
 rintro e w3 ⟨A',c',rfl,o3,u3,p3⟩
 have FIN:=Lib.hid (show InsAt w base (.slice A L.length c) (insAt L i ⟨s0,s1⟩) (.returned (.slice A' (insAt L i ⟨s0,s1⟩).length c')) w3 from ⟨A',c',rfl,o3,(Upd.of_below HB.out _).trans u3 (fun k hk => .inl hk),fun k hk => by
  rcases p3 k hk with h | h
  ·exact .inl h
  ·exact .inr (by have:=HB.out.size;omega)⟩)
 clear o3 u3 p3
 go_wp2
 go_ret
 exact FIN.out
end Go.Proofs.YtddffnonlmfhdaaGreatDoor
