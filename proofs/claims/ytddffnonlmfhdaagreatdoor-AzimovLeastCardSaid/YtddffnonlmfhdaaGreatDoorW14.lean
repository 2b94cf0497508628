/- azimov: the first facts of a production of one label; azimov: the memory of fill: the closure, the work list, the uses; azimov: fill's loops, plain; azimov: fill. -/
import Derived.Test.YtddffnonlmfhdaaGreatDoorW13
import Derived.Deep.LoopGhost
import Derived.Laws.OwnMore
set_option linter.unusedVariables false
set_option linter.unusedSimpArgs false
set_option maxHeartbeats 16000000
set_option maxRecDepth 100000
namespace Go.Proofs.YtddffnonlmfhdaaGreatDoor
open Go.RowKit Go.Shelf
theorem first1_any (w:World) (F:Nat→Prop) (p side nts:Nat) (B:Mats) (h:ClS w F p side side nts B) (a k:Nat) (lab:Bool) (A:Option Addr) (cap:Nat) (hr:RowR w A (syCells [⟨lab,k⟩])) (ha:a < nts) (hs1:1 ≤ side) (hs64:side ≤ 64) (LA:Option Addr) (cl:Nat) (labels:List Txt) (hlab:RowR w LA (txtCells labels)) (lb:Txt) (hk:labels[k]? = some lb) (Fg:Nat→Prop) (pg:Nat) (G:Gr) (hG:GrS w Fg pg G) (ok:GOk G) (hn:G.N.length = side) :
  Calls Tryz.prog 110 #[.pointer (some ⟨p,0,none⟩),.agg #[.int .i64 (a:Int),.slice A 1 cap],.slice LA labels.length cl,.pointer (some ⟨pg,0,none⟩)] w (FirstQ w F p side side nts B (ElG G labels) ⟨(a:Int),[⟨lab,k⟩]⟩):=by
 obtain ⟨nodes,hnodes⟩:∃ nodes,side = nodes:=⟨_,rfl⟩
 have hnI:(1:Int) ≤ (nodes:Int):=by omega
 rw [show ClS w F p side side nts B = ClS w F p side nodes nts B by rw [← hnodes]] at h
 have GG:=Lib.hid (show ∀ e w',(∃ m,Gives (ElG G labels) nodes ⟨(a:Int),[⟨lab,k⟩]⟩ m∧e = .returned (.bool (moreQ (B a) m))∧ClTo w F p side nodes nts (upM B a (joinQ (B a) m)) w')→FirstQ w F p side side nts B (ElG G labels) ⟨(a:Int),[⟨lab,k⟩]⟩ e w' from fun e w' h => by
  subst hnodes
  exact h)
 obtain ⟨O,pv,ad,hi,rfl⟩:=h
 obtain ⟨gb,go,rfl,-⟩:=hr 0 (.bool lab) rfl
 obtain ⟨lg,lo,rfl,-⟩:=hlab.txt hk
 obtain ⟨g,gc,rfl,-,-,-,-,-⟩:=own_cells hi.rows (by omega)
 have b1:Below w.heap.size w (w.alloc (.cells #[.int .i64 (a:Int),.slice (some ⟨gb,go,none⟩) 1 cap] 71)):=(Below.refl _ _).alloc (Nat.le_refl _) _
 have k1:=Blk.new w 71 #[.int .i64 (a:Int),.slice (some ⟨gb,go,none⟩) 1 cap]
 have hi1:=hi.upd (Upd.of_below b1 (fun _ => False)) (fun _ _ => id)
 have SF:∀ W,Below (w.alloc (.cells #[.int .i64 (a:Int),.slice (some ⟨gb,go,none⟩) 1 cap] 71)).heap.size (w.alloc (.cells #[.int .i64 (a:Int),.slice (some ⟨gb,go,none⟩) 1 cap] 71)) W →
   W.cell? ⟨p,1,none⟩ = some (.slice (some ⟨g,0,none⟩) nts gc)∧W.cell? ⟨w.heap.size,0,none⟩ = some (.int .i64 (a:Int))∧W.cell? ⟨g,a,none⟩ = some (.pointer (some ⟨ad a,0,none⟩)):=fun W hW => by
  have hi2:=hi1.upd (Upd.of_below hW (fun _ => False)) (fun _ _ => id)
  have k2:=k1.upd (Upd.of_below hW (fun _ => False)) id
  obtain ⟨g',c',e,-,-,-,-,hg⟩:=own_cells hi2.rows (by omega)
  injection e with e
  injection e with e
  injection e with e
  subst e
  exact ⟨hi2.blk.cell 1,k2.cell 0,(hg a _ (ptC_at ha)).1⟩
 have HX:=Lib.hid (And.intro hi1 b1)
 have HS:=Lib.hid SF
 have haI:(a:Int) < (nts:Int):=by omega
 have qn:(w.alloc (.cells #[.int .i64 (a:Int),.slice (some ⟨gb,go,none⟩) 1 cap] 71)).cell? ⟨p,0,none⟩ = some (.int .i64 (nodes:Int)):=hi1.blk.cell 0
 have qs:(w.alloc (.cells #[.int .i64 (a:Int),.slice (some ⟨gb,go,none⟩) 1 cap] 71)).cell? ⟨w.heap.size,1,none⟩ = some (.slice (some ⟨gb,go,none⟩) 1 cap):=k1.cell 1
 have hr1:=hr.below3 b1
 have hl1:=hlab.below3 b1
 have S7:=Lib.hid (show ∀ W,Below (w.alloc (.cells #[.int .i64 (a:Int),.slice (some ⟨gb,go,none⟩) 1 cap] 71)).heap.size (w.alloc (.cells #[.int .i64 (a:Int),.slice (some ⟨gb,go,none⟩) 1 cap] 71)) W →
   W.cell? ⟨w.heap.size,1,none⟩ = some (.slice (some ⟨gb,go,none⟩) 1 cap)∧W.cell? ⟨gb,go + 1,none⟩ = some (.int .i64 (k:Int))∧W.cell? ⟨lg,lo + k,none⟩ = some (.string lb)∧W.cell? ⟨p,0,none⟩ = some (.int .i64 (nodes:Int)) from fun W hW => by
  have hi2:=hi1.upd (Upd.of_below hW (fun _ => False)) (fun _ _ => id)
  have k2:=k1.upd (Upd.of_below hW (fun _ => False)) id
  have hr2:=hr1.below3 hW
  obtain ⟨b',o',e,c1⟩:=hr2 1 (.int .i64 (k:Int)) rfl
  injection e with e
  injection e with e1 e2
  subst e1
  subst e2
  obtain ⟨b',o',e,c2⟩:=(hl1.below3 hW).txt hk
  injection e with e
  injection e with e1 e2
  subst e1
  subst e2
  exact ⟨k2.cell 1,c1,c2,hi2.blk.cell 0⟩)
 have HG0:=Lib.hid (And.intro (hG.below b1) (And.intro ok (And.intro hn hk)))
 have hkI:(k:Int) < (labels.length:Int):=by have:=(List.getElem?_eq_some_iff.1 hk).1;omega
 have hn64:nodes ≤ 64:=by omega
 have HN:=Lib.hid hnodes
 clear hi b1 k1 hi1 SF hnodes hr hlab hG ok hn hk hr1 hl1
 obtain ⟨nl,hnl⟩:∃ nl,labels.length = nl:=⟨_,rfl⟩
 rw [hnl] at hkI ⊢
 clear hnl
 go_enter Tryz.func110,Tryz.ntmps110
 go_upto_region 7 with (fail)
 generalize w.alloc (.cells #[.int .i64 (a:Int),.slice (some ⟨gb,go,none⟩) 1 cap] 71) = W1 at HX HS S7 HG0 qn qs ⊢
 generalize w.heap.size = z at HS S7 qs ⊢
 have HB1:=Lib.hid (show Below W1.heap.size W1 W1.drew from (Below.refl _ _).drew)
 have hS:=S7.out W1.drew HB1.out
 refine wp_region_late (fun W:World => W.cell? ⟨z,1,none⟩ = some (.slice (some ⟨gb,go,none⟩) 1 cap)∧W.cell? ⟨gb,go + 1,none⟩ = some (.int .i64 (k:Int))∧W.cell? ⟨lg,lo + k,none⟩ = some (.string lb)∧W.cell? ⟨p,0,none⟩ = some (.int .i64 (nodes:Int))) (lateFrom 13) (by kernel_rfl) ?_
 generalize W1.drew = V1 at HB1 hS ⊢
 intro hd
 (refine late_takeA (i:=0) rfl hd hS ?_;clear hd;intro hd;(try simp only [Act.put,gA,gZ,sA,sZ,sS]))
 (refine late_takeA (i:=1) rfl hd hS ?_;clear hd;intro hd;(try simp only [Act.put,gA,gS,gZ,sA,sZ,sS]))
 (refine late_takeA (i:=2) rfl hd hS ?_;clear hd;intro hd;(try simp only [Act.put,gA,gS,gZ,sA,sZ,sS]))
 (refine late_takeA (i:=3) rfl hd hS ?_;clear hd;intro hd;(try simp only [Act.put,gA,gS,gZ,sA,sZ,sS]))
 (refine late_takeA (i:=4) rfl hd hS ?_;clear hd;intro hd;(try simp only [Act.put,gA,gS,gZ,sA,sZ,sS]))
 (refine late_takeA (i:=5) rfl hd hS ?_;clear hd;intro hd;(try simp only [Act.put,gA,gS,gZ,sA,sZ,sS]))
 (refine late_takeA (i:=6) rfl hd hS ?_;clear hd;intro hd;(try simp only [Act.put,gA,gS,gZ,sA,sZ,sS]))
 (refine late_takeA (i:=7) rfl hd hS ?_;clear hd;intro hd;(try simp only [Act.put,gA,gS,gZ,sA,sZ,sS]))
 (refine late_takeA (i:=8) rfl hd hS ?_;clear hd;intro hd;(try simp only [Act.put,gA,gS,gZ,sA,sZ,sS]))
 (refine late_takeA (i:=9) rfl hd hS ?_;clear hd;intro hd;(try simp only [Act.put,gA,gS,gZ,sA,sZ,sS]))
 (refine late_takeA (i:=10) rfl hd hS ?_;clear hd;intro hd;(try simp only [Act.put,gA,gS,gZ,sA,sZ,sS]))
 (refine late_takeA (i:=11) rfl hd hS ?_;clear hd;intro hd;(try simp only [Act.put,gA,gS,gZ,sA,sZ,sS]))
 (refine late_takeA (i:=12) rfl hd hS ?_;clear hd;intro hd;(try simp only [Act.put,gA,gS,gZ,sA,sZ,sS]))
 have hcon:=matrix_gr V1 Fg pg G (HG0.out.1.below HB1.out) HG0.out.2.1 lb nodes (by rw [HG0.out.2.2.1,HN.out];exact Nat.le_refl _) (by omega) (by omega)
 clear hS
 refine late_run hd (L:=[13]) (by kernel_rfl) (by decide) (fun ix hix hd2 => ?_)
 clear hd
 have hd:=hd2
 clear hd2
 simp only [List.mem_cons,List.not_mem_nil,or_false] at hix
 subst hix
 refine late_do (S:=(fun W:World => W.cell? ⟨z,1,none⟩ = some (.slice (some ⟨gb,go,none⟩) 1 cap)∧W.cell? ⟨gb,go + 1,none⟩ = some (.int .i64 (k:Int))∧W.cell? ⟨lg,lo + k,none⟩ = some (.string lb)∧W.cell? ⟨p,0,none⟩ = some (.int .i64 (nodes:Int)))) (late:=lateFrom 13) rfl rfl (fun K hK => ?_)
 go_simp
 refine hcon.mono ?_
 clear hcon
 rintro e W2 ⟨q,m,rfl,hfr,b2,hmat⟩
 have HG:Hid (Gives (ElG G labels) nodes ⟨(a:Int),[⟨lab,k⟩]⟩ m):=Lib.hid (by
  obtain ⟨Fm,hq,-⟩:=hfr
  exact mat_gives hq.wdO rfl (by rw [Int.toNat_natCast];exact HG0.out.2.2.2) hmat)
 rw [← HN.out] at hfr
 have HQ:=Lib.hid hfr
 have B2:=Lib.hid (HB1.out.trans (b2.mono HB1.out.size))
 clear hfr b2 hmat
 refine hK _ _ (fun h _ => absurd h (by decide)) ?_
 clear hK K
 (try simp only [Act.put,gA,gS,gZ,sA,sZ,sS])
 (refine late_take0 (i:=14) (v:=?_) rfl (by kernel_rfl) hd (fun _ _ d _ _ h => by cases d <;> exact h) (by first | with_reducible rfl | kernel_rfl) ?_ ?_;rotate_left;(focus (intro wS;go_simp;(try with_reducible rfl);done));clear hd;intro hd;(try simp only [Act.put,gA,gS,gZ,sA,sZ,sS]))
 (refine late_take0 (i:=15) (v:=?_) rfl (by kernel_rfl) hd (fun _ _ d _ _ h => by cases d <;> exact h) (by first | with_reducible rfl | kernel_rfl) ?_ ?_;rotate_left;(focus (intro wS;go_simp;(try with_reducible rfl);done));clear hd;intro hd;(try simp only [Act.put,gA,gS,gZ,sA,sZ,sS]))
 (refine late_take0 (i:=16) (v:=?_) rfl (by kernel_rfl) hd (fun _ _ d _ _ h => by cases d <;> exact h) (by first | with_reducible rfl | kernel_rfl) ?_ ?_;rotate_left;(focus (intro wS;go_simp;(try with_reducible rfl);done));clear hd;intro hd;(try simp only [Act.put,gA,gS,gZ,sA,sZ,sS]))
 (refine late_take0 (i:=17) (v:=?_) rfl (by kernel_rfl) hd (fun _ _ d _ _ h => by cases d <;> exact h) (by first | with_reducible rfl | kernel_rfl) ?_ ?_;rotate_left;(focus (intro wS;go_simp;(try with_reducible rfl);done));clear hd;intro hd;(try simp only [Act.put,gA,gS,gZ,sA,sZ,sS]))
 refine late_done (by kernel_rfl) ?_
 go_upto_region 8 with (fail)
 have HB3:=Lib.hid (show Below W2.heap.size W2 W2.drew from (Below.refl _ _).drew)
 have hS:=HS.out W2.drew (B2.out.trans (HB3.out.mono B2.out.size))
 refine wp_region_late (fun W:World => W.cell? ⟨p,1,none⟩ = some (.slice (some ⟨g,0,none⟩) nts gc)∧W.cell? ⟨z,0,none⟩ = some (.int .i64 (a:Int))∧W.cell? ⟨g,a,none⟩ = some (.pointer (some ⟨ad a,0,none⟩))) (lateFrom 9) (by kernel_rfl) ?_
 generalize W2.drew = W3 at HB3 hS ⊢
 intro hd
 (refine late_takeA (i:=0) rfl hd hS ?_;clear hd;intro hd;(try simp only [Act.put,gA,gZ,sA,sZ,sS]))
 (refine late_takeA (i:=1) rfl hd hS ?_;clear hd;intro hd;(try simp only [Act.put,gA,gS,gZ,sA,sZ,sS]))
 (refine late_takeA (i:=2) rfl hd hS ?_;clear hd;intro hd;(try simp only [Act.put,gA,gS,gZ,sA,sZ,sS]))
 (refine late_takeA (i:=3) rfl hd hS ?_;clear hd;intro hd;(try simp only [Act.put,gA,gS,gZ,sA,sZ,sS]))
 (refine late_takeA (i:=4) rfl hd hS ?_;clear hd;intro hd;(try simp only [Act.put,gA,gS,gZ,sA,sZ,sS]))
 (refine late_takeA (i:=5) rfl hd hS ?_;clear hd;intro hd;(try simp only [Act.put,gA,gS,gZ,sA,sZ,sS]))
 (refine late_takeA (i:=6) rfl hd hS ?_;clear hd;intro hd;(try simp only [Act.put,gA,gS,gZ,sA,sZ,sS]))
 (refine late_takeA (i:=7) rfl hd hS ?_;clear hd;intro hd;(try simp only [Act.put,gA,gS,gZ,sA,sZ,sS]))
 (refine late_takeA (i:=8) rfl hd hS ?_;clear hd;intro hd;(try simp only [Act.put,gA,gS,gZ,sA,sZ,sS]))
 have hint:Hid (∃ Fa Fm,QuS W3 Fa (ad a) side (B a)∧QuS W3 Fm q side m∧(∀ q,Fa q→O q = some (.mat a))∧ClI W3 O p side nodes nts (.slice (some ⟨g,0,none⟩) nts gc) ad B):=Lib.hid (by
  have hi3:=HX.out.1.upd (Upd.of_below (B2.out.trans (HB3.out.mono B2.out.size)) (fun _ => False)) (fun _ _ => id)
  obtain ⟨Fa,a1,a2⟩:=hi3.mats a ha
  obtain ⟨Fm,m1,-⟩:=HQ.out
  exact ⟨Fa,Fm,a1,m1.below HB3.out,a2,hi3⟩)
 obtain ⟨Fa,Fm,a1,m1,a2,i3⟩:=hint.out
 have hcon:=qjoin_any W3 Fa Fm (ad a) q side (B a) m a1 m1
 have HI:=Lib.hid (And.intro i3 a2)
 clear a1 m1 i3 a2 hint hS
 refine late_run hd (L:=[9]) (by kernel_rfl) (by decide) (fun ix hix hd2 => ?_)
 clear hd
 have hd:=hd2
 clear hd2
 simp only [List.mem_cons,List.not_mem_nil,or_false] at hix
 subst hix
 refine late_do (S:=(fun W:World => W.cell? ⟨p,1,none⟩ = some (.slice (some ⟨g,0,none⟩) nts gc)∧W.cell? ⟨z,0,none⟩ = some (.int .i64 (a:Int))∧W.cell? ⟨g,a,none⟩ = some (.pointer (some ⟨ad a,0,none⟩)))) (late:=lateFrom 9) rfl rfl (fun K hK => ?_)
 go_simp
 refine hcon.mono ?_
 clear hcon
 rintro e W4 ⟨rfl,hto⟩
 have FIN:=Lib.hid (show ClTo w (fun q => O q ≠ none) p side nodes nts (upM B a (joinQ (B a) m)) W4 from (ClTo.after (HX.out.2.trans ((B2.out.trans (HB3.out.mono B2.out.size)).mono HX.out.2.size)) (HI.out.1.turn HI.out.2 hto)))
 clear hto
 refine hK _ _ (fun h _ => absurd h (by decide)) ?_
 clear hK K
 (try simp only [Act.put,gA,gS,gZ,sA,sZ,sS])
 (refine late_take0 (i:=10) (v:=?_) rfl (by kernel_rfl) hd (fun _ _ d _ _ h => by cases d <;> exact h) (by first | with_reducible rfl | kernel_rfl) ?_ ?_;rotate_left;(focus (intro wS;go_simp;(try with_reducible rfl);done));clear hd;intro hd;(try simp only [Act.put,gA,gS,gZ,sA,sZ,sS]))
 (refine late_take0 (i:=11) (v:=?_) rfl (by kernel_rfl) hd (fun _ _ d _ _ h => by cases d <;> exact h) (by first | with_reducible rfl | kernel_rfl) ?_ ?_;rotate_left;(focus (intro wS;go_simp;(try with_reducible rfl);done));clear hd;intro hd;(try simp only [Act.put,gA,gS,gZ,sA,sZ,sS]))
 (refine late_take0 (i:=12) (v:=?_) rfl (by kernel_rfl) hd (fun _ _ d _ _ h => by cases d <;> exact h) (by first | with_reducible rfl | kernel_rfl) ?_ ?_;rotate_left;(focus (intro wS;go_simp;(try with_reducible rfl);done));clear hd;intro hd;(try simp only [Act.put,gA,gS,gZ,sA,sZ,sS]))
 (refine late_take0 (i:=13) (v:=?_) rfl (by kernel_rfl) hd (fun _ _ d _ _ h => by cases d <;> exact h) (by first | with_reducible rfl | kernel_rfl) ?_ ?_;rotate_left;(focus (intro wS;go_simp;(try with_reducible rfl);done));clear hd;intro hd;(try simp only [Act.put,gA,gS,gZ,sA,sZ,sS]))
 (refine late_take0 (i:=14) (v:=?_) rfl (by kernel_rfl) hd (fun _ _ d _ _ h => by cases d <;> exact h) (by first | with_reducible rfl | kernel_rfl) ?_ ?_;rotate_left;(focus (intro wS;go_simp;(try with_reducible rfl);done));clear hd;intro hd;(try simp only [Act.put,gA,gS,gZ,sA,sZ,sS]))
 refine late_done (by kernel_rfl) ?_
 go_wp2
 go_ret
 exact GG.out _ _ ⟨m,HG.out,rfl,FIN.out⟩
end Go.Proofs.YtddffnonlmfhdaaGreatDoor
namespace Go.Proofs.YtddffnonlmfhdaaGreatDoor
open Go.RowKit Go.Shelf
structure Pv where
 pr:Pr
 adr:Option Addr
 cap:Nat
def Pv.cells (v:Pv):List Value:=[.int .i64 v.pr.head,.slice v.adr v.pr.body.length v.cap]
def pvCells (l:List Pv):List Value:=l.flatMap Pv.cells
theorem pvCells_app (l:List Pv) (v:Pv):pvCells (l ++ [v]) = pvCells l ++ v.cells:=by simp [pvCells]
theorem pvCells_at {l:List Pv} {k:Nat} {v:Pv} (h:l[k]? = some v):(pvCells l)[k * 2]? = some (.int .i64 v.pr.head)∧(pvCells l)[k * 2 + 1]? = some (.slice v.adr v.pr.body.length v.cap):=
 ⟨flat_get Pv.cells 2 (fun _ => rfl) l k 0 v h (by omega),flat_get Pv.cells 2 (fun _ => rfl) l k 1 v h (by omega)⟩
theorem RowR.pv {w:World} {A:Option Addr} {l:List Pv} (h:RowR w A (pvCells l)) {k:Nat} {v:Pv} (hk:l[k]? = some v) :
  ∃ b o,A = some ⟨b,o,none⟩∧w.cell? ⟨b,o + k * 2,none⟩ = some (.int .i64 v.pr.head)∧w.cell? ⟨b,o + k * 2 + 1,none⟩ = some (.slice v.adr v.pr.body.length v.cap):=by
 obtain ⟨b,o,rfl,c0⟩:=h _ _ (pvCells_at hk).1
 obtain ⟨b',o',e,c1⟩:=h _ _ (pvCells_at hk).2
 injection e with e
 injection e with e1 e2
 subst e1
 subst e2
 exact ⟨b,o,rfl,c0,c1⟩
def PvR (w:World) (A:Option Addr) (l:List Pv):Prop:=RowR w A (pvCells l)∧∀ v ∈ l,RowR w v.adr (syCells v.pr.body)
theorem PvR.below {w w':World} {A:Option Addr} {l:List Pv} (h:PvR w A l) (hb:Below w.heap.size w w'):PvR w' A l:=⟨h.1.below3 hb,fun v hv => (h.2 v hv).below3 hb⟩

def uvC (uv:Nat→Value) (nts:Nat):List Value:=(List.range nts).map uv
theorem uvC_at {uv:Nat→Value} {nts k:Nat} (h:k < nts):(uvC uv nts)[k]? = some (uv k):=by simp [uvC,h]
structure UsI (w:World) (U:Nat→Option (Option Nat)) (u nts:Nat) (uv:Nat→Value) (Q:Nat→List Pv):Prop where
 blk:Blk w u 48 (uvC uv nts).toArray
 rows:∀ k,k < nts→w.ownsRow 0 71 2 (uv k) (Q k).length (pvCells (Q k))
 ou:U u = some none
 our:∀ k,k < nts→∀ q,(uv k).ownBlock = some q→U q = some (some k)
 lt:∀ q,U q ≠ none→q < w.heap.size
theorem UsI.upd {w w':World} {U:Nat→Option (Option Nat)} {u nts:Nat} {uv:Nat→Value} {Q:Nat→List Pv} {G:Nat→Prop} (h:UsI w U u nts uv Q) (hu:Upd G w w') (hd:∀ q,U q ≠ none→¬ G q):UsI w' U u nts uv Q:=by
 have no:∀ k t,U k = some t→¬ G k:=fun k t e => hd k (by simp [e])
 exact ⟨h.blk.upd hu (no _ _ h.ou),fun k hk => ownsRow_upd (h.rows k hk) hu (fun q hq => no _ _ (h.our k hk q hq)),h.ou,h.our,fun q hq => Nat.lt_of_lt_of_le (h.lt q hq) hu.size⟩
structure FilS (w V:World) (F:Nat→Prop) (p n nts pw pm u:Nat) (X:Nat→Prop) (B:Mats) (L:List Int) (Q:Nat→List Pv) (FC:Nat→Prop) (lv:Value) (U:Nat→Option (Option Nat)) (uv:Nat→Value):Prop where
 cl:ClS V FC p n n nts B
 wk:WkI V pw pm nts lv L
 us:UsI V U u nts uv Q
 up:Upd F w V
 c1:∀ k,FC k→F k ∨ w.heap.size ≤ k
 c2:∀ k,WkF pw pm lv k→w.heap.size ≤ k
 c3:∀ k,U k ≠ none→w.heap.size ≤ k
 d12:∀ k,FC k→¬ WkF pw pm lv k
 d13:∀ k,FC k→U k = none
 d23:∀ k,WkF pw pm lv k→U k = none
 x0:∀ k,X k→k < V.heap.size
 x1:∀ k,X k→¬ FC k
 x2:∀ k,X k→¬ WkF pw pm lv k
 x3:∀ k,X k→U k = none
def FilM (w V:World) (F:Nat→Prop) (p n nts pw pm u:Nat) (X:Nat→Prop) (B:Mats) (L:List Int) (Q:Nat→List Pv):Prop:=∃ FC lv U uv,FilS w V F p n nts pw pm u X B L Q FC lv U uv
theorem WkI.lts {w:World} {p m nts:Nat} {lv:Value} {L:List Int} (h:WkI w p m nts lv L):∀ k,WkF p m lv k→k < w.heap.size:=fun k hk => by
 rcases hk with e | e | e
 ·subst e;exact h.ch.1.lt
 ·subst e;exact h.mks.lt
 ·exact (h.ch.2.lt k e).2
theorem cell_keep {w w':World} (hb:Below w.heap.size w w') {q:Addr} {v:Value} (hc:w.cell? q = some v):w'.cell? q = some v:=by
 rw [hb.cell (World.block_lt_of_cell? w _ hc)];exact hc
def NoX (_:Nat):Prop:=False
section
variable {w V V':World} {F X:Nat→Prop} {p n nts pw pm u:Nat} {B:Mats} {L:List Int} {Q:Nat→List Pv}
theorem FilM.below (h:FilM w V F p n nts pw pm u X B L Q) (hb:Below V.heap.size V V'):FilM w V' F p n nts pw pm u X B L Q:=by
 obtain ⟨FC,lv,U,uv,h⟩:=h
 have hu:=Upd.of_below hb (fun _ => False)
 exact ⟨FC,lv,U,uv,h.cl.below hb,h.wk.upd hu id id (fun _ _ => id),h.us.upd hu (fun _ _ => id),h.up.trans hu (fun _ h => h.elim),h.c1,h.c2,h.c3,h.d12,h.d13,h.d23,fun k hk => Nat.lt_of_lt_of_le (h.x0 k hk) hb.size,h.x1,h.x2,h.x3⟩
theorem FilM.box (h:FilM w V F p n nts pw pm u NoX B L Q) (o:Obj):FilM w (V.alloc o) F p n nts pw pm u (fun k => k = V.heap.size) B L Q:=by
 have h1:=h.below (V':=V.alloc o) ((Below.refl _ _).alloc (Nat.le_refl _) _)
 obtain ⟨FC,lv,U,uv,h⟩:=h
 have hu:=Upd.of_below ((Below.refl V.heap.size V).alloc (Nat.le_refl _) o) (fun _ => False)
 refine ⟨FC,lv,U,uv,h.cl.upd hu (fun _ _ => id),h.wk.upd hu id id (fun _ _ => id),h.us.upd hu (fun _ _ => id),h.up.trans hu (fun _ h => h.elim),h.c1,h.c2,h.c3,h.d12,h.d13,h.d23,fun k hk => by subst hk;simp,fun k hk e => ?_,fun k hk e => ?_,fun k hk => ?_⟩
 ·have:=h.cl.lt k e;omega
 ·have:=h.wk.lts k e;omega
 ·cases hU:U k with
  | none => rfl
  | some t => have:=h.us.lt k (by rw [hU];exact nofun);omega
theorem FilM.bare (h:FilM w V F p n nts pw pm u X B L Q):FilM w V F p n nts pw pm u NoX B L Q:=by
 obtain ⟨FC,lv,U,uv,h⟩:=h
 exact ⟨FC,lv,U,uv,h.cl,h.wk,h.us,h.up,h.c1,h.c2,h.c3,h.d12,h.d13,h.d23,fun _ hk => hk.elim,fun _ hk => hk.elim,fun _ hk => hk.elim,fun _ hk => hk.elim⟩
theorem FilM.turn (h:FilM w V F p n nts pw pm u X B L Q):∃ FC,ClS V FC p n n nts B∧∀ B' V',ClTo V FC p n n nts B' V'→FilM w V' F p n nts pw pm u X B' L Q∧(∀ o,V'.cell? ⟨u,o,none⟩ = V.cell? ⟨u,o,none⟩)∧∀ b o,X b→V'.cell? ⟨b,o,none⟩ = V.cell? ⟨b,o,none⟩:=by
 obtain ⟨FC,lv,U,uv,h⟩:=h
 refine ⟨FC,h.cl,fun B' V' ⟨F',h1,h2,h3⟩ => ⟨⟨F',lv,U,uv,h1,h.wk.upd h2 (fun e => h.d12 _ e (.inl rfl)) (fun e => h.d12 _ e (.inr (.inl rfl))) (fun k hk e => h.d12 _ e (.inr (.inr hk))),h.us.upd h2 (fun q hq e => hq (h.d13 q e)),h.up.trans h2 h.c1,fun k hk => ?_,h.c2,h.c3,fun k hk e => ?_,fun k hk => ?_,h.d23,fun k hk => Nat.lt_of_lt_of_le (h.x0 k hk) h2.size,fun k hk e => ?_,h.x2,h.x3⟩,
  fun o => h2.cell (p:=⟨u,o,none⟩) h.us.blk.lt (fun e => by have:=h.d13 _ e;rw [h.us.ou] at this;cases this),fun b o hb => h2.cell (p:=⟨b,o,none⟩) (h.x0 b hb) (h.x1 b hb)⟩⟩
 ·rcases h3 k hk with h4 | h4
  ·exact h.c1 k h4
  ·exact .inr (Nat.le_trans h.up.size h4)
 ·rcases h3 k hk with h4 | h4
  ·exact h.d12 k h4 e
  ·have:=h.wk.lts k e;omega
 ·rcases h3 k hk with h4 | h4
  ·exact h.d13 k h4
  ·cases hU:U k with
   | none => rfl
   | some t => have:=h.us.lt k (by rw [hU];exact nofun);omega
 ·rcases h3 k e with h4 | h4
  ·exact h.x1 k hk h4
  ·have:=h.x0 k hk;omega
theorem FilM.work (h:FilM w V F p n nts pw pm u X B L Q):∃ lv,WkI V pw pm nts lv L∧∀ C V',WkT V pw pm nts lv C V'→(∃ L',C L'∧FilM w V' F p n nts pw pm u X B L' Q)∧(∀ o,V'.cell? ⟨u,o,none⟩ = V.cell? ⟨u,o,none⟩)∧∀ b o,X b→V'.cell? ⟨b,o,none⟩ = V.cell? ⟨b,o,none⟩:=by
 obtain ⟨FC,lv,U,uv,h⟩:=h
 refine ⟨lv,h.wk,fun C V' ⟨lv',L',h1,h2,h3,h4⟩ => ⟨⟨L',h2,FC,lv',U,uv,h.cl.upd h3 h.d12,h1,h.us.upd h3 (fun q hq e => hq (h.d23 q e)),h.up.trans h3 (fun k hk => .inr (h.c2 k hk)),h.c1,fun k hk => ?_,h.c3,fun k hk e => ?_,h.d13,fun k hk => ?_,fun k hk => Nat.lt_of_lt_of_le (h.x0 k hk) h3.size,h.x1,fun k hk e => ?_,h.x3⟩,
  fun o => h3.cell (p:=⟨u,o,none⟩) h.us.blk.lt (fun e => by have:=h.d23 _ e;rw [h.us.ou] at this;cases this),fun b o hb => h3.cell (p:=⟨b,o,none⟩) (h.x0 b hb) (h.x2 b hb)⟩⟩
 ·rcases hk with e | e | e
  ·exact h.c2 k (.inl e)
  ·exact h.c2 k (.inr (.inl e))
  ·rcases h4 k e with e | e
   ·exact h.c2 k (.inr (.inr e))
   ·exact Nat.le_trans h.up.size e
 ·rcases e with e | e | e
  ·exact h.d12 k hk (.inl e)
  ·exact h.d12 k hk (.inr (.inl e))
  ·rcases h4 k e with e | e
   ·exact h.d12 k hk (.inr (.inr e))
   ·have:=h.cl.lt k hk;omega
 ·rcases hk with e | e | e
  ·exact h.d23 k (.inl e)
  ·exact h.d23 k (.inr (.inl e))
  ·rcases h4 k e with e | e
   ·exact h.d23 k (.inr (.inr e))
   ·cases hU:U k with
    | none => rfl
    | some t => have:=h.us.lt k (by rw [hU];exact nofun);omega
 ·rcases e with e | e | e
  ·exact h.x2 k hk (.inl e)
  ·exact h.x2 k hk (.inr (.inl e))
  ·rcases h4 k e with e | e
   ·exact h.x2 k hk (.inr (.inr e))
   ·have:=h.x0 k hk;omega
theorem FilM.use (h:FilM w V F p n nts pw pm u X B L Q) {k:Nat} (hk:k < nts):∃ A c,V.cell? ⟨u,k,none⟩ = some (.slice A (Q k).length c)∧V.frozen? ⟨u,k,none⟩ = false∧RowR V A (pvCells (Q k)):=by
 obtain ⟨FC,lv,U,uv,h⟩:=h
 have own:=h.us.rows k hk
 obtain ⟨A,c,e,-,-⟩:=own_form own
 rw [e] at own
 refine ⟨A,c,?_,h.us.blk.frozen k,RowR.of_own own⟩
 rw [h.us.blk.cell k,List.getElem?_toArray,uvC_at hk,e]
theorem info_prod:(Tryz.prog.info? 71).map (fun i => (i.zero,i.size,i.bytes)) = some (some (.agg #[.int .i64 0,.slice none 0 0]),2,32):=by kernel_rfl
theorem FilM.push (h:FilM w V F p n nts pw pm u X B L Q) {k:Nat} (hk:k < nts) (v:Pv) (hl:(Q k).length ≤ 1000000):∃ A c A' c' W2,V.cell? ⟨u,k,none⟩ = some (.slice A (Q k).length c) ∧
  (Builtin.append_ #[48,48] 48 #[.slice A (Q k).length c,.slice (some ⟨V.heap.size,0,none⟩) 1 1]).run Tryz.prog (V.alloc (.cells #[.int .i64 v.pr.head,.slice v.adr v.pr.body.length v.cap] 71)) = .ok (.slice A' ((Q k).length + 1) c') W2 ∧
  W2.cell? ⟨u,k,none⟩ = some (.slice A (Q k).length c)∧W2.frozen? ⟨u,k,none⟩ = false∧Upd (fun q => w.heap.size ≤ q) V W2∧(∀ b o,X b→W2.cell? ⟨b,o,none⟩ = V.cell? ⟨b,o,none⟩)∧FilM w (W2.setCell ⟨u,k,none⟩ (.slice A' ((Q k).length + 1) c')) F p n nts pw pm u X B L (fun q => if q = k then Q k ++ [v] else Q q)∧∀ b o,X b→(W2.setCell ⟨u,k,none⟩ (.slice A' ((Q k).length + 1) c')).cell? ⟨b,o,none⟩ = V.cell? ⟨b,o,none⟩:=by
 obtain ⟨FC,lv,U,uv,h⟩:=h
 have own:=h.us.rows k hk
 obtain ⟨A,c,e,-,-⟩:=own_form own
 have q0:V.cell? ⟨u,k,none⟩ = some (.slice A (Q k).length c):=by rw [h.us.blk.cell k,List.getElem?_toArray,uvC_at hk,e]
 obtain ⟨v2,W2,happ,own2,u2,p2⟩:=push_own V 0 48 71 2 32 _ Tryz.underlying48 info_prod rfl (by decide) (uv k) (Q k).length (pvCells (Q k)) own v.cells 1 rfl (fun x hx => by
  rcases List.mem_cons.1 hx with rfl | hx
  ·rfl
  ·rw [List.mem_singleton.1 hx];rfl) (by omega) (by unfold maxLen;omega) (Nat.zero_le _)
 obtain ⟨A',c',rfl,-,-⟩:=own_form own2
 have hn0:∀ q,(uv k).ownBlock = some q→U q = some (some k):=h.us.our k hk
 have hb2:=h.us.blk.upd u2 (fun e => by have:=hn0 _ e;rw [h.us.ou] at this;cases this)
 have hu3:Upd (fun q => (uv k).ownBlock = some q ∨ q = u) V (W2.setCell ⟨u,k,none⟩ (.slice A' ((Q k).length + 1) c')):=(u2.mono (fun q _ e => .inl e)).setCell (p:=⟨u,k,none⟩) (.inl (.inr rfl)) _
 have hUF:∀ q,(uv k).ownBlock = some q ∨ q = u→U q ≠ none:=fun q hq => hq.elim (fun e => by rw [hn0 q e];exact nofun) (fun e => by rw [e,h.us.ou];exact nofun)
 have hz:=hu3.size
 have hwz:w.heap.size ≤ V.heap.size:=h.up.size
 have hult:u < V.heap.size:=h.us.blk.lt
 have ho2:=own2.lt
 refine ⟨A,c,A',c',W2,q0,by rw [← e];exact happ,?_,hb2.frozen k,u2.mono (fun q _ e => h.c3 q (hUF q (.inl e))),fun b o hb => u2.cell (p:=⟨b,o,none⟩) (h.x0 b hb) (fun e => hUF b (.inl e) (h.x3 b hb)),⟨FC,lv,fun q => if q < V.heap.size then U q else if (Value.slice A' ((Q k).length + 1) c').ownBlock = some q then some (some k) else none,fun q => if q = k then .slice A' ((Q k).length + 1) c' else uv q,?_,?_,?_,h.up.trans hu3 (fun q hq => .inr (h.c3 q (hUF q hq))),h.c1,h.c2,?_,h.d12,?_,?_,fun b hb => Nat.lt_of_lt_of_le (h.x0 b hb) hu3.size,h.x1,h.x2,?_⟩,fun b o hb => hu3.cell (p:=⟨b,o,none⟩) (h.x0 b hb) (fun e => hUF b e (h.x3 b hb))⟩
 ·rw [hb2.cell k,List.getElem?_toArray,uvC_at hk,e]
 ·exact h.cl.upd hu3 (fun q hq e => hUF q e (h.d13 q hq))
 ·exact h.wk.upd hu3 (fun e => hUF _ e (h.d23 _ (.inl rfl))) (fun e => hUF _ e (h.d23 _ (.inr (.inl rfl)))) (fun q hq e => hUF q e (h.d23 q (.inr (.inr hq))))
 ·have hbk:=hb2.set k (.slice A' ((Q k).length + 1) c')
  refine ⟨?_,fun j hj => ?_,?_,fun j hj q hq => ?_,fun q hq => ?_⟩
  ·have e2:(uvC uv nts).toArray.setIfInBounds k (.slice A' ((Q k).length + 1) c') = (uvC (fun q => if q = k then .slice A' ((Q k).length + 1) c' else uv q) nts).toArray:=by
    rw [List.setIfInBounds_toArray]
    congr 1
    apply List.ext_getElem?
    intro i
    rw [List.getElem?_set]
    by_cases hi:k = i
    ·subst hi
     rw [if_pos rfl,if_pos (by simpa [uvC] using hk),uvC_at hk,if_pos rfl]
    ·rw [if_neg hi]
     by_cases hl:i < nts
     ·rw [uvC_at hl,uvC_at hl,if_neg (fun e => hi e.symm)]
     ·simp [uvC,hl]
   rw [e2] at hbk
   exact hbk
  ·by_cases ej:j = k
   ·subst ej
    simp only [if_true]
    rw [List.length_append,pvCells_app]
    exact ownsRow_upd own2 ((Upd.refl (fun q => q = u) W2).setCell (p:=⟨u,j,none⟩) (.inl rfl) (.slice A' ((Q j).length + 1) c')) (fun q hq e => by
     subst e
     rcases p2 q hq with h1 | h1
     ·have:=hn0 _ h1;rw [h.us.ou] at this;cases this
     ·omega)
   ·rw [if_neg ej,if_neg ej]
    exact ownsRow_upd (h.us.rows j hj) hu3 (fun q hq e => by
     have e1:=h.us.our j hj q hq
     rcases e with e | e
     ·rw [hn0 q e] at e1
      injection e1 with e1
      injection e1 with e1
      exact ej e1.symm
     ·rw [e,h.us.ou] at e1;cases e1)
  ·show (if u < V.heap.size then U u else _) = _
   rw [if_pos hult];exact h.us.ou
  ·show (if q < V.heap.size then U q else _) = _
   by_cases ej:j = k
   ·subst ej
    rw [if_pos rfl] at hq
    by_cases hl:q < V.heap.size
    ·rw [if_pos hl]
     rcases p2 q hq with h1 | h1
     ·exact hn0 q h1
     ·omega
    ·rw [if_neg hl,if_pos hq]
   ·rw [if_neg ej] at hq
    have e1:=h.us.our j hj q hq
    rw [if_pos (h.us.lt q (by rw [e1];exact nofun))]
    exact e1
  ·by_cases hl:q < V.heap.size
   ·omega
   ·have hq:(if q < V.heap.size then U q else if (Value.slice A' ((Q k).length + 1) c').ownBlock = some q then some (some k) else none) ≠ none:=hq
    rw [if_neg hl] at hq
    by_cases e1:(Value.slice A' ((Q k).length + 1) c').ownBlock = some q
    ·have:=(ho2 q e1).2
     simpa [World.setCell] using this
    ·rw [if_neg e1] at hq
     exact absurd rfl hq
 ·intro q hq
  by_cases hl:q < V.heap.size
  ·have hq:(if q < V.heap.size then U q else _) ≠ none:=hq
   rw [if_pos hl] at hq
   exact h.c3 q hq
  ·omega
 ·intro q hq
  have hl:=h.cl.lt q hq
  show (if q < V.heap.size then U q else _) = _
  rw [if_pos hl];exact h.d13 q hq
 ·intro q hq
  have hl:=h.wk.lts q hq
  show (if q < V.heap.size then U q else _) = _
  rw [if_pos hl];exact h.d23 q hq
 ·intro q hq
  have hl:=h.x0 q hq
  show (if q < V.heap.size then U q else _) = _
  rw [if_pos hl];exact h.x3 q hq
end
theorem WkI.pop {V V1:World} {pw pm nts:Nat} {lv:Value} {L:List Int} {x:Int} (h:WkI V pw pm nts lv L) (ht:ChT V pw lv (.slice (some ⟨pm,0,none⟩) nts nts) (fun L' => L.Perm (x :: L')) V1) :
  ∃ k:Nat,x = (k:Int)∧k < nts∧V1.cell? ⟨pw,1,none⟩ = some (.slice (some ⟨pm,0,none⟩) nts nts)∧(∃ b,V1.cell? ⟨pm,k,none⟩ = some (.bool b))∧V1.frozen? ⟨pm,k,none⟩ = false∧WkT V pw pm nts lv (fun L' => L.Perm (x :: L')) (V1.setCell ⟨pm,k,none⟩ (.bool false)):=by
 obtain ⟨lv',L',h1,h2,h3,h4,h5⟩:=ht
 have hx:=h.inL x (h2.mem_iff.2 (List.mem_cons_self ..))
 obtain ⟨k,rfl⟩:∃ k:Nat,x = (k:Int):=⟨x.toNat,by omega⟩
 have hk:k < nts:=by omega
 have hmb:=h.mks.upd h3 (fun e => e.elim h.ne (fun e => h.nm _ e rfl))
 have hnm':∀ q,lv'.ownBlock = some q→¬ q = pm:=fun q hq e => by
  rcases h4 q hq with h6 | h6
  ·exact h.nm q h6 e
  ·have:=h.mks.lt;subst e;omega
 have hnd:=List.nodup_cons.1 (h2.nodup_iff.1 h.nd)
 refine ⟨k,rfl,hk,h1.1.cell 1,⟨_,by rw [hmb.cell k,List.getElem?_toArray];exact mkC_at hk⟩,hmb.frozen k,lv',L',?_,h2,?_,h4⟩
 ·have us:=(Upd.refl (fun q => q = pm) V1).setCell (p:=⟨pm,k,none⟩) (.inl rfl) (.bool false)
  refine ⟨h1.upd us (fun e => h.ne e.symm) hnm',?_,h5,hnm',h.ne,fun y hy => h.inL y (h2.mem_iff.2 (List.mem_cons_of_mem _ hy)),hnd.2⟩
  have hb:=hmb.set k (.bool false)
  rw [List.setIfInBounds_toArray,mkC_set false (L':=L') (fun y hy => by rw [h2.mem_iff,List.mem_cons];exact ⟨.inr,fun h => h.resolve_left hy⟩) (decide_eq_false hnd.1)] at hb
  exact hb
 ·exact (h3.mono (F':=WkF pw pm lv) (fun q _ hq => hq.imp id .inr)).setCell (p:=⟨pm,k,none⟩) (.inl (.inr (.inl rfl))) _
end Go.Proofs.YtddffnonlmfhdaaGreatDoor
namespace Go.Proofs.YtddffnonlmfhdaaGreatDoor
open Go.RowKit Go.Shelf
def namesB (k:Nat) (v:Pv):Bool:=match v.pr.body with
 | [s,t] => s.at_ == (k:Int) || t.at_ == (k:Int)
 | _ => false
def useL (PV:List Pv) (t k:Nat):List Pv:=(PV.take t).filter (namesB k)
theorem useL_zero (PV:List Pv):useL PV 0 = fun _ => []:=by funext k;simp [useL]
theorem useL_succ {PV:List Pv} {t:Nat} {v:Pv} (h:PV[t]? = some v) (k:Nat):useL PV (t + 1) k = if namesB k v = true then useL PV t k ++ [v] else useL PV t k:=by
 unfold useL
 rw [List.take_add_one,h,Option.toList_some,List.filter_append]
 split
 ·rename_i e;rw [List.filter_cons_of_pos e];simp
 ·rename_i e;rw [List.filter_cons_of_neg e];simp
theorem useL_len (PV:List Pv) (t k:Nat):(useL PV t k).length ≤ PV.length:=Nat.le_trans (List.length_filter_le ..) (List.length_take_le' ..)
theorem useL_mem {PV:List Pv} {t k:Nat} {v:Pv} (h:v ∈ useL PV t k):v ∈ PV∧namesB k v = true:=by
 obtain ⟨h1,h2⟩:=List.mem_filter.1 h
 exact ⟨List.mem_of_mem_take h1,h2⟩
theorem names_two {k:Nat} {v:Pv} (h:namesB k v = true):∃ s t,v.pr.body = [s,t]∧(s.at_ = (k:Int) ∨ t.at_ = (k:Int)):=by
 unfold namesB at h
 split at h
 ·rename_i s t e
  exact ⟨s,t,e,by simpa using h⟩
 ·cases h
theorem two_names {k:Nat} {v:Pv} {s t:Sy} (e:v.pr.body = [s,t]):namesB k v = (s.at_ == (k:Int) || t.at_ == (k:Int)):=by
 unfold namesB
 rw [e]
structure PvOk (nts nl:Nat) (v:Pv):Prop where
 g:GrPr nts v.pr
 few:v.pr.body.length ≤ 2
 one:∀ s,v.pr.body = [s]→0 ≤ s.at_∧s.at_ < (nl:Int)
theorem pvok_of {nts nl:Nat} {v:Pv} (h:shapeOf v.pr nts nl = true):PvOk nts nl v:=by
 obtain ⟨⟨hd,bd⟩,A,c⟩:=v
 unfold shapeOf at h
 simp only [Bool.and_eq_true,decide_eq_true_eq] at h
 obtain ⟨⟨h0,h1⟩,h2⟩:=h
 refine ⟨⟨h0,h1,fun s t e => ?_⟩,?_,fun s e => ?_⟩
 ·have e:bd = [s,t]:=e
  subst e
  simp only [okSym,Bool.and_eq_true,decide_eq_true_eq] at h2
  exact ⟨h2.1.2,h2.2.2⟩
 ·show bd.length ≤ 2
  split at h2
  ·exact Nat.zero_le _
  ·simp
  ·simp
  ·cases h2
 ·have e:bd = [s]:=e
  subst e
  simp only [okSym,Bool.and_eq_true,decide_eq_true_eq] at h2
  exact h2.2
theorem DerP.lt {P:List Pr} {El:Int→Nat→Nat→Prop} {n:Nat} (hEl:∀ k i j,El k i j→i < n∧j < n) {a:Int} {i j:Nat} (d:DerP P El n a i j):i < n∧j < n:=by
 induction d with
 | eps _ h => exact ⟨h,h⟩
 | one _ h => exact hEl _ _ _ h
 | two _ _ _ i1 i2 => exact ⟨i1.1,i2.2⟩
theorem FiI.fit {P:List Pr} {El:Int→Nat→Nat→Prop} {n nts:Nat} {B:Mats} {L:List Int} {D:Pr→Prop} (h:FiI P El n nts B L D) (hEl:∀ k i j,El k i j→i < n∧j < n) {b c:Nat} (hb:b < nts) (hc:c < nts):∀ x y,B b = some x→B c = some y→cornW (mulW x y) n = mulW x y:=fun x y hx hy => by
 have wx:=h.wd b x hx
 have wy:=h.wd c y hy
 refine corn_fit (mulW_wd x wy) (fun i j hij => ?_)
 have hi:=(bit_out (mulW_wd x wy) hij).1
 rw [mul_bit wx wy hi] at hij
 obtain ⟨k,_,h1,h2⟩:=hij
 have d1:=(h.sound b hb i k (by rw [hx];exact h1)).lt hEl
 have d2:=(h.sound c hc k j (by rw [hy];exact h2)).lt hEl
 exact ⟨d1.1,d2.2⟩
def D1 (PV:List Pv) (t:Nat) (q:Pr):Prop:=(∃ v ∈ PV.take t,v.pr = q)∧∀ s t,q.body ≠ [s,t]
def Lp1 (PV:List Pv) (El:Int→Nat→Nat→Prop) (n nts t:Nat) (B:Mats) (L:List Int):Prop:=
 FiI (PV.map (·.pr)) El n nts B L (D1 PV t)∧∀ k,k < nts→∀ i j,bitO (B k) i j = true→(k:Int) ∈ L
theorem Lp1.begin (PV:List Pv) (El:Int→Nat→Nat→Prop) (n nts:Nat):Lp1 PV El n nts 0 (fun _ => none) []:=
 ⟨⟨fun _ r e => (by cases e),fun k _ i j h => (by cases h),fun p _ hd _ => (by obtain ⟨⟨v,hv,-⟩,-⟩:=hd;simp at hv),fun x hx => (by cases hx),List.nodup_nil⟩,fun k _ i j h => (by cases h)⟩
theorem Lp1.one {PV:List Pv} {El:Int→Nat→Nat→Prop} {n nts nl t:Nat} {B:Mats} {L L':List Int} (h:Lp1 PV El n nts t B L) {v:Pv} (hv:PV[t]? = some v) (hok:∀ v ∈ PV,PvOk nts nl v) (hn:n ≤ 64) (hEl:∀ k i j,El k i j→i < n∧j < n) {m:Option (List Nat)} (hg:Gives El n v.pr m)
  (hL:if moreQ (B v.pr.head.toNat) m = true then Puts L L' v.pr.head else L' = L):Lp1 PV El n nts (t + 1) (upM B v.pr.head.toNat (joinQ (B v.pr.head.toNat) m)) L'∧useL PV (t + 1) = useL PV t:=by
 have hvm:=List.mem_of_getElem? hv
 have hbd:∀ s t,v.pr.body ≠ [s,t]:=fun s t e => by
  have:=hg.2
  rw [e] at this
  exact this
 have h1:=h.1.first (List.mem_map.2 ⟨v,hvm,rfl⟩) (fun q hq => by obtain ⟨v',h1,rfl⟩:=List.mem_map.1 hq;exact (hok v' h1).g) hn hEl hg hL
 refine ⟨⟨h1.all (fun q _ hd => ?_),fun k hk i j hb => ?_⟩,?_⟩
 ·obtain ⟨⟨v',hv',e⟩,h2⟩:=hd
  rw [List.take_add_one,hv,Option.toList_some,List.mem_append,List.mem_singleton] at hv'
  rcases hv' with hv' | rfl
  ·exact .inl ⟨⟨v',hv',e⟩,h2⟩
  ·exact .inr e.symm
 ·have a0:=(hok v hvm).g.h0
  have hw:=h.1.wd k
  have hsub:∀ x ∈ L,x ∈ L':=fun x hx => by
   split at hL
   ·exact (hL.mem x).2 (.inl hx)
   ·rw [hL];exact hx
  by_cases e:k = v.pr.head.toNat
  ·subst e
   rw [upM_at] at hb
   have hi:=bitO_lt (hw.joinQ hg.1) hb
   rw [bit_joinQ hw hg.1 hi,Bool.or_eq_true] at hb
   cases hm:moreQ (B v.pr.head.toNat) m with
   | true =>
    rw [if_pos hm] at hL
    rw [Int.toNat_of_nonneg a0]
    exact (hL.mem _).2 (.inr rfl)
   | false =>
    rcases hb with hb | hb
    ·exact hsub _ (h.2 _ hk i j hb)
    ·exact hsub _ (h.2 _ hk i j (more_none hw hg.1 hm hb))
  ·rw [upM_ne B _ e] at hb
   exact hsub _ (h.2 k hk i j hb)
 ·funext k
  rw [useL_succ hv,if_neg]
  intro e
  obtain ⟨s,t,e2,-⟩:=names_two e
  exact hbd s t e2
theorem Lp1.two {PV:List Pv} {El:Int→Nat→Nat→Prop} {n nts t:Nat} {B:Mats} {L:List Int} (h:Lp1 PV El n nts t B L) {v:Pv} (hv:PV[t]? = some v) {b c:Sy} (hb:v.pr.body = [b,c]):Lp1 PV El n nts (t + 1) B L:=
 ⟨h.1.all (fun q _ hd => by
  obtain ⟨⟨v',hv',e⟩,h2⟩:=hd
  rw [List.take_add_one,hv,Option.toList_some,List.mem_append,List.mem_singleton] at hv'
  rcases hv' with hv' | rfl
  ·exact ⟨⟨v',hv',e⟩,h2⟩
  ·exact absurd hb (by rw [e];exact h2 b c)),h.2⟩
theorem use_two {PV:List Pv} {t:Nat} {v:Pv} (hv:PV[t]? = some v) {la lb:Bool} {b c:Nat} (hb:v.pr.body = [⟨la,b⟩,⟨lb,c⟩]) (hbc:b ≠ c) :
  (fun q => if q = c then (fun q => if q = b then useL PV t b ++ [v] else useL PV t q) c ++ [v] else (fun q => if q = b then useL PV t b ++ [v] else useL PV t q) q) = useL PV (t + 1):=by
 funext q
 rw [useL_succ hv,two_names hb]
 dsimp only
 by_cases e1:q = c
 ·subst e1
  rw [if_pos rfl,if_neg (fun e => hbc e.symm)]
  simp
 ·rw [if_neg e1]
  by_cases e2:q = b
  ·subst e2;simp
  ·rw [if_neg e2,if_neg]
   simp
   omega
theorem use_same {PV:List Pv} {t:Nat} {v:Pv} (hv:PV[t]? = some v) {la lb:Bool} {b:Nat} (hb:v.pr.body = [⟨la,b⟩,⟨lb,b⟩]):(fun q => if q = b then useL PV t b ++ [v] else useL PV t q) = useL PV (t + 1):=by
 funext q
 rw [useL_succ hv,two_names hb]
 by_cases e2:q = b
 ·subst e2;simp
 ·rw [if_neg e2,if_neg]
  simp
  omega
theorem Lp1.end_ {PV:List Pv} {El:Int→Nat→Nat→Prop} {n nts nl:Nat} {B:Mats} {L:List Int} (h:Lp1 PV El n nts PV.length B L) (hok:∀ v ∈ PV,PvOk nts nl v):FiI (PV.map (·.pr)) El n nts B L (fun _ => True):=
 h.1.begin (fun p hp hb => by
  obtain ⟨v,hv,rfl⟩:=List.mem_map.1 hp
  exact ⟨⟨v,by rw [List.take_length];exact hv,rfl⟩,hb⟩) (fun q hq => by obtain ⟨v',h1,rfl⟩:=List.mem_map.1 hq;exact (hok v' h1).g) h.2
def D3 (U:List Pv) (x:Int) (t:Nat) (q:Pr):Prop:=¬ NamesL q [x] ∨ ∃ v ∈ U.take t,v.pr = q
def Lp3 (PV:List Pv) (El:Int→Nat→Nat→Prop) (n nts k t:Nat) (B:Mats) (L:List Int) (N:Nat):Prop:=
 FiI (PV.map (·.pr)) El n nts B L (D3 (useL PV PV.length k) (k:Int) t)∧2 * miss B nts + L.length < N
theorem Lp3.begin {PV:List Pv} {El:Int→Nat→Nat→Prop} {n nts k N:Nat} {B:Mats} {L L':List Int} (h:FiI (PV.map (·.pr)) El n nts B L (fun _ => True)) (hN:2 * miss B nts + L.length ≤ N) (hL:L.Perm ((k:Int) :: L')):Lp3 PV El n nts k 0 B L' N:=
 ⟨(h.pop hL).all (fun p _ hd => by
  rcases hd with hd | ⟨v,hv,-⟩
  ·exact hd
  ·simp at hv),by have:=hL.length_eq;simp at this;omega⟩
theorem Lp3.step {PV:List Pv} {El:Int→Nat→Nat→Prop} {n nts nl k t N:Nat} {B:Mats} {L L':List Int} (h:Lp3 PV El n nts k t B L N) (hok:∀ v ∈ PV,PvOk nts nl v) {v:Pv} (hv:(useL PV PV.length k)[t]? = some v) {s r:Sy} (hb:v.pr.body = [s,r])
  (hL:if moreQ (B v.pr.head.toNat) (mulO (B s.at_.toNat) (B r.at_.toNat)) = true then Puts L L' v.pr.head else L' = L):Lp3 PV El n nts k (t + 1) (upM B v.pr.head.toNat (joinQ (B v.pr.head.toNat) (mulO (B s.at_.toNat) (B r.at_.toNat)))) L' N:=by
 have hvm:=(useL_mem (List.mem_of_getElem? hv)).1
 obtain ⟨h1,h2⟩:=h.1.next (List.mem_map.2 ⟨v,hvm,rfl⟩) (fun q hq => by obtain ⟨v',h1,rfl⟩:=List.mem_map.1 hq;exact (hok v' h1).g) hb hL
 refine ⟨h1.all (fun q _ hd => ?_),Nat.lt_of_le_of_lt h2 h.2⟩
 rcases hd with hd | ⟨v',hv',e⟩
 ·exact .inl (.inl hd)
 ·rw [List.take_add_one,hv,Option.toList_some,List.mem_append,List.mem_singleton] at hv'
  rcases hv' with hv' | rfl
  ·exact .inl (.inr ⟨v',hv',e⟩)
  ·exact .inr e.symm
theorem Lp3.end_ {PV:List Pv} {El:Int→Nat→Nat→Prop} {n nts k N:Nat} {B:Mats} {L:List Int} (h:Lp3 PV El n nts k (useL PV PV.length k).length B L N):FiI (PV.map (·.pr)) El n nts B L (fun _ => True):=
 h.1.all (fun p hp _ => by
  by_cases hn:NamesL p [(k:Int)]
  ·obtain ⟨v,hv,rfl⟩:=List.mem_map.1 hp
   refine .inr ⟨v,?_,rfl⟩
   rw [List.take_length]
   unfold useL
   rw [List.take_length]
   obtain ⟨s,t,e,hst⟩:=hn
   refine List.mem_filter.2 ⟨hv,?_⟩
   rw [two_names e]
   simp only [List.mem_singleton] at hst
   simpa using hst
  ·exact .inl hn)
end Go.Proofs.YtddffnonlmfhdaaGreatDoor
namespace Go.Proofs.YtddffnonlmfhdaaGreatDoor
open Go.RowKit Go.Shelf
theorem made_mk (nts:Nat):madeCells (Value.bool false).cells (((nts:Int)).toNat * 1) = (mkC nts []).toArray:=by
 apply Array.toList_inj.1
 rw [Int.toNat_natCast,Nat.mul_one,show (Value.bool false).cells = #[Value.bool false] from rfl,toList_madeCells_one]
 apply List.ext_getElem?
 intro i
 by_cases h:i < nts
 ·simp [mkC,h]
 ·simp [mkC,h]
theorem made_uv (nts:Nat):madeCells (Value.slice none 0 0).cells (((nts:Int)).toNat * 1) = (uvC (fun _ => .slice none 0 0) nts).toArray:=by
 apply Array.toList_inj.1
 rw [Int.toNat_natCast,Nat.mul_one,show (Value.slice none 0 0).cells = #[Value.slice none 0 0] from rfl,toList_madeCells_one]
 apply List.ext_getElem?
 intro i
 by_cases h:i < nts
 ·simp [uvC,h]
 ·simp [uvC,h]
theorem ta_int (k:Int) (T:TypeId) (w:World):(Instr.typeAssert (.iface 3 (.int .i64 k)) T 3 false).run Tryz.prog w = .ok (.int .i64 k) w:=by kernel_rfl
theorem info_bool1:(Tryz.prog.info? 4).map (fun i => (i.zero,i.size,i.bytes)) = some (some (.bool false),1,1):=by kernel_rfl
theorem info_prods:(Tryz.prog.info? 48).map (fun i => (i.zero,i.size,i.bytes)) = some (some (.slice none 0 0),1,24):=by kernel_rfl
theorem mk_marks (w:World) (nts:Nat) (h:nts ≤ 512):(Instr.makeSlice 73 (.int .i64 (nts:Int)) (.int .i64 (nts:Int))).run Tryz.prog w = .ok (.slice (some ⟨w.heap.size,0,none⟩) nts nts) (w.alloc (.cells (mkC nts []).toArray 4)):=by
 obtain ⟨i0,hi0,hz0,hz1,hz2⟩:=info_parts info_bool1
 have hr:=run_make (P:=Tryz.prog) w 73 4 i0 _ Tryz.underlying73 hi0 hz0 .i64 .i64 (nts:Int) (nts:Int) (by omega) (Int.le_refl _) (by rw [hz2];omega) (by omega)
 rw [hz1,made_mk,Int.toNat_natCast] at hr
 exact hr
theorem mk_uses (w:World) (nts:Nat) (h:nts ≤ 512):(Instr.makeSlice 184 (.int .i64 (nts:Int)) (.int .i64 (nts:Int))).run Tryz.prog w = .ok (.slice (some ⟨w.heap.size,0,none⟩) nts nts) (w.alloc (.cells (uvC (fun _ => .slice none 0 0) nts).toArray 48)):=by
 obtain ⟨i0,hi0,hz0,hz1,hz2⟩:=info_parts info_prods
 have hr:=run_make (P:=Tryz.prog) w 184 48 i0 _ Tryz.underlying184 hi0 hz0 .i64 .i64 (nts:Int) (nts:Int) (by omega) (Int.le_refl _) (by rw [hz2];omega) (by omega)
 rw [hz1,made_uv,Int.toNat_natCast] at hr
 exact hr
def filW (w:World) (nts:Nat) (cs:Array Value):World:=
 (((w.alloc (.cells cs 50)).alloc (.cells (mkC nts []).toArray 4)).alloc (.cells #[.slice none 0 0,.slice (some ⟨w.heap.size + 1,0,none⟩) nts nts] 183)).alloc (.cells (uvC (fun _ => .slice none 0 0) nts).toArray 48)
theorem fil_begin {w:World} {F:Nat→Prop} {p n nts:Nat} {B:Mats} (cs:Array Value) (h:ClS w F p n n nts B):FilM w (filW w nts cs) F p n nts (w.heap.size + 2) (w.heap.size + 1) (w.heap.size + 3) NoX B [] (fun _ => []):=by
 unfold filW
 have e1:(w.alloc (.cells cs 50)).heap.size = w.heap.size + 1:=by simp
 have e2:((w.alloc (.cells cs 50)).alloc (.cells (mkC nts []).toArray 4)).heap.size = w.heap.size + 2:=by simp
 have e3:(((w.alloc (.cells cs 50)).alloc (.cells (mkC nts []).toArray 4)).alloc (.cells #[.slice none 0 0,.slice (some ⟨w.heap.size + 1,0,none⟩) nts nts] 183)).heap.size = w.heap.size + 3:=by simp
 have km:=((Blk.new (w.alloc (.cells cs 50)) 4 (mkC nts []).toArray).alloc (.cells #[.slice none 0 0,.slice (some ⟨w.heap.size + 1,0,none⟩) nts nts] 183)).alloc (.cells (uvC (fun _ => .slice none 0 0) nts).toArray 48)
 have kp:=(Blk.new ((w.alloc (.cells cs 50)).alloc (.cells (mkC nts []).toArray 4)) 183 #[.slice none 0 0,.slice (some ⟨w.heap.size + 1,0,none⟩) nts nts]).alloc (.cells (uvC (fun _ => .slice none 0 0) nts).toArray 48)
 have ku:=Blk.new (((w.alloc (.cells cs 50)).alloc (.cells (mkC nts []).toArray 4)).alloc (.cells #[.slice none 0 0,.slice (some ⟨w.heap.size + 1,0,none⟩) nts nts] 183)) 48 (uvC (fun _ => .slice none 0 0) nts).toArray
 rw [e1] at km
 rw [e2] at kp
 rw [e3] at ku
 have hb:Below w.heap.size w ((((w.alloc (.cells cs 50)).alloc (.cells (mkC nts []).toArray 4)).alloc (.cells #[.slice none 0 0,.slice (some ⟨w.heap.size + 1,0,none⟩) nts nts] 183)).alloc (.cells (uvC (fun _ => .slice none 0 0) nts).toArray 48)):=by (repeat (first | exact Below.refl _ _ | apply Below.drew | refine Below.alloc ?_ (by first | exact Nat.le_refl _ | (simp;done) | (simp;omega)) _ | refine Below.setCell ?_ (by first | exact Nat.le_refl _ | (simp;done) | (simp;omega)) _))
 have e4:((((w.alloc (.cells cs 50)).alloc (.cells (mkC nts []).toArray 4)).alloc (.cells #[.slice none 0 0,.slice (some ⟨w.heap.size + 1,0,none⟩) nts nts] 183)).alloc (.cells (uvC (fun _ => .slice none 0 0) nts).toArray 48)).heap.size = w.heap.size + 4:=by simp
 generalize (((w.alloc (.cells cs 50)).alloc (.cells (mkC nts []).toArray 4)).alloc (.cells #[.slice none 0 0,.slice (some ⟨w.heap.size + 1,0,none⟩) nts nts] 183)).alloc (.cells (uvC (fun _ => .slice none 0 0) nts).toArray 48) = V at km kp ku hb e4 ⊢
 have no:∀ k,(Value.slice none 0 0).ownBlock = some k→False:=fun k e => by simp [Value.ownBlock] at e
 have hF:=h.lt
 refine ⟨F,.slice none 0 0,fun q => if q = w.heap.size + 3 then some none else none,fun _ => .slice none 0 0,h.below hb,⟨⟨kp,World.ownsRow_nil _ _ _ _⟩,km,fun k e => (no k e).elim,fun k e => (no k e).elim,by omega,fun x hx => (by cases hx),List.nodup_nil⟩,⟨ku,fun k _ => World.ownsRow_nil _ _ _ _,if_pos rfl,fun k _ q e => (no q e).elim,fun q hq => ?_⟩,(Upd.of_below hb F),fun k hk => .inl hk,fun k hk => ?_,fun k hk => ?_,fun k hk e => ?_,fun k hk => ?_,fun k hk => ?_,?_,?_,?_,?_⟩
 ·by_cases e:q = w.heap.size + 3
  ·omega
  ·rw [if_neg e] at hq;exact absurd rfl hq
 ·rcases hk with e | e | e
  ·omega
  ·omega
  ·exact (no k e).elim
 ·by_cases e:k = w.heap.size + 3
  ·omega
  ·rw [if_neg e] at hk;exact absurd rfl hk
 ·have:=hF k hk
  rcases e with e | e | e
  ·omega
  ·omega
  ·exact (no k e).elim
 ·have:=hF k hk
  exact if_neg (by omega)
 ·rcases hk with e | e | e
  ·exact if_neg (by omega)
  ·exact if_neg (by omega)
  ·exact (no k e).elim
 all_goals exact fun k hk => hk.elim
theorem FilM.base {W0 w V:World} {F X:Nat→Prop} {p n nts pw pm u:Nat} {B:Mats} {L:List Int} {Q:Nat→List Pv} (h:FilM w V F p n nts pw pm u X B L Q) (hb:Below W0.heap.size W0 w) (hF:∀ k,F k→W0.heap.size ≤ k):Below W0.heap.size W0 V:=by
 obtain ⟨FC,lv,U,uv,h⟩:=h
 exact hb.trans (h.up.below (fun i _ hi => hF i hi) hb.size)
structure FilIn (W0:World) (PA:Option Addr) (PV:List Pv) (LA:Option Addr) (labels:List Txt) (Fg:Nat→Prop) (pg:Nat) (G:Gr) (n nts:Nat):Prop where
 pv:PvR W0 PA PV
 lab:RowR W0 LA (txtCells labels)
 gr:GrS W0 Fg pg G
 ok:GOk G
 hn:G.N.length = n
 n1:1 ≤ n
 tab:TabW W0
 htab:1 < W0.heap.size
 sh:∀ v ∈ PV,PvOk nts labels.length v
 nts1:1 ≤ nts
 nts5:nts ≤ 512
 few:PV.length ≤ 8192
def FillQ (w:World) (F:Nat→Prop) (p n nts:Nat) (PV:List Pv) (labels:List Txt) (G:Gr) (w':World):Prop:=
 ∃ B:Mats,(∀ k,k < nts→∀ i j,bitO (B k) i j = true ↔ DerP (PV.map (·.pr)) (ElG G labels) n (k:Int) i j)∧(∀ k,WdO (B k))∧ClTo w F p n n nts B w'
def Lp1M (w:World) (F:Nat→Prop) (p n nts pw pm u:Nat) (PV:List Pv) (El:Int→Nat→Nat→Prop) (t:Nat) (V:World):Prop:=
 ∃ B L,FilM w V F p n nts pw pm u NoX B L (useL PV t)∧Lp1 PV El n nts t B L
theorem fill_any (W0 w:World) (hb0:Below W0.heap.size W0 w) (F:Nat→Prop) (hF:∀ k,F k→W0.heap.size ≤ k) (p n nts:Nat) (h:ClS w F p n n nts (fun _ => none)) (PA:Option Addr) (pc:Nat) (PV:List Pv) (LA:Option Addr) (cl:Nat) (labels:List Txt)
  (Fg:Nat→Prop) (pg:Nat) (G:Gr) (hin:FilIn W0 PA PV LA labels Fg pg G n nts) :
  Calls Tryz.prog 71 #[.pointer (some ⟨p,0,none⟩),.agg #[.int .i64 (nts:Int),.slice PA PV.length pc],.slice LA labels.length cl,.pointer (some ⟨pg,0,none⟩)] w (fun e w' => e = .returned (.tuple #[])∧FillQ w F p n nts PV labels G w'):=by
 have hFM:FilM w (filW w nts #[.int .i64 (nts:Int),.slice PA PV.length pc]) F p n nts (w.heap.size + 1 + 1) (w.heap.size + 1) (w.heap.size + 1 + 1 + 1) NoX (fun _ => none) [] (fun _ => []):=fil_begin #[.int .i64 (nts:Int),.slice PA PV.length pc] h
 have k0:=Blk.new w 50 #[.int .i64 (nts:Int),.slice PA PV.length pc]
 have q0:(w.alloc (.cells #[.int .i64 (nts:Int),.slice PA PV.length pc] 50)).cell? ⟨w.heap.size,0,none⟩ = some (.int .i64 (nts:Int)):=k0.cell 0
 have hm1:=mk_marks (w.alloc (.cells #[.int .i64 (nts:Int),.slice PA PV.length pc] 50)) nts hin.nts5
 have k2:=(k0.alloc (.cells (mkC nts []).toArray 4)).alloc (.cells #[.slice none 0 0,.slice (some ⟨w.heap.size + 1,0,none⟩) nts nts] 183)
 have k3:=k2.alloc (.cells (uvC (fun _ => .slice none 0 0) nts).toArray 48)
 have q02:=k2.cell 0
 have q03:=k3.cell 1
 simp only [List.getElem?_toArray,List.getElem?_cons_zero,List.getElem?_cons_succ] at q02 q03
 have hm2:=mk_uses (((w.alloc (.cells #[.int .i64 (nts:Int),.slice PA PV.length pc] 50)).alloc (.cells (mkC nts []).toArray 4)).alloc (.cells #[.slice none 0 0,.slice (some ⟨w.heap.size + 1,0,none⟩) nts nts] 183)) nts hin.nts5
 have q5:=hin.nts5
 have q8:=hin.few
 have q1:=hin.nts1
 have HI:=Lib.hid (And.intro hin (And.intro hb0 hF))
 obtain ⟨m,hm⟩:∃ m,PV.length = m:=⟨_,rfl⟩
 rw [hm] at hFM q0 hm1 q8 hm2 q02 q03 ⊢
 have HF:=Lib.hid hFM
 have HM:=Lib.hid hm
 clear hFM h hin hb0 hF k0 k2 k3 hm
 unfold filW at HF
 have q1n:1 ≤ n:=HI.out.1.n1
 have HN64:=Lib.hid (show n ≤ 64 from by have:=HI.out.1.ok.few;have:=HI.out.1.hn;omega)
 have HEL:=Lib.hid (show ∀ k i j,ElG G labels k i j→i < n∧j < n from fun k i j h => by have:=h.lt;rwa [HI.out.1.hn] at this)
 go_enter Tryz.func71,Tryz.ntmps71
 go_upto_region 3 with (fail)
 clear hm1 hm2 q0 q02
 generalize (((w.alloc (.cells #[.int .i64 (nts:Int),.slice PA m pc] 50)).alloc (.cells (mkC nts []).toArray 4)).alloc (.cells #[.slice none 0 0,.slice (some ⟨w.heap.size + 1,0,none⟩) nts nts] 183)).alloc (.cells (uvC (fun _ => .slice none 0 0) nts).toArray 48) = W4 at HF q03 ⊢
 generalize w.heap.size + 1 + 1 + 1 = u at HF ⊢
 generalize w.heap.size + 1 + 1 = pw at HF ⊢
 generalize w.heap.size + 1 = pm at HF ⊢
 generalize w.heap.size = z at q03 ⊢
 go_wp2
 clear q03
 go_loopw [27] (fun i wr => ∃ t:Nat,t ≤ m∧i = .int .i64 (t:Int)∧Hid (Lp1M w F p n nts pw pm u PV (ElG G labels) t wr)) (fun i _ => m - (intOf i).toNat)
 case atStart => exact ⟨0,Nat.zero_le _,rfl,Lib.hid ⟨_,_,by rw [useL_zero];exact HF.out,Lp1.begin PV _ n nts⟩⟩
 case round =>
  obtain ⟨t,ht,rfl,hq⟩:=hrel
  clear HF
  by_cases hlt:t < m
  ·clear ht
   -- ROUND1
   have hltI:(t:Int) < (m:Int):=by omega
   obtain ⟨B,L,hM,hL1⟩:=hq.out
   have hB:=hM.base HI.out.2.1 HI.out.2.2
   obtain ⟨v,hv⟩:∃ v,PV[t]? = some v:=⟨_,List.getElem?_eq_getElem (by rw [HM.out];exact hlt)⟩
   have hvm:=List.mem_of_getElem? hv
   have hok:=HI.out.1.sh v hvm
   obtain ⟨pb,po,rfl,c0,c1⟩:=(HI.out.1.pv.1.below3 hB).pv hv
   have hrow:=(HI.out.1.pv.2 v hvm).below3 hB
   obtain ⟨⟨hd,bd⟩,bA,bc⟩:=v
   dsimp only at c0 c1 hrow
   obtain ⟨a,rfl⟩:∃ a:Nat,hd = (a:Int):=⟨hd.toNat,by have:=hok.g.h0;dsimp only at this;omega⟩
   have ha:a < nts:=by have:=hok.g.h1;dsimp only at this;omega
   have haI:(a:Int) < (nts:Int):=by omega
   rcases bd with _ | ⟨s,_ | ⟨r,_ | ⟨y,bd⟩⟩⟩
   ·have c1:wr.cell? ⟨pb,po + t * 2 + 1,none⟩ = some (.slice bA 0 bc):=c1
    have kb:=Blk.new wr 71 #[.int .i64 (a:Int),.slice bA 0 bc]
    have b1:Below wr.heap.size wr (wr.alloc (.cells #[.int .i64 (a:Int),.slice bA 0 bc] 71)):=(Below.refl _ _).alloc (Nat.le_refl _) _
    obtain ⟨FC,hcl,hturn⟩:=(hM.box (.cells #[.int .i64 (a:Int),.slice bA 0 bc] 71)).turn
    have hcon:=first0_any (wr.alloc (.cells #[.int .i64 (a:Int),.slice bA 0 bc] 71)) FC p n nts B hcl a bA bc ha q1n HN64.out (ElG G labels) (.slice LA labels.length cl) (.pointer (some ⟨pg,0,none⟩))
    have e0:(wr.alloc (.cells #[.int .i64 (a:Int),.slice bA 0 bc] 71)).cell? ⟨wr.heap.size,0,none⟩ = some (.int .i64 (a:Int)):=kb.cell 0
    have e1:(wr.alloc (.cells #[.int .i64 (a:Int),.slice bA 0 bc] 71)).cell? ⟨wr.heap.size,1,none⟩ = some (.slice bA 0 bc):=kb.cell 1
    have HT:=Lib.hid (And.intro hturn (And.intro e0 (And.intro e1 (And.intro hL1 (And.intro hv hq.out)))))
    clear hM hL1 hv hvm hok hrow kb b1 hcl hturn hB hq
    go_wp2_with fail
    refine hcon.mono ?_
    clear hcon e0 e1 c0 c1
    rintro e V2 ⟨mm,hg,he,hto⟩
    obtain ⟨hM2,-,hX2⟩:=HT.out.1 _ V2 hto
    have c20:V2.cell? ⟨wr.heap.size,0,none⟩ = some (.int .i64 (a:Int)):=(hX2 _ 0 rfl).trans HT.out.2.1
    have c21:V2.cell? ⟨wr.heap.size,1,none⟩ = some (.slice bA 0 bc):=(hX2 _ 1 rfl).trans HT.out.2.2.1
    have HG:=Lib.hid hg
    cases hmo:moreQ (B ((a:Int)).toNat) mm
    ·rw [show (⟨(a:Int),[]⟩:Pr).head = (a:Int) from rfl,hmo] at he
     subst he
     have FIN:=Lib.hid (show Lp1M w F p n nts pw pm u PV (ElG G labels) (t + 1) V2 from by
      have hl:=HT.out.2.2.2.1.one HT.out.2.2.2.2.1 HI.out.1.sh HN64.out HEL.out HG.out (L':=L) (by
       rw [if_neg (by rw [show (⟨⟨(a:Int),[]⟩,bA,bc⟩:Pv).pr.head = (a:Int) from rfl,hmo];exact nofun)])
      exact ⟨_,L,by rw [hl.2];exact hM2.bare,hl.1⟩)
     clear hM2 hX2 hto hg hmo
     go_wp2
     go_roundw
     case rel => exact ⟨t + 1,by omega,by go_num,FIN⟩
     case measure => simp [intOf];omega
    ·rw [show (⟨(a:Int),[]⟩:Pr).head = (a:Int) from rfl,hmo] at he
     subst he
     obtain ⟨lv,hwk,hwork⟩:=hM2.work
     have hput:=wput_any V2 pw pm nts lv L hwk q5 a ha
     have HW:=Lib.hid (And.intro hwork (And.intro hmo c21))
     clear hM2 hX2 hto hg hmo hwk hwork c21
     go_wp2_with fail
     refine hput.mono ?_
     clear hput
     rintro e V3 ⟨rfl,hwt⟩
     obtain ⟨⟨L',hPu,hM3⟩,-,hX3⟩:=HW.out.1 _ _ hwt
     have c31:V3.cell? ⟨wr.heap.size,1,none⟩ = some (.slice bA 0 bc):=(hX3 _ 1 rfl).trans HW.out.2.2
     have FIN:=Lib.hid (show Lp1M w F p n nts pw pm u PV (ElG G labels) (t + 1) V3 from by
      have hl:=HT.out.2.2.2.1.one HT.out.2.2.2.2.1 HI.out.1.sh HN64.out HEL.out HG.out (L':=L') (by
       rw [if_pos (by rw [show (⟨⟨(a:Int),[]⟩,bA,bc⟩:Pv).pr.head = (a:Int) from rfl];exact HW.out.2.1)]
       exact hPu)
      exact ⟨_,L',by rw [hl.2];exact hM3.bare,hl.1⟩)
     clear hPu hM3 hX3 hwt
     go_wp2
     go_roundw
     case rel => exact ⟨t + 1,by omega,by go_num,FIN⟩
     case measure => simp [intOf];omega
   ·have c1:wr.cell? ⟨pb,po + t * 2 + 1,none⟩ = some (.slice bA 1 bc):=c1
    have kb:=Blk.new wr 71 #[.int .i64 (a:Int),.slice bA 1 bc]
    have b1:Below wr.heap.size wr (wr.alloc (.cells #[.int .i64 (a:Int),.slice bA 1 bc] 71)):=(Below.refl _ _).alloc (Nat.le_refl _) _
    obtain ⟨FC,hcl,hturn⟩:=(hM.box (.cells #[.int .i64 (a:Int),.slice bA 1 bc] 71)).turn
    have hs:=hok.one s rfl
    obtain ⟨slab,sat⟩:=s
    dsimp only at hs
    obtain ⟨sk,rfl⟩:∃ sk:Nat,sat = (sk:Int):=⟨sat.toNat,by omega⟩
    obtain ⟨lb,hlb⟩:∃ lb,labels[sk]? = some lb:=⟨_,List.getElem?_eq_getElem (by omega)⟩
    have hB1:=hB.trans (b1.mono hB.size)
    have hcon:=first1_any (wr.alloc (.cells #[.int .i64 (a:Int),.slice bA 1 bc] 71)) FC p n nts B hcl a sk slab bA bc (hrow.below3 b1) ha q1n HN64.out LA cl labels (HI.out.1.lab.below3 hB1) lb hlb Fg pg G (HI.out.1.gr.below hB1) HI.out.1.ok HI.out.1.hn
    clear hs hB1 hlb
    have e0:(wr.alloc (.cells #[.int .i64 (a:Int),.slice bA 1 bc] 71)).cell? ⟨wr.heap.size,0,none⟩ = some (.int .i64 (a:Int)):=kb.cell 0
    have e1:(wr.alloc (.cells #[.int .i64 (a:Int),.slice bA 1 bc] 71)).cell? ⟨wr.heap.size,1,none⟩ = some (.slice bA 1 bc):=kb.cell 1
    have HT:=Lib.hid (And.intro hturn (And.intro e0 (And.intro e1 (And.intro hL1 (And.intro hv hq.out)))))
    clear hM hL1 hv hvm hok hrow kb b1 hcl hturn hB hq
    go_wp2_with fail
    refine hcon.mono ?_
    clear hcon e0 e1 c0 c1
    rintro e V2 ⟨mm,hg,he,hto⟩
    obtain ⟨hM2,-,hX2⟩:=HT.out.1 _ V2 hto
    have c20:V2.cell? ⟨wr.heap.size,0,none⟩ = some (.int .i64 (a:Int)):=(hX2 _ 0 rfl).trans HT.out.2.1
    have c21:V2.cell? ⟨wr.heap.size,1,none⟩ = some (.slice bA 1 bc):=(hX2 _ 1 rfl).trans HT.out.2.2.1
    have HG:=Lib.hid hg
    cases hmo:moreQ (B ((a:Int)).toNat) mm
    ·rw [show (⟨(a:Int),[⟨slab,(sk:Int)⟩]⟩:Pr).head = (a:Int) from rfl,hmo] at he
     subst he
     have FIN:=Lib.hid (show Lp1M w F p n nts pw pm u PV (ElG G labels) (t + 1) V2 from by
      have hl:=HT.out.2.2.2.1.one HT.out.2.2.2.2.1 HI.out.1.sh HN64.out HEL.out HG.out (L':=L) (by
       rw [if_neg (by rw [show (⟨⟨(a:Int),[⟨slab,(sk:Int)⟩]⟩,bA,bc⟩:Pv).pr.head = (a:Int) from rfl,hmo];exact nofun)])
      exact ⟨_,L,by rw [hl.2];exact hM2.bare,hl.1⟩)
     clear hM2 hX2 hto hg hmo
     go_wp2
     go_roundw
     case rel => exact ⟨t + 1,by omega,by go_num,FIN⟩
     case measure => simp [intOf];omega
    ·rw [show (⟨(a:Int),[⟨slab,(sk:Int)⟩]⟩:Pr).head = (a:Int) from rfl,hmo] at he
     subst he
     obtain ⟨lv,hwk,hwork⟩:=hM2.work
     have hput:=wput_any V2 pw pm nts lv L hwk q5 a ha
     have HW:=Lib.hid (And.intro hwork (And.intro hmo c21))
     clear hM2 hX2 hto hg hmo hwk hwork c21
     go_wp2_with fail
     refine hput.mono ?_
     clear hput
     rintro e V3 ⟨rfl,hwt⟩
     obtain ⟨⟨L',hPu,hM3⟩,-,hX3⟩:=HW.out.1 _ _ hwt
     have c31:V3.cell? ⟨wr.heap.size,1,none⟩ = some (.slice bA 1 bc):=(hX3 _ 1 rfl).trans HW.out.2.2
     have FIN:=Lib.hid (show Lp1M w F p n nts pw pm u PV (ElG G labels) (t + 1) V3 from by
      have hl:=HT.out.2.2.2.1.one HT.out.2.2.2.2.1 HI.out.1.sh HN64.out HEL.out HG.out (L':=L') (by
       rw [if_pos (by rw [show (⟨⟨(a:Int),[⟨slab,(sk:Int)⟩]⟩,bA,bc⟩:Pv).pr.head = (a:Int) from rfl];exact HW.out.2.1)]
       exact hPu)
      exact ⟨_,L',by rw [hl.2];exact hM3.bare,hl.1⟩)
     clear hPu hM3 hX3 hwt
     go_wp2
     go_roundw
     case rel => exact ⟨t + 1,by omega,by go_num,FIN⟩
     case measure => simp [intOf];omega
   ·have c1:wr.cell? ⟨pb,po + t * 2 + 1,none⟩ = some (.slice bA 2 bc):=c1
    have hg2:=hok.g.two s r rfl
    obtain ⟨la,sb⟩:=s
    obtain ⟨lb,sc⟩:=r
    dsimp only at hg2
    obtain ⟨b,rfl⟩:∃ b:Nat,sb = (b:Int):=⟨sb.toNat,by omega⟩
    obtain ⟨c,rfl⟩:∃ c:Nat,sc = (c:Int):=⟨sc.toNat,by omega⟩
    have hqb:b < nts:=by omega
    have hqc:c < nts:=by omega
    have hbI:(b:Int) < (nts:Int):=by omega
    have hcI:(c:Int) < (nts:Int):=by omega
    obtain ⟨gb,go,rfl,-⟩:=hrow 0 (.bool la) rfl
    have kb:=Blk.new wr 71 #[.int .i64 (a:Int),.slice (some ⟨gb,go,none⟩) 2 bc]
    have hcon:=first2_any (wr.alloc (.cells #[.int .i64 (a:Int),.slice (some ⟨gb,go,none⟩) 2 bc] 71)) p (a:Int) (some ⟨gb,go,none⟩) 2 bc (Nat.le_refl _) (.slice LA labels.length cl) (.pointer (some ⟨pg,0,none⟩))
    have e0:(wr.alloc (.cells #[.int .i64 (a:Int),.slice (some ⟨gb,go,none⟩) 2 bc] 71)).cell? ⟨wr.heap.size,0,none⟩ = some (.int .i64 (a:Int)):=kb.cell 0
    have e1:(wr.alloc (.cells #[.int .i64 (a:Int),.slice (some ⟨gb,go,none⟩) 2 bc] 71)).cell? ⟨wr.heap.size,1,none⟩ = some (.slice (some ⟨gb,go,none⟩) 2 bc):=kb.cell 1
    have HT:=Lib.hid (And.intro (hM.box (.cells #[.int .i64 (a:Int),.slice (some ⟨gb,go,none⟩) 2 bc] 71)) (And.intro kb (And.intro hL1 hv)))
    have HQ:=Lib.hid (show ∀ W,Below W0.heap.size W0 W→W.cell? ⟨gb,go + 1,none⟩ = some (.int .i64 (b:Int))∧W.cell? ⟨gb,go + 3,none⟩ = some (.int .i64 (c:Int)) from fun W hW => by
     have hr2:=(HI.out.1.pv.2 _ hvm).below3 hW
     obtain ⟨b',o',e,d1⟩:=hr2 1 (.int .i64 (b:Int)) rfl
     injection e with e
     injection e with e1 e2
     subst e1
     subst e2
     obtain ⟨b',o',e,d3⟩:=hr2 3 (.int .i64 (c:Int)) rfl
     injection e with e
     injection e with e1 e2
     subst e1
     subst e2
     exact ⟨d1,d3⟩)
    have hlen9:∀ k,(useL PV t k).length ≤ 8192:=fun k => by have:=useL_len PV t k;have:=HM.out;omega
    have HLEN:=Lib.hid hlen9
    clear hM hL1 hv hvm hok hrow kb hB hq hg2 hlen9
    go_wp2_with fail
    refine hcon.mono ?_
    clear hcon e0 e1 c0 c1
    rintro e V2 ⟨rfl,hb2⟩
    have k2:=HT.out.2.1.upd (Upd.of_below hb2 (fun _ => False)) id
    have hM2:=HT.out.1.below hb2
    have H2:=Lib.hid (show FilM w V2 F p n nts pw pm u (fun k => k = wr.heap.size) B L (useL PV t)∧V2.cell? ⟨wr.heap.size,0,none⟩ = some (.int .i64 (a:Int))∧V2.cell? ⟨wr.heap.size,1,none⟩ = some (.slice (some ⟨gb,go,none⟩) 2 bc)∧V2.cell? ⟨gb,go + 1,none⟩ = some (.int .i64 (b:Int))∧V2.cell? ⟨gb,go + 3,none⟩ = some (.int .i64 (c:Int)) from ⟨hM2,k2.cell 0,k2.cell 1,HQ.out V2 (hM2.base HI.out.2.1 HI.out.2.2)⟩)
    clear hM2
    have c21:V2.cell? ⟨wr.heap.size,1,none⟩ = some (.slice (some ⟨gb,go,none⟩) 2 bc):=k2.cell 1
    clear k2 hb2
    generalize wr.heap.size = z1 at H2 c21 ⊢
    have hMd:=H2.out.1.below (V':=V2.drew) ((Below.refl _ _).drew)
    obtain ⟨A1,c1,A2,c2,W2,qu,happ,qu2,fu2,hu2,hX2,hMn,hXn⟩:=hMd.push (k:=b) hqb ⟨⟨(a:Int),[⟨la,(b:Int)⟩,⟨lb,(c:Int)⟩]⟩,some ⟨gb,go,none⟩,bc⟩ (by have:=HLEN.out b;omega)
    have HNEW:=Lib.hid (And.intro hMn (And.intro ((hXn z1 0 rfl).trans H2.out.2.1) ((hXn z1 1 rfl).trans H2.out.2.2.1)))
    obtain ⟨n1,hn1⟩:∃ n1,(useL PV t b).length = n1:=⟨_,rfl⟩
    rw [hn1] at qu happ qu2 HNEW
    have hS:(fun X:World => X.cell? ⟨z1,0,none⟩ = some (.int .i64 (a:Int))∧X.cell? ⟨z1,1,none⟩ = some (.slice (some ⟨gb,go,none⟩) 2 bc)∧X.cell? ⟨gb,go + 1,none⟩ = some (.int .i64 (b:Int))∧X.cell? ⟨u,b,none⟩ = some (.slice A1 n1 c1)) V2.drew:=⟨H2.out.2.1,H2.out.2.2.1,H2.out.2.2.2.1,qu⟩
    replace happ:(Builtin.append_ #[48,48] 48 #[.slice A1 n1 c1,.slice (some ⟨V2.drew.heap.size,0,none⟩) 1 1]).run Tryz.prog (V2.drew.alloc (.cells #[.int .i64 (a:Int),.slice (some ⟨gb,go,none⟩) 2 bc] 71)) = .ok (.slice A2 (n1 + 1) c2) W2:=happ
    have hSW:(fun X:World => X.cell? ⟨z1,0,none⟩ = some (.int .i64 (a:Int))∧X.cell? ⟨z1,1,none⟩ = some (.slice (some ⟨gb,go,none⟩) 2 bc)∧X.cell? ⟨gb,go + 1,none⟩ = some (.int .i64 (b:Int))∧X.cell? ⟨u,b,none⟩ = some (.slice A1 n1 c1)) W2:=by
     have hb9:=((H2.out.1.base HI.out.2.1 HI.out.2.2).drew).trans (hu2.below (fun i _ hi => Nat.le_trans HI.out.2.1.size hi) ((H2.out.1.base HI.out.2.1 HI.out.2.2).drew).size)
     exact ⟨(hX2 z1 0 rfl).trans H2.out.2.1,(hX2 z1 1 rfl).trans H2.out.2.2.1,(HQ.out W2 hb9).1,qu2⟩
    have hSA:(fun X:World => X.cell? ⟨z1,0,none⟩ = some (.int .i64 (a:Int))∧X.cell? ⟨z1,1,none⟩ = some (.slice (some ⟨gb,go,none⟩) 2 bc)∧X.cell? ⟨gb,go + 1,none⟩ = some (.int .i64 (b:Int))∧X.cell? ⟨u,b,none⟩ = some (.slice A1 n1 c1)) (V2.drew.alloc (.cells #[.int .i64 (a:Int),.slice (some ⟨gb,go,none⟩) 2 bc] 71)):=by
     have hb9:Below V2.drew.heap.size V2.drew (V2.drew.alloc (.cells #[.int .i64 (a:Int),.slice (some ⟨gb,go,none⟩) 2 bc] 71)):=(Below.refl _ _).alloc (Nat.le_refl _) _
     exact ⟨cell_keep hb9 hS.1,cell_keep hb9 hS.2.1,cell_keep hb9 hS.2.2.1,cell_keep hb9 hS.2.2.2⟩
    clear hMd hMn hXn qu hn1 hu2 hX2
    obtain ⟨n2,hn2⟩:∃ n2,n1 + 1 = n2:=⟨_,rfl⟩
    rw [hn2] at happ HNEW
    clear hn2
    go_upto_region 9 with (fail)
    refine wp_region_late (fun X:World => X.cell? ⟨z1,0,none⟩ = some (.int .i64 (a:Int))∧X.cell? ⟨z1,1,none⟩ = some (.slice (some ⟨gb,go,none⟩) 2 bc)∧X.cell? ⟨gb,go + 1,none⟩ = some (.int .i64 (b:Int))∧X.cell? ⟨u,b,none⟩ = some (.slice A1 n1 c1)) (lateFrom 18) (by kernel_rfl) ?_
    generalize V2.drew = VD at happ hS hSA ⊢
    intro hd
    (refine late_takeA (i:=0) rfl hd hS ?_;clear hd;intro hd;(try simp only [Act.put,gA,gZ,sA,sZ,sS]))
    (refine late_takeA (i:=1) rfl hd hS ?_;clear hd;intro hd;(try simp only [Act.put,gA,gS,gZ,sA,sZ,sS]))
    (refine late_takeA (i:=2) rfl hd hS ?_;clear hd;intro hd;(try simp only [Act.put,gA,gS,gZ,sA,sZ,sS]))
    (refine late_takeA (i:=3) rfl hd hS ?_;clear hd;intro hd;(try simp only [Act.put,gA,gS,gZ,sA,sZ,sS]))
    (refine late_takeA (i:=4) rfl hd hS ?_;clear hd;intro hd;(try simp only [Act.put,gA,gS,gZ,sA,sZ,sS]))
    (refine late_takeA (i:=5) rfl hd hS ?_;clear hd;intro hd;(try simp only [Act.put,gA,gS,gZ,sA,sZ,sS]))
    (refine late_takeA (i:=6) rfl hd hS ?_;clear hd;intro hd;(try simp only [Act.put,gA,gS,gZ,sA,sZ,sS]))
    (refine late_takeA (i:=7) rfl hd hS ?_;clear hd;intro hd;(try simp only [Act.put,gA,gS,gZ,sA,sZ,sS]))
    (refine late_takeA (i:=8) rfl hd hS ?_;clear hd;intro hd;(try simp only [Act.put,gA,gS,gZ,sA,sZ,sS]))
    (refine late_takeA (i:=9) rfl hd hS ?_;clear hd;intro hd;(try simp only [Act.put,gA,gS,gZ,sA,sZ,sS]))
    (refine late_takeA (i:=10) rfl hd hS ?_;clear hd;intro hd;(try simp only [Act.put,gA,gS,gZ,sA,sZ,sS]))
    (refine late_takeA (i:=11) rfl hd hS ?_;clear hd;intro hd;(try simp only [Act.put,gA,gS,gZ,sA,sZ,sS]))
    (refine late_takeA (i:=12) rfl hd hS ?_;clear hd;intro hd;(try simp only [Act.put,gA,gS,gZ,sA,sZ,sS]))
    (refine late_takeA (i:=13) rfl hd hS ?_;clear hd;intro hd;(try simp only [Act.put,gA,gS,gZ,sA,sZ,sS]))
    (refine late_takeA (i:=14) rfl hd hS ?_;clear hd;intro hd;(try simp only [Act.put,gA,gS,gZ,sA,sZ,sS]))
    clear hS
    refine late_run hd (L:=[15]) (by kernel_rfl) (by decide) (fun ix hix hd2 => ?_)
    clear hd
    have hd:=hd2
    clear hd2
    simp only [List.mem_cons,List.not_mem_nil,or_false] at hix
    subst hix
    refine late_do (S:=(fun X:World => X.cell? ⟨z1,0,none⟩ = some (.int .i64 (a:Int))∧X.cell? ⟨z1,1,none⟩ = some (.slice (some ⟨gb,go,none⟩) 2 bc)∧X.cell? ⟨gb,go + 1,none⟩ = some (.int .i64 (b:Int))∧X.cell? ⟨u,b,none⟩ = some (.slice A1 n1 c1))) (late:=lateFrom 18) rfl rfl (fun K hK => ?_)
    go_simp
    refine hK _ _ (fun _ _ => hSA) ?_
    clear hK K
    (try simp only [Act.put,gA,gS,gZ,sA,sZ,sS])
    refine late_run hd (L:=[16]) (by kernel_rfl) (by decide) (fun ix hix hd2 => ?_)
    clear hd
    have hd:=hd2
    clear hd2
    simp only [List.mem_cons,List.not_mem_nil,or_false] at hix
    subst hix
    refine late_do (S:=(fun X:World => X.cell? ⟨z1,0,none⟩ = some (.int .i64 (a:Int))∧X.cell? ⟨z1,1,none⟩ = some (.slice (some ⟨gb,go,none⟩) 2 bc)∧X.cell? ⟨gb,go + 1,none⟩ = some (.int .i64 (b:Int))∧X.cell? ⟨u,b,none⟩ = some (.slice A1 n1 c1))) (late:=lateFrom 18) rfl rfl (fun K hK => ?_)
    refine do_append _ _ _ rfl rfl rfl happ ?_
    refine hK _ _ (fun _ _ => hSW) ?_
    clear hK K happ
    (try simp only [Act.put,gA,gS,gZ,sA,sZ,sS])
    have hS:=hSW
    (refine late_takeA (i:=17) rfl hd hS ?_;clear hd;intro hd;(try simp only [Act.put,gA,gS,gZ,sA,sZ,sS]))
    clear hS
    refine late_run hd (L:=[18]) (by kernel_rfl) (by decide) (fun ix hix hd2 => ?_)
    clear hd
    have hd:=hd2
    clear hd2
    simp only [List.mem_cons,List.not_mem_nil,or_false] at hix
    subst hix
    refine late_do (S:=(fun X:World => X.cell? ⟨z1,0,none⟩ = some (.int .i64 (a:Int))∧X.cell? ⟨z1,1,none⟩ = some (.slice (some ⟨gb,go,none⟩) 2 bc)∧X.cell? ⟨gb,go + 1,none⟩ = some (.int .i64 (b:Int))∧X.cell? ⟨u,b,none⟩ = some (.slice A1 n1 c1))) (late:=lateFrom 18) rfl rfl (fun K hK => ?_)
    go_simp
    refine hK _ _ (fun h _ => absurd h (by decide)) ?_
    clear hK K
    (try simp only [Act.put,gA,gS,gZ,sA,sZ,sS])
    refine late_done (by kernel_rfl) ?_
    clear qu2 fu2 hSA hSW
    generalize W2.setCell ⟨u,b,none⟩ (.slice A2 n2 c2) = W3 at HNEW ⊢
    clear c21
    have H3:=Lib.hid (And.intro HNEW.out.1 (And.intro HNEW.out.2.1 (And.intro HNEW.out.2.2 (HQ.out W3 (HNEW.out.1.base HI.out.2.1 HI.out.2.2)))))
    clear HNEW
    go_upto_region 10 with (fail)
    have d1:=H3.out.2.2.1
    have d2:=H3.out.2.2.2.1
    have d3:=H3.out.2.2.2.2
    have hbd:=Lib.hid (show ∀ n,Below W3.heap.size W3 (W3.drewN n) from fun n => ⟨rfl,rfl,rfl,Nat.le_refl _,fun _ _ => rfl⟩)
    by_cases hbc:b = c
    ·subst hbc
     go_quiet (fail)
     clear d1 d2 d3
     have FIN:=Lib.hid (show Lp1M w F p n nts pw pm u PV (ElG G labels) (t + 1) (W3.drewN nq) from by
      have hM3:=H3.out.1.below (hbd.out nq)
      rw [use_same HT.out.2.2.2 rfl] at hM3
      exact ⟨B,L,hM3.bare,HT.out.2.2.1.two HT.out.2.2.2 rfl⟩)
     clear H3
     go_wp2
     go_roundw
     case rel => exact ⟨t + 1,by omega,by go_num,FIN⟩
     case measure => simp [intOf];omega
    ·have hbn:((c:Int) != (b:Int)) = true:=by simp;omega
     go_quiet (fail)
     clear d1 d2 d3 hbn
     obtain ⟨Q1,hQ1⟩:∃ Q1,(fun q => if q = b then useL PV t b ++ [⟨⟨(a:Int),[⟨la,(b:Int)⟩,⟨lb,(c:Int)⟩]⟩,some ⟨gb,go,none⟩,bc⟩] else useL PV t q) = Q1:=⟨_,rfl⟩
     have hQc:(Q1 c).length ≤ 1000000:=by
      rw [← hQ1]
      dsimp only
      rw [if_neg (fun e => hbc e.symm)]
      have:=HLEN.out c
      omega
     have H4:=Lib.hid (show FilM w (W3.drewN nq) F p n nts pw pm u (fun k => k = z1) B L Q1∧(W3.drewN nq).cell? ⟨z1,0,none⟩ = some (.int .i64 (a:Int))∧(W3.drewN nq).cell? ⟨z1,1,none⟩ = some (.slice (some ⟨gb,go,none⟩) 2 bc)∧(W3.drewN nq).cell? ⟨gb,go + 1,none⟩ = some (.int .i64 (b:Int))∧(W3.drewN nq).cell? ⟨gb,go + 3,none⟩ = some (.int .i64 (c:Int)) from ⟨by rw [← hQ1];exact H3.out.1.below (hbd.out nq),H3.out.2⟩)
     have HQ1:=Lib.hid hQ1
     clear H3 hQ1 hbd
     generalize W3.drewN nq = W4 at H4 ⊢
     have hMd:=H4.out.1.below (V':=W4.drew) ((Below.refl _ _).drew)
     obtain ⟨A1,c1,A2,c2,W2,qu,happ,qu2,fu2,hu2,hX2,hMn,hXn⟩:=hMd.push (k:=c) hqc ⟨⟨(a:Int),[⟨la,(b:Int)⟩,⟨lb,(c:Int)⟩]⟩,some ⟨gb,go,none⟩,bc⟩ (hQc)
     have HNEW:=Lib.hid (And.intro hMn (And.intro ((hXn z1 0 rfl).trans H4.out.2.1) ((hXn z1 1 rfl).trans H4.out.2.2.1)))
     obtain ⟨n1,hn1⟩:∃ n1,(Q1 c).length = n1:=⟨_,rfl⟩
     rw [hn1] at qu happ qu2 HNEW
     have hS:(fun X:World => X.cell? ⟨z1,0,none⟩ = some (.int .i64 (a:Int))∧X.cell? ⟨z1,1,none⟩ = some (.slice (some ⟨gb,go,none⟩) 2 bc)∧X.cell? ⟨gb,go + 3,none⟩ = some (.int .i64 (c:Int))∧X.cell? ⟨u,c,none⟩ = some (.slice A1 n1 c1)) W4.drew:=⟨H4.out.2.1,H4.out.2.2.1,H4.out.2.2.2.2,qu⟩
     replace happ:(Builtin.append_ #[48,48] 48 #[.slice A1 n1 c1,.slice (some ⟨W4.drew.heap.size,0,none⟩) 1 1]).run Tryz.prog (W4.drew.alloc (.cells #[.int .i64 (a:Int),.slice (some ⟨gb,go,none⟩) 2 bc] 71)) = .ok (.slice A2 (n1 + 1) c2) W2:=happ
     have hSW:(fun X:World => X.cell? ⟨z1,0,none⟩ = some (.int .i64 (a:Int))∧X.cell? ⟨z1,1,none⟩ = some (.slice (some ⟨gb,go,none⟩) 2 bc)∧X.cell? ⟨gb,go + 3,none⟩ = some (.int .i64 (c:Int))∧X.cell? ⟨u,c,none⟩ = some (.slice A1 n1 c1)) W2:=by
      have hb9:=((H4.out.1.base HI.out.2.1 HI.out.2.2).drew).trans (hu2.below (fun i _ hi => Nat.le_trans HI.out.2.1.size hi) ((H4.out.1.base HI.out.2.1 HI.out.2.2).drew).size)
      exact ⟨(hX2 z1 0 rfl).trans H4.out.2.1,(hX2 z1 1 rfl).trans H4.out.2.2.1,(HQ.out W2 hb9).2,qu2⟩
     have hSA:(fun X:World => X.cell? ⟨z1,0,none⟩ = some (.int .i64 (a:Int))∧X.cell? ⟨z1,1,none⟩ = some (.slice (some ⟨gb,go,none⟩) 2 bc)∧X.cell? ⟨gb,go + 3,none⟩ = some (.int .i64 (c:Int))∧X.cell? ⟨u,c,none⟩ = some (.slice A1 n1 c1)) (W4.drew.alloc (.cells #[.int .i64 (a:Int),.slice (some ⟨gb,go,none⟩) 2 bc] 71)):=by
      have hb9:Below W4.drew.heap.size W4.drew (W4.drew.alloc (.cells #[.int .i64 (a:Int),.slice (some ⟨gb,go,none⟩) 2 bc] 71)):=(Below.refl _ _).alloc (Nat.le_refl _) _
      exact ⟨cell_keep hb9 hS.1,cell_keep hb9 hS.2.1,cell_keep hb9 hS.2.2.1,cell_keep hb9 hS.2.2.2⟩
     clear hMd hMn hXn qu hn1 hu2 hX2
     obtain ⟨n2,hn2⟩:∃ n2,n1 + 1 = n2:=⟨_,rfl⟩
     rw [hn2] at happ HNEW
     clear hn2
     go_upto_region 11 with (fail)
     refine wp_region_late (fun X:World => X.cell? ⟨z1,0,none⟩ = some (.int .i64 (a:Int))∧X.cell? ⟨z1,1,none⟩ = some (.slice (some ⟨gb,go,none⟩) 2 bc)∧X.cell? ⟨gb,go + 3,none⟩ = some (.int .i64 (c:Int))∧X.cell? ⟨u,c,none⟩ = some (.slice A1 n1 c1)) (lateFrom 18) (by kernel_rfl) ?_
     generalize W4.drew = VD at happ hS hSA ⊢
     intro hd
     (refine late_takeA (i:=0) rfl hd hS ?_;clear hd;intro hd;(try simp only [Act.put,gA,gZ,sA,sZ,sS]))
     (refine late_takeA (i:=1) rfl hd hS ?_;clear hd;intro hd;(try simp only [Act.put,gA,gS,gZ,sA,sZ,sS]))
     (refine late_takeA (i:=2) rfl hd hS ?_;clear hd;intro hd;(try simp only [Act.put,gA,gS,gZ,sA,sZ,sS]))
     (refine late_takeA (i:=3) rfl hd hS ?_;clear hd;intro hd;(try simp only [Act.put,gA,gS,gZ,sA,sZ,sS]))
     (refine late_takeA (i:=4) rfl hd hS ?_;clear hd;intro hd;(try simp only [Act.put,gA,gS,gZ,sA,sZ,sS]))
     (refine late_takeA (i:=5) rfl hd hS ?_;clear hd;intro hd;(try simp only [Act.put,gA,gS,gZ,sA,sZ,sS]))
     (refine late_takeA (i:=6) rfl hd hS ?_;clear hd;intro hd;(try simp only [Act.put,gA,gS,gZ,sA,sZ,sS]))
     (refine late_takeA (i:=7) rfl hd hS ?_;clear hd;intro hd;(try simp only [Act.put,gA,gS,gZ,sA,sZ,sS]))
     (refine late_takeA (i:=8) rfl hd hS ?_;clear hd;intro hd;(try simp only [Act.put,gA,gS,gZ,sA,sZ,sS]))
     (refine late_takeA (i:=9) rfl hd hS ?_;clear hd;intro hd;(try simp only [Act.put,gA,gS,gZ,sA,sZ,sS]))
     (refine late_takeA (i:=10) rfl hd hS ?_;clear hd;intro hd;(try simp only [Act.put,gA,gS,gZ,sA,sZ,sS]))
     (refine late_takeA (i:=11) rfl hd hS ?_;clear hd;intro hd;(try simp only [Act.put,gA,gS,gZ,sA,sZ,sS]))
     (refine late_takeA (i:=12) rfl hd hS ?_;clear hd;intro hd;(try simp only [Act.put,gA,gS,gZ,sA,sZ,sS]))
     (refine late_takeA (i:=13) rfl hd hS ?_;clear hd;intro hd;(try simp only [Act.put,gA,gS,gZ,sA,sZ,sS]))
     (refine late_takeA (i:=14) rfl hd hS ?_;clear hd;intro hd;(try simp only [Act.put,gA,gS,gZ,sA,sZ,sS]))
     clear hS
     refine late_run hd (L:=[15]) (by kernel_rfl) (by decide) (fun ix hix hd2 => ?_)
     clear hd
     have hd:=hd2
     clear hd2
     simp only [List.mem_cons,List.not_mem_nil,or_false] at hix
     subst hix
     refine late_do (S:=(fun X:World => X.cell? ⟨z1,0,none⟩ = some (.int .i64 (a:Int))∧X.cell? ⟨z1,1,none⟩ = some (.slice (some ⟨gb,go,none⟩) 2 bc)∧X.cell? ⟨gb,go + 3,none⟩ = some (.int .i64 (c:Int))∧X.cell? ⟨u,c,none⟩ = some (.slice A1 n1 c1))) (late:=lateFrom 18) rfl rfl (fun K hK => ?_)
     go_simp
     refine hK _ _ (fun _ _ => hSA) ?_
     clear hK K
     (try simp only [Act.put,gA,gS,gZ,sA,sZ,sS])
     refine late_run hd (L:=[16]) (by kernel_rfl) (by decide) (fun ix hix hd2 => ?_)
     clear hd
     have hd:=hd2
     clear hd2
     simp only [List.mem_cons,List.not_mem_nil,or_false] at hix
     subst hix
     refine late_do (S:=(fun X:World => X.cell? ⟨z1,0,none⟩ = some (.int .i64 (a:Int))∧X.cell? ⟨z1,1,none⟩ = some (.slice (some ⟨gb,go,none⟩) 2 bc)∧X.cell? ⟨gb,go + 3,none⟩ = some (.int .i64 (c:Int))∧X.cell? ⟨u,c,none⟩ = some (.slice A1 n1 c1))) (late:=lateFrom 18) rfl rfl (fun K hK => ?_)
     refine do_append _ _ _ rfl rfl rfl happ ?_
     refine hK _ _ (fun _ _ => hSW) ?_
     clear hK K happ
     (try simp only [Act.put,gA,gS,gZ,sA,sZ,sS])
     have hS:=hSW
     (refine late_takeA (i:=17) rfl hd hS ?_;clear hd;intro hd;(try simp only [Act.put,gA,gS,gZ,sA,sZ,sS]))
     clear hS
     refine late_run hd (L:=[18]) (by kernel_rfl) (by decide) (fun ix hix hd2 => ?_)
     clear hd
     have hd:=hd2
     clear hd2
     simp only [List.mem_cons,List.not_mem_nil,or_false] at hix
     subst hix
     refine late_do (S:=(fun X:World => X.cell? ⟨z1,0,none⟩ = some (.int .i64 (a:Int))∧X.cell? ⟨z1,1,none⟩ = some (.slice (some ⟨gb,go,none⟩) 2 bc)∧X.cell? ⟨gb,go + 3,none⟩ = some (.int .i64 (c:Int))∧X.cell? ⟨u,c,none⟩ = some (.slice A1 n1 c1))) (late:=lateFrom 18) rfl rfl (fun K hK => ?_)
     go_simp
     refine hK _ _ (fun h _ => absurd h (by decide)) ?_
     clear hK K
     (try simp only [Act.put,gA,gS,gZ,sA,sZ,sS])
     refine late_done (by kernel_rfl) ?_
     clear qu2 fu2 hSA hSW
     generalize W2.setCell ⟨u,c,none⟩ (.slice A2 n2 c2) = W5 at HNEW ⊢
     have FIN:=Lib.hid (show Lp1M w F p n nts pw pm u PV (ElG G labels) (t + 1) W5 from by
      have hM5:=HNEW.out.1
      rw [← HQ1.out,use_two HT.out.2.2.2 rfl hbc] at hM5
      exact ⟨B,L,hM5.bare,HT.out.2.2.1.two HT.out.2.2.2 rfl⟩)
     clear HNEW
     go_wp2
     go_roundw
     case rel => exact ⟨t + 1,by omega,by go_num,FIN⟩
     case measure => simp [intOf];omega
   ·exfalso
    have:=hok.few
    simp at this
   -- REST
  ·obtain rfl:t = m:=by omega
   obtain ⟨B0,L0,hM0,hL10⟩:=hq.out
   have hE0:FiI (PV.map (·.pr)) (ElG G labels) n nts B0 L0 (fun _ => True):=(show Lp1 PV (ElG G labels) n nts PV.length B0 L0 from by rw [HM.out];exact hL10).end_ HI.out.1.sh
   have hM0:FilM w wr F p n nts pw pm u NoX B0 L0 (useL PV PV.length):=by rw [HM.out];exact hM0
   have H0:=Lib.hid (show ∃ B L,FilM w wr F p n nts pw pm u NoX B L (useL PV PV.length)∧FiI (PV.map (·.pr)) (ElG G labels) n nts B L (fun _ => True)∧2 * miss B nts + L.length ≤ 2 * miss B0 nts + L0.length from ⟨B0,L0,hM0,hE0,Nat.le_refl _⟩)
   generalize 2 * miss B0 nts + L0.length = N0 at H0
   clear hq hM0 hL10 hE0
   go_wp2
   go_loopg [] N0 (fun k wr => Hid (∃ B L,FilM w wr F p n nts pw pm u NoX B L (useL PV PV.length)∧FiI (PV.map (·.pr)) (ElG G labels) n nts B L (fun _ => True)∧2 * miss B nts + L.length ≤ k))
   case atStart => exact H0
   case round =>
    clear H0
    obtain ⟨B,L,hM,hFi,hle⟩:=hrel.out
    obtain ⟨lv,hwk,hwork⟩:=hM.work
    have hlen:=chlen_any wr pw lv _ L hwk.ch
    have hL5:=hwk.len
    by_cases hL0:0 < L.length
    ·have hpop:=hpop_any wr pw lv _ L hwk.ch hwk.np (by omega) hL0
     obtain ⟨nl,hnl⟩:∃ nl,L.length = nl:=⟨_,rfl⟩
     rw [hnl] at hlen
     have hlI:(0:Int) < (nl:Int):=by omega
     have HW:=Lib.hid (And.intro hwork (And.intro hwk (And.intro hFi hle)))
     clear hM hwork hwk hFi hle hrel hL5 hL0 hnl
     go_wp2_with fail
     refine hlen.mono ?_
     clear hlen
     rintro e VL ⟨rfl,hw⟩
     subst VL
     unfold chV at hpop
     go_wp2_with fail
     refine hpop.mono ?_
     clear hpop
     rintro e V1 ⟨x,rfl,htt⟩
     obtain ⟨k,rfl,hk,q1,⟨bb,qm⟩,fm,hwt⟩:=HW.out.2.1.pop htt
     obtain ⟨⟨L',hPm,hM2⟩,-,-⟩:=HW.out.1 _ _ hwt
     have hkI:(k:Int) < (nts:Int):=by omega
     have h3:=Lp3.begin HW.out.2.2.1 HW.out.2.2.2 hPm
     obtain ⟨A,c,qu,-,-⟩:=hM2.use hk
     have H3:=Lib.hid (And.intro hM2 (And.intro h3 qu))
     clear hM2 h3 htt hwt hPm HW
     have hta:=fun T => ta_int (k:Int) T V1
     go_upto_region 17 with (fail)
     clear q1 qm fm hta
     generalize V1.setCell ⟨pm,k,none⟩ (.bool false) = V2 at H3 qu ⊢
     obtain ⟨ml,hml⟩:∃ ml,(useL PV PV.length k).length = ml:=⟨_,rfl⟩
     rw [hml] at qu
     have HML:=Lib.hid hml
     have hm8:ml ≤ 8192:=by have:=useL_len PV PV.length k;have:=HM.out;omega
     clear hml
     go_wp2
     clear qu
     go_loopw [112] (fun i wz => ∃ t:Nat,t ≤ ml∧i = .int .i64 (t:Int)∧Hid (∃ B L,FilM w wz F p n nts pw pm u NoX B L (useL PV PV.length)∧Lp3 PV (ElG G labels) n nts k t B L gk∧wz.cell? ⟨u,k,none⟩ = some (.slice A (useL PV PV.length k).length c))) (fun i _ => ml - (intOf i).toNat)
     case atStart => exact ⟨0,Nat.zero_le _,rfl,Lib.hid ⟨B,L',H3.out⟩⟩
     case round =>
      obtain ⟨t,ht,rfl,hq⟩:=hrel
      clear H3
      by_cases hlt:t < ml
      ·have htI:(t:Int) < (ml:Int):=by omega
       obtain ⟨B,L,hM,h3,hu⟩:=hq.out
       obtain ⟨v,hv⟩:∃ v,(useL PV PV.length k)[t]? = some v:=⟨_,List.getElem?_eq_getElem (by rw [HML.out];exact hlt)⟩
       obtain ⟨hvm,hnm⟩:=useL_mem (List.mem_of_getElem? hv)
       obtain ⟨⟨la,sb⟩,⟨lb,sc⟩,hbd,-⟩:=names_two hnm
       have hok:=HI.out.1.sh v hvm
       have hB:=hM.base HI.out.2.1 HI.out.2.2
       obtain ⟨A',c',hu',-,hrw⟩:=hM.use hk
       rw [hu] at hu'
       injection hu' with hu'
       injection hu' with hA' _ hc'
       subst hA'
       subst hc'
       obtain ⟨pb,po,rfl,c0,c1⟩:=hrw.pv hv
       have hg2:=hok.g.two _ _ hbd
       have hg0:=hok.g.h0
       have hg1:=hok.g.h1
       have hrow:=(HI.out.1.pv.2 _ hvm).below3 hB
       obtain ⟨⟨hd,bd⟩,bA,bc⟩:=v
       dsimp only at hbd hg0 hg1 hg2 hrow c0 c1
       subst hbd
       obtain ⟨qa,rfl⟩:∃ b:Nat,hd = (b:Int):=⟨hd.toNat,by omega⟩
       obtain ⟨qb,rfl⟩:∃ b:Nat,sb = (b:Int):=⟨sb.toNat,by omega⟩
       obtain ⟨qc,rfl⟩:∃ c:Nat,sc = (c:Int):=⟨sc.toNat,by omega⟩
       have ha:qa < nts:=by omega
       have hb:qb < nts:=by omega
       have hc:qc < nts:=by omega
       have c1:wr.cell? ⟨pb,po + t * 2 + 1,none⟩ = some (.slice bA 2 bc):=c1
       have kb:=Blk.new wr 71 #[.int .i64 (qa:Int),.slice bA 2 bc]
       have b1:Below wr.heap.size wr (wr.alloc (.cells #[.int .i64 (qa:Int),.slice bA 2 bc] 71)):=(Below.refl _ _).alloc (Nat.le_refl _) _
       have hB1:=hB.trans (b1.mono hB.size)
       obtain ⟨FC,hcl,hturn⟩:=(hM.box (.cells #[.int .i64 (qa:Int),.slice bA 2 bc] 71)).turn
       have hcon:=next_any (wr.alloc (.cells #[.int .i64 (qa:Int),.slice bA 2 bc] 71)) FC p n n nts B hcl qa qb qc la lb bA bc (hrow.below3 b1) ha hb hc q5 HN64.out (HI.out.1.tab.upd (Upd.of_below hB1 (fun _ => False)) HI.out.1.htab id) (Nat.lt_of_lt_of_le HI.out.1.htab hB1.size) (h3.1.fit HEL.out hb hc)
       have e0:(wr.alloc (.cells #[.int .i64 (qa:Int),.slice bA 2 bc] 71)).cell? ⟨wr.heap.size,0,none⟩ = some (.int .i64 (qa:Int)):=kb.cell 0
       have e1:(wr.alloc (.cells #[.int .i64 (qa:Int),.slice bA 2 bc] 71)).cell? ⟨wr.heap.size,1,none⟩ = some (.slice bA 2 bc):=kb.cell 1
       have HT:=Lib.hid (And.intro hturn (And.intro e0 (And.intro (cell_keep b1 hu) (And.intro h3 hv))))
       clear hM h3 hu hv hvm hnm hok hB hrw hg2 hg0 hg1 hrow kb b1 hB1 hcl hturn hq
       go_wp2_with fail
       refine hcon.mono ?_
       clear hcon e0 e1 c0 c1
       rintro e V3 ⟨he,hto⟩
       obtain ⟨hM3,hu3,hX3⟩:=HT.out.1 _ V3 hto
       have c30:V3.cell? ⟨wr.heap.size,0,none⟩ = some (.int .i64 (qa:Int)):=(hX3 _ 0 rfl).trans HT.out.2.1
       cases hmo:moreQ (B qa) (mulO (B qb) (B qc))
       ·rw [hmo] at he
        subst he
        have FIN:=Lib.hid (show ∃ B L,FilM w V3 F p n nts pw pm u NoX B L (useL PV PV.length)∧Lp3 PV (ElG G labels) n nts k (t + 1) B L gk∧V3.cell? ⟨u,k,none⟩ = some (.slice (some ⟨pb,po,none⟩) (useL PV PV.length k).length c) from by
         have hs:=HT.out.2.2.2.1.step HI.out.1.sh HT.out.2.2.2.2 rfl (L':=L) (by
          dsimp only
          rw [Int.toNat_natCast,Int.toNat_natCast,Int.toNat_natCast,if_neg (by rw [hmo];exact nofun)])
         dsimp only at hs
         rw [Int.toNat_natCast,Int.toNat_natCast,Int.toNat_natCast] at hs
         exact ⟨_,L,hM3.bare,hs,(hu3 k).trans HT.out.2.2.1⟩)
        clear hM3 hu3 hX3 hto hmo c30
        go_wp2
        go_roundw
        case rel => exact ⟨t + 1,by omega,by go_num,FIN⟩
        case measure => simp [intOf];omega
       ·rw [hmo] at he
        subst he
        obtain ⟨lv,hwk,hwork⟩:=hM3.work
        have hput:=wput_any V3 pw pm nts lv L hwk q5 qa ha
        have HW:=Lib.hid (And.intro hwork (And.intro hmo (fun o => (hu3 o))))
        clear hM3 hu3 hX3 hto hmo hwk hwork
        go_wp2_with fail
        refine hput.mono ?_
        clear hput c30
        rintro e V4 ⟨rfl,hwt⟩
        obtain ⟨⟨L',hPu,hM4⟩,hu4,-⟩:=HW.out.1 _ _ hwt
        have FIN:=Lib.hid (show ∃ B L,FilM w V4 F p n nts pw pm u NoX B L (useL PV PV.length)∧Lp3 PV (ElG G labels) n nts k (t + 1) B L gk∧V4.cell? ⟨u,k,none⟩ = some (.slice (some ⟨pb,po,none⟩) (useL PV PV.length k).length c) from by
         have hs:=HT.out.2.2.2.1.step HI.out.1.sh HT.out.2.2.2.2 rfl (L':=L') (by
          dsimp only
          rw [Int.toNat_natCast,Int.toNat_natCast,Int.toNat_natCast,if_pos HW.out.2.1]
          exact hPu)
         dsimp only at hs
         rw [Int.toNat_natCast,Int.toNat_natCast,Int.toNat_natCast] at hs
         exact ⟨_,L',hM4.bare,hs,(hu4 k).trans ((HW.out.2.2 k).trans HT.out.2.2.1)⟩)
        clear hM4 hu4 hPu hwt
        go_wp2
        go_roundw
        case rel => exact ⟨t + 1,by omega,by go_num,FIN⟩
        case measure => simp [intOf];omega
      ·obtain rfl:t = ml:=by omega
       obtain ⟨B3,L3,hM3,hl3,-⟩:=hq.out
       have H4:=Lib.hid (show ∃ B L,FilM w wr F p n nts pw pm u NoX B L (useL PV PV.length)∧FiI (PV.map (·.pr)) (ElG G labels) n nts B L (fun _ => True)∧2 * miss B nts + L.length ≤ 2 * miss B3 nts + L3.length from ⟨B3,L3,hM3,(show Lp3 PV (ElG G labels) n nts k (useL PV PV.length k).length B3 L3 gk from by rw [HML.out];exact hl3).end_,Nat.le_refl _⟩)
       have hlt3:=hl3.2
       generalize 2 * miss B3 nts + L3.length = g3 at H4 hlt3
       clear hM3 hl3 hq
       go_wp2
       go_roundg g3
       case rel => exact H4
       case measure => omega
    ·have hnil:L = []:=List.eq_nil_of_length_eq_zero (by omega)
     subst hnil
     have FIN:=Lib.hid (show FillQ w F p n nts PV labels G wr from by
      obtain ⟨FC,lv,U,uv,hs⟩:=hM
      exact ⟨B,fun k hk i j => hFi.done hk,hFi.wd,FC,hs.cl,hs.up,hs.c1⟩)
     clear hM hwork hwk hFi hle hrel hL5 hL0
     have hlen:Calls Tryz.prog 113 #[.pointer (some ⟨pw,0,none⟩)] wr (Only wr (.int .i64 0)):=hlen
     go_wp2_with fail
     refine hlen.mono ?_
     clear hlen
     rintro e VL ⟨rfl,hw⟩
     subst VL
     go_wp2
     exact bodyPost_end (results_none rfl _ _ _) rfl ⟨rfl,FIN.out⟩
end Go.Proofs.YtddffnonlmfhdaaGreatDoor
