/- AzimovNone: the walk; azimov: Facts, the iterator that it makes; azimov: the iterator that Facts makes; layer 18's laws: facts; layer 18's laws: same; AzimovOrder: the plain law; AzimovOrder: the walk; How many edges a graph has, counted by their ends and by their labels (plain); AzimovMirror: the plain law; AzimovMirror: what is put together in memory; layer 18's laws: born; AzimovLeast: the plain law. -/
import Derived.RangeFuncNested
import Derived.RangeFuncBound
import Derived.RangeFuncCalls
import Derived.RangeFuncLeaves
import Derived.RangeFuncBox
import Derived.Shelf.Abstract
import Derived.Shelf.RegionOpen
import Derived.OwnWalkIn
import Derived.TacticsInMore
import Derived.LoopNIn
import Derived.LoopIn
import Derived.Test.YtddffnonlmfhdaaGreatDoorW15
import Derived.Test.YtddffnonlmfhdaaGreatDoorW10
import Derived.Test.YtddffnonlmfhdaaGreatDoorW04
import Derived.Test.YtddffnonlmfhdaaGreatDoorW07
import Derived.Test.YtddffnonlmfhdaaGreatDoorW13
set_option linter.unusedVariables false
set_option linter.unusedSimpArgs false
set_option maxHeartbeats 16000000
set_option maxRecDepth 100000
namespace Go.Proofs.YtddffnonlmfhdaaGreatDoor
open Go.RowKit Go.Shelf
attribute [local go_sem] Oper.semAt_some
theorem eql_seq_nil (W:World) (f:Fn) (x y:Array Value):(binOp .eql 62 (.func f x y) .nilFunc).run Tryz.prog W = .ok (.bool false) W:=by
 have h:Tryz.prog.underlying 62 = some (.func #[79] #[] false):=by kernel_rfl
 have e9:∀ d,(Op.equalIn (d + 1) 62 (.func f x y) .nilFunc).run Tryz.prog W = .ok false W:=fun d => by simp [Op.equalIn,run_underlying h]
 have e:(Op.equal 62 (.func f x y) .nilFunc).run Tryz.prog W = .ok false W:=e9 9999
 simp only [binOp]
 simp [e]
end Go.Proofs.YtddffnonlmfhdaaGreatDoor
namespace Go.Proofs.YtddffnonlmfhdaaGreatDoor
open Go.RowKit Go.Shelf
theorem info_ptm:(Tryz.prog.info? 121).map (fun i => (i.zero,i.size,i.bytes)) = some (some (.pointer none),1,8):=by kernel_rfl
theorem ptC_len (ad:Nat→Nat) (nts:Nat):(ptC ad nts).length = nts:=by simp [ptC]
theorem one_pt (ad:Nat→Nat) (nts:Nat):∀ u ∈ ptC ad nts,u.oneCell' = true:=by
 intro u hu
 obtain ⟨k,-,rfl⟩:=List.mem_map.1 hu
 rfl
def PtMade (w:World) (ad:Nat→Nat) (nts:Nat) (e:Ending) (w':World):Prop:=∃ A c,e = .returned (.slice A nts c)∧w'.ownsRow w.heap.size 121 1 (.slice A nts c) nts (ptC ad nts)∧Below w.heap.size w w'
theorem clone_pt (w:World) (A:Option Addr) (c nts:Nat) (ad:Nat→Nat) (h:RowR w A (ptC ad nts)) (h1:1 ≤ nts) (hl:nts ≤ 512) :
  Calls Tryz.prog 75 #[.slice A nts c] w (PtMade w ad nts):=by
 have heq:=fun (A:Option Addr) (n c n' c':Nat) (w:World) => Lib.run_eql_slice_nil (P:=Tryz.prog) w 136 121 A n c n' c' Tryz.underlying136
 rcases A with _ | ⟨gb,go,sp⟩
 ·obtain ⟨b,o,e,-⟩:=h 0 _ (ptC_at h1);cases e
 ·obtain ⟨i0,hi0,hz0,hz1,hz2⟩:=info_parts info_ptm
  have b1:Below w.heap.size w (w.alloc (.cells #[] 121)):=(Below.refl _ _).alloc (Nat.le_refl _) _
  have hr:=(h.below b1).reads (n:=nts) (size:=1) (by rw [ptC_len];omega) (by decide)
  have own:(w.alloc (.cells #[] 121)).ownsRow w.heap.size 121 1 (.slice (some ⟨w.heap.size,0,none⟩) 0 0) 0 []:=⟨rfl,.inr ⟨w.heap.size,0,#[],rfl,Nat.le_refl _,heap_alloc_new w _,Nat.le_refl _,by decide,rfl,rfl⟩⟩
  obtain ⟨v',w',happ,own',gr,-,-⟩:=run_append_own_at (P:=Tryz.prog) (w.alloc (.cells #[] 121)) w.heap.size 136 136 121 i0 _ 1 8 Tryz.underlying136 hi0 hz0 hz1 hz2 rfl (by decide) (.slice (some ⟨w.heap.size,0,none⟩) 0 0) 0 [] own ⟨gb,go,sp⟩ nts c (ptC ad nts) (by rw [ptC_len];omega) (hr.2.2 _ rfl) (one_pt ad nts) (by unfold maxLen;omega) (by omega) (by simp)
  have own2:w'.ownsRow w.heap.size 121 1 v' nts (ptC ad nts):=by simpa using own'
  obtain ⟨A',c',rfl,-,-⟩:=own_form own2
  have fin:PtMade w ad nts (.returned (.slice A' nts c')) w':=⟨A',c',rfl,own2,b1.grown gr (by simp) (fun k hk => by simp [Value.ownBlock] at hk;omega)⟩
  have FIN:=Lib.hid fin
  clear fin own own' own2 gr hr b1 hi0 hz0 hz1 hz2 h
  go_enter Tryz.func75,Tryz.ntmps75
  go_wp2_with (at_builtin;refine wpList_append_run rfl _ _ _ rfl rfl rfl happ ?_)
  go_ret
  exact FIN.out

def FactsQ (w:World) (ad:Nat→Nat) (nts:Nat) (e:Ending) (w':World):Prop:=
 ∃ g A c,w.heap.size ≤ g∧e = .returned (.func (.func 76) #[] #[.pointer (some ⟨g,0,none⟩)])∧Blk w' g 136 #[.slice A nts c]∧w'.ownsRow w.heap.size 121 1 (.slice A nts c) nts (ptC ad nts)∧Below w.heap.size w w'
theorem afacts_any (w:World) (O:Nat→Option CRo) (p side n nts:Nat) (pv:Value) (ad:Nat→Nat) (B:Mats) (h:ClI w O p side n nts pv ad B) (h1:1 ≤ nts) (h5:nts ≤ 512) :
  Calls Tryz.prog 20 #[.pointer (some ⟨p,0,none⟩)] w (FactsQ w ad nts):=by
 obtain ⟨g,gc,rfl,-,-,-,-,-⟩:=own_cells h.rows (by omega)
 have k1:=Blk.new w 136 #[.slice none 0 0]
 have b1:Below w.heap.size w (w.alloc (.cells #[.slice none 0 0] 136)):=(Below.refl _ _).alloc (Nat.le_refl _) _
 have hi:=h.upd (Upd.of_below b1 (fun _ => False)) (fun _ _ => id)
 have his:=ais_any (w.alloc (.cells #[.slice none 0 0] 136)) p g nts gc (hi.blk.cell 1)
 have q1:(w.alloc (.cells #[.slice none 0 0] 136)).cell? ⟨p,1,none⟩ = some (.slice (some ⟨g,0,none⟩) nts gc):=hi.blk.cell 1
 have hcl:=clone_pt _ (some ⟨g,0,none⟩) gc nts ad (RowR.of_own hi.rows) h1 h5
 have hz:(w.alloc (.cells #[.slice none 0 0] 136)).heap.size = w.heap.size + 1:=by simp
 have H:=Lib.hid (And.intro k1 (And.intro b1 hz))
 clear k1 b1 h hi hz
 go_enter Tryz.func20,Tryz.ntmps20
 go_upto_region 2 with (fail)
 generalize hW1:w.alloc (.cells #[.slice none 0 0] 136) = W1 at H his q1 hcl ⊢
 clear hW1
 go_wp2_with fail
 refine his.mono ?_
 clear his
 rintro e V ⟨rfl,hw⟩
 subst V
 go_wp2_with fail
 refine hcl.mono ?_
 clear hcl q1
 rintro e W2 ⟨A,c,rfl,own,b2⟩
 have k2:=H.out.1.upd (Upd.of_below b2 (fun _ => False)) id
 have q2:W2.cell? ⟨w.heap.size,0,none⟩ = some (.slice none 0 0):=k2.cell 0
 have f2:=k2.frozen 0
 have H2:=Lib.hid (And.intro k2 (And.intro own b2))
 clear k2 own b2
 go_wp2
 go_ret
 have hz1:=H.out.2.2
 refine ⟨w.heap.size,A,c,Nat.le_refl _,rfl,H2.out.1.set 0 _,?_,?_⟩
 ·exact ownsRow_upd (ownsRow_base (base':=w.heap.size) H2.out.2.1 (fun k hk => by have:=(H2.out.2.1.lt k hk).1;omega)) ((Upd.refl (fun q => q = w.heap.size) W2).setCell (.inl rfl) _) (fun k hk e => by have:=(H2.out.2.1.lt k hk).1;omega)
 ·exact (H.out.2.1.trans (H2.out.2.2.mono (by omega))).setCell (Nat.le_refl _) _
end Go.Proofs.YtddffnonlmfhdaaGreatDoor
namespace Go.Proofs.YtddffnonlmfhdaaGreatDoor
open Go.RowKit Go.Shelf
attribute [local go_sem] Oper.semAt_some
def facF (B:Mats):Nat→Nat→List (Nat × Nat × Nat)
 | _,0 => []
 | k,n + 1 => (qcL (B k)).map (fun y => (k,y)) ++ facF B (k + 1) n
def facL (B:Mats) (nts:Nat):List (Nat × Nat × Nat):=facF B 0 nts
def enc3 {Q:Nat × Nat × Nat→Prop} (x:{x:Nat × Nat × Nat // Q x}):Array Value:=#[.agg #[.int .i64 (x.1.1:Int),.int .i64 (x.1.2.1:Int),.int .i64 (x.1.2.2:Int)]]
def upF {Q:Nat × Nat × Nat→Prop} (k:Nat) (y:{y:Nat × Nat // Q (k,y)}):{x:Nat × Nat × Nat // Q x}:=⟨(k,y.1),y.2⟩
theorem subF_map {α:Type} (L:List α) (Q:α→Prop) (hQ:∀ x ∈ L,Q x):(subL L Q hQ).map (·.1) = L:=by unfold subL;simp
theorem valF_inj {α:Type} {Q:α→Prop} {l m:List {x:α // Q x}} (h:l.map (·.1) = m.map (·.1)):l = m:=
 (List.map_inj_right (fun _ _ e => Subtype.ext e)).1 h
theorem subF_part {L R:List (Nat × Nat × Nat)} {M:List (Nat × Nat)} {Q:Nat × Nat × Nat→Prop} {hQ:∀ x ∈ L,Q x} {c k:Nat} (h:L.drop c = M.map (fun y => (k,y)) ++ R) (hQ':∀ y ∈ M,Q (k,y)) (j:Nat) (hj:j ≤ M.length) :
  (subL L Q hQ).take (c + j) = (subL L Q hQ).take c ++ ((subL M (fun y => Q (k,y)) hQ').take j).map (upF k):=by
 apply valF_inj
 rw [List.map_append,List.map_map,List.map_take,List.map_take,subF_map,List.take_add,h]
 congr 1
 have e:((fun z:{x:Nat × Nat × Nat // Q x} => z.1) ∘ upF (Q:=Q) k) = (fun y:Nat × Nat => (k,y)) ∘ (fun y:{y:Nat × Nat // Q (k,y)} => y.1):=rfl
 rw [e,← List.map_map,List.map_take,subF_map]
 rw [List.take_append_of_le_length (by rw [List.length_map];exact hj),List.map_take]
theorem rowF_in {L R:List (Nat × Nat × Nat)} {M:List (Nat × Nat)} {Q:Nat × Nat × Nat→Prop} (hQ:∀ x ∈ L,Q x) {c k:Nat} (h:L.drop c = M.map (fun y => (k,y)) ++ R):∀ y ∈ M,Q (k,y):=fun y hy => by
 refine hQ _ (List.mem_of_mem_drop (i:=c) ?_)
 rw [h]
 exact List.mem_append_left _ (List.mem_map.2 ⟨y,hy,rfl⟩)

structure FaI (lb:Nat) (F:Nat→Prop) (B:Mats) (nts:Nat) (L:List (Nat × Nat × Nat)) (Q:Nat × Nat × Nat→Prop) (hQ:∀ x ∈ L,Q x) (J:List {x:Nat × Nat × Nat // Q x}→World→Prop) (W1 wr:World) (k c:Nat) (Ds:List Nat):Prop where
 at_:L.drop c = facF B k (nts - k)
 le:c ≤ L.length
 j:J ((subL L Q hQ).take c) wr
 kp:KpM lb F W1 wr
 nd:Ds.Nodup
 ds:∀ D ∈ Ds,W1.heap.size ≤ D∧Prv lb F wr D∧wr.heap[D]? = some (.deferred (some []))
def FacO (g:Nat) (v:Value) (Oc:Nat→Prop) (q:Nat):Prop:=q = 1 ∨ q = g ∨ v.ownBlock = some q ∨ Oc q
structure RowG (lb g0:Nat) (F:Nat→Prop) (l k g3 gq:Nat) (b:Option (List Nat)) (v:Value) (W4:World):Prop where
 lt:lb < W4.heap.size
 rg:RgM lb W4
 fF:∀ q,F q→q < W4.heap.size∧¬ CellO gq b v q
 row:∀ u q,W4.cell? ⟨lb,0,none⟩ = some u→u.ownBlock = some q→¬ CellO gq b v q
 tab:TabW W4
 k2:Blk W4 g0 79 #[.func (.yield l) #[] #[]]
 p2:Prv lb F W4 g0
 k3:Blk W4 g3 3 #[.int .i64 (k:Int)]
 p3:Prv lb F W4 g3
def RowJ {Q:Nat × Nat × Nat→Prop} (lb:Nat) (F:Nat→Prop) (J:List {x:Nat × Nat × Nat // Q x}→World→Prop) (pre0:List {x:Nat × Nat × Nat // Q x}) (k:Nat) (W4:World) (pre:List {y:Nat × Nat // Q (k,y)}) (V:World):Prop:=
 J (pre0 ++ pre.map (upF k)) V∧KpM lb F W4 V∧lb < V.heap.size
def RowY {Q:Nat × Nat × Nat→Prop} (lb:Nat) (F:Nat→Prop) (Jx:List {x:Nat × Nat × Nat // Q x}→World→Prop) (pre0:List {x:Nat × Nat × Nat // Q x}) (k:Nat) (W4:World) (c:Code) (pre:List {y:Nat × Nat // Q (k,y)}) (V:World):Prop:=
 c = .ret∧Jx (pre0 ++ pre.map (upF k)) V∧KpM lb F W4 V
theorem rowJ_own {Q:Nat × Nat × Nat→Prop} {lb g0:Nat} {F:Nat→Prop} {J:List {x:Nat × Nat × Nat // Q x}→World→Prop} {pre0:List {x:Nat × Nat × Nat // Q x}} {k:Nat} {W4:World} (hJ:OwnP lb F g0 J) (hl:lb < W4.heap.size) (r4:RgM lb W4) (hg:g0 < W4.heap.size) :
  OwnP lb F W4.heap.size (RowJ lb F J pre0 k W4):=by
 rintro s X Y row ⟨h1,h2,h5⟩ hgr hr
 exact ⟨(hJ.from (by omega)) _ X Y row h1 hgr hr,ownP_kpM (β:=Unit) (Nat.le_refl _) hl r4 () X Y row h2 hgr hr,Nat.lt_of_lt_of_le h5 hgr.size⟩
theorem rowY_own {Q:Nat × Nat × Nat→Prop} {lb g0:Nat} {F:Nat→Prop} {Jx:List {x:Nat × Nat × Nat // Q x}→World→Prop} {pre0:List {x:Nat × Nat × Nat // Q x}} {k:Nat} {W4:World} (hJ:OwnP lb F g0 Jx) (hl:lb < W4.heap.size) (r4:RgM lb W4) (hg:g0 < W4.heap.size) (c:Code) :
  OwnP lb F W4.heap.size (RowY lb F Jx pre0 k W4 c):=by
 rintro s X Y row ⟨h0,h1,h2⟩ hgr hr
 exact ⟨h0,(hJ.from (by omega)) _ X Y row h1 hgr hr,ownP_kpM (β:=Unit) (Nat.le_refl _) hl r4 () X Y row h2 hgr hr⟩
structure FacW (w:World) (gl c nts side:Nat) (A:Option Addr) (ad:Nat→Nat) (B:Mats) (Oc:Nat→Prop):Prop where
 tab:TabW w
 blk:Blk w gl 136 #[.slice A nts c]
 own:w.ownsRow 0 121 1 (.slice A nts c) nts (ptC ad nts)
 mat:∀ k,k < nts→∃ F,QuS w F (ad k) side (B k)∧∀ q,F q→Oc q
theorem FacW.upd {w w':World} {gl c nts side:Nat} {A:Option Addr} {ad:Nat→Nat} {B:Mats} {Oc G:Nat→Prop} (h:FacW w gl c nts side A ad B Oc) (hu:Upd G w w') (hd:∀ q,FacO gl (.slice A nts c) Oc q→¬ G q):FacW w' gl c nts side A ad B Oc:=
 ⟨h.tab.upd hu h.tab.lt (hd _ (.inl rfl)),h.blk.upd hu (hd _ (.inr (.inl rfl))),ownsRow_upd h.own hu (fun q hq => hd q (.inr (.inr (.inl hq)))),fun k hk => by
  obtain ⟨F,h1,h2⟩:=h.mat k hk
  exact ⟨F,h1.upd hu (fun q hq => hd q (.inr (.inr (.inr (h2 q hq))))),h2⟩⟩

theorem af_stops (w:World) (gl c nts side:Nat) (A:Option Addr) (ad:Nat→Nat) (B:Mats) (Oc:Nat→Prop) (h:FacW w gl c nts side A ad B Oc) (hOc:∀ q,Oc q→q < w.heap.size) (h1:1 ≤ nts) (h5:nts ≤ 512)
  (Q:Nat × Nat × Nat→Prop) (hQb:∀ x,Q x→x.1 < 512∧x.2.1 < 64∧x.2.2 < 64) (hQ:∀ x ∈ facL B nts,Q x) :
  SeqM Tryz.prog 76 #[.pointer (some ⟨gl,0,none⟩)] enc3 (FacO gl (.slice A nts c) Oc) (fun ys => ys = subL (facL B nts) Q hQ) (fun pre => ∃ k,k ≤ (facL B nts).length∧pre = (subL (facL B nts) Q hQ).take k) (facL B nts).length w:=by
 intro l lb F J Jx W hW hJ hJx hlb hrg hF hrow hY h0
 have hol:∀ q,FacO gl (.slice A nts c) Oc q→q < w.heap.size:=fun q hq => by
  rcases hq with rfl | rfl | hq | hq
  ·exact h.tab.lt
  ·exact h.blk.lt
  ·exact (h.own.lt q hq).2
  ·exact hOc q hq
 have hp:∀ q,FacO gl (.slice A nts c) Oc q→Prv lb F W q:=fun q ho => ⟨Nat.lt_of_lt_of_le (hol q ho) hW.size,fun ha => ha.elim (fun hf => (hF q hf).2 ho) (fun ⟨v,hv,hq⟩ => hrow v q hv hq ho)⟩
 have hw:=h.upd (Upd.of_below hW (fun _ => False)) (fun _ _ => id)
 obtain ⟨ga,cc,e,hob,-,-,-,hcell⟩:=own_cells hw.own (by omega)
 injection e with e1 e2 e3
 subst e1
 subst e3
 have k2:=Blk.new W 79 #[.func (.yield l) #[] #[]]
 have b1:Below W.heap.size W (W.alloc (.cells #[.func (.yield l) #[] #[]] 79)):=(Below.refl _ _).alloc (Nat.le_refl _) _
 have z1:(W.alloc (.cells #[.func (.yield l) #[] #[]] 79)).heap.size = W.heap.size + 1:=by simp
 have hw1:=hw.upd (Upd.of_below b1 (fun _ => False)) (fun _ _ => id)
 have H:=Lib.hid (And.intro hJ (And.intro hJx (And.intro hlb (And.intro hrg (And.intro (fun q hq => (hF q hq).1) (And.intro hp hY))))))
 have kp1:=KpM.of_below (lb:=lb) (F:=F) b1 hlb
 have r1:=kp1.rg hrg
 have lb1:lb < (W.alloc (.cells #[.func (.yield l) #[] #[]] 79)).heap.size:=by omega
 have p2:Prv lb F (W.alloc (.cells #[.func (.yield l) #[] #[]] 79)) W.heap.size:=Prv.since b1 hlb hrg (fun q hq => (hF q hq).1) (Nat.le_refl _) (by omega)
 have pO:∀ q,FacO gl (.slice (some ⟨ga,0,none⟩) nts c) Oc q→Prv lb F (W.alloc (.cells #[.func (.yield l) #[] #[]] 79)) q:=fun q ho => (kp1.prv hrg (hp q ho)).2
 have j1:=hJ.below h0 b1
 have q1:(W.alloc (.cells #[.func (.yield l) #[] #[]] 79)).cell? ⟨gl,0,none⟩ = some (.slice (some ⟨ga,0,none⟩) nts c):=hw1.blk.cell 0
 clear h hW hJ hJx hlb hrg hF hrow hY h0 hol hp hw hob hcell hOc e2
 refine (callsIn_wide (n:=1)).1 ?_
 refine callsIn_of_wp_marks Tryz.func76 rfl trivial ?_ rfl
 simp only [Tryz.ntmps76,List.size_toArray,List.length_cons,List.length_nil,Nat.reduceAdd,Nat.reduceSub,Array.replicate_succ,Array.replicate_zero,List.push_toArray,List.append_toArray,List.nil_append,List.cons_append]
 refine wpIn_wide.2 ?_
 go_upto_region 1 with (fail)
 generalize hW1:W.alloc (.cells #[.func (.yield l) #[] #[]] 79) = W1 at k2 b1 z1 hw1 kp1 r1 lb1 p2 pO j1 q1 ⊢
 clear hW1
 have HI0:=Lib.hid (show FaI lb F B nts (facL B nts) Q hQ J W1 W1 0 0 [] from ⟨rfl,Nat.zero_le _,by simpa using j1,KpM.refl _ _ _,List.nodup_nil,fun D hD => by cases hD⟩)
 have HW:=Lib.hid (And.intro b1 (And.intro k2 (And.intro p2 (And.intro pO (And.intro hw1 (And.intro r1 (And.intro lb1 (And.intro z1 kp1))))))))
 clear b1 k2 p2 pO hw1 r1 lb1 z1 kp1 j1
 go_wp2
 clear q1
 refine wp_loop (fun a wr => ∃ (k c':Nat) (Ds:List Nat) (u3 u4 u5 u6 u10 u11 u12 u13 u14 u15 u16 u17 u18 u19 u20 u21 u22 u23 u24 u25:Value),a = ⟨#[.func (.yield l) #[] #[],.pointer (some ⟨gl,0,none⟩),.pointer (some ⟨W.heap.size,0,none⟩),u3,u4,u5,u6,.slice (some ⟨ga,0,none⟩) nts c,.int .i64 (nts:Int),.int .i64 (k:Int),u10,u11,u12,u13,u14,u15,u16,u17,u18,u19,u20,u21,u22,u23,u24,u25],Ds.map (fun D => { target:=.collected D,args:=#[] })⟩∧k ≤ nts∧FaI lb F B nts (facL B nts) Q hQ J W1 wr k c' Ds) (fun a _ => nts - (intOf (a.tmps.getD 9 undef)).toNat) ?_ ?_
 ·exact ⟨0,0,[],_,_,_,_,_,_,_,_,_,_,_,_,_,_,_,_,_,_,_,_,rfl,by omega,HI0.out⟩
 ·rintro a wr ⟨k,c',Ds,u3,u4,u5,u6,u10,u11,u12,u13,u14,u15,u16,u17,u18,u19,u20,u21,u22,u23,u24,u25,rfl,hk,hI⟩
  have HI:=Lib.hid hI
  clear hI
  by_cases hlt:k < nts
  ·have hltI:(k:Int) < (nts:Int):=by omega
   have hkw:IntKind.i64.wrap ((k:Int) + 1) = (k:Int) + 1:=IntWalk.i64_in _ (by omega)
   have rw1:RgM lb wr:=HI.out.kp.rg HW.out.2.2.2.2.2.1
   have lbr:lb < wr.heap.size:=Nat.lt_of_lt_of_le HW.out.2.2.2.2.2.2.1 (HI.out.kp.size HW.out.2.2.2.2.2.1)
   have hwr:=HW.out.2.2.2.2.1.upd (HI.out.kp HW.out.2.2.2.2.2.1).1 (fun q ho => (HW.out.2.2.2.1 q ho).2)
   have qk:wr.cell? ⟨ga,k,none⟩ = some (.pointer (some ⟨ad k,0,none⟩)):=by
    obtain ⟨g',c1,e,-,-,-,-,hc⟩:=own_cells hwr.own (by omega)
    injection e with e
    injection e with e
    injection e with e
    subst e
    exact (hc k _ (ptC_at hlt)).1
   have k3:=Blk.new wr 3 #[.int .i64 (k:Int)]
   have b3:Below wr.heap.size wr (wr.alloc (.cells #[.int .i64 (k:Int)] 3)):=(Below.refl _ _).alloc (Nat.le_refl _) _
   have z3:(wr.alloc (.cells #[.int .i64 (k:Int)] 3)).heap.size = wr.heap.size + 1:=by simp
   have hw3:=hwr.upd (Upd.of_below b3 (fun _ => False)) (fun _ _ => id)
   obtain ⟨Fk,hq,hFk⟩:=hw3.mat k hlt
   have hcon:=mcells_made _ Fk (ad k) side (B k) hq
   have hwd:=hq.wd
   have HX:=Lib.hid (And.intro rw1 (And.intro lbr (And.intro b3 (And.intro k3 (And.intro z3 (And.intro hw3 hwd))))))
   clear rw1 lbr hwr k3 b3 z3 hw3 hq hFk hwd
   go_upto_region 4 with (fail)
   clear qk
   generalize hW3:wr.alloc (.cells #[.int .i64 (k:Int)] 3) = W3 at HX hcon ⊢
   clear hW3
   go_wp2_with fail
   refine hcon.mono ?_
   clear hcon
   rintro e W4 ⟨gq,A4,n4,c4,hgq,rfl,kq,b4,hch⟩
   have HB:=Lib.hid (And.intro hgq (And.intro kq (And.intro b4 hch)))
   clear hgq kq b4 hch
   go_wp2
   have HD:=Lib.hid (show (facL B nts).drop c' = (qcL (B k)).map (fun y => (k,y)) ++ facF B (k + 1) (nts - (k + 1)) from by
    rw [HI.out.at_,show nts - k = (nts - (k + 1)) + 1 by omega];rfl)
   have hbb:Below wr.heap.size wr W4:=HX.out.2.2.1.trans (HB.out.2.2.1.mono HX.out.2.2.1.size)
   have hFlt:∀ q,F q→q < wr.heap.size:=fun q hq => by
    have h1:=H.out.2.2.2.2.1 q hq
    have h2:=HW.out.1.size
    have h3:=HI.out.kp.size HW.out.2.2.2.2.2.1
    omega
   have hz3:=HX.out.2.2.2.2.1
   have hgq:=HB.out.1
   have pT4:Prv lb F W4 1:=((HI.out.kp.prv HW.out.2.2.2.2.2.1 (HW.out.2.2.2.1 _ (.inl rfl))).2).below hbb HX.out.2.1
   have hr4:RgM lb W4:=(KpM.of_below (F:=F) hbb HX.out.2.1).rg HX.out.1
   have hcl:∀ q,CellO gq (B k) (.slice A4 n4 c4) q→q = 1 ∨ W3.heap.size ≤ q:=fun q hq => by
    rcases hq with hq | rfl | ⟨hs,hq⟩
    ·exact .inl hq
    ·exact .inr hgq
    ·exact .inr (HB.out.2.2.2.own hs hq).1
   have HR:RowG lb W.heap.size F l k wr.heap.size gq (B k) (.slice A4 n4 c4) W4:=by
    have u4:=Upd.of_below HB.out.2.2.1 (fun _ => False)
    have hz4:=HB.out.2.2.1.size
    have ub:=Upd.of_below hbb (fun _ => False)
    refine ⟨by have:=HX.out.2.1;omega,hr4,fun q hq => ⟨by have:=hFlt q hq;omega,fun ho => ?_⟩,fun v q hv ho hc => ?_,HX.out.2.2.2.2.2.1.tab.upd u4 HX.out.2.2.2.2.2.1.tab.lt id,(HI.out.kp.blk HW.out.2.2.2.2.2.1 HW.out.2.2.1 HW.out.2.1).upd ub id,(HI.out.kp.prv HW.out.2.2.2.2.2.1 HW.out.2.2.1).2.below hbb HX.out.2.1,HX.out.2.2.2.1.upd u4 id,?_⟩
    ·rcases hcl q ho with rfl | hge
     ·exact pT4.2 (.inl hq)
     ·have:=hFlt q hq;omega
    ·rcases hcl q hc with rfl | hge
     ·exact pT4.2 (.inr ⟨v,hv,ho⟩)
     ·rw [hbb.cell (p:=⟨lb,0,none⟩) HX.out.2.1] at hv
      have:=HX.out.1 v q hv ho;omega
    ·exact Prv.since hbb HX.out.2.1 HX.out.1 hFlt (Nat.le_refl _) (by omega)
   have hg4:W.heap.size < W4.heap.size:=HR.k2.lt
   have hQ':=rowF_in hQ HD.out
   have hm:∀ j,j ≤ (qcL (B k)).length→c' + j ≤ (facL B nts).length:=fun j hj => by
    have:=congrArg List.length HD.out
    rw [List.length_drop,List.length_append,List.length_map] at this
    have:=HI.out.le
    omega
   have hst:=mcells_stops W4 (B k) HX.out.2.2.2.2.2.2 HR.tab gq c4 n4 A4 (fun y => Q (k,y)) (fun y hy => (hQb _ hy).2) hQ' HB.out.2.1 W3.heap.size HB.out.2.2.2
   have j4:RowJ lb F J ((subL (facL B nts) Q hQ).take c') k W4 [] W4:=by
    refine ⟨?_,KpM.refl _ _ _,HR.lt⟩
    have:=H.out.1.below HI.out.j hbb
    simpa using this
   have HS:=Lib.hid (And.intro HR (And.intro hg4 (And.intro hm (And.intro hbb j4))))
   have HT:=Lib.hid hst
   have hOl:∀ q,CellO gq (B k) (.slice A4 n4 c4) q→q < W4.heap.size:=fun q ho => by
    rcases ho with rfl | rfl | ⟨hs,hq⟩
    ·exact HR.tab.lt
    ·exact HB.out.2.1.lt
    ·exact (HB.out.2.2.2.own hs hq).2
   clear hst HR hg4 hm j4 hFlt pT4 hr4 hcl hz3 hgq hbb
   refine wp_rangeM (gf:=120) (cap:=#[.pointer (some ⟨gq,0,none⟩)]) rfl (enters_of Tryz.func120 (by kernel_rfl) rfl) HT.out (Below.refl _ _) hOl (fun _ => rfl)
    lb F HS.out.1.lt HS.out.1.rg HS.out.1.fF HS.out.1.row
    (RowJ lb F J ((subL (facL B nts) Q hQ).take c') k W4) (RowY lb F Jx ((subL (facL B nts) Q hQ).take c') k W4)
    (rowJ_own H.out.1 HS.out.1.lt HS.out.1.rg HS.out.2.1) (rowY_own H.out.2.1 HS.out.1.lt HS.out.1.rg HS.out.2.1) HS.out.2.2.2.2
    (fun T y _ => (((T.setIfInBounds 16 (.int .i64 (y.1.1:Int))).setIfInBounds 17 (.int .i64 (y.1.2:Int))).setIfInBounds 5 (.int .i64 (y.1.1:Int))).setIfInBounds 6 (.int .i64 (y.1.2:Int)))
    (fun _ _ _ => True)
    ?hBx ?assign ?body ?done ?stop
   case hBx => exact fun _ _ _ _ _ _ _ _ _ => trivial
   case assign =>
    rintro l2 pre y V Kc hrV hsV hi hK
    dsimp only [enc2]
    have HI2:=Lib.hid hi
    clear hi
    gi_wp2
    exact hK 0 V (KpM.refl _ _ _) HI2.out trivial
   case body =>
    rintro l2 pre y b V hrV hsV ⟨j1,kp,lbV⟩ - hlt2
    have hyb:=hQb _ y.2
    have hR:=HS.out.1
    have c3:V.cell? ⟨W.heap.size,0,none⟩ = some (.func (.yield l) #[] #[]):=(kp.blk hR.rg hR.p2 hR.k2).cell 0
    have c5:V.cell? ⟨wr.heap.size,0,none⟩ = some (.int .i64 (k:Int)):=(kp.blk hR.rg hR.p3 hR.k3).cell 0
    have hlen:((subL (facL B nts) Q hQ).take c' ++ pre.map (upF k)).length < (facL B nts).length:=by
     rw [List.length_append,List.length_take,List.length_map,subL_len]
     have:=HS.out.2.2.1 (pre.length + 1) hlt2
     omega
    obtain ⟨fn,tmps,assign,body,hy,hRd⟩:=yield_round (l2:=l2) (n:=0) (H.out.2.2.2.2.2.2 _ (upF k y) V j1 hlen)
    dsimp only [enc3,upF] at hy
    have HK:=Lib.hid (And.intro kp (And.intro lbV hrV))
    clear kp lbV hrV hR hyb hlen j1
    simp only [sA,sZ,sS]
    gi_wp2
    refine ⟨rfl,hRd.mono ?_⟩
    clear hRd hy c3 c5
    rintro e V3 ⟨hk3,(⟨rfl,hJ3⟩ | ⟨rfl,hJx3⟩)⟩
    ·have FIN:=Lib.hid (show KpM lb F V V3∧RowJ lb F J ((subL (facL B nts) Q hQ).take c') k W4 (pre ++ [y]) V3 from by
      obtain ⟨kp,lbV,hrV⟩:=HK.out
      exact ⟨hk3,by rw [List.map_append,← List.append_assoc];exact hJ3,kp.trans hk3,Nat.lt_of_lt_of_le lbV (hk3.size hrV)⟩)
     clear hJ3 hk3
     gi_wp2
     exact FIN.out
    ·have FIN:=Lib.hid (show KpM lb F V V3∧RowY lb F Jx ((subL (facL B nts) Q hQ).take c') k W4 .ret (pre ++ [y]) V3 from by
      obtain ⟨kp,lbV,hrV⟩:=HK.out
      exact ⟨hk3,rfl,by rw [List.map_append,← List.append_assoc];exact hJx3,kp.trans hk3⟩)
     clear hJx3 hk3
     gi_wp2
     exact FIN.out
   case done =>
    rintro ys V rfl ⟨j1,kp,lbV⟩ hrV pD hD
    have hI2:FaI lb F B nts (facL B nts) Q hQ J W1 V (k + 1) (c' + (qcL (B k)).length) (W4.heap.size :: Ds):=by
     have bb:=HS.out.2.2.2.1
     have kw:KpM lb F wr V:=(KpM.of_below bb HX.out.2.1).trans kp
     have hz4:=bb.size
     refine ⟨?_,HS.out.2.2.1 _ (Nat.le_refl _),?_,HI.out.kp.trans kw,?_,fun D hD' => ?_⟩
     ·rw [← List.drop_drop,HD.out,show (qcL (B k)).length = ((qcL (B k)).map (fun y => (k,y))).length by rw [List.length_map],List.drop_left]
     ·rw [subF_part HD.out (rowF_in hQ HD.out) _ (Nat.le_refl _),show (subL (qcL (B k)) (fun y => Q (k,y)) (rowF_in hQ HD.out)).take (qcL (B k)).length = subL (qcL (B k)) (fun y => Q (k,y)) (rowF_in hQ HD.out) from List.take_of_length_le (by rw [subL_len];exact Nat.le_refl _)]
      exact j1
     ·rw [List.nodup_cons]
      exact ⟨fun hm => by have:=(HI.out.ds _ hm).2.1.1;omega,HI.out.nd⟩
     ·rcases List.mem_cons.1 hD' with rfl | hm
      ·exact ⟨Nat.le_trans (HI.out.kp.size HW.out.2.2.2.2.2.1) hz4,pD,hD⟩
      ·have h5:=HI.out.ds D hm
       have h6:=kw.prv HX.out.1 h5.2.1
       exact ⟨h5.1,h6.2,h6.1.trans h5.2.2⟩
    have HN:=Lib.hid hI2
    clear hI2 j1 kp lbV hrV pD hD
    go_wp2
    exact ⟨⟨k + 1,_,W4.heap.size :: Ds,_,_,_,_,_,_,_,_,_,_,_,_,_,_,_,_,_,_,_,_,rfl,by omega,HN.out⟩,by simp [intOf];omega⟩
   case stop =>
    rintro ct pre V ⟨j,hj,rfl⟩ ⟨rfl,jx,kp⟩ hrV pD hD
    have bb:=HS.out.2.2.2.1
    have kw:KpM lb F wr V:=(KpM.of_below bb HX.out.2.1).trans kp
    have hz4:=bb.size
    have hz:=HI.out.kp.size HW.out.2.2.2.2.2.1
    have z1:=HW.out.2.2.2.2.2.2.2.1
    have hds:∀ D ∈ W4.heap.size :: Ds,W1.heap.size ≤ D∧Prv lb F V D∧V.heap[D]? = some (.deferred (some [])):=fun D hD' => by
     rcases List.mem_cons.1 hD' with rfl | hm
     ·exact ⟨Nat.le_trans hz hz4,pD,hD⟩
     ·have h5:=HI.out.ds D hm
      have:=kw.prv HX.out.1 h5.2.1
      exact ⟨h5.1,this.2,this.1.trans h5.2.2⟩
    have hnd:(W4.heap.size :: Ds).Nodup:=List.nodup_cons.2 ⟨fun hm => by have:=(HI.out.ds _ hm).2.1.1;omega,HI.out.nd⟩
    have hlv:lb < V.heap.size:=by have:=HX.out.2.1;have:=kp.size HS.out.1.rg;omega
    have HL:=Lib.hid (And.intro hds (And.intro hnd (And.intro hlv jx)))
    clear jx kp hrV pD hD bb kw hz4 hds hnd hlv
    go_wp2
    refine leaves_own (B:=W1.heap.size) (fun w1 => Jx ((subL (facL B nts) Q hQ).take c' ++ ((subL (qcL (B k)) (fun y => Q (k,y)) hQ').take j).map (upF k)) w1) ?_ HW.out.2.2.2.2.2.2.1 ?_ (W4.heap.size :: Ds) V HL.out.2.1 HL.out.1 HL.out.2.2.1 HL.out.2.2.2
    ·rintro s X Y row h2 hg hrr
     exact (H.out.2.1.from (by omega)) _ X Y row h2 hg hrr
    ·intro w1 h2
     exact ⟨_,results_none rfl _ _ _,⟨_,rfl⟩,.inr ⟨_,⟨c' + j,HS.out.2.2.1 j hj,(subF_part HD.out hQ' j hj).symm⟩,h2⟩⟩
  ·obtain rfl:k = nts:=by omega
   have hdr:(facL B k).drop c' = []:=by rw [HI.out.at_,Nat.sub_self];rfl
   have jj:=HI.out.j
   rw [subL_all hdr] at jj
   have z1:=HW.out.2.2.2.2.2.2.2.1
   have lbr:lb < wr.heap.size:=Nat.lt_of_lt_of_le HW.out.2.2.2.2.2.2.1 (HI.out.kp.size HW.out.2.2.2.2.2.1)
   have HL:=Lib.hid (And.intro HI.out.ds (And.intro HI.out.nd (And.intro lbr jj)))
   clear hdr jj lbr
   go_wp2
   refine leaves_own (B:=W1.heap.size) (fun w1 => J (subL (facL B k) Q hQ) w1) ?_ HW.out.2.2.2.2.2.2.1 ?_ Ds _ HL.out.2.1 HL.out.1 HL.out.2.2.1 HL.out.2.2.2
   ·rintro s X Y row h2 hg hrr
    exact (H.out.1.from (by omega)) _ X Y row h2 hg hrr
   ·intro w1 h2
    exact ⟨_,results_none rfl _ _ _,⟨_,rfl⟩,.inl ⟨_,rfl,h2⟩⟩
end Go.Proofs.YtddffnonlmfhdaaGreatDoor
namespace Go.Proofs.YtddffnonlmfhdaaGreatDoor
open Go.RowKit Go.Shelf
attribute [local go_sem] Oper.semAt_some
theorem wpListIn_append_run {F:Fence} {nF:Nat} {P:Program} {ops:Array Oper} {rest:List Oper} {o:Oper} {a:Act} {Q:Exit→Act→World→Prop} {w w':World} {v v2 v':Value} (hgd:o.guard = none) (s x:Operand) (t:TypeId)
  (ho:o.op = .call { callee:=.builtin .append,args:=#[s,x],argTypes:=#[t,t] }) (hs:a.eval s = v) (hx:a.eval x = v2)
  (hrun:(Builtin.append_ #[t,t] o.type #[v,v2]).run P w = .ok v' w') (h:wpListIn F nF P ops Q rest (a.put o.dst v') w'):wpListIn F nF P ops Q (o :: rest) a w:=by
 refine wpListIn_plain hgd fun K hK => ?_
 unfold Oper.wpIn
 refine ⟨by simp [Oper.about,ho,resolve,Target.leads,Sem.run_pure],?_⟩
 rw [Oper.semAt_plain F _ _ (by rw [ho];intro c hc';cases hc')]
 simp [execOp,ho,resolve,invoke,builtin,hs,hx,hrun,Result.andThen]
 exact hK _ _ h
theorem info_fact:(Tryz.prog.info? 52).map (fun i => (i.zero,i.size,i.bytes)) = some (some (.agg #[.int .i64 0,.int .i64 0,.int .i64 0]),3,24):=by kernel_rfl
def faC (x:Nat × Nat × Nat):List Value:=[.int .i64 (x.1:Int),.int .i64 (x.2.1:Int),.int .i64 (x.2.2:Int)]
def faCells (L:List (Nat × Nat × Nat)):List Value:=L.flatMap faC
theorem one_fa (x:Nat × Nat × Nat):∀ u ∈ faC x,u.oneCell' = true:=by
 intro u hf
 simp [faC] at hf
 rcases hf with rfl | rfl | rfl <;> rfl
theorem push_fact (W:World) (B0 lb:Nat) (v:Value) (L:List (Nat × Nat × Nat)) (m:Nat × Nat × Nat) (hb:Blk W lb 74 #[v]) (own:W.ownsRow B0 52 3 v L.length (faCells L)) (hne:v.ownBlock ≠ some lb) (hl:(L.length + 1) * 24 ≤ 140737488355328) (hB:B0 ≤ W.heap.size) :
  ∃ v' W1,(Builtin.append_ #[74,74] 74 #[v,.slice (some ⟨W.heap.size,0,none⟩) 1 1]).run Tryz.prog (W.alloc (.cells (faC m).toArray 52)) = .ok v' W1 ∧
   Blk W1 lb 74 #[v]∧Blk (W1.setCell ⟨lb,0,none⟩ v') lb 74 #[v']∧(W1.setCell ⟨lb,0,none⟩ v').ownsRow B0 52 3 v' (L ++ [m]).length (faCells (L ++ [m]))∧v'.ownBlock ≠ some lb ∧
   Upd (fun q => q = lb ∨ v.ownBlock = some q) W (W1.setCell ⟨lb,0,none⟩ v')∧∀ k,v'.ownBlock = some k→v.ownBlock = some k ∨ W.heap.size ≤ k:=by
 obtain ⟨v',w',happ,own',up,pl⟩:=push_own W B0 74 52 3 24 _ Tryz.underlying74 info_fact rfl (by decide) v L.length _ own (faC m) 1 rfl (one_fa m) hl (by unfold maxLen;omega) hB
 have hne':v'.ownBlock ≠ some lb:=by
  intro e
  rcases pl lb e with h | h
  ·exact hne h
  ·have:=hb.lt;omega
 have kb:=hb.upd up (fun e => hne e)
 have us:Upd (fun q => q = lb) w' (w'.setCell ⟨lb,0,none⟩ v'):=(Upd.refl (fun q => q = lb) w').setCell (p:=⟨lb,0,none⟩) (.inl rfl) _
 refine ⟨v',w',happ,kb,kb.set 0 v',?_,hne',(up.mono (fun i _ h => .inr h)).trans us (fun i h => .inl (.inl h)),pl⟩
 have h1:=ownsRow_upd own' us (fun k hk e => hne' (by rw [hk,e]))
 rw [List.length_append,faCells,List.flatMap_append]
 simpa [faCells] using h1
structure LsF (w0 W:World) (lb:Nat) (L:List (Nat × Nat × Nat)) (v:Value):Prop where
 b:Blk W lb 74 #[v]
 own:W.ownsRow w0.heap.size 52 3 v L.length (faCells L)
 ne:v.ownBlock ≠ some lb
 u:Upd (fun q => q = lb) w0 W
theorem LsF.rg {w0 W:World} {lb:Nat} {L:List (Nat × Nat × Nat)} {v:Value} (h:LsF w0 W lb L v):RgM lb W:=fun u q hu hq => by
 have:=h.b.cell 0
 simp only [List.getElem?_toArray,List.getElem?_cons_zero] at this
 rw [this] at hu
 injection hu with e
 subst e
 exact (h.own.lt q hq).2
theorem ownsRow_other {w w':World} {base e size n:Nat} {v:Value} {xs:List Value} {row:Option Nat} (h:w.ownsRow base e size v n xs) (hg:w.grownBy w' row) (hn:∀ q,v.ownBlock = some q→row ≠ some q):w'.ownsRow base e size v n xs:=by
 have hu:=Upd.of_grown hg
 refine ownsRow_upd h hu (fun k hk e => hn k hk e)
theorem LsF.grown {w0 W W':World} {lb:Nat} {F:Nat→Prop} {L:List (Nat × Nat × Nat)} {v:Value} {row:Option Nat} (h:LsF w0 W lb L v) (hF:F lb) (hg:W.grownBy W' row) (hr:∀ k,row = some k→w0.heap.size ≤ k∧Prv lb F W k):LsF w0 W' lb L v:=
 ⟨h.b.grown hg (fun e => (hr lb e.symm).2.2 (.inl hF)),ownsRow_other h.own hg (fun q hq e => (hr q e).2.2 (.inr ⟨v,h.b.cell 0,hq⟩)),h.ne,h.u.grown hg (fun k hk => .inr (hr k hk).1)⟩
theorem kpM_of {lb:Nat} {F:Nat→Prop} {A B:World} {v v':Value} (ha:A.cell? ⟨lb,0,none⟩ = some v) (hb:B.cell? ⟨lb,0,none⟩ = some v') (hu:Upd (fun q => F q ∨ v.ownBlock = some q) A B) (hl:∀ q,v'.ownBlock = some q→q < B.heap.size) (pl:∀ k,v'.ownBlock = some k→v.ownBlock = some k ∨ A.heap.size ≤ k):KpM lb F A B:=by
 intro _
 refine ⟨hu.mono (fun i _ h => h.imp id (fun h => ⟨v,ha,h⟩)),fun u q h1 h2 => ?_⟩
 rw [hb] at h1
 injection h1 with e
 subst e
 refine ⟨hl q h2,fun hlt => ⟨v,ha,?_⟩⟩
 rcases pl q h2 with h | h
 ·exact h
 ·omega
theorem LsF.step {w0 W:World} {lb:Nat} {L:List (Nat × Nat × Nat)} {v:Value} (h:LsF w0 W lb L v) (m:Nat × Nat × Nat) (hl:(L.length + 1) * 24 ≤ 140737488355328) :
  ∃ v' W1,(Builtin.append_ #[74,74] 74 #[v,.slice (some ⟨W.heap.size,0,none⟩) 1 1]).run Tryz.prog (W.alloc (.cells #[.int .i64 (m.1:Int),.int .i64 (m.2.1:Int),.int .i64 (m.2.2:Int)] 52)) = .ok v' W1 ∧
   Blk W1 lb 74 #[v]∧LsF w0 (W1.setCell ⟨lb,0,none⟩ v') lb (L ++ [m]) v'∧KpM lb (fun q => q = lb) W (W1.setCell ⟨lb,0,none⟩ v'):=by
 obtain ⟨v',W1,h1,h2,h4,h5,h6,h7,h8⟩:=push_fact W w0.heap.size lb v L m h.b h.own h.ne hl h.u.size
 refine ⟨v',W1,h1,h2,⟨h4,h5,h6,h.u.trans h7 ?_⟩,kpM_of (h.b.cell 0) (h4.cell 0) h7 (fun q hq => (h5.lt q hq).2) h8⟩
 intro i hi
 rcases hi with hi | hi
 ·exact .inl hi
 ·exact .inr (h.own.lt i hi).1
theorem facF_mem (B:Mats):∀ (n k:Nat) (x:Nat × Nat × Nat),x ∈ facF B k n ↔ k ≤ x.1∧x.1 < k + n∧x.2 ∈ qcL (B x.1)
 | 0,k,x => by simp [facF];omega
 | n + 1,k,x => by
  rw [facF,List.mem_append,facF_mem B n (k + 1) x,List.mem_map]
  constructor
  ·rintro (⟨y,hy,rfl⟩ | ⟨h1,h2,h3⟩)
   ·exact ⟨Nat.le_refl _,by show k < _;omega,hy⟩
   ·exact ⟨by omega,by omega,h3⟩
  ·rintro ⟨h1,h2,h3⟩
   by_cases e:x.1 = k
   ·exact .inl ⟨x.2,by rw [← e];exact h3,by rw [← e]⟩
   ·exact .inr ⟨by omega,by omega,h3⟩
theorem facL_mem {B:Mats} {nts:Nat} (hw:∀ k,k < nts→Wd (oldW (B k))) {k i j:Nat}:(k,i,j) ∈ facL B nts ↔ k < nts∧i < 64∧j < 64∧bitO (B k) i j = true:=by
 unfold facL
 rw [facF_mem]
 constructor
 ·rintro ⟨-,h2,h3⟩
  have h2:k < nts:=by simpa using h2
  exact ⟨h2,(qcL_mem (hw k h2)).1 h3⟩
 ·rintro ⟨h2,h3⟩
  exact ⟨Nat.zero_le _,by simpa using h2,(qcL_mem (hw k h2)).2 h3⟩
theorem facF_len (B:Mats):∀ (n k:Nat),(∀ j,k ≤ j→j < k + n→Wd (oldW (B j)))→(facF B k n).length ≤ n * 4096
 | 0,k,_ => by simp [facF]
 | n + 1,k,h => by
  rw [facF,List.length_append,List.length_map,qcL_len]
  have h1:=lenB_most (h k (Nat.le_refl _) (by omega))
  have h2:=facF_len B n (k + 1) (fun j a b => h j (by omega) (by omega))
  omega
def FacP (w:World) (L:List (Nat × Nat × Nat)) (e:Ending) (w':World):Prop:=∃ A c,e = .returned (.slice A L.length c)∧w'.ownsRow w.heap.size 52 3 (.slice A L.length c) L.length (faCells L)∧Below w.heap.size w w'
theorem eql_seq_any (W:World) (f:Fn) (x y:Array Value):(binOp .eql 62 (.func f x y) .nilFunc).run Tryz.prog W = .ok (.bool false) W:=eql_seq_nil W f x y
theorem facts_any (w:World) (O:Nat→Option CRo) (p side n nts:Nat) (pv:Value) (ad:Nat→Nat) (B:Mats) (h:ClI w O p side n nts pv ad B) (hT:TabW w) (h1:1 ≤ nts) (h5:nts ≤ 512) :
  Calls Tryz.prog 35 #[.pointer (some ⟨p,0,none⟩)] w (FacP w (facL B nts)):=by
 have hwd:∀ k,k < nts→Wd (oldW (B k)):=fun k hk => by
  obtain ⟨F,hq,-⟩:=h.mats k hk
  exact hq.wd
 have hlen:(facL B nts).length ≤ 512 * 4096:=Nat.le_trans (facF_len B nts 0 (fun j _ hj => hwd j (by omega))) (Nat.mul_le_mul_right _ h5)
 have hQ:∀ x ∈ facL B nts,x.1 < 512∧x.2.1 < 64∧x.2.2 < 64:=fun x hx => by
  obtain ⟨k,i,j⟩:=x
  have:=(facL_mem hwd).1 hx
  exact ⟨Nat.lt_of_lt_of_le this.1 h5,this.2.1,this.2.2.1⟩
 have k3:=Blk.new w 74 #[.slice none 0 0]
 have b1:Below w.heap.size w (w.alloc (.cells #[.slice none 0 0] 74)):=(Below.refl _ _).alloc (Nat.le_refl _) _
 have hi:=h.upd (Upd.of_below b1 (fun _ => False)) (fun _ _ => id)
 have hT1:=hT.upd (Upd.of_below b1 (fun _ => False)) hT.lt id
 have hfa:=afacts_any (w.alloc (.cells #[.slice none 0 0] 74)) O p side n nts pv ad B hi h1 h5
 have HE:=fun (W:World) (f:Fn) (x y:Array Value) => eql_seq_any W f x y
 have H:=Lib.hid (And.intro b1 (And.intro k3 (And.intro hi (And.intro hT1 (And.intro hwd (And.intro hlen (And.intro hQ (And.intro h.lt hT.lt))))))))
 have hz:(w.alloc (.cells #[.slice none 0 0] 74)).heap.size = w.heap.size + 1:=by simp
 have HZ:=Lib.hid hz
 clear b1 k3 hi hT1 hwd hlen hQ h hT hz
 refine (callsIn_wide (n:=1)).1 ?_
 refine callsIn_of_wp_marks Tryz.func35 rfl trivial ?_ rfl
 simp only [Tryz.ntmps35,List.size_toArray,List.length_cons,List.length_nil,Nat.reduceAdd,Nat.reduceSub,Array.replicate_succ,Array.replicate_zero,List.push_toArray,List.append_toArray,List.nil_append,List.cons_append]
 refine wpIn_wide.2 ?_
 go_upto_region 2 with (fail)
 generalize hW1:w.alloc (.cells #[.slice none 0 0] 74) = W1 at H HZ hfa ⊢
 clear hW1
 go_wp2_with fail
 refine hfa.mono ?_
 clear hfa
 rintro e W2 ⟨g,A,c,hg,rfl,kg,own,b2⟩
 have H2:=Lib.hid (And.intro hg (And.intro kg (And.intro own b2)))
 clear hg kg own b2
 have hEq:=HE W2.drew (.func 76) #[] #[.pointer (some ⟨g,0,none⟩)]
 have hEq2:=HE W2 (.func 76) #[] #[.pointer (some ⟨g,0,none⟩)]
 go_wp2
 have hb12:Below w.heap.size w W2:=H.out.1.trans (H2.out.2.2.2.mono H.out.1.size)
 have hFW:FacW W2 g c nts side A ad B (fun q => O q ≠ none):=⟨H.out.2.2.2.1.upd (Upd.of_below H2.out.2.2.2 (fun _ => False)) H.out.2.2.2.1.lt id,H2.out.2.1,ownsRow_base H2.out.2.2.1 (fun _ _ => Nat.zero_le _),fun k hk => by
  obtain ⟨F,hq,hF⟩:=H.out.2.2.1.mats k hk
  exact ⟨F,hq.below H2.out.2.2.2,fun q hq e => by rw [hF q hq] at e;cases e⟩⟩
 have hOc:∀ q,O q ≠ none→q < w.heap.size:=fun q hq => H.out.2.2.2.2.2.2.2.1 q hq
 have hst:=af_stops W2 g c nts side A ad B (fun q => O q ≠ none) hFW (fun q hq => Nat.lt_of_lt_of_le (hOc q hq) hb12.size) h1 h5 (fun x => x.1 < 512∧x.2.1 < 64∧x.2.2 < 64) (fun _ h => h) H.out.2.2.2.2.2.2.1
 have kl:=H.out.2.1.upd (Upd.of_below H2.out.2.2.2 (fun _ => False)) id
 have hz1:=HZ.out
 have hz2:=H2.out.2.2.2.size
 have hFo:∀ q,FacO g (.slice A nts c) (fun q => O q ≠ none) q→q < W2.heap.size∧q ≠ w.heap.size:=fun q hq => by
  rcases hq with rfl | rfl | hq | hq
  ·have:=H.out.2.2.2.2.2.2.2.2;omega
  ·have:=H2.out.1;have:=H2.out.2.1.lt;omega
  ·have:=H2.out.2.2.1.lt q hq;omega
  ·have:=hOc q hq;omega
 have i0:LsF W2 W2 w.heap.size [] (.slice none 0 0):=⟨kl,World.ownsRow_nil _ _ _ _,by simp [Value.ownBlock],Upd.refl _ _⟩
 have hOwn:OwnP w.heap.size (fun q => q = w.heap.size) W2.heap.size (fun (pre:List {x:Nat × Nat × Nat // x.1 < 512∧x.2.1 < 64∧x.2.2 < 64}) V => ∃ v,LsF W2 V w.heap.size (pre.map (·.1)) v):=by
  rintro s X Y row ⟨v,h⟩ hg hr
  exact ⟨v,h.grown (F:=fun q => q = w.heap.size) rfl hg hr⟩
 have HS:=Lib.hid (And.intro hst (And.intro hFo (And.intro i0 (And.intro hOwn hb12))))
 have hlb2:w.heap.size < W2.heap.size:=by omega
 clear hst hFo i0 hOwn hb12 hFW hOc kl hz1 hz2
 refine wp_rangeM (gf:=76) (cap:=#[.pointer (some ⟨g,0,none⟩)]) rfl (enters_of Tryz.func76 (by kernel_rfl) rfl) HS.out.1 (Below.refl _ _) (fun q hq => (HS.out.2.1 q hq).1) (fun _ => rfl)
  w.heap.size (fun q => q = w.heap.size) hlb2 HS.out.2.2.1.rg (fun q e => ⟨by omega,fun ho => (HS.out.2.1 q ho).2 e⟩) (fun v q hv ho => by
   have:=HS.out.2.2.1.b.cell 0
   rw [this] at hv
   simp only [List.getElem?_toArray,List.getElem?_cons_zero] at hv
   injection hv with hv
   subst hv
   cases ho)
  _ (fun _ _ _ => False) HS.out.2.2.2.1 (fun c s X Y row h _ _ => h) ⟨_,HS.out.2.2.1⟩
  (fun T y b => (T.setIfInBounds 11 (.agg #[.int .i64 (y.1.1:Int),.int .i64 (y.1.2.1:Int),.int .i64 (y.1.2.2:Int)])).setIfInBounds 5 (.pointer (some ⟨b,0,none⟩)))
  (fun y b V => (∃ v,Blk V w.heap.size 74 #[v]∧v.ownBlock ≠ some b)∧Blk V b 52 #[.int .i64 (y.1.1:Int),.int .i64 (y.1.2.1:Int),.int .i64 (y.1.2.2:Int)]∧W2.heap.size ≤ b)
  ?hBx ?assign ?body ?done ?stop
 case hBx =>
  rintro x b st X Y row ⟨⟨v,h1,h2⟩,h3,h4⟩ hg hr
  exact ⟨⟨v,h1.keep hg hr,h2⟩,h3.keep hg hr,h4⟩
 case assign =>
  rintro l2 pre y V Kc hrV hsV ⟨v,hi⟩ hK
  dsimp only [enc3]
  have HI2:=Lib.hid hi
  clear hi
  gi_wp2
  have hi:=HI2.out
  refine hK V.heap.size _ (KpM.of_below ((Below.refl _ _).alloc (Nat.le_refl _) _) hi.b.lt) ⟨v,hi.b.alloc _,hi.own.alloc _,hi.ne,hi.u.alloc _⟩ ⟨⟨v,hi.b.alloc _,fun e => ?_⟩,Blk.new V _ _,hi.u.size⟩
  have:=(hi.own.lt _ e).2
  omega
 case stop => exact fun _ _ _ _ h => h.elim
 case body =>
  rintro l2 pre ⟨⟨k,i,j⟩,hy⟩ b V hrV hsV ⟨v,hi⟩ ⟨⟨v',hb1,hb2⟩,hb3,hb4⟩ hlt2
  obtain rfl:v = v':=by
   have e1:=hi.b.cell 0
   have e2:=hb1.cell 0
   rw [e1] at e2
   simpa using e2
  dsimp only at hb3
  obtain ⟨v9,V1,happ,kb1,hL,hk⟩:=hi.step (k,i,j) (by rw [List.length_map];have:=H.out.2.2.2.2.2.1;omega)
  obtain ⟨A9,c9,hv9,-,-⟩:=own_form hL.own
  generalize (pre.map (·.1) ++ [(k,i,j)]).length = n9 at hv9
  subst hv9
  have c5:V.cell? ⟨w.heap.size,0,none⟩ = some v:=hi.b.cell 0
  have m0:V.cell? ⟨b,0,none⟩ = some (.int .i64 (k:Int)):=hb3.cell 0
  have m1:V.cell? ⟨b,1,none⟩ = some (.int .i64 (i:Int)):=hb3.cell 1
  have m2:V.cell? ⟨b,2,none⟩ = some (.int .i64 (j:Int)):=hb3.cell 2
  have g5:V1.cell? ⟨w.heap.size,0,none⟩ = some v:=kb1.cell 0
  have f5:=kb1.frozen 0
  have hfin:KpM w.heap.size (fun q => q = w.heap.size) V (V1.setCell ⟨w.heap.size,0,none⟩ (.slice A9 n9 c9))∧∃ v,LsF W2 (V1.setCell ⟨w.heap.size,0,none⟩ (.slice A9 n9 c9)) w.heap.size ((pre ++ [(⟨(k,i,j),hy⟩:{x:Nat × Nat × Nat // x.1 < 512∧x.2.1 < 64∧x.2.2 < 64})]).map (·.1)) v:=⟨hk,_,by rw [List.map_append];exact hL⟩
  have HF:=Lib.hid hfin
  clear hfin hk hL kb1 hb1 hb2 hb3 hi hrV
  simp only [sA,sZ,sS]
  gi_wp2_with (gi_at_builtin;refine wpListIn_append_run rfl _ _ _ rfl rfl rfl happ ?_)
  exact HF.out
 case done =>
  rintro ys V rfl ⟨v,hi⟩ hrV pD hD
  rw [subF_map] at hi
  obtain ⟨A9,c9,hv9,-,-⟩:=own_form hi.own
  have hn9:(facL B nts).length = (facL B nts).length:=rfl
  have q3:V.cell? ⟨w.heap.size,0,none⟩ = some (.slice A9 (facL B nts).length c9):=by rw [← hv9];exact hi.b.cell 0
  subst hv9
  have HD:=Lib.hid (And.intro hi (And.intro pD hD))
  clear hi pD hD hrV hn9
  go_wp2
  refine leaves_own (B:=W2.heap.size) (F:=fun q => q = w.heap.size) (fun w1 => LsF W2 w1 w.heap.size (facL B nts) (.slice A9 (facL B nts).length c9)) ?_ hlb2 ?_ [W2.heap.size] V (by simp) (fun D hD' => ?_) HD.out.1.b.lt HD.out.1
  ·rintro s X Y row h2 hg hrr
   exact h2.grown (F:=fun q => q = w.heap.size) rfl hg hrr
  ·intro w1 h2
   refine ⟨.slice A9 (facL B nts).length c9,by simp [results,Tryz.f35,go_sem],A9,c9,rfl,ownsRow_base h2.own (fun k hk => Nat.le_trans HS.out.2.2.2.2.size (h2.own.lt k hk).1),HS.out.2.2.2.2.trans (h2.u.below (fun q _ e => by omega) (by omega))⟩
  ·simp only [List.mem_singleton] at hD'
   subst hD'
   exact ⟨Nat.le_refl _,HD.out.2.1,HD.out.2.2⟩
end Go.Proofs.YtddffnonlmfhdaaGreatDoor
namespace Go.Proofs.YtddffnonlmfhdaaGreatDoor
open Go.RowKit Go.Shelf
theorem RowR.fact {w:World} {A:Option Addr} {L:List (Nat × Nat × Nat)} (h:RowR w A (faCells L)) {k:Nat} {x:Nat × Nat × Nat} (hk:L[k]? = some x) :
  ∃ b o,A = some ⟨b,o,none⟩∧w.cell? ⟨b,o + k * 3,none⟩ = some (.int .i64 (x.1:Int))∧w.cell? ⟨b,o + k * 3 + 1,none⟩ = some (.int .i64 (x.2.1:Int))∧w.cell? ⟨b,o + k * 3 + 2,none⟩ = some (.int .i64 (x.2.2:Int)):=by
 have hg:=fun j (hj:j < 3) => flat_get faC 3 (fun _ => rfl) L k j x hk hj
 obtain ⟨b,o,rfl,h0⟩:=h _ _ (hg 0 (by omega))
 obtain ⟨b1,o1,e1,h1⟩:=h _ _ (hg 1 (by omega))
 obtain ⟨b2,o2,e2,h2⟩:=h _ _ (hg 2 (by omega))
 injection e1 with e1;injection e1 with e1 e1'
 injection e2 with e2;injection e2 with e2 e2'
 subst e1;subst e1';subst e2;subst e2'
 exact ⟨_,_,rfl,h0,h1,h2⟩
end Go.Proofs.YtddffnonlmfhdaaGreatDoor
namespace Go.Proofs.YtddffnonlmfhdaaGreatDoor
open Go.RowKit Go.Shelf
theorem gok_of {N:List Txt} {E:List Ed} (h:checkI N E = 0):GOk ⟨N,E⟩:=by
 have hf:=form_iff (check_caps h).1
 exact ⟨hf.1.nodup stoT,hf.2.1.nodup stoE,hf.2.2,(same_of h (fun _ => Iff.rfl) (fun _ => Iff.rfl)).1⟩
end Go.Proofs.YtddffnonlmfhdaaGreatDoor
namespace Go.Proofs.YtddffnonlmfhdaaGreatDoor
open Go.RowKit Go.Shelf
def NwC (W W':World) (nts:Int) (PV:List Pv) (labels:List Txt) (G:Gr) (v:Value) (e:Int):Prop:=
 Below W.heap.size W W'∧((achkI nts PV labels = 2∧v = .pointer none∧e = 2) ∨ (achkI nts PV labels = 0∧e = 0∧∃ (p:Nat) (F:Nat→Prop) (B:Mats),v = .pointer (some ⟨p,0,none⟩)∧ClS W' F p (max 1 G.N.length) G.N.length nts.toNat B∧(∀ k,F k→W.heap.size ≤ k) ∧
  (∀ k,k < nts.toNat→∀ i j,bitO (B k) i j = true ↔ DerP (PV.map (·.pr)) (ElG G labels) G.N.length (k:Int) i j)∧∀ k,WdO (B k)))
theorem nwC_of {W W':World} {nts:Int} {PV:List Pv} {labels:List Txt} {G:Gr} {e:Ending} (h:NewQ W nts PV labels G e W'):∃ v c,e = .returned (.tuple #[v,.int .i64 c])∧NwC W W' nts PV labels G v c:=by
 rcases h with ⟨h1,h2,h3⟩ | ⟨h1,p,F,B,h2,h3,h4,h5,h6⟩
 ·exact ⟨_,_,h2,h3,.inl ⟨h1,rfl,rfl⟩⟩
 ·exact ⟨_,_,h2,h5,.inr ⟨h1,rfl,p,F,B,rfl,h3,h4,h6⟩⟩
end Go.Proofs.YtddffnonlmfhdaaGreatDoor
namespace Go.Proofs.YtddffnonlmfhdaaGreatDoor
theorem nodup_map {α β:Type} {f:α→β} {l:List α} (h:l.Nodup) (hf:∀ a ∈ l,∀ b ∈ l,f a = f b→a = b):(l.map f).Nodup:=by
 unfold List.Nodup
 rw [List.pairwise_map]
 exact List.Pairwise.imp_of_mem (fun {a b} ha hb hn e => hn (hf a ha b hb e)) h
end Go.Proofs.YtddffnonlmfhdaaGreatDoor
namespace Go.Proofs.YtddffnonlmfhdaaGreatDoor
open Go.RowKit Go.Shelf
theorem facF_nodup {B:Mats}:∀ (n k:Nat),(facF B k n).Nodup
 | 0,_ => List.nodup_nil
 | n + 1,k => by
  rw [facF,List.nodup_append]
  refine ⟨nodup_map (qcL_nodup _) (fun a _ b _ e => by injection e),facF_nodup n (k + 1),fun a ha b hb e => ?_⟩
  subst e
  obtain ⟨y,-,rfl⟩:=List.mem_map.1 ha
  have:=((facF_mem B n (k + 1) _).1 hb).1
  dsimp only at this
  omega
end Go.Proofs.YtddffnonlmfhdaaGreatDoor
namespace Go.Proofs.YtddffnonlmfhdaaGreatDoor
open Go.RowKit Go.Shelf
theorem RowR.sym {w:World} {A:Option Addr} {l:List Sy} (h:RowR w A (syCells l)) {k:Nat} {s:Sy} (hk:l[k]? = some s) :
  ∃ b o,A = some ⟨b,o,none⟩∧w.cell? ⟨b,o + k * 2,none⟩ = some (.bool s.lab)∧w.cell? ⟨b,o + k * 2 + 1,none⟩ = some (.int .i64 s.at_):=by
 have hg:=fun j (hj:j < 2) => flat_get Sy.cells 2 (fun _ => rfl) l k j s hk hj
 obtain ⟨b,o,rfl,h0⟩:=h _ _ (hg 0 (by omega))
 obtain ⟨b1,o1,e1,h1⟩:=h _ _ (hg 1 (by omega))
 injection e1 with e1;injection e1 with e1 e1'
 subst e1;subst e1'
 exact ⟨_,_,rfl,h0,h1⟩
end Go.Proofs.YtddffnonlmfhdaaGreatDoor
namespace Go.Proofs.YtddffnonlmfhdaaGreatDoor
open Go.RowKit Go.Shelf
def Born (p:Pr) (El:Int→Nat→Nat→Prop) (M:List (Nat × Nat × Nat)) (f:Nat × Nat × Nat):Prop:=
 p.head = (f.1:Int)∧((p.body = []∧f.2.1 = f.2.2) ∨ (∃ s,p.body = [s]∧El s.at_ f.2.1 f.2.2) ∨
  ∃ s t,p.body = [s,t]∧∃ a ∈ M,∃ b ∈ M,(a.1:Int) = s.at_∧a.2.1 = f.2.1∧(b.1:Int) = t.at_∧b.2.2 = f.2.2∧b.2.1 = a.2.2)
def BornQ (w:World) (p:Pr) (El:Int→Nat→Nat→Prop) (M:List (Nat × Nat × Nat)) (f:Nat × Nat × Nat) (e:Ending) (w':World):Prop:=
 ∃ r:Bool,e = .returned (.bool r)∧(r = true ↔ Born p El M f)∧Below w.heap.size w w'
theorem shape_cases {p:Pr} {nts labels:Int} (h:shapeOf p nts labels = true):p.body = [] ∨ (∃ s,p.body = [s]∧0 ≤ s.at_∧s.at_ < labels) ∨ ∃ s t,p.body = [s,t]:=by
 obtain ⟨hd,b⟩:=p
 unfold shapeOf at h
 rw [Bool.and_eq_true] at h
 match b with
 | [] => exact .inl rfl
 | [s] =>
  have h2:okSym s true labels = true:=h.2
  unfold okSym at h2
  simp only [Bool.and_eq_true,decide_eq_true_eq] at h2
  exact .inr (.inl ⟨s,rfl,h2.2.1,h2.2.2⟩)
 | [s,t] => exact .inr (.inr ⟨s,t,rfl⟩)
 | s :: t :: u :: b => exact absurd h.2 (by simp)
structure BoU (V:World) (z:Nat) (hd:Int) (A:Option Addr) (n c:Nat) (body:List Sy) (f:Nat × Nat × Nat) (LA:Option Addr) (labels:List Txt) (F:Nat→Prop) (pg:Nat) (G:Gr) (NA:Option Addr) (MA:Option Addr) (M:List (Nat × Nat × Nat)):Prop where
 k0:Blk V z 71 #[.int .i64 hd,.slice A n c]
 k1:Blk V (z + 1) 52 #[.int .i64 (f.1:Int),.int .i64 (f.2.1:Int),.int .i64 (f.2.2:Int)]
 bo:RowR V A (syCells body)
 lab:RowR V LA (txtCells labels)
 gr:GrS V F pg G
 na:RowR V NA (txtCells G.N)
 me:RowR V MA (faCells M)
theorem BoU.below {V W:World} {z:Nat} {hd:Int} {A:Option Addr} {n c:Nat} {body:List Sy} {f:Nat × Nat × Nat} {LA:Option Addr} {labels:List Txt} {F:Nat→Prop} {pg:Nat} {G:Gr} {NA:Option Addr} {MA:Option Addr} {M:List (Nat × Nat × Nat)}
  (h:BoU V z hd A n c body f LA labels F pg G NA MA M) (hb:Below V.heap.size V W):BoU W z hd A n c body f LA labels F pg G NA MA M:=by
 have hu:=Upd.of_below hb (fun _ => False)
 exact ⟨h.k0.upd hu id,h.k1.upd hu id,h.bo.below3 hb,h.lab.below hb,h.gr.below hb,h.na.below hb,h.me.below hb⟩
theorem born_any (w:World) (hd:Int) (body:List Sy) (A:Option Addr) (c:Nat) (hb:RowR w A (syCells body)) (LA:Option Addr) (cl:Nat) (labels:List Txt) (hlab:RowR w LA (txtCells labels)) (F:Nat→Prop) (pg:Nat) (G:Gr) (hG:GrS w F pg G) (ok:GOk G)
  (NA:Option Addr) (nc:Nat) (hN:RowR w NA (txtCells G.N)) (htx:∀ s ∈ G.N,TxtOk s) (MA:Option Addr) (mc:Nat) (M:List (Nat × Nat × Nat)) (hM:RowR w MA (faCells M)) (hml:M.length ≤ 2097152) (f:Nat × Nat × Nat) (hf1:f.2.1 < G.N.length) (hf2:f.2.2 < G.N.length) (nts:Int) (hsh:shapeOf ⟨hd,body⟩ nts labels.length = true) :
  Calls Tryz.prog 38 #[.agg #[.int .i64 hd,.slice A body.length c],.slice LA labels.length cl,.pointer (some ⟨pg,0,none⟩),.slice NA G.N.length nc,.slice MA M.length mc,.agg #[.int .i64 (f.1:Int),.int .i64 (f.2.1:Int),.int .i64 (f.2.2:Int)]] w (BornQ w ⟨hd,body⟩ (ElG G labels) M f):=by
 have hfew:=ok.few.1
 obtain ⟨f0,f1,f2⟩:=f
 dsimp only at hf1 hf2 ⊢
 obtain ⟨n,hn⟩:∃ n,body.length = n:=⟨_,rfl⟩
 obtain ⟨m,hm⟩:∃ m,M.length = m:=⟨_,rfl⟩
 obtain ⟨gn,hgn⟩:∃ gn,G.N.length = gn:=⟨_,rfl⟩
 obtain ⟨ln,hln⟩:∃ ln,labels.length = ln:=⟨_,rfl⟩
 have b0:Below w.heap.size w ((w.alloc (.cells #[.int .i64 hd,.slice A n c] 71)).alloc (.cells #[.int .i64 (f0:Int),.int .i64 (f1:Int),.int .i64 (f2:Int)] 52)):=by (repeat (first | exact Below.refl _ _ | apply Below.drew | refine Below.alloc ?_ (by first | exact Nat.le_refl _ | (simp;done) | (simp;omega)) _ | refine Below.setCell ?_ (by first | exact Nat.le_refl _ | (simp;done) | (simp;omega)) _))
 have k0:=(Blk.new w 71 #[.int .i64 hd,.slice A n c]).alloc (.cells #[.int .i64 (f0:Int),.int .i64 (f1:Int),.int .i64 (f2:Int)] 52)
 have k1:=Blk.new (w.alloc (.cells #[.int .i64 hd,.slice A n c] 71)) 52 #[.int .i64 (f0:Int),.int .i64 (f1:Int),.int .i64 (f2:Int)]
 simp only [World.size_alloc] at k1
 have HU:=Lib.hid (show BoU _ w.heap.size hd A n c body (f0,f1,f2) LA labels F pg G NA MA M from ⟨k0,k1,hb.below3 b0,hlab.below b0,hG.below b0,hN.below b0,hM.below b0⟩)
 have HB0:=Lib.hid b0
 have HX:=Lib.hid (And.intro hn (And.intro hm (And.intro hgn (And.intro hln (And.intro ok (And.intro htx (shape_cases hsh)))))))
 rw [hn,hm,hgn,hln]
 rw [hgn] at hf1 hf2 hfew
 rw [hm] at hml
 clear b0 k0 k1 hb hlab hG hN hM hn hm hgn hln ok htx hsh
 go_enter Tryz.func38,Tryz.ntmps38
 go_upto_region 1 with (fail)
 generalize (w.alloc (.cells #[.int .i64 hd,.slice A n c] 71)).alloc (.cells #[.int .i64 (f0:Int),.int .i64 (f1:Int),.int .i64 (f2:Int)] 52) = W0 at HU HB0 ⊢
 have q0:W0.cell? ⟨w.heap.size,0,none⟩ = some (.int .i64 hd):=HU.out.k0.cell 0
 have q1:W0.cell? ⟨w.heap.size,1,none⟩ = some (.slice A n c):=HU.out.k0.cell 1
 have p0:W0.cell? ⟨w.heap.size + 1,0,none⟩ = some (.int .i64 (f0:Int)):=HU.out.k1.cell 0
 have p1:W0.cell? ⟨w.heap.size + 1,1,none⟩ = some (.int .i64 (f1:Int)):=HU.out.k1.cell 1
 have p2:W0.cell? ⟨w.heap.size + 1,2,none⟩ = some (.int .i64 (f2:Int)):=HU.out.k1.cell 2
 by_cases hh:hd = (f0:Int)
 ·have hhB:(hd == (f0:Int)) = true:=by simpa using hh
  have HH:=Lib.hid hh
  clear hh
  have hcs:body = [] ∨ (∃ s,body = [s]∧0 ≤ s.at_∧s.at_ < (labels.length:Int)) ∨ ∃ s t,body = [s,t]:=HX.out.2.2.2.2.2.2
  rcases hcs with hb | ⟨s,hb,hs0,hs1⟩ | ⟨s,t,hb⟩
  ·have h0:n = 0:=by rw [← HX.out.1,hb];rfl
   have HY:=Lib.hid hb
   clear hb
   subst h0
   by_cases h12:f1 = f2
   ·have hB:((f1:Int) == (f2:Int)) = true:=by rw [beq_iff_eq];omega
    have H12:=Lib.hid h12
    clear h12
    go_wp2
    go_ret
    exact ⟨true,rfl,⟨fun _ => ⟨HH.out,.inl ⟨HY.out,H12.out⟩⟩,fun _ => rfl⟩,HB0.out⟩
   ·have hB:((f1:Int) == (f2:Int)) = false:=by rw [beq_eq_false_iff_ne];omega
    go_wp2
    go_ret
    refine ⟨false,rfl,⟨fun h => (by cases h),?_⟩,HB0.out⟩
    rintro ⟨-,(⟨-,h⟩ | ⟨s,h,-⟩ | ⟨s,t,h,-⟩)⟩
    ·exact absurd h h12
    ·have h:body = [s]:=h
     rw [HY.out] at h;cases h
    ·have h:body = [s,t]:=h
     rw [HY.out] at h;cases h
  ·have h0:n = 1:=by rw [← HX.out.1,hb];rfl
   obtain ⟨l,hl⟩:∃ l:Nat,s.at_ = (l:Int):=⟨s.at_.toNat,by omega⟩
   have hll:l < ln:=by have:=HX.out.2.2.2.1;omega
   obtain ⟨lb,hlb⟩:∃ x,labels[l]? = some x:=⟨labels[l]'(by have:=HX.out.2.2.2.1;omega),List.getElem?_eq_getElem _⟩
   obtain ⟨fr,hfr⟩:∃ x,G.N[f1]? = some x:=⟨G.N[f1]'(by rw [HX.out.2.2.1];exact hf1),List.getElem?_eq_getElem _⟩
   obtain ⟨tt,hto⟩:∃ x,G.N[f2]? = some x:=⟨G.N[f2]'(by rw [HX.out.2.2.1];exact hf2),List.getElem?_eq_getElem _⟩
   have hsy:body[0]? = some s:=by rw [hb];rfl
   obtain ⟨sb,so,rfl,-,-⟩:=HU.out.bo.sym hsy
   obtain ⟨lbb,lo,rfl,-⟩:=HU.out.lab.txt hlb
   obtain ⟨nb,no,rfl,-⟩:=HU.out.na.txt hfr
   have SR:=Lib.hid (show ∀ V,Below W0.heap.size W0 V→(fun V => V.cell? ⟨w.heap.size + 1,1,none⟩ = some (.int .i64 (f1:Int))∧V.cell? ⟨w.heap.size + 1,2,none⟩ = some (.int .i64 (f2:Int))∧V.cell? ⟨w.heap.size,1,none⟩ = some (.slice (some ⟨sb,so,none⟩) 1 c)∧V.cell? ⟨sb,so + 1,none⟩ = some (.int .i64 (l:Int))∧V.cell? ⟨lbb,lo + l,none⟩ = some (.string lb)∧V.cell? ⟨nb,no + f1,none⟩ = some (.string fr)∧V.cell? ⟨nb,no + f2,none⟩ = some (.string tt)) V from fun V hbw => by
    have hU:=HU.out.below hbw
    obtain ⟨b1,o1,e,-,c1⟩:=hU.bo.sym hsy
    injection e with e;injection e with e1 e2
    subst e1;subst e2
    obtain ⟨b2,o2,e,d1⟩:=hU.lab.txt hlb
    injection e with e;injection e with e1 e2
    subst e1;subst e2
    obtain ⟨b3,o3,e,d2⟩:=hU.na.txt hfr
    injection e with e;injection e with e1 e2
    subst e1;subst e2
    obtain ⟨b3,o3,e,d3⟩:=hU.na.txt hto
    injection e with e;injection e with e1 e2
    subst e1;subst e2
    rw [hl] at c1
    have k:=hU.k0.cell 1
    rw [h0] at k
    exact ⟨hU.k1.cell 1,hU.k1.cell 2,k,by simpa using c1,d1,d2,d3⟩)
   have HY:=Lib.hid (And.intro hb (And.intro hl (And.intro hlb (And.intro hfr hto))))
   have hlI:(l:Int) < (ln:Int):=by omega
   have hf1I:(f1:Int) < (gn:Int):=by omega
   have hf2I:(f2:Int) < (gn:Int):=by omega
   have hB0:=Lib.hid (show Below W0.heap.size W0 W0.drew from (Below.refl _ _).drew)
   have hS:=SR.out _ hB0.out
   have hcon:=has_gr W0.drew F pg G (HU.out.gr.below hB0.out) HX.out.2.2.2.2.1 ⟨fr,lb,tt⟩ (HX.out.2.2.2.2.2.1 fr (List.mem_of_getElem? hfr)) (HX.out.2.2.2.2.2.1 tt (List.mem_of_getElem? hto))
   clear hb hl hlb hfr hto hsy hs0 hs1 hll
   subst h0
   go_upto_region 6 with (fail)
   refine wp_region_ord (fun V => V.cell? ⟨w.heap.size + 1,1,none⟩ = some (.int .i64 (f1:Int))∧V.cell? ⟨w.heap.size + 1,2,none⟩ = some (.int .i64 (f2:Int))∧V.cell? ⟨w.heap.size,1,none⟩ = some (.slice (some ⟨sb,so,none⟩) 1 c)∧V.cell? ⟨sb,so + 1,none⟩ = some (.int .i64 (l:Int))∧V.cell? ⟨lbb,lo + l,none⟩ = some (.string lb)∧V.cell? ⟨nb,no + f1,none⟩ = some (.string fr)∧V.cell? ⟨nb,no + f2,none⟩ = some (.string tt)) 21 [(0,true),(1,true),(2,true),(3,true),(4,true),(5,true),(6,true),(7,true),(8,true),(9,true),(10,true),(11,true),(12,true),(13,true),(14,true),(15,true),(16,true),(17,true),(18,true),(19,false),(20,true)] (by kernel_rfl) (by kernel_rfl) (fun _ _ d _ _ h => by cases d <;> exact h) hS ?_
   clear hS
   iterate 19 (refine ord_takeA rfl ?_;(try simp only [Act.put,gA,gS,gZ,sA,sZ,sS]))
   refine ord_do rfl rfl (fun K hK => ?_)
   go_simp
   refine hcon.mono ?_
   clear hcon q0 q1 p0 p1 p2
   rintro e V ⟨rfl,b1⟩
   have hS:=SR.out V (hB0.out.trans (b1.mono hB0.out.size))
   refine hK _ _ (fun _ => hS) ?_
   clear hK K hS SR
   (try simp only [Act.put,gA,gS,gZ,sA,sZ,sS])
   (refine ord_takeA rfl ?_;(try simp only [Act.put,gA,gS,gZ,sA,sZ,sS]))
   refine ord_done ?_
   go_wp2
   go_ret
   refine ⟨_,rfl,?_,HB0.out.trans ((hB0.out.trans (b1.mono hB0.out.size)).mono HB0.out.size)⟩
   rw [decide_eq_true_iff]
   constructor
   ·intro hm
    exact ⟨HH.out,.inr (.inl ⟨s,HY.out.1,lb,by rw [HY.out.2.1];exact HY.out.2.2.1,_,hm,rfl,HY.out.2.2.2.1,HY.out.2.2.2.2⟩)⟩
   ·rintro ⟨-,(⟨h,-⟩ | ⟨s',h,lb',e1,y,hy,e2,e3,e4⟩ | ⟨s',t',h,-⟩)⟩
    ·have h:body = []:=h
     rw [HY.out.1] at h;cases h
    ·have h:body = [s']:=h
     rw [HY.out.1] at h
     injection h with h
     subst h
     rw [HY.out.2.1] at e1
     have e1:labels[l]? = some lb':=e1
     have e3:G.N[f1]? = some y.fr:=e3
     have e4:G.N[f2]? = some y.to:=e4
     rw [HY.out.2.2.1] at e1
     rw [HY.out.2.2.2.1] at e3
     rw [HY.out.2.2.2.2] at e4
     injection e1 with e1
     injection e3 with e3
     injection e4 with e4
     obtain ⟨y1,y2,y3⟩:=y
     dsimp only at e2 e3 e4
     rw [e3,e4,e1,← e2]
     exact hy
    ·have h:body = [s',t']:=h
     rw [HY.out.1] at h;cases h
  ·have h0:n = 2:=by rw [← HX.out.1,hb];rfl
   have hs0:body[0]? = some s:=by rw [hb];rfl
   have hs1:body[1]? = some t:=by rw [hb];rfl
   obtain ⟨sa,hsa⟩:∃ x,s.at_ = x:=⟨_,rfl⟩
   obtain ⟨ta,hta⟩:∃ x,t.at_ = x:=⟨_,rfl⟩
   obtain ⟨sb,so,rfl,-,-⟩:=HU.out.bo.sym hs0
   have SR:=Lib.hid (show ∀ V,Below W0.heap.size W0 V→V.cell? ⟨w.heap.size,1,none⟩ = some (.slice (some ⟨sb,so,none⟩) 2 c)∧V.cell? ⟨sb,so + 1,none⟩ = some (.int .i64 sa)∧V.cell? ⟨sb,so + 3,none⟩ = some (.int .i64 ta)∧V.cell? ⟨w.heap.size + 1,1,none⟩ = some (.int .i64 (f1:Int))∧V.cell? ⟨w.heap.size + 1,2,none⟩ = some (.int .i64 (f2:Int)) from fun V hbw => by
    have hU:=HU.out.below hbw
    obtain ⟨b1,o1,e,-,c1⟩:=hU.bo.sym hs0
    injection e with e;injection e with e1 e2
    subst e1;subst e2
    obtain ⟨b1,o1,e,-,c2⟩:=hU.bo.sym hs1
    injection e with e;injection e with e1 e2
    subst e1;subst e2
    rw [hsa] at c1
    rw [hta] at c2
    have k:=hU.k0.cell 1
    rw [h0] at k
    exact ⟨k,by simpa using c1,by simpa [Nat.add_assoc] using c2,hU.k1.cell 1,hU.k1.cell 2⟩)
   have HY:=Lib.hid (And.intro hb (And.intro hsa hta))
   clear hb hsa hta hs0 hs1
   subst h0
   have HNB:=Lib.hid (show (∃ a ∈ M,∃ b ∈ M,(a.1:Int) = sa∧a.2.1 = f1∧(b.1:Int) = ta∧b.2.2 = f2∧b.2.1 = a.2.2) ↔ Born ⟨hd,body⟩ (ElG G labels) M (f0,f1,f2) from ⟨fun h => ⟨HH.out,.inr (.inr ⟨s,t,HY.out.1,by rw [HY.out.2.1,HY.out.2.2];exact h⟩)⟩,by
    rintro ⟨-,(⟨h,-⟩ | ⟨s',h,-⟩ | ⟨s',t',h,h2⟩)⟩
    ·have h:body = []:=h
     rw [HY.out.1] at h;cases h
    ·have h:body = [s']:=h
     rw [HY.out.1] at h;cases h
    ·have h:body = [s',t']:=h
     rw [HY.out.1] at h
     injection h with h h3
     injection h3 with h3 _
     subst h
     subst h3
     rw [HY.out.2.1,HY.out.2.2] at h2
     exact h2⟩)
   go_wp2
   clear q0 q1 p0 p1 p2
   go_loopw [13] (fun iv wr => ∃ i:Nat,i ≤ m∧iv = .int .i64 (i:Int)∧Hid (Below W0.heap.size W0 wr)∧Hid (∀ i',i' < i→∀ a,M[i']? = some a→∀ b ∈ M,¬ ((a.1:Int) = sa∧a.2.1 = f1∧(b.1:Int) = ta∧b.2.2 = f2∧b.2.1 = a.2.2))) (fun iv _ => m - (intOf iv).toNat)
   case atStart => exact ⟨0,Nat.zero_le _,rfl,Lib.hid (by first | exact Below.refl _ _ | exact (Below.refl _ _).drew),Lib.hid (fun i' h => by omega)⟩
   case round =>
    obtain ⟨i,hi,rfl,hB1,hno⟩:=hrel
    by_cases him:i < m
    ·have hiI:(i:Int) < (m:Int):=by omega
     have hkw:IntKind.i64.wrap ((i:Int) + 1) = (i:Int) + 1:=IntWalk.i64_in _ (by omega)
     obtain ⟨⟨a0,a1,a2⟩,ha⟩:∃ a,M[i]? = some a:=⟨M[i]'(by rw [HX.out.2.1];exact him),List.getElem?_eq_getElem _⟩
     obtain ⟨mb,mo,rfl,-,-,-⟩:=HU.out.me.fact ha
     have SA:=Lib.hid (show ∀ V,Below W0.heap.size W0 V→(fun V => V.cell? ⟨w.heap.size,1,none⟩ = some (.slice (some ⟨sb,so,none⟩) 2 c)∧V.cell? ⟨sb,so + 1,none⟩ = some (.int .i64 sa)∧V.cell? ⟨sb,so + 3,none⟩ = some (.int .i64 ta)∧V.cell? ⟨w.heap.size + 1,1,none⟩ = some (.int .i64 (f1:Int))∧V.cell? ⟨w.heap.size + 1,2,none⟩ = some (.int .i64 (f2:Int))∧V.cell? ⟨mb,mo + i * 3,none⟩ = some (.int .i64 (a0:Int))∧V.cell? ⟨mb,mo + i * 3 + 1,none⟩ = some (.int .i64 (a1:Int))∧V.cell? ⟨mb,mo + i * 3 + 2,none⟩ = some (.int .i64 (a2:Int))) V from fun V hbw => by
      obtain ⟨c1,c2,c3,c4,c5⟩:=SR.out V hbw
      obtain ⟨b1,o1,e,d1,d2,d3⟩:=(HU.out.below hbw).me.fact ha
      injection e with e;injection e with e1 e2
      subst e1;subst e2
      exact ⟨c1,c2,c3,c4,c5,d1,d2,d3⟩)
     have HA:=Lib.hid ha
     clear ha
     go_wp2
     go_loopw [14] (fun iv wr => ∃ k:Nat,k ≤ m∧iv = .int .i64 (k:Int)∧Hid (Below W0.heap.size W0 wr)∧Hid (∀ k',k' < k→∀ b,M[k']? = some b→¬ ((a0:Int) = sa∧a1 = f1∧(b.1:Int) = ta∧b.2.2 = f2∧b.2.1 = a2))) (fun iv _ => m - (intOf iv).toNat)
     case atStart => exact ⟨0,Nat.zero_le _,rfl,hB1,Lib.hid (fun i' h => by omega)⟩
     case round =>
      clear hB1
      obtain ⟨k,hk,rfl,hB,hnk⟩:=hrel
      have hS:=SA.out wr.drew hB.out.drew
      by_cases hkm:k < m
      ·have hkI:(k:Int) < (m:Int):=by omega
       by_cases e1:(a0:Int) = sa
       ·by_cases e2:a1 = f1
        ·have e1B:((a0:Int) == sa) = true:=by rw [beq_iff_eq];exact e1
         have e2B:((a1:Int) == (f1:Int)) = true:=by rw [beq_iff_eq];omega
         have hkw2:IntKind.i64.wrap ((k:Int) + 1) = (k:Int) + 1:=IntWalk.i64_in _ (by omega)
         have HE:=Lib.hid (And.intro e1 e2)
         clear e1 e2
         go_upto_region 11 with (fail)
         refine wp_region_ord (fun V => V.cell? ⟨w.heap.size,1,none⟩ = some (.slice (some ⟨sb,so,none⟩) 2 c)∧V.cell? ⟨sb,so + 1,none⟩ = some (.int .i64 sa)∧V.cell? ⟨sb,so + 3,none⟩ = some (.int .i64 ta)∧V.cell? ⟨w.heap.size + 1,1,none⟩ = some (.int .i64 (f1:Int))∧V.cell? ⟨w.heap.size + 1,2,none⟩ = some (.int .i64 (f2:Int))∧V.cell? ⟨mb,mo + i * 3,none⟩ = some (.int .i64 (a0:Int))∧V.cell? ⟨mb,mo + i * 3 + 1,none⟩ = some (.int .i64 (a1:Int))∧V.cell? ⟨mb,mo + i * 3 + 2,none⟩ = some (.int .i64 (a2:Int))) 27 [(0,true),(1,true),(2,true),(3,true),(4,true),(5,true),(6,true),(7,true),(8,true),(9,true),(10,true),(11,true),(12,true),(13,true),(14,true),(15,true),(16,true),(17,true),(18,true),(19,true),(20,true),(21,true),(22,true),(23,true),(24,true),(25,true),(26,true)] (by kernel_rfl) (by kernel_rfl) (fun _ _ d _ _ h => by cases d <;> exact h) hS ?_
         clear hS
         iterate 27 (refine ord_takeA rfl ?_;(try simp only [Act.put,gA,gS,gZ,sA,sZ,sS]))
         refine ord_done ?_
         have hB:=Lib.hid hB.out.drew
         obtain ⟨⟨b0,b1,b2⟩,hbk⟩:∃ b,M[k]? = some b:=⟨M[k]'(by rw [HX.out.2.1];exact hkm),List.getElem?_eq_getElem _⟩
         have SB:=Lib.hid (show ∀ V,Below W0.heap.size W0 V→(fun V => V.cell? ⟨w.heap.size,1,none⟩ = some (.slice (some ⟨sb,so,none⟩) 2 c)∧V.cell? ⟨sb,so + 1,none⟩ = some (.int .i64 sa)∧V.cell? ⟨sb,so + 3,none⟩ = some (.int .i64 ta)∧V.cell? ⟨w.heap.size + 1,1,none⟩ = some (.int .i64 (f1:Int))∧V.cell? ⟨w.heap.size + 1,2,none⟩ = some (.int .i64 (f2:Int))∧V.cell? ⟨mb,mo + i * 3,none⟩ = some (.int .i64 (a0:Int))∧V.cell? ⟨mb,mo + i * 3 + 1,none⟩ = some (.int .i64 (a1:Int))∧V.cell? ⟨mb,mo + i * 3 + 2,none⟩ = some (.int .i64 (a2:Int))∧V.cell? ⟨mb,mo + k * 3,none⟩ = some (.int .i64 (b0:Int))∧V.cell? ⟨mb,mo + k * 3 + 1,none⟩ = some (.int .i64 (b1:Int))∧V.cell? ⟨mb,mo + k * 3 + 2,none⟩ = some (.int .i64 (b2:Int))) V from fun V hbw => by
          obtain ⟨c1,c2,c3,c4,c5,c6,c7,c8⟩:=SA.out V hbw
          obtain ⟨b1,o1,e,d1,d2,d3⟩:=(HU.out.below hbw).me.fact hbk
          injection e with e;injection e with e1 e2
          subst e1;subst e2
          exact ⟨c1,c2,c3,c4,c5,c6,c7,c8,d1,d2,d3⟩)
         have HBk:=Lib.hid hbk
         have hS:=SB.out _ hB.out.drew
         clear hbk e1B e2B
         by_cases g1:(b0:Int) = ta
         ·have g1B:((b0:Int) == ta) = true:=by rw [beq_iff_eq];exact g1
          by_cases g2:b2 = f2
          ·have g2B:((b2:Int) == (f2:Int)) = true:=by rw [beq_iff_eq];omega
           by_cases g3:b1 = a2
           ·have g3B:((b1:Int) == (a2:Int)) = true:=by rw [beq_iff_eq];omega
            have HG:=Lib.hid (And.intro g1 (And.intro g2 g3))
            clear g1 g2 g3
            go_upto_region 13 with (fail)
            refine wp_region_ord (fun V => V.cell? ⟨w.heap.size,1,none⟩ = some (.slice (some ⟨sb,so,none⟩) 2 c)∧V.cell? ⟨sb,so + 1,none⟩ = some (.int .i64 sa)∧V.cell? ⟨sb,so + 3,none⟩ = some (.int .i64 ta)∧V.cell? ⟨w.heap.size + 1,1,none⟩ = some (.int .i64 (f1:Int))∧V.cell? ⟨w.heap.size + 1,2,none⟩ = some (.int .i64 (f2:Int))∧V.cell? ⟨mb,mo + i * 3,none⟩ = some (.int .i64 (a0:Int))∧V.cell? ⟨mb,mo + i * 3 + 1,none⟩ = some (.int .i64 (a1:Int))∧V.cell? ⟨mb,mo + i * 3 + 2,none⟩ = some (.int .i64 (a2:Int))∧V.cell? ⟨mb,mo + k * 3,none⟩ = some (.int .i64 (b0:Int))∧V.cell? ⟨mb,mo + k * 3 + 1,none⟩ = some (.int .i64 (b1:Int))∧V.cell? ⟨mb,mo + k * 3 + 2,none⟩ = some (.int .i64 (b2:Int))) 34 [(0,true),(1,true),(2,true),(3,true),(4,true),(5,true),(6,true),(7,true),(8,true),(9,true),(10,true),(11,true),(12,true),(13,true),(14,true),(15,true),(16,true),(17,true),(18,true),(19,true),(20,true),(21,true),(22,true),(23,true),(24,true),(25,true),(26,true),(27,true),(28,true),(29,true),(30,true),(31,true),(32,true),(33,true)] (by kernel_rfl) (by kernel_rfl) (fun _ _ d _ _ h => by cases d <;> exact h) hS ?_
            clear hS
            iterate 34 (refine ord_takeA rfl ?_;(try simp only [Act.put,gA,gS,gZ,sA,sZ,sS]))
            refine ord_done ?_
            go_wp2
            go_ret
            exact ⟨true,rfl,⟨fun _ => HNB.out.1 ⟨_,List.mem_of_getElem? HA.out,_,List.mem_of_getElem? HBk.out,HE.out.1,HE.out.2,HG.out.1,HG.out.2.1,HG.out.2.2⟩,fun _ => rfl⟩,HB0.out.trans (hB.out.drew.mono HB0.out.size)⟩
           ·have g3B:((b1:Int) == (a2:Int)) = false:=by rw [beq_eq_false_iff_ne];omega
            have HG:=Lib.hid g3
            clear g1 g2 g3
            go_upto_region 13 with (fail)
            refine wp_region_ord (fun V => V.cell? ⟨w.heap.size,1,none⟩ = some (.slice (some ⟨sb,so,none⟩) 2 c)∧V.cell? ⟨sb,so + 1,none⟩ = some (.int .i64 sa)∧V.cell? ⟨sb,so + 3,none⟩ = some (.int .i64 ta)∧V.cell? ⟨w.heap.size + 1,1,none⟩ = some (.int .i64 (f1:Int))∧V.cell? ⟨w.heap.size + 1,2,none⟩ = some (.int .i64 (f2:Int))∧V.cell? ⟨mb,mo + i * 3,none⟩ = some (.int .i64 (a0:Int))∧V.cell? ⟨mb,mo + i * 3 + 1,none⟩ = some (.int .i64 (a1:Int))∧V.cell? ⟨mb,mo + i * 3 + 2,none⟩ = some (.int .i64 (a2:Int))∧V.cell? ⟨mb,mo + k * 3,none⟩ = some (.int .i64 (b0:Int))∧V.cell? ⟨mb,mo + k * 3 + 1,none⟩ = some (.int .i64 (b1:Int))∧V.cell? ⟨mb,mo + k * 3 + 2,none⟩ = some (.int .i64 (b2:Int))) 34 [(0,true),(1,true),(2,true),(3,true),(4,true),(5,true),(6,true),(7,true),(8,true),(9,true),(10,true),(11,true),(12,true),(13,true),(14,true),(15,true),(16,true),(17,true),(18,true),(19,true),(20,true),(21,true),(22,true),(23,true),(24,true),(25,true),(26,true),(27,true),(28,true),(29,true),(30,true),(31,true),(32,true),(33,true)] (by kernel_rfl) (by kernel_rfl) (fun _ _ d _ _ h => by cases d <;> exact h) hS ?_
            clear hS
            iterate 34 (refine ord_takeA rfl ?_;(try simp only [Act.put,gA,gS,gZ,sA,sZ,sS]))
            refine ord_done ?_
            go_wp2
            go_roundw
            case rel => exact ⟨k + 1,by omega,by go_num,Lib.hid hB.out.drew,Lib.hid (fun k' hk' b' hb' => by
             rcases Nat.lt_succ_iff_lt_or_eq.1 hk' with h | rfl
             ·exact hnk.out k' h b' hb'
             ·rw [HBk.out] at hb'
              injection hb' with hb'
              subst hb'
              exact fun h => HG.out h.2.2.2.2)⟩
            case measure => simp [intOf];omega
          ·have g2B:((b2:Int) == (f2:Int)) = false:=by rw [beq_eq_false_iff_ne];omega
           have HG:=Lib.hid g2
           clear g1 g2
           go_upto_region 13 with (fail)
           refine wp_region_ord (fun V => V.cell? ⟨w.heap.size,1,none⟩ = some (.slice (some ⟨sb,so,none⟩) 2 c)∧V.cell? ⟨sb,so + 1,none⟩ = some (.int .i64 sa)∧V.cell? ⟨sb,so + 3,none⟩ = some (.int .i64 ta)∧V.cell? ⟨w.heap.size + 1,1,none⟩ = some (.int .i64 (f1:Int))∧V.cell? ⟨w.heap.size + 1,2,none⟩ = some (.int .i64 (f2:Int))∧V.cell? ⟨mb,mo + i * 3,none⟩ = some (.int .i64 (a0:Int))∧V.cell? ⟨mb,mo + i * 3 + 1,none⟩ = some (.int .i64 (a1:Int))∧V.cell? ⟨mb,mo + i * 3 + 2,none⟩ = some (.int .i64 (a2:Int))∧V.cell? ⟨mb,mo + k * 3,none⟩ = some (.int .i64 (b0:Int))∧V.cell? ⟨mb,mo + k * 3 + 1,none⟩ = some (.int .i64 (b1:Int))∧V.cell? ⟨mb,mo + k * 3 + 2,none⟩ = some (.int .i64 (b2:Int))) 34 [(0,true),(1,true),(2,true),(3,true),(4,true),(5,true),(6,true),(7,true),(8,true),(9,true),(10,true),(11,true),(12,true),(13,true),(14,true),(15,true),(16,true),(17,true),(18,true),(19,true),(20,true),(21,true),(22,true),(23,true),(24,true),(25,true),(26,true),(27,true),(28,true),(29,true),(30,true),(31,true),(32,true),(33,true)] (by kernel_rfl) (by kernel_rfl) (fun _ _ d _ _ h => by cases d <;> exact h) hS ?_
           clear hS
           iterate 22 (refine ord_takeA rfl ?_;(try simp only [Act.put,gA,gS,gZ,sA,sZ,sS]))
           iterate 11 (refine ord_skip rfl (by kernel_rfl) ?_;(try simp only [Act.put,gA,gS,gZ,sA,sZ,sS]))
           (refine ord_takeA rfl ?_;(try simp only [Act.put,gA,gS,gZ,sA,sZ,sS]))
           refine ord_done ?_
           go_wp2
           go_roundw
           case rel => exact ⟨k + 1,by omega,by go_num,Lib.hid hB.out.drew,Lib.hid (fun k' hk' b' hb' => by
            rcases Nat.lt_succ_iff_lt_or_eq.1 hk' with h | rfl
            ·exact hnk.out k' h b' hb'
            ·rw [HBk.out] at hb'
             injection hb' with hb'
             subst hb'
             exact fun h => HG.out h.2.2.2.1)⟩
           case measure => simp [intOf];omega
         ·have g1B:((b0:Int) == ta) = false:=by rw [beq_eq_false_iff_ne];exact g1
          have HG:=Lib.hid g1
          clear g1
          go_upto_region 13 with (fail)
          refine wp_region_ord (fun V => V.cell? ⟨w.heap.size,1,none⟩ = some (.slice (some ⟨sb,so,none⟩) 2 c)∧V.cell? ⟨sb,so + 1,none⟩ = some (.int .i64 sa)∧V.cell? ⟨sb,so + 3,none⟩ = some (.int .i64 ta)∧V.cell? ⟨w.heap.size + 1,1,none⟩ = some (.int .i64 (f1:Int))∧V.cell? ⟨w.heap.size + 1,2,none⟩ = some (.int .i64 (f2:Int))∧V.cell? ⟨mb,mo + i * 3,none⟩ = some (.int .i64 (a0:Int))∧V.cell? ⟨mb,mo + i * 3 + 1,none⟩ = some (.int .i64 (a1:Int))∧V.cell? ⟨mb,mo + i * 3 + 2,none⟩ = some (.int .i64 (a2:Int))∧V.cell? ⟨mb,mo + k * 3,none⟩ = some (.int .i64 (b0:Int))∧V.cell? ⟨mb,mo + k * 3 + 1,none⟩ = some (.int .i64 (b1:Int))∧V.cell? ⟨mb,mo + k * 3 + 2,none⟩ = some (.int .i64 (b2:Int))) 34 [(0,true),(1,true),(2,true),(3,true),(4,true),(5,true),(6,true),(7,true),(8,true),(9,true),(10,true),(11,true),(12,true),(13,true),(14,true),(15,true),(16,true),(17,true),(18,true),(19,true),(20,true),(21,true),(22,true),(23,true),(24,true),(25,true),(26,true),(27,true),(28,true),(29,true),(30,true),(31,true),(32,true),(33,true)] (by kernel_rfl) (by kernel_rfl) (fun _ _ d _ _ h => by cases d <;> exact h) hS ?_
          clear hS
          iterate 12 (refine ord_takeA rfl ?_;(try simp only [Act.put,gA,gS,gZ,sA,sZ,sS]))
          iterate 8 (refine ord_skip rfl (by kernel_rfl) ?_;(try simp only [Act.put,gA,gS,gZ,sA,sZ,sS]))
          (refine ord_takeA rfl ?_;(try simp only [Act.put,gA,gS,gZ,sA,sZ,sS]))
          (refine ord_takeA rfl ?_;(try simp only [Act.put,gA,gS,gZ,sA,sZ,sS]))
          iterate 11 (refine ord_skip rfl (by kernel_rfl) ?_;(try simp only [Act.put,gA,gS,gZ,sA,sZ,sS]))
          (refine ord_takeA rfl ?_;(try simp only [Act.put,gA,gS,gZ,sA,sZ,sS]))
          refine ord_done ?_
          go_wp2
          go_roundw
          case rel => exact ⟨k + 1,by omega,by go_num,Lib.hid hB.out.drew,Lib.hid (fun k' hk' b' hb' => by
           rcases Nat.lt_succ_iff_lt_or_eq.1 hk' with h | rfl
           ·exact hnk.out k' h b' hb'
           ·rw [HBk.out] at hb'
            injection hb' with hb'
            subst hb'
            exact fun h => HG.out h.2.2.1)⟩
          case measure => simp [intOf];omega
        ·have e1B:((a0:Int) == sa) = true:=by rw [beq_iff_eq];exact e1
         have e2B:((a1:Int) == (f1:Int)) = false:=by rw [beq_eq_false_iff_ne];omega
         have HE:=Lib.hid e2
         clear e1 e2
         go_upto_region 11 with (fail)
         refine wp_region_ord (fun V => V.cell? ⟨w.heap.size,1,none⟩ = some (.slice (some ⟨sb,so,none⟩) 2 c)∧V.cell? ⟨sb,so + 1,none⟩ = some (.int .i64 sa)∧V.cell? ⟨sb,so + 3,none⟩ = some (.int .i64 ta)∧V.cell? ⟨w.heap.size + 1,1,none⟩ = some (.int .i64 (f1:Int))∧V.cell? ⟨w.heap.size + 1,2,none⟩ = some (.int .i64 (f2:Int))∧V.cell? ⟨mb,mo + i * 3,none⟩ = some (.int .i64 (a0:Int))∧V.cell? ⟨mb,mo + i * 3 + 1,none⟩ = some (.int .i64 (a1:Int))∧V.cell? ⟨mb,mo + i * 3 + 2,none⟩ = some (.int .i64 (a2:Int))) 27 [(0,true),(1,true),(2,true),(3,true),(4,true),(5,true),(6,true),(7,true),(8,true),(9,true),(10,true),(11,true),(12,true),(13,true),(14,true),(15,true),(16,true),(17,true),(18,true),(19,true),(20,true),(21,true),(22,true),(23,true),(24,true),(25,true),(26,true)] (by kernel_rfl) (by kernel_rfl) (fun _ _ d _ _ h => by cases d <;> exact h) hS ?_
         clear hS
         iterate 27 (refine ord_takeA rfl ?_;(try simp only [Act.put,gA,gS,gZ,sA,sZ,sS]))
         refine ord_done ?_
         go_wp2
         go_roundw
         case rel => exact ⟨i + 1,by omega,by go_num,Lib.hid hB.out.drew,Lib.hid (fun i' hi' a' ha' b' hb' => by
          rcases Nat.lt_succ_iff_lt_or_eq.1 hi' with h | rfl
          ·exact hno.out i' h a' ha' b' hb'
          ·rw [HA.out] at ha'
           injection ha' with ha'
           subst ha'
           exact fun h => HE.out h.2.1)⟩
         case measure => simp [intOf];omega
       ·have e1B:((a0:Int) == sa) = false:=by rw [beq_eq_false_iff_ne];exact e1
        have HE:=Lib.hid e1
        clear e1
        go_upto_region 11 with (fail)
        refine wp_region_ord (fun V => V.cell? ⟨w.heap.size,1,none⟩ = some (.slice (some ⟨sb,so,none⟩) 2 c)∧V.cell? ⟨sb,so + 1,none⟩ = some (.int .i64 sa)∧V.cell? ⟨sb,so + 3,none⟩ = some (.int .i64 ta)∧V.cell? ⟨w.heap.size + 1,1,none⟩ = some (.int .i64 (f1:Int))∧V.cell? ⟨w.heap.size + 1,2,none⟩ = some (.int .i64 (f2:Int))∧V.cell? ⟨mb,mo + i * 3,none⟩ = some (.int .i64 (a0:Int))∧V.cell? ⟨mb,mo + i * 3 + 1,none⟩ = some (.int .i64 (a1:Int))∧V.cell? ⟨mb,mo + i * 3 + 2,none⟩ = some (.int .i64 (a2:Int))) 27 [(0,true),(1,true),(2,true),(3,true),(4,true),(5,true),(6,true),(7,true),(8,true),(9,true),(10,true),(11,true),(12,true),(13,true),(14,true),(15,true),(16,true),(17,true),(18,true),(19,true),(20,true),(21,true),(22,true),(23,true),(24,true),(25,true),(26,true)] (by kernel_rfl) (by kernel_rfl) (fun _ _ d _ _ h => by cases d <;> exact h) hS ?_
        clear hS
        iterate 18 (refine ord_takeA rfl ?_;(try simp only [Act.put,gA,gS,gZ,sA,sZ,sS]))
        iterate 8 (refine ord_skip rfl (by kernel_rfl) ?_;(try simp only [Act.put,gA,gS,gZ,sA,sZ,sS]))
        (refine ord_takeA rfl ?_;(try simp only [Act.put,gA,gS,gZ,sA,sZ,sS]))
        refine ord_done ?_
        go_wp2
        go_roundw
        case rel => exact ⟨i + 1,by omega,by go_num,Lib.hid hB.out.drew,Lib.hid (fun i' hi' a' ha' b' hb' => by
         rcases Nat.lt_succ_iff_lt_or_eq.1 hi' with h | rfl
         ·exact hno.out i' h a' ha' b' hb'
         ·rw [HA.out] at ha'
          injection ha' with ha'
          subst ha'
          exact fun h => HE.out h.1)⟩
        case measure => simp [intOf];omega
      ·have hkI:¬ (k:Int) < (m:Int):=by omega
       obtain rfl:k = m:=by omega
       go_upto_region 11 with (fail)
       refine wp_region_ord (fun V => V.cell? ⟨w.heap.size,1,none⟩ = some (.slice (some ⟨sb,so,none⟩) 2 c)∧V.cell? ⟨sb,so + 1,none⟩ = some (.int .i64 sa)∧V.cell? ⟨sb,so + 3,none⟩ = some (.int .i64 ta)∧V.cell? ⟨w.heap.size + 1,1,none⟩ = some (.int .i64 (f1:Int))∧V.cell? ⟨w.heap.size + 1,2,none⟩ = some (.int .i64 (f2:Int))∧V.cell? ⟨mb,mo + i * 3,none⟩ = some (.int .i64 (a0:Int))∧V.cell? ⟨mb,mo + i * 3 + 1,none⟩ = some (.int .i64 (a1:Int))∧V.cell? ⟨mb,mo + i * 3 + 2,none⟩ = some (.int .i64 (a2:Int))) 27 [(0,true),(1,true),(2,true),(3,true),(4,true),(5,true),(6,true),(7,true),(8,true),(9,true),(10,true),(11,true),(12,true),(13,true),(14,true),(15,true),(16,true),(17,true),(18,true),(19,true),(20,true),(21,true),(22,true),(23,true),(24,true),(25,true),(26,true)] (by kernel_rfl) (by kernel_rfl) (fun _ _ d _ _ h => by cases d <;> exact h) hS ?_
       clear hS
       iterate 5 (refine ord_takeA rfl ?_;(try simp only [Act.put,gA,gS,gZ,sA,sZ,sS]))
       iterate 11 (refine ord_skip rfl (by kernel_rfl) ?_;(try simp only [Act.put,gA,gS,gZ,sA,sZ,sS]))
       (refine ord_takeA rfl ?_;(try simp only [Act.put,gA,gS,gZ,sA,sZ,sS]))
       (refine ord_takeA rfl ?_;(try simp only [Act.put,gA,gS,gZ,sA,sZ,sS]))
       iterate 8 (refine ord_skip rfl (by kernel_rfl) ?_;(try simp only [Act.put,gA,gS,gZ,sA,sZ,sS]))
       (refine ord_takeA rfl ?_;(try simp only [Act.put,gA,gS,gZ,sA,sZ,sS]))
       refine ord_done ?_
       go_wp2
       go_roundw
       case rel => exact ⟨i + 1,by omega,by go_num,Lib.hid hB.out.drew,Lib.hid (fun i' hi' a' ha' b' hb' => by
        rcases Nat.lt_succ_iff_lt_or_eq.1 hi' with h | rfl
        ·exact hno.out i' h a' ha' b' hb'
        ·rw [HA.out] at ha'
         injection ha' with ha'
         subst ha'
         obtain ⟨j,hj,e⟩:=List.getElem_of_mem hb'
         exact hnk.out j (by rw [← HX.out.2.1];exact hj) b' (by rw [← e];exact List.getElem?_eq_getElem _))⟩
       case measure => simp [intOf];omega
    ·obtain rfl:i = m:=by omega
     go_wp2
     go_ret
     refine ⟨false,rfl,⟨fun h => (by cases h),fun h => ?_⟩,HB0.out.trans (hB1.out.mono HB0.out.size)⟩
     obtain ⟨a,ha,b,hb,h2⟩:=HNB.out.2 h
     obtain ⟨j,hj,e⟩:=List.getElem_of_mem ha
     exact absurd h2 (hno.out j (by rw [← HX.out.2.1];exact hj) a (by rw [← e];exact List.getElem?_eq_getElem _) b hb)
 ·have hhB:(hd == (f0:Int)) = false:=by simpa using hh
  go_wp2
  go_ret
  exact ⟨false,rfl,⟨fun h => (by cases h),fun h => absurd h.1 hh⟩,HB0.out⟩
end Go.Proofs.YtddffnonlmfhdaaGreatDoor
namespace Go.Proofs.YtddffnonlmfhdaaGreatDoor
open Go.RowKit Go.Shelf
theorem born_der {P:List Pr} {El:Int→Nat→Nat→Prop} {n:Nat} {M:List (Nat × Nat × Nat)} (hM:∀ x ∈ M,DerP P El n (x.1:Int) x.2.1 x.2.2) {p:Pr} (hp:p ∈ P) {f:Nat × Nat × Nat} (hf:f.2.1 < n) (h:Born p El M f):DerP P El n (f.1:Int) f.2.1 f.2.2:=by
 obtain ⟨hd,b⟩:=p
 obtain ⟨f0,f1,f2⟩:=f
 obtain ⟨h1,h2⟩:=h
 have h1:hd = (f0:Int):=h1
 subst h1
 rcases h2 with ⟨h2,h3⟩ | ⟨s,h2,h3⟩ | ⟨s,t,h2,a,ha,c,hc,e1,e2,e3,e4,e5⟩
 ·have h2:b = []:=h2
  have h3:f1 = f2:=h3
  subst h2
  subst h3
  exact .eps hp hf
 ·have h2:b = [s]:=h2
  subst h2
  exact .one hp h3
 ·have h2:b = [s,t]:=h2
  subst h2
  obtain ⟨a0,a1,a2⟩:=a
  obtain ⟨c0,c1,c2⟩:=c
  have da:=hM _ ha
  have dc:=hM _ hc
  dsimp only at e1 e2 e3 e4 e5 da dc
  rw [e1,e2] at da
  rw [e3,e4,e5] at dc
  exact .two hp da dc
noncomputable def stepL (P:List Pr) (El:Int→Nat→Nat→Prop) (s:List (Nat × Nat × Nat) × List (Nat × Nat × Nat)) (x:Nat × Nat × Nat):List (Nat × Nat × Nat) × List (Nat × Nat × Nat):=
 open Classical in if ∃ p ∈ P,Born p El s.1 x then (s.1 ++ [x],s.2) else (s.1,s.2 ++ [x])
noncomputable def rndL (P:List Pr) (El:Int→Nat→Nat→Prop) (M L:List (Nat × Nat × Nat)):List (Nat × Nat × Nat) × List (Nat × Nat × Nat):=L.foldl (stepL P El) (M,[])
theorem rnd_mem {P:List Pr} {El:Int→Nat→Nat→Prop}:∀ (L:List (Nat × Nat × Nat)) (s:List (Nat × Nat × Nat) × List (Nat × Nat × Nat)) (x:Nat × Nat × Nat),(x ∈ (L.foldl (stepL P El) s).1 ∨ x ∈ (L.foldl (stepL P El) s).2) ↔ (x ∈ s.1 ∨ x ∈ s.2 ∨ x ∈ L)
 | [],s,x => by simp
 | y :: L,s,x => by
  rw [List.foldl_cons,rnd_mem L (stepL P El s y) x]
  unfold stepL
  split
  ·simp only [List.mem_append,List.mem_singleton,List.mem_cons,List.not_mem_nil,or_false,or_assoc,or_left_comm]
  ·simp only [List.mem_append,List.mem_singleton,List.mem_cons,List.not_mem_nil,or_false,or_assoc]
theorem rnd_len {P:List Pr} {El:Int→Nat→Nat→Prop}:∀ (L:List (Nat × Nat × Nat)) (s:List (Nat × Nat × Nat) × List (Nat × Nat × Nat)),(L.foldl (stepL P El) s).1.length + (L.foldl (stepL P El) s).2.length = s.1.length + s.2.length + L.length∧s.1.length ≤ (L.foldl (stepL P El) s).1.length
 | [],s => by simp
 | y :: L,s => by
  obtain ⟨h1,h2⟩:=rnd_len (P:=P) (El:=El) L (stepL P El s y)
  rw [List.foldl_cons,h1,List.length_cons]
  revert h2
  unfold stepL
  split <;> simp only [List.length_append,List.length_cons,List.length_nil] <;> intro h2 <;> omega
theorem rnd_stuck {P:List Pr} {El:Int→Nat→Nat→Prop}:∀ (L:List (Nat × Nat × Nat)) (s:List (Nat × Nat × Nat) × List (Nat × Nat × Nat)),(L.foldl (stepL P El) s).1.length = s.1.length→∀ x ∈ L,¬ ∃ p ∈ P,Born p El s.1 x
 | [],s,_,x,hx => by cases hx
 | y :: L,s,h,x,hx => by
  rw [List.foldl_cons] at h
  have h2:=(rnd_len (P:=P) (El:=El) L (stepL P El s y)).2
  have h3:(stepL P El s y).1 = s.1∧¬ ∃ p ∈ P,Born p El s.1 y:=by
   by_cases hc:∃ p ∈ P,Born p El s.1 y
   ·exfalso
    have:(stepL P El s y).1.length = s.1.length + 1:=by unfold stepL;rw [if_pos hc];simp
    omega
   ·exact ⟨by unfold stepL;rw [if_neg hc],hc⟩
  rcases List.mem_cons.1 hx with rfl | hx
  ·exact h3.2
  ·have:=rnd_stuck L (stepL P El s y) (by rw [h3.1];exact h) x hx
   rw [h3.1] at this
   exact this
theorem rnd_takes {P:List Pr} {El:Int→Nat→Nat→Prop} {n:Nat} {all M L:List (Nat × Nat × Nat)} (hall:∀ a i j,(a,i,j) ∈ all ↔ DerP P El n (a:Int) i j) (hnat:∀ (a:Int) i j,DerP P El n a i j→∃ k:Nat,a = (k:Int))
  (hmem:∀ x,x ∈ M ∨ x ∈ L ↔ x ∈ all) (hd:∀ x ∈ L,x ∉ M) (hne:L ≠ []):(rndL P El M L).2.length < L.length:=by
 have h1:=rnd_len (P:=P) (El:=El) L (M,[])
 have h2:(rndL P El M L).1.length + (rndL P El M L).2.length = M.length + L.length:=by simpa [rndL] using h1.1
 have h3:M.length ≤ (rndL P El M L).1.length:=h1.2
 rcases Nat.lt_or_ge (rndL P El M L).2.length L.length with h | h
 ·exact h
 ·exfalso
  have hs:=rnd_stuck (P:=P) (El:=El) L (M,[]) (by show (rndL P El M L).1.length = M.length;omega)
  have closed:Closed P El n (fun a i j => ∃ k:Nat,a = (k:Int)∧(k,i,j) ∈ M):=by
   have take:∀ (a:Int) i j,DerP P El n a i j→(∀ k:Nat,a = (k:Int)→∃ p ∈ P,Born p El M (k,i,j))→∃ k:Nat,a = (k:Int)∧(k,i,j) ∈ M:=fun a i j d hb => by
    obtain ⟨k,rfl⟩:=hnat a i j d
    have hm:=(hmem (k,i,j)).2 ((hall k i j).2 d)
    rcases hm with hm | hm
    ·exact ⟨k,rfl,hm⟩
    ·exact absurd (hb k rfl) (hs _ hm)
   have back:∀ (a:Int) i j,(∃ k:Nat,a = (k:Int)∧(k,i,j) ∈ M)→DerP P El n a i j:=fun a i j ⟨k,e,hk⟩ => by
    rw [e]
    exact (hall k i j).1 ((hmem _).1 (.inl hk))
   refine ⟨fun a i hp hi => take a i i (.eps hp hi) (fun k e => ⟨_,hp,e,.inl ⟨rfl,rfl⟩⟩),fun a s i j hp he => take a i j (.one hp he) (fun k e => ⟨_,hp,e,.inr (.inl ⟨s,rfl,he⟩)⟩),fun a s t i k j hp h1 h2 => ?_⟩
   refine take a i j (.two hp (back _ _ _ h1) (back _ _ _ h2)) (fun q e => ?_)
   obtain ⟨u,e1,m1⟩:=h1
   obtain ⟨v,e2,m2⟩:=h2
   exact ⟨_,hp,e,.inr (.inr ⟨s,t,rfl,_,m1,_,m2,e1.symm,rfl,e2.symm,rfl,rfl⟩)⟩
  obtain ⟨x,hx⟩:=List.exists_mem_of_ne_nil L hne
  obtain ⟨a,i,j⟩:=x
  have d:=(hall a i j).1 ((hmem _).1 (.inr hx))
  obtain ⟨k,e,hk⟩:=closed.least d
  have e:a = k:=by omega
  subst e
  exact hd _ hx hk
end Go.Proofs.YtddffnonlmfhdaaGreatDoor
