/- azimov: the iterator that Facts makes; layer 18's laws: facts; AzimovOrder: the plain law; AzimovOrder: the walk; How many edges a graph has, counted by their ends and by their labels (plain); AzimovMirror: the plain law; AzimovMirror: what is put together in memory; AzimovMirror: the walk; A graph, a list of texts, a list of edges that come in, read: the slices lie in memory, and none is too great; An edge, a row of texts, a row of edges that come in, read. -/
import Derived.Test.YtddffnonlmfhdaaGreatDoorX15
import Derived.Test.YtddffnonlmfhdaaGreatDoorX10
import Derived.Test.YtddffnonlmfhdaaGreatDoorX04
import Derived.Test.YtddffnonlmfhdaaGreatDoorX06
import Derived.Test.YtddffnonlmfhdaaGreatDoorX07
import Derived.Test.YtddffnonlmfhdaaGreatDoorX13
import Derived.ProofKit
import Derived.OpenShut
import Derived.ShutString
import Derived.ChangeOld
import Derived.ChangeSame
import Derived.Below
import Derived.Deep.Slices
import Derived.MapViews
import Derived.SizedLaws
import Derived.Test.YtddffnonlmfhdaaGreatDoorX01
set_option linter.unusedVariables false
set_option linter.unusedSimpArgs false
set_option maxHeartbeats 16000000
set_option maxRecDepth 100000
namespace Go.Proofs.YtddffnonlmfhdaaGreatDoor
open Go.RowKit Go.Shelf
attribute [local go_sem] Oper.semAt_some
def facF (B:Mats):Nat→Nat→List (Nat × Nat × Nat)
 | _,0 => []
 | k,n + 1 => (qcL (B k)).map (fun y => (k,y)) ++ facF B (k + 1) n
def facL (B:Mats) (nts:Nat):List (Nat × Nat × Nat):=facF B 0 nts
def enc3 {Q:Nat × Nat × Nat→Prop} (x:{x:Nat × Nat × Nat // Q x}):Array Value:=#[.agg #[.int .i64 (x.1.1:Int),.int .i64 (x.1.2.1:Int),.int .i64 (x.1.2.2:Int)]]
def upF {Q:Nat × Nat × Nat→Prop} (k:Nat) (y:{y:Nat × Nat // Q (k,y)}):{x:Nat × Nat × Nat // Q x}:=⟨(k,y.1),y.2⟩
theorem subF_map {α:Type} (L:List α) (Q:α→Prop) (hQ:∀ x ∈ L,Q x):(subL L Q hQ).map (·.1) = L:=by unfold subL;simp
theorem valF_inj {α:Type} {Q:α→Prop} {l m:List {x:α // Q x}} (h:l.map (·.1) = m.map (·.1)):l = m:=
 (List.map_inj_right (fun _ _ e => Subtype.ext e)).1 h
theorem subF_part {L R:List (Nat × Nat × Nat)} {M:List (Nat × Nat)} {Q:Nat × Nat × Nat→Prop} {hQ:∀ x ∈ L,Q x} {c k:Nat} (h:L.drop c = M.map (fun y => (k,y)) ++ R) (hQ':∀ y ∈ M,Q (k,y)) (j:Nat) (hj:j ≤ M.length) :
  (subL L Q hQ).take (c + j) = (subL L Q hQ).take c ++ ((subL M (fun y => Q (k,y)) hQ').take j).map (upF k):=by
 apply valF_inj
 rw [List.map_append,List.map_map,List.map_take,List.map_take,subF_map,List.take_add,h]
 congr 1
 have e:((fun z:{x:Nat × Nat × Nat // Q x} => z.1) ∘ upF (Q:=Q) k) = (fun y:Nat × Nat => (k,y)) ∘ (fun y:{y:Nat × Nat // Q (k,y)} => y.1):=rfl
 rw [e,← List.map_map,List.map_take,subF_map]
 rw [List.take_append_of_le_length (by rw [List.length_map];exact hj),List.map_take]
theorem rowF_in {L R:List (Nat × Nat × Nat)} {M:List (Nat × Nat)} {Q:Nat × Nat × Nat→Prop} (hQ:∀ x ∈ L,Q x) {c k:Nat} (h:L.drop c = M.map (fun y => (k,y)) ++ R):∀ y ∈ M,Q (k,y):=fun y hy => by
 refine hQ _ (List.mem_of_mem_drop (i:=c) ?_)
 rw [h]
 exact List.mem_append_left _ (List.mem_map.2 ⟨y,hy,rfl⟩)

structure FaI (lb:Nat) (F:Nat→Prop) (B:Mats) (nts:Nat) (L:List (Nat × Nat × Nat)) (Q:Nat × Nat × Nat→Prop) (hQ:∀ x ∈ L,Q x) (J:List {x:Nat × Nat × Nat // Q x}→World→Prop) (W1 wr:World) (k c:Nat) (Ds:List Nat):Prop where
 at_:L.drop c = facF B k (nts - k)
 le:c ≤ L.length
 j:J ((subL L Q hQ).take c) wr
 kp:KpM lb F W1 wr
 nd:Ds.Nodup
 ds:∀ D ∈ Ds,W1.heap.size ≤ D∧Prv lb F wr D∧wr.heap[D]? = some (.deferred (some []))
def FacO (g:Nat) (v:Value) (Oc:Nat→Prop) (q:Nat):Prop:=q = 1 ∨ q = g ∨ v.ownBlock = some q ∨ Oc q
structure RowG (lb g0:Nat) (F:Nat→Prop) (l k g3 gq:Nat) (b:Option (List Nat)) (v:Value) (W4:World):Prop where
 lt:lb < W4.heap.size
 rg:RgM lb W4
 fF:∀ q,F q→q < W4.heap.size∧¬ CellO gq b v q
 row:∀ u q,W4.cell? ⟨lb,0,none⟩ = some u→u.ownBlock = some q→¬ CellO gq b v q
 tab:TabW W4
 k2:Blk W4 g0 79 #[.func (.yield l) #[] #[]]
 p2:Prv lb F W4 g0
 k3:Blk W4 g3 3 #[.int .i64 (k:Int)]
 p3:Prv lb F W4 g3
def RowJ {Q:Nat × Nat × Nat→Prop} (lb:Nat) (F:Nat→Prop) (J:List {x:Nat × Nat × Nat // Q x}→World→Prop) (pre0:List {x:Nat × Nat × Nat // Q x}) (k:Nat) (W4:World) (pre:List {y:Nat × Nat // Q (k,y)}) (V:World):Prop:=
 J (pre0 ++ pre.map (upF k)) V∧KpM lb F W4 V∧lb < V.heap.size
def RowY {Q:Nat × Nat × Nat→Prop} (lb:Nat) (F:Nat→Prop) (Jx:List {x:Nat × Nat × Nat // Q x}→World→Prop) (pre0:List {x:Nat × Nat × Nat // Q x}) (k:Nat) (W4:World) (c:Code) (pre:List {y:Nat × Nat // Q (k,y)}) (V:World):Prop:=
 c = .ret∧Jx (pre0 ++ pre.map (upF k)) V∧KpM lb F W4 V
theorem rowJ_own {Q:Nat × Nat × Nat→Prop} {lb g0:Nat} {F:Nat→Prop} {J:List {x:Nat × Nat × Nat // Q x}→World→Prop} {pre0:List {x:Nat × Nat × Nat // Q x}} {k:Nat} {W4:World} (hJ:OwnP lb F g0 J) (hl:lb < W4.heap.size) (r4:RgM lb W4) (hg:g0 < W4.heap.size) :
  OwnP lb F W4.heap.size (RowJ lb F J pre0 k W4):=by
 rintro s X Y row ⟨h1,h2,h5⟩ hgr hr
 exact ⟨(hJ.from (by omega)) _ X Y row h1 hgr hr,ownP_kpM (β:=Unit) (Nat.le_refl _) hl r4 () X Y row h2 hgr hr,Nat.lt_of_lt_of_le h5 hgr.size⟩
theorem rowY_own {Q:Nat × Nat × Nat→Prop} {lb g0:Nat} {F:Nat→Prop} {Jx:List {x:Nat × Nat × Nat // Q x}→World→Prop} {pre0:List {x:Nat × Nat × Nat // Q x}} {k:Nat} {W4:World} (hJ:OwnP lb F g0 Jx) (hl:lb < W4.heap.size) (r4:RgM lb W4) (hg:g0 < W4.heap.size) (c:Code) :
  OwnP lb F W4.heap.size (RowY lb F Jx pre0 k W4 c):=by
 rintro s X Y row ⟨h0,h1,h2⟩ hgr hr
 exact ⟨h0,(hJ.from (by omega)) _ X Y row h1 hgr hr,ownP_kpM (β:=Unit) (Nat.le_refl _) hl r4 () X Y row h2 hgr hr⟩
structure FacW (w:World) (gl c nts side:Nat) (A:Option Addr) (ad:Nat→Nat) (B:Mats) (Oc:Nat→Prop):Prop where
 tab:TabW w
 blk:Blk w gl 136 #[.slice A nts c]
 own:w.ownsRow 0 121 1 (.slice A nts c) nts (ptC ad nts)
 mat:∀ k,k < nts→∃ F,QuS w F (ad k) side (B k)∧∀ q,F q→Oc q
theorem FacW.upd {w w':World} {gl c nts side:Nat} {A:Option Addr} {ad:Nat→Nat} {B:Mats} {Oc G:Nat→Prop} (h:FacW w gl c nts side A ad B Oc) (hu:Upd G w w') (hd:∀ q,FacO gl (.slice A nts c) Oc q→¬ G q):FacW w' gl c nts side A ad B Oc:=
 ⟨h.tab.upd hu h.tab.lt (hd _ (.inl rfl)),h.blk.upd hu (hd _ (.inr (.inl rfl))),ownsRow_upd h.own hu (fun q hq => hd q (.inr (.inr (.inl hq)))),fun k hk => by
  obtain ⟨F,h1,h2⟩:=h.mat k hk
  exact ⟨F,h1.upd hu (fun q hq => hd q (.inr (.inr (.inr (h2 q hq))))),h2⟩⟩

theorem af_stops (w:World) (gl c nts side:Nat) (A:Option Addr) (ad:Nat→Nat) (B:Mats) (Oc:Nat→Prop) (h:FacW w gl c nts side A ad B Oc) (hOc:∀ q,Oc q→q < w.heap.size) (h1:1 ≤ nts) (h5:nts ≤ 512)
  (Q:Nat × Nat × Nat→Prop) (hQb:∀ x,Q x→x.1 < 512∧x.2.1 < 64∧x.2.2 < 64) (hQ:∀ x ∈ facL B nts,Q x) :
  SeqM Tryz.prog 76 #[.pointer (some ⟨gl,0,none⟩)] enc3 (FacO gl (.slice A nts c) Oc) (fun ys => ys = subL (facL B nts) Q hQ) (fun pre => ∃ k,k ≤ (facL B nts).length∧pre = (subL (facL B nts) Q hQ).take k) (facL B nts).length w:=by
 intro l lb F J Jx W hW hJ hJx hlb hrg hF hrow hY h0
 have hol:∀ q,FacO gl (.slice A nts c) Oc q→q < w.heap.size:=fun q hq => by
  rcases hq with rfl | rfl | hq | hq
  ·exact h.tab.lt
  ·exact h.blk.lt
  ·exact (h.own.lt q hq).2
  ·exact hOc q hq
 have hp:∀ q,FacO gl (.slice A nts c) Oc q→Prv lb F W q:=fun q ho => ⟨Nat.lt_of_lt_of_le (hol q ho) hW.size,fun ha => ha.elim (fun hf => (hF q hf).2 ho) (fun ⟨v,hv,hq⟩ => hrow v q hv hq ho)⟩
 have hw:=h.upd (Upd.of_below hW (fun _ => False)) (fun _ _ => id)
 obtain ⟨ga,cc,e,hob,-,-,-,hcell⟩:=own_cells hw.own (by omega)
 injection e with e1 e2 e3
 subst e1
 subst e3
 have k2:=Blk.new W 79 #[.func (.yield l) #[] #[]]
 have b1:Below W.heap.size W (W.alloc (.cells #[.func (.yield l) #[] #[]] 79)):=(Below.refl _ _).alloc (Nat.le_refl _) _
 have z1:(W.alloc (.cells #[.func (.yield l) #[] #[]] 79)).heap.size = W.heap.size + 1:=by simp
 have hw1:=hw.upd (Upd.of_below b1 (fun _ => False)) (fun _ _ => id)
 have H:=Lib.hid (And.intro hJ (And.intro hJx (And.intro hlb (And.intro hrg (And.intro (fun q hq => (hF q hq).1) (And.intro hp hY))))))
 have kp1:=KpM.of_below (lb:=lb) (F:=F) b1 hlb
 have r1:=kp1.rg hrg
 have lb1:lb < (W.alloc (.cells #[.func (.yield l) #[] #[]] 79)).heap.size:=by omega
 have p2:Prv lb F (W.alloc (.cells #[.func (.yield l) #[] #[]] 79)) W.heap.size:=Prv.since b1 hlb hrg (fun q hq => (hF q hq).1) (Nat.le_refl _) (by omega)
 have pO:∀ q,FacO gl (.slice (some ⟨ga,0,none⟩) nts c) Oc q→Prv lb F (W.alloc (.cells #[.func (.yield l) #[] #[]] 79)) q:=fun q ho => (kp1.prv hrg (hp q ho)).2
 have j1:=hJ.below h0 b1
 have q1:(W.alloc (.cells #[.func (.yield l) #[] #[]] 79)).cell? ⟨gl,0,none⟩ = some (.slice (some ⟨ga,0,none⟩) nts c):=hw1.blk.cell 0
 clear h hW hJ hJx hlb hrg hF hrow hY h0 hol hp hw hob hcell hOc e2
 refine (callsIn_wide (n:=1)).1 ?_
 refine callsIn_of_wp_marks Tryz.func76 rfl trivial ?_ rfl
 simp only [Tryz.ntmps76,List.size_toArray,List.length_cons,List.length_nil,Nat.reduceAdd,Nat.reduceSub,Array.replicate_succ,Array.replicate_zero,List.push_toArray,List.append_toArray,List.nil_append,List.cons_append]
 refine wpIn_wide.2 ?_
 go_upto_region 1 with (fail)
 generalize hW1:W.alloc (.cells #[.func (.yield l) #[] #[]] 79) = W1 at k2 b1 z1 hw1 kp1 r1 lb1 p2 pO j1 q1 ⊢
 clear hW1
 have HI0:=Lib.hid (show FaI lb F B nts (facL B nts) Q hQ J W1 W1 0 0 [] from ⟨rfl,Nat.zero_le _,by simpa using j1,KpM.refl _ _ _,List.nodup_nil,fun D hD => by cases hD⟩)
 have HW:=Lib.hid (And.intro b1 (And.intro k2 (And.intro p2 (And.intro pO (And.intro hw1 (And.intro r1 (And.intro lb1 (And.intro z1 kp1))))))))
 clear b1 k2 p2 pO hw1 r1 lb1 z1 kp1 j1
 go_wp2
 clear q1
 refine wp_loop (fun a wr => ∃ (k c':Nat) (Ds:List Nat) (u3 u4 u5 u6 u10 u11 u12 u13 u14 u15 u16 u17 u18 u19 u20 u21 u22 u23 u24 u25:Value),a = ⟨#[.func (.yield l) #[] #[],.pointer (some ⟨gl,0,none⟩),.pointer (some ⟨W.heap.size,0,none⟩),u3,u4,u5,u6,.slice (some ⟨ga,0,none⟩) nts c,.int .i64 (nts:Int),.int .i64 (k:Int),u10,u11,u12,u13,u14,u15,u16,u17,u18,u19,u20,u21,u22,u23,u24,u25],Ds.map (fun D => { target:=.collected D,args:=#[] })⟩∧k ≤ nts∧FaI lb F B nts (facL B nts) Q hQ J W1 wr k c' Ds) (fun a _ => nts - (intOf (a.tmps.getD 9 undef)).toNat) ?_ ?_
 ·exact ⟨0,0,[],_,_,_,_,_,_,_,_,_,_,_,_,_,_,_,_,_,_,_,_,rfl,by omega,HI0.out⟩
 ·rintro a wr ⟨k,c',Ds,u3,u4,u5,u6,u10,u11,u12,u13,u14,u15,u16,u17,u18,u19,u20,u21,u22,u23,u24,u25,rfl,hk,hI⟩
  have HI:=Lib.hid hI
  clear hI
  by_cases hlt:k < nts
  ·have hltI:(k:Int) < (nts:Int):=by omega
   have hkw:IntKind.i64.wrap ((k:Int) + 1) = (k:Int) + 1:=IntWalk.i64_in _ (by omega)
   have rw1:RgM lb wr:=HI.out.kp.rg HW.out.2.2.2.2.2.1
   have lbr:lb < wr.heap.size:=Nat.lt_of_lt_of_le HW.out.2.2.2.2.2.2.1 (HI.out.kp.size HW.out.2.2.2.2.2.1)
   have hwr:=HW.out.2.2.2.2.1.upd (HI.out.kp HW.out.2.2.2.2.2.1).1 (fun q ho => (HW.out.2.2.2.1 q ho).2)
   have qk:wr.cell? ⟨ga,k,none⟩ = some (.pointer (some ⟨ad k,0,none⟩)):=by
    obtain ⟨g',c1,e,-,-,-,-,hc⟩:=own_cells hwr.own (by omega)
    injection e with e
    injection e with e
    injection e with e
    subst e
    exact (hc k _ (ptC_at hlt)).1
   have k3:=Blk.new wr 3 #[.int .i64 (k:Int)]
   have b3:Below wr.heap.size wr (wr.alloc (.cells #[.int .i64 (k:Int)] 3)):=(Below.refl _ _).alloc (Nat.le_refl _) _
   have z3:(wr.alloc (.cells #[.int .i64 (k:Int)] 3)).heap.size = wr.heap.size + 1:=by simp
   have hw3:=hwr.upd (Upd.of_below b3 (fun _ => False)) (fun _ _ => id)
   obtain ⟨Fk,hq,hFk⟩:=hw3.mat k hlt
   have hcon:=mcells_made _ Fk (ad k) side (B k) hq
   have hwd:=hq.wd
   have HX:=Lib.hid (And.intro rw1 (And.intro lbr (And.intro b3 (And.intro k3 (And.intro z3 (And.intro hw3 hwd))))))
   clear rw1 lbr hwr k3 b3 z3 hw3 hq hFk hwd
   go_upto_region 4 with (fail)
   clear qk
   generalize hW3:wr.alloc (.cells #[.int .i64 (k:Int)] 3) = W3 at HX hcon ⊢
   clear hW3
   go_wp2_with fail
   refine hcon.mono ?_
   clear hcon
   rintro e W4 ⟨gq,A4,n4,c4,hgq,rfl,kq,b4,hch⟩
   have HB:=Lib.hid (And.intro hgq (And.intro kq (And.intro b4 hch)))
   clear hgq kq b4 hch
   go_wp2
   have HD:=Lib.hid (show (facL B nts).drop c' = (qcL (B k)).map (fun y => (k,y)) ++ facF B (k + 1) (nts - (k + 1)) from by
    rw [HI.out.at_,show nts - k = (nts - (k + 1)) + 1 by omega];rfl)
   have hbb:Below wr.heap.size wr W4:=HX.out.2.2.1.trans (HB.out.2.2.1.mono HX.out.2.2.1.size)
   have hFlt:∀ q,F q→q < wr.heap.size:=fun q hq => by
    have h1:=H.out.2.2.2.2.1 q hq
    have h2:=HW.out.1.size
    have h3:=HI.out.kp.size HW.out.2.2.2.2.2.1
    omega
   have hz3:=HX.out.2.2.2.2.1
   have hgq:=HB.out.1
   have pT4:Prv lb F W4 1:=((HI.out.kp.prv HW.out.2.2.2.2.2.1 (HW.out.2.2.2.1 _ (.inl rfl))).2).below hbb HX.out.2.1
   have hr4:RgM lb W4:=(KpM.of_below (F:=F) hbb HX.out.2.1).rg HX.out.1
   have hcl:∀ q,CellO gq (B k) (.slice A4 n4 c4) q→q = 1 ∨ W3.heap.size ≤ q:=fun q hq => by
    rcases hq with hq | rfl | ⟨hs,hq⟩
    ·exact .inl hq
    ·exact .inr hgq
    ·exact .inr (HB.out.2.2.2.own hs hq).1
   have HR:RowG lb W.heap.size F l k wr.heap.size gq (B k) (.slice A4 n4 c4) W4:=by
    have u4:=Upd.of_below HB.out.2.2.1 (fun _ => False)
    have hz4:=HB.out.2.2.1.size
    have ub:=Upd.of_below hbb (fun _ => False)
    refine ⟨by have:=HX.out.2.1;omega,hr4,fun q hq => ⟨by have:=hFlt q hq;omega,fun ho => ?_⟩,fun v q hv ho hc => ?_,HX.out.2.2.2.2.2.1.tab.upd u4 HX.out.2.2.2.2.2.1.tab.lt id,(HI.out.kp.blk HW.out.2.2.2.2.2.1 HW.out.2.2.1 HW.out.2.1).upd ub id,(HI.out.kp.prv HW.out.2.2.2.2.2.1 HW.out.2.2.1).2.below hbb HX.out.2.1,HX.out.2.2.2.1.upd u4 id,?_⟩
    ·rcases hcl q ho with rfl | hge
     ·exact pT4.2 (.inl hq)
     ·have:=hFlt q hq;omega
    ·rcases hcl q hc with rfl | hge
     ·exact pT4.2 (.inr ⟨v,hv,ho⟩)
     ·rw [hbb.cell (p:=⟨lb,0,none⟩) HX.out.2.1] at hv
      have:=HX.out.1 v q hv ho;omega
    ·exact Prv.since hbb HX.out.2.1 HX.out.1 hFlt (Nat.le_refl _) (by omega)
   have hg4:W.heap.size < W4.heap.size:=HR.k2.lt
   have hQ':=rowF_in hQ HD.out
   have hm:∀ j,j ≤ (qcL (B k)).length→c' + j ≤ (facL B nts).length:=fun j hj => by
    have:=congrArg List.length HD.out
    rw [List.length_drop,List.length_append,List.length_map] at this
    have:=HI.out.le
    omega
   have hst:=mcells_stops W4 (B k) HX.out.2.2.2.2.2.2 HR.tab gq c4 n4 A4 (fun y => Q (k,y)) (fun y hy => (hQb _ hy).2) hQ' HB.out.2.1 W3.heap.size HB.out.2.2.2
   have j4:RowJ lb F J ((subL (facL B nts) Q hQ).take c') k W4 [] W4:=by
    refine ⟨?_,KpM.refl _ _ _,HR.lt⟩
    have:=H.out.1.below HI.out.j hbb
    simpa using this
   have HS:=Lib.hid (And.intro HR (And.intro hg4 (And.intro hm (And.intro hbb j4))))
   have HT:=Lib.hid hst
   have hOl:∀ q,CellO gq (B k) (.slice A4 n4 c4) q→q < W4.heap.size:=fun q ho => by
    rcases ho with rfl | rfl | ⟨hs,hq⟩
    ·exact HR.tab.lt
    ·exact HB.out.2.1.lt
    ·exact (HB.out.2.2.2.own hs hq).2
   clear hst HR hg4 hm j4 hFlt pT4 hr4 hcl hz3 hgq hbb
   refine wp_rangeM (gf:=120) (cap:=#[.pointer (some ⟨gq,0,none⟩)]) rfl (enters_of Tryz.func120 (by kernel_rfl) rfl) HT.out (Below.refl _ _) hOl (fun _ => rfl)
    lb F HS.out.1.lt HS.out.1.rg HS.out.1.fF HS.out.1.row
    (RowJ lb F J ((subL (facL B nts) Q hQ).take c') k W4) (RowY lb F Jx ((subL (facL B nts) Q hQ).take c') k W4)
    (rowJ_own H.out.1 HS.out.1.lt HS.out.1.rg HS.out.2.1) (rowY_own H.out.2.1 HS.out.1.lt HS.out.1.rg HS.out.2.1) HS.out.2.2.2.2
    (fun T y _ => (((T.setIfInBounds 16 (.int .i64 (y.1.1:Int))).setIfInBounds 17 (.int .i64 (y.1.2:Int))).setIfInBounds 5 (.int .i64 (y.1.1:Int))).setIfInBounds 6 (.int .i64 (y.1.2:Int)))
    (fun _ _ _ => True)
    ?hBx ?assign ?body ?done ?stop
   case hBx => exact fun _ _ _ _ _ _ _ _ _ => trivial
   case assign =>
    rintro l2 pre y V Kc hrV hsV hi hK
    dsimp only [enc2]
    have HI2:=Lib.hid hi
    clear hi
    gi_wp2
    exact hK 0 V (KpM.refl _ _ _) HI2.out trivial
   case body =>
    rintro l2 pre y b V hrV hsV ⟨j1,kp,lbV⟩ - hlt2
    have hyb:=hQb _ y.2
    have hR:=HS.out.1
    have c3:V.cell? ⟨W.heap.size,0,none⟩ = some (.func (.yield l) #[] #[]):=(kp.blk hR.rg hR.p2 hR.k2).cell 0
    have c5:V.cell? ⟨wr.heap.size,0,none⟩ = some (.int .i64 (k:Int)):=(kp.blk hR.rg hR.p3 hR.k3).cell 0
    have hlen:((subL (facL B nts) Q hQ).take c' ++ pre.map (upF k)).length < (facL B nts).length:=by
     rw [List.length_append,List.length_take,List.length_map,subL_len]
     have:=HS.out.2.2.1 (pre.length + 1) hlt2
     omega
    obtain ⟨fn,tmps,assign,body,hy,hRd⟩:=yield_round (l2:=l2) (n:=0) (H.out.2.2.2.2.2.2 _ (upF k y) V j1 hlen)
    dsimp only [enc3,upF] at hy
    have HK:=Lib.hid (And.intro kp (And.intro lbV hrV))
    clear kp lbV hrV hR hyb hlen j1
    simp only [sA,sZ,sS]
    gi_wp2
    refine ⟨rfl,hRd.mono ?_⟩
    clear hRd hy c3 c5
    rintro e V3 ⟨hk3,(⟨rfl,hJ3⟩ | ⟨rfl,hJx3⟩)⟩
    ·have FIN:=Lib.hid (show KpM lb F V V3∧RowJ lb F J ((subL (facL B nts) Q hQ).take c') k W4 (pre ++ [y]) V3 from by
      obtain ⟨kp,lbV,hrV⟩:=HK.out
      exact ⟨hk3,by rw [List.map_append,← List.append_assoc];exact hJ3,kp.trans hk3,Nat.lt_of_lt_of_le lbV (hk3.size hrV)⟩)
     clear hJ3 hk3
     gi_wp2
     exact FIN.out
    ·have FIN:=Lib.hid (show KpM lb F V V3∧RowY lb F Jx ((subL (facL B nts) Q hQ).take c') k W4 .ret (pre ++ [y]) V3 from by
      obtain ⟨kp,lbV,hrV⟩:=HK.out
      exact ⟨hk3,rfl,by rw [List.map_append,← List.append_assoc];exact hJx3,kp.trans hk3⟩)
     clear hJx3 hk3
     gi_wp2
     exact FIN.out
   case done =>
    rintro ys V rfl ⟨j1,kp,lbV⟩ hrV pD hD
    have hI2:FaI lb F B nts (facL B nts) Q hQ J W1 V (k + 1) (c' + (qcL (B k)).length) (W4.heap.size :: Ds):=by
     have bb:=HS.out.2.2.2.1
     have kw:KpM lb F wr V:=(KpM.of_below bb HX.out.2.1).trans kp
     have hz4:=bb.size
     refine ⟨?_,HS.out.2.2.1 _ (Nat.le_refl _),?_,HI.out.kp.trans kw,?_,fun D hD' => ?_⟩
     ·rw [← List.drop_drop,HD.out,show (qcL (B k)).length = ((qcL (B k)).map (fun y => (k,y))).length by rw [List.length_map],List.drop_left]
     ·rw [subF_part HD.out (rowF_in hQ HD.out) _ (Nat.le_refl _),show (subL (qcL (B k)) (fun y => Q (k,y)) (rowF_in hQ HD.out)).take (qcL (B k)).length = subL (qcL (B k)) (fun y => Q (k,y)) (rowF_in hQ HD.out) from List.take_of_length_le (by rw [subL_len];exact Nat.le_refl _)]
      exact j1
     ·rw [List.nodup_cons]
      exact ⟨fun hm => by have:=(HI.out.ds _ hm).2.1.1;omega,HI.out.nd⟩
     ·rcases List.mem_cons.1 hD' with rfl | hm
      ·exact ⟨Nat.le_trans (HI.out.kp.size HW.out.2.2.2.2.2.1) hz4,pD,hD⟩
      ·have h5:=HI.out.ds D hm
       have h6:=kw.prv HX.out.1 h5.2.1
       exact ⟨h5.1,h6.2,h6.1.trans h5.2.2⟩
    have HN:=Lib.hid hI2
    clear hI2 j1 kp lbV hrV pD hD
    go_wp2
    exact ⟨⟨k + 1,_,W4.heap.size :: Ds,_,_,_,_,_,_,_,_,_,_,_,_,_,_,_,_,_,_,_,_,rfl,by omega,HN.out⟩,by simp [intOf];omega⟩
   case stop =>
    rintro ct pre V ⟨j,hj,rfl⟩ ⟨rfl,jx,kp⟩ hrV pD hD
    have bb:=HS.out.2.2.2.1
    have kw:KpM lb F wr V:=(KpM.of_below bb HX.out.2.1).trans kp
    have hz4:=bb.size
    have hz:=HI.out.kp.size HW.out.2.2.2.2.2.1
    have z1:=HW.out.2.2.2.2.2.2.2.1
    have hds:∀ D ∈ W4.heap.size :: Ds,W1.heap.size ≤ D∧Prv lb F V D∧V.heap[D]? = some (.deferred (some [])):=fun D hD' => by
     rcases List.mem_cons.1 hD' with rfl | hm
     ·exact ⟨Nat.le_trans hz hz4,pD,hD⟩
     ·have h5:=HI.out.ds D hm
      have:=kw.prv HX.out.1 h5.2.1
      exact ⟨h5.1,this.2,this.1.trans h5.2.2⟩
    have hnd:(W4.heap.size :: Ds).Nodup:=List.nodup_cons.2 ⟨fun hm => by have:=(HI.out.ds _ hm).2.1.1;omega,HI.out.nd⟩
    have hlv:lb < V.heap.size:=by have:=HX.out.2.1;have:=kp.size HS.out.1.rg;omega
    have HL:=Lib.hid (And.intro hds (And.intro hnd (And.intro hlv jx)))
    clear jx kp hrV pD hD bb kw hz4 hds hnd hlv
    go_wp2
    refine leaves_own (B:=W1.heap.size) (fun w1 => Jx ((subL (facL B nts) Q hQ).take c' ++ ((subL (qcL (B k)) (fun y => Q (k,y)) hQ').take j).map (upF k)) w1) ?_ HW.out.2.2.2.2.2.2.1 ?_ (W4.heap.size :: Ds) V HL.out.2.1 HL.out.1 HL.out.2.2.1 HL.out.2.2.2
    ·rintro s X Y row h2 hg hrr
     exact (H.out.2.1.from (by omega)) _ X Y row h2 hg hrr
    ·intro w1 h2
     exact ⟨_,results_none rfl _ _ _,⟨_,rfl⟩,.inr ⟨_,⟨c' + j,HS.out.2.2.1 j hj,(subF_part HD.out hQ' j hj).symm⟩,h2⟩⟩
  ·obtain rfl:k = nts:=by omega
   have hdr:(facL B k).drop c' = []:=by rw [HI.out.at_,Nat.sub_self];rfl
   have jj:=HI.out.j
   rw [subL_all hdr] at jj
   have z1:=HW.out.2.2.2.2.2.2.2.1
   have lbr:lb < wr.heap.size:=Nat.lt_of_lt_of_le HW.out.2.2.2.2.2.2.1 (HI.out.kp.size HW.out.2.2.2.2.2.1)
   have HL:=Lib.hid (And.intro HI.out.ds (And.intro HI.out.nd (And.intro lbr jj)))
   clear hdr jj lbr
   go_wp2
   refine leaves_own (B:=W1.heap.size) (fun w1 => J (subL (facL B k) Q hQ) w1) ?_ HW.out.2.2.2.2.2.2.1 ?_ Ds _ HL.out.2.1 HL.out.1 HL.out.2.2.1 HL.out.2.2.2
   ·rintro s X Y row h2 hg hrr
    exact (H.out.1.from (by omega)) _ X Y row h2 hg hrr
   ·intro w1 h2
    exact ⟨_,results_none rfl _ _ _,⟨_,rfl⟩,.inl ⟨_,rfl,h2⟩⟩
end Go.Proofs.YtddffnonlmfhdaaGreatDoor
namespace Go.Proofs.YtddffnonlmfhdaaGreatDoor
open Go.RowKit Go.Shelf
attribute [local go_sem] Oper.semAt_some
theorem facF_mem (B:Mats):∀ (n k:Nat) (x:Nat × Nat × Nat),x ∈ facF B k n ↔ k ≤ x.1∧x.1 < k + n∧x.2 ∈ qcL (B x.1)
 | 0,k,x => by simp [facF];omega
 | n + 1,k,x => by
  rw [facF,List.mem_append,facF_mem B n (k + 1) x,List.mem_map]
  constructor
  ·rintro (⟨y,hy,rfl⟩ | ⟨h1,h2,h3⟩)
   ·exact ⟨Nat.le_refl _,by show k < _;omega,hy⟩
   ·exact ⟨by omega,by omega,h3⟩
  ·rintro ⟨h1,h2,h3⟩
   by_cases e:x.1 = k
   ·exact .inl ⟨x.2,by rw [← e];exact h3,by rw [← e]⟩
   ·exact .inr ⟨by omega,by omega,h3⟩
theorem facL_mem {B:Mats} {nts:Nat} (hw:∀ k,k < nts→Wd (oldW (B k))) {k i j:Nat}:(k,i,j) ∈ facL B nts ↔ k < nts∧i < 64∧j < 64∧bitO (B k) i j = true:=by
 unfold facL
 rw [facF_mem]
 constructor
 ·rintro ⟨-,h2,h3⟩
  have h2:k < nts:=by simpa using h2
  exact ⟨h2,(qcL_mem (hw k h2)).1 h3⟩
 ·rintro ⟨h2,h3⟩
  exact ⟨Nat.zero_le _,by simpa using h2,(qcL_mem (hw k h2)).2 h3⟩
theorem facF_len (B:Mats):∀ (n k:Nat),(∀ j,k ≤ j→j < k + n→Wd (oldW (B j)))→(facF B k n).length ≤ n * 4096
 | 0,k,_ => by simp [facF]
 | n + 1,k,h => by
  rw [facF,List.length_append,List.length_map,qcL_len]
  have h1:=lenB_most (h k (Nat.le_refl _) (by omega))
  have h2:=facF_len B n (k + 1) (fun j a b => h j (by omega) (by omega))
  omega
theorem eql_seq_any (W:World) (f:Fn) (x y:Array Value):(binOp .eql 62 (.func f x y) .nilFunc).run Tryz.prog W = .ok (.bool false) W:=eql_seq_nil W f x y
end Go.Proofs.YtddffnonlmfhdaaGreatDoor
namespace Go.Proofs.YtddffnonlmfhdaaGreatDoor
open Go.RowKit Go.Shelf
theorem gok_of {N:List Txt} {E:List Ed} (h:checkI N E = 0):GOk ⟨N,E⟩:=by
 have hf:=form_iff (check_caps h).1
 exact ⟨hf.1.nodup stoT,hf.2.1.nodup stoE,hf.2.2,(same_of h (fun _ => Iff.rfl) (fun _ => Iff.rfl)).1⟩
theorem facL_len (B:Mats):∀ (n:Nat),(facL B n).length = lenM B n:=by
 have h:∀ n k,(facF B k n).length = sumN (fun j => lenB (oldW (B (k + j)))) n:=by
  intro n
  induction n with
  | zero => intro k;rfl
  | succ n ih =>
   intro k
   rw [facF,List.length_append,List.length_map,qcL_len,ih (k + 1)]
   have hs:∀ (f:Nat→Nat) (m:Nat),sumN f (m + 1) = f 0 + sumN (fun j => f (j + 1)) m:=by
    intro f m
    induction m with
    | zero => simp [sumN]
    | succ m im =>
     rw [sumN,im,sumN]
     omega
   rw [hs]
   congr 1
   congr 1
   funext j
   rw [show k + 1 + j = k + (j + 1) by omega]
 intro n
 unfold facL lenM
 rw [h n 0]
 congr 1
 funext j
 rw [Nat.zero_add]
end Go.Proofs.YtddffnonlmfhdaaGreatDoor
namespace Go.Proofs.YtddffnonlmfhdaaGreatDoor
open Go.RowKit Go.Shelf
theorem one_pv (l:List Pv):∀ u ∈ pvCells l,u.oneCell' = true:=by
 intro u hu
 obtain ⟨v,-,hu⟩:=List.mem_flatMap.1 hu
 simp [Pv.cells] at hu
 rcases hu with rfl | rfl <;> rfl
structure OrO (W:World) (B0 g:Nat) (nts:Int) (L:List Pv) (n:Nat) (A:Option Addr) (c:Nat):Prop where
 b:Blk W g 50 #[.int .i64 nts,.slice A n c]
 own:W.ownsRow B0 71 2 (.slice A n c) n (pvCells L)
 ne:(Value.slice A n c).ownBlock ≠ some g
 len:L.length = n
 g0:B0 ≤ g
theorem OrO.below {W V:World} {B0 g n c:Nat} {nts:Int} {L:List Pv} {A:Option Addr} (h:OrO W B0 g nts L n A c) (hb:Below W.heap.size W V):OrO V B0 g nts L n A c:=
 ⟨h.b.upd (Upd.of_below hb (fun _ => False)) id,ownsRow_upd h.own (Upd.of_below hb (fun _ => False)) (fun _ _ => id),h.ne,h.len,h.g0⟩
def NwC (W W':World) (nts:Int) (PV:List Pv) (labels:List Txt) (G:Gr) (v:Value) (e:Int):Prop:=
 Below W.heap.size W W'∧((achkI nts PV labels = 2∧v = .pointer none∧e = 2) ∨ (achkI nts PV labels = 0∧e = 0∧∃ (p:Nat) (F:Nat→Prop) (B:Mats),v = .pointer (some ⟨p,0,none⟩)∧ClS W' F p (max 1 G.N.length) G.N.length nts.toNat B∧(∀ k,F k→W.heap.size ≤ k) ∧
  (∀ k,k < nts.toNat→∀ i j,bitO (B k) i j = true ↔ DerP (PV.map (·.pr)) (ElG G labels) G.N.length (k:Int) i j)∧∀ k,WdO (B k)))
theorem nwC_of {W W':World} {nts:Int} {PV:List Pv} {labels:List Txt} {G:Gr} {e:Ending} (h:NewQ W nts PV labels G e W'):∃ v c,e = .returned (.tuple #[v,.int .i64 c])∧NwC W W' nts PV labels G v c:=by
 rcases h with ⟨h1,h2,h3⟩ | ⟨h1,p,F,B,h2,h3,h4,h5,h6⟩
 ·exact ⟨_,_,h2,h3,.inl ⟨h1,rfl,rfl⟩⟩
 ·exact ⟨_,_,h2,h5,.inr ⟨h1,rfl,p,F,B,rfl,h3,h4,h6⟩⟩
end Go.Proofs.YtddffnonlmfhdaaGreatDoor
namespace Go.Proofs.YtddffnonlmfhdaaGreatDoor
theorem len_same {α:Type} [DecidableEq α] {L M:List α} (hl:L.Nodup) (hm:M.Nodup) (h:∀ x,x ∈ L ↔ x ∈ M):L.length = M.length:=
 Nat.le_antisymm (len_sub hl (fun x hx => (h x).1 hx)) (len_sub hm (fun x hx => (h x).2 hx))
theorem nodup_map {α β:Type} {f:α→β} {l:List α} (h:l.Nodup) (hf:∀ a ∈ l,∀ b ∈ l,f a = f b→a = b):(l.map f).Nodup:=by
 unfold List.Nodup
 rw [List.pairwise_map]
 exact List.Pairwise.imp_of_mem (fun {a b} ha hb hn e => hn (hf a ha b hb e)) h
end Go.Proofs.YtddffnonlmfhdaaGreatDoor
namespace Go.Proofs.YtddffnonlmfhdaaGreatDoor
open Go.RowKit Go.Shelf
theorem node_step {N:List Txt} {E:List Ed} (hc:checkI N E = 0) {t:Nat} {s:Txt} (hs:N[t]? = some s):(addNode ⟨N.take t,[]⟩ s).1 = ⟨N.take (t + 1),[]⟩:=by
 have ok:=gok_of hc
 have hn:¬ s ∈ N.take t:=fun hm => by
  obtain ⟨j,hj,e⟩:=List.getElem_of_mem hm
  rw [List.getElem_take] at e
  have hj':j < t:=by rw [List.length_take] at hj;omega
  have ht:=(List.getElem?_eq_some_iff.1 hs)
  obtain ⟨ht1,ht2⟩:=ht
  exact List.pairwise_iff_getElem.1 ok.nd j t (by show j < N.length;omega) ht1 hj' (e.trans ht2.symm)
 have e:N.take t ++ [s] = N.take (t + 1):=by rw [List.take_add_one,hs];rfl
 have h0:ofI (N.take t ++ [s]) [] = 0:=by
  rw [e]
  exact ofI_sub (N:=N) (E:=E) (fun x hx => .inl (List.mem_of_mem_take hx)) (fun _ hx => by cases hx) ok.may
 unfold addNode
 rw [if_neg (fun h => hn (inB_iff.1 h)),if_pos h0]
 rw [e]
def revE (x:Ed):Ed:=⟨x.to,x.lb,x.fr⟩
def grm (G:Gr) (L:List Ed):Gr:=L.foldl (fun G x => (addEdge G (revE x)).1) G
theorem grm_take {G:Gr} {L:List Ed} {t:Nat} {x:Ed} (h:L[t]? = some x):grm G (L.take (t + 1)) = (addEdge (grm G (L.take t)) (revE x)).1:=by
 unfold grm
 rw [List.take_add_one,h,Option.toList_some,List.foldl_append]
 rfl
theorem grm_law:∀ (L:List Ed) (G:Gr),(∀ x ∈ L,x.fr ∈ G.N∧x.to ∈ G.N)→(grm G L).N = G.N∧(grm G L).X.length ≤ G.X.length + L.length∧((grm G L).X.length = G.X.length + L.length→(grm G L).X = G.X ++ L.map revE)
 | [],G,_ => ⟨rfl,Nat.le_refl _,fun _ => by simp [grm]⟩
 | x :: L,G,h => by
  have hx:=h x (by simp)
  have key:((addEdge G (revE x)).1 = G) ∨ (addEdge G (revE x)).1 = ⟨G.N,G.X ++ [revE x]⟩:=by
   unfold addEdge
   split
   ·exact .inl rfl
   split
   ·refine .inr ?_
    show (⟨addN (addN G.N x.to) x.fr,G.X ++ [revE x]⟩:Gr) = _
    rw [addN_in hx.2,addN_in hx.1]
   ·exact .inl rfl
  have hg:grm G (x :: L) = grm (addEdge G (revE x)).1 L:=rfl
  rw [hg,List.length_cons]
  rcases key with e | e
  ·rw [e]
   obtain ⟨a,b,-⟩:=grm_law L G (fun y hy => h y (by simp [hy]))
   exact ⟨a,by omega,fun h2 => by omega⟩
  ·rw [e]
   obtain ⟨a,b,c⟩:=grm_law L ⟨G.N,G.X ++ [revE x]⟩ (fun y hy => h y (by simp [hy]))
   simp only [List.length_append,List.length_cons,List.length_nil] at b c
   refine ⟨a,by omega,fun h2 => ?_⟩
   rw [c (by omega)]
   simp
theorem grm_ok:∀ (L:List Ed) (G:Gr),GOk G→GOk (grm G L)
 | [],_,h => h
 | x :: L,G,h => grm_ok L _ (h.edge (revE x))
theorem elg_rev {N:List Txt} {E:List Ed} {labels:List Txt}:ElG ⟨N,E.map revE⟩ labels = fun k i j => ElG ⟨N,E⟩ labels k j i:=by
 funext k i j
 refine propext ⟨?_,?_⟩
 ·rintro ⟨lb,h1,x,hx,h2,h3,h4⟩
  obtain ⟨y,hy,rfl⟩:=List.mem_map.1 hx
  exact ⟨lb,h1,y,hy,h2,h4,h3⟩
 ·rintro ⟨lb,h1,x,hx,h2,h3,h4⟩
  exact ⟨lb,h1,revE x,List.mem_map.2 ⟨x,hx,rfl⟩,h2,h4,h3⟩
theorem shape_rev (p:Pr) (nts labels:Int):shapeOf p.mirror nts labels = shapeOf p nts labels:=by
 obtain ⟨h,b⟩:=p
 match b with
 | [] => rfl
 | [s] => rfl
 | [s,t] =>
  show ((decide (0 ≤ h) && decide (h < nts)) && (okSym t false nts && okSym s false nts)) = ((decide (0 ≤ h) && decide (h < nts)) && (okSym s false nts && okSym t false nts))
  rw [Bool.and_comm (okSym t false nts)]
 | s :: t :: u :: b =>
  have hl:3 ≤ (Pr.mirror ⟨h,s :: t :: u :: b⟩).body.length:=by simp [Pr.mirror]
  obtain ⟨x,y,z,l,e⟩:∃ x y z l,(Pr.mirror ⟨h,s :: t :: u :: b⟩).body = x :: y :: z :: l:=by
   match hm:(Pr.mirror ⟨h,s :: t :: u :: b⟩).body with
   | [] => rw [hm] at hl;simp at hl
   | [x] => rw [hm] at hl;simp at hl
   | [x,y] => rw [hm] at hl;simp at hl
   | x :: y :: z :: l => exact ⟨x,y,z,l,rfl⟩
  have e1:Pr.mirror ⟨h,s :: t :: u :: b⟩ = ⟨h,x :: y :: z :: l⟩:=by rw [← e];rfl
  rw [e1]
  rfl
theorem achk_rev {nts:Int} {PV PV':List Pv} {labels:List Txt} (h:PV'.map (·.pr) = (PV.map (·.pr)).map Pr.mirror):achkI nts PV' labels = achkI nts PV labels:=by
 have hl:PV'.length = PV.length:=by have:=congrArg List.length h;simpa using this
 unfold achkI
 rw [hl]
 have e:(∀ v ∈ PV',shapeOf v.pr nts labels.length = true) ↔ ∀ v ∈ PV,shapeOf v.pr nts labels.length = true:=by
  have a:∀ (l:List Pv),(∀ v ∈ l,shapeOf v.pr nts labels.length = true) ↔ ∀ p ∈ l.map (·.pr),shapeOf p nts labels.length = true:=fun l => by simp
  rw [a PV',a PV,h]
  simp only [List.mem_map,forall_exists_index,and_imp,forall_apply_eq_imp_iff₂,shape_rev]
 simp only [e]
theorem facF_nodup {B:Mats}:∀ (n k:Nat),(facF B k n).Nodup
 | 0,_ => List.nodup_nil
 | n + 1,k => by
  rw [facF,List.nodup_append]
  refine ⟨nodup_map (qcL_nodup _) (fun a _ b _ e => by injection e),facF_nodup n (k + 1),fun a ha b hb e => ?_⟩
  subst e
  obtain ⟨y,-,rfl⟩:=List.mem_map.1 ha
  have:=((facF_mem B n (k + 1) _).1 hb).1
  dsimp only at this
  omega
theorem mirror_len {nts:Nat} {B C:Mats} (wB:∀ k,WdO (B k)) (wC:∀ k,WdO (C k)) (h:∀ k,k < nts→∀ i j,bitO (C k) j i = bitO (B k) i j):(facL C nts).length = (facL B nts).length:=by
 have mB:=@facL_mem B nts (fun k _ => (wB k).old)
 have mC:=@facL_mem C nts (fun k _ => (wC k).old)
 have e:(facL C nts).length = ((facL B nts).map (fun x => (x.1,x.2.2,x.2.1))).length:=by
  refine len_same (facF_nodup nts 0) (nodup_map (facF_nodup nts 0) (fun a _ b _ e => ?_)) (fun y => ?_)
  ·obtain ⟨a1,a2,a3⟩:=a
   obtain ⟨b1,b2,b3⟩:=b
   simp only [Prod.mk.injEq] at e
   obtain ⟨rfl,rfl,rfl⟩:=e
   rfl
  ·obtain ⟨k,i,j⟩:=y
   show (k,i,j) ∈ facL C nts ↔ _
   rw [mC,List.mem_map]
   constructor
   ·rintro ⟨h1,h2,h3,h4⟩
    exact ⟨(k,j,i),mB.2 ⟨h1,h3,h2,by rw [← h k h1 j i];exact h4⟩,rfl⟩
   ·rintro ⟨⟨a,b,c⟩,hm,e⟩
    simp only [Prod.mk.injEq] at e
    obtain ⟨rfl,rfl,rfl⟩:=e
    obtain ⟨h1,h2,h3,h4⟩:=mB.1 hm
    exact ⟨h1,h3,h2,by rw [h _ h1];exact h4⟩
 rw [e,List.length_map]
theorem mirror_bits {nts:Nat} {B C:Mats} {PV PV':List Pv} {N:List Txt} {E:List Ed} {labels:List Txt} (h:PV'.map (·.pr) = (PV.map (·.pr)).map Pr.mirror)
  (hB:∀ k,k < nts→∀ i j,bitO (B k) i j = true ↔ DerP (PV.map (·.pr)) (ElG ⟨N,E⟩ labels) N.length (k:Int) i j) (hC:∀ k,k < nts→∀ i j,bitO (C k) i j = true ↔ DerP (PV'.map (·.pr)) (ElG ⟨N,E.map revE⟩ labels) N.length (k:Int) i j) :
  ∀ k,k < nts→∀ i j,bitO (C k) j i = bitO (B k) i j:=fun k hk i j => by
 rw [Bool.eq_iff_iff,hC k hk j i,hB k hk i j,h,elg_rev]
 exact der_mirror
theorem mirror_has {nts:Nat} {B C:Mats} {n:Nat} {PV:List Pv} {N:List Txt} {E:List Ed} {labels:List Txt} (hn:N.length = n) (wB:∀ k,WdO (B k)) (h:∀ k,k < nts→∀ i j,bitO (C k) j i = bitO (B k) i j)
  (hB:∀ k,k < nts→∀ i j,bitO (B k) i j = true ↔ DerP (PV.map (·.pr)) (ElG ⟨N,E⟩ labels) N.length (k:Int) i j) {k i j:Nat} (hm:(k,i,j) ∈ facL B nts):hasV n nts C (k:Int) (j:Int) (i:Int) = .tuple #[.bool true,.int .i64 0]:=by
 obtain ⟨hk,-,-,hb⟩:=(facL_mem (fun k _ => (wB k).old)).1 hm
 have hlt:=((hB k hk i j).1 hb).lt (fun _ _ _ he => he.lt)
 unfold hasV
 rw [if_pos (by omega),Int.toNat_natCast,Int.toNat_natCast,Int.toNat_natCast,h k hk i j,hb]
end Go.Proofs.YtddffnonlmfhdaaGreatDoor
namespace Go.Proofs.YtddffnonlmfhdaaGreatDoor
open Go.RowKit Go.Shelf
theorem syCells_app (l m:List Sy):syCells (l ++ m) = syCells l ++ syCells m:=by simp [syCells]
theorem one_sy (l:List Sy):∀ u ∈ syCells l,u.oneCell' = true:=by
 intro u hu
 obtain ⟨v,-,hu⟩:=List.mem_flatMap.1 hu
 simp [Sy.cells] at hu
 rcases hu with rfl | rfl <;> rfl
theorem info_sym:(Tryz.prog.info? 96).map (fun i => (i.zero,i.size,i.bytes)) = some (some (.agg #[.bool false,.int .i64 0]),2,16):=by kernel_rfl
theorem RowR.sym {w:World} {A:Option Addr} {l:List Sy} (h:RowR w A (syCells l)) {k:Nat} {s:Sy} (hk:l[k]? = some s) :
  ∃ b o,A = some ⟨b,o,none⟩∧w.cell? ⟨b,o + k * 2,none⟩ = some (.bool s.lab)∧w.cell? ⟨b,o + k * 2 + 1,none⟩ = some (.int .i64 s.at_):=by
 have hg:=fun j (hj:j < 2) => flat_get Sy.cells 2 (fun _ => rfl) l k j s hk hj
 obtain ⟨b,o,rfl,h0⟩:=h _ _ (hg 0 (by omega))
 obtain ⟨b1,o1,e1,h1⟩:=h _ _ (hg 1 (by omega))
 injection e1 with e1;injection e1 with e1 e1'
 subst e1;subst e1'
 exact ⟨_,_,rfl,h0,h1⟩
structure PrO (W:World) (B0 g:Nat) (hd:Int) (S:List Sy) (n:Nat) (A:Option Addr) (c:Nat):Prop where
 b:Blk W g 71 #[.int .i64 hd,.slice A n c]
 own:W.ownsRow B0 96 2 (.slice A n c) n (syCells S)
 ne:(Value.slice A n c).ownBlock ≠ some g
 len:S.length = n
 g0:B0 ≤ g
theorem PrO.below {W V:World} {B0 g n c:Nat} {hd:Int} {S:List Sy} {A:Option Addr} (h:PrO W B0 g hd S n A c) (hb:Below W.heap.size W V):PrO V B0 g hd S n A c:=
 ⟨h.b.upd (Upd.of_below hb (fun _ => False)) id,ownsRow_upd h.own (Upd.of_below hb (fun _ => False)) (fun _ _ => id),h.ne,h.len,h.g0⟩
theorem PrO.app {W:World} {B0 g n c:Nat} {hd:Int} {S:List Sy} {A:Option Addr} (h:PrO W B0 g hd S n A c) (s:Sy) (R:Option Addr) (d:Nat) (hr:RowR W R (syCells [s])) (hl:(n + 1) * 16 ≤ 140737488355328) (hB:B0 ≤ W.heap.size) :
  ∃ A' c' W1,(Builtin.append_ #[69,69] 69 #[.slice A n c,.slice R 1 d]).run Tryz.prog W = .ok (.slice A' (n + 1) c') W1∧Blk W1 g 71 #[.int .i64 hd,.slice A n c] ∧
   PrO (W1.setCell ⟨g,1,none⟩ (.slice A' (n + 1) c')) B0 g hd (S ++ [s]) (n + 1) A' c'∧Below B0 W (W1.setCell ⟨g,1,none⟩ (.slice A' (n + 1) c'))∧Below B0 W W1:=by
 obtain ⟨A',c',W1,happ,own',up,pl⟩:=append_row2 W B0 69 96 2 16 _ Tryz.underlying69 info_sym rfl (by decide) (by decide) A n c _ h.own R 1 d (syCells [s]) hr rfl (one_sy [s]) hl hB
 have kb:=h.b.upd up h.ne
 have hne':(Value.slice A' (n + 1) c').ownBlock ≠ some g:=by
  intro e
  rcases pl g e with h1 | h1
  ·exact h.ne h1
  ·have:=h.b.lt;omega
 have hb1:Below B0 W W1:=up.below (fun q _ hq => (h.own.lt q hq).1) hB
 have us:Upd (fun q => q = g) W1 (W1.setCell ⟨g,1,none⟩ (.slice A' (n + 1) c')):=(Upd.refl (fun q => q = g) W1).setCell (p:=⟨g,1,none⟩) (.inl rfl) _
 refine ⟨A',c',W1,happ,kb,⟨kb.set 1 _,?_,hne',by rw [List.length_append,h.len];rfl,h.g0⟩,hb1.setCell h.g0 _,hb1⟩
 have:=ownsRow_upd own' us (fun k hk e => hne' (by rw [hk,e]))
 rw [syCells_app]
 exact this
structure OrM (W0 W:World) (nts:Int) (PV:List Pv) (L:List Pv) (t:Nat) (A:Option Addr) (c:Nat):Prop where
 o:OrO W W0.heap.size W0.heap.size nts L t A c
 pr:L.map (·.pr) = ((PV.take t).map (·.pr)).map Pr.mirror
 bd:∀ v ∈ L,RowR W v.adr (syCells v.pr.body)∧∀ b o s,v.adr = some ⟨b,o,s⟩→b < W.heap.size∧b ≠ W0.heap.size∧(Value.slice A t c).ownBlock ≠ some b
 bl:Below W0.heap.size W0 W
theorem OrM.below {W0 W V:World} {nts:Int} {PV L:List Pv} {t c:Nat} {A:Option Addr} (h:OrM W0 W nts PV L t A c) (hb:Below W.heap.size W V):OrM W0 V nts PV L t A c:=
 ⟨h.o.below hb,h.pr,fun v hv => ⟨(h.bd v hv).1.below3 hb,fun b o s e => ⟨Nat.lt_of_lt_of_le ((h.bd v hv).2 b o s e).1 hb.size,((h.bd v hv).2 b o s e).2⟩⟩,h.bl.trans (hb.mono h.bl.size)⟩
theorem OrM.push {W0 W:World} {nts:Int} {PV L:List Pv} {t c:Nat} {A:Option Addr} (h:OrM W0 W nts PV L t A c) {y:Pv} (hy:PV[t]? = some y) (v:Pv) (hv:v.pr = y.pr.mirror) (ha:∀ b o s,v.adr = some ⟨b,o,s⟩→b ≠ W0.heap.size∧(Value.slice A t c).ownBlock ≠ some b)
  (hvr:RowR W v.adr (syCells v.pr.body)) (hlt:∀ b o s,v.adr = some ⟨b,o,s⟩→b < W.heap.size) (R:Option Addr) (d:Nat) (hr:RowR W R (pvCells [v])) (hl:(t + 1) * 32 ≤ 140737488355328) :
  ∃ A' c' W1,(Builtin.append_ #[48,48] 48 #[.slice A t c,.slice R 1 d]).run Tryz.prog W = .ok (.slice A' (t + 1) c') W1∧Blk W1 W0.heap.size 50 #[.int .i64 nts,.slice A t c] ∧
   OrM W0 (W1.setCell ⟨W0.heap.size,1,none⟩ (.slice A' (t + 1) c')) nts PV (L ++ [v]) (t + 1) A' c':=by
 obtain ⟨A',c',W1,happ,own',up,pl⟩:=append_row2 W W0.heap.size 48 71 2 32 _ Tryz.underlying48 info_prod rfl (by decide) (by decide) A t c _ h.o.own R 1 d (pvCells [v]) hr rfl (one_pv [v]) hl h.bl.size
 have kb:=h.o.b.upd up h.o.ne
 have hne':(Value.slice A' (t + 1) c').ownBlock ≠ some W0.heap.size:=by
  intro e
  rcases pl _ e with h1 | h1
  ·exact h.o.ne h1
  ·have:=h.o.b.lt;omega
 have us:Upd (fun q => q = W0.heap.size) W1 (W1.setCell ⟨W0.heap.size,1,none⟩ (.slice A' (t + 1) c')):=(Upd.refl (fun q => q = W0.heap.size) W1).setCell (p:=⟨W0.heap.size,1,none⟩) (.inl rfl) _
 have ua:=(up.mono (F':=fun q => q = W0.heap.size ∨ (Value.slice A t c).ownBlock = some q) (fun i _ h => .inr h)).trans us (fun i h => .inl (.inl h))
 have hb1:Below W0.heap.size W W1:=up.below (fun q _ hq => (h.o.own.lt q hq).1) h.bl.size
 have keep:∀ z:Pv,RowR W z.adr (syCells z.pr.body)→(∀ b o s,z.adr = some ⟨b,o,s⟩→b < W.heap.size∧b ≠ W0.heap.size∧(Value.slice A t c).ownBlock ≠ some b) →
   RowR (W1.setCell ⟨W0.heap.size,1,none⟩ (.slice A' (t + 1) c')) z.adr (syCells z.pr.body)∧∀ b o s,z.adr = some ⟨b,o,s⟩→b < (W1.setCell ⟨W0.heap.size,1,none⟩ (.slice A' (t + 1) c')).heap.size∧b ≠ W0.heap.size∧(Value.slice A' (t + 1) c').ownBlock ≠ some b:=fun z h1 h2 => by
  refine ⟨h1.upd ua (fun b o s e hf => ?_),fun b o s e => ⟨Nat.lt_of_lt_of_le (h2 b o s e).1 ua.size,(h2 b o s e).2.1,fun ho => ?_⟩⟩
  ·rcases hf with hf | hf
   ·exact (h2 b o s e).2.1 hf
   ·exact (h2 b o s e).2.2 hf
  ·rcases pl b ho with h3 | h3
   ·exact (h2 b o s e).2.2 h3
   ·have:=(h2 b o s e).1;omega
 refine ⟨A',c',W1,happ,kb,⟨⟨kb.set 1 _,?_,hne',by rw [List.length_append,h.o.len];rfl,h.o.g0⟩,?_,fun z hz => ?_,h.bl.trans (hb1.setCell (Nat.le_refl _) _)⟩⟩
 ·have:=ownsRow_upd own' us (fun k hk e => hne' (by rw [hk,e]))
  rw [show pvCells (L ++ [v]) = pvCells L ++ pvCells [v] by simp [pvCells]]
  exact this
 ·rw [List.map_append,h.pr,List.take_add_one,hy,Option.toList_some,List.map_append,List.map_append,List.map_cons,List.map_nil,List.map_cons,List.map_nil,List.map_cons,List.map_nil,hv]
 ·rcases List.mem_append.1 hz with hz | hz
  ·exact keep z (h.bd z hz).1 (h.bd z hz).2
  ·rw [List.mem_singleton] at hz
   subst hz
   exact keep z hvr (fun b o s e => ⟨hlt b o s e,ha b o s e⟩)
structure MiU (V:World) (z:Nat) (nts:Int) (PA:Option Addr) (m pc:Nat) (PV:List Pv) (LA:Option Addr) (labels:List Txt) (A:Option Addr) (c:Nat) (B:Option Addr) (d:Nat) (N:List Txt) (E:List Ed):Prop where
 k3:Blk V z 50 #[.int .i64 nts,.slice PA m pc]
 k5:Blk V (z + 1) 34 #[.slice A N.length c,.slice B E.length d]
 k6:Blk V (z + 2) 4 #[.bool false]
 pv:PvR V PA PV
 lab:RowR V LA (txtCells labels)
 ed:ForG V A c B d N E
 tab:TabW V
theorem MiU.upd {V W:World} {z:Nat} {nts:Int} {PA:Option Addr} {m pc:Nat} {PV:List Pv} {LA:Option Addr} {labels:List Txt} {A:Option Addr} {c:Nat} {B:Option Addr} {d:Nat} {N:List Txt} {E:List Ed}
  (h:MiU V z nts PA m pc PV LA labels A c B d N E) (hb:Below V.heap.size V W):MiU W z nts PA m pc PV LA labels A c B d N E:=by
 have hu:=Upd.of_below hb (fun _ => False)
 exact ⟨h.k3.upd hu id,h.k5.upd hu id,h.k6.upd hu id,h.pv.below hb,h.lab.below hb,h.ed.below hb,h.tab.upd hu h.tab.lt id⟩
theorem miNew {V:World} {z:Nat} {nts:Int} {PA:Option Addr} {m pc:Nat} {PV:List Pv} {LA:Option Addr} {labels:List Txt} {A:Option Addr} {c:Nat} {B:Option Addr} {d:Nat} {N:List Txt} {E:List Ed}
  (h:MiU V z nts PA m pc PV LA labels A c B d N E) (QA:Option Addr) (qc:Nat) (QV:List Pv) (hQ:PvR V QA QV) (cl:Nat) (Fg:Nat→Prop) (pg:Nat) (G:Gr) (hG:GrS V Fg pg G) (ok:GOk G) :
  Calls Tryz.prog 17 #[.agg #[.int .i64 nts,.slice QA QV.length qc],.slice LA labels.length cl,.pointer (some ⟨pg,0,none⟩)] V (fun e W => ∃ v c,e = .returned (.tuple #[v,.int .i64 c])∧NwC V W nts QV labels G v c):=
 (anew_any V nts QA qc QV hQ LA cl labels h.lab Fg pg G hG ok h.tab h.tab.lt).mono (fun _ _ h => nwC_of h)
end Go.Proofs.YtddffnonlmfhdaaGreatDoor
namespace Go.Proofs.YtddffnonlmfhdaaGreatDoor
open Go.RowKit Go.Shelf
attribute [local go_sem] Oper.semAt_some
theorem take_ok {N:List Txt} {E:List Ed} (hc:checkI N E = 0) (t:Nat):GOk ⟨N.take t,[]⟩:=
 ⟨(gok_of hc).nd.sublist (List.take_sublist _ _),List.nodup_nil,fun x hx => (by cases hx),ofI_sub (N:=N) (E:=E) (fun x hx => .inl (List.mem_of_mem_take hx)) (fun _ hx => by cases hx) (gok_of hc).may⟩
theorem amirror_any (w:World) (hT:TabW w) (nts:Int) (PA:Option Addr) (pc:Nat) (PV:List Pv) (hP:PvR w PA PV) (hfit:∀ v ∈ PV,v.pr.body.length * 16 ≤ 140737488355328) (LA:Option Addr) (cl:Nat) (labels:List Txt) (hlab:RowR w LA (txtCells labels)) (A:Option Addr) (c:Nat) (B:Option Addr) (d:Nat) (N:List Txt) (E:List Ed) (hE:ForG w A c B d N E) :
  Calls Tryz.prog 8 #[.agg #[.int .i64 nts,.slice PA PV.length pc],.slice LA labels.length cl,twoV A N.length c B E.length d] w (Sam w (.bool true)):=by
 obtain ⟨m,hm⟩:∃ m,PV.length = m:=⟨_,rfl⟩
 rw [hm]
 have b0:Below w.heap.size w (((w.alloc (.cells #[.int .i64 nts,.slice PA m pc] 50)).alloc (.cells #[.slice A N.length c,.slice B E.length d] 34)).alloc (.cells #[.bool false] 4)):=by (repeat (first | exact Below.refl _ _ | apply Below.drew | refine Below.alloc ?_ (by first | exact Nat.le_refl _ | (simp;done) | (simp;omega)) _ | refine Below.setCell ?_ (by first | exact Nat.le_refl _ | (simp;done) | (simp;omega)) _))
 have k3:=((Blk.new w 50 #[.int .i64 nts,.slice PA m pc]).alloc (.cells #[.slice A N.length c,.slice B E.length d] 34)).alloc (.cells #[.bool false] 4)
 have k5:=(Blk.new (w.alloc (.cells #[.int .i64 nts,.slice PA m pc] 50)) 34 #[.slice A N.length c,.slice B E.length d]).alloc (.cells #[.bool false] 4)
 have k6:=Blk.new ((w.alloc (.cells #[.int .i64 nts,.slice PA m pc] 50)).alloc (.cells #[.slice A N.length c,.slice B E.length d] 34)) 4 #[.bool false]
 simp only [World.size_alloc] at k5 k6
 have HU:=Lib.hid (show MiU _ w.heap.size nts PA m pc PV LA labels A c B d N E from ⟨k3,k5,k6,hP.below b0,hlab.below b0,hE.below b0,hT.upd (Upd.of_below b0 (fun _ => False)) hT.lt id⟩)
 have HB0:=Lib.hid b0
 have HM:=Lib.hid (And.intro hm hfit)
 clear b0 k3 k5 k6 hP hlab hE hT hm hfit
 unfold twoV
 refine (callsIn_wide (n:=1)).1 ?_
 refine callsIn_of_wp_marks Tryz.func8 rfl trivial ?_ rfl
 simp only [Tryz.ntmps8,List.size_toArray,List.length_cons,List.length_nil,Nat.reduceAdd,Nat.reduceSub,Array.replicate_succ,Array.replicate_zero,List.push_toArray,List.append_toArray,List.nil_append,List.cons_append]
 refine wpIn_wide.2 ?_
 go_upto_region 1 with (fail)
 generalize ((w.alloc (.cells #[.int .i64 nts,.slice PA m pc] 50)).alloc (.cells #[.slice A N.length c,.slice B E.length d] 34)).alloc (.cells #[.bool false] 4) = W0 at HU HB0 ⊢
 have SAY:=Lib.hid (show ∀ V,Below W0.heap.size W0 V→Calls Tryz.prog 22 #[] V (fun e V' => e = .returned (.bool true)∧V'.cell? ⟨w.heap.size + 2,0,none⟩ = some (.bool false)∧V'.frozen? ⟨w.heap.size + 2,0,none⟩ = false∧Hid ((V'.setCell ⟨w.heap.size + 2,0,none⟩ (.bool true)).cell? ⟨w.heap.size + 2,0,none⟩ = some (.bool true)∧Below w.heap.size w (V'.setCell ⟨w.heap.size + 2,0,none⟩ (.bool true)))) from fun V hb => by
  have h:=HU.out.upd hb
  refine (aawake_any V h.tab h.tab.lt).mono ?_
  rintro e V' ⟨rfl,b⟩
  have h':=h.upd b
  have hbw:=(HB0.out.trans (hb.mono HB0.out.size)).trans (b.mono (HB0.out.trans (hb.mono HB0.out.size)).size)
  exact ⟨rfl,h'.k6.cell 0,h'.k6.frozen 0,Lib.hid ⟨(h'.k6.set 0 (.bool true)).cell 0,hbw.setCell (p:=⟨w.heap.size + 2,0,none⟩) (by show w.heap.size ≤ w.heap.size + 2;omega) _⟩⟩)
 have q0:W0.cell? ⟨w.heap.size,0,none⟩ = some (.int .i64 nts):=HU.out.k3.cell 0
 have q1:W0.cell? ⟨w.heap.size,1,none⟩ = some (.slice PA m pc):=HU.out.k3.cell 1
 by_cases hbig:60 < m ∨ 40 < nts
 ·have haw:=SAY.out W0 (Below.refl _ _)
  by_cases h1:60 < m
  ·have h1I:(60:Int) < (m:Int):=by omega
   clear hbig
   go_wp2_with fail
   refine haw.mono ?_
   rintro e V ⟨rfl,z0,z1,FIN⟩
   go_wp2
   generalize V.setCell ⟨w.heap.size + 2,0,none⟩ (.bool true) = V9 at FIN ⊢
   refine postM_ret (v:=.bool true) (by simp [results,Tryz.f8,go_sem,FIN.out.1]) rfl ⟨rfl,FIN.out.2⟩
  ·have h2:40 < nts:=by omega
   have h1I:¬ (60:Int) < (m:Int):=by omega
   clear hbig
   go_wp2_with fail
   refine haw.mono ?_
   rintro e V ⟨rfl,z0,z1,FIN⟩
   go_wp2
   generalize V.setCell ⟨w.heap.size + 2,0,none⟩ (.bool true) = V9 at FIN ⊢
   refine postM_ret (v:=.bool true) (by simp [results,Tryz.f8,go_sem,FIN.out.1]) rfl ⟨rfl,FIN.out.2⟩
 ·have h1I:¬ (60:Int) < (m:Int):=by omega
  have h2I:¬ 40 < nts:=by omega
  have hm60:m ≤ 60:=by omega
  have hn40:nts ≤ 40:=by omega
  clear hbig
  have q70:W0.cell? ⟨w.heap.size + 1,0,none⟩ = some (.slice A N.length c):=HU.out.k5.cell 0
  have q71:W0.cell? ⟨w.heap.size + 1,1,none⟩ = some (.slice B E.length d):=HU.out.k5.cell 1
  have hof:=ofg_any W0 A c B d N E HU.out.ed
  unfold twoV at hof
  obtain ⟨ci,hci⟩:∃ ci,checkI N E = ci:=⟨_,rfl⟩
  have HC:=Lib.hid hci
  clear hci
  go_upto_region 3 with (fail)
  go_wp2_with fail
  refine hof.mono ?_
  clear hof q70 q71
  rintro e W1 hq
  obtain ⟨v,rfl,hb1,hq⟩:∃ v,e = .returned (.tuple #[v,.int .i64 ci])∧Below W0.heap.size W0 W1∧(ci ≠ 0 ∨ (ci = 0∧∃ p,v = .pointer (some ⟨p,0,none⟩)∧Fresh W0.heap.size p ⟨N,E⟩ W1)):=by
   rcases hq with ⟨h1,h2,h3⟩ | ⟨h1,p,h2,h3,h4⟩
   ·rw [HC.out] at h1 h2
    exact ⟨_,h2,h3,.inl h1⟩
   ·rw [HC.out] at h1
    subst h1
    exact ⟨_,h2,h4,.inr ⟨rfl,p,rfl,h3⟩⟩
  have HB1:=Lib.hid hb1
  clear hb1
  rcases hq with hne | ⟨h0,pg,rfl,F1,g1,n1⟩
  ·have haw:=SAY.out W1 HB1.out
   have hne2:(ci == 0) = false:=by simpa using hne
   clear hne
   go_wp2_with fail
   refine haw.mono ?_
   rintro e V ⟨rfl,z0,z1,FIN⟩
   go_wp2
   generalize V.setCell ⟨w.heap.size + 2,0,none⟩ (.bool true) = V9 at FIN ⊢
   refine postM_ret (v:=.bool true) (by simp [results,Tryz.f8,go_sem,FIN.out.1]) rfl ⟨rfl,FIN.out.2⟩
  have hc0:=HC.out.trans h0
  have okG:GOk ⟨N,E⟩:=gok_of hc0
  subst h0
  have HG:=Lib.hid (And.intro g1 (And.intro n1 (And.intro okG hc0)))
  clear g1 n1 okG hc0 HC q0 q1
  go_wp2_with fail
  refine (new_gr W1).mono ?_
  rintro e W2 ⟨ph,rfl,hfr,b2⟩
  have HF2:=Lib.hid (show Fresh W1.heap.size ph ⟨N.take 0,[]⟩ W2 from hfr)
  have HB2:=Lib.hid b2
  clear hfr b2
  dsimp only [id]
  obtain ⟨n,hn⟩:∃ n,N.length = n:=⟨_,rfl⟩
  obtain ⟨l,hl⟩:∃ l,E.length = l:=⟨_,rfl⟩
  have hn32:n ≤ 32:=by rw [← hn];exact HG.out.2.2.1.few.1
  have hl256:l ≤ 256:=by rw [← hl];exact HG.out.2.2.1.few.2
  have HN:=Lib.hid (And.intro hn hl)
  clear hn hl
  go_wp2
  go_loopw [10] (fun iv wr => ∃ t:Nat,t ≤ n∧iv = .int .i64 (t:Int)∧Hid (Fresh W1.heap.size ph ⟨N.take t,[]⟩ wr)∧Hid (Below W1.heap.size W1 wr)) (fun iv _ => n - (intOf iv).toNat)
  case atStart => exact ⟨0,Nat.zero_le _,rfl,HF2,HB2⟩
  case round =>
   obtain ⟨t,ht,rfl,hf,hbw⟩:=hrel
   have hu:=HU.out.upd (HB1.out.trans (hbw.out.mono HB1.out.size))
   have q5:wr.cell? ⟨w.heap.size + 1,0,none⟩ = some (.slice A n c):=by have:=hu.k5.cell 0;rw [HN.out.1] at this;exact this
   by_cases hlt:t < n
   ·have hltI:(t:Int) < (n:Int):=by omega
    have hkw:IntKind.i64.wrap ((t:Int) + 1) = (t:Int) + 1:=IntWalk.i64_in _ (by omega)
    obtain ⟨s,hs⟩:∃ s,N[t]? = some s:=⟨N[t]'(by rw [HN.out.1];exact hlt),List.getElem?_eq_getElem _⟩
    obtain ⟨nb,no,rfl,hc⟩:=hu.ed.rn.txt hs
    obtain ⟨Fh,gh,nh⟩:=hf.out
    have hadd:=addNode_gr wr Fh ph ⟨N.take t,[]⟩ gh (take_ok HG.out.2.2.2 t) s (hu.ed.fit.tn s (List.mem_of_getElem? hs))
    have HA:=Lib.hid (And.intro hs (And.intro nh hbw.out))
    clear hs gh hf hbw hu
    go_wp2_with fail
    refine hadd.mono ?_
    clear hadd q5 hc
    rintro e V ⟨rfl,F2,g2,u2,n2⟩
    obtain ⟨h1,h2⟩:=Fresh.step HA.out.2.1 HA.out.2.2.size ⟨F2,g2,u2,n2⟩
    rw [node_step HG.out.2.2.2 HA.out.1] at h1
    have HV:=Lib.hid (And.intro h1 (HA.out.2.2.trans h2))
    clear h1 h2 g2 u2 n2
    go_wp2
    go_roundw
    case rel => exact ⟨t + 1,by omega,by go_num,Lib.hid HV.out.1,Lib.hid HV.out.2⟩
    case measure => simp [intOf];omega
   ·obtain rfl:t = n:=by omega
    have etk:N.take t = N:=by rw [← HN.out.1,List.take_length]
    rw [etk] at hf
    have okN:=take_ok HG.out.2.2.2 t
    rw [etk] at okN
    have HOK:=Lib.hid okN
    clear hu etk okN
    go_wp2
    clear q5
    go_loopw [11] (fun iv wr => ∃ u:Nat,u ≤ l∧iv = .int .i64 (u:Int)∧Hid (Fresh W1.heap.size ph (grm ⟨N,[]⟩ (E.take u)) wr)∧Hid (Below W1.heap.size W1 wr)) (fun iv _ => l - (intOf iv).toNat)
    case atStart => exact ⟨0,Nat.zero_le _,rfl,hf,hbw⟩
    case round =>
     clear hf hbw
     obtain ⟨u,hu,rfl,hf,hbw⟩:=hrel
     have b01:=HB1.out.trans (hbw.out.mono HB1.out.size)
     have hU:=HU.out.upd b01
     have q5:wr.cell? ⟨w.heap.size + 1,1,none⟩ = some (.slice B l d):=by have:=hU.k5.cell 1;rw [HN.out.2] at this;exact this
     by_cases hlt:u < l
     ·have hltI:(u:Int) < (l:Int):=by omega
      have hkw:IntKind.i64.wrap ((u:Int) + 1) = (u:Int) + 1:=IntWalk.i64_in _ (by omega)
      obtain ⟨x,hx⟩:∃ x,E[u]? = some x:=⟨E[u]'(by rw [HN.out.2];exact hlt),List.getElem?_eq_getElem _⟩
      obtain ⟨xb,xo,rfl,-,-,-⟩:=hU.ed.re.ed hx
      have SR:=Lib.hid (show ∀ V,Below W0.heap.size W0 V→(fun V => V.cell? ⟨w.heap.size + 1,1,none⟩ = some (.slice (some ⟨xb,xo,none⟩) l d)∧V.cell? ⟨xb,xo + u * 3,none⟩ = some (.string x.fr)∧V.cell? ⟨xb,xo + u * 3 + 1,none⟩ = some (.string x.lb)∧V.cell? ⟨xb,xo + u * 3 + 2,none⟩ = some (.string x.to)) V from fun V hb => by
       have hU:=HU.out.upd hb
       obtain ⟨b1,o1,e,c0,c1,c2⟩:=hU.ed.re.ed hx
       injection e with e
       injection e with e1 e2
       subst e1
       subst e2
       have:=hU.k5.cell 1
       rw [HN.out.2] at this
       exact ⟨this,c0,c1,c2⟩)
      have hS:=SR.out wr.drew b01.drew
      obtain ⟨Fh,gh,nh⟩:=hf.out
      have hkx:EdOk (revE x):=by
       have:=hU.ed.fit.te x (List.mem_of_getElem? hx)
       exact ⟨this.2.2,this.2.1,this.1⟩
      have hadd:=addEdge_gr wr.drew Fh ph (grm ⟨N,[]⟩ (E.take u)) (gh.below ((Below.refl _ _).drew)) (grm_ok _ _ HOK.out) (revE x) hkx
      unfold revE at hadd
      dsimp only at hadd
      have HA:=Lib.hid (And.intro hx (And.intro nh hbw.out))
      clear hx gh nh hf hbw hU hkx b01
      go_upto_region 14 with (fail)
      refine wp_noPan2 ?_
      refine wp_region_ord (fun V => V.cell? ⟨w.heap.size + 1,1,none⟩ = some (.slice (some ⟨xb,xo,none⟩) l d)∧V.cell? ⟨xb,xo + u * 3,none⟩ = some (.string x.fr)∧V.cell? ⟨xb,xo + u * 3 + 1,none⟩ = some (.string x.lb)∧V.cell? ⟨xb,xo + u * 3 + 2,none⟩ = some (.string x.to)) 19 [(0,true),(1,true),(2,true),(3,true),(4,true),(5,true),(6,true),(7,true),(8,true),(9,true),(10,true),(11,true),(12,true),(13,true),(14,true),(15,true),(16,true),(17,true),(18,true),(19,false)] (by kernel_rfl) (by kernel_rfl) (fun _ _ _ _ _ h => h.elim) hS ?_
      clear hS SR
      iterate 19 (refine ord_takeA rfl ?_;(try simp only [Act.put,gA,gS,gZ,sA,sZ,sS]))
      refine ord_do rfl rfl (fun K hK => ?_)
      go_simp
      refine hadd.mono ?_
      clear hadd q5
      rintro e V ⟨rfl,F2,g2,u2,n2⟩
      refine hK _ _ (fun h => absurd rfl h) ?_
      clear hK K
      (try simp only [Act.put,gA,gS,gZ,sA,sZ,sS])
      refine ord_done ?_
      dsimp only [noPan2]
      obtain ⟨h1,h2⟩:=Fresh.step HA.out.2.1 (HA.out.2.2.drew.size) ⟨F2,g2,u2,n2⟩
      have h1:Fresh W1.heap.size ph (addEdge (grm ⟨N,[]⟩ (E.take u)) (revE x)).1 V:=h1
      rw [← grm_take HA.out.1] at h1
      have HV:=Lib.hid (And.intro h1 (HA.out.2.2.drew.trans h2))
      clear h1 h2 g2 u2 n2
      go_wp2
      go_roundw
      case rel => exact ⟨u + 1,by omega,by go_num,Lib.hid HV.out.1,Lib.hid HV.out.2⟩
      case measure => simp [intOf];omega
     ·obtain rfl:u = l:=by omega
      have etk:E.take u = E:=by rw [← HN.out.2,List.take_length]
      rw [etk] at hf
      obtain ⟨G2,hG2⟩:∃ G2,grm ⟨N,[]⟩ E = G2:=⟨_,rfl⟩
      have hlaw:=grm_law E ⟨N,[]⟩ (fun x hx => HG.out.2.2.1.ends x hx)
      have ok2:=grm_ok E _ HOK.out
      rw [hG2] at hlaw ok2 hf
      have hx256:G2.X.length ≤ 256:=ok2.few.2
      obtain ⟨l2,hl2⟩:∃ l2,G2.X.length = l2:=⟨_,rfl⟩
      have hlg:=len_gr wr F1 pg ⟨N,E⟩ (HG.out.1.below hbw.out)
      dsimp only at hlg
      rw [HN.out.1,HN.out.2] at hlg
      have HF:=Lib.hid (And.intro hf.out (And.intro hbw.out (And.intro hlaw (And.intro ok2 hl2))))
      clear hf hbw hlaw ok2 hl2 hG2 etk b01 hU
      go_wp2_with fail
      refine hlg.mono ?_
      clear hlg q5
      rintro e V3 ⟨rfl,b3⟩
      obtain ⟨Fh,gh,nh⟩:=HF.out.1.below b3
      have hlh:=len_gr V3 Fh ph G2 gh
      rw [HF.out.2.2.2.2] at hlh
      have HH:=Lib.hid (And.intro gh (And.intro nh (HF.out.2.1.trans (b3.mono HF.out.2.1.size))))
      clear gh nh b3
      go_wp2_with fail
      refine hlh.mono ?_
      clear hlh
      rintro e V4 ⟨rfl,b4⟩
      have HB4:=Lib.hid (And.intro (HH.out.2.2.trans (b4.mono HH.out.2.2.size)) (And.intro (HH.out.1.below b4) HH.out.2.1))
      clear b4
      have b04:=HB1.out.trans (HB4.out.1.mono HB1.out.size)
      by_cases hne:u = l2
      ·subst hne
       have hGe:G2 = ⟨N,E.map revE⟩:=by
        obtain ⟨a1,-,a3⟩:=HF.out.2.2.1
        have a4:=a3 (by rw [HF.out.2.2.2.2,HN.out.2];simp)
        obtain ⟨GN,GX⟩:=G2
        simp only [List.nil_append] at a4
        rw [a4]
        dsimp only at a1
        rw [a1]
       have HGe:=Lib.hid hGe
       clear hGe
       have hU:=HU.out.upd b04
       have q0:V4.cell? ⟨w.heap.size,0,none⟩ = some (.int .i64 nts):=hU.k3.cell 0
       have HB04:=Lib.hid b04
       clear hU b04
       go_upto_region 20 with (fail)
       clear q0
       have o5:OrO (V4.alloc (.cells #[.int .i64 nts,.slice none 0 0] 50)) V4.heap.size V4.heap.size nts [] 0 none 0:=⟨Blk.new V4 50 #[.int .i64 nts,.slice none 0 0],World.ownsRow_nil _ _ _ _,by simp [Value.ownBlock],rfl,Nat.le_refl _⟩
       have HM5:=Lib.hid (show OrM V4 (V4.alloc (.cells #[.int .i64 nts,.slice none 0 0] 50)) nts PV [] 0 none 0 from ⟨o5,rfl,fun v hv => (by cases hv),(Below.refl _ _).alloc (Nat.le_refl _) _⟩)
       clear o5
       generalize V4.alloc (.cells #[.int .i64 nts,.slice none 0 0] 50) = V5 at HM5 ⊢
       go_wp2
       go_loopw [17] (fun iv wr => ∃ (t:Nat) (L:List Pv) (A':Option Addr) (c':Nat),t ≤ m∧iv = .int .i64 (t:Int)∧Hid (OrM V4 wr nts PV L t A' c')) (fun iv _ => m - (intOf iv).toNat)
       case atStart => exact ⟨0,[],none,0,Nat.zero_le _,rfl,HM5⟩
       case round =>
        obtain ⟨Wt,hWt⟩:∃ Wt,Wt = wr:=⟨_,rfl⟩
        subst hWt
        obtain ⟨t,L,A',c',ht,rfl,ho⟩:=hrel
        have b0r:=HB04.out.trans (ho.out.bl.mono HB04.out.size)
        have hU:=HU.out.upd b0r
        have q1:Wt.cell? ⟨w.heap.size,1,none⟩ = some (.slice PA m pc):=hU.k3.cell 1
        by_cases htm:t < m
        ·have htI:(t:Int) < (m:Int):=by omega
         have hkw:IntKind.i64.wrap ((t:Int) + 1) = (t:Int) + 1:=IntWalk.i64_in _ (by omega)
         obtain ⟨y,hy⟩:∃ y,PV[t]? = some y:=⟨PV[t]'(by rw [HM.out.1];exact htm),List.getElem?_eq_getElem _⟩
         have hym:=List.mem_of_getElem? hy
         obtain ⟨gb,gof,rfl,y0,y1⟩:=hU.pv.1.pv hy
         obtain ⟨bl,hbl⟩:∃ bl,y.pr.body.length = bl:=⟨_,rfl⟩
         have hblf:=HM.out.2 y hym
         rw [hbl] at y1 hblf
         have hwb:IntKind.i64.wrap ((bl:Int) - 1) = (bl:Int) - 1:=IntWalk.i64_in _ (by omega)
         have HY:=Lib.hid (And.intro hy (And.intro hbl b0r))
         clear hy hbl hU b0r
         go_upto_region 24 with (fail)
         have p6:PrO (Wt.alloc (.cells #[.int .i64 y.pr.head,.slice none 0 0] 71)) Wt.heap.size Wt.heap.size y.pr.head [] 0 none 0:=⟨Blk.new Wt 71 #[.int .i64 y.pr.head,.slice none 0 0],World.ownsRow_nil _ _ _ _,by simp [Value.ownBlock],rfl,Nat.le_refl _⟩
         have b6:Below Wt.heap.size Wt (Wt.alloc (.cells #[.int .i64 y.pr.head,.slice none 0 0] 71)):=(Below.refl _ _).alloc (Nat.le_refl _) _
         have HP6:=Lib.hid (And.intro p6 b6)
         have q1':=cell_keep b6 q1
         have y1':=cell_keep b6 y1
         clear p6 b6 q1 y0 y1
         generalize Wt.alloc (.cells #[.int .i64 y.pr.head,.slice none 0 0] 71) = V6 at HP6 q1' y1' ⊢
         go_wp2
         clear q1' y1' hwb
         go_loopw [19] (fun iv wr => ∃ (k:Nat) (A2:Option Addr) (c2:Nat),k ≤ bl∧iv = .int .i64 ((bl:Int) - 1 - (k:Int))∧Hid (PrO wr Wt.heap.size Wt.heap.size y.pr.head (y.pr.body.reverse.take k) k A2 c2)∧Hid (Below Wt.heap.size Wt wr)) (fun iv _ => (intOf iv + 1).toNat)
         case atStart => exact ⟨0,none,0,Nat.zero_le _,by congr 1;omega,Lib.hid (by simpa using HP6.out.1),Lib.hid HP6.out.2⟩
         case round =>
          obtain ⟨k,A2,c2,hk,rfl,hp,hbq⟩:=hrel
          have b0q:=HY.out.2.2.trans (hbq.out.mono HY.out.2.2.size)
          by_cases hlt:k < bl
          ·obtain ⟨i,hi⟩:∃ i:Nat,(bl:Int) - 1 - (k:Int) = (i:Int):=⟨bl - 1 - k,by omega⟩
           have hiN:i = bl - 1 - k:=by omega
           have h0i:(0:Int) ≤ (i:Int):=by omega
           have hiI:(i:Int) < (bl:Int):=by omega
           have hwi:IntKind.i64.wrap ((i:Int) - 1) = (i:Int) - 1:=IntWalk.i64_in _ (by omega)
           obtain ⟨sy,hsy⟩:∃ x,y.pr.body[i]? = some x:=⟨y.pr.body[i]'(by rw [HY.out.2.1];omega),List.getElem?_eq_getElem _⟩
           have hry:y.pr.body.reverse[k]? = some sy:=by rw [List.getElem?_reverse (by rw [HY.out.2.1];exact hlt),HY.out.2.1,← hiN];exact hsy
           have htk:y.pr.body.reverse.take (k + 1) = y.pr.body.reverse.take k ++ [sy]:=by rw [List.take_add_one,hry];rfl
           obtain ⟨sb,so,had,-,-⟩:=((HU.out.upd b0q).pv.2 y hym).sym hsy
           have SR:=Lib.hid (show ∀ V,Below W0.heap.size W0 V→Blk V Wt.heap.size 71 #[.int .i64 y.pr.head,.slice A2 k c2]→(fun V => V.cell? ⟨Wt.heap.size,1,none⟩ = some (.slice A2 k c2)∧V.cell? ⟨w.heap.size,1,none⟩ = some (.slice (some ⟨gb,gof,none⟩) m pc)∧V.cell? ⟨gb,gof + t * 2 + 1,none⟩ = some (.slice (some ⟨sb,so,none⟩) bl y.cap)∧V.cell? ⟨sb,so + i * 2,none⟩ = some (.bool sy.lab)∧V.cell? ⟨sb,so + i * 2 + 1,none⟩ = some (.int .i64 sy.at_)) V from fun V hb hk => by
            have hU:=HU.out.upd hb
            obtain ⟨b1,o1,e,-,c1⟩:=hU.pv.1.pv HY.out.1
            injection e with e
            injection e with e1 e2
            subst e1
            subst e2
            obtain ⟨b2,o2,e,d0,d1⟩:=(hU.pv.2 y hym).sym hsy
            rw [had] at e c1
            injection e with e
            injection e with e1 e2
            subst e1
            subst e2
            rw [HY.out.2.1] at c1
            exact ⟨hk.cell 1,hU.k3.cell 1,c1,d0,d1⟩)
           have hbA:Below W0.heap.size W0 (wr.drew.alloc (.cells #[.bool sy.lab,.int .i64 sy.at_] 96)):=b0q.drew.alloc b0q.size _
           have hbA2:Below Wt.heap.size Wt (wr.drew.alloc (.cells #[.bool sy.lab,.int .i64 sy.at_] 96)):=hbq.out.drew.alloc hbq.out.size _
           have pA:PrO (wr.drew.alloc (.cells #[.bool sy.lab,.int .i64 sy.at_] 96)) Wt.heap.size Wt.heap.size y.pr.head (y.pr.body.reverse.take k) k A2 c2:=hp.out.below ((Below.refl _ _).drew.alloc (Nat.le_refl _) _)
           have hrow:RowR (wr.drew.alloc (.cells #[.bool sy.lab,.int .i64 sy.at_] 96)) (some ⟨wr.heap.size,0,none⟩) (syCells [sy]):=blk_row (Blk.new wr.drew 96 #[.bool sy.lab,.int .i64 sy.at_])
           obtain ⟨A9,c9,W9,happ,kb9,p9,hb9,hb9'⟩:=pA.app sy _ 1 hrow (by omega) hbA2.size
           rw [← htk] at p9
           have HN9:=Lib.hid (And.intro p9 (hbA2.trans (hb9.mono (Nat.le_refl _))))
           have hz0r:W0.heap.size ≤ Wt.heap.size:=HY.out.2.2.size
           have hS:=SR.out wr.drew b0q.drew hp.out.b
           have hS1:=SR.out _ hbA pA.b
           have hS2:=SR.out W9 (hbA.trans (hb9'.mono hz0r)) kb9
           have f9:=kb9.frozen 1
           have HI:=Lib.hid hi
           rw [hi]
           clear htk hry hsy had pA hrow p9 hb9 hb9' hbA hbA2 kb9 hi hiN b0q hp hbq hz0r
           go_upto_region 27 with (fail)
           refine wp_noPan2 ?_
           refine wp_region_ord (fun V => V.cell? ⟨Wt.heap.size,1,none⟩ = some (.slice A2 k c2)∧V.cell? ⟨w.heap.size,1,none⟩ = some (.slice (some ⟨gb,gof,none⟩) m pc)∧V.cell? ⟨gb,gof + t * 2 + 1,none⟩ = some (.slice (some ⟨sb,so,none⟩) bl y.cap)∧V.cell? ⟨sb,so + i * 2,none⟩ = some (.bool sy.lab)∧V.cell? ⟨sb,so + i * 2 + 1,none⟩ = some (.int .i64 sy.at_)) 14 [(0,true),(1,true),(2,true),(3,true),(4,true),(5,true),(6,true),(7,true),(8,true),(9,true),(10,true),(11,false),(12,false),(13,true),(14,false)] (by kernel_rfl) (by kernel_rfl) (fun _ _ _ _ _ h => h.elim) hS ?_
           clear hS SR
           iterate 11 (refine ord_takeA rfl ?_;(try simp only [Act.put,gA,gS,gZ,sA,sZ,sS]))
           refine ord_do rfl rfl (fun K hK => ?_)
           go_simp
           refine hK _ _ (fun _ => hS1) ?_
           clear hK K hS1
           (try simp only [Act.put,gA,gS,gZ,sA,sZ,sS])
           refine ord_do rfl rfl (fun K hK => ?_)
           refine do_append _ _ _ rfl rfl rfl happ ?_
           refine hK _ _ (fun _ => hS2) ?_
           obtain ⟨qW,-,-,-,-⟩:=hS2
           clear hK K happ
           (try simp only [Act.put,gA,gS,gZ,sA,sZ,sS])
           (refine ord_takeA rfl ?_;(try simp only [Act.put,gA,gS,gZ,sA,sZ,sS]))
           refine ord_do rfl rfl (fun K hK => ?_)
           go_simp
           refine hK _ _ (fun h => absurd rfl h) ?_
           clear hK K
           (try simp only [Act.put,gA,gS,gZ,sA,sZ,sS])
           refine ord_done ?_
           dsimp only [noPan2]
           clear qW f9
           go_wp2
           go_roundw
           case rel => exact ⟨k + 1,A9,c9,by omega,by have:=HI.out;congr 1;omega,Lib.hid HN9.out.1,Lib.hid HN9.out.2⟩
           case measure => simp [intOf] <;> omega
          ·obtain rfl:k = bl:=by omega
           have hz:(k:Int) - 1 - (k:Int) = -1:=by omega
           rw [hz]
           have etk:y.pr.body.reverse.take k = y.pr.body.reverse:=by rw [← HY.out.2.1,← List.length_reverse,List.take_length]
           have hp4:=hp.out
           rw [etk] at hp4
           have bA:Below wr.heap.size wr (wr.alloc (.cells #[.int .i64 y.pr.head,.slice A2 k c2] 71)):=(Below.refl _ _).alloc (Nat.le_refl _) _
           have hoA:=(ho.out.below hbq.out).below bA
           have hlr:y.pr.body.reverse.length = k:=by rw [List.length_reverse];exact HY.out.2.1
           have hrow:RowR (wr.alloc (.cells #[.int .i64 y.pr.head,.slice A2 k c2] 71)) (some ⟨wr.heap.size,0,none⟩) (pvCells [(⟨⟨y.pr.head,y.pr.body.reverse⟩,A2,c2⟩:Pv)]):=by
            show RowR _ _ [.int .i64 y.pr.head,.slice A2 y.pr.body.reverse.length c2]
            rw [hlr]
            exact blk_row (Blk.new wr 71 #[.int .i64 y.pr.head,.slice A2 k c2])
           have hown:∀ b o s,A2 = some ⟨b,o,s⟩→Wt.heap.size ≤ b∧b < wr.heap.size:=fun b o s e => hp4.own.lt b (by rw [e];rfl)
           obtain ⟨A9,c9,W9,happ,kb9,o9⟩:=hoA.push HY.out.1 (⟨⟨y.pr.head,y.pr.body.reverse⟩,A2,c2⟩:Pv) rfl (fun b o s e => by
             have h1:=hown b o s e
             have h2:=ho.out.o.b.lt
             refine ⟨by omega,fun ho' => ?_⟩
             have:=(ho.out.o.own.lt b ho').2
             omega) (RowR.of_own (hp4.below bA).own) (fun b o s e => by have:=hown b o s e;have:=bA.size;omega) _ 1 hrow (by omega)
           have q14:wr.cell? ⟨V4.heap.size,1,none⟩ = some (.slice A' t c'):=(ho.out.below hbq.out).o.b.cell 1
           have q18:wr.cell? ⟨Wt.heap.size,0,none⟩ = some (.int .i64 y.pr.head):=hp4.b.cell 0
           have q19:wr.cell? ⟨Wt.heap.size,1,none⟩ = some (.slice A2 k c2):=hp4.b.cell 1
           have g14:W9.cell? ⟨V4.heap.size,1,none⟩ = some (.slice A' t c'):=kb9.cell 1
           have f14:=kb9.frozen 1
           have HO9:=Lib.hid o9
           clear hz etk hp4 bA hoA hlr hrow hown kb9 o9 hp hbq ho b0q
           go_wp2_with (at_builtin;refine wpList_append_run rfl _ _ _ rfl rfl rfl happ ?_)
           clear q14 q18 q19 g14 f14 happ
           go_roundw
           case rel => exact ⟨t + 1,_,A9,c9,by omega,by go_num,HO9⟩
           case measure => simp [intOf];omega
        ·obtain rfl:t = m:=by omega
         have hpr:=ho.out.pr
         rw [show PV.take t = PV by rw [← HM.out.1,List.take_length]] at hpr
         have hbr:=ho.out.bl
         have q0:Wt.cell? ⟨w.heap.size,0,none⟩ = some (.int .i64 nts):=hU.k3.cell 0
         have hnew:=miNew hU PA pc PV hU.pv cl F1 pg ⟨N,E⟩ (HG.out.1.below (HB4.out.1.trans (hbr.mono HB4.out.1.size))) HG.out.2.2.1
         rw [HM.out.1] at hnew
         have HR:=Lib.hid (And.intro hpr (And.intro hbr b0r))
         clear hpr hbr hU b0r
         go_wp2_with fail
         refine hnew.mono ?_
         clear hnew q0 q1
         rintro e V7 ⟨va,ea,rfl,hN⟩
         have b07:=HR.out.2.2.trans (hN.1.mono HR.out.2.2.size)
         have hU:=HU.out.upd b07
         have ho7:=ho.out.below hN.1
         have q0:V7.cell? ⟨V4.heap.size,0,none⟩ = some (.int .i64 nts):=ho7.o.b.cell 0
         have q1:V7.cell? ⟨V4.heap.size,1,none⟩ = some (.slice A' t c'):=ho7.o.b.cell 1
         have hg7:=HB4.out.2.1.below ho7.bl
         rw [HGe.out] at hg7
         have ok2:=HF.out.2.2.2.1
         rw [HGe.out] at ok2
         have hnew:=miNew hU A' c' L ⟨RowR.of_own ho7.o.own,fun v hv => (ho7.bd v hv).1⟩ cl Fh ph ⟨N,E.map revE⟩ hg7 ok2
         rw [ho7.o.len] at hnew
         have HNa:=Lib.hid hN
         have HB7:=Lib.hid b07
         clear hN b07 hU ho7 hg7 ok2 ho
         go_wp2_with fail
         refine hnew.mono ?_
         clear hnew q0 q1
         rintro e V8 ⟨vb,eb,rfl,hN⟩
         have hach:achkI nts L labels = achkI nts PV labels:=achk_rev HR.out.1
         have b8:=Blk.new V8 53 #[vb]
         have b89:Below V8.heap.size V8 (V8.alloc (.cells #[vb] 53)):=(Below.refl _ _).alloc (Nat.le_refl _) _
         have b09:=HB7.out.trans ((hN.1.trans (b89.mono hN.1.size)).mono HB7.out.size)
         rcases HNa.out.2 with ⟨a1,rfl,rfl⟩ | ⟨a1,rfl,pa,Fa,Ba,rfl,ca,na,da,wa⟩
         ·rcases hN.2 with ⟨b1,rfl,rfl⟩ | ⟨b1,-⟩
          ·clear hN a1 b1 hach
           have haw:=SAY.out _ b09
           have q21:=b8.cell 0
           simp only [List.getElem?_toArray,List.getElem?_cons_zero] at q21
           clear b8 b89 b09
           go_wp2_with fail
           refine haw.mono ?_
           rintro e V ⟨rfl,z0,z1,FIN⟩
           clear q21
           go_wp2
           generalize V.setCell ⟨w.heap.size + 2,0,none⟩ (.bool true) = V9 at FIN ⊢
           refine postM_ret (v:=.bool true) (by simp [results,Tryz.f8,go_sem,FIN.out.1]) rfl ⟨rfl,FIN.out.2⟩
          ·rw [hach,a1] at b1
           cases b1
         ·rcases hN.2 with ⟨b1,-⟩ | ⟨b1,rfl,pb,Fb,Bb,rfl,cb,nb,db,wb⟩
          ·rw [hach,a1] at b1
           cases b1
          rcases achk_cases nts PV labels with a2 | ⟨-,-,hn1,-,-,-,-⟩
          ·rw [a1] at a2;cases a2
          obtain ⟨T,hT⟩:∃ T,nts.toNat = T:=⟨_,rfl⟩
          obtain ⟨side,hside⟩:∃ side,max 1 N.length = side:=⟨_,rfl⟩
          have hT1:1 ≤ T:=by omega
          have hT40:T ≤ 40:=by omega
          have hs1:1 ≤ side:=by omega
          obtain ⟨n,hnl⟩:∃ n,N.length = n:=⟨_,rfl⟩
          have hnf:n ≤ 32:=by rw [← hnl];exact HG.out.2.2.1.few.1
          have hs64:side ≤ 64:=by omega
          have hns:n ≤ side:=by omega
          dsimp only at ca cb
          rw [hT] at ca cb da db
          rw [hside] at ca cb
          rw [hnl] at ca cb
          have hbits:=mirror_bits HR.out.1 da db
          have hmlen:=mirror_len wa wb hbits
          have hhas:=fun (k i j:Nat) (hm:(k,i,j) ∈ facL Ba T) => mirror_has (n:=n) hnl wa hbits da hm
          have hla:=facL_len Ba T
          have hlb:=facL_len Bb T
          have hlen:(facL Ba T).length ≤ 2097152:=by
           have h2:(facL Ba T).length ≤ T * 4096:=facF_len Ba T 0 (fun j _ _ => (wa j).old)
           omega
          have hwd:∀ k,k < T→Wd (oldW (Ba k)):=fun k _ => (wa k).old
          have ca9:=ca.below (hN.1.trans (b89.mono hN.1.size))
          have cb9:=cb.below b89
          rw [hmlen] at hlb
          obtain ⟨lf,hlf⟩:∃ lf,(facL Ba T).length = lf:=⟨_,rfl⟩
          rw [hlf] at hla hlb
          have SL:=Lib.hid (show ∀ V,Below (V8.alloc (.cells #[.pointer (some ⟨pb,0,none⟩)] 53)).heap.size (V8.alloc (.cells #[.pointer (some ⟨pb,0,none⟩)] 53)) V →
            Calls Tryz.prog 21 #[.pointer (some ⟨pa,0,none⟩)] V (Sam V (.int .i64 (lf:Int)))∧Calls Tryz.prog 21 #[.pointer (some ⟨pb,0,none⟩)] V (Sam V (.int .i64 (lf:Int))) from fun V hb => by
           have h1:=alen_any V Fa pa side n T Ba (ca9.below hb) hT1 (by omega) hs1
           have h2:=alen_any V Fb pb side n T Bb (cb9.below hb) hT1 (by omega) hs1
           rw [← hla] at h1
           rw [← hlb] at h2
           exact ⟨h1,h2⟩)
          have HC:=Lib.hid (And.intro ca9 (And.intro cb9 (And.intro hhas (And.intro hlf (And.intro hwd (And.intro b8 b09))))))
          have hlf2:lf ≤ 2097152:=by omega
          clear hla hlb hlen hwd ca9 cb9 hhas hlf hmlen hbits ca cb na nb da db wa wb a1 b1 hach hN b09 b89 b8 hnl hside hT
          go_upto_region 35 with (fail)
          generalize V8.alloc (.cells #[.pointer (some ⟨pb,0,none⟩)] 53) = V9 at SL HC ⊢
          have hB0:=Lib.hid (show Below V9.heap.size V9 V9.drew from (Below.refl _ _).drew)
          have SB:=Lib.hid (show ∀ V,Below V9.heap.size V9 V→(fun V => V.cell? ⟨V8.heap.size,0,none⟩ = some (.pointer (some ⟨pb,0,none⟩))) V from fun V hb => (HC.out.2.2.2.2.2.1.upd (Upd.of_below hb (fun _ => False)) id).cell 0)
          have hS:=SB.out _ hB0.out
          refine wp_noPan2 ?_
          refine wp_region_ord (fun V => V.cell? ⟨V8.heap.size,0,none⟩ = some (.pointer (some ⟨pb,0,none⟩))) 5 [(0,true),(2,true),(1,false),(3,false),(4,true)] (by kernel_rfl) (by kernel_rfl) (fun _ _ _ _ _ h => h.elim) hS ?_
          generalize V9.drew = X0 at hB0 hS ⊢
          (refine ord_takeA rfl ?_;(try simp only [Act.put,gA,gS,gZ,sA,sZ,sS]))
          (refine ord_takeA rfl ?_;(try simp only [Act.put,gA,gS,gZ,sA,sZ,sS]))
          refine ord_do rfl rfl (fun K hK => ?_)
          go_simp
          refine ((SL.out _ hB0.out).1).mono ?_
          rintro e X1 ⟨rfl,b1⟩
          have hB1:=Lib.hid (hB0.out.trans (b1.mono hB0.out.size))
          have hS:=SB.out _ hB1.out
          refine hK _ _ (fun _ => hS) ?_
          clear hK K b1
          (try simp only [Act.put,gA,gS,gZ,sA,sZ,sS])
          refine ord_do rfl rfl (fun K hK => ?_)
          go_simp
          refine ((SL.out _ hB1.out).2).mono ?_
          rintro e X2 ⟨rfl,b2⟩
          have hB2:=Lib.hid (hB1.out.trans (b2.mono hB1.out.size))
          have hS:=SB.out _ hB2.out
          refine hK _ _ (fun _ => hS) ?_
          clear hK K b2
          (try simp only [Act.put,gA,gS,gZ,sA,sZ,sS])
          (refine ord_takeA rfl ?_;(try simp only [Act.put,gA,gS,gZ,sA,sZ,sS]))
          refine ord_done ?_
          dsimp only [noPan2]
          clear hS SL
          obtain ⟨O,pv,ad,hi,hFa⟩:=HC.out.1.below hB2.out
          have hfa:=afacts_any X2 O pa side n T pv ad Ba hi hT1 (by omega)
          have HI:=Lib.hid hi
          clear hi hFa
          have HE:=fun (W:World) (f:Fn) (x y:Array Value) => eql_seq_any W f x y
          go_wp2_with fail
          refine hfa.mono ?_
          clear hfa
          rintro e X3 ⟨g,A9,c9,hg,rfl,kg,own,b3⟩
          have hEq:=HE X3.drew (.func 76) #[] #[.pointer (some ⟨g,0,none⟩)]
          have hEq2:=HE X3 (.func 76) #[] #[.pointer (some ⟨g,0,none⟩)]
          have HX3:=Lib.hid (And.intro hg (And.intro kg (And.intro own b3)))
          clear hg kg own b3
          go_wp2
          have b0x:=HC.out.2.2.2.2.2.2.trans (hB2.out.mono HC.out.2.2.2.2.2.2.size)
          have b0y:=b0x.trans (HX3.out.2.2.2.mono b0x.size)
          have hU3:=HU.out.upd b0y
          have b93:=hB2.out.trans (HX3.out.2.2.2.mono hB2.out.size)
          have hi3:=HI.out.upd (Upd.of_below HX3.out.2.2.2 (fun _ => False)) (fun _ _ => id)
          have hFW:FacW X3 g c9 T side A9 ad Ba (fun q => O q ≠ none):=⟨hU3.tab,HX3.out.2.1,ownsRow_base HX3.out.2.2.1 (fun _ _ => Nat.zero_le _),fun k hk => by
           obtain ⟨F,hq,hF⟩:=hi3.mats k hk
           exact ⟨F,hq,fun q hq e => by rw [hF q hq] at e;cases e⟩⟩
          have hQ:∀ x ∈ facL Ba T,x.1 < 512∧x.2.1 < 64∧x.2.2 < 64∧x ∈ facL Ba T:=fun x hx => by
           obtain ⟨k,i,j⟩:=x
           have:=(facL_mem HC.out.2.2.2.2.1).1 hx
           exact ⟨by show k < 512;omega,this.2.1,this.2.2.1,hx⟩
          have hst:=af_stops X3 g c9 T side A9 ad Ba (fun q => O q ≠ none) hFW (fun q hq => hi3.lt q hq) hT1 (by omega) (fun x => x.1 < 512∧x.2.1 < 64∧x.2.2 < 64∧x ∈ facL Ba T) (fun _ h => ⟨h.1,h.2.1,h.2.2.1⟩) hQ
          have hOl:∀ q,FacO g (.slice A9 T c9) (fun q => O q ≠ none) q→q < X3.heap.size:=fun q hq => by
           rcases hq with rfl | rfl | hq | hq
           ·exact hU3.tab.lt
           ·exact HX3.out.2.1.lt
           ·exact (HX3.out.2.2.1.lt q hq).2
           ·exact hi3.lt q hq
          have hlb3:w.heap.size + 2 < X3.heap.size:=hU3.k6.lt
          have hrg3:RgM (w.heap.size + 2) X3:=RgM.of_none (hU3.k6.cell 0) rfl
          have hrw3:∀ v q,X3.cell? ⟨w.heap.size + 2,0,none⟩ = some v→v.ownBlock = some q→¬ FacO g (.slice A9 T c9) (fun q => O q ≠ none) q:=fun v q hv ho => by
           have:=hU3.k6.cell 0
           rw [this] at hv
           simp only [List.getElem?_toArray,List.getElem?_cons_zero] at hv
           injection hv with hv
           subst hv
           cases ho
          have HS:=Lib.hid (And.intro hst (And.intro hOl (And.intro hrw3 (And.intro b0y (And.intro b93 hrg3)))))
          clear hst hOl hrw3 b0x b0y b93 hU3 hi3 hFW hEq hEq2 HE hrg3
          refine wp_rangeM (gf:=76) (cap:=#[.pointer (some ⟨g,0,none⟩)]) rfl (enters_of Tryz.func76 (by kernel_rfl) rfl) HS.out.1 (Below.refl _ _) HS.out.2.1 (fun _ => rfl)
           (w.heap.size + 2) (fun _ => False) hlb3 HS.out.2.2.2.2.2 (fun _ h => h.elim) HS.out.2.2.1
           (fun _ V => Below X3.heap.size X3 V) (fun _ _ _ => False) (fun s X Y row h hg hr => h.grown hg h.size (fun k hk => (hr k hk).1)) (fun c s X Y row h _ _ => h) (Below.refl _ _)
           (fun T y b => (T.setIfInBounds 188 (.agg #[.int .i64 (y.1.1:Int),.int .i64 (y.1.2.1:Int),.int .i64 (y.1.2.2:Int)])).setIfInBounds 24 (.pointer (some ⟨b,0,none⟩)))
           (fun y b V => Blk V b 52 #[.int .i64 (y.1.1:Int),.int .i64 (y.1.2.1:Int),.int .i64 (y.1.2.2:Int)])
           ?hBx ?assign ?body ?done ?stop
          case hBx => exact fun x b st X Y row h hg hr => h.keep hg hr
          case assign =>
           rintro l2 pre y V Kc hrV hsV hi hK
           dsimp only [enc3]
           have HI2:=Lib.hid hi
           clear hi
           gi_wp2
           exact hK V.heap.size _ (KpM.of_below ((Below.refl _ _).alloc (Nat.le_refl _) _) (by omega)) (HI2.out.alloc HI2.out.size _) (Blk.new V _ _)
          case stop => exact fun _ _ _ _ h => h.elim
          case body =>
           rintro l2 pre ⟨⟨k,i,j⟩,hy⟩ b V hrV hsV hbV hkb hlt2
           dsimp only at hkb
           have b9V:=HS.out.2.2.2.2.1.trans (hbV.mono HS.out.2.2.2.2.1.size)
           have q21:V.cell? ⟨V8.heap.size,0,none⟩ = some (.pointer (some ⟨pb,0,none⟩)):=(HC.out.2.2.2.2.2.1.upd (Upd.of_below b9V (fun _ => False)) id).cell 0
           have m0:V.cell? ⟨b,0,none⟩ = some (.int .i64 (k:Int)):=hkb.cell 0
           have m1:V.cell? ⟨b,1,none⟩ = some (.int .i64 (i:Int)):=hkb.cell 1
           have m2:V.cell? ⟨b,2,none⟩ = some (.int .i64 (j:Int)):=hkb.cell 2
           have hh:=ahas_any V Fb pb side n T Bb (HC.out.2.1.below b9V) hT1 hns hs64 (k:Int) (j:Int) (i:Int)
           rw [HC.out.2.2.1 k i j hy.2.2.2] at hh
           have HV:=Lib.hid (And.intro hbV hrV)
           clear hbV hrV hkb b9V
           simp only [sA,sZ,sS]
           gi_wp2_with fail
           refine ⟨trivial,rfl,(callsIn_round hh).mono ?_⟩
           clear hh q21 m0 m1 m2
           rintro e V5 ⟨rfl,b5⟩
           have FIN:=Lib.hid (show KpM (w.heap.size + 2) (fun _ => False) V V5∧Below X3.heap.size X3 V5 from ⟨KpM.of_below b5 (by have:=HV.out.1.size;omega),HV.out.1.trans (b5.mono HV.out.1.size)⟩)
           clear b5
           gi_wp2
           exact FIN.out
          case done =>
           rintro ys V rfl hbV hrV pD hD
           have hbV0:=HS.out.2.2.2.1.trans (hbV.mono HS.out.2.2.2.1.size)
           have haw:=aawake_any V (HU.out.upd hbV0).tab (HU.out.upd hbV0).tab.lt
           have HD:=Lib.hid (And.intro hbV (And.intro hD hbV0))
           clear hbV hrV pD hD hbV0
           go_wp2_with fail
           refine haw.mono ?_
           clear haw
           rintro e V6 ⟨rfl,b6⟩
           have hb06:=HD.out.2.2.trans (b6.mono HD.out.2.2.size)
           have k6:=(HU.out.upd hb06).k6
           have z0:V6.cell? ⟨w.heap.size + 2,0,none⟩ = some (.bool false):=k6.cell 0
           have z1:=k6.frozen 0
           have hd6:V6.heap[X3.heap.size]? = some (.deferred (some [])):=(b6.block X3.heap.size (Array.getElem?_eq_some_iff.1 HD.out.2.1).1).trans HD.out.2.1
           have hd7:=(KeepsOthers.setCell V6 ⟨w.heap.size + 2,0,none⟩ (.bool true)).same X3.heap.size _ hd6 rfl
           have k7:Blk (V6.setCell ⟨w.heap.size + 2,0,none⟩ (.bool true)) (w.heap.size + 2) 4 #[.bool true]:=k6.set 0 (.bool true)
           have hbw:=HB0.out.trans (hb06.mono HB0.out.size)
           have hb9:Below w.heap.size w (V6.setCell ⟨w.heap.size + 2,0,none⟩ (.bool true)):=hbw.setCell (p:=⟨w.heap.size + 2,0,none⟩) (by show w.heap.size ≤ w.heap.size + 2;omega) _
           have hx3:=HS.out.2.2.2.1.size
           have hw0:=HB0.out.size
           have FIN:=Lib.hid (And.intro hd7 (And.intro k7 hb9))
           clear k6 hd6 hd7 k7 hbw hb9 hb06 b6
           go_wp2
           generalize V6.setCell ⟨w.heap.size + 2,0,none⟩ (.bool true) = V7 at FIN ⊢
           refine leaves_one2 FIN.out.1 ?_
           have hk:Blk (V7.putObj X3.heap.size (.deferred none)) (w.heap.size + 2) 4 #[.bool true]:=FIN.out.2.1.grown (grownBy_putObj' V7 X3.heap.size (.deferred none)) (fun e => by injection e with e;omega)
           have hc5:(V7.putObj X3.heap.size (.deferred none)).cell? ⟨w.heap.size + 2,0,none⟩ = some (.bool true):=hk.cell 0
           exact ⟨_,by simp [results,Tryz.f8,go_sem,hc5],rfl,FIN.out.2.2.grown (grownBy_putObj' V7 X3.heap.size (.deferred none)) FIN.out.2.2.size (fun k e => by injection e with e;omega)⟩
      ·have hneI:¬ ((u:Int) = (l2:Int)):=by omega
       have haw:=SAY.out V4 b04
       clear b04 hne
       go_wp2_with fail
       refine haw.mono ?_
       rintro e V ⟨rfl,z0,z1,FIN⟩
       go_wp2
       generalize V.setCell ⟨w.heap.size + 2,0,none⟩ (.bool true) = V9 at FIN ⊢
       refine postM_ret (v:=.bool true) (by simp [results,Tryz.f8,go_sem,FIN.out.1]) rfl ⟨rfl,FIN.out.2⟩
end Go.Proofs.YtddffnonlmfhdaaGreatDoor
namespace Go.Proofs.YtddffnonlmfhdaaGreatDoor.edRead
open Go.ChangeShapes Go.WideShapes Go.ChangeAt Go.RowKit
set_option linter.unusedVariables false
theorem own:ownKnob Tryz.prog.godebug = none:=by kernel_rfl
theorem laidOut:laidOutB Tryz.prog = true:=by kernel_rfl

section
variable {H:Type} {enc:TypeId × Value→H} {P:Program} {w:World}
theorem open_plain {t e m fuel:Nat} {v:Value} {x:DataW H × List MemPlace} (ht:P.underlying t = some (.slice e)) (hk:P.keyTypeAt m e = true)
  (h:DataW.trod enc P w 0 (fun _ => true) true fuel t [v] = some x) (hz:∀ n ∈ x.1.weights P t,n ≤ reachBytes) :
  v = .slice none 0 0 ∨ ∃ a n c,v = .slice (some a) n c∧n ≤ c∧c * P.bytesOf e ≤ reachBytes∧∀ i,i < c→∃ cs L,cs.length = P.cellsOf e∧(∀ j,j < P.cellsOf e→w.cell? (a.add (i * P.cellsOf e + j)) = cs[j]?)∧P.keyLits m e cs = some L:=by
 rcases Deep.open_slice ht h with ⟨hcs,_⟩ | ⟨a,len,cap,m',n',D,Pl,hcs,_,hl,hm,hmm,hx,hi⟩
 ·injection hcs with hcs
  exact .inl hcs
 ·injection hcs with hcs
  subst hcs
  obtain rfl:m' = cap:=by rw [hmm];exact if_pos rfl
  refine .inr ⟨a,len,m',rfl,hl,?_,fun i hic => ?_⟩
  ·subst hx
   exact hz (m' * P.bytesOf e) (by
    simp only [DataW.weights,ht,List.length_map,List.length_range,show len + (m' - len) = m' by omega]
    simp)
  ·obtain ⟨cs',hc,ht'⟩:=hi i (by simpa using hic)
   obtain ⟨_,hlen,hat⟩:=World.cells?_some hc
   exact ⟨cs',_,hlen,fun j hj => by rw [← Deep.add_add];exact hat j hj,(keyLits_of_trod m e hk n' cs' _ ht').1⟩
end
theorem cells_txt:Tryz.prog.cellsOf 9 = 1:=by kernel_rfl
theorem lits_txt {n:Nat} {c:Value} {l:List Lit} (h:Tryz.prog.keyLits n 9 [c] = some l):∃ s:Txt,c = .string s∧TxtOk s:=by
 cases n with
 | zero => simp [Program.keyLits] at h
 | succ n =>
  unfold Program.keyLits at h
  simp only [Tryz.underlying9] at h
  cases c <;> simp at h
  obtain ⟨hw,_⟩:=h
  refine ⟨_,rfl,?_⟩
  unfold TxtOk
  unfold maxLen at hw
  omega
theorem len_one {α:Type}:∀ {l:List α},l.length = 1→∃ a,l = [a]
 | [a],_ => ⟨a,rfl⟩
theorem len_two {α:Type}:∀ {l:List α},l.length = 2→∃ a b,l = [a,b]
 | [a,b],_ => ⟨a,b,rfl⟩
theorem len_three {α:Type}:∀ {l:List α},l.length = 3→∃ a b c,l = [a,b,c]
 | [a,b,c],_ => ⟨a,b,c,rfl⟩
theorem cells_edge:Tryz.prog.cellsOf 32 = 3:=by kernel_rfl
theorem bytes_txt:Tryz.prog.bytesOf 9 = 16:=by kernel_rfl
theorem bytes_edge:Tryz.prog.bytesOf 32 = 48:=by kernel_rfl
theorem lits_ed {cs:List Value} {L:List Lit} (hl:cs.length = 3) (h:Tryz.prog.keyLits 2 32 cs = some L):∃ x:Ed,cs = x.cells∧EdOk x:=by
 obtain ⟨c0,c1,c2,rfl⟩:=len_three hl
 rw [show (2:Nat) = 1 + 1 from rfl] at h
 unfold Program.keyLits at h
 simp only [Tryz.underlying32] at h
 split at h
 ·obtain ⟨l,hl',_⟩:=Option.map_eq_some_iff.1 h
  simp only [cells_txt,List.mapM_cons,List.mapM_nil,bind,Option.bind_eq_some_iff] at hl'
  obtain ⟨l0,h0,q0,⟨l1,h1,q1,⟨l2,h2,-⟩,-⟩,-⟩:=hl'
  simp at h0 h1 h2
  obtain ⟨x,rfl,hx⟩:=lits_txt h0
  obtain ⟨y,rfl,hy⟩:=lits_txt h1
  obtain ⟨z,rfl,hz⟩:=lits_txt h2
  exact ⟨⟨x,y,z⟩,rfl,hx,hy,hz⟩
 ·cases h

theorem row_of {α:Type} [Inhabited α] (cells:α→List Value) (k:Nat) (hlen:∀ x,(cells x).length = k) (h0:0 < k) {W:World} {a:Addr} {n:Nat} (Q:α→Prop) (hg:∀ i,i < n→∃ x:α,Q x∧∀ j,j < k→W.cell? (a.add (i * k + j)) = (cells x)[j]?) :
  ∃ l:List α,l.length = n∧(∀ x ∈ l,Q x)∧RowR W (some a) (l.flatMap cells):=by
 obtain ⟨f,hf⟩:=Deep.choose_lt hg
 refine ⟨(List.range n).map f,by simp,?_,?_⟩
 ·intro x hx
  obtain ⟨i,hi,rfl⟩:=List.mem_map.1 hx
  exact (hf i (List.mem_range.1 hi)).1
 ·intro j u hj
  have hlt:=(List.getElem?_eq_some_iff.1 hj).1
  rw [flat_len cells k hlen] at hlt
  simp only [List.length_map,List.length_range] at hlt
  have hi:j / k < n:=Nat.div_lt_of_lt_mul (by rw [Nat.mul_comm];exact hlt)
  have hjm:j % k < k:=Nat.mod_lt _ h0
  have hjd:j / k * k + j % k = j:=by rw [Nat.mul_comm];exact Nat.div_add_mod j k
  have h1:=flat_get cells k hlen ((List.range n).map f) (j / k) (j % k) (f (j / k)) (by rw [List.getElem?_map,List.getElem?_range hi];rfl) hjm
  rw [hjd,hj] at h1
  have h2:=(hf (j / k) hi).2 (j % k) hjm
  rw [hjd,← h1] at h2
  have h3:=(hf 0 (Nat.lt_of_le_of_lt (Nat.zero_le _) hi)).2 0 h0
  have hlen0:=hlen (f 0)
  rw [List.getElem?_eq_getElem (by omega)] at h3
  have hs:=World.cell?_spot h3
  obtain ⟨b,o,s⟩:=a
  obtain rfl:s = none:=by simpa [Addr.add] using hs
  rw [Addr.add_lit] at h2
  exact ⟨b,o,rfl,h2⟩
instance:Inhabited Txt:=⟨ByteArray.empty⟩
instance:Inhabited Ed:=⟨⟨default,default,default⟩⟩
theorem flat_txt (l:List Txt):(l.flatMap fun s => [Value.string s]) = txtCells l:=by
 induction l with
 | nil => rfl
 | cons x l ih => rw [List.flatMap_cons,ih];rfl

theorem read_txts {H:Type} {enc:TypeId × Value→H} {W:World} {fuel:Nat} {v:Value} {y:DataW H × List MemPlace} (t0:DataW.trod enc Tryz.prog W 0 (fun _ => true) true fuel 26 [v] = some y)
  (w0:∀ n ∈ y.1.weights Tryz.prog 26,n ≤ reachBytes):∃ A c N,v = .slice A (List.length N) c∧RowR W A (txtCells N)∧N.length ≤ c∧N.length * 16 ≤ 140737488355328∧∀ s ∈ N,TxtOk s:=by
 rcases open_plain Tryz.underlying26 (m:=2) (by kernel_rfl) t0 w0 with rfl | ⟨a,n,c,rfl,hnc,hb,hi⟩
 ·exact ⟨none,0,[],rfl,fun j u hj => by simp [txtCells] at hj,Nat.le_refl _,by simp,by simp⟩
 ·obtain ⟨l,hl,hq,hr⟩:=row_of (fun s:Txt => [Value.string s]) 1 (fun _ => rfl) (by decide) (W:=W) (a:=a) (n:=n) TxtOk (fun i hin => by
   obtain ⟨cs,L,hlen,hat,hL⟩:=hi i (by omega)
   rw [cells_txt] at hat hlen
   obtain ⟨c0,rfl⟩:=len_one hlen
   obtain ⟨s,rfl,hs⟩:=lits_txt hL
   exact ⟨s,hs,hat⟩)
  subst hl
  rw [bytes_txt] at hb
  simp only [reachBytes] at hb
  rw [flat_txt] at hr
  exact ⟨_,c,l,rfl,hr,hnc,by omega,hq⟩
theorem read_eds {H:Type} {enc:TypeId × Value→H} {W:World} {fuel:Nat} {v:Value} {y:DataW H × List MemPlace} (t0:DataW.trod enc Tryz.prog W 0 (fun _ => true) true fuel 27 [v] = some y)
  (w0:∀ n ∈ y.1.weights Tryz.prog 27,n ≤ reachBytes):∃ A c E,v = .slice A (List.length E) c∧RowR W A (edCells E)∧E.length ≤ c∧E.length * 48 ≤ 140737488355328∧∀ x ∈ E,EdOk x:=by
 rcases open_plain Tryz.underlying27 (m:=2) (by kernel_rfl) t0 w0 with rfl | ⟨a,n,c,rfl,hnc,hb,hi⟩
 ·exact ⟨none,0,[],rfl,fun j u hj => by simp [edCells] at hj,Nat.le_refl _,by simp,by simp⟩
 ·obtain ⟨l,hl,hq,hr⟩:=row_of Ed.cells 3 (fun _ => rfl) (by decide) (W:=W) (a:=a) (n:=n) EdOk (fun i hin => by
   obtain ⟨cs,L,hlen,hat,hL⟩:=hi i (by omega)
   rw [cells_edge] at hat hlen
   obtain ⟨f,rfl,hw⟩:=lits_ed hlen hL
   exact ⟨f,hw,hat⟩)
  subst hl
  rw [bytes_edge] at hb
  simp only [reachBytes] at hb
  exact ⟨_,c,l,rfl,hr,hnc,by omega,hq⟩
theorem cells_edges:Tryz.prog.cellsOf 34 = 2:=by kernel_rfl
theorem cells_txts:Tryz.prog.cellsOf 26 = 1:=by kernel_rfl
theorem cells_eds:Tryz.prog.cellsOf 27 = 1:=by kernel_rfl

theorem read_edges {H:Type} {enc:TypeId × Value→H} {W:World} {base:Nat} {v:Value} {d0:DataW H} {p0:List MemPlace} (hv:Value.okWide Tryz.prog W .any base 34 v) (h:DataW.Trod enc Tryz.prog W 0 (fun _ => true) true 34 v d0 p0)
  (hz:∀ n ∈ d0.weights Tryz.prog 34,n ≤ reachBytes):∃ A c B d N E,v = twoV A (List.length N) c B (List.length E) d∧ForG W A c B d N E:=by
 obtain ⟨cs,rfl,hcs⟩:=okWide_struct Tryz.underlying34 hv
 rw [cells_edges] at hcs
 obtain ⟨c0,c1,hc⟩:=len_two (l:=cs.toList) (by simpa using hcs)
 obtain rfl:cs = #[c0,c1]:=by cases cs;simp_all
 obtain ⟨fuel,hf⟩:=h
 obtain ⟨y0,y1,n,hx,-,t0,t1⟩:=trod_struct2 Tryz.underlying34 hf
 simp only [Value.cells,cells_txts,cells_eds,List.drop_zero,List.take_succ_cons,List.take_zero,List.drop_succ_cons] at t0 t1
 injection hx with hx1 hx2
 subst hx1
 have w0:∀ n ∈ y0.1.weights Tryz.prog 26,n ≤ reachBytes:=fun n hn => hz n (by
  simp only [DataW.weights,Tryz.underlying34,DataW.weightsEach,List.map_cons,List.map_nil,List.mem_append]
  exact .inl hn)
 have w1:∀ n ∈ y1.1.weights Tryz.prog 27,n ≤ reachBytes:=fun n hn => hz n (by
  simp only [DataW.weights,Tryz.underlying34,DataW.weightsEach,List.map_cons,List.map_nil,List.mem_append]
  exact .inr (.inl hn))
 obtain ⟨A,c,N,rfl,hr0,hc0,hb0,hq0⟩:=read_txts t0 w0
 obtain ⟨B,d,E,rfl,hr1,hc1,hb1,hq1⟩:=read_eds t1 w1
 exact ⟨A,c,B,d,N,E,rfl,hr0,hr1,hc0,hc1,hb0,hb1,hq0,hq1⟩
end Go.Proofs.YtddffnonlmfhdaaGreatDoor.edRead
namespace Go.Proofs.YtddffnonlmfhdaaGreatDoor.edRead
open Go.ChangeShapes Go.WideShapes Go.ChangeAt Go.RowKit
theorem top_txts {H:Type} {enc:TypeId × Value→H} {W:World} {base:Nat} {v:Value} {d0:DataW H} {p0:List MemPlace} (hv:Value.okWide Tryz.prog W .any base 26 v) (h:DataW.Trod enc Tryz.prog W 0 (fun _ => true) true 26 v d0 p0)
  (hz:∀ n ∈ d0.weights Tryz.prog 26,n ≤ reachBytes):∃ A c N,v = .slice A (List.length N) c∧RowR W A (txtCells N)∧N.length ≤ c∧N.length * 16 ≤ 140737488355328∧∀ s ∈ N,TxtOk s:=by
 obtain ⟨a,len,cap,rfl⟩:=okWide_slice Tryz.underlying26 hv
 obtain ⟨fuel,hf⟩:=h
 exact read_txts (y:=(d0,p0)) hf hz
end Go.Proofs.YtddffnonlmfhdaaGreatDoor.edRead
