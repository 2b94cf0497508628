/- azimov: the iterator that Facts makes; layer 18's laws: facts; layer 18's laws: same; AzimovOrder: the plain law; AzimovOrder: the walk; A graph, a list of texts, a list of edges that come in, read: the slices lie in memory, and none is too great; An edge, a row of texts, a row of edges that come in, read. -/
import Derived.Test.YtddffnonlmfhdaaGreatDoorY15
import Derived.Test.YtddffnonlmfhdaaGreatDoorY10
import Derived.Test.YtddffnonlmfhdaaGreatDoorY04
import Derived.Test.YtddffnonlmfhdaaGreatDoorY06
import Derived.ProofKit
import Derived.OpenShut
import Derived.ShutString
import Derived.ChangeOld
import Derived.ChangeSame
import Derived.Below
import Derived.Deep.Slices
import Derived.MapViews
import Derived.SizedLaws
import Derived.Test.YtddffnonlmfhdaaGreatDoorY01
set_option linter.unusedVariables false
set_option linter.unusedSimpArgs false
set_option maxHeartbeats 16000000
set_option maxRecDepth 100000
namespace Go.Proofs.YtddffnonlmfhdaaGreatDoor
open Go.RowKit Go.Shelf
attribute [local go_sem] Oper.semAt_some
def facF (B:Mats):Nat→Nat→List (Nat × Nat × Nat)
 | _,0 => []
 | k,n + 1 => (qcL (B k)).map (fun y => (k,y)) ++ facF B (k + 1) n
def facL (B:Mats) (nts:Nat):List (Nat × Nat × Nat):=facF B 0 nts
def enc3 {Q:Nat × Nat × Nat→Prop} (x:{x:Nat × Nat × Nat // Q x}):Array Value:=#[.agg #[.int .i64 (x.1.1:Int),.int .i64 (x.1.2.1:Int),.int .i64 (x.1.2.2:Int)]]
def upF {Q:Nat × Nat × Nat→Prop} (k:Nat) (y:{y:Nat × Nat // Q (k,y)}):{x:Nat × Nat × Nat // Q x}:=⟨(k,y.1),y.2⟩
theorem subF_map {α:Type} (L:List α) (Q:α→Prop) (hQ:∀ x ∈ L,Q x):(subL L Q hQ).map (·.1) = L:=by unfold subL;simp
theorem valF_inj {α:Type} {Q:α→Prop} {l m:List {x:α // Q x}} (h:l.map (·.1) = m.map (·.1)):l = m:=
 (List.map_inj_right (fun _ _ e => Subtype.ext e)).1 h
theorem subF_part {L R:List (Nat × Nat × Nat)} {M:List (Nat × Nat)} {Q:Nat × Nat × Nat→Prop} {hQ:∀ x ∈ L,Q x} {c k:Nat} (h:L.drop c = M.map (fun y => (k,y)) ++ R) (hQ':∀ y ∈ M,Q (k,y)) (j:Nat) (hj:j ≤ M.length) :
  (subL L Q hQ).take (c + j) = (subL L Q hQ).take c ++ ((subL M (fun y => Q (k,y)) hQ').take j).map (upF k):=by
 apply valF_inj
 rw [List.map_append,List.map_map,List.map_take,List.map_take,subF_map,List.take_add,h]
 congr 1
 have e:((fun z:{x:Nat × Nat × Nat // Q x} => z.1) ∘ upF (Q:=Q) k) = (fun y:Nat × Nat => (k,y)) ∘ (fun y:{y:Nat × Nat // Q (k,y)} => y.1):=rfl
 rw [e,← List.map_map,List.map_take,subF_map]
 rw [List.take_append_of_le_length (by rw [List.length_map];exact hj),List.map_take]
theorem rowF_in {L R:List (Nat × Nat × Nat)} {M:List (Nat × Nat)} {Q:Nat × Nat × Nat→Prop} (hQ:∀ x ∈ L,Q x) {c k:Nat} (h:L.drop c = M.map (fun y => (k,y)) ++ R):∀ y ∈ M,Q (k,y):=fun y hy => by
 refine hQ _ (List.mem_of_mem_drop (i:=c) ?_)
 rw [h]
 exact List.mem_append_left _ (List.mem_map.2 ⟨y,hy,rfl⟩)

structure FaI (lb:Nat) (F:Nat→Prop) (B:Mats) (nts:Nat) (L:List (Nat × Nat × Nat)) (Q:Nat × Nat × Nat→Prop) (hQ:∀ x ∈ L,Q x) (J:List {x:Nat × Nat × Nat // Q x}→World→Prop) (W1 wr:World) (k c:Nat) (Ds:List Nat):Prop where
 at_:L.drop c = facF B k (nts - k)
 le:c ≤ L.length
 j:J ((subL L Q hQ).take c) wr
 kp:KpM lb F W1 wr
 nd:Ds.Nodup
 ds:∀ D ∈ Ds,W1.heap.size ≤ D∧Prv lb F wr D∧wr.heap[D]? = some (.deferred (some []))
def FacO (g:Nat) (v:Value) (Oc:Nat→Prop) (q:Nat):Prop:=q = 1 ∨ q = g ∨ v.ownBlock = some q ∨ Oc q
structure RowG (lb g0:Nat) (F:Nat→Prop) (l k g3 gq:Nat) (b:Option (List Nat)) (v:Value) (W4:World):Prop where
 lt:lb < W4.heap.size
 rg:RgM lb W4
 fF:∀ q,F q→q < W4.heap.size∧¬ CellO gq b v q
 row:∀ u q,W4.cell? ⟨lb,0,none⟩ = some u→u.ownBlock = some q→¬ CellO gq b v q
 tab:TabW W4
 k2:Blk W4 g0 79 #[.func (.yield l) #[] #[]]
 p2:Prv lb F W4 g0
 k3:Blk W4 g3 3 #[.int .i64 (k:Int)]
 p3:Prv lb F W4 g3
def RowJ {Q:Nat × Nat × Nat→Prop} (lb:Nat) (F:Nat→Prop) (J:List {x:Nat × Nat × Nat // Q x}→World→Prop) (pre0:List {x:Nat × Nat × Nat // Q x}) (k:Nat) (W4:World) (pre:List {y:Nat × Nat // Q (k,y)}) (V:World):Prop:=
 J (pre0 ++ pre.map (upF k)) V∧KpM lb F W4 V∧lb < V.heap.size
def RowY {Q:Nat × Nat × Nat→Prop} (lb:Nat) (F:Nat→Prop) (Jx:List {x:Nat × Nat × Nat // Q x}→World→Prop) (pre0:List {x:Nat × Nat × Nat // Q x}) (k:Nat) (W4:World) (c:Code) (pre:List {y:Nat × Nat // Q (k,y)}) (V:World):Prop:=
 c = .ret∧Jx (pre0 ++ pre.map (upF k)) V∧KpM lb F W4 V
theorem rowJ_own {Q:Nat × Nat × Nat→Prop} {lb g0:Nat} {F:Nat→Prop} {J:List {x:Nat × Nat × Nat // Q x}→World→Prop} {pre0:List {x:Nat × Nat × Nat // Q x}} {k:Nat} {W4:World} (hJ:OwnP lb F g0 J) (hl:lb < W4.heap.size) (r4:RgM lb W4) (hg:g0 < W4.heap.size) :
  OwnP lb F W4.heap.size (RowJ lb F J pre0 k W4):=by
 rintro s X Y row ⟨h1,h2,h5⟩ hgr hr
 exact ⟨(hJ.from (by omega)) _ X Y row h1 hgr hr,ownP_kpM (β:=Unit) (Nat.le_refl _) hl r4 () X Y row h2 hgr hr,Nat.lt_of_lt_of_le h5 hgr.size⟩
theorem rowY_own {Q:Nat × Nat × Nat→Prop} {lb g0:Nat} {F:Nat→Prop} {Jx:List {x:Nat × Nat × Nat // Q x}→World→Prop} {pre0:List {x:Nat × Nat × Nat // Q x}} {k:Nat} {W4:World} (hJ:OwnP lb F g0 Jx) (hl:lb < W4.heap.size) (r4:RgM lb W4) (hg:g0 < W4.heap.size) (c:Code) :
  OwnP lb F W4.heap.size (RowY lb F Jx pre0 k W4 c):=by
 rintro s X Y row ⟨h0,h1,h2⟩ hgr hr
 exact ⟨h0,(hJ.from (by omega)) _ X Y row h1 hgr hr,ownP_kpM (β:=Unit) (Nat.le_refl _) hl r4 () X Y row h2 hgr hr⟩
structure FacW (w:World) (gl c nts side:Nat) (A:Option Addr) (ad:Nat→Nat) (B:Mats) (Oc:Nat→Prop):Prop where
 tab:TabW w
 blk:Blk w gl 136 #[.slice A nts c]
 own:w.ownsRow 0 121 1 (.slice A nts c) nts (ptC ad nts)
 mat:∀ k,k < nts→∃ F,QuS w F (ad k) side (B k)∧∀ q,F q→Oc q
theorem FacW.upd {w w':World} {gl c nts side:Nat} {A:Option Addr} {ad:Nat→Nat} {B:Mats} {Oc G:Nat→Prop} (h:FacW w gl c nts side A ad B Oc) (hu:Upd G w w') (hd:∀ q,FacO gl (.slice A nts c) Oc q→¬ G q):FacW w' gl c nts side A ad B Oc:=
 ⟨h.tab.upd hu h.tab.lt (hd _ (.inl rfl)),h.blk.upd hu (hd _ (.inr (.inl rfl))),ownsRow_upd h.own hu (fun q hq => hd q (.inr (.inr (.inl hq)))),fun k hk => by
  obtain ⟨F,h1,h2⟩:=h.mat k hk
  exact ⟨F,h1.upd hu (fun q hq => hd q (.inr (.inr (.inr (h2 q hq))))),h2⟩⟩

theorem af_stops (w:World) (gl c nts side:Nat) (A:Option Addr) (ad:Nat→Nat) (B:Mats) (Oc:Nat→Prop) (h:FacW w gl c nts side A ad B Oc) (hOc:∀ q,Oc q→q < w.heap.size) (h1:1 ≤ nts) (h5:nts ≤ 512)
  (Q:Nat × Nat × Nat→Prop) (hQb:∀ x,Q x→x.1 < 512∧x.2.1 < 64∧x.2.2 < 64) (hQ:∀ x ∈ facL B nts,Q x) :
  SeqM Tryz.prog 76 #[.pointer (some ⟨gl,0,none⟩)] enc3 (FacO gl (.slice A nts c) Oc) (fun ys => ys = subL (facL B nts) Q hQ) (fun pre => ∃ k,k ≤ (facL B nts).length∧pre = (subL (facL B nts) Q hQ).take k) (facL B nts).length w:=by
 intro l lb F J Jx W hW hJ hJx hlb hrg hF hrow hY h0
 have hol:∀ q,FacO gl (.slice A nts c) Oc q→q < w.heap.size:=fun q hq => by
  rcases hq with rfl | rfl | hq | hq
  ·exact h.tab.lt
  ·exact h.blk.lt
  ·exact (h.own.lt q hq).2
  ·exact hOc q hq
 have hp:∀ q,FacO gl (.slice A nts c) Oc q→Prv lb F W q:=fun q ho => ⟨Nat.lt_of_lt_of_le (hol q ho) hW.size,fun ha => ha.elim (fun hf => (hF q hf).2 ho) (fun ⟨v,hv,hq⟩ => hrow v q hv hq ho)⟩
 have hw:=h.upd (Upd.of_below hW (fun _ => False)) (fun _ _ => id)
 obtain ⟨ga,cc,e,hob,-,-,-,hcell⟩:=own_cells hw.own (by omega)
 injection e with e1 e2 e3
 subst e1
 subst e3
 have k2:=Blk.new W 79 #[.func (.yield l) #[] #[]]
 have b1:Below W.heap.size W (W.alloc (.cells #[.func (.yield l) #[] #[]] 79)):=(Below.refl _ _).alloc (Nat.le_refl _) _
 have z1:(W.alloc (.cells #[.func (.yield l) #[] #[]] 79)).heap.size = W.heap.size + 1:=by simp
 have hw1:=hw.upd (Upd.of_below b1 (fun _ => False)) (fun _ _ => id)
 have H:=Lib.hid (And.intro hJ (And.intro hJx (And.intro hlb (And.intro hrg (And.intro (fun q hq => (hF q hq).1) (And.intro hp hY))))))
 have kp1:=KpM.of_below (lb:=lb) (F:=F) b1 hlb
 have r1:=kp1.rg hrg
 have lb1:lb < (W.alloc (.cells #[.func (.yield l) #[] #[]] 79)).heap.size:=by omega
 have p2:Prv lb F (W.alloc (.cells #[.func (.yield l) #[] #[]] 79)) W.heap.size:=Prv.since b1 hlb hrg (fun q hq => (hF q hq).1) (Nat.le_refl _) (by omega)
 have pO:∀ q,FacO gl (.slice (some ⟨ga,0,none⟩) nts c) Oc q→Prv lb F (W.alloc (.cells #[.func (.yield l) #[] #[]] 79)) q:=fun q ho => (kp1.prv hrg (hp q ho)).2
 have j1:=hJ.below h0 b1
 have q1:(W.alloc (.cells #[.func (.yield l) #[] #[]] 79)).cell? ⟨gl,0,none⟩ = some (.slice (some ⟨ga,0,none⟩) nts c):=hw1.blk.cell 0
 clear h hW hJ hJx hlb hrg hF hrow hY h0 hol hp hw hob hcell hOc e2
 refine (callsIn_wide (n:=1)).1 ?_
 refine callsIn_of_wp_marks Tryz.func76 rfl trivial ?_ rfl
 simp only [Tryz.ntmps76,List.size_toArray,List.length_cons,List.length_nil,Nat.reduceAdd,Nat.reduceSub,Array.replicate_succ,Array.replicate_zero,List.push_toArray,List.append_toArray,List.nil_append,List.cons_append]
 refine wpIn_wide.2 ?_
 go_upto_region 1 with (fail)
 generalize hW1:W.alloc (.cells #[.func (.yield l) #[] #[]] 79) = W1 at k2 b1 z1 hw1 kp1 r1 lb1 p2 pO j1 q1 ⊢
 clear hW1
 have HI0:=Lib.hid (show FaI lb F B nts (facL B nts) Q hQ J W1 W1 0 0 [] from ⟨rfl,Nat.zero_le _,by simpa using j1,KpM.refl _ _ _,List.nodup_nil,fun D hD => by cases hD⟩)
 have HW:=Lib.hid (And.intro b1 (And.intro k2 (And.intro p2 (And.intro pO (And.intro hw1 (And.intro r1 (And.intro lb1 (And.intro z1 kp1))))))))
 clear b1 k2 p2 pO hw1 r1 lb1 z1 kp1 j1
 go_wp2
 clear q1
 refine wp_loop (fun a wr => ∃ (k c':Nat) (Ds:List Nat) (u3 u4 u5 u6 u10 u11 u12 u13 u14 u15 u16 u17 u18 u19 u20 u21 u22 u23 u24 u25:Value),a = ⟨#[.func (.yield l) #[] #[],.pointer (some ⟨gl,0,none⟩),.pointer (some ⟨W.heap.size,0,none⟩),u3,u4,u5,u6,.slice (some ⟨ga,0,none⟩) nts c,.int .i64 (nts:Int),.int .i64 (k:Int),u10,u11,u12,u13,u14,u15,u16,u17,u18,u19,u20,u21,u22,u23,u24,u25],Ds.map (fun D => { target:=.collected D,args:=#[] })⟩∧k ≤ nts∧FaI lb F B nts (facL B nts) Q hQ J W1 wr k c' Ds) (fun a _ => nts - (intOf (a.tmps.getD 9 undef)).toNat) ?_ ?_
 ·exact ⟨0,0,[],_,_,_,_,_,_,_,_,_,_,_,_,_,_,_,_,_,_,_,_,rfl,by omega,HI0.out⟩
 ·rintro a wr ⟨k,c',Ds,u3,u4,u5,u6,u10,u11,u12,u13,u14,u15,u16,u17,u18,u19,u20,u21,u22,u23,u24,u25,rfl,hk,hI⟩
  have HI:=Lib.hid hI
  clear hI
  by_cases hlt:k < nts
  ·have hltI:(k:Int) < (nts:Int):=by omega
   have hkw:IntKind.i64.wrap ((k:Int) + 1) = (k:Int) + 1:=IntWalk.i64_in _ (by omega)
   have rw1:RgM lb wr:=HI.out.kp.rg HW.out.2.2.2.2.2.1
   have lbr:lb < wr.heap.size:=Nat.lt_of_lt_of_le HW.out.2.2.2.2.2.2.1 (HI.out.kp.size HW.out.2.2.2.2.2.1)
   have hwr:=HW.out.2.2.2.2.1.upd (HI.out.kp HW.out.2.2.2.2.2.1).1 (fun q ho => (HW.out.2.2.2.1 q ho).2)
   have qk:wr.cell? ⟨ga,k,none⟩ = some (.pointer (some ⟨ad k,0,none⟩)):=by
    obtain ⟨g',c1,e,-,-,-,-,hc⟩:=own_cells hwr.own (by omega)
    injection e with e
    injection e with e
    injection e with e
    subst e
    exact (hc k _ (ptC_at hlt)).1
   have k3:=Blk.new wr 3 #[.int .i64 (k:Int)]
   have b3:Below wr.heap.size wr (wr.alloc (.cells #[.int .i64 (k:Int)] 3)):=(Below.refl _ _).alloc (Nat.le_refl _) _
   have z3:(wr.alloc (.cells #[.int .i64 (k:Int)] 3)).heap.size = wr.heap.size + 1:=by simp
   have hw3:=hwr.upd (Upd.of_below b3 (fun _ => False)) (fun _ _ => id)
   obtain ⟨Fk,hq,hFk⟩:=hw3.mat k hlt
   have hcon:=mcells_made _ Fk (ad k) side (B k) hq
   have hwd:=hq.wd
   have HX:=Lib.hid (And.intro rw1 (And.intro lbr (And.intro b3 (And.intro k3 (And.intro z3 (And.intro hw3 hwd))))))
   clear rw1 lbr hwr k3 b3 z3 hw3 hq hFk hwd
   go_upto_region 4 with (fail)
   clear qk
   generalize hW3:wr.alloc (.cells #[.int .i64 (k:Int)] 3) = W3 at HX hcon ⊢
   clear hW3
   go_wp2_with fail
   refine hcon.mono ?_
   clear hcon
   rintro e W4 ⟨gq,A4,n4,c4,hgq,rfl,kq,b4,hch⟩
   have HB:=Lib.hid (And.intro hgq (And.intro kq (And.intro b4 hch)))
   clear hgq kq b4 hch
   go_wp2
   have HD:=Lib.hid (show (facL B nts).drop c' = (qcL (B k)).map (fun y => (k,y)) ++ facF B (k + 1) (nts - (k + 1)) from by
    rw [HI.out.at_,show nts - k = (nts - (k + 1)) + 1 by omega];rfl)
   have hbb:Below wr.heap.size wr W4:=HX.out.2.2.1.trans (HB.out.2.2.1.mono HX.out.2.2.1.size)
   have hFlt:∀ q,F q→q < wr.heap.size:=fun q hq => by
    have h1:=H.out.2.2.2.2.1 q hq
    have h2:=HW.out.1.size
    have h3:=HI.out.kp.size HW.out.2.2.2.2.2.1
    omega
   have hz3:=HX.out.2.2.2.2.1
   have hgq:=HB.out.1
   have pT4:Prv lb F W4 1:=((HI.out.kp.prv HW.out.2.2.2.2.2.1 (HW.out.2.2.2.1 _ (.inl rfl))).2).below hbb HX.out.2.1
   have hr4:RgM lb W4:=(KpM.of_below (F:=F) hbb HX.out.2.1).rg HX.out.1
   have hcl:∀ q,CellO gq (B k) (.slice A4 n4 c4) q→q = 1 ∨ W3.heap.size ≤ q:=fun q hq => by
    rcases hq with hq | rfl | ⟨hs,hq⟩
    ·exact .inl hq
    ·exact .inr hgq
    ·exact .inr (HB.out.2.2.2.own hs hq).1
   have HR:RowG lb W.heap.size F l k wr.heap.size gq (B k) (.slice A4 n4 c4) W4:=by
    have u4:=Upd.of_below HB.out.2.2.1 (fun _ => False)
    have hz4:=HB.out.2.2.1.size
    have ub:=Upd.of_below hbb (fun _ => False)
    refine ⟨by have:=HX.out.2.1;omega,hr4,fun q hq => ⟨by have:=hFlt q hq;omega,fun ho => ?_⟩,fun v q hv ho hc => ?_,HX.out.2.2.2.2.2.1.tab.upd u4 HX.out.2.2.2.2.2.1.tab.lt id,(HI.out.kp.blk HW.out.2.2.2.2.2.1 HW.out.2.2.1 HW.out.2.1).upd ub id,(HI.out.kp.prv HW.out.2.2.2.2.2.1 HW.out.2.2.1).2.below hbb HX.out.2.1,HX.out.2.2.2.1.upd u4 id,?_⟩
    ·rcases hcl q ho with rfl | hge
     ·exact pT4.2 (.inl hq)
     ·have:=hFlt q hq;omega
    ·rcases hcl q hc with rfl | hge
     ·exact pT4.2 (.inr ⟨v,hv,ho⟩)
     ·rw [hbb.cell (p:=⟨lb,0,none⟩) HX.out.2.1] at hv
      have:=HX.out.1 v q hv ho;omega
    ·exact Prv.since hbb HX.out.2.1 HX.out.1 hFlt (Nat.le_refl _) (by omega)
   have hg4:W.heap.size < W4.heap.size:=HR.k2.lt
   have hQ':=rowF_in hQ HD.out
   have hm:∀ j,j ≤ (qcL (B k)).length→c' + j ≤ (facL B nts).length:=fun j hj => by
    have:=congrArg List.length HD.out
    rw [List.length_drop,List.length_append,List.length_map] at this
    have:=HI.out.le
    omega
   have hst:=mcells_stops W4 (B k) HX.out.2.2.2.2.2.2 HR.tab gq c4 n4 A4 (fun y => Q (k,y)) (fun y hy => (hQb _ hy).2) hQ' HB.out.2.1 W3.heap.size HB.out.2.2.2
   have j4:RowJ lb F J ((subL (facL B nts) Q hQ).take c') k W4 [] W4:=by
    refine ⟨?_,KpM.refl _ _ _,HR.lt⟩
    have:=H.out.1.below HI.out.j hbb
    simpa using this
   have HS:=Lib.hid (And.intro HR (And.intro hg4 (And.intro hm (And.intro hbb j4))))
   have HT:=Lib.hid hst
   have hOl:∀ q,CellO gq (B k) (.slice A4 n4 c4) q→q < W4.heap.size:=fun q ho => by
    rcases ho with rfl | rfl | ⟨hs,hq⟩
    ·exact HR.tab.lt
    ·exact HB.out.2.1.lt
    ·exact (HB.out.2.2.2.own hs hq).2
   clear hst HR hg4 hm j4 hFlt pT4 hr4 hcl hz3 hgq hbb
   refine wp_rangeM (gf:=120) (cap:=#[.pointer (some ⟨gq,0,none⟩)]) rfl (enters_of Tryz.func120 (by kernel_rfl) rfl) HT.out (Below.refl _ _) hOl (fun _ => rfl)
    lb F HS.out.1.lt HS.out.1.rg HS.out.1.fF HS.out.1.row
    (RowJ lb F J ((subL (facL B nts) Q hQ).take c') k W4) (RowY lb F Jx ((subL (facL B nts) Q hQ).take c') k W4)
    (rowJ_own H.out.1 HS.out.1.lt HS.out.1.rg HS.out.2.1) (rowY_own H.out.2.1 HS.out.1.lt HS.out.1.rg HS.out.2.1) HS.out.2.2.2.2
    (fun T y _ => (((T.setIfInBounds 16 (.int .i64 (y.1.1:Int))).setIfInBounds 17 (.int .i64 (y.1.2:Int))).setIfInBounds 5 (.int .i64 (y.1.1:Int))).setIfInBounds 6 (.int .i64 (y.1.2:Int)))
    (fun _ _ _ => True)
    ?hBx ?assign ?body ?done ?stop
   case hBx => exact fun _ _ _ _ _ _ _ _ _ => trivial
   case assign =>
    rintro l2 pre y V Kc hrV hsV hi hK
    dsimp only [enc2]
    have HI2:=Lib.hid hi
    clear hi
    gi_wp2
    exact hK 0 V (KpM.refl _ _ _) HI2.out trivial
   case body =>
    rintro l2 pre y b V hrV hsV ⟨j1,kp,lbV⟩ - hlt2
    have hyb:=hQb _ y.2
    have hR:=HS.out.1
    have c3:V.cell? ⟨W.heap.size,0,none⟩ = some (.func (.yield l) #[] #[]):=(kp.blk hR.rg hR.p2 hR.k2).cell 0
    have c5:V.cell? ⟨wr.heap.size,0,none⟩ = some (.int .i64 (k:Int)):=(kp.blk hR.rg hR.p3 hR.k3).cell 0
    have hlen:((subL (facL B nts) Q hQ).take c' ++ pre.map (upF k)).length < (facL B nts).length:=by
     rw [List.length_append,List.length_take,List.length_map,subL_len]
     have:=HS.out.2.2.1 (pre.length + 1) hlt2
     omega
    obtain ⟨fn,tmps,assign,body,hy,hRd⟩:=yield_round (l2:=l2) (n:=0) (H.out.2.2.2.2.2.2 _ (upF k y) V j1 hlen)
    dsimp only [enc3,upF] at hy
    have HK:=Lib.hid (And.intro kp (And.intro lbV hrV))
    clear kp lbV hrV hR hyb hlen j1
    simp only [sA,sZ,sS]
    gi_wp2
    refine ⟨rfl,hRd.mono ?_⟩
    clear hRd hy c3 c5
    rintro e V3 ⟨hk3,(⟨rfl,hJ3⟩ | ⟨rfl,hJx3⟩)⟩
    ·have FIN:=Lib.hid (show KpM lb F V V3∧RowJ lb F J ((subL (facL B nts) Q hQ).take c') k W4 (pre ++ [y]) V3 from by
      obtain ⟨kp,lbV,hrV⟩:=HK.out
      exact ⟨hk3,by rw [List.map_append,← List.append_assoc];exact hJ3,kp.trans hk3,Nat.lt_of_lt_of_le lbV (hk3.size hrV)⟩)
     clear hJ3 hk3
     gi_wp2
     exact FIN.out
    ·have FIN:=Lib.hid (show KpM lb F V V3∧RowY lb F Jx ((subL (facL B nts) Q hQ).take c') k W4 .ret (pre ++ [y]) V3 from by
      obtain ⟨kp,lbV,hrV⟩:=HK.out
      exact ⟨hk3,rfl,by rw [List.map_append,← List.append_assoc];exact hJx3,kp.trans hk3⟩)
     clear hJx3 hk3
     gi_wp2
     exact FIN.out
   case done =>
    rintro ys V rfl ⟨j1,kp,lbV⟩ hrV pD hD
    have hI2:FaI lb F B nts (facL B nts) Q hQ J W1 V (k + 1) (c' + (qcL (B k)).length) (W4.heap.size :: Ds):=by
     have bb:=HS.out.2.2.2.1
     have kw:KpM lb F wr V:=(KpM.of_below bb HX.out.2.1).trans kp
     have hz4:=bb.size
     refine ⟨?_,HS.out.2.2.1 _ (Nat.le_refl _),?_,HI.out.kp.trans kw,?_,fun D hD' => ?_⟩
     ·rw [← List.drop_drop,HD.out,show (qcL (B k)).length = ((qcL (B k)).map (fun y => (k,y))).length by rw [List.length_map],List.drop_left]
     ·rw [subF_part HD.out (rowF_in hQ HD.out) _ (Nat.le_refl _),show (subL (qcL (B k)) (fun y => Q (k,y)) (rowF_in hQ HD.out)).take (qcL (B k)).length = subL (qcL (B k)) (fun y => Q (k,y)) (rowF_in hQ HD.out) from List.take_of_length_le (by rw [subL_len];exact Nat.le_refl _)]
      exact j1
     ·rw [List.nodup_cons]
      exact ⟨fun hm => by have:=(HI.out.ds _ hm).2.1.1;omega,HI.out.nd⟩
     ·rcases List.mem_cons.1 hD' with rfl | hm
      ·exact ⟨Nat.le_trans (HI.out.kp.size HW.out.2.2.2.2.2.1) hz4,pD,hD⟩
      ·have h5:=HI.out.ds D hm
       have h6:=kw.prv HX.out.1 h5.2.1
       exact ⟨h5.1,h6.2,h6.1.trans h5.2.2⟩
    have HN:=Lib.hid hI2
    clear hI2 j1 kp lbV hrV pD hD
    go_wp2
    exact ⟨⟨k + 1,_,W4.heap.size :: Ds,_,_,_,_,_,_,_,_,_,_,_,_,_,_,_,_,_,_,_,_,rfl,by omega,HN.out⟩,by simp [intOf];omega⟩
   case stop =>
    rintro ct pre V ⟨j,hj,rfl⟩ ⟨rfl,jx,kp⟩ hrV pD hD
    have bb:=HS.out.2.2.2.1
    have kw:KpM lb F wr V:=(KpM.of_below bb HX.out.2.1).trans kp
    have hz4:=bb.size
    have hz:=HI.out.kp.size HW.out.2.2.2.2.2.1
    have z1:=HW.out.2.2.2.2.2.2.2.1
    have hds:∀ D ∈ W4.heap.size :: Ds,W1.heap.size ≤ D∧Prv lb F V D∧V.heap[D]? = some (.deferred (some [])):=fun D hD' => by
     rcases List.mem_cons.1 hD' with rfl | hm
     ·exact ⟨Nat.le_trans hz hz4,pD,hD⟩
     ·have h5:=HI.out.ds D hm
      have:=kw.prv HX.out.1 h5.2.1
      exact ⟨h5.1,this.2,this.1.trans h5.2.2⟩
    have hnd:(W4.heap.size :: Ds).Nodup:=List.nodup_cons.2 ⟨fun hm => by have:=(HI.out.ds _ hm).2.1.1;omega,HI.out.nd⟩
    have hlv:lb < V.heap.size:=by have:=HX.out.2.1;have:=kp.size HS.out.1.rg;omega
    have HL:=Lib.hid (And.intro hds (And.intro hnd (And.intro hlv jx)))
    clear jx kp hrV pD hD bb kw hz4 hds hnd hlv
    go_wp2
    refine leaves_own (B:=W1.heap.size) (fun w1 => Jx ((subL (facL B nts) Q hQ).take c' ++ ((subL (qcL (B k)) (fun y => Q (k,y)) hQ').take j).map (upF k)) w1) ?_ HW.out.2.2.2.2.2.2.1 ?_ (W4.heap.size :: Ds) V HL.out.2.1 HL.out.1 HL.out.2.2.1 HL.out.2.2.2
    ·rintro s X Y row h2 hg hrr
     exact (H.out.2.1.from (by omega)) _ X Y row h2 hg hrr
    ·intro w1 h2
     exact ⟨_,results_none rfl _ _ _,⟨_,rfl⟩,.inr ⟨_,⟨c' + j,HS.out.2.2.1 j hj,(subF_part HD.out hQ' j hj).symm⟩,h2⟩⟩
  ·obtain rfl:k = nts:=by omega
   have hdr:(facL B k).drop c' = []:=by rw [HI.out.at_,Nat.sub_self];rfl
   have jj:=HI.out.j
   rw [subL_all hdr] at jj
   have z1:=HW.out.2.2.2.2.2.2.2.1
   have lbr:lb < wr.heap.size:=Nat.lt_of_lt_of_le HW.out.2.2.2.2.2.2.1 (HI.out.kp.size HW.out.2.2.2.2.2.1)
   have HL:=Lib.hid (And.intro HI.out.ds (And.intro HI.out.nd (And.intro lbr jj)))
   clear hdr jj lbr
   go_wp2
   refine leaves_own (B:=W1.heap.size) (fun w1 => J (subL (facL B k) Q hQ) w1) ?_ HW.out.2.2.2.2.2.2.1 ?_ Ds _ HL.out.2.1 HL.out.1 HL.out.2.2.1 HL.out.2.2.2
   ·rintro s X Y row h2 hg hrr
    exact (H.out.1.from (by omega)) _ X Y row h2 hg hrr
   ·intro w1 h2
    exact ⟨_,results_none rfl _ _ _,⟨_,rfl⟩,.inl ⟨_,rfl,h2⟩⟩
end Go.Proofs.YtddffnonlmfhdaaGreatDoor
namespace Go.Proofs.YtddffnonlmfhdaaGreatDoor
open Go.RowKit Go.Shelf
attribute [local go_sem] Oper.semAt_some
theorem wpListIn_append_run {F:Fence} {nF:Nat} {P:Program} {ops:Array Oper} {rest:List Oper} {o:Oper} {a:Act} {Q:Exit→Act→World→Prop} {w w':World} {v v2 v':Value} (hgd:o.guard = none) (s x:Operand) (t:TypeId)
  (ho:o.op = .call { callee:=.builtin .append,args:=#[s,x],argTypes:=#[t,t] }) (hs:a.eval s = v) (hx:a.eval x = v2)
  (hrun:(Builtin.append_ #[t,t] o.type #[v,v2]).run P w = .ok v' w') (h:wpListIn F nF P ops Q rest (a.put o.dst v') w'):wpListIn F nF P ops Q (o :: rest) a w:=by
 refine wpListIn_plain hgd fun K hK => ?_
 unfold Oper.wpIn
 refine ⟨by simp [Oper.about,ho,resolve,Target.leads,Sem.run_pure],?_⟩
 rw [Oper.semAt_plain F _ _ (by rw [ho];intro c hc';cases hc')]
 simp [execOp,ho,resolve,invoke,builtin,hs,hx,hrun,Result.andThen]
 exact hK _ _ h
theorem info_fact:(Tryz.prog.info? 52).map (fun i => (i.zero,i.size,i.bytes)) = some (some (.agg #[.int .i64 0,.int .i64 0,.int .i64 0]),3,24):=by kernel_rfl
def faC (x:Nat × Nat × Nat):List Value:=[.int .i64 (x.1:Int),.int .i64 (x.2.1:Int),.int .i64 (x.2.2:Int)]
def faCells (L:List (Nat × Nat × Nat)):List Value:=L.flatMap faC
theorem one_fa (x:Nat × Nat × Nat):∀ u ∈ faC x,u.oneCell' = true:=by
 intro u hf
 simp [faC] at hf
 rcases hf with rfl | rfl | rfl <;> rfl
theorem push_fact (W:World) (B0 lb:Nat) (v:Value) (L:List (Nat × Nat × Nat)) (m:Nat × Nat × Nat) (hb:Blk W lb 74 #[v]) (own:W.ownsRow B0 52 3 v L.length (faCells L)) (hne:v.ownBlock ≠ some lb) (hl:(L.length + 1) * 24 ≤ 140737488355328) (hB:B0 ≤ W.heap.size) :
  ∃ v' W1,(Builtin.append_ #[74,74] 74 #[v,.slice (some ⟨W.heap.size,0,none⟩) 1 1]).run Tryz.prog (W.alloc (.cells (faC m).toArray 52)) = .ok v' W1 ∧
   Blk W1 lb 74 #[v]∧Blk (W1.setCell ⟨lb,0,none⟩ v') lb 74 #[v']∧(W1.setCell ⟨lb,0,none⟩ v').ownsRow B0 52 3 v' (L ++ [m]).length (faCells (L ++ [m]))∧v'.ownBlock ≠ some lb ∧
   Upd (fun q => q = lb ∨ v.ownBlock = some q) W (W1.setCell ⟨lb,0,none⟩ v')∧∀ k,v'.ownBlock = some k→v.ownBlock = some k ∨ W.heap.size ≤ k:=by
 obtain ⟨v',w',happ,own',up,pl⟩:=push_own W B0 74 52 3 24 _ Tryz.underlying74 info_fact rfl (by decide) v L.length _ own (faC m) 1 rfl (one_fa m) hl (by unfold maxLen;omega) hB
 have hne':v'.ownBlock ≠ some lb:=by
  intro e
  rcases pl lb e with h | h
  ·exact hne h
  ·have:=hb.lt;omega
 have kb:=hb.upd up (fun e => hne e)
 have us:Upd (fun q => q = lb) w' (w'.setCell ⟨lb,0,none⟩ v'):=(Upd.refl (fun q => q = lb) w').setCell (p:=⟨lb,0,none⟩) (.inl rfl) _
 refine ⟨v',w',happ,kb,kb.set 0 v',?_,hne',(up.mono (fun i _ h => .inr h)).trans us (fun i h => .inl (.inl h)),pl⟩
 have h1:=ownsRow_upd own' us (fun k hk e => hne' (by rw [hk,e]))
 rw [List.length_append,faCells,List.flatMap_append]
 simpa [faCells] using h1
structure LsF (w0 W:World) (lb:Nat) (L:List (Nat × Nat × Nat)) (v:Value):Prop where
 b:Blk W lb 74 #[v]
 own:W.ownsRow w0.heap.size 52 3 v L.length (faCells L)
 ne:v.ownBlock ≠ some lb
 u:Upd (fun q => q = lb) w0 W
theorem LsF.rg {w0 W:World} {lb:Nat} {L:List (Nat × Nat × Nat)} {v:Value} (h:LsF w0 W lb L v):RgM lb W:=fun u q hu hq => by
 have:=h.b.cell 0
 simp only [List.getElem?_toArray,List.getElem?_cons_zero] at this
 rw [this] at hu
 injection hu with e
 subst e
 exact (h.own.lt q hq).2
theorem ownsRow_other {w w':World} {base e size n:Nat} {v:Value} {xs:List Value} {row:Option Nat} (h:w.ownsRow base e size v n xs) (hg:w.grownBy w' row) (hn:∀ q,v.ownBlock = some q→row ≠ some q):w'.ownsRow base e size v n xs:=by
 have hu:=Upd.of_grown hg
 refine ownsRow_upd h hu (fun k hk e => hn k hk e)
theorem LsF.grown {w0 W W':World} {lb:Nat} {F:Nat→Prop} {L:List (Nat × Nat × Nat)} {v:Value} {row:Option Nat} (h:LsF w0 W lb L v) (hF:F lb) (hg:W.grownBy W' row) (hr:∀ k,row = some k→w0.heap.size ≤ k∧Prv lb F W k):LsF w0 W' lb L v:=
 ⟨h.b.grown hg (fun e => (hr lb e.symm).2.2 (.inl hF)),ownsRow_other h.own hg (fun q hq e => (hr q e).2.2 (.inr ⟨v,h.b.cell 0,hq⟩)),h.ne,h.u.grown hg (fun k hk => .inr (hr k hk).1)⟩
theorem kpM_of {lb:Nat} {F:Nat→Prop} {A B:World} {v v':Value} (ha:A.cell? ⟨lb,0,none⟩ = some v) (hb:B.cell? ⟨lb,0,none⟩ = some v') (hu:Upd (fun q => F q ∨ v.ownBlock = some q) A B) (hl:∀ q,v'.ownBlock = some q→q < B.heap.size) (pl:∀ k,v'.ownBlock = some k→v.ownBlock = some k ∨ A.heap.size ≤ k):KpM lb F A B:=by
 intro _
 refine ⟨hu.mono (fun i _ h => h.imp id (fun h => ⟨v,ha,h⟩)),fun u q h1 h2 => ?_⟩
 rw [hb] at h1
 injection h1 with e
 subst e
 refine ⟨hl q h2,fun hlt => ⟨v,ha,?_⟩⟩
 rcases pl q h2 with h | h
 ·exact h
 ·omega
theorem LsF.step {w0 W:World} {lb:Nat} {L:List (Nat × Nat × Nat)} {v:Value} (h:LsF w0 W lb L v) (m:Nat × Nat × Nat) (hl:(L.length + 1) * 24 ≤ 140737488355328) :
  ∃ v' W1,(Builtin.append_ #[74,74] 74 #[v,.slice (some ⟨W.heap.size,0,none⟩) 1 1]).run Tryz.prog (W.alloc (.cells #[.int .i64 (m.1:Int),.int .i64 (m.2.1:Int),.int .i64 (m.2.2:Int)] 52)) = .ok v' W1 ∧
   Blk W1 lb 74 #[v]∧LsF w0 (W1.setCell ⟨lb,0,none⟩ v') lb (L ++ [m]) v'∧KpM lb (fun q => q = lb) W (W1.setCell ⟨lb,0,none⟩ v'):=by
 obtain ⟨v',W1,h1,h2,h4,h5,h6,h7,h8⟩:=push_fact W w0.heap.size lb v L m h.b h.own h.ne hl h.u.size
 refine ⟨v',W1,h1,h2,⟨h4,h5,h6,h.u.trans h7 ?_⟩,kpM_of (h.b.cell 0) (h4.cell 0) h7 (fun q hq => (h5.lt q hq).2) h8⟩
 intro i hi
 rcases hi with hi | hi
 ·exact .inl hi
 ·exact .inr (h.own.lt i hi).1
theorem facF_mem (B:Mats):∀ (n k:Nat) (x:Nat × Nat × Nat),x ∈ facF B k n ↔ k ≤ x.1∧x.1 < k + n∧x.2 ∈ qcL (B x.1)
 | 0,k,x => by simp [facF];omega
 | n + 1,k,x => by
  rw [facF,List.mem_append,facF_mem B n (k + 1) x,List.mem_map]
  constructor
  ·rintro (⟨y,hy,rfl⟩ | ⟨h1,h2,h3⟩)
   ·exact ⟨Nat.le_refl _,by show k < _;omega,hy⟩
   ·exact ⟨by omega,by omega,h3⟩
  ·rintro ⟨h1,h2,h3⟩
   by_cases e:x.1 = k
   ·exact .inl ⟨x.2,by rw [← e];exact h3,by rw [← e]⟩
   ·exact .inr ⟨by omega,by omega,h3⟩
theorem facL_mem {B:Mats} {nts:Nat} (hw:∀ k,k < nts→Wd (oldW (B k))) {k i j:Nat}:(k,i,j) ∈ facL B nts ↔ k < nts∧i < 64∧j < 64∧bitO (B k) i j = true:=by
 unfold facL
 rw [facF_mem]
 constructor
 ·rintro ⟨-,h2,h3⟩
  have h2:k < nts:=by simpa using h2
  exact ⟨h2,(qcL_mem (hw k h2)).1 h3⟩
 ·rintro ⟨h2,h3⟩
  exact ⟨Nat.zero_le _,by simpa using h2,(qcL_mem (hw k h2)).2 h3⟩
theorem facF_len (B:Mats):∀ (n k:Nat),(∀ j,k ≤ j→j < k + n→Wd (oldW (B j)))→(facF B k n).length ≤ n * 4096
 | 0,k,_ => by simp [facF]
 | n + 1,k,h => by
  rw [facF,List.length_append,List.length_map,qcL_len]
  have h1:=lenB_most (h k (Nat.le_refl _) (by omega))
  have h2:=facF_len B n (k + 1) (fun j a b => h j (by omega) (by omega))
  omega
def FacP (w:World) (L:List (Nat × Nat × Nat)) (e:Ending) (w':World):Prop:=∃ A c,e = .returned (.slice A L.length c)∧w'.ownsRow w.heap.size 52 3 (.slice A L.length c) L.length (faCells L)∧Below w.heap.size w w'
theorem eql_seq_any (W:World) (f:Fn) (x y:Array Value):(binOp .eql 62 (.func f x y) .nilFunc).run Tryz.prog W = .ok (.bool false) W:=eql_seq_nil W f x y
theorem facts_any (w:World) (O:Nat→Option CRo) (p side n nts:Nat) (pv:Value) (ad:Nat→Nat) (B:Mats) (h:ClI w O p side n nts pv ad B) (hT:TabW w) (h1:1 ≤ nts) (h5:nts ≤ 512) :
  Calls Tryz.prog 35 #[.pointer (some ⟨p,0,none⟩)] w (FacP w (facL B nts)):=by
 have hwd:∀ k,k < nts→Wd (oldW (B k)):=fun k hk => by
  obtain ⟨F,hq,-⟩:=h.mats k hk
  exact hq.wd
 have hlen:(facL B nts).length ≤ 512 * 4096:=Nat.le_trans (facF_len B nts 0 (fun j _ hj => hwd j (by omega))) (Nat.mul_le_mul_right _ h5)
 have hQ:∀ x ∈ facL B nts,x.1 < 512∧x.2.1 < 64∧x.2.2 < 64:=fun x hx => by
  obtain ⟨k,i,j⟩:=x
  have:=(facL_mem hwd).1 hx
  exact ⟨Nat.lt_of_lt_of_le this.1 h5,this.2.1,this.2.2.1⟩
 have k3:=Blk.new w 74 #[.slice none 0 0]
 have b1:Below w.heap.size w (w.alloc (.cells #[.slice none 0 0] 74)):=(Below.refl _ _).alloc (Nat.le_refl _) _
 have hi:=h.upd (Upd.of_below b1 (fun _ => False)) (fun _ _ => id)
 have hT1:=hT.upd (Upd.of_below b1 (fun _ => False)) hT.lt id
 have hfa:=afacts_any (w.alloc (.cells #[.slice none 0 0] 74)) O p side n nts pv ad B hi h1 h5
 have HE:=fun (W:World) (f:Fn) (x y:Array Value) => eql_seq_any W f x y
 have H:=Lib.hid (And.intro b1 (And.intro k3 (And.intro hi (And.intro hT1 (And.intro hwd (And.intro hlen (And.intro hQ (And.intro h.lt hT.lt))))))))
 have hz:(w.alloc (.cells #[.slice none 0 0] 74)).heap.size = w.heap.size + 1:=by simp
 have HZ:=Lib.hid hz
 clear b1 k3 hi hT1 hwd hlen hQ h hT hz
 refine (callsIn_wide (n:=1)).1 ?_
 refine callsIn_of_wp_marks Tryz.func35 rfl trivial ?_ rfl
 simp only [Tryz.ntmps35,List.size_toArray,List.length_cons,List.length_nil,Nat.reduceAdd,Nat.reduceSub,Array.replicate_succ,Array.replicate_zero,List.push_toArray,List.append_toArray,List.nil_append,List.cons_append]
 refine wpIn_wide.2 ?_
 go_upto_region 2 with (fail)
 generalize hW1:w.alloc (.cells #[.slice none 0 0] 74) = W1 at H HZ hfa ⊢
 clear hW1
 go_wp2_with fail
 refine hfa.mono ?_
 clear hfa
 rintro e W2 ⟨g,A,c,hg,rfl,kg,own,b2⟩
 have H2:=Lib.hid (And.intro hg (And.intro kg (And.intro own b2)))
 clear hg kg own b2
 have hEq:=HE W2.drew (.func 76) #[] #[.pointer (some ⟨g,0,none⟩)]
 have hEq2:=HE W2 (.func 76) #[] #[.pointer (some ⟨g,0,none⟩)]
 go_wp2
 have hb12:Below w.heap.size w W2:=H.out.1.trans (H2.out.2.2.2.mono H.out.1.size)
 have hFW:FacW W2 g c nts side A ad B (fun q => O q ≠ none):=⟨H.out.2.2.2.1.upd (Upd.of_below H2.out.2.2.2 (fun _ => False)) H.out.2.2.2.1.lt id,H2.out.2.1,ownsRow_base H2.out.2.2.1 (fun _ _ => Nat.zero_le _),fun k hk => by
  obtain ⟨F,hq,hF⟩:=H.out.2.2.1.mats k hk
  exact ⟨F,hq.below H2.out.2.2.2,fun q hq e => by rw [hF q hq] at e;cases e⟩⟩
 have hOc:∀ q,O q ≠ none→q < w.heap.size:=fun q hq => H.out.2.2.2.2.2.2.2.1 q hq
 have hst:=af_stops W2 g c nts side A ad B (fun q => O q ≠ none) hFW (fun q hq => Nat.lt_of_lt_of_le (hOc q hq) hb12.size) h1 h5 (fun x => x.1 < 512∧x.2.1 < 64∧x.2.2 < 64) (fun _ h => h) H.out.2.2.2.2.2.2.1
 have kl:=H.out.2.1.upd (Upd.of_below H2.out.2.2.2 (fun _ => False)) id
 have hz1:=HZ.out
 have hz2:=H2.out.2.2.2.size
 have hFo:∀ q,FacO g (.slice A nts c) (fun q => O q ≠ none) q→q < W2.heap.size∧q ≠ w.heap.size:=fun q hq => by
  rcases hq with rfl | rfl | hq | hq
  ·have:=H.out.2.2.2.2.2.2.2.2;omega
  ·have:=H2.out.1;have:=H2.out.2.1.lt;omega
  ·have:=H2.out.2.2.1.lt q hq;omega
  ·have:=hOc q hq;omega
 have i0:LsF W2 W2 w.heap.size [] (.slice none 0 0):=⟨kl,World.ownsRow_nil _ _ _ _,by simp [Value.ownBlock],Upd.refl _ _⟩
 have hOwn:OwnP w.heap.size (fun q => q = w.heap.size) W2.heap.size (fun (pre:List {x:Nat × Nat × Nat // x.1 < 512∧x.2.1 < 64∧x.2.2 < 64}) V => ∃ v,LsF W2 V w.heap.size (pre.map (·.1)) v):=by
  rintro s X Y row ⟨v,h⟩ hg hr
  exact ⟨v,h.grown (F:=fun q => q = w.heap.size) rfl hg hr⟩
 have HS:=Lib.hid (And.intro hst (And.intro hFo (And.intro i0 (And.intro hOwn hb12))))
 have hlb2:w.heap.size < W2.heap.size:=by omega
 clear hst hFo i0 hOwn hb12 hFW hOc kl hz1 hz2
 refine wp_rangeM (gf:=76) (cap:=#[.pointer (some ⟨g,0,none⟩)]) rfl (enters_of Tryz.func76 (by kernel_rfl) rfl) HS.out.1 (Below.refl _ _) (fun q hq => (HS.out.2.1 q hq).1) (fun _ => rfl)
  w.heap.size (fun q => q = w.heap.size) hlb2 HS.out.2.2.1.rg (fun q e => ⟨by omega,fun ho => (HS.out.2.1 q ho).2 e⟩) (fun v q hv ho => by
   have:=HS.out.2.2.1.b.cell 0
   rw [this] at hv
   simp only [List.getElem?_toArray,List.getElem?_cons_zero] at hv
   injection hv with hv
   subst hv
   cases ho)
  _ (fun _ _ _ => False) HS.out.2.2.2.1 (fun c s X Y row h _ _ => h) ⟨_,HS.out.2.2.1⟩
  (fun T y b => (T.setIfInBounds 11 (.agg #[.int .i64 (y.1.1:Int),.int .i64 (y.1.2.1:Int),.int .i64 (y.1.2.2:Int)])).setIfInBounds 5 (.pointer (some ⟨b,0,none⟩)))
  (fun y b V => (∃ v,Blk V w.heap.size 74 #[v]∧v.ownBlock ≠ some b)∧Blk V b 52 #[.int .i64 (y.1.1:Int),.int .i64 (y.1.2.1:Int),.int .i64 (y.1.2.2:Int)]∧W2.heap.size ≤ b)
  ?hBx ?assign ?body ?done ?stop
 case hBx =>
  rintro x b st X Y row ⟨⟨v,h1,h2⟩,h3,h4⟩ hg hr
  exact ⟨⟨v,h1.keep hg hr,h2⟩,h3.keep hg hr,h4⟩
 case assign =>
  rintro l2 pre y V Kc hrV hsV ⟨v,hi⟩ hK
  dsimp only [enc3]
  have HI2:=Lib.hid hi
  clear hi
  gi_wp2
  have hi:=HI2.out
  refine hK V.heap.size _ (KpM.of_below ((Below.refl _ _).alloc (Nat.le_refl _) _) hi.b.lt) ⟨v,hi.b.alloc _,hi.own.alloc _,hi.ne,hi.u.alloc _⟩ ⟨⟨v,hi.b.alloc _,fun e => ?_⟩,Blk.new V _ _,hi.u.size⟩
  have:=(hi.own.lt _ e).2
  omega
 case stop => exact fun _ _ _ _ h => h.elim
 case body =>
  rintro l2 pre ⟨⟨k,i,j⟩,hy⟩ b V hrV hsV ⟨v,hi⟩ ⟨⟨v',hb1,hb2⟩,hb3,hb4⟩ hlt2
  obtain rfl:v = v':=by
   have e1:=hi.b.cell 0
   have e2:=hb1.cell 0
   rw [e1] at e2
   simpa using e2
  dsimp only at hb3
  obtain ⟨v9,V1,happ,kb1,hL,hk⟩:=hi.step (k,i,j) (by rw [List.length_map];have:=H.out.2.2.2.2.2.1;omega)
  obtain ⟨A9,c9,hv9,-,-⟩:=own_form hL.own
  generalize (pre.map (·.1) ++ [(k,i,j)]).length = n9 at hv9
  subst hv9
  have c5:V.cell? ⟨w.heap.size,0,none⟩ = some v:=hi.b.cell 0
  have m0:V.cell? ⟨b,0,none⟩ = some (.int .i64 (k:Int)):=hb3.cell 0
  have m1:V.cell? ⟨b,1,none⟩ = some (.int .i64 (i:Int)):=hb3.cell 1
  have m2:V.cell? ⟨b,2,none⟩ = some (.int .i64 (j:Int)):=hb3.cell 2
  have g5:V1.cell? ⟨w.heap.size,0,none⟩ = some v:=kb1.cell 0
  have f5:=kb1.frozen 0
  have hfin:KpM w.heap.size (fun q => q = w.heap.size) V (V1.setCell ⟨w.heap.size,0,none⟩ (.slice A9 n9 c9))∧∃ v,LsF W2 (V1.setCell ⟨w.heap.size,0,none⟩ (.slice A9 n9 c9)) w.heap.size ((pre ++ [(⟨(k,i,j),hy⟩:{x:Nat × Nat × Nat // x.1 < 512∧x.2.1 < 64∧x.2.2 < 64})]).map (·.1)) v:=⟨hk,_,by rw [List.map_append];exact hL⟩
  have HF:=Lib.hid hfin
  clear hfin hk hL kb1 hb1 hb2 hb3 hi hrV
  simp only [sA,sZ,sS]
  gi_wp2_with (gi_at_builtin;refine wpListIn_append_run rfl _ _ _ rfl rfl rfl happ ?_)
  exact HF.out
 case done =>
  rintro ys V rfl ⟨v,hi⟩ hrV pD hD
  rw [subF_map] at hi
  obtain ⟨A9,c9,hv9,-,-⟩:=own_form hi.own
  have hn9:(facL B nts).length = (facL B nts).length:=rfl
  have q3:V.cell? ⟨w.heap.size,0,none⟩ = some (.slice A9 (facL B nts).length c9):=by rw [← hv9];exact hi.b.cell 0
  subst hv9
  have HD:=Lib.hid (And.intro hi (And.intro pD hD))
  clear hi pD hD hrV hn9
  go_wp2
  refine leaves_own (B:=W2.heap.size) (F:=fun q => q = w.heap.size) (fun w1 => LsF W2 w1 w.heap.size (facL B nts) (.slice A9 (facL B nts).length c9)) ?_ hlb2 ?_ [W2.heap.size] V (by simp) (fun D hD' => ?_) HD.out.1.b.lt HD.out.1
  ·rintro s X Y row h2 hg hrr
   exact h2.grown (F:=fun q => q = w.heap.size) rfl hg hrr
  ·intro w1 h2
   refine ⟨.slice A9 (facL B nts).length c9,by simp [results,Tryz.f35,go_sem],A9,c9,rfl,ownsRow_base h2.own (fun k hk => Nat.le_trans HS.out.2.2.2.2.size (h2.own.lt k hk).1),HS.out.2.2.2.2.trans (h2.u.below (fun q _ e => by omega) (by omega))⟩
  ·simp only [List.mem_singleton] at hD'
   subst hD'
   exact ⟨Nat.le_refl _,HD.out.2.1,HD.out.2.2⟩
end Go.Proofs.YtddffnonlmfhdaaGreatDoor
namespace Go.Proofs.YtddffnonlmfhdaaGreatDoor
open Go.RowKit Go.Shelf
theorem fact_stood:Tryz.prog.stoodInHeld 52 = false:=by kernel_rfl
theorem fact_part (W:World) (a b c:Int) (k:Nat) (x:Int) (h:[a,b,c][k]? = some x):(part 3 #[.int .i64 a,.int .i64 b,.int .i64 c] k).run Tryz.prog W = .ok (.int .i64 x) W:=by
 match k,h with
 | 0,h => simp at h;subst h;simp [part,isAgg,run_underlying Tryz.underlying3]
 | 1,h => simp at h;subst h;simp [part,isAgg,run_underlying Tryz.underlying3]
 | 2,h => simp at h;subst h;simp [part,isAgg,run_underlying Tryz.underlying3]
 | k + 3,h => simp at h
theorem fact_neq (W:World) (a0 a1 a2 b0 b1 b2:Int):(binOp .neq 52 (.agg #[.int .i64 a0,.int .i64 a1,.int .i64 a2]) (.agg #[.int .i64 b0,.int .i64 b1,.int .i64 b2])).run Tryz.prog W = .ok (.bool (!(a0 == b0 && (a1 == b1 && a2 == b2)))) W:=by
 have hs:Tryz.prog.underlying 52 = some (.struct (Tryz.prog.fieldsOf 52)):=by kernel_rfl
 have h9:=fun a b => run_equalIn_int (P:=Tryz.prog) W 9998 3 .i64 .i64 a b Tryz.underlying3
 have pa:=fact_part W a0 a1 a2
 have pb:=fact_part W b0 b1 b2
 have e:(Op.equal 52 (.agg #[.int .i64 a0,.int .i64 a1,.int .i64 a2]) (.agg #[.int .i64 b0,.int .i64 b1,.int .i64 b2])).run Tryz.prog W = .ok (a0 == b0 && (a1 == b1 && a2 == b2)) W:=by
  show (Op.equalIn (9999 + 1) _ _ _).run _ _ = _
  rw [run_equalIn_struct (P:=Tryz.prog) W 9999 _ _ _ hs fact_stood]
  simp only [Program.fieldsOf,Tryz.underlying52,Op.eqFields]
  rw [if_pos (by decide),if_pos (by decide),if_pos (by decide)]
  simp only [Sem.run_bind,pa 0 a0 rfl,pb 0 b0 rfl,h9,Result.andThen_ok]
  cases a0 == b0
  ·simp
  ·simp only [Bool.not_true,Bool.false_eq_true,if_false,Sem.run_bind,pa 1 a1 rfl,pb 1 b1 rfl,h9,Result.andThen_ok,Bool.true_and]
   cases a1 == b1
   ·simp
   ·simp only [Bool.not_true,Bool.false_eq_true,if_false,Sem.run_bind,pa 2 a2 rfl,pb 2 b2 rfl,h9,Result.andThen_ok,Bool.true_and]
    cases a2 == b2 <;> simp
 clear pa pb h9 hs
 simp only [binOp]
 simp [e]
theorem RowR.fact {w:World} {A:Option Addr} {L:List (Nat × Nat × Nat)} (h:RowR w A (faCells L)) {k:Nat} {x:Nat × Nat × Nat} (hk:L[k]? = some x) :
  ∃ b o,A = some ⟨b,o,none⟩∧w.cell? ⟨b,o + k * 3,none⟩ = some (.int .i64 (x.1:Int))∧w.cell? ⟨b,o + k * 3 + 1,none⟩ = some (.int .i64 (x.2.1:Int))∧w.cell? ⟨b,o + k * 3 + 2,none⟩ = some (.int .i64 (x.2.2:Int)):=by
 have hg:=fun j (hj:j < 3) => flat_get faC 3 (fun _ => rfl) L k j x hk hj
 obtain ⟨b,o,rfl,h0⟩:=h _ _ (hg 0 (by omega))
 obtain ⟨b1,o1,e1,h1⟩:=h _ _ (hg 1 (by omega))
 obtain ⟨b2,o2,e2,h2⟩:=h _ _ (hg 2 (by omega))
 injection e1 with e1;injection e1 with e1 e1'
 injection e2 with e2;injection e2 with e2 e2'
 subst e1;subst e1';subst e2;subst e2'
 exact ⟨_,_,rfl,h0,h1,h2⟩
theorem same_any (w:World) (A B:Option Addr) (c d:Nat) (L:List (Nat × Nat × Nat)) (hA:RowR w A (faCells L)) (hB:RowR w B (faCells L)) (hl:L.length ≤ 2097152) :
  Calls Tryz.prog 36 #[.slice A L.length c,.slice B L.length d] w (Sam w (.bool true)):=by
 obtain ⟨m,hm⟩:∃ m,L.length = m:=⟨_,rfl⟩
 have HM:=Lib.hid hm
 have hm1:m ≤ 2097152:=by omega
 rw [hm]
 have H:=Lib.hid (And.intro hA hB)
 clear hA hB hm hl
 go_enter Tryz.func36,Tryz.ntmps36
 go_wp2_with fail
 go_loopw [5] (fun iv wr => ∃ k:Nat,k ≤ m∧iv = .int .i64 k∧Hid (Below w.heap.size w wr)) (fun iv _ => m - (intOf iv).toNat)
 case atStart => exact ⟨0,Nat.zero_le _,rfl,Lib.hid (Below.refl _ _)⟩
 case round =>
  obtain ⟨k,hk,rfl,hbw⟩:=hrel
  by_cases hlt:k < m
  ·have hltI:(k:Int) < (m:Int):=by omega
   have hkw:IntKind.i64.wrap ((k:Int) + 1) = (k:Int) + 1:=IntWalk.i64_in _ (by omega)
   obtain ⟨⟨x0,x1,x2⟩,hx⟩:∃ x,L[k]? = some x:=⟨L[k]'(by rw [HM.out];exact hlt),List.getElem?_eq_getElem _⟩
   obtain ⟨ab,ao,rfl,a0,a1,a2⟩:=(H.out.1.below hbw.out).fact hx
   obtain ⟨bb,bo,rfl,b0,b1,b2⟩:=(H.out.2.below hbw.out).fact hx
   dsimp only at a0 a1 a2 b0 b1 b2
   have hneq:∀ W,(binOp .neq 52 (.agg #[.int .i64 (x0:Int),.int .i64 (x1:Int),.int .i64 (x2:Int)]) (.agg #[.int .i64 (x0:Int),.int .i64 (x1:Int),.int .i64 (x2:Int)])).run Tryz.prog W = .ok (.bool false) W:=fun W => by
    rw [fact_neq];simp
   clear hx
   go_upto_region 6 with (fail)
   refine wp_region_ord (fun w' => w'.cell? ⟨ab,ao + k * 3,none⟩ = some (.int .i64 (x0:Int))∧w'.cell? ⟨ab,ao + k * 3 + 1,none⟩ = some (.int .i64 (x1:Int))∧w'.cell? ⟨ab,ao + k * 3 + 2,none⟩ = some (.int .i64 (x2:Int))∧w'.cell? ⟨bb,bo + k * 3,none⟩ = some (.int .i64 (x0:Int))∧w'.cell? ⟨bb,bo + k * 3 + 1,none⟩ = some (.int .i64 (x1:Int))∧w'.cell? ⟨bb,bo + k * 3 + 2,none⟩ = some (.int .i64 (x2:Int))) 9 [(0,true),(1,true),(2,true),(3,true),(4,true),(5,true),(6,true),(7,true),(8,true)] (by kernel_rfl) (by kernel_rfl) (fun _ _ d _ _ h => by cases d <;> exact h) ⟨a0,a1,a2,b0,b1,b2⟩ ?_
   iterate 9 (refine ord_takeA rfl ?_;(try simp only [Act.put,gA,gS,gZ,sA,sZ,sS]))
   refine ord_done ?_
   go_wp2
   go_roundw
   case rel => exact ⟨k + 1,by omega,by go_num,Lib.hid hbw.out.drew⟩
   case measure => simp [intOf];omega
  ·obtain rfl:k = m:=by omega
   go_wp2
   go_ret
   exact ⟨rfl,hbw.out⟩
end Go.Proofs.YtddffnonlmfhdaaGreatDoor
namespace Go.Proofs.YtddffnonlmfhdaaGreatDoor
open Go.RowKit Go.Shelf
theorem gok_of {N:List Txt} {E:List Ed} (h:checkI N E = 0):GOk ⟨N,E⟩:=by
 have hf:=form_iff (check_caps h).1
 exact ⟨hf.1.nodup stoT,hf.2.1.nodup stoE,hf.2.2,(same_of h (fun _ => Iff.rfl) (fun _ => Iff.rfl)).1⟩
theorem up_eq {α:Type} {lt:α→α→Prop} (tr:∀ a b,lt a b→¬ lt b a):∀ {L M:List α},L.Pairwise lt→M.Pairwise lt→(∀ x,x ∈ L ↔ x ∈ M)→L = M
 | [],[],_,_,_ => rfl
 | [],y :: M,_,_,h => absurd ((h y).2 (by simp)) (by simp)
 | x :: L,[],_,_,h => absurd ((h x).1 (by simp)) (by simp)
 | x :: L,y :: M,hL,hM,h => by
  obtain ⟨h1,h2⟩:=List.pairwise_cons.1 hL
  obtain ⟨h3,h4⟩:=List.pairwise_cons.1 hM
  obtain rfl:x = y:=by
   rcases List.mem_cons.1 ((h x).1 (by simp)) with e | hx
   ·exact e
   rcases List.mem_cons.1 ((h y).2 (by simp)) with e | hy
   ·exact e.symm
   exact absurd (h1 y hy) (tr _ _ (h3 x hx))
  rw [up_eq tr h2 h4 (fun z => ?_)]
  have hz:=h z
  simp only [List.mem_cons] at hz
  have irr:∀ a,¬ lt a a:=fun a ha => tr a a ha ha
  constructor
  ·intro hm
   rcases hz.1 (.inr hm) with rfl | hm'
   ·exact absurd (h1 _ hm) (irr _)
   ·exact hm'
  ·intro hm
   rcases hz.2 (.inr hm) with rfl | hm'
   ·exact absurd (h3 _ hm) (irr _)
   ·exact hm'
theorem ltC_asym (a b:Nat × Nat) (h:ltC a b):¬ ltC b a:=by
 unfold ltC at *
 omega
theorem qcL_same {b c:Option (List Nat)} (hb:Wd (oldW b)) (hc:Wd (oldW c)) (h:∀ i j,bitO b i j = bitO c i j):qcL b = qcL c:=
 up_eq ltC_asym (qcL_up b) (qcL_up c) (fun ⟨i,j⟩ => by rw [qcL_mem hb,qcL_mem hc,h i j])
theorem facF_same {B C:Mats}:∀ (n k:Nat),(∀ j,k ≤ j→j < k + n→qcL (B j) = qcL (C j))→facF B k n = facF C k n
 | 0,_,_ => rfl
 | n + 1,k,h => by
  rw [facF,facF,h k (Nat.le_refl _) (by omega),facF_same n (k + 1) (fun j a b => h j (by omega) (by omega))]
theorem facL_same {B C:Mats} {nts:Nat} (hb:∀ k,k < nts→Wd (oldW (B k))) (hc:∀ k,k < nts→Wd (oldW (C k))) (h:∀ k,k < nts→∀ i j,bitO (B k) i j = bitO (C k) i j):facL B nts = facL C nts:=
 facF_same nts 0 (fun j _ hj => by
  have hj:j < nts:=by omega
  exact qcL_same (hb j hj) (hc j hj) (h j hj))
theorem facL_len (B:Mats):∀ (n:Nat),(facL B n).length = lenM B n:=by
 have h:∀ n k,(facF B k n).length = sumN (fun j => lenB (oldW (B (k + j)))) n:=by
  intro n
  induction n with
  | zero => intro k;rfl
  | succ n ih =>
   intro k
   rw [facF,List.length_append,List.length_map,qcL_len,ih (k + 1)]
   have hs:∀ (f:Nat→Nat) (m:Nat),sumN f (m + 1) = f 0 + sumN (fun j => f (j + 1)) m:=by
    intro f m
    induction m with
    | zero => simp [sumN]
    | succ m im =>
     rw [sumN,im,sumN]
     omega
   rw [hs]
   congr 1
   congr 1
   funext j
   rw [show k + 1 + j = k + (j + 1) by omega]
 intro n
 unfold facL lenM
 rw [h n 0]
 congr 1
 funext j
 rw [Nat.zero_add]
theorem at_grow {N:List Txt} {s t:Txt} {k:Nat} (h:N[k]? = some t):(addN N s)[k]? = some t:=by
 unfold addN
 split
 ·exact h
 ·rw [List.getElem?_append_left (List.getElem?_eq_some_iff.1 h).1];exact h
theorem len_grow (N:List Txt) (s:Txt):N.length ≤ (addN N s).length:=by
 unfold addN
 split
 ·exact Nat.le_refl _
 ·rw [List.length_append];omega
theorem edge_grow (G:Gr) (x:Ed):G.N.length ≤ (addEdge G x).1.N.length∧(∀ (k:Nat) t,G.N[k]? = some t→(addEdge G x).1.N[k]? = some t)∧∀ y ∈ G.X,y ∈ (addEdge G x).1.X:=by
 unfold addEdge
 split
 ·exact ⟨Nat.le_refl _,fun _ _ h => h,fun _ h => h⟩
 split
 ·refine ⟨Nat.le_trans (len_grow _ _) (len_grow _ _),fun k t h => at_grow (at_grow h),fun y hy => List.mem_append_left _ hy⟩
 ·exact ⟨Nat.le_refl _,fun _ _ h => h,fun _ h => h⟩
theorem elg_grow {G:Gr} {x:Ed} {labels:List Txt} {k:Int} {i j:Nat} (h:ElG G labels k i j):ElG (addEdge G x).1 labels k i j:=by
 obtain ⟨lb,h1,y,h2,h3,h4,h5⟩:=h
 have g:=edge_grow G x
 exact ⟨lb,h1,y,g.2.2 y h2,h3,g.2.1 _ _ h4,g.2.1 _ _ h5⟩
theorem achk_same {nts:Int} {PV PV':List Pv} {labels:List Txt} (h1:PV.length ≤ 60) (h2:PV'.length ≤ 120) (h:∀ v,v ∈ PV' ↔ v ∈ PV):achkI nts PV' labels = achkI nts PV labels:=by
 unfold achkI
 have e:(∀ v ∈ PV',shapeOf v.pr nts labels.length = true) ↔ ∀ v ∈ PV,shapeOf v.pr nts labels.length = true:=⟨fun g v hv => g v ((h v).2 hv),fun g v hv => g v ((h v).1 hv)⟩
 by_cases c1:16 < labels.length ∨ nts < 1 ∨ 512 < nts
 ·rw [if_pos (show 16 < labels.length ∨ nts < 1 ∨ 512 < nts ∨ 8192 < PV'.length by omega),if_pos (show 16 < labels.length ∨ nts < 1 ∨ 512 < nts ∨ 8192 < PV.length by omega)]
 ·rw [if_neg (show ¬ (16 < labels.length ∨ nts < 1 ∨ 512 < nts ∨ 8192 < PV'.length) by omega),if_neg (show ¬ (16 < labels.length ∨ nts < 1 ∨ 512 < nts ∨ 8192 < PV.length) by omega)]
  simp only [e]
theorem der_same {PV PV':List Pv} {El:Int→Nat→Nat→Prop} {n:Nat} (h:∀ v,v ∈ PV' ↔ v ∈ PV) {a:Int} {i j:Nat}:DerP (PV.map (·.pr)) El n a i j ↔ DerP (PV'.map (·.pr)) El n a i j:=by
 constructor
 ·exact DerP.mono (fun p hp => by
   obtain ⟨v,hv,rfl⟩:=List.mem_map.1 hp
   exact List.mem_map.2 ⟨v,(h v).2 hv,rfl⟩) (fun _ _ _ => id) (Nat.le_refl _)
 ·exact DerP.mono (fun p hp => by
   obtain ⟨v,hv,rfl⟩:=List.mem_map.1 hp
   exact List.mem_map.2 ⟨v,(h v).1 hv,rfl⟩) (fun _ _ _ => id) (Nat.le_refl _)
theorem rev_mem (PV:List Pv) (v:Pv):v ∈ PV.reverse ++ PV ↔ v ∈ PV:=by simp
theorem order_same {nts:Nat} {B C:Mats} {PV PV':List Pv} {El:Int→Nat→Nat→Prop} {n:Nat} (h:∀ v,v ∈ PV' ↔ v ∈ PV) (wB:∀ k,WdO (B k)) (wC:∀ k,WdO (C k))
  (hB:∀ k,k < nts→∀ i j,bitO (B k) i j = true ↔ DerP (PV.map (·.pr)) El n (k:Int) i j) (hC:∀ k,k < nts→∀ i j,bitO (C k) i j = true ↔ DerP (PV'.map (·.pr)) El n (k:Int) i j):facL B nts = facL C nts:=
 facL_same (fun k _ => (wB k).old) (fun k _ => (wC k).old) (fun k hk i j => by
  rw [Bool.eq_iff_iff,hB k hk i j,hC k hk i j]
  exact der_same h)
theorem order_more {nts:Nat} {B C:Mats} {PV PV':List Pv} {G:Gr} {x:Ed} {labels:List Txt} (h:∀ v ∈ PV,v ∈ PV') (wB:∀ k,WdO (B k))
  (hB:∀ k,k < nts→∀ i j,bitO (B k) i j = true ↔ DerP (PV.map (·.pr)) (ElG G labels) G.N.length (k:Int) i j) (hC:∀ k,k < nts→∀ i j,bitO (C k) i j = true ↔ DerP (PV'.map (·.pr)) (ElG (addEdge G x).1 labels) (addEdge G x).1.N.length (k:Int) i j)
  {k i j:Nat} (hm:(k,i,j) ∈ facL B nts):hasV (addEdge G x).1.N.length nts C (k:Int) (i:Int) (j:Int) = .tuple #[.bool true,.int .i64 0]:=by
 obtain ⟨hk,-,-,hb⟩:=(facL_mem (fun k _ => (wB k).old)).1 hm
 have d:=(hB k hk i j).1 hb
 have hlt:=d.lt (fun _ _ _ he => he.lt)
 have g:=edge_grow G x
 unfold hasV
 rw [if_pos (by omega),Int.toNat_natCast,Int.toNat_natCast,Int.toNat_natCast]
 rw [(hC k hk i j).2 (d.mono (fun p hp => by
  obtain ⟨v,hv,rfl⟩:=List.mem_map.1 hp
  exact List.mem_map.2 ⟨v,h v hv,rfl⟩) (fun _ _ _ he => elg_grow he) g.1)]
end Go.Proofs.YtddffnonlmfhdaaGreatDoor
namespace Go.Proofs.YtddffnonlmfhdaaGreatDoor
open Go.RowKit Go.Shelf
theorem one_pv (l:List Pv):∀ u ∈ pvCells l,u.oneCell' = true:=by
 intro u hu
 obtain ⟨v,-,hu⟩:=List.mem_flatMap.1 hu
 simp [Pv.cells] at hu
 rcases hu with rfl | rfl <;> rfl
structure OrO (W:World) (B0 g:Nat) (nts:Int) (L:List Pv) (n:Nat) (A:Option Addr) (c:Nat):Prop where
 b:Blk W g 50 #[.int .i64 nts,.slice A n c]
 own:W.ownsRow B0 71 2 (.slice A n c) n (pvCells L)
 ne:(Value.slice A n c).ownBlock ≠ some g
 len:L.length = n
 g0:B0 ≤ g
theorem OrO.upd {W V:World} {B0 g n c:Nat} {nts:Int} {L:List Pv} {A:Option Addr} {F:Nat→Prop} (h:OrO W B0 g nts L n A c) (hu:Upd F W V) (hd:∀ q,B0 ≤ q→¬ F q):OrO V B0 g nts L n A c:=
 ⟨h.b.upd hu (hd _ h.g0),ownsRow_upd h.own hu (fun q hq => hd _ (h.own.lt q hq).1),h.ne,h.len,h.g0⟩
theorem OrO.below {W V:World} {B0 g n c:Nat} {nts:Int} {L:List Pv} {A:Option Addr} (h:OrO W B0 g nts L n A c) (hb:Below W.heap.size W V):OrO V B0 g nts L n A c:=
 ⟨h.b.upd (Upd.of_below hb (fun _ => False)) id,ownsRow_upd h.own (Upd.of_below hb (fun _ => False)) (fun _ _ => id),h.ne,h.len,h.g0⟩
theorem OrO.app {W:World} {B0 g n c:Nat} {nts:Int} {L:List Pv} {A:Option Addr} (h:OrO W B0 g nts L n A c) (M:List Pv) (R:Option Addr) (m d:Nat) (hr:RowR W R (pvCells M)) (hm:M.length = m) (hl:(n + m) * 32 ≤ 140737488355328) (hB:B0 ≤ W.heap.size) :
  ∃ A' c' W1,(Builtin.append_ #[48,48] 48 #[.slice A n c,.slice R m d]).run Tryz.prog W = .ok (.slice A' (n + m) c') W1∧Blk W1 g 50 #[.int .i64 nts,.slice A n c] ∧
   OrO (W1.setCell ⟨g,1,none⟩ (.slice A' (n + m) c')) B0 g nts (L ++ M) (n + m) A' c'∧Below B0 W (W1.setCell ⟨g,1,none⟩ (.slice A' (n + m) c'))∧Below B0 W W1∧Upd (fun q => q = g ∨ (Value.slice A n c).ownBlock = some q) W (W1.setCell ⟨g,1,none⟩ (.slice A' (n + m) c')):=by
 obtain ⟨A',c',W1,happ,own',up,pl⟩:=append_row2 W B0 48 71 2 32 _ Tryz.underlying48 info_prod rfl (by decide) (by decide) A n c _ h.own R m d (pvCells M) hr (by rw [pvCells_len,hm]) (one_pv M) hl hB
 have kb:=h.b.upd up h.ne
 have hne':(Value.slice A' (n + m) c').ownBlock ≠ some g:=by
  intro e
  rcases pl g e with h1 | h1
  ·exact h.ne h1
  ·have:=h.b.lt;omega
 have hb1:Below B0 W W1:=up.below (fun q _ hq => (h.own.lt q hq).1) hB
 have us:Upd (fun q => q = g) W1 (W1.setCell ⟨g,1,none⟩ (.slice A' (n + m) c')):=(Upd.refl (fun q => q = g) W1).setCell (p:=⟨g,1,none⟩) (.inl rfl) _
 refine ⟨A',c',W1,happ,kb,⟨?_,?_,hne',by rw [List.length_append,h.len,hm],h.g0⟩,hb1.setCell h.g0 _,hb1,(up.mono (fun i _ h => .inr h)).trans us (fun i h => .inl (.inl h))⟩
 ·exact kb.set 1 _
 ·have:=ownsRow_upd own' us (fun k hk e => hne' (by rw [hk,e]))
  rw [show pvCells (L ++ M) = pvCells L ++ pvCells M by simp [pvCells]]
  exact this
structure OrU (V:World) (z:Nat) (nts:Int) (PA:Option Addr) (m pc:Nat) (PV:List Pv) (LA:Option Addr) (labels:List Txt) (A:Option Addr) (c:Nat) (B:Option Addr) (d:Nat) (N:List Txt) (E:List Ed) (more:Pv) (x:Ed):Prop where
 k5:Blk V z 50 #[.int .i64 nts,.slice PA m pc]
 k7:Blk V (z + 1) 34 #[.slice A N.length c,.slice B E.length d]
 k8:Blk V (z + 2) 71 more.cells.toArray
 k9:Blk V (z + 3) 32 #[.string x.fr,.string x.lb,.string x.to]
 pv:PvR V PA PV
 lab:RowR V LA (txtCells labels)
 ed:ForG V A c B d N E
 mo:RowR V more.adr (syCells more.pr.body)
 tab:TabW V
theorem OrU.upd {V W:World} {z:Nat} {nts:Int} {PA:Option Addr} {m pc:Nat} {PV:List Pv} {LA:Option Addr} {labels:List Txt} {A:Option Addr} {c:Nat} {B:Option Addr} {d:Nat} {N:List Txt} {E:List Ed} {more:Pv} {x:Ed}
  (h:OrU V z nts PA m pc PV LA labels A c B d N E more x) (hb:Below V.heap.size V W):OrU W z nts PA m pc PV LA labels A c B d N E more x:=by
 have hu:=Upd.of_below hb (fun _ => False)
 exact ⟨h.k5.upd hu id,h.k7.upd hu id,h.k8.upd hu id,h.k9.upd hu id,h.pv.below hb,h.lab.below hb,h.ed.below hb,h.mo.below3 hb,h.tab.upd hu h.tab.lt id⟩
def NwC (W W':World) (nts:Int) (PV:List Pv) (labels:List Txt) (G:Gr) (v:Value) (e:Int):Prop:=
 Below W.heap.size W W'∧((achkI nts PV labels = 2∧v = .pointer none∧e = 2) ∨ (achkI nts PV labels = 0∧e = 0∧∃ (p:Nat) (F:Nat→Prop) (B:Mats),v = .pointer (some ⟨p,0,none⟩)∧ClS W' F p (max 1 G.N.length) G.N.length nts.toNat B∧(∀ k,F k→W.heap.size ≤ k) ∧
  (∀ k,k < nts.toNat→∀ i j,bitO (B k) i j = true ↔ DerP (PV.map (·.pr)) (ElG G labels) G.N.length (k:Int) i j)∧∀ k,WdO (B k)))
theorem nwC_of {W W':World} {nts:Int} {PV:List Pv} {labels:List Txt} {G:Gr} {e:Ending} (h:NewQ W nts PV labels G e W'):∃ v c,e = .returned (.tuple #[v,.int .i64 c])∧NwC W W' nts PV labels G v c:=by
 rcases h with ⟨h1,h2,h3⟩ | ⟨h1,p,F,B,h2,h3,h4,h5,h6⟩
 ·exact ⟨_,_,h2,h3,.inl ⟨h1,rfl,rfl⟩⟩
 ·exact ⟨_,_,h2,h5,.inr ⟨h1,rfl,p,F,B,rfl,h3,h4,h6⟩⟩
theorem orNew {V:World} {z:Nat} {nts:Int} {PA:Option Addr} {m pc:Nat} {PV:List Pv} {LA:Option Addr} {labels:List Txt} {A:Option Addr} {c:Nat} {B:Option Addr} {d:Nat} {N:List Txt} {E:List Ed} {more:Pv} {x:Ed}
  (h:OrU V z nts PA m pc PV LA labels A c B d N E more x) (QA:Option Addr) (qc:Nat) (QV:List Pv) (hQ:PvR V QA QV) (cl:Nat) (Fg:Nat→Prop) (pg:Nat) (G:Gr) (hG:GrS V Fg pg G) (ok:GOk G) :
  Calls Tryz.prog 17 #[.agg #[.int .i64 nts,.slice QA QV.length qc],.slice LA labels.length cl,.pointer (some ⟨pg,0,none⟩)] V (fun e W => ∃ v c,e = .returned (.tuple #[v,.int .i64 c])∧NwC V W nts QV labels G v c):=
 (anew_any V nts QA qc QV hQ LA cl labels h.lab Fg pg G hG ok h.tab h.tab.lt).mono (fun _ _ h => nwC_of h)
theorem aorder_any (w:World) (hT:TabW w) (nts:Int) (PA:Option Addr) (pc:Nat) (PV:List Pv) (hP:PvR w PA PV) (LA:Option Addr) (cl:Nat) (labels:List Txt) (hlab:RowR w LA (txtCells labels)) (A:Option Addr) (c:Nat) (B:Option Addr) (d:Nat) (N:List Txt) (E:List Ed) (hE:ForG w A c B d N E)
  (more:Pv) (hmo:RowR w more.adr (syCells more.pr.body)) (x:Ed) (hx:EdOk x) :
  Calls Tryz.prog 6 #[.agg #[.int .i64 nts,.slice PA PV.length pc],.slice LA labels.length cl,twoV A N.length c B E.length d,.agg more.cells.toArray,.agg #[.string x.fr,.string x.lb,.string x.to]] w (Sam w (.bool true)):=by
 obtain ⟨m,hm⟩:∃ m,PV.length = m:=⟨_,rfl⟩
 rw [hm]
 have b0:Below w.heap.size w ((((w.alloc (.cells #[.int .i64 nts,.slice PA m pc] 50)).alloc (.cells #[.slice A N.length c,.slice B E.length d] 34)).alloc (.cells more.cells.toArray 71)).alloc (.cells #[.string x.fr,.string x.lb,.string x.to] 32)):=by (repeat (first | exact Below.refl _ _ | apply Below.drew | refine Below.alloc ?_ (by first | exact Nat.le_refl _ | (simp;done) | (simp;omega)) _ | refine Below.setCell ?_ (by first | exact Nat.le_refl _ | (simp;done) | (simp;omega)) _))
 have k5:=(((Blk.new w 50 #[.int .i64 nts,.slice PA m pc]).alloc (.cells #[.slice A N.length c,.slice B E.length d] 34)).alloc (.cells more.cells.toArray 71)).alloc (.cells #[.string x.fr,.string x.lb,.string x.to] 32)
 have k7:=((Blk.new (w.alloc (.cells #[.int .i64 nts,.slice PA m pc] 50)) 34 #[.slice A N.length c,.slice B E.length d]).alloc (.cells more.cells.toArray 71)).alloc (.cells #[.string x.fr,.string x.lb,.string x.to] 32)
 have k8:=(Blk.new ((w.alloc (.cells #[.int .i64 nts,.slice PA m pc] 50)).alloc (.cells #[.slice A N.length c,.slice B E.length d] 34)) 71 more.cells.toArray).alloc (.cells #[.string x.fr,.string x.lb,.string x.to] 32)
 have k9:=Blk.new (((w.alloc (.cells #[.int .i64 nts,.slice PA m pc] 50)).alloc (.cells #[.slice A N.length c,.slice B E.length d] 34)).alloc (.cells more.cells.toArray 71)) 32 #[.string x.fr,.string x.lb,.string x.to]
 simp only [World.size_alloc] at k7 k8 k9
 have HU:=Lib.hid (show OrU _ w.heap.size nts PA m pc PV LA labels A c B d N E more x from ⟨k5,k7,k8,k9,hP.below b0,hlab.below b0,hE.below b0,hmo.below3 b0,hT.upd (Upd.of_below b0 (fun _ => False)) hT.lt id⟩)
 have HB0:=Lib.hid b0
 have HM:=Lib.hid (And.intro hm hx)
 clear b0 k5 k7 k8 k9 hP hlab hE hmo hT hm hx
 obtain ⟨mh,ma,ml,mp,hmc,hmc2⟩:∃ mh ma ml mp,more.cells.toArray = #[.int .i64 mh,.slice ma ml mp]∧pvCells [more] = [.int .i64 mh,.slice ma ml mp]:=⟨_,_,_,_,rfl,rfl⟩
 rw [hmc] at HU HB0 ⊢
 have HMC:=Lib.hid (And.intro hmc hmc2)
 clear hmc hmc2
 unfold twoV
 go_enter Tryz.func6,Tryz.ntmps6
 go_upto_region 1 with (fail)
 generalize (((w.alloc (.cells #[.int .i64 nts,.slice PA m pc] 50)).alloc (.cells #[.slice A N.length c,.slice B E.length d] 34)).alloc (.cells #[.int .i64 mh,.slice ma ml mp] 71)).alloc (.cells #[.string x.fr,.string x.lb,.string x.to] 32) = W0 at HU HB0 ⊢
 have SAY:=Lib.hid (show ∀ V,Below W0.heap.size W0 V→Calls Tryz.prog 22 #[] V (fun e V' => e = .returned (.bool true)∧Below w.heap.size w V') from fun V hb => by
  have h:=HU.out.upd hb
  refine (aawake_any V h.tab h.tab.lt).mono ?_
  rintro e V' ⟨rfl,b⟩
  exact ⟨rfl,(HB0.out.trans (hb.mono HB0.out.size)).trans (b.mono (HB0.out.trans (hb.mono HB0.out.size)).size)⟩)
 have q0:W0.cell? ⟨w.heap.size,0,none⟩ = some (.int .i64 nts):=HU.out.k5.cell 0
 have q1:W0.cell? ⟨w.heap.size,1,none⟩ = some (.slice PA m pc):=HU.out.k5.cell 1
 by_cases hbig:60 < m ∨ 40 < nts
 ·have haw:=SAY.out W0 (Below.refl _ _)
  by_cases h1:60 < m
  ·have h1I:(60:Int) < (m:Int):=by omega
   clear hbig
   go_wp2_with fail
   refine haw.mono ?_
   rintro e V ⟨rfl,hb⟩
   go_wp2
   go_ret
   exact ⟨rfl,hb⟩
  ·have h2:40 < nts:=by omega
   have h1I:¬ (60:Int) < (m:Int):=by omega
   clear hbig
   go_wp2_with fail
   refine haw.mono ?_
   rintro e V ⟨rfl,hb⟩
   go_wp2
   go_ret
   exact ⟨rfl,hb⟩
 ·have h1I:¬ (60:Int) < (m:Int):=by omega
  have h2I:¬ 40 < nts:=by omega
  have hm60:m ≤ 60:=by omega
  have hn40:nts ≤ 40:=by omega
  clear hbig
  have q70:W0.cell? ⟨w.heap.size + 1,0,none⟩ = some (.slice A N.length c):=HU.out.k7.cell 0
  have q71:W0.cell? ⟨w.heap.size + 1,1,none⟩ = some (.slice B E.length d):=HU.out.k7.cell 1
  have hof:=ofg_any W0 A c B d N E HU.out.ed
  unfold twoV at hof
  obtain ⟨ci,hci⟩:∃ ci,checkI N E = ci:=⟨_,rfl⟩
  have HC:=Lib.hid hci
  clear hci
  go_upto_region 3 with (fail)
  go_wp2_with fail
  refine hof.mono ?_
  clear hof q70 q71
  rintro e W1 hq
  obtain ⟨v,rfl,hb1,hq⟩:∃ v,e = .returned (.tuple #[v,.int .i64 ci])∧Below W0.heap.size W0 W1∧(ci ≠ 0 ∨ (ci = 0∧∃ p,v = .pointer (some ⟨p,0,none⟩)∧Fresh W0.heap.size p ⟨N,E⟩ W1)):=by
   rcases hq with ⟨h1,h2,h3⟩ | ⟨h1,p,h2,h3,h4⟩
   ·rw [HC.out] at h1 h2
    exact ⟨_,h2,h3,.inl h1⟩
   ·rw [HC.out] at h1
    subst h1
    exact ⟨_,h2,h4,.inr ⟨rfl,p,rfl,h3⟩⟩
  have HB1:=Lib.hid hb1
  clear hb1
  rcases hq with hne | ⟨h0,pg,rfl,F1,g1,n1⟩
  ·have haw:=SAY.out W1 HB1.out
   have hne2:(ci == 0) = false:=by simpa using hne
   clear hne
   go_wp2_with fail
   refine haw.mono ?_
   rintro e V ⟨rfl,hb⟩
   go_wp2
   go_ret
   exact ⟨rfl,hb⟩
  have okG:GOk ⟨N,E⟩:=gok_of (HC.out.trans h0)
  subst h0
  have hU:=HU.out.upd HB1.out
  have q0:W1.cell? ⟨w.heap.size,0,none⟩ = some (.int .i64 nts):=hU.k5.cell 0
  have q1:W1.cell? ⟨w.heap.size,1,none⟩ = some (.slice PA m pc):=hU.k5.cell 1
  have hnew:=orNew hU PA pc PV hU.pv cl F1 pg ⟨N,E⟩ g1 okG
  rw [HM.out.1] at hnew
  have HG:=Lib.hid (And.intro g1 (And.intro n1 okG))
  clear hU g1 n1 okG HC
  go_wp2_with fail
  refine hnew.mono ?_
  clear hnew q0 q1
  rintro e W2 ⟨va,ea,rfl,hN⟩
  have HB2:=Lib.hid (HB1.out.trans (hN.1.mono HB1.out.size))
  have HNa:=Lib.hid hN
  clear hN
  have q0:W2.cell? ⟨w.heap.size,0,none⟩ = some (.int .i64 nts):=(HU.out.upd HB2.out).k5.cell 0
  go_upto_region 8 with (fail)
  have k14:=Blk.new W2 50 #[.int .i64 nts,.slice none 0 0]
  have b3:Below W2.heap.size W2 (W2.alloc (.cells #[.int .i64 nts,.slice none 0 0] 50)):=(Below.refl _ _).alloc (Nat.le_refl _) _
  have o3:OrO (W2.alloc (.cells #[.int .i64 nts,.slice none 0 0] 50)) W2.heap.size W2.heap.size nts [] 0 none 0:=⟨k14,World.ownsRow_nil _ _ _ _,by simp [Value.ownBlock],rfl,Nat.le_refl _⟩
  have H3:=Lib.hid (And.intro b3 o3)
  clear k14 b3 o3 q0
  generalize W2.alloc (.cells #[.int .i64 nts,.slice none 0 0] 50) = W3 at H3 ⊢
  have q1:W3.cell? ⟨w.heap.size,1,none⟩ = some (.slice PA m pc):=(HU.out.upd (HB2.out.trans (H3.out.1.mono HB2.out.size))).k5.cell 1
  have hwm:IntKind.i64.wrap ((m:Int) - 1) = (m:Int) - 1:=IntWalk.i64_in _ (by omega)
  go_wp2
  clear q1 hwm
  go_loopw [15] (fun iv wr => ∃ (k:Nat) (A':Option Addr) (c':Nat),k ≤ m∧iv = .int .i64 ((m:Int) - 1 - (k:Int))∧Hid (OrO wr W2.heap.size W2.heap.size nts (PV.reverse.take k) k A' c')∧Hid (Below W2.heap.size W2 wr)) (fun iv _ => (intOf iv + 1).toNat)
  case atStart => exact ⟨0,none,0,Nat.zero_le _,by congr 1;omega,Lib.hid (by simpa using H3.out.2),Lib.hid H3.out.1⟩
  case round =>
   obtain ⟨k,A',c',hk,rfl,ho,hbw⟩:=hrel
   by_cases hlt:k < m
   ·obtain ⟨i,hi⟩:∃ i:Nat,(m:Int) - 1 - (k:Int) = (i:Int):=⟨m - 1 - k,by omega⟩
    have hiN:i = m - 1 - k:=by omega
    have h0i:(0:Int) ≤ (i:Int):=by omega
    have hiI:(i:Int) < (m:Int):=by omega
    have hwi:IntKind.i64.wrap ((i:Int) - 1) = (i:Int) - 1:=IntWalk.i64_in _ (by omega)
    obtain ⟨y,hy⟩:∃ y,PV[i]? = some y:=⟨PV[i]'(by rw [HM.out.1];omega),List.getElem?_eq_getElem _⟩
    have hry:PV.reverse[k]? = some y:=by rw [List.getElem?_reverse (by rw [HM.out.1];exact hlt),HM.out.1,← hiN];exact hy
    have htk:PV.reverse.take (k + 1) = PV.reverse.take k ++ [y]:=by rw [List.take_add_one,hry];rfl
    have hu:=HU.out.upd (HB2.out.trans (hbw.out.mono HB2.out.size))
    obtain ⟨gb,gof,rfl,-,-⟩:=hu.pv.1.pv hy
    have SR:=Lib.hid (show ∀ V,Below W0.heap.size W0 V→Blk V W2.heap.size 50 #[.int .i64 nts,.slice A' k c']→(fun V => V.cell? ⟨W2.heap.size,1,none⟩ = some (.slice A' k c')∧V.cell? ⟨w.heap.size,1,none⟩ = some (.slice (some ⟨gb,gof,none⟩) m pc)∧V.cell? ⟨gb,gof + i * 2,none⟩ = some (.int .i64 y.pr.head)∧V.cell? ⟨gb,gof + i * 2 + 1,none⟩ = some (.slice y.adr y.pr.body.length y.cap)) V from fun V hb hk => by
     have hu:=HU.out.upd hb
     obtain ⟨b1,o1,e,c0,c1⟩:=hu.pv.1.pv hy
     injection e with e
     injection e with e1 e2
     subst e1
     subst e2
     exact ⟨hk.cell 1,hu.k5.cell 1,c0,c1⟩)
    have hbA:Below W0.heap.size W0 (wr.drew.alloc (.cells #[.int .i64 y.pr.head,.slice y.adr y.pr.body.length y.cap] 71)):=((HB2.out.trans (hbw.out.mono HB2.out.size)).drew).alloc (HB2.out.trans (hbw.out.mono HB2.out.size)).size _
    have hbA2:Below W2.heap.size W2 (wr.drew.alloc (.cells #[.int .i64 y.pr.head,.slice y.adr y.pr.body.length y.cap] 71)):=(hbw.out.drew).alloc hbw.out.size _
    have oA:OrO (wr.drew.alloc (.cells #[.int .i64 y.pr.head,.slice y.adr y.pr.body.length y.cap] 71)) W2.heap.size W2.heap.size nts (PV.reverse.take k) k A' c':=ho.out.below ((Below.refl _ _).drew.alloc (Nat.le_refl _) _)
    have hrow:RowR (wr.drew.alloc (.cells #[.int .i64 y.pr.head,.slice y.adr y.pr.body.length y.cap] 71)) (some ⟨wr.heap.size,0,none⟩) (pvCells [y]):=blk_row (Blk.new wr.drew 71 #[.int .i64 y.pr.head,.slice y.adr y.pr.body.length y.cap])
    obtain ⟨A9,c9,W5,happ,kb5,o5,hb5,hb5',-⟩:=oA.app [y] _ 1 1 hrow rfl (by omega) hbA2.size
    rw [← htk] at o5
    have HN:=Lib.hid (And.intro o5 (hbA2.trans (hb5.mono (Nat.le_refl _))))
    have hS:=SR.out wr.drew (HB2.out.trans (hbw.out.mono HB2.out.size)).drew ho.out.b
    have hS1:=SR.out _ hbA oA.b
    have hS2:=SR.out W5 (hbA.trans (hb5'.mono HB2.out.size)) kb5
    have f5:=kb5.frozen 1
    clear htk hry hy hu oA hrow o5 hb5 hb5' hbA hbA2 kb5
    rw [hi]
    have HI:=Lib.hid hi
    clear hi hiN
    go_upto_region 11 with (fail)
    refine wp_region_ord (fun V => V.cell? ⟨W2.heap.size,1,none⟩ = some (.slice A' k c')∧V.cell? ⟨w.heap.size,1,none⟩ = some (.slice (some ⟨gb,gof,none⟩) m pc)∧V.cell? ⟨gb,gof + i * 2,none⟩ = some (.int .i64 y.pr.head)∧V.cell? ⟨gb,gof + i * 2 + 1,none⟩ = some (.slice y.adr y.pr.body.length y.cap)) 10 [(0,true),(1,true),(2,true),(3,true),(4,true),(5,true),(6,true),(7,false),(8,false),(9,true),(10,false)] (by kernel_rfl) (by kernel_rfl) (fun _ _ d _ _ h => by cases d <;> exact h) hS ?_
    clear hS SR
    (refine ord_takeA rfl ?_;(try simp only [Act.put,gA,gS,gZ,sA,sZ,sS]))
    (refine ord_takeA rfl ?_;(try simp only [Act.put,gA,gS,gZ,sA,sZ,sS]))
    (refine ord_takeA rfl ?_;(try simp only [Act.put,gA,gS,gZ,sA,sZ,sS]))
    (refine ord_takeA rfl ?_;(try simp only [Act.put,gA,gS,gZ,sA,sZ,sS]))
    (refine ord_takeA rfl ?_;(try simp only [Act.put,gA,gS,gZ,sA,sZ,sS]))
    (refine ord_takeA rfl ?_;(try simp only [Act.put,gA,gS,gZ,sA,sZ,sS]))
    (refine ord_takeA rfl ?_;(try simp only [Act.put,gA,gS,gZ,sA,sZ,sS]))
    refine ord_do rfl rfl (fun K hK => ?_)
    go_simp
    refine hK _ _ (fun _ => hS1) ?_
    clear hK K hS1
    (try simp only [Act.put,gA,gS,gZ,sA,sZ,sS])
    refine ord_do rfl rfl (fun K hK => ?_)
    refine do_append _ _ _ rfl rfl rfl happ ?_
    refine hK _ _ (fun _ => hS2) ?_
    obtain ⟨qW,-,-,-⟩:=hS2
    clear hK K happ
    (try simp only [Act.put,gA,gS,gZ,sA,sZ,sS])
    (refine ord_takeA rfl ?_;(try simp only [Act.put,gA,gS,gZ,sA,sZ,sS]))
    refine ord_do rfl rfl (fun K hK => ?_)
    go_simp
    refine hK _ _ (fun h => absurd rfl h) ?_
    clear hK K
    (try simp only [Act.put,gA,gS,gZ,sA,sZ,sS])
    refine ord_done ?_
    clear qW f5
    go_wp2
    go_roundw
    case rel => exact ⟨k + 1,A9,c9,by omega,by have:=HI.out;congr 1;omega,Lib.hid HN.out.1,Lib.hid HN.out.2⟩
    case measure => simp [intOf] <;> omega
   ·obtain rfl:k = m:=by omega
    have hz:(k:Int) - 1 - (k:Int) = -1:=by omega
    rw [hz]
    have etk:PV.reverse.take k = PV.reverse:=by rw [← HM.out.1,← List.length_reverse,List.take_length]
    have o4:=ho.out
    rw [etk] at o4
    have hbw0:=HB2.out.trans (hbw.out.mono HB2.out.size)
    have hu:=HU.out.upd hbw0
    obtain ⟨A9,c9,W5,happ,kb5,o5,hb5,-,-⟩:=o4.app PV PA k pc hu.pv.1 HM.out.1 (by omega) hbw.out.size
    have q14:wr.cell? ⟨W2.heap.size,1,none⟩ = some (.slice A' k c'):=o4.b.cell 1
    have q51:wr.cell? ⟨w.heap.size,1,none⟩ = some (.slice PA k pc):=hu.k5.cell 1
    have g14:W5.cell? ⟨W2.heap.size,1,none⟩ = some (.slice A' k c'):=kb5.cell 1
    have f14:=kb5.frozen 1
    have HO:=Lib.hid (And.intro o5 (hbw.out.trans (hb5.mono (Nat.le_refl _))))
    clear hz etk o4 hbw0 hu o5 hb5 kb5 ho hbw
    go_upto_region 13 with (at_builtin;refine wpList_append_run rfl _ _ _ rfl rfl rfl happ ?_)
    clear q14 q51 g14 f14 happ
    generalize W5.setCell ⟨W2.heap.size,1,none⟩ (.slice A9 (k + k) c9) = W6 at HO ⊢
    have hbw0:=HB2.out.trans (HO.out.2.mono HB2.out.size)
    have hU:=HU.out.upd hbw0
    have q0:W6.cell? ⟨W2.heap.size,0,none⟩ = some (.int .i64 nts):=HO.out.1.b.cell 0
    have q1:W6.cell? ⟨W2.heap.size,1,none⟩ = some (.slice A9 (k + k) c9):=HO.out.1.b.cell 1
    have hpq:PvR W6 A9 (PV.reverse ++ PV):=⟨RowR.of_own HO.out.1.own,fun y hy => hU.pv.2 y ((rev_mem PV y).1 hy)⟩
    have hlq:=HO.out.1.len
    have hG6:=HG.out.1.below (HNa.out.1.trans (HO.out.2.mono HNa.out.1.size))
    have hnew:=orNew hU A9 c9 (PV.reverse ++ PV) hpq cl F1 pg ⟨N,E⟩ hG6 HG.out.2.2
    rw [hlq] at hnew
    have HB6:=Lib.hid hbw0
    have HP6:=Lib.hid (And.intro hpq (And.intro hlq hG6))
    clear hbw0 hU hpq hlq hG6
    go_wp2_with fail
    refine hnew.mono ?_
    clear hnew q0 q1
    rintro e W7 ⟨vb,eb,rfl,hN⟩
    have hach:achkI nts (PV.reverse ++ PV) labels = achkI nts PV labels:=achk_same (by rw [HM.out.1];exact hm60) (by rw [HP6.out.2.1];omega) (rev_mem PV)
    have HB7:=Lib.hid (HB6.out.trans (hN.1.mono HB6.out.size))
    rcases HNa.out.2 with ⟨a1,rfl,rfl⟩ | ⟨a1,rfl,p,Fa,Ba,rfl,ca,na,da,wa⟩
    ·rcases hN.2 with ⟨b1,rfl,rfl⟩ | ⟨b1,-⟩
     ·have haw:=SAY.out W7 HB7.out
      clear hN a1 b1 hach
      go_wp2_with fail
      refine haw.mono ?_
      rintro e V ⟨rfl,hb⟩
      go_wp2
      go_ret
      exact ⟨rfl,hb⟩
     ·rw [hach,a1] at b1
      cases b1
    ·rcases hN.2 with ⟨b1,-⟩ | ⟨b1,rfl,p2,Fb,Bb,rfl,cb,nb,db,wb⟩
     ·rw [hach,a1] at b1
      cases b1
     rcases achk_cases nts PV labels with a2 | ⟨-,-,hn1,-,-,-,-⟩
     ·rw [a1] at a2;cases a2
     obtain ⟨t,ht⟩:∃ t,nts.toNat = t:=⟨_,rfl⟩
     obtain ⟨side,hside⟩:∃ side,max 1 N.length = side:=⟨_,rfl⟩
     have hN32:N.length ≤ 32:=HG.out.2.2.few.1
     have ht1:1 ≤ t:=by omega
     have ht40:t ≤ 40:=by omega
     have hs1:1 ≤ side:=by omega
     have hs64:side ≤ 64:=by omega
     dsimp only at ca cb
     rw [ht] at ca cb da db
     rw [hside] at ca cb
     have hsame:=order_same (rev_mem PV) wa wb da db
     have hbw27:Below W2.heap.size W2 W7:=HO.out.2.trans (hN.1.mono HO.out.2.size)
     have ca7:=ca.below hbw27
     have HA:=Lib.hid (And.intro da (And.intro wa ht))
     have HSD:=Lib.hid hside
     have HCb:=Lib.hid cb
     have HAC:=Lib.hid a1
     have HSM:=Lib.hid hsame
     have HO7:=Lib.hid (And.intro (HO.out.1.below hN.1) (And.intro hbw27 hN.1))
     have hl:=facL_len Ba t
     have hlen:(facL Ba t).length ≤ 2097152:=by
      have:=facF_len Ba t 0 (fun j _ _ => (wa j).old)
      have h2:(facL Ba t).length ≤ t * 4096:=this
      omega
     have hln:=alen_any
     clear hN da db wa wb ca cb na nb a1 b1 hach hside ht hsame hbw27 hN32 hln
     obtain ⟨L,hL⟩:∃ L,facL Ba t = L:=⟨_,rfl⟩
     obtain ⟨l,hll⟩:∃ l,L.length = l:=⟨_,rfl⟩
     have hfa:Calls Tryz.prog 35 #[.pointer (some ⟨p,0,none⟩)] W7 (FacP W7 L):=by
      obtain ⟨O,pv,ad,hi,-⟩:=ca7
      have:=facts_any W7 O p side N.length t pv ad Ba hi (HU.out.upd HB7.out).tab ht1 (by omega)
      rwa [hL] at this
     have hln:∀ V,Below W7.heap.size W7 V→Calls Tryz.prog 21 #[.pointer (some ⟨p,0,none⟩)] V (Sam V (.int .i64 (l:Int))):=fun V hb => by
      have:=alen_any V Fa p side N.length t Ba (ca7.below hb) ht1 (by omega) hs1
      rwa [← hl,hL,hll] at this
     have hfb:∀ V,Below W7.heap.size W7 V→Calls Tryz.prog 35 #[.pointer (some ⟨p2,0,none⟩)] V (FacP V L):=fun V hb => by
      obtain ⟨O,pv,ad,hi,-⟩:=HCb.out.below hb
      have:=facts_any V O p2 side N.length t pv ad Bb hi (HU.out.upd (HB7.out.trans (hb.mono HB7.out.size))).tab ht1 (by omega)
      rwa [← HSM.out,hL] at this
     rw [hL,hll] at hlen
     have HL:=Lib.hid (And.intro hL hll)
     have hfa2:=hfa
     unfold FacP at hfa2
     rw [hll] at hfa2
     clear hfa hL hll hl ca7 HSM HCb
     go_wp2_with fail
     refine hfa2.mono ?_
     clear hfa2
     rintro e W8 ⟨A1,c1,rfl,own1,b8⟩
     have hln8:=hln W8 b8
     have HB8:=Lib.hid (And.intro own1 b8)
     clear own1 b8 hln
     go_wp2_with fail
     refine hln8.mono ?_
     clear hln8
     rintro e W9 ⟨rfl,b9⟩
     have hfb9:=hfb W9 (HB8.out.2.trans (b9.mono HB8.out.2.size))
     unfold FacP at hfb9
     rw [HL.out.2] at hfb9
     have HB9:=Lib.hid b9
     clear b9 hfb
     go_wp2_with fail
     refine hfb9.mono ?_
     clear hfb9
     rintro e W10 ⟨A2,c2,rfl,own2,b10⟩
     have own1:=ownsRow_upd HB8.out.1 (Upd.of_below (HB9.out.trans (b10.mono HB9.out.size)) (fun _ => False)) (fun _ _ => id)
     have hsm:=same_any W10 A1 A2 c1 c2 L (RowR.of_own own1) (RowR.of_own own2) (by rw [HL.out.2];exact hlen)
     rw [HL.out.2] at hsm
     have HB10:=Lib.hid (And.intro own1 (HB8.out.2.trans ((HB9.out.trans (b10.mono HB9.out.size)).mono HB8.out.2.size)))
     clear own1 own2 b10
     go_wp2_with fail
     refine hsm.mono ?_
     clear hsm
     rintro e W11 ⟨rfl,b11⟩
     have own1:=ownsRow_upd HB10.out.1 (Upd.of_below b11 (fun _ => False)) (fun _ _ => id)
     have HB11:=Lib.hid (And.intro own1 (HB10.out.2.trans (b11.mono HB10.out.2.size)))
     clear own1 b11
     have o11:=HO7.out.1.below HB11.out.2
     have b011:=HB7.out.trans (HB11.out.2.mono HB7.out.size)
     have b211:=HO7.out.2.1.trans (HB11.out.2.mono HO7.out.2.1.size)
     have hu:=HU.out.upd b011
     have k8:=hu.k8
     rw [HMC.out.1] at k8
     have q80:W11.cell? ⟨w.heap.size + 2,0,none⟩ = some (.int .i64 mh):=k8.cell 0
     have q81:W11.cell? ⟨w.heap.size + 2,1,none⟩ = some (.slice ma ml mp):=k8.cell 1
     have q14:W11.cell? ⟨W2.heap.size,1,none⟩ = some (.slice A9 (k + k) c9):=o11.b.cell 1
     have bA:Below W11.heap.size W11 (W11.alloc (.cells #[.int .i64 mh,.slice ma ml mp] 71)):=(Below.refl _ _).alloc (Nat.le_refl _) _
     have hrow:RowR (W11.alloc (.cells #[.int .i64 mh,.slice ma ml mp] 71)) (some ⟨W11.heap.size,0,none⟩) (pvCells [more]):=by rw [HMC.out.2];exact blk_row (Blk.new W11 71 #[.int .i64 mh,.slice ma ml mp])
     obtain ⟨A12,c12,W12,happ,kb12,o12,hb12,-,u12⟩:=(o11.below bA).app [more] _ 1 1 hrow rfl (by omega) (b211.trans (bA.mono b211.size)).size
     have g14:W12.cell? ⟨W2.heap.size,1,none⟩ = some (.slice A9 (k + k) c9):=kb12.cell 1
     have f14:=kb12.frozen 1
     have b2A:=b211.trans (bA.mono b211.size)
     have ownA:=ownsRow_upd HB11.out.1 (Upd.of_below bA (fun _ => False)) (fun _ _ => id)
     have own12:(W12.setCell ⟨W2.heap.size,1,none⟩ (.slice A12 (k + k + 1) c12)).ownsRow W7.heap.size 52 3 (.slice A1 l c1) l (faCells L):=by
      refine ownsRow_upd ownA u12 (fun q hq e => ?_)
      have h7:=(HB11.out.1.lt q hq).1
      have h67:=HO7.out.2.2.size
      have h26:=HO7.out.2.1.size
      rcases e with rfl | e
      ·have:=HO.out.1.b.lt;omega
      ·have:=(HO.out.1.own.lt q e).2;omega
     have HB12:=Lib.hid (And.intro o12 (And.intro (b2A.trans (hb12.mono (Nat.le_refl _))) own12))
     clear o11 b011 b211 hu k8 bA hrow kb12 o12 hb12 b2A ownA own12
     go_upto_region 22 with (at_builtin;refine wpList_append_run rfl _ _ _ rfl rfl rfl happ ?_)
     clear q80 q81 q14 g14 f14 happ
     generalize W12.setCell ⟨W2.heap.size,1,none⟩ (.slice A12 (k + k + 1) c12) = W13 at HB12 ⊢
     have b014:=HB2.out.trans (HB12.out.2.1.mono HB2.out.size)
     have hu:=HU.out.upd b014
     have b1x:=HNa.out.1.trans (HB12.out.2.1.mono HNa.out.1.size)
     have hadd:=addEdge_gr W13 F1 pg ⟨N,E⟩ (HG.out.1.below b1x) HG.out.2.2 x HM.out.2
     have q90:W13.cell? ⟨w.heap.size + 3,0,none⟩ = some (.string x.fr):=hu.k9.cell 0
     have q91:W13.cell? ⟨w.heap.size + 3,1,none⟩ = some (.string x.lb):=hu.k9.cell 1
     have q92:W13.cell? ⟨w.heap.size + 3,2,none⟩ = some (.string x.to):=hu.k9.cell 2
     have HB13:=Lib.hid b014
     clear b014 hu b1x
     go_wp2_with fail
     refine hadd.mono ?_
     clear hadd q90 q91 q92
     rintro e W14 ⟨rfl,F2,g2,u2,-⟩
     have hF1:∀ q,W2.heap.size ≤ q→¬ F1 q:=fun q hq hf => by have:=HG.out.1.lt q hf;have:=HNa.out.1.size;omega
     have b014:=HB13.out.trans (u2.below (B:=W0.heap.size) (fun q _ hq => HG.out.2.1 q hq) HB13.out.size)
     have o14:=HB12.out.1.upd u2 hF1
     have own14:=ownsRow_upd HB12.out.2.2 u2 (fun q hq => hF1 q (by have:=(HB12.out.2.2.lt q hq).1;have:=HO7.out.2.1.size;omega))
     have hU:=HU.out.upd b014
     have hpq:PvR W14 A12 ((PV.reverse ++ PV) ++ [more]):=⟨RowR.of_own o14.own,fun y hy => by
      rcases List.mem_append.1 hy with h | h
      ·exact hU.pv.2 y ((rev_mem PV y).1 h)
      ·rw [List.mem_singleton] at h;rw [h];exact hU.mo⟩
     have hnew:=orNew hU A12 c12 ((PV.reverse ++ PV) ++ [more]) hpq cl F2 pg (addEdge ⟨N,E⟩ x).1 g2 (HG.out.2.2.edge x)
     have hlq:=o14.len
     rw [hlq] at hnew
     have q0:W14.cell? ⟨W2.heap.size,0,none⟩ = some (.int .i64 nts):=o14.b.cell 0
     have q1:W14.cell? ⟨W2.heap.size,1,none⟩ = some (.slice A12 (k + k + 1) c12):=o14.b.cell 1
     have HB14:=Lib.hid (And.intro b014 own14)
     clear b014 o14 own14 hU hpq hlq hF1 g2 u2
     go_wp2_with fail
     refine hnew.mono ?_
     clear hnew q0 q1
     rintro e W15 ⟨vw,ew,rfl,hN⟩
     have HB15:=Lib.hid (And.intro (HB14.out.1.trans (hN.1.mono HB14.out.1.size)) (ownsRow_upd HB14.out.2 (Upd.of_below hN.1 (fun _ => False)) (fun _ _ => id)))
     rcases hN.2 with ⟨d1,rfl,rfl⟩ | ⟨d1,rfl,pw,Fw,Bw,rfl,cw,nw,dw,ww⟩
     ·have haw:=SAY.out W15 HB15.out.1
      clear hN d1
      go_wp2_with fail
      refine haw.mono ?_
      rintro e V ⟨rfl,hb⟩
      go_wp2
      go_ret
      exact ⟨rfl,hb⟩
     ·rw [HA.out.2.2] at cw dw
      have hmore:=fun (a b e:Nat) (hm:(a,b,e) ∈ facL Ba t) => order_more (PV':=(PV.reverse ++ PV) ++ [more]) (x:=x) (fun v hv => List.mem_append_left _ ((rev_mem PV v).2 hv)) HA.out.2.1 HA.out.1 dw hm
      rw [HL.out.1] at hmore
      obtain ⟨n2,hn2⟩:∃ n2,(addEdge ⟨N,E⟩ x).1.N.length = n2:=⟨_,rfl⟩
      have hn232:n2 ≤ 32:=by have:=(HG.out.2.2.edge x).few.1;omega
      rw [hn2] at cw hmore
      obtain ⟨sd,hsd⟩:∃ sd,max 1 n2 = sd:=⟨_,rfl⟩
      rw [hsd] at cw
      have HW:=Lib.hid (And.intro cw (And.intro hmore (show n2 ≤ sd∧sd ≤ 64 by omega)))
      clear cw hmore dw ww nw d1 hN hn2 hsd hn232
      go_wp2
      go_loopw [20] (fun iv wr => ∃ j:Nat,j ≤ l∧iv = .int .i64 (j:Int)∧Hid (Below W15.heap.size W15 wr)) (fun iv _ => l - (intOf iv).toNat)
      case atStart => exact ⟨0,Nat.zero_le _,rfl,Lib.hid (Below.refl _ _)⟩
      case round =>
       obtain ⟨j,hj,rfl,hbw⟩:=hrel
       by_cases hjl:j < l
       ·have hjI:(j:Int) < (l:Int):=by omega
        have hkw:IntKind.i64.wrap ((j:Int) + 1) = (j:Int) + 1:=IntWalk.i64_in _ (by omega)
        obtain ⟨⟨y0,y1,y2⟩,hy⟩:∃ y,L[j]? = some y:=⟨L[j]'(by rw [HL.out.2];exact hjl),List.getElem?_eq_getElem _⟩
        have ownr:=ownsRow_upd HB15.out.2 (Upd.of_below hbw.out (fun _ => False)) (fun _ _ => id)
        obtain ⟨ab,ao,rfl,a0,a1,a2⟩:=(RowR.of_own ownr).fact hy
        dsimp only at a0 a1 a2
        have hhas:=ahas_any wr Fw pw sd n2 t Bw (HW.out.1.below hbw.out) ht1 HW.out.2.2.1 HW.out.2.2.2 (y0:Int) (y1:Int) (y2:Int)
        rw [HW.out.2.1 y0 y1 y2 (List.mem_of_getElem? hy)] at hhas
        clear ownr hy
        go_wp2_with fail
        refine hhas.mono ?_
        clear hhas a0 a1 a2
        rintro e V ⟨rfl,hb⟩
        have HBV:=Lib.hid (hbw.out.trans (hb.mono hbw.out.size))
        clear hb hbw
        go_wp2
        go_roundw
        case rel => exact ⟨j + 1,by omega,by go_num,HBV⟩
        case measure => simp [intOf];omega
       ·obtain rfl:j = l:=by omega
        have haw:=SAY.out wr (HB15.out.1.trans (hbw.out.mono HB15.out.1.size))
        clear hbw
        go_wp2_with fail
        refine haw.mono ?_
        rintro e V ⟨rfl,hb⟩
        go_wp2
        go_ret
        exact ⟨rfl,hb⟩
end Go.Proofs.YtddffnonlmfhdaaGreatDoor
namespace Go.Proofs.YtddffnonlmfhdaaGreatDoor.edRead
open Go.ChangeShapes Go.WideShapes Go.ChangeAt Go.RowKit
set_option linter.unusedVariables false
theorem own:ownKnob Tryz.prog.godebug = none:=by kernel_rfl
theorem laidOut:laidOutB Tryz.prog = true:=by kernel_rfl

section
variable {H:Type} {enc:TypeId × Value→H} {P:Program} {w:World}
theorem open_plain {t e m fuel:Nat} {v:Value} {x:DataW H × List MemPlace} (ht:P.underlying t = some (.slice e)) (hk:P.keyTypeAt m e = true)
  (h:DataW.trod enc P w 0 (fun _ => true) true fuel t [v] = some x) (hz:∀ n ∈ x.1.weights P t,n ≤ reachBytes) :
  v = .slice none 0 0 ∨ ∃ a n c,v = .slice (some a) n c∧n ≤ c∧c * P.bytesOf e ≤ reachBytes∧∀ i,i < c→∃ cs L,cs.length = P.cellsOf e∧(∀ j,j < P.cellsOf e→w.cell? (a.add (i * P.cellsOf e + j)) = cs[j]?)∧P.keyLits m e cs = some L:=by
 rcases Deep.open_slice ht h with ⟨hcs,_⟩ | ⟨a,len,cap,m',n',D,Pl,hcs,_,hl,hm,hmm,hx,hi⟩
 ·injection hcs with hcs
  exact .inl hcs
 ·injection hcs with hcs
  subst hcs
  obtain rfl:m' = cap:=by rw [hmm];exact if_pos rfl
  refine .inr ⟨a,len,m',rfl,hl,?_,fun i hic => ?_⟩
  ·subst hx
   exact hz (m' * P.bytesOf e) (by
    simp only [DataW.weights,ht,List.length_map,List.length_range,show len + (m' - len) = m' by omega]
    simp)
  ·obtain ⟨cs',hc,ht'⟩:=hi i (by simpa using hic)
   obtain ⟨_,hlen,hat⟩:=World.cells?_some hc
   exact ⟨cs',_,hlen,fun j hj => by rw [← Deep.add_add];exact hat j hj,(keyLits_of_trod m e hk n' cs' _ ht').1⟩
end
theorem cells_txt:Tryz.prog.cellsOf 9 = 1:=by kernel_rfl
theorem lits_txt {n:Nat} {c:Value} {l:List Lit} (h:Tryz.prog.keyLits n 9 [c] = some l):∃ s:Txt,c = .string s∧TxtOk s:=by
 cases n with
 | zero => simp [Program.keyLits] at h
 | succ n =>
  unfold Program.keyLits at h
  simp only [Tryz.underlying9] at h
  cases c <;> simp at h
  obtain ⟨hw,_⟩:=h
  refine ⟨_,rfl,?_⟩
  unfold TxtOk
  unfold maxLen at hw
  omega
theorem len_one {α:Type}:∀ {l:List α},l.length = 1→∃ a,l = [a]
 | [a],_ => ⟨a,rfl⟩
theorem len_two {α:Type}:∀ {l:List α},l.length = 2→∃ a b,l = [a,b]
 | [a,b],_ => ⟨a,b,rfl⟩
theorem len_three {α:Type}:∀ {l:List α},l.length = 3→∃ a b c,l = [a,b,c]
 | [a,b,c],_ => ⟨a,b,c,rfl⟩
theorem cells_edge:Tryz.prog.cellsOf 32 = 3:=by kernel_rfl
theorem bytes_txt:Tryz.prog.bytesOf 9 = 16:=by kernel_rfl
theorem bytes_edge:Tryz.prog.bytesOf 32 = 48:=by kernel_rfl
theorem lits_ed {cs:List Value} {L:List Lit} (hl:cs.length = 3) (h:Tryz.prog.keyLits 2 32 cs = some L):∃ x:Ed,cs = x.cells∧EdOk x:=by
 obtain ⟨c0,c1,c2,rfl⟩:=len_three hl
 rw [show (2:Nat) = 1 + 1 from rfl] at h
 unfold Program.keyLits at h
 simp only [Tryz.underlying32] at h
 split at h
 ·obtain ⟨l,hl',_⟩:=Option.map_eq_some_iff.1 h
  simp only [cells_txt,List.mapM_cons,List.mapM_nil,bind,Option.bind_eq_some_iff] at hl'
  obtain ⟨l0,h0,q0,⟨l1,h1,q1,⟨l2,h2,-⟩,-⟩,-⟩:=hl'
  simp at h0 h1 h2
  obtain ⟨x,rfl,hx⟩:=lits_txt h0
  obtain ⟨y,rfl,hy⟩:=lits_txt h1
  obtain ⟨z,rfl,hz⟩:=lits_txt h2
  exact ⟨⟨x,y,z⟩,rfl,hx,hy,hz⟩
 ·cases h

theorem row_of {α:Type} [Inhabited α] (cells:α→List Value) (k:Nat) (hlen:∀ x,(cells x).length = k) (h0:0 < k) {W:World} {a:Addr} {n:Nat} (Q:α→Prop) (hg:∀ i,i < n→∃ x:α,Q x∧∀ j,j < k→W.cell? (a.add (i * k + j)) = (cells x)[j]?) :
  ∃ l:List α,l.length = n∧(∀ x ∈ l,Q x)∧RowR W (some a) (l.flatMap cells):=by
 obtain ⟨f,hf⟩:=Deep.choose_lt hg
 refine ⟨(List.range n).map f,by simp,?_,?_⟩
 ·intro x hx
  obtain ⟨i,hi,rfl⟩:=List.mem_map.1 hx
  exact (hf i (List.mem_range.1 hi)).1
 ·intro j u hj
  have hlt:=(List.getElem?_eq_some_iff.1 hj).1
  rw [flat_len cells k hlen] at hlt
  simp only [List.length_map,List.length_range] at hlt
  have hi:j / k < n:=Nat.div_lt_of_lt_mul (by rw [Nat.mul_comm];exact hlt)
  have hjm:j % k < k:=Nat.mod_lt _ h0
  have hjd:j / k * k + j % k = j:=by rw [Nat.mul_comm];exact Nat.div_add_mod j k
  have h1:=flat_get cells k hlen ((List.range n).map f) (j / k) (j % k) (f (j / k)) (by rw [List.getElem?_map,List.getElem?_range hi];rfl) hjm
  rw [hjd,hj] at h1
  have h2:=(hf (j / k) hi).2 (j % k) hjm
  rw [hjd,← h1] at h2
  have h3:=(hf 0 (Nat.lt_of_le_of_lt (Nat.zero_le _) hi)).2 0 h0
  have hlen0:=hlen (f 0)
  rw [List.getElem?_eq_getElem (by omega)] at h3
  have hs:=World.cell?_spot h3
  obtain ⟨b,o,s⟩:=a
  obtain rfl:s = none:=by simpa [Addr.add] using hs
  rw [Addr.add_lit] at h2
  exact ⟨b,o,rfl,h2⟩
instance:Inhabited Txt:=⟨ByteArray.empty⟩
instance:Inhabited Ed:=⟨⟨default,default,default⟩⟩
theorem flat_txt (l:List Txt):(l.flatMap fun s => [Value.string s]) = txtCells l:=by
 induction l with
 | nil => rfl
 | cons x l ih => rw [List.flatMap_cons,ih];rfl

theorem read_txts {H:Type} {enc:TypeId × Value→H} {W:World} {fuel:Nat} {v:Value} {y:DataW H × List MemPlace} (t0:DataW.trod enc Tryz.prog W 0 (fun _ => true) true fuel 26 [v] = some y)
  (w0:∀ n ∈ y.1.weights Tryz.prog 26,n ≤ reachBytes):∃ A c N,v = .slice A (List.length N) c∧RowR W A (txtCells N)∧N.length ≤ c∧N.length * 16 ≤ 140737488355328∧∀ s ∈ N,TxtOk s:=by
 rcases open_plain Tryz.underlying26 (m:=2) (by kernel_rfl) t0 w0 with rfl | ⟨a,n,c,rfl,hnc,hb,hi⟩
 ·exact ⟨none,0,[],rfl,fun j u hj => by simp [txtCells] at hj,Nat.le_refl _,by simp,by simp⟩
 ·obtain ⟨l,hl,hq,hr⟩:=row_of (fun s:Txt => [Value.string s]) 1 (fun _ => rfl) (by decide) (W:=W) (a:=a) (n:=n) TxtOk (fun i hin => by
   obtain ⟨cs,L,hlen,hat,hL⟩:=hi i (by omega)
   rw [cells_txt] at hat hlen
   obtain ⟨c0,rfl⟩:=len_one hlen
   obtain ⟨s,rfl,hs⟩:=lits_txt hL
   exact ⟨s,hs,hat⟩)
  subst hl
  rw [bytes_txt] at hb
  simp only [reachBytes] at hb
  rw [flat_txt] at hr
  exact ⟨_,c,l,rfl,hr,hnc,by omega,hq⟩
theorem read_eds {H:Type} {enc:TypeId × Value→H} {W:World} {fuel:Nat} {v:Value} {y:DataW H × List MemPlace} (t0:DataW.trod enc Tryz.prog W 0 (fun _ => true) true fuel 27 [v] = some y)
  (w0:∀ n ∈ y.1.weights Tryz.prog 27,n ≤ reachBytes):∃ A c E,v = .slice A (List.length E) c∧RowR W A (edCells E)∧E.length ≤ c∧E.length * 48 ≤ 140737488355328∧∀ x ∈ E,EdOk x:=by
 rcases open_plain Tryz.underlying27 (m:=2) (by kernel_rfl) t0 w0 with rfl | ⟨a,n,c,rfl,hnc,hb,hi⟩
 ·exact ⟨none,0,[],rfl,fun j u hj => by simp [edCells] at hj,Nat.le_refl _,by simp,by simp⟩
 ·obtain ⟨l,hl,hq,hr⟩:=row_of Ed.cells 3 (fun _ => rfl) (by decide) (W:=W) (a:=a) (n:=n) EdOk (fun i hin => by
   obtain ⟨cs,L,hlen,hat,hL⟩:=hi i (by omega)
   rw [cells_edge] at hat hlen
   obtain ⟨f,rfl,hw⟩:=lits_ed hlen hL
   exact ⟨f,hw,hat⟩)
  subst hl
  rw [bytes_edge] at hb
  simp only [reachBytes] at hb
  exact ⟨_,c,l,rfl,hr,hnc,by omega,hq⟩
theorem cells_edges:Tryz.prog.cellsOf 34 = 2:=by kernel_rfl
theorem cells_txts:Tryz.prog.cellsOf 26 = 1:=by kernel_rfl
theorem cells_eds:Tryz.prog.cellsOf 27 = 1:=by kernel_rfl

theorem read_edges {H:Type} {enc:TypeId × Value→H} {W:World} {base:Nat} {v:Value} {d0:DataW H} {p0:List MemPlace} (hv:Value.okWide Tryz.prog W .any base 34 v) (h:DataW.Trod enc Tryz.prog W 0 (fun _ => true) true 34 v d0 p0)
  (hz:∀ n ∈ d0.weights Tryz.prog 34,n ≤ reachBytes):∃ A c B d N E,v = twoV A (List.length N) c B (List.length E) d∧ForG W A c B d N E:=by
 obtain ⟨cs,rfl,hcs⟩:=okWide_struct Tryz.underlying34 hv
 rw [cells_edges] at hcs
 obtain ⟨c0,c1,hc⟩:=len_two (l:=cs.toList) (by simpa using hcs)
 obtain rfl:cs = #[c0,c1]:=by cases cs;simp_all
 obtain ⟨fuel,hf⟩:=h
 obtain ⟨y0,y1,n,hx,-,t0,t1⟩:=trod_struct2 Tryz.underlying34 hf
 simp only [Value.cells,cells_txts,cells_eds,List.drop_zero,List.take_succ_cons,List.take_zero,List.drop_succ_cons] at t0 t1
 injection hx with hx1 hx2
 subst hx1
 have w0:∀ n ∈ y0.1.weights Tryz.prog 26,n ≤ reachBytes:=fun n hn => hz n (by
  simp only [DataW.weights,Tryz.underlying34,DataW.weightsEach,List.map_cons,List.map_nil,List.mem_append]
  exact .inl hn)
 have w1:∀ n ∈ y1.1.weights Tryz.prog 27,n ≤ reachBytes:=fun n hn => hz n (by
  simp only [DataW.weights,Tryz.underlying34,DataW.weightsEach,List.map_cons,List.map_nil,List.mem_append]
  exact .inr (.inl hn))
 obtain ⟨A,c,N,rfl,hr0,hc0,hb0,hq0⟩:=read_txts t0 w0
 obtain ⟨B,d,E,rfl,hr1,hc1,hb1,hq1⟩:=read_eds t1 w1
 exact ⟨A,c,B,d,N,E,rfl,hr0,hr1,hc0,hc1,hb0,hb1,hq0,hq1⟩
end Go.Proofs.YtddffnonlmfhdaaGreatDoor.edRead
namespace Go.Proofs.YtddffnonlmfhdaaGreatDoor.edRead
open Go.ChangeShapes Go.WideShapes Go.ChangeAt Go.RowKit
theorem open_edge {H:Type} {enc:TypeId × Value→H} {W:World} {base:Nat} {v:Value} {d0:DataW H} {p0:List MemPlace} (hv:Value.okWide Tryz.prog W .any base 32 v) (h:DataW.Trod enc Tryz.prog W 0 (fun _ => true) true 32 v d0 p0) :
  ∃ x:Ed,v = x.agg∧EdOk x:=by
 obtain ⟨cs,rfl,hcs⟩:=okWide_struct Tryz.underlying32 hv
 rw [cells_edge] at hcs
 obtain ⟨fuel,hf⟩:=h
 have hk:=(keyLits_of_trod 2 32 (by kernel_rfl) fuel _ _ hf).1
 obtain ⟨x,hx,ok⟩:=lits_ed (by simpa [Value.cells] using hcs) hk
 refine ⟨x,?_,ok⟩
 obtain ⟨l⟩:=cs
 simp only [Value.cells] at hx
 subst hx
 rfl
theorem top_txts {H:Type} {enc:TypeId × Value→H} {W:World} {base:Nat} {v:Value} {d0:DataW H} {p0:List MemPlace} (hv:Value.okWide Tryz.prog W .any base 26 v) (h:DataW.Trod enc Tryz.prog W 0 (fun _ => true) true 26 v d0 p0)
  (hz:∀ n ∈ d0.weights Tryz.prog 26,n ≤ reachBytes):∃ A c N,v = .slice A (List.length N) c∧RowR W A (txtCells N)∧N.length ≤ c∧N.length * 16 ≤ 140737488355328∧∀ s ∈ N,TxtOk s:=by
 obtain ⟨a,len,cap,rfl⟩:=okWide_slice Tryz.underlying26 hv
 obtain ⟨fuel,hf⟩:=h
 exact read_txts (y:=(d0,p0)) hf hz
end Go.Proofs.YtddffnonlmfhdaaGreatDoor.edRead
