/- AzimovLeast: the walk; A graph, a list of texts, a list of edges that come in, read: the slices lie in memory, and none is too great; An edge, a row of texts, a row of edges that come in, read; A grammar in weak normal form, a fact, a production that come in, read. -/
import Derived.Test.YtddffnonlmfhdaaGreatDoorW16
import Derived.ProofKit
import Derived.OpenShut
import Derived.ShutString
import Derived.ChangeOld
import Derived.ChangeSame
import Derived.Below
import Derived.Deep.Slices
import Derived.MapViews
import Derived.SizedLaws
import Derived.Test.YtddffnonlmfhdaaGreatDoorW01
import Derived.Test.YtddffnonlmfhdaaGreatDoorW14
set_option linter.unusedVariables false
set_option linter.unusedSimpArgs false
set_option maxHeartbeats 16000000
set_option maxRecDepth 100000
namespace Go.Proofs.YtddffnonlmfhdaaGreatDoor
open Go.RowKit Go.Shelf
structure LeU (V:World) (z:Nat) (nts:Int) (PA:Option Addr) (m pc:Nat) (PV:List Pv) (LA:Option Addr) (labels:List Txt) (A:Option Addr) (c:Nat) (B:Option Addr) (d:Nat) (N:List Txt) (E:List Ed):Prop where
 k3:Blk V z 50 #[.int .i64 nts,.slice PA m pc]
 k5:Blk V (z + 1) 34 #[.slice A N.length c,.slice B E.length d]
 pv:PvR V PA PV
 lab:RowR V LA (txtCells labels)
 ed:ForG V A c B d N E
 tab:TabW V
theorem LeU.upd {V W:World} {z:Nat} {nts:Int} {PA:Option Addr} {m pc:Nat} {PV:List Pv} {LA:Option Addr} {labels:List Txt} {A:Option Addr} {c:Nat} {B:Option Addr} {d:Nat} {N:List Txt} {E:List Ed}
  (h:LeU V z nts PA m pc PV LA labels A c B d N E) (hb:Below V.heap.size V W):LeU W z nts PA m pc PV LA labels A c B d N E:=by
 have hu:=Upd.of_below hb (fun _ => False)
 exact ⟨h.k3.upd hu id,h.k5.upd hu id,h.pv.below hb,h.lab.below hb,h.ed.below hb,h.tab.upd hu h.tab.lt id⟩
structure TwI (W4 V:World) (mv lv tv:Value) (M Lf Lt:List (Nat × Nat × Nat)):Prop where
 m:V.ownsRow W4.heap.size 52 3 mv M.length (faCells M)
 t:V.ownsRow W4.heap.size 52 3 tv Lt.length (faCells Lt)
 l:∃ A c,lv = .slice A Lf.length c∧RowR V A (faCells Lf)
 lb:∀ q,lv.ownBlock = some q→q < V.heap.size
 mt:∀ q,mv.ownBlock = some q→tv.ownBlock ≠ some q∧lv.ownBlock ≠ some q
 tl:∀ q,tv.ownBlock = some q→lv.ownBlock ≠ some q
 bl:Below W4.heap.size W4 V
theorem TwI.below {W4 V W:World} {mv lv tv:Value} {M Lf Lt:List (Nat × Nat × Nat)} (h:TwI W4 V mv lv tv M Lf Lt) (hb:Below V.heap.size V W):TwI W4 W mv lv tv M Lf Lt:=by
 have hu:=Upd.of_below hb (fun _ => False)
 obtain ⟨A,c,e,hr⟩:=h.l
 exact ⟨ownsRow_upd h.m hu (fun _ _ => id),ownsRow_upd h.t hu (fun _ _ => id),⟨A,c,e,hr.below hb⟩,fun q hq => Nat.lt_of_lt_of_le (h.lb q hq) hb.size,h.mt,h.tl,h.bl.trans (hb.mono h.bl.size)⟩
theorem TwI.next {W4 V:World} {mv lv tv:Value} {M Lf Lt:List (Nat × Nat × Nat)} (h:TwI W4 V mv lv tv M Lf Lt):TwI W4 V mv tv (.slice none 0 0) M Lt []:=by
 obtain ⟨A,c,e,-,-⟩:=own_form h.t
 refine ⟨h.m,World.ownsRow_nil _ _ _ _,⟨A,c,e,RowR.of_own (by rw [e] at h;exact h.t)⟩,fun q hq => (h.t.lt q hq).2,fun q hq => ⟨by simp [Value.ownBlock],(h.mt q hq).1⟩,fun q hq => by simp [Value.ownBlock] at hq,h.bl⟩
theorem TwI.meet {W4 V:World} {A:Option Addr} {n c:Nat} {lv tv:Value} {M Lf Lt:List (Nat × Nat × Nat)} (h:TwI W4 V (.slice A n c) lv tv M Lf Lt) (hn:M.length = n) (x:Nat × Nat × Nat) (R:Option Addr) (d:Nat) (hr:RowR V R (faC x)) (hl:(n + 1) * 24 ≤ 140737488355328) :
  ∃ A' c' W1,(Builtin.append_ #[74,74] 74 #[.slice A n c,.slice R 1 d]).run Tryz.prog V = .ok (.slice A' (n + 1) c') W1∧TwI W4 W1 (.slice A' (n + 1) c') lv tv (M ++ [x]) Lf Lt:=by
 have own:V.ownsRow W4.heap.size 52 3 (.slice A n c) n (faCells M):=by have:=h.m;rwa [hn] at this
 obtain ⟨A',c',W1,happ,own',up,pl⟩:=append_row2 V W4.heap.size 74 52 3 24 _ Tryz.underlying74 info_fact rfl (by decide) (by decide) A n c _ own R 1 d (faC x) hr rfl (one_fa x) hl h.bl.size
 obtain ⟨B,e,he,hL⟩:=h.l
 refine ⟨A',c',W1,happ,⟨?_,ownsRow_upd h.t up (fun q hq e' => (h.mt q e').1 hq),⟨B,e,he,hL.upd up (fun b o s e1 e2 => (h.mt b e2).2 (by rw [he,e1];rfl))⟩,fun q hq => Nat.lt_of_lt_of_le (h.lb q hq) up.size,fun q hq => ?_,h.tl,h.bl.trans (up.below (fun q _ hq => (own.lt q hq).1) h.bl.size)⟩⟩
 ·rw [List.length_append,hn,show faCells (M ++ [x]) = faCells M ++ faC x by simp [faCells]]
  exact own'
 ·rcases pl q hq with h1 | h1
  ·exact h.mt q h1
  ·exact ⟨fun e2 => by have:=(h.t.lt q e2).2;omega,fun e2 => by have:=h.lb q e2;omega⟩
theorem TwI.late {W4 V:World} {A:Option Addr} {n c:Nat} {mv lv:Value} {M Lf Lt:List (Nat × Nat × Nat)} (h:TwI W4 V mv lv (.slice A n c) M Lf Lt) (hn:Lt.length = n) (x:Nat × Nat × Nat) (R:Option Addr) (d:Nat) (hr:RowR V R (faC x)) (hl:(n + 1) * 24 ≤ 140737488355328) :
  ∃ A' c' W1,(Builtin.append_ #[74,74] 74 #[.slice A n c,.slice R 1 d]).run Tryz.prog V = .ok (.slice A' (n + 1) c') W1∧TwI W4 W1 mv lv (.slice A' (n + 1) c') M Lf (Lt ++ [x]):=by
 have own:V.ownsRow W4.heap.size 52 3 (.slice A n c) n (faCells Lt):=by have:=h.t;rwa [hn] at this
 obtain ⟨A',c',W1,happ,own',up,pl⟩:=append_row2 V W4.heap.size 74 52 3 24 _ Tryz.underlying74 info_fact rfl (by decide) (by decide) A n c _ own R 1 d (faC x) hr rfl (one_fa x) hl h.bl.size
 obtain ⟨B,e,he,hL⟩:=h.l
 refine ⟨A',c',W1,happ,⟨ownsRow_upd h.m up (fun q hq e' => (h.mt q hq).1 e'),?_,⟨B,e,he,hL.upd up (fun b o s e1 e2 => h.tl b e2 (by rw [he,e1];rfl))⟩,fun q hq => Nat.lt_of_lt_of_le (h.lb q hq) up.size,fun q hq => ⟨fun e2 => ?_,(h.mt q hq).2⟩,fun q hq e2 => ?_,h.bl.trans (up.below (fun q _ hq => (own.lt q hq).1) h.bl.size)⟩⟩
 ·rw [List.length_append,hn,show faCells (Lt ++ [x]) = faCells Lt ++ faC x by simp [faCells]]
  exact own'
 ·rcases pl q e2 with h1 | h1
  ·exact (h.mt q hq).1 h1
  ·have:=(h.m.lt q hq).2;omega
 ·rcases pl q hq with h1 | h1
  ·exact h.tl q h1 e2
  ·have:=h.lb q e2;omega
theorem rnd_perm {P:List Pr} {El:Int→Nat→Nat→Prop}:∀ (L:List (Nat × Nat × Nat)) (s:List (Nat × Nat × Nat) × List (Nat × Nat × Nat)),((L.foldl (stepL P El) s).1 ++ (L.foldl (stepL P El) s).2).Perm (s.1 ++ s.2 ++ L)
 | [],s => by simp
 | x :: L,s => by
  rw [List.foldl_cons]
  refine (rnd_perm L (stepL P El s x)).trans ?_
  unfold stepL
  split
  ·simp only [List.append_assoc,List.singleton_append]
   exact List.Perm.append_left _ List.perm_middle.symm
  ·simp only [List.append_assoc,List.singleton_append]
   exact List.Perm.refl _
theorem der_lt3 {P:List Pr} {El:Int→Nat→Nat→Prop} {n:Nat} (hE:∀ k i j,El k i j→i < n∧j < n) {a:Int} {i j:Nat} (d:DerP P El n a i j):i < n∧j < n:=by
 induction d with
 | eps _ h => exact ⟨h,h⟩
 | one _ h => exact hE _ _ _ h
 | two _ _ _ h1 h2 => exact ⟨h1.1,h2.2⟩
theorem der_head3 {P:List Pr} {El:Int→Nat→Nat→Prop} {n T:Nat} (hP:∀ p ∈ P,0 ≤ p.head∧p.head < (T:Int)) {a:Int} {i j:Nat} (d:DerP P El n a i j):∃ k:Nat,a = (k:Int)∧k < T:=by
 have:0 ≤ a∧a < (T:Int):=by
  cases d with
  | eps h _ => exact hP _ h
  | one h _ => exact hP _ h
  | two h _ _ => exact hP _ h
 exact ⟨a.toNat,by omega,by omega⟩
theorem shape_head {p:Pr} {nts labels:Int} (h:shapeOf p nts labels = true):0 ≤ p.head∧p.head < nts:=by
 unfold shapeOf at h
 simp only [Bool.and_eq_true,decide_eq_true_eq] at h
 exact h.1
def MetL (L M Lf:List (Nat × Nat × Nat)) (l r:Nat):Prop:=(∀ z,z ∈ M ∨ z ∈ Lf ↔ z ∈ L)∧(M ++ Lf).Nodup∧(Lf = [] ∨ Lf.length + r ≤ l)∧M.length + Lf.length = l
theorem MetL.next {P:List Pr} {El:Int→Nat→Nat→Prop} {n l r:Nat} {L M Lf M2 Lt:List (Nat × Nat × Nat)} (hall:∀ a i j,(a,i,j) ∈ L ↔ DerP P El n (a:Int) i j) (hnat:∀ (a:Int) i j,DerP P El n a i j→∃ k:Nat,a = (k:Int))
  (h:MetL L M Lf l r) (hne:Lf ≠ []) (he:Lf.foldl (stepL P El) (M,[]) = (M2,Lt)):MetL L M2 Lt l (r + 1):=by
 obtain ⟨h1,h2,h3,h4⟩:=h
 have hm:=fun z => rnd_mem (P:=P) (El:=El) Lf (M,[]) z
 have hp:=rnd_perm (P:=P) (El:=El) Lf (M,[])
 have hl:=rnd_len (P:=P) (El:=El) Lf (M,[])
 have ht:=rnd_takes (P:=P) (El:=El) hall hnat h1 (fun x hx hM => (List.nodup_append.1 h2).2.2 x hM x hx rfl) hne
 unfold rndL at ht
 rw [he] at hp hl ht
 simp only [he] at hm
 dsimp only at hm hp hl ht
 have h3:=h3.resolve_left hne
 refine ⟨fun z => (hm z).trans ?_,hp.nodup_iff.2 (by simpa using h2),.inr (by omega),by have:=hl.1;simp only [List.length_nil] at this;omega⟩
 rw [← h1 z]
 simp
theorem aleast_any (w:World) (hT:TabW w) (nts:Int) (PA:Option Addr) (pc:Nat) (PV:List Pv) (hP:PvR w PA PV) (LA:Option Addr) (cl:Nat) (labels:List Txt) (hlab:RowR w LA (txtCells labels)) (A:Option Addr) (c:Nat) (B:Option Addr) (d:Nat) (N:List Txt) (E:List Ed) (hE:ForG w A c B d N E) :
  Calls Tryz.prog 7 #[.agg #[.int .i64 nts,.slice PA PV.length pc],.slice LA labels.length cl,twoV A N.length c B E.length d] w (Sam w (.bool true)):=by
 obtain ⟨m,hm⟩:∃ m,PV.length = m:=⟨_,rfl⟩
 obtain ⟨n,hn⟩:∃ n,N.length = n:=⟨_,rfl⟩
 rw [hm]
 have b0:Below w.heap.size w ((w.alloc (.cells #[.int .i64 nts,.slice PA m pc] 50)).alloc (.cells #[.slice A N.length c,.slice B E.length d] 34)):=by (repeat (first | exact Below.refl _ _ | apply Below.drew | refine Below.alloc ?_ (by first | exact Nat.le_refl _ | (simp;done) | (simp;omega)) _ | refine Below.setCell ?_ (by first | exact Nat.le_refl _ | (simp;done) | (simp;omega)) _))
 have k3:=(Blk.new w 50 #[.int .i64 nts,.slice PA m pc]).alloc (.cells #[.slice A N.length c,.slice B E.length d] 34)
 have k5:=Blk.new (w.alloc (.cells #[.int .i64 nts,.slice PA m pc] 50)) 34 #[.slice A N.length c,.slice B E.length d]
 simp only [World.size_alloc] at k5
 have HU:=Lib.hid (show LeU _ w.heap.size nts PA m pc PV LA labels A c B d N E from ⟨k3,k5,hP.below b0,hlab.below b0,hE.below b0,hT.upd (Upd.of_below b0 (fun _ => False)) hT.lt id⟩)
 have HB0:=Lib.hid b0
 have HM:=Lib.hid (And.intro hm hn)
 clear b0 k3 k5 hP hlab hE hT hm
 unfold twoV
 rw [hn] at HU HB0 ⊢
 clear hn
 go_enter Tryz.func7,Tryz.ntmps7
 go_upto_region 1 with (fail)
 generalize (w.alloc (.cells #[.int .i64 nts,.slice PA m pc] 50)).alloc (.cells #[.slice A n c,.slice B E.length d] 34) = W0 at HU HB0 ⊢
 have SAY:=Lib.hid (show ∀ V,Below W0.heap.size W0 V→Calls Tryz.prog 22 #[] V (fun e V' => e = .returned (.bool true)∧Below w.heap.size w V') from fun V hb => by
  have h:=HU.out.upd hb
  refine (aawake_any V h.tab h.tab.lt).mono ?_
  rintro e V' ⟨rfl,b⟩
  exact ⟨rfl,(HB0.out.trans (hb.mono HB0.out.size)).trans (b.mono (HB0.out.trans (hb.mono HB0.out.size)).size)⟩)
 have q0:W0.cell? ⟨w.heap.size,0,none⟩ = some (.int .i64 nts):=HU.out.k3.cell 0
 have q1:W0.cell? ⟨w.heap.size,1,none⟩ = some (.slice PA m pc):=HU.out.k3.cell 1
 have k5:=HU.out.k5
 rw [HM.out.2] at k5
 have q70:W0.cell? ⟨w.heap.size + 1,0,none⟩ = some (.slice A n c):=k5.cell 0
 have q71:W0.cell? ⟨w.heap.size + 1,1,none⟩ = some (.slice B E.length d):=k5.cell 1
 clear k5
 by_cases hbig:6 < nts ∨ 12 < m ∨ 6 < n
 ·have haw:=SAY.out W0 (Below.refl _ _)
  by_cases h1:6 < nts
  ·clear hbig
   go_wp2_with fail
   refine haw.mono ?_
   rintro e V ⟨rfl,hb⟩
   go_wp2
   go_ret
   exact ⟨rfl,hb⟩
  ·by_cases h2:12 < m
   ·have h2I:(12:Int) < (m:Int):=by omega
    clear hbig
    go_wp2_with fail
    refine haw.mono ?_
    rintro e V ⟨rfl,hb⟩
    go_wp2
    go_ret
    exact ⟨rfl,hb⟩
   ·have h2I:¬ (12:Int) < (m:Int):=by omega
    have h3I:(6:Int) < (n:Int):=by omega
    clear hbig
    go_wp2_with fail
    refine haw.mono ?_
    rintro e V ⟨rfl,hb⟩
    go_wp2
    go_ret
    exact ⟨rfl,hb⟩
 ·have h1I:¬ 6 < nts:=by omega
  have h2I:¬ (12:Int) < (m:Int):=by omega
  have h3I:¬ (6:Int) < (n:Int):=by omega
  have hm12:m ≤ 12:=by omega
  have hn6:n ≤ 6:=by omega
  have hnt6:nts ≤ 6:=by omega
  clear hbig
  have hof:=ofg_any W0 A c B d N E HU.out.ed
  unfold twoV at hof
  rw [HM.out.2] at hof
  obtain ⟨ci,hci⟩:∃ ci,checkI N E = ci:=⟨_,rfl⟩
  have HC:=Lib.hid hci
  clear hci
  go_upto_region 3 with (fail)
  go_wp2_with fail
  refine hof.mono ?_
  clear hof q70 q71
  rintro e W1 hq
  obtain ⟨v,rfl,hb1,hq⟩:∃ v,e = .returned (.tuple #[v,.int .i64 ci])∧Below W0.heap.size W0 W1∧(ci ≠ 0 ∨ (ci = 0∧∃ p,v = .pointer (some ⟨p,0,none⟩)∧Fresh W0.heap.size p ⟨N,E⟩ W1)):=by
   rcases hq with ⟨h1,h2,h3⟩ | ⟨h1,p,h2,h3,h4⟩
   ·rw [HC.out] at h1 h2
    exact ⟨_,h2,h3,.inl h1⟩
   ·rw [HC.out] at h1
    subst h1
    exact ⟨_,h2,h4,.inr ⟨rfl,p,rfl,h3⟩⟩
  have HB1:=Lib.hid hb1
  clear hb1
  rcases hq with hne | ⟨h0,pg,rfl,F1,g1,n1⟩
  ·have haw:=SAY.out W1 HB1.out
   have hne2:(ci == 0) = false:=by simpa using hne
   clear hne
   go_wp2_with fail
   refine haw.mono ?_
   rintro e V ⟨rfl,hb⟩
   go_wp2
   go_ret
   exact ⟨rfl,hb⟩
  have okG:GOk ⟨N,E⟩:=gok_of (HC.out.trans h0)
  subst h0
  have hU:=HU.out.upd HB1.out
  have q0:W1.cell? ⟨w.heap.size,0,none⟩ = some (.int .i64 nts):=hU.k3.cell 0
  have q1:W1.cell? ⟨w.heap.size,1,none⟩ = some (.slice PA m pc):=hU.k3.cell 1
  have hnew:=(anew_any W1 nts PA pc PV hU.pv LA cl labels hU.lab F1 pg ⟨N,E⟩ g1 okG hU.tab hU.tab.lt).mono (fun _ _ h => nwC_of h)
  rw [HM.out.1] at hnew
  have HG:=Lib.hid (And.intro g1 (And.intro n1 okG))
  clear hU g1 n1 okG HC
  go_wp2_with fail
  refine hnew.mono ?_
  clear hnew q0 q1
  rintro e W2 ⟨va,ea,rfl,hN⟩
  have HB2:=Lib.hid (HB1.out.trans (hN.1.mono HB1.out.size))
  have hU:=HU.out.upd HB2.out
  have q0:W2.cell? ⟨w.heap.size,0,none⟩ = some (.int .i64 nts):=hU.k3.cell 0
  have q1:W2.cell? ⟨w.heap.size,1,none⟩ = some (.slice PA m pc):=hU.k3.cell 1
  rcases hN.2 with ⟨a1,rfl,rfl⟩ | ⟨a1,rfl,pa,Fa,Ba,rfl,ca,na,da,wa⟩
  ·have hck:=acheck_any W2 nts PA pc PV hU.pv LA cl labels hU.lab
   rw [HM.out.1,a1] at hck
   clear hN a1 hU
   go_wp2_with fail
   refine hck.mono ?_
   rintro e V3 ⟨rfl,b3⟩
   have haw:=SAY.out V3 (HB2.out.trans (b3.mono HB2.out.size))
   clear b3 q0 q1
   go_wp2_with fail
   refine haw.mono ?_
   rintro e V ⟨rfl,hb⟩
   go_wp2
   go_ret
   exact ⟨rfl,hb⟩
  ·rcases achk_cases nts PV labels with a2 | ⟨-,-,hn1,-,-,-,hsh⟩
   ·rw [a1] at a2;cases a2
   obtain ⟨T,hT⟩:∃ T,nts.toNat = T:=⟨_,rfl⟩
   obtain ⟨side,hside⟩:∃ side,max 1 N.length = side:=⟨_,rfl⟩
   have hT1:1 ≤ T:=by omega
   have hT6:T ≤ 6:=by omega
   have hnT:nts = (T:Int):=by omega
   have hNn:=HM.out.2
   have hs1:1 ≤ side:=by omega
   have hs64:side ≤ 64:=by omega
   have hns:n ≤ side:=by omega
   dsimp only at ca da
   rw [hT] at ca da
   rw [hside,hNn] at ca
   rw [hNn] at da
   have HD:=Lib.hid (And.intro da (And.intro wa hsh))
   have hwd:∀ k,k < T→Wd (oldW (Ba k)):=fun k _ => (wa k).old
   have hlen:(facL Ba T).length ≤ 2097152:=by
    have h2:(facL Ba T).length ≤ T * 4096:=facF_len Ba T 0 (fun j _ _ => (wa j).old)
    omega
   obtain ⟨L,hL⟩:∃ L,facL Ba T = L:=⟨_,rfl⟩
   obtain ⟨l,hll⟩:∃ l,L.length = l:=⟨_,rfl⟩
   rw [hL,hll] at hlen
   have HL:=Lib.hid (And.intro hL (And.intro hll hwd))
   have HCa:=Lib.hid (And.intro ca hN.1)
   subst hnT
   clear ca na da wa a1 hsh hwd hL hll hT hside hNn hN q0 q1
   have hnd:=nodes_gr W2 F1 pg ⟨N,E⟩ (HG.out.1.below HCa.out.2) HG.out.2.2
   go_wp2_with fail
   refine hnd.mono ?_
   clear hnd
   rintro e W3 ⟨nv,rfl,own3,b3⟩
   obtain ⟨NA,nc,rfl,-,-⟩:=own_form own3
   dsimp only at own3 ⊢
   obtain ⟨O,pv,ad,hi,hFa⟩:=HCa.out.1.below b3
   have b03:=HB2.out.trans (b3.mono HB2.out.size)
   have hfa:=facts_any W3 O pa side n T pv ad Ba hi (HU.out.upd b03).tab hT1 (by omega)
   rw [HL.out.1] at hfa
   unfold FacP at hfa
   rw [HL.out.2.1] at hfa
   rw [HM.out.2] at own3 ⊢
   have H3:=Lib.hid (And.intro own3 (And.intro b03 b3))
   clear own3 b03 b3 hU hi hFa
   go_wp2_with fail
   refine hfa.mono ?_
   clear hfa
   rintro e W4 ⟨MA,mc,rfl,own4,b4⟩
   have H4:=Lib.hid (And.intro own4 (And.intro b4 (H3.out.2.1.trans (b4.mono H3.out.2.1.size))))
   clear own4 b4
   go_wp2
   obtain ⟨tot,htot⟩:∃ tot,T * n * n = tot:=⟨_,rfl⟩
   obtain ⟨nn,hnn⟩:∃ nn,n * n = nn:=⟨_,rfl⟩
   obtain ⟨tn,htn⟩:∃ tn,T * n = tn:=⟨_,rfl⟩
   have htn36:tn ≤ 36:=by rw [← htn];exact Nat.mul_le_mul hT6 hn6
   have hnn36:nn ≤ 36:=by rw [← hnn];exact Nat.mul_le_mul hn6 hn6
   have htot216:tot ≤ 216:=by rw [← htot,htn];exact Nat.mul_le_mul htn36 hn6
   have hw1:IntKind.i64.wrap ((T:Int) * (n:Int)) = (tn:Int):=by rw [← Int.natCast_mul,htn];exact IntWalk.i64_in _ (by omega)
   have hw2:IntKind.i64.wrap ((tn:Int) * (n:Int)) = (tot:Int):=by rw [← Int.natCast_mul,← htn,htot];exact IntWalk.i64_in _ (by omega)
   have hw3:IntKind.i64.wrap ((n:Int) * (n:Int)) = (nn:Int):=by rw [← Int.natCast_mul,hnn];exact IntWalk.i64_in _ (by omega)
   have HT:=Lib.hid (And.intro htot (And.intro hnn htn))
   clear htot hnn htn
   go_loopw [12] (fun iv wr => ∃ x:Nat,x ≤ tot∧iv = .int .i64 (x:Int)∧Hid (Below W4.heap.size W4 wr)) (fun iv _ => tot - (intOf iv).toNat)
   case atStart => exact ⟨0,Nat.zero_le _,rfl,Lib.hid (Below.refl _ _)⟩
   case round =>
    obtain ⟨x,hx,rfl,hbw⟩:=hrel
    have b0r:=H4.out.2.2.trans (hbw.out.mono H4.out.2.2.size)
    have hU:=HU.out.upd b0r
    have q0:wr.cell? ⟨w.heap.size,0,none⟩ = some (.int .i64 (T:Int)):=hU.k3.cell 0
    have q1:wr.cell? ⟨w.heap.size,1,none⟩ = some (.slice PA m pc):=hU.k3.cell 1
    by_cases hxt:x < tot
    ·have hxI:(x:Int) < (tot:Int):=by omega
     have hkw:IntKind.i64.wrap ((x:Int) + 1) = (x:Int) + 1:=IntWalk.i64_in _ (by omega)
     have hn0:0 < n:=by
      rcases Nat.eq_zero_or_pos n with h | h
      ·exfalso
       have:=HT.out.1
       rw [h] at this
       simp at this
       omega
      ·exact h
     have hnn0:0 < nn:=by rw [← HT.out.2.1];exact Nat.mul_pos hn0 hn0
     have hnz:¬ n = 0:=by omega
     have hnnz:¬ nn = 0:=by omega
     obtain ⟨i0,hi0⟩:∃ i,x / nn = i:=⟨_,rfl⟩
     obtain ⟨y0,hy0⟩:∃ i,x / n = i:=⟨_,rfl⟩
     obtain ⟨i1,hi1⟩:∃ i,y0 % n = i:=⟨_,rfl⟩
     obtain ⟨i2,hi2⟩:∃ i,x % n = i:=⟨_,rfl⟩
     have hi0l:i0 < T:=by
      rw [← hi0,Nat.div_lt_iff_lt_mul hnn0,← HT.out.2.1,← Nat.mul_assoc,HT.out.1]
      exact hxt
     have hy0l:y0 ≤ 216:=by rw [← hy0];exact Nat.le_trans (Nat.div_le_self _ _) (by omega)
     have hi1l:i1 < n:=by rw [← hi1];exact Nat.mod_lt _ hn0
     have hi2l:i2 < n:=by rw [← hi2];exact Nat.mod_lt _ hn0
     have hq1:IntKind.i64.wrap ((x:Int) / (nn:Int)) = (i0:Int):=by rw [← Int.natCast_ediv,hi0];exact IntWalk.i64_in _ (by omega)
     have hq2:IntKind.i64.wrap ((x:Int) / (n:Int)) = (y0:Int):=by rw [← Int.natCast_ediv,hy0];exact IntWalk.i64_in _ (by omega)
     have hq3:Int.tmod (y0:Int) (n:Int) = (i1:Int):=by rw [Int.tmod_eq_emod_of_nonneg (by omega),← Int.natCast_emod,hi1]
     have hq4:Int.tmod (x:Int) (n:Int) = (i2:Int):=by rw [Int.tmod_eq_emod_of_nonneg (by omega),← Int.natCast_emod,hi2]
     have HXi:=Lib.hid (And.intro hi0 (And.intro hy0 (And.intro hi1 hi2)))
     clear hi0 hy0 hi1 hi2
     go_upto_region 14 with (fail)
     refine wp_region_ord (fun _ => True) 21 [(0,true),(1,true),(2,true),(3,true),(4,true),(5,true),(6,true),(7,true),(8,true),(9,true),(10,true),(11,true),(12,true),(13,true),(14,true),(15,true),(16,true),(17,true),(18,true),(19,false),(20,false)] (by kernel_rfl) (by kernel_rfl) (fun _ _ d _ _ h => by cases d <;> exact h) trivial ?_
     iterate 19 (refine ord_takeA rfl ?_;(try simp only [Act.put,gA,gS,gZ,sA,sZ,sS]))
     refine ord_do rfl rfl (fun K hK => ?_)
     go_simp
     refine hK _ _ (fun _ => trivial) ?_
     clear hK K
     (try simp only [Act.put,gA,gS,gZ,sA,sZ,sS])
     refine ord_do rfl rfl (fun K hK => ?_)
     go_simp
     refine hK _ _ (fun _ => trivial) ?_
     clear hK K
     (try simp only [Act.put,gA,gS,gZ,sA,sZ,sS])
     refine ord_done ?_
     have b5:Below wr.heap.size wr (wr.alloc (.cells #[.int .i64 (i0:Int),.int .i64 (i1:Int),.int .i64 (i2:Int)] 52)).drew:=((Below.refl _ _).alloc (Nat.le_refl _) _).drew
     have k5:Blk (wr.alloc (.cells #[.int .i64 (i0:Int),.int .i64 (i1:Int),.int .i64 (i2:Int)] 52)).drew wr.heap.size 52 #[.int .i64 (i0:Int),.int .i64 (i1:Int),.int .i64 (i2:Int)]:=Blk.new wr _ _
     have H5:=Lib.hid (And.intro k5 (hbw.out.trans (b5.mono hbw.out.size)))
     clear k5 b5
     generalize (wr.alloc (.cells #[.int .i64 (i0:Int),.int .i64 (i1:Int),.int .i64 (i2:Int)] 52)).drew = V5 at H5 ⊢
     have p0:V5.cell? ⟨wr.heap.size,0,none⟩ = some (.int .i64 (i0:Int)):=H5.out.1.cell 0
     have p1:V5.cell? ⟨wr.heap.size,1,none⟩ = some (.int .i64 (i1:Int)):=H5.out.1.cell 1
     have p2:V5.cell? ⟨wr.heap.size,2,none⟩ = some (.int .i64 (i2:Int)):=H5.out.1.cell 2
     have b25:=HCa.out.2.trans ((H3.out.2.2.trans ((H4.out.2.1.trans (H5.out.2.mono H4.out.2.1.size)).mono H3.out.2.2.size)).mono HCa.out.2.size)
     obtain ⟨bt,hbt⟩:∃ bt,bitO (Ba i0) i1 i2 = bt:=⟨_,rfl⟩
     have hhas:=ahas_any V5 Fa pa side n T Ba (HCa.out.1.below ((H3.out.2.2.trans ((H4.out.2.1.trans (H5.out.2.mono H4.out.2.1.size)).mono H3.out.2.2.size)))) hT1 hns hs64 (i0:Int) (i1:Int) (i2:Int)
     unfold hasV at hhas
     rw [if_pos (by omega),Int.toNat_natCast,Int.toNat_natCast,Int.toNat_natCast,hbt] at hhas
     clear q0 q1 hU b0r b25
     have HBt:=Lib.hid hbt
     clear hbt
     go_wp2_with fail
     refine hhas.mono ?_
     clear hhas p0 p1 p2
     rintro e V6 ⟨rfl,b6⟩
     have H6:=Lib.hid (And.intro (H5.out.1.upd (Upd.of_below b6 (fun _ => False)) id) (H5.out.2.trans (b6.mono H5.out.2.size)))
     clear b6
     go_wp2
     obtain ⟨Wt,hWt⟩:∃ Wt,Wt = wr:=⟨_,rfl⟩
     subst hWt
     go_loopw [16] (fun iv wr => ∃ i:Nat,i ≤ m∧iv = .int .i64 (i:Int)∧Hid (Below V6.heap.size V6 wr)) (fun iv _ => m - (intOf iv).toNat)
     case atStart => exact ⟨0,Nat.zero_le _,rfl,Lib.hid (Below.refl _ _)⟩
     case round =>
      obtain ⟨i,hi,rfl,hb⟩:=hrel
      have b4r:=H6.out.2.trans (hb.out.mono H6.out.2.size)
      have b0r:=H4.out.2.2.trans (b4r.mono H4.out.2.2.size)
      have hU:=HU.out.upd b0r
      have q1:wr.cell? ⟨w.heap.size,1,none⟩ = some (.slice PA m pc):=hU.k3.cell 1
      have hnext:Hid (Below W4.heap.size W4 wr):=Lib.hid b4r
      by_cases him:i < m
      ·have hiI:(i:Int) < (m:Int):=by omega
       cases bt with
       | true =>
        go_wp2
        go_roundw
        case rel => exact ⟨x + 1,by omega,by go_num,hnext⟩
        case measure => simp [intOf];omega
       | false =>
        have hkw2:IntKind.i64.wrap ((i:Int) + 1) = (i:Int) + 1:=IntWalk.i64_in _ (by omega)
        obtain ⟨y,hy⟩:∃ y,PV[i]? = some y:=⟨PV[i]'(by rw [HM.out.1];exact him),List.getElem?_eq_getElem _⟩
        have hym:=List.mem_of_getElem? hy
        obtain ⟨gb,gof,rfl,-,-⟩:=hU.pv.1.pv hy
        have SR:=Lib.hid (show ∀ V,Below V6.heap.size V6 V→(fun V => V.cell? ⟨w.heap.size,1,none⟩ = some (.slice (some ⟨gb,gof,none⟩) m pc)∧V.cell? ⟨gb,gof + i * 2,none⟩ = some (.int .i64 y.pr.head)∧V.cell? ⟨gb,gof + i * 2 + 1,none⟩ = some (.slice y.adr y.pr.body.length y.cap)∧V.cell? ⟨Wt.heap.size,0,none⟩ = some (.int .i64 (i0:Int))∧V.cell? ⟨Wt.heap.size,1,none⟩ = some (.int .i64 (i1:Int))∧V.cell? ⟨Wt.heap.size,2,none⟩ = some (.int .i64 (i2:Int))) V from fun V hb => by
         have b4:=H6.out.2.trans (hb.mono H6.out.2.size)
         have hU:=HU.out.upd (H4.out.2.2.trans (b4.mono H4.out.2.2.size))
         obtain ⟨b1,o1,e,c0,c1⟩:=hU.pv.1.pv hy
         injection e with e;injection e with e1 e2
         subst e1;subst e2
         have k:=H6.out.1.upd (Upd.of_below hb (fun _ => False)) id
         exact ⟨hU.k3.cell 1,c0,c1,k.cell 0,k.cell 1,k.cell 2⟩)
        have hB0:=Lib.hid (show Below V6.heap.size V6 wr.drew from hb.out.drew)
        have hS:=SR.out _ hB0.out
        have b4d:=H6.out.2.trans (hB0.out.mono H6.out.2.size)
        have b3d:=H4.out.2.1.trans (b4d.mono H4.out.2.1.size)
        have b2d:=H3.out.2.2.trans (b3d.mono H3.out.2.2.size)
        have hUd:=HU.out.upd (H4.out.2.2.trans (b4d.mono H4.out.2.2.size))
        have rN:=RowR.of_own (ownsRow_upd H3.out.1 (Upd.of_below b3d (fun _ => False)) (fun _ _ => id))
        have rM:=RowR.of_own (ownsRow_upd H4.out.1 (Upd.of_below b4d (fun _ => False)) (fun _ _ => id))
        have hcon:=born_any wr.drew y.pr.head y.pr.body y.adr y.cap (hUd.pv.2 y hym) LA cl labels hUd.lab F1 pg ⟨N,E⟩ (HG.out.1.below (HCa.out.2.trans (b2d.mono HCa.out.2.size))) HG.out.2.2 NA nc rN hUd.ed.fit.tn MA mc L rM (by rw [HL.out.2.1];exact hlen) (i0,i1,i2) (by show i1 < N.length;rw [HM.out.2];exact hi1l) (by show i2 < N.length;rw [HM.out.2];exact hi2l) (T:Int) (HD.out.2.2 y hym)
        dsimp only at hcon
        rw [HM.out.2,HL.out.2.1] at hcon
        have hfalse:¬ Born y.pr (ElG ⟨N,E⟩ labels) L (i0,i1,i2):=fun hbn => by
         have d:=born_der (P:=PV.map (·.pr)) (n:=n) (fun z hz => by
          rw [← HL.out.1] at hz
          obtain ⟨z0,z1,z2⟩:=z
          obtain ⟨e1,-,-,e4⟩:=(facL_mem HL.out.2.2).1 hz
          exact (HD.out.1 z0 e1 z1 z2).1 e4) (List.mem_map.2 ⟨y,hym,rfl⟩) (by show i1 < n;exact hi1l) hbn
         have:=(HD.out.1 i0 hi0l i1 i2).2 d
         rw [HBt.out] at this
         cases this
        have HF:=Lib.hid hfalse
        clear hfalse hUd rN rM b4d b3d b2d hU b0r b4r hnext
        go_upto_region 21 with (fail)
        refine wp_region_ord (fun V => V.cell? ⟨w.heap.size,1,none⟩ = some (.slice (some ⟨gb,gof,none⟩) m pc)∧V.cell? ⟨gb,gof + i * 2,none⟩ = some (.int .i64 y.pr.head)∧V.cell? ⟨gb,gof + i * 2 + 1,none⟩ = some (.slice y.adr y.pr.body.length y.cap)∧V.cell? ⟨Wt.heap.size,0,none⟩ = some (.int .i64 (i0:Int))∧V.cell? ⟨Wt.heap.size,1,none⟩ = some (.int .i64 (i1:Int))∧V.cell? ⟨Wt.heap.size,2,none⟩ = some (.int .i64 (i2:Int))) 12 [(0,true),(1,true),(2,true),(3,true),(4,true),(5,true),(6,true),(7,true),(8,true),(9,true),(10,false),(11,true)] (by kernel_rfl) (by kernel_rfl) (fun _ _ d _ _ h => by cases d <;> exact h) hS ?_
        clear hS
        iterate 10 (refine ord_takeA rfl ?_;(try simp only [Act.put,gA,gS,gZ,sA,sZ,sS]))
        refine ord_do rfl rfl (fun K hK => ?_)
        go_simp
        refine hcon.mono ?_
        clear hcon q1
        rintro e V7 ⟨r,rfl,hr,b7⟩
        have hr0:r = false:=by
         cases r with
         | false => rfl
         | true => exact absurd (hr.1 rfl) HF.out
        subst hr0
        clear hr
        have hB7:=Lib.hid (hB0.out.trans (b7.mono hB0.out.size))
        have hS:=SR.out _ hB7.out
        refine hK _ _ (fun _ => hS) ?_
        clear hK K hS SR b7
        (try simp only [Act.put,gA,gS,gZ,sA,sZ,sS])
        (refine ord_takeA rfl ?_;(try simp only [Act.put,gA,gS,gZ,sA,sZ,sS]))
        refine ord_done ?_
        go_wp2
        go_roundw
        case rel => exact ⟨i + 1,by omega,by go_num,hB7⟩
        case measure => simp [intOf];omega
      ·have hiI:¬ (i:Int) < (m:Int):=by omega
       obtain rfl:i = m:=by omega
       go_wp2
       go_roundw
       case rel => exact ⟨x + 1,by omega,by go_num,hnext⟩
       case measure => simp [intOf];omega
    ·obtain rfl:x = tot:=by omega
     by_cases hl60:60 < l
     ·have hlI:(60:Int) < (l:Int):=by omega
      have haw:=SAY.out wr b0r
      go_wp2_with fail
      refine haw.mono ?_
      rintro e V ⟨rfl,hb⟩
      go_wp2
      go_ret
      exact ⟨rfl,hb⟩
     ·have hlI:¬ (60:Int) < (l:Int):=by omega
      have own4:=ownsRow_upd H4.out.1 (Upd.of_below hbw.out (fun _ => False)) (fun _ _ => id)
      have HT0:=Lib.hid (show TwI W4 wr (.slice none 0 0) (.slice MA l mc) (.slice none 0 0) [] L [] from ⟨World.ownsRow_nil _ _ _ _,World.ownsRow_nil _ _ _ _,⟨MA,mc,by rw [HL.out.2.1],RowR.of_own own4⟩,fun q hq => (own4.lt q hq).2,fun q hq => by simp [Value.ownBlock] at hq,fun q hq => by simp [Value.ownBlock] at hq,hbw.out⟩)
      clear own4 hU b0r
      go_wp2
      clear q0 q1
      have hl60':l ≤ 60:=by omega
      have HI0:=Lib.hid (show MetL L [] L l 0 from ⟨fun z => by simp,by rw [List.nil_append,← HL.out.1];exact facF_nodup _ _,.inr (by rw [HL.out.2.1];exact Nat.le_refl _),by rw [HL.out.2.1];exact Nat.zero_add _⟩)
      have hHd:∀ p ∈ PV.map (·.pr),0 ≤ p.head∧p.head < (T:Int):=fun p hp => by
       obtain ⟨y,hy,rfl⟩:=List.mem_map.1 hp
       exact shape_head (HD.out.2.2 y hy)
      have hEl:∀ k i j,ElG ⟨N,E⟩ labels k i j→i < n∧j < n:=fun k i j h => by
       have h2:=ElG.lt h
       rw [← HM.out.2]
       exact h2
      have hall:∀ a i j,(a,i,j) ∈ L ↔ DerP (PV.map (·.pr)) (ElG ⟨N,E⟩ labels) n (a:Int) i j:=fun a i j => by
       rw [← HL.out.1,facL_mem HL.out.2.2]
       constructor
       ·rintro ⟨h1,-,-,h4⟩
        exact (HD.out.1 a h1 i j).1 h4
       ·intro d
        obtain ⟨k,e,hk⟩:=der_head3 hHd d
        have hij:=der_lt3 hEl d
        obtain rfl:a = k:=by omega
        exact ⟨hk,by omega,by omega,(HD.out.1 a hk i j).2 d⟩
      have hnat:∀ (a:Int) i j,DerP (PV.map (·.pr)) (ElG ⟨N,E⟩ labels) n a i j→∃ k:Nat,a = (k:Int):=fun a i j d => by
       obtain ⟨k,e,-⟩:=der_head3 hHd d
       exact ⟨k,e⟩
      have HAll:=Lib.hid (And.intro hall (And.intro hnat hEl))
      clear hHd hEl hall hnat
      go_loopw [18,19,20] (fun mv lv rv wr => ∃ (r:Nat) (M Lf:List (Nat × Nat × Nat)),r ≤ l + 1∧rv = .int .i64 (r:Int)∧Hid (TwI W4 wr mv lv (.slice none 0 0) M Lf [])∧Hid (MetL L M Lf l r)) (fun _ _ rv _ => l + 1 - (intOf rv).toNat)
      case atStart => exact ⟨0,[],L,by omega,rfl,HT0,HI0⟩
      case round =>
       obtain ⟨r,M,Lf,hr,rfl,htw,hin⟩:=hrel
       obtain ⟨A5,c5,rfl,-⟩:=htw.out.l
       obtain ⟨A6,c6,rfl,-,-⟩:=own_form htw.out.m
       have b0r:=H4.out.2.2.trans (htw.out.bl.mono H4.out.2.2.size)
       by_cases hLf:Lf = []
       ·subst hLf
        have haw:=SAY.out wr b0r
        by_cases hrl:r ≤ l
        ·have hrI:(r:Int) ≤ (l:Int):=by omega
         go_wp2_with fail
         refine haw.mono ?_
         rintro e V ⟨rfl,hb⟩
         go_wp2
         go_ret
         exact ⟨rfl,hb⟩
        ·have hrI:¬ (r:Int) ≤ (l:Int):=by omega
         go_wp2_with fail
         refine haw.mono ?_
         rintro e V ⟨rfl,hb⟩
         go_wp2
         go_ret
         exact ⟨rfl,hb⟩
       ·have hrl:Lf.length + r ≤ l:=hin.out.2.2.1.resolve_left hLf
        have hpos:0 < Lf.length:=List.length_pos_iff.2 hLf
        obtain ⟨lf,hlf⟩:∃ lf,Lf.length = lf:=⟨_,rfl⟩
        obtain ⟨ml,hml⟩:∃ ml,M.length = ml:=⟨_,rfl⟩
        rw [hlf] at hrl hpos
        rw [hlf,hml]
        have hrI:(r:Int) ≤ (l:Int):=by omega
        have hlfI:(0:Int) < (lf:Int):=by omega
        have hkw:IntKind.i64.wrap ((r:Int) + 1) = (r:Int) + 1:=IntWalk.i64_in _ (by omega)
        have hmlf:ml + lf = l:=by have:=hin.out.2.2.2;omega
        have htw2:=htw.out
        rw [hlf,hml] at htw2
        have HTw:=Lib.hid htw2
        have HLf:=Lib.hid (And.intro hlf (And.intro hml hLf))
        clear hlf hml hLf htw htw2 b0r
        go_wp2
        go_loopw [18,21,22] (fun mv tv kv wr => ∃ (k:Nat) (M2 Lt:List (Nat × Nat × Nat)),k ≤ lf∧kv = .int .i64 (k:Int)∧Hid (TwI W4 wr mv (.slice A5 lf c5) tv M2 Lf Lt)∧Hid ((Lf.take k).foldl (stepL (PV.map (·.pr)) (ElG ⟨N,E⟩ labels)) (M,[]) = (M2,Lt))) (fun _ _ kv _ => lf - (intOf kv).toNat)
        case atStart => exact ⟨0,M,[],by omega,rfl,HTw,Lib.hid rfl⟩
        case round =>
         obtain ⟨k,M2,Lt,hk,rfl,ht2,hf2⟩:=hrel
         obtain ⟨A7,c7,rfl,-,-⟩:=own_form ht2.out.m
         obtain ⟨A8,c8,rfl,-,-⟩:=own_form ht2.out.t
         obtain ⟨m2,hm2⟩:∃ q,M2.length = q:=⟨_,rfl⟩
         obtain ⟨t2,ht2l⟩:∃ q,Lt.length = q:=⟨_,rfl⟩
         have hsum:m2 + t2 = ml + k:=by
          have h:=(rnd_len (P:=PV.map (·.pr)) (El:=ElG ⟨N,E⟩ labels) (Lf.take k) (M,[])).1
          rw [hf2.out] at h
          dsimp only at h
          rw [hm2,ht2l,HLf.out.2.1,List.length_take,HLf.out.1,Nat.min_eq_left hk] at h
          simpa using h
         have ht3:=ht2.out
         rw [hm2,ht2l] at ht3 ⊢
         have HT3:=Lib.hid (And.intro ht3 (And.intro hm2 ht2l))
         clear ht3 hm2 ht2l ht2
         by_cases hkl:k < lf
         ·have hkI:(k:Int) < (lf:Int):=by omega
          have hkw2:IntKind.i64.wrap ((k:Int) + 1) = (k:Int) + 1:=IntWalk.i64_in _ (by omega)
          obtain ⟨x,hx⟩:∃ x,Lf[k]? = some x:=⟨Lf[k]'(by rw [HLf.out.1];exact hkl),List.getElem?_eq_getElem _⟩
          obtain ⟨Ax,cx,ex,rx⟩:=HT3.out.1.l
          injection ex with ex1 ex2 ex3
          subst ex1
          obtain ⟨x0,x1,x2⟩:=x
          obtain ⟨fb,fo,rfl,-,-,-⟩:=rx.fact hx
          have hxl:=der_lt3 HAll.out.2.2 ((HAll.out.1 x0 x1 x2).1 ((hin.out.1 _).1 (.inr (List.mem_of_getElem? hx))))
          have FR:=Lib.hid (show ∀ V,Below wr.heap.size wr V→V.cell? ⟨fb,fo + k * 3,none⟩ = some (.int .i64 (x0:Int))∧V.cell? ⟨fb,fo + k * 3 + 1,none⟩ = some (.int .i64 (x1:Int))∧V.cell? ⟨fb,fo + k * 3 + 2,none⟩ = some (.int .i64 (x2:Int)) from fun V hb => by
           obtain ⟨A,c,e,r⟩:=(HT3.out.1.below hb).l
           injection e with e1 e2 e3
           subst e1
           obtain ⟨b1,o1,e,c0,c1,c2⟩:=r.fact hx
           injection e with e;injection e with e1 e2
           subst e1;subst e2
           exact ⟨c0,c1,c2⟩)
          have HX:=Lib.hid (And.intro hx hxl)
          clear rx hx hxl ex2 ex3
          obtain ⟨Wk,hWk⟩:∃ Wk,Wk = wr:=⟨_,rfl⟩
          subst hWk
          go_wp2
          go_loopw [23,24] (fun cv iv wr => ∃ (i:Nat) (cm:Bool),i ≤ m∧iv = .int .i64 (i:Int)∧cv = .bool cm∧Hid (Below Wk.heap.size Wk wr)∧Hid ((cm = true→∃ p ∈ PV.map (·.pr),Born p (ElG ⟨N,E⟩ labels) M2 (x0,x1,x2))∧(cm = false→∀ y ∈ PV.take i,¬ Born y.pr (ElG ⟨N,E⟩ labels) M2 (x0,x1,x2)))) (fun _ iv _ => m - (intOf iv).toNat)
          case atStart => exact ⟨0,false,Nat.zero_le _,rfl,rfl,Lib.hid (Below.refl _ _),Lib.hid ⟨fun h => (by cases h),fun _ y hy => (by cases hy)⟩⟩
          case round =>
           obtain ⟨i,cm,hi,rfl,rfl,hb,hc⟩:=hrel
           have b4r:=HT3.out.1.bl.trans (hb.out.mono HT3.out.1.bl.size)
           have b0r:=H4.out.2.2.trans (b4r.mono H4.out.2.2.size)
           have hU:=HU.out.upd b0r
           have q1:wr.cell? ⟨w.heap.size,1,none⟩ = some (.slice PA m pc):=hU.k3.cell 1
           obtain ⟨f0,f1,f2⟩:=FR.out wr hb.out
           have bA:Below wr.heap.size wr (wr.alloc (.cells #[.int .i64 (x0:Int),.int .i64 (x1:Int),.int .i64 (x2:Int)] 52)):=(Below.refl _ _).alloc (Nat.le_refl _) _
           have htA:=(HT3.out.1.below hb.out).below bA
           have hrow:RowR (wr.alloc (.cells #[.int .i64 (x0:Int),.int .i64 (x1:Int),.int .i64 (x2:Int)] 52)) (some ⟨wr.heap.size,0,none⟩) (faC (x0,x1,x2)):=blk_row (Blk.new wr 52 #[.int .i64 (x0:Int),.int .i64 (x1:Int),.int .i64 (x2:Int)])
           cases cm with
           | true =>
            obtain ⟨A9,c9,W9,happ,ht9⟩:=htA.meet HT3.out.2.1 (x0,x1,x2) _ 1 hrow (by omega)
            have hf3:(Lf.take (k + 1)).foldl (stepL (PV.map (·.pr)) (ElG ⟨N,E⟩ labels)) (M,[]) = (M2 ++ [(x0,x1,x2)],Lt):=by
             rw [List.take_add_one,HX.out.1,List.foldl_append,hf2.out]
             show stepL _ _ (M2,Lt) (x0,x1,x2) = _
             unfold stepL
             exact if_pos (hc.out.1 rfl)
            have HN:=Lib.hid (And.intro ht9 hf3)
            clear ht9 hf3 hU htA hrow bA b0r b4r
            rcases Decidable.em ((i:Int) < (m:Int)) with hiI | hiI
            ·go_wp2_with (at_builtin;refine wpList_append_run rfl _ _ _ rfl rfl rfl happ ?_)
             clear happ
             go_roundw
             case rel => exact ⟨k + 1,M2 ++ [(x0,x1,x2)],Lt,by omega,by go_num,Lib.hid HN.out.1,Lib.hid HN.out.2⟩
             case measure => simp [intOf];omega
            ·go_wp2_with (at_builtin;refine wpList_append_run rfl _ _ _ rfl rfl rfl happ ?_)
             clear happ
             go_roundw
             case rel => exact ⟨k + 1,M2 ++ [(x0,x1,x2)],Lt,by omega,by go_num,Lib.hid HN.out.1,Lib.hid HN.out.2⟩
             case measure => simp [intOf];omega
           | false =>
            by_cases him:i < m
            ·have hiI:(i:Int) < (m:Int):=by omega
             have hkw3:IntKind.i64.wrap ((i:Int) + 1) = (i:Int) + 1:=IntWalk.i64_in _ (by omega)
             obtain ⟨y,hy⟩:∃ y,PV[i]? = some y:=⟨PV[i]'(by rw [HM.out.1];exact him),List.getElem?_eq_getElem _⟩
             have hym:=List.mem_of_getElem? hy
             obtain ⟨gb,gof,rfl,-,-⟩:=hU.pv.1.pv hy
             have SR:=Lib.hid (show ∀ V,Below Wk.heap.size Wk V→(fun V => V.cell? ⟨w.heap.size,1,none⟩ = some (.slice (some ⟨gb,gof,none⟩) m pc)∧V.cell? ⟨gb,gof + i * 2,none⟩ = some (.int .i64 y.pr.head)∧V.cell? ⟨gb,gof + i * 2 + 1,none⟩ = some (.slice y.adr y.pr.body.length y.cap)∧V.cell? ⟨fb,fo + k * 3,none⟩ = some (.int .i64 (x0:Int))∧V.cell? ⟨fb,fo + k * 3 + 1,none⟩ = some (.int .i64 (x1:Int))∧V.cell? ⟨fb,fo + k * 3 + 2,none⟩ = some (.int .i64 (x2:Int))) V from fun V hb => by
              have b4:=HT3.out.1.bl.trans (hb.mono HT3.out.1.bl.size)
              have hU:=HU.out.upd (H4.out.2.2.trans (b4.mono H4.out.2.2.size))
              obtain ⟨b1,o1,e,c0,c1⟩:=hU.pv.1.pv hy
              injection e with e;injection e with e1 e2
              subst e1;subst e2
              exact ⟨hU.k3.cell 1,c0,c1,FR.out V hb⟩)
             have hB0:=Lib.hid (show Below Wk.heap.size Wk wr.drew from hb.out.drew)
             have hS:=SR.out _ hB0.out
             have htd:=HT3.out.1.below hB0.out
             have b4d:=htd.bl
             have b3d:=H4.out.2.1.trans (b4d.mono H4.out.2.1.size)
             have b2d:=H3.out.2.2.trans (b3d.mono H3.out.2.2.size)
             have hUd:=HU.out.upd (H4.out.2.2.trans (b4d.mono H4.out.2.2.size))
             have rN:=RowR.of_own (ownsRow_upd H3.out.1 (Upd.of_below b3d (fun _ => False)) (fun _ _ => id))
             have rM:RowR wr.drew A7 (faCells M2):=RowR.of_own (by have h:=htd.m;rwa [HT3.out.2.1] at h)
             have hcon:=born_any wr.drew y.pr.head y.pr.body y.adr y.cap (hUd.pv.2 y hym) LA cl labels hUd.lab F1 pg ⟨N,E⟩ (HG.out.1.below (HCa.out.2.trans (b2d.mono HCa.out.2.size))) HG.out.2.2 NA nc rN hUd.ed.fit.tn A7 c7 M2 rM (by rw [HT3.out.2.1];omega) (x0,x1,x2) (by show x1 < N.length;rw [HM.out.2];exact HX.out.2.1) (by show x2 < N.length;rw [HM.out.2];exact HX.out.2.2) (T:Int) (HD.out.2.2 y hym)
             dsimp only at hcon
             rw [HM.out.2,HT3.out.2.1] at hcon
             have HY:=Lib.hid (And.intro hy hym)
             clear htd hUd rN rM b4d b3d b2d hU b0r b4r f0 f1 f2 bA htA hrow hy hym
             go_upto_region 39 with (fail)
             refine wp_region_ord (fun V => V.cell? ⟨w.heap.size,1,none⟩ = some (.slice (some ⟨gb,gof,none⟩) m pc)∧V.cell? ⟨gb,gof + i * 2,none⟩ = some (.int .i64 y.pr.head)∧V.cell? ⟨gb,gof + i * 2 + 1,none⟩ = some (.slice y.adr y.pr.body.length y.cap)∧V.cell? ⟨fb,fo + k * 3,none⟩ = some (.int .i64 (x0:Int))∧V.cell? ⟨fb,fo + k * 3 + 1,none⟩ = some (.int .i64 (x1:Int))∧V.cell? ⟨fb,fo + k * 3 + 2,none⟩ = some (.int .i64 (x2:Int))) 14 [(0,true),(1,true),(2,true),(3,true),(4,true),(5,true),(6,true),(7,true),(8,true),(9,true),(10,true),(11,true),(12,true),(13,false),(14,true)] (by kernel_rfl) (by kernel_rfl) (fun _ _ d _ _ h => by cases d <;> exact h) hS ?_
             clear hS
             iterate 13 (refine ord_takeA rfl ?_;(try simp only [Act.put,gA,gS,gZ,sA,sZ,sS]))
             refine ord_do rfl rfl (fun K hK => ?_)
             go_simp
             refine hcon.mono ?_
             clear hcon q1
             rintro e V7 ⟨r,rfl,hr,b7⟩
             have hB7:=Lib.hid (hB0.out.trans (b7.mono hB0.out.size))
             have hS:=SR.out _ hB7.out
             have HR:=Lib.hid (show (r = true→∃ p ∈ PV.map (·.pr),Born p (ElG ⟨N,E⟩ labels) M2 (x0,x1,x2))∧(r = false→∀ y ∈ PV.take (i + 1),¬ Born y.pr (ElG ⟨N,E⟩ labels) M2 (x0,x1,x2)) from ⟨fun h => ⟨y.pr,List.mem_map.2 ⟨y,HY.out.2,rfl⟩,hr.1 h⟩,fun h z hz => by
              rw [List.take_add_one,HY.out.1,List.mem_append] at hz
              rcases hz with hz | hz
              ·exact hc.out.2 rfl z hz
              ·obtain rfl:z = y:=by simpa using hz
               exact fun hb => by rw [hr.2 hb] at h;cases h⟩)
             refine hK _ _ (fun _ => hS) ?_
             clear hK K hS SR b7 hr
             (try simp only [Act.put,gA,gS,gZ,sA,sZ,sS])
             (refine ord_takeA rfl ?_;(try simp only [Act.put,gA,gS,gZ,sA,sZ,sS]))
             refine ord_done ?_
             go_wp2
             go_roundw
             case rel => exact ⟨i + 1,r,by omega,by go_num,rfl,hB7,HR⟩
             case measure => simp [intOf];omega
            ·obtain rfl:i = m:=by omega
             have hiI:¬ (i:Int) < (i:Int):=by omega
             obtain ⟨A9,c9,W9,happ,ht9⟩:=htA.late HT3.out.2.2 (x0,x1,x2) _ 1 hrow (by omega)
             have hf3:(Lf.take (k + 1)).foldl (stepL (PV.map (·.pr)) (ElG ⟨N,E⟩ labels)) (M,[]) = (M2,Lt ++ [(x0,x1,x2)]):=by
              rw [List.take_add_one,HX.out.1,List.foldl_append,hf2.out]
              show stepL _ _ (M2,Lt) (x0,x1,x2) = _
              unfold stepL
              refine if_neg ?_
              rintro ⟨p,hp,hbn⟩
              obtain ⟨y,hy,rfl⟩:=List.mem_map.1 hp
              refine hc.out.2 rfl y ?_ hbn
              rw [← HM.out.1,List.take_length]
              exact hy
             have HN:=Lib.hid (And.intro ht9 hf3)
             clear ht9 hf3 hU htA hrow bA b0r b4r
             go_wp2_with (at_builtin;refine wpList_append_run rfl _ _ _ rfl rfl rfl happ ?_)
             clear happ
             go_roundw
             case rel => exact ⟨k + 1,M2,Lt ++ [(x0,x1,x2)],by omega,by go_num,Lib.hid HN.out.1,Lib.hid HN.out.2⟩
             case measure => simp [intOf];omega
         ·obtain rfl:k = lf:=by omega
          have hkI:¬ (k:Int) < (k:Int):=by omega
          have hf3:=hf2.out
          rw [List.take_of_length_le (by rw [HLf.out.1];exact Nat.le_refl _)] at hf3
          have hin2:=Lib.hid (hin.out.next HAll.out.1 HAll.out.2.1 HLf.out.2.2 hf3)
          have ht2:=Lib.hid HT3.out.1.next
          clear hf3
          go_wp2
          go_roundw
          case rel => exact ⟨r + 1,M2,Lt,by omega,by go_num,ht2,hin2⟩
          case measure => simp [intOf];omega
end Go.Proofs.YtddffnonlmfhdaaGreatDoor
namespace Go.Proofs.YtddffnonlmfhdaaGreatDoor.edRead
open Go.ChangeShapes Go.WideShapes Go.ChangeAt Go.RowKit
set_option linter.unusedVariables false
theorem own:ownKnob Tryz.prog.godebug = none:=by kernel_rfl
theorem laidOut:laidOutB Tryz.prog = true:=by kernel_rfl

section
variable {H:Type} {enc:TypeId × Value→H} {P:Program} {w:World}
theorem open_plain {t e m fuel:Nat} {v:Value} {x:DataW H × List MemPlace} (ht:P.underlying t = some (.slice e)) (hk:P.keyTypeAt m e = true)
  (h:DataW.trod enc P w 0 (fun _ => true) true fuel t [v] = some x) (hz:∀ n ∈ x.1.weights P t,n ≤ reachBytes) :
  v = .slice none 0 0 ∨ ∃ a n c,v = .slice (some a) n c∧n ≤ c∧c * P.bytesOf e ≤ reachBytes∧∀ i,i < c→∃ cs L,cs.length = P.cellsOf e∧(∀ j,j < P.cellsOf e→w.cell? (a.add (i * P.cellsOf e + j)) = cs[j]?)∧P.keyLits m e cs = some L:=by
 rcases Deep.open_slice ht h with ⟨hcs,_⟩ | ⟨a,len,cap,m',n',D,Pl,hcs,_,hl,hm,hmm,hx,hi⟩
 ·injection hcs with hcs
  exact .inl hcs
 ·injection hcs with hcs
  subst hcs
  obtain rfl:m' = cap:=by rw [hmm];exact if_pos rfl
  refine .inr ⟨a,len,m',rfl,hl,?_,fun i hic => ?_⟩
  ·subst hx
   exact hz (m' * P.bytesOf e) (by
    simp only [DataW.weights,ht,List.length_map,List.length_range,show len + (m' - len) = m' by omega]
    simp)
  ·obtain ⟨cs',hc,ht'⟩:=hi i (by simpa using hic)
   obtain ⟨_,hlen,hat⟩:=World.cells?_some hc
   exact ⟨cs',_,hlen,fun j hj => by rw [← Deep.add_add];exact hat j hj,(keyLits_of_trod m e hk n' cs' _ ht').1⟩
end
theorem cells_txt:Tryz.prog.cellsOf 9 = 1:=by kernel_rfl
theorem lits_txt {n:Nat} {c:Value} {l:List Lit} (h:Tryz.prog.keyLits n 9 [c] = some l):∃ s:Txt,c = .string s∧TxtOk s:=by
 cases n with
 | zero => simp [Program.keyLits] at h
 | succ n =>
  unfold Program.keyLits at h
  simp only [Tryz.underlying9] at h
  cases c <;> simp at h
  obtain ⟨hw,_⟩:=h
  refine ⟨_,rfl,?_⟩
  unfold TxtOk
  unfold maxLen at hw
  omega
theorem len_one {α:Type}:∀ {l:List α},l.length = 1→∃ a,l = [a]
 | [a],_ => ⟨a,rfl⟩
theorem len_two {α:Type}:∀ {l:List α},l.length = 2→∃ a b,l = [a,b]
 | [a,b],_ => ⟨a,b,rfl⟩
theorem len_three {α:Type}:∀ {l:List α},l.length = 3→∃ a b c,l = [a,b,c]
 | [a,b,c],_ => ⟨a,b,c,rfl⟩
theorem cells_edge:Tryz.prog.cellsOf 32 = 3:=by kernel_rfl
theorem bytes_txt:Tryz.prog.bytesOf 9 = 16:=by kernel_rfl
theorem bytes_edge:Tryz.prog.bytesOf 32 = 48:=by kernel_rfl
theorem lits_ed {cs:List Value} {L:List Lit} (hl:cs.length = 3) (h:Tryz.prog.keyLits 2 32 cs = some L):∃ x:Ed,cs = x.cells∧EdOk x:=by
 obtain ⟨c0,c1,c2,rfl⟩:=len_three hl
 rw [show (2:Nat) = 1 + 1 from rfl] at h
 unfold Program.keyLits at h
 simp only [Tryz.underlying32] at h
 split at h
 ·obtain ⟨l,hl',_⟩:=Option.map_eq_some_iff.1 h
  simp only [cells_txt,List.mapM_cons,List.mapM_nil,bind,Option.bind_eq_some_iff] at hl'
  obtain ⟨l0,h0,q0,⟨l1,h1,q1,⟨l2,h2,-⟩,-⟩,-⟩:=hl'
  simp at h0 h1 h2
  obtain ⟨x,rfl,hx⟩:=lits_txt h0
  obtain ⟨y,rfl,hy⟩:=lits_txt h1
  obtain ⟨z,rfl,hz⟩:=lits_txt h2
  exact ⟨⟨x,y,z⟩,rfl,hx,hy,hz⟩
 ·cases h

theorem row_of {α:Type} [Inhabited α] (cells:α→List Value) (k:Nat) (hlen:∀ x,(cells x).length = k) (h0:0 < k) {W:World} {a:Addr} {n:Nat} (Q:α→Prop) (hg:∀ i,i < n→∃ x:α,Q x∧∀ j,j < k→W.cell? (a.add (i * k + j)) = (cells x)[j]?) :
  ∃ l:List α,l.length = n∧(∀ x ∈ l,Q x)∧RowR W (some a) (l.flatMap cells):=by
 obtain ⟨f,hf⟩:=Deep.choose_lt hg
 refine ⟨(List.range n).map f,by simp,?_,?_⟩
 ·intro x hx
  obtain ⟨i,hi,rfl⟩:=List.mem_map.1 hx
  exact (hf i (List.mem_range.1 hi)).1
 ·intro j u hj
  have hlt:=(List.getElem?_eq_some_iff.1 hj).1
  rw [flat_len cells k hlen] at hlt
  simp only [List.length_map,List.length_range] at hlt
  have hi:j / k < n:=Nat.div_lt_of_lt_mul (by rw [Nat.mul_comm];exact hlt)
  have hjm:j % k < k:=Nat.mod_lt _ h0
  have hjd:j / k * k + j % k = j:=by rw [Nat.mul_comm];exact Nat.div_add_mod j k
  have h1:=flat_get cells k hlen ((List.range n).map f) (j / k) (j % k) (f (j / k)) (by rw [List.getElem?_map,List.getElem?_range hi];rfl) hjm
  rw [hjd,hj] at h1
  have h2:=(hf (j / k) hi).2 (j % k) hjm
  rw [hjd,← h1] at h2
  have h3:=(hf 0 (Nat.lt_of_le_of_lt (Nat.zero_le _) hi)).2 0 h0
  have hlen0:=hlen (f 0)
  rw [List.getElem?_eq_getElem (by omega)] at h3
  have hs:=World.cell?_spot h3
  obtain ⟨b,o,s⟩:=a
  obtain rfl:s = none:=by simpa [Addr.add] using hs
  rw [Addr.add_lit] at h2
  exact ⟨b,o,rfl,h2⟩
instance:Inhabited Txt:=⟨ByteArray.empty⟩
instance:Inhabited Ed:=⟨⟨default,default,default⟩⟩
theorem flat_txt (l:List Txt):(l.flatMap fun s => [Value.string s]) = txtCells l:=by
 induction l with
 | nil => rfl
 | cons x l ih => rw [List.flatMap_cons,ih];rfl

theorem read_txts {H:Type} {enc:TypeId × Value→H} {W:World} {fuel:Nat} {v:Value} {y:DataW H × List MemPlace} (t0:DataW.trod enc Tryz.prog W 0 (fun _ => true) true fuel 26 [v] = some y)
  (w0:∀ n ∈ y.1.weights Tryz.prog 26,n ≤ reachBytes):∃ A c N,v = .slice A (List.length N) c∧RowR W A (txtCells N)∧N.length ≤ c∧N.length * 16 ≤ 140737488355328∧∀ s ∈ N,TxtOk s:=by
 rcases open_plain Tryz.underlying26 (m:=2) (by kernel_rfl) t0 w0 with rfl | ⟨a,n,c,rfl,hnc,hb,hi⟩
 ·exact ⟨none,0,[],rfl,fun j u hj => by simp [txtCells] at hj,Nat.le_refl _,by simp,by simp⟩
 ·obtain ⟨l,hl,hq,hr⟩:=row_of (fun s:Txt => [Value.string s]) 1 (fun _ => rfl) (by decide) (W:=W) (a:=a) (n:=n) TxtOk (fun i hin => by
   obtain ⟨cs,L,hlen,hat,hL⟩:=hi i (by omega)
   rw [cells_txt] at hat hlen
   obtain ⟨c0,rfl⟩:=len_one hlen
   obtain ⟨s,rfl,hs⟩:=lits_txt hL
   exact ⟨s,hs,hat⟩)
  subst hl
  rw [bytes_txt] at hb
  simp only [reachBytes] at hb
  rw [flat_txt] at hr
  exact ⟨_,c,l,rfl,hr,hnc,by omega,hq⟩
theorem read_eds {H:Type} {enc:TypeId × Value→H} {W:World} {fuel:Nat} {v:Value} {y:DataW H × List MemPlace} (t0:DataW.trod enc Tryz.prog W 0 (fun _ => true) true fuel 27 [v] = some y)
  (w0:∀ n ∈ y.1.weights Tryz.prog 27,n ≤ reachBytes):∃ A c E,v = .slice A (List.length E) c∧RowR W A (edCells E)∧E.length ≤ c∧E.length * 48 ≤ 140737488355328∧∀ x ∈ E,EdOk x:=by
 rcases open_plain Tryz.underlying27 (m:=2) (by kernel_rfl) t0 w0 with rfl | ⟨a,n,c,rfl,hnc,hb,hi⟩
 ·exact ⟨none,0,[],rfl,fun j u hj => by simp [edCells] at hj,Nat.le_refl _,by simp,by simp⟩
 ·obtain ⟨l,hl,hq,hr⟩:=row_of Ed.cells 3 (fun _ => rfl) (by decide) (W:=W) (a:=a) (n:=n) EdOk (fun i hin => by
   obtain ⟨cs,L,hlen,hat,hL⟩:=hi i (by omega)
   rw [cells_edge] at hat hlen
   obtain ⟨f,rfl,hw⟩:=lits_ed hlen hL
   exact ⟨f,hw,hat⟩)
  subst hl
  rw [bytes_edge] at hb
  simp only [reachBytes] at hb
  exact ⟨_,c,l,rfl,hr,hnc,by omega,hq⟩
theorem cells_edges:Tryz.prog.cellsOf 34 = 2:=by kernel_rfl
theorem cells_txts:Tryz.prog.cellsOf 26 = 1:=by kernel_rfl
theorem cells_eds:Tryz.prog.cellsOf 27 = 1:=by kernel_rfl

theorem read_edges {H:Type} {enc:TypeId × Value→H} {W:World} {base:Nat} {v:Value} {d0:DataW H} {p0:List MemPlace} (hv:Value.okWide Tryz.prog W .any base 34 v) (h:DataW.Trod enc Tryz.prog W 0 (fun _ => true) true 34 v d0 p0)
  (hz:∀ n ∈ d0.weights Tryz.prog 34,n ≤ reachBytes):∃ A c B d N E,v = twoV A (List.length N) c B (List.length E) d∧ForG W A c B d N E:=by
 obtain ⟨cs,rfl,hcs⟩:=okWide_struct Tryz.underlying34 hv
 rw [cells_edges] at hcs
 obtain ⟨c0,c1,hc⟩:=len_two (l:=cs.toList) (by simpa using hcs)
 obtain rfl:cs = #[c0,c1]:=by cases cs;simp_all
 obtain ⟨fuel,hf⟩:=h
 obtain ⟨y0,y1,n,hx,-,t0,t1⟩:=trod_struct2 Tryz.underlying34 hf
 simp only [Value.cells,cells_txts,cells_eds,List.drop_zero,List.take_succ_cons,List.take_zero,List.drop_succ_cons] at t0 t1
 injection hx with hx1 hx2
 subst hx1
 have w0:∀ n ∈ y0.1.weights Tryz.prog 26,n ≤ reachBytes:=fun n hn => hz n (by
  simp only [DataW.weights,Tryz.underlying34,DataW.weightsEach,List.map_cons,List.map_nil,List.mem_append]
  exact .inl hn)
 have w1:∀ n ∈ y1.1.weights Tryz.prog 27,n ≤ reachBytes:=fun n hn => hz n (by
  simp only [DataW.weights,Tryz.underlying34,DataW.weightsEach,List.map_cons,List.map_nil,List.mem_append]
  exact .inr (.inl hn))
 obtain ⟨A,c,N,rfl,hr0,hc0,hb0,hq0⟩:=read_txts t0 w0
 obtain ⟨B,d,E,rfl,hr1,hc1,hb1,hq1⟩:=read_eds t1 w1
 exact ⟨A,c,B,d,N,E,rfl,hr0,hr1,hc0,hc1,hb0,hb1,hq0,hq1⟩
end Go.Proofs.YtddffnonlmfhdaaGreatDoor.edRead
namespace Go.Proofs.YtddffnonlmfhdaaGreatDoor.edRead
open Go.ChangeShapes Go.WideShapes Go.ChangeAt Go.RowKit
theorem top_txts {H:Type} {enc:TypeId × Value→H} {W:World} {base:Nat} {v:Value} {d0:DataW H} {p0:List MemPlace} (hv:Value.okWide Tryz.prog W .any base 26 v) (h:DataW.Trod enc Tryz.prog W 0 (fun _ => true) true 26 v d0 p0)
  (hz:∀ n ∈ d0.weights Tryz.prog 26,n ≤ reachBytes):∃ A c N,v = .slice A (List.length N) c∧RowR W A (txtCells N)∧N.length ≤ c∧N.length * 16 ≤ 140737488355328∧∀ s ∈ N,TxtOk s:=by
 obtain ⟨a,len,cap,rfl⟩:=okWide_slice Tryz.underlying26 hv
 obtain ⟨fuel,hf⟩:=h
 exact read_txts (y:=(d0,p0)) hf hz
end Go.Proofs.YtddffnonlmfhdaaGreatDoor.edRead
namespace Go.Proofs.YtddffnonlmfhdaaGreatDoor.edRead
open Go.ChangeShapes Go.WideShapes Go.ChangeAt Go.RowKit
set_option linter.unusedVariables false
theorem lits_int {n:Nat} {c:Value} {l:List Lit} (h:Tryz.prog.keyLits n 3 [c] = some l):∃ x,c = .int .i64 x∧Wf x:=by
 cases n with
 | zero => simp [Program.keyLits] at h
 | succ n =>
  unfold Program.keyLits at h
  simp only [Tryz.underlying3] at h
  cases c <;> simp at h
  rename_i k v
  obtain ⟨⟨rfl,hw⟩,_⟩:=h
  exact ⟨v,rfl,hw⟩
theorem lits_bool {n:Nat} {c:Value} {l:List Lit} (h:Tryz.prog.keyLits n 4 [c] = some l):∃ x,c = .bool x:=by
 cases n with
 | zero => simp [Program.keyLits] at h
 | succ n =>
  unfold Program.keyLits at h
  simp only [Tryz.underlying4] at h
  cases c <;> simp at h
  exact ⟨_,rfl⟩
theorem cells_int:Tryz.prog.cellsOf 3 = 1:=by kernel_rfl
theorem cells_bool:Tryz.prog.cellsOf 4 = 1:=by kernel_rfl
theorem cells_sym:Tryz.prog.cellsOf 96 = 2:=by kernel_rfl
theorem cells_syms:Tryz.prog.cellsOf 69 = 1:=by kernel_rfl
theorem cells_prod:Tryz.prog.cellsOf 71 = 2:=by kernel_rfl
theorem cells_prods:Tryz.prog.cellsOf 48 = 1:=by kernel_rfl
theorem cells_cnf:Tryz.prog.cellsOf 50 = 2:=by kernel_rfl
theorem bytes_sym:Tryz.prog.bytesOf 96 = 16:=by kernel_rfl
theorem bytes_prod:Tryz.prog.bytesOf 71 = 32:=by kernel_rfl
instance:Inhabited Sy:=⟨⟨false,0⟩⟩
instance:Inhabited Pv:=⟨⟨⟨0,[]⟩,none,0⟩⟩
theorem lits_sym {cs:List Value} {L:List Lit} (hl:cs.length = 2) (h:Tryz.prog.keyLits 2 96 cs = some L):∃ s:Sy,cs = s.cells∧Wf s.at_:=by
 obtain ⟨c0,c1,rfl⟩:=len_two hl
 rw [show (2:Nat) = 1 + 1 from rfl] at h
 unfold Program.keyLits at h
 simp only [Tryz.underlying96] at h
 split at h
 ·obtain ⟨l,hl',_⟩:=Option.map_eq_some_iff.1 h
  simp only [cells_bool,cells_int,List.mapM_cons,List.mapM_nil,bind,Option.bind_eq_some_iff] at hl'
  obtain ⟨l0,h0,q0,⟨l1,h1,-⟩,-⟩:=hl'
  simp at h0 h1
  obtain ⟨x,rfl⟩:=lits_bool h0
  obtain ⟨y,rfl,hy⟩:=lits_int h1
  exact ⟨⟨x,y⟩,rfl,hy⟩
 ·cases h
theorem read_syms {H:Type} {enc:TypeId × Value→H} {W:World} {fuel:Nat} {v:Value} {y:DataW H × List MemPlace} (t0:DataW.trod enc Tryz.prog W 0 (fun _ => true) true fuel 69 [v] = some y)
  (w0:∀ n ∈ y.1.weights Tryz.prog 69,n ≤ reachBytes):∃ A c S,v = .slice A (List.length S) c∧RowR W A (syCells S)∧S.length ≤ c∧S.length * 16 ≤ 140737488355328∧∀ s ∈ S,Wf s.at_:=by
 rcases open_plain Tryz.underlying69 (m:=2) (by kernel_rfl) t0 w0 with rfl | ⟨a,n,c,rfl,hnc,hb,hi⟩
 ·exact ⟨none,0,[],rfl,fun j u hj => by simp [syCells] at hj,Nat.le_refl _,by simp,by simp⟩
 ·obtain ⟨l,hl,hq,hr⟩:=row_of Sy.cells 2 (fun _ => rfl) (by decide) (W:=W) (a:=a) (n:=n) (fun s => Wf s.at_) (fun i hin => by
   obtain ⟨cs,L,hlen,hat,hL⟩:=hi i (by omega)
   rw [cells_sym] at hat hlen
   obtain ⟨f,rfl,hw⟩:=lits_sym hlen hL
   exact ⟨f,hw,hat⟩)
  subst hl
  rw [bytes_sym] at hb
  simp only [reachBytes] at hb
  exact ⟨_,c,l,rfl,hr,hnc,by omega,hq⟩
def PvFit (v:Pv):Prop:=Wf v.pr.head∧v.pr.body.length ≤ v.cap∧v.pr.body.length * 16 ≤ 140737488355328∧∀ s ∈ v.pr.body,Wf s.at_
theorem weights_all {H:Type} {P:Program} {e:TypeId} {d:DataW H}:∀ {l:List (DataW H)},d ∈ l→∀ n ∈ d.weights P e,n ∈ DataW.weightsAll P e l
 | x :: l,h,n,hn => by
  rw [DataW.weightsAll,List.mem_append]
  rcases List.mem_cons.1 h with rfl | h
  ·exact .inl hn
  ·exact .inr (weights_all h n hn)
theorem read_prod {H:Type} {enc:TypeId × Value→H} {W:World} {fuel:Nat} {cs:List Value} {y:DataW H × List MemPlace} (hl:cs.length = 2) (t:DataW.trod enc Tryz.prog W 0 (fun _ => true) true fuel 71 cs = some y)
  (hz:∀ n ∈ y.1.weights Tryz.prog 71,n ≤ reachBytes):∃ v:Pv,cs = v.cells∧RowR W v.adr (syCells v.pr.body)∧PvFit v:=by
 obtain ⟨c0,c1,rfl⟩:=len_two hl
 obtain ⟨y0,y1,n,hx,-,t0,t1⟩:=trod_struct2 Tryz.underlying71 t
 simp only [cells_int,cells_syms,List.drop_zero,List.take_succ_cons,List.take_zero,List.drop_succ_cons] at t0 t1
 subst hx
 have w1:∀ n ∈ y1.1.weights Tryz.prog 69,n ≤ reachBytes:=fun n hn => hz n (by
  simp only [DataW.weights,Tryz.underlying71,DataW.weightsEach,List.map_cons,List.map_nil,List.mem_append]
  exact .inr (.inl hn))
 obtain ⟨h,e,-,hw⟩:=DataW.trod_int Tryz.underlying3 t0
 injection e with e _
 subst e
 obtain ⟨A,c,S,rfl,hr,h1,h2,h3⟩:=read_syms t1 w1
 exact ⟨⟨⟨h,S⟩,A,c⟩,rfl,hr,hw,h1,h2,h3⟩
theorem read_prods {H:Type} {enc:TypeId × Value→H} {W:World} {fuel:Nat} {v:Value} {y:DataW H × List MemPlace} (t0:DataW.trod enc Tryz.prog W 0 (fun _ => true) true fuel 48 [v] = some y)
  (w0:∀ n ∈ y.1.weights Tryz.prog 48,n ≤ reachBytes):∃ A c PV,v = .slice A (List.length PV) c∧PvR W A PV∧PV.length ≤ c∧PV.length * 32 ≤ 140737488355328∧∀ x ∈ PV,PvFit x:=by
 rcases Deep.open_slice Tryz.underlying48 t0 with ⟨hcs,_⟩ | ⟨a,len,cap,m',n',D,Pl,hcs,_,hl,hm,hmm,hx,hi⟩
 ·injection hcs with hcs
  subst hcs
  exact ⟨none,0,[],rfl,⟨fun j u hj => by simp [pvCells] at hj,by simp⟩,Nat.le_refl _,by simp,by simp⟩
 ·injection hcs with hcs
  subst hcs
  obtain rfl:m' = cap:=by rw [hmm];exact if_pos rfl
  subst hx
  have hb:=w0 (m' * Tryz.prog.bytesOf 71) (by
   simp only [DataW.weights,Tryz.underlying48,List.length_map,List.length_range,show len + (m' - len) = m' by omega]
   simp)
  have hd:∀ i,i < len→∀ n ∈ (D i).weights Tryz.prog 71,n ≤ reachBytes:=fun i hi' n hn => w0 n (by
   simp only [DataW.weights,Tryz.underlying48,List.mem_cons,List.mem_append]
   exact .inr (.inl (weights_all (List.mem_map.2 ⟨i,List.mem_range.2 hi',rfl⟩) n hn)))
  obtain ⟨l,hll,hq,hr⟩:=row_of Pv.cells 2 (fun _ => rfl) (by decide) (W:=W) (a:=a) (n:=len) (fun v => RowR W v.adr (syCells v.pr.body)∧PvFit v) (fun i hin => by
   obtain ⟨cs',hc,ht'⟩:=hi i (by omega)
   obtain ⟨_,hlen,hat⟩:=World.cells?_some hc
   rw [cells_prod] at hlen hat
   obtain ⟨v,rfl,h1,h2⟩:=read_prod hlen ht' (hd i hin)
   exact ⟨v,⟨h1,h2⟩,fun j hj => by
    have:=hat j hj
    rw [Deep.add_add] at this
    exact this⟩)
  subst hll
  rw [bytes_prod] at hb
  simp only [reachBytes] at hb
  exact ⟨_,m',l,rfl,⟨hr,fun v hv => (hq v hv).1⟩,hl,by omega,fun v hv => (hq v hv).2⟩
theorem top_cnf {H:Type} {enc:TypeId × Value→H} {W:World} {base:Nat} {v:Value} {d0:DataW H} {p0:List MemPlace} (hv:Value.okWide Tryz.prog W .any base 50 v) (h:DataW.Trod enc Tryz.prog W 0 (fun _ => true) true 50 v d0 p0)
  (hz:∀ n ∈ d0.weights Tryz.prog 50,n ≤ reachBytes):∃ (nts:Int) (A:Option Addr) (c:Nat) (PV:List Pv),v = .agg #[.int .i64 nts,.slice A PV.length c]∧Wf nts∧PvR W A PV∧PV.length ≤ c∧PV.length * 32 ≤ 140737488355328∧∀ x ∈ PV,PvFit x:=by
 obtain ⟨cs,rfl,hcs⟩:=okWide_struct Tryz.underlying50 hv
 rw [cells_cnf] at hcs
 obtain ⟨c0,c1,hc⟩:=len_two (l:=cs.toList) (by simpa using hcs)
 obtain rfl:cs = #[c0,c1]:=by cases cs;simp_all
 obtain ⟨fuel,hf⟩:=h
 obtain ⟨y0,y1,n,hx,-,t0,t1⟩:=trod_struct2 Tryz.underlying50 hf
 simp only [Value.cells,cells_int,cells_prods,List.drop_zero,List.take_succ_cons,List.take_zero,List.drop_succ_cons] at t0 t1
 injection hx with hx1 hx2
 subst hx1
 have w1:∀ n ∈ y1.1.weights Tryz.prog 48,n ≤ reachBytes:=fun n hn => hz n (by
  simp only [DataW.weights,Tryz.underlying50,DataW.weightsEach,List.map_cons,List.map_nil,List.mem_append]
  exact .inr (.inl hn))
 obtain ⟨nts,e,-,hw⟩:=DataW.trod_int Tryz.underlying3 t0
 injection e with e _
 subst e
 obtain ⟨A,c,PV,rfl,h1⟩:=read_prods t1 w1
 exact ⟨nts,A,c,PV,rfl,hw,h1⟩
end Go.Proofs.YtddffnonlmfhdaaGreatDoor.edRead
