/- azimov: the law of fill: what is due, what is sound, what is left to grow: plain; azimov: the work list: Swap, Push, Pop; container/heap over the work list: up, down, Push, Pop; the list is permuted; container/heap's Push and Pop over the work list; put; azimov: the work list with its marks; put; azimov: the closure in memory; next; Graphs: Matrix; azimov: the first facts of a production. (Written by mkAzW.py.). -/
import Derived.Test.YtddffnonlmfhdaaGreatDoorW12
set_option linter.unusedVariables false
set_option linter.unusedSimpArgs false
set_option maxHeartbeats 16000000
set_option maxRecDepth 100000
namespace Go.Proofs.YtddffnonlmfhdaaGreatDoor
def sumN (f:Nat→Nat):Nat→Nat
 | 0 => 0
 | m + 1 => sumN f m + f m
theorem sumN_le {f g:Nat→Nat}:∀ {m:Nat},(∀ k,k < m→f k ≤ g k)→sumN f m ≤ sumN g m
 | 0,_ => Nat.le_refl _
 | m + 1,h => by
  have h1:=sumN_le (m:=m) (fun k hk => h k (by omega))
  have h2:=h m (by omega)
  unfold sumN
  omega
theorem sumN_lt {f g:Nat→Nat} {a:Nat}:∀ {m:Nat},(∀ k,k < m→f k ≤ g k)→a < m→f a < g a→sumN f m < sumN g m
 | 0,_,h,_ => by omega
 | m + 1,h,ha,hl => by
  have h2:=h m (by omega)
  unfold sumN
  by_cases e:a = m
  ·subst e
   have h1:=sumN_le (m:=a) (fun k hk => h k (by omega))
   omega
  ·have h1:=sumN_lt (m:=m) (fun k hk => h k (by omega)) (by omega) hl
   omega
abbrev Mats:=Nat→Option (List Nat)
def upM (B:Mats) (a:Nat) (m:Option (List Nat)):Mats:=fun k => if k = a then m else B k
theorem upM_at (B:Mats) (a:Nat) (m:Option (List Nat)):upM B a m a = m:=if_pos rfl
theorem upM_ne (B:Mats) {a k:Nat} (m:Option (List Nat)) (h:k ≠ a):upM B a m k = B k:=if_neg h
theorem bitO_lt {b:Option (List Nat)} (h:WdO b) {i j:Nat} (hb:bitO b i j = true):i < 64:=by
 cases b with
 | none => cases hb
 | some r => exact (bit_out (h r rfl) hb).1
theorem bitO_lt2 {b:Option (List Nat)} (h:WdO b) {i j:Nat} (hb:bitO b i j = true):j < 64:=by
 cases b with
 | none => cases hb
 | some r => exact (bit_out (h r rfl) hb).2
theorem more_le {c m:Option (List Nat)} (hc:WdO c) (hm:WdO m):lenB (oldW c) ≤ lenB (oldW (joinQ c m)):=by
 cases m with
 | none => exact Nat.le_refl _
 | some r =>
  show lenB (oldW c) ≤ lenB (oldW (joinO c r))
  unfold joinO
  split
  ·exact Nat.le_refl _
  ·show lenB (oldW c) ≤ lenB (List.zipWith orN (oldW c) r)
   rw [lenB_or (fun y hy => hc.old.fit y hy) (by rw [hc.old.len,(hm r rfl).len])]
   omega
def miss (B:Mats) (m:Nat):Nat:=sumN (fun k => 4096 - lenB (oldW (B k))) m
theorem lenB_most {r:List Nat} (hr:Wd r):lenB r ≤ 4096:=by
 have:=lenB_le r
 rw [hr.len] at this
 omega
theorem miss_up {B:Mats} {a nts:Nat} {m:Option (List Nat)} (ha:a < nts) (hm:WdO m) (h:lenB (oldW (B a)) < lenB (oldW m)):miss (upM B a m) nts < miss B nts:=by
 have h4:=lenB_most hm.old
 refine sumN_lt (a:=a) (fun k _ => ?_) ha ?_
 ·by_cases e:k = a
  ·subst e;rw [upM_at];omega
  ·rw [upM_ne B m e];exact Nat.le_refl _
 ·rw [upM_at];omega

theorem miss_le {B:Mats} {a nts:Nat} {m:Option (List Nat)} (h:lenB (oldW (B a)) ≤ lenB (oldW m)):miss (upM B a m) nts ≤ miss B nts:=by
 refine sumN_le (fun k _ => ?_)
 by_cases e:k = a
 ·subst e;rw [upM_at];omega
 ·rw [upM_ne B m e];exact Nat.le_refl _

def Asks (El:Int→Nat→Nat→Prop) (n:Nat) (B:Mats) (p:Pr):Prop:=match p.body with
 | [] => ∀ i,i < n→bitO (B p.head.toNat) i i = true
 | [s] => ∀ i j,El s.at_ i j→bitO (B p.head.toNat) i j = true
 | [s,t] => ∀ i k j,bitO (B s.at_.toNat) i k = true→bitO (B t.at_.toNat) k j = true→bitO (B p.head.toNat) i j = true
 | _ => True
def NamesL (p:Pr) (L:List Int):Prop:=∃ s t,p.body = [s,t]∧(s.at_ ∈ L ∨ t.at_ ∈ L)
structure FiI (P:List Pr) (El:Int→Nat→Nat→Prop) (n nts:Nat) (B:Mats) (L:List Int) (D:Pr→Prop):Prop where
 wd:∀ k,WdO (B k)
 sound:∀ k,k < nts→∀ i j,bitO (B k) i j = true→DerP P El n (k:Int) i j
 due:∀ p ∈ P,D p→¬ NamesL p L→Asks El n B p
 inL:∀ x ∈ L,0 ≤ x∧x < (nts:Int)
 nd:L.Nodup
theorem FiI.grow {P:List Pr} {El:Int→Nat→Nat→Prop} {n nts:Nat} {B:Mats} {L:List Int} {D:Pr→Prop} (h:FiI P El n nts B L D) {a:Nat} {m:Option (List Nat)} {L':List Int} {D':Pr→Prop} (ha:a < nts) (hm:WdO m)
  (hbit:∀ i j,i < 64→bitO m i j = true→DerP P El n (a:Int) i j)
  (hL:∀ x ∈ L,x ∈ L') (hin:∀ x ∈ L',0 ≤ x∧x < (nts:Int)) (hnd:L'.Nodup) (hmore:moreQ (B a) m = true→(a:Int) ∈ L')
  (hD:∀ p ∈ P,D' p→¬ D p→¬ NamesL p L'→Asks El n (upM B a (joinQ (B a) m)) p)
  (hsh:∀ p ∈ P,∀ s t,p.body = [s,t]→0 ≤ s.at_∧0 ≤ t.at_):FiI P El n nts (upM B a (joinQ (B a) m)) L' D':=by
 have hup:∀ k i j,bitO (B k) i j = true→bitO (upM B a (joinQ (B a) m) k) i j = true:=fun k i j hb => by
  have hi:=bitO_lt (h.wd k) hb
  by_cases e:k = a
  ·subst e
   rw [upM_at,bit_joinQ (h.wd k) hm hi,hb]
   rfl
  ·rw [upM_ne B _ e];exact hb
 have hdn:∀ k i j,(k = a→moreQ (B a) m = false)→bitO (upM B a (joinQ (B a) m) k) i j = true→bitO (B k) i j = true:=fun k i j hk hb => by
  by_cases e:k = a
  ·have hk2:=hk e
   subst e
   rw [upM_at] at hb
   have hi:=bitO_lt ((h.wd k).joinQ hm) hb
   rw [bit_joinQ (h.wd k) hm hi,Bool.or_eq_true] at hb
   rcases hb with hb | hb
   ·exact hb
   ·exact more_none (h.wd _) hm hk2 hb
  ·rw [upM_ne B _ e] at hb;exact hb
 refine ⟨fun k => ?_,fun k hk i j hb => ?_,fun p hp hd hn => ?_,hin,hnd⟩
 ·by_cases e:k = a
  ·subst e;rw [upM_at];exact (h.wd k).joinQ hm
  ·rw [upM_ne B _ e];exact h.wd k
 ·by_cases e:k = a
  ·subst e
   rw [upM_at] at hb
   have hi:=bitO_lt ((h.wd k).joinQ hm) hb
   rw [bit_joinQ (h.wd k) hm hi,Bool.or_eq_true] at hb
   rcases hb with hb | hb
   ·exact h.sound k hk i j hb
   ·exact hbit i j hi hb
  ·rw [upM_ne B _ e] at hb
   exact h.sound k hk i j hb
 ·by_cases hdo:D p
  ·have hn0:¬ NamesL p L:=fun ⟨s,t,e,hst⟩ => hn ⟨s,t,e,hst.imp (hL _) (hL _)⟩
   have h0:=h.due p hp hdo hn0
   unfold Asks at h0 ⊢
   match hb:p.body with
   | [] => rw [hb] at h0;exact fun i hi => hup _ _ _ (h0 i hi)
   | [s] => rw [hb] at h0;exact fun i j hi => hup _ _ _ (h0 i j hi)
   | [s,t] =>
    rw [hb] at h0
    obtain ⟨hs0,ht0⟩:=hsh p hp s t hb
    have hns:s.at_.toNat = a→moreQ (B a) m = false:=fun e => by
     cases hmm:moreQ (B a) m with
     | false => rfl
     | true => exact absurd ⟨s,t,hb,.inl (by have:=hmore hmm;rw [← e] at this;rwa [Int.toNat_of_nonneg hs0] at this)⟩ hn
    have hnt:t.at_.toNat = a→moreQ (B a) m = false:=fun e => by
     cases hmm:moreQ (B a) m with
     | false => rfl
     | true => exact absurd ⟨s,t,hb,.inr (by have:=hmore hmm;rw [← e] at this;rwa [Int.toNat_of_nonneg ht0] at this)⟩ hn
    exact fun i k j h1 h2 => hup _ _ _ (h0 i k j (hdn _ _ _ hns h1) (hdn _ _ _ hnt h2))
   | _ :: _ :: _ :: _ => trivial
  ·exact hD p hp hd hdo hn
def Gives (El:Int→Nat→Nat→Prop) (n:Nat) (p:Pr) (m:Option (List Nat)):Prop:=WdO m∧match p.body with
 | [] => ∀ i j,i < 64→(bitO m i j = true ↔ i = j∧i < n)
 | [s] => ∀ i j,i < 64→j < 64→(bitO m i j = true ↔ El s.at_ i j)
 | _ => False
structure GrPr (nts:Nat) (p:Pr):Prop where
 h0:0 ≤ p.head
 h1:p.head < (nts:Int)
 two:∀ s t,p.body = [s,t]→(0 ≤ s.at_∧s.at_ < (nts:Int))∧(0 ≤ t.at_∧t.at_ < (nts:Int))
structure Puts (L L':List Int) (x:Int):Prop where
 mem:∀ y,y ∈ L' ↔ y ∈ L ∨ y = x
 nd:L'.Nodup
 le:L'.length ≤ L.length + 1
theorem FiI.first {P:List Pr} {El:Int→Nat→Nat→Prop} {n nts:Nat} {B:Mats} {L:List Int} {D:Pr→Prop} (h:FiI P El n nts B L D) {p:Pr} {m:Option (List Nat)} {L':List Int} (hp:p ∈ P) (hs:∀ q ∈ P,GrPr nts q) (hn:n ≤ 64)
  (hEl:∀ k i j,El k i j→i < n∧j < n) (hg:Gives El n p m) (hL:if moreQ (B p.head.toNat) m = true then Puts L L' p.head else L' = L):FiI P El n nts (upM B p.head.toNat (joinQ (B p.head.toNat) m)) L' (fun q => D q ∨ q = p):=by
 obtain ⟨a0,a1,-⟩:=hs p hp
 have hsub:∀ x ∈ L,x ∈ L':=fun x hx => by
  split at hL
  ·exact (hL.mem x).2 (.inl hx)
  ·rw [hL];exact hx
 have hin:∀ x ∈ L',0 ≤ x∧x < (nts:Int):=fun x hx => by
  split at hL
  ·rcases (hL.mem x).1 hx with h1 | h1
   ·exact h.inL x h1
   ·subst h1;exact ⟨a0,a1⟩
  ·rw [hL] at hx;exact h.inL x hx
 have hnd:L'.Nodup:=by
  split at hL
  ·exact hL.nd
  ·rw [hL];exact h.nd
 have ea:((p.head.toNat:Nat):Int) = p.head:=Int.toNat_of_nonneg a0
 have hmo:moreQ (B p.head.toNat) m = true→((p.head.toNat:Nat):Int) ∈ L':=fun e => by
  rw [if_pos e] at hL
  rw [ea]
  exact (hL.mem _).2 (.inr rfl)
 refine h.grow (by omega) hg.1 (fun i j hi hb => ?_) hsub hin hnd hmo (fun q _ hd hd0 _ => ?_) (fun q hq s t e => ⟨((hs q hq).two s t e).1.1,((hs q hq).two s t e).2.1⟩)
 ·rw [ea]
  obtain ⟨hd,bd⟩:=p
  have hj:=bitO_lt2 hg.1 hb
  have h2:=hg.2
  match bd,hp,h2 with
  | [],hp,h2 =>
   obtain ⟨rfl,hin⟩:=(h2 i j hi).1 hb
   exact .eps hp hin
  | [s],hp,h2 => exact .one hp ((h2 i j hi hj).1 hb)
  | _ :: _ :: _,_,h2 => exact h2.elim
 ·rcases hd with hd | rfl
  ·exact absurd hd hd0
  ·have h2:=hg.2
   have hw:=h.wd q.head.toNat
   unfold Asks
   match hb:q.body with
   | [] =>
    rw [hb] at h2
    intro i hi
    rw [upM_at,bit_joinQ hw hg.1 (by omega),(h2 i i (by omega)).2 ⟨rfl,hi⟩,Bool.or_true]
   | [s] =>
    rw [hb] at h2
    intro i j he
    have:=hEl _ _ _ he
    rw [upM_at,bit_joinQ hw hg.1 (by omega),(h2 i j (by omega) (by omega)).2 he,Bool.or_true]
   | _ :: _ :: _ => rw [hb] at h2;exact h2.elim
theorem FiI.next {P:List Pr} {El:Int→Nat→Nat→Prop} {n nts:Nat} {B:Mats} {L:List Int} {D:Pr→Prop} (h:FiI P El n nts B L D) {p:Pr} {s t:Sy} {L':List Int} (hp:p ∈ P) (hs:∀ q ∈ P,GrPr nts q) (hb:p.body = [s,t])
  (hL:if moreQ (B p.head.toNat) (mulO (B s.at_.toNat) (B t.at_.toNat)) = true then Puts L L' p.head else L' = L) :
  FiI P El n nts (upM B p.head.toNat (joinQ (B p.head.toNat) (mulO (B s.at_.toNat) (B t.at_.toNat)))) L' (fun q => D q ∨ q = p) ∧
   2 * miss (upM B p.head.toNat (joinQ (B p.head.toNat) (mulO (B s.at_.toNat) (B t.at_.toNat)))) nts + L'.length ≤ 2 * miss B nts + L.length:=by
 obtain ⟨a0,a1,h2⟩:=hs p hp
 obtain ⟨⟨s0,s1⟩,t0,t1⟩:=h2 s t hb
 have hws:=h.wd s.at_.toNat
 have hwt:=h.wd t.at_.toNat
 have hwa:=h.wd p.head.toNat
 have hwm:=WdO.mulO hws hwt
 have es:((s.at_.toNat:Nat):Int) = s.at_:=Int.toNat_of_nonneg s0
 have et:((t.at_.toNat:Nat):Int) = t.at_:=Int.toNat_of_nonneg t0
 have ea:((p.head.toNat:Nat):Int) = p.head:=Int.toNat_of_nonneg a0
 generalize hm:mulO (B s.at_.toNat) (B t.at_.toNat) = m at hL hwm ⊢
 have hsub:∀ x ∈ L,x ∈ L':=fun x hx => by
  split at hL
  ·exact (hL.mem x).2 (.inl hx)
  ·rw [hL];exact hx
 have hin:∀ x ∈ L',0 ≤ x∧x < (nts:Int):=fun x hx => by
  split at hL
  ·rcases (hL.mem x).1 hx with h1 | h1
   ·exact h.inL x h1
   ·subst h1;exact ⟨a0,a1⟩
  ·rw [hL] at hx;exact h.inL x hx
 have hnd:L'.Nodup:=by
  split at hL
  ·exact hL.nd
  ·rw [hL];exact h.nd
 have hmo:moreQ (B p.head.toNat) m = true→((p.head.toNat:Nat):Int) ∈ L':=fun e => by
  rw [if_pos e] at hL
  rw [ea]
  exact (hL.mem _).2 (.inr rfl)
 have hmb:∀ i j,i < 64→(bitO m i j = true ↔ ∃ k,k < 64∧bitO (B s.at_.toNat) i k = true∧bitO (B t.at_.toNat) k j = true):=fun i j hi => by
  rw [← hm]
  exact bit_mulO hws hwt hi
 refine ⟨h.grow (by omega) hwm (fun i j hi hbt => ?_) hsub hin hnd hmo (fun q _ hd hd0 hn => ?_) (fun q hq s t e => ⟨((hs q hq).two s t e).1.1,((hs q hq).two s t e).2.1⟩),?_⟩
 ·obtain ⟨k,_,h3,h4⟩:=(hmb i j hi).1 hbt
  have d1:=h.sound _ (by omega) _ _ h3
  have d2:=h.sound _ (by omega) _ _ h4
  rw [es] at d1
  rw [et] at d2
  rw [ea]
  obtain ⟨hd,bd⟩:=p
  subst hb
  exact .two hp d1 d2
 ·rcases hd with hd | rfl
  ·exact absurd hd hd0
  ·have hdn:∀ k i j,(k = q.head.toNat→moreQ (B q.head.toNat) m = false)→bitO (upM B q.head.toNat (joinQ (B q.head.toNat) m) k) i j = true→bitO (B k) i j = true:=fun k i j hk hbt => by
    by_cases e:k = q.head.toNat
    ·have hk2:=hk e
     subst e
     rw [upM_at] at hbt
     have hi:=bitO_lt (hwa.joinQ hwm) hbt
     rw [bit_joinQ hwa hwm hi,Bool.or_eq_true] at hbt
     rcases hbt with hbt | hbt
     ·exact hbt
     ·exact more_none hwa hwm hk2 hbt
    ·rw [upM_ne B _ e] at hbt;exact hbt
   have hns:s.at_.toNat = q.head.toNat→moreQ (B q.head.toNat) m = false:=fun e => by
    cases hmm:moreQ (B q.head.toNat) m with
    | false => rfl
    | true => exact absurd ⟨s,t,hb,.inl (by have:=hmo hmm;rw [← e,es] at this;exact this)⟩ hn
   have hnt:t.at_.toNat = q.head.toNat→moreQ (B q.head.toNat) m = false:=fun e => by
    cases hmm:moreQ (B q.head.toNat) m with
    | false => rfl
    | true => exact absurd ⟨s,t,hb,.inr (by have:=hmo hmm;rw [← e,et] at this;exact this)⟩ hn
   unfold Asks
   rw [hb]
   intro i k j h3 h4
   have h3:=hdn _ _ _ hns h3
   have h4:=hdn _ _ _ hnt h4
   have hi:=bitO_lt hws h3
   rw [upM_at,bit_joinQ hwa hwm hi,(hmb i j hi).2 ⟨k,bitO_lt hwt h4,h3,h4⟩,Bool.or_true]
 ·split at hL
  ·rename_i e
   have:=miss_up (nts:=nts) (by omega:p.head.toNat < nts) (hwa.joinQ hwm) (more_some hwa hwm e)
   have:=hL.le
   omega
  ·rw [hL]
   have:=miss_le (nts:=nts) (more_le hwa hwm)
   omega
theorem FiI.begin {P:List Pr} {El:Int→Nat→Nat→Prop} {n nts:Nat} {B:Mats} {L:List Int} {D:Pr→Prop} (h:FiI P El n nts B L D) (hD:∀ p ∈ P,(∀ s t,p.body ≠ [s,t])→D p) (hs:∀ q ∈ P,GrPr nts q)
  (hf:∀ k,k < nts→∀ i j,bitO (B k) i j = true→(k:Int) ∈ L):FiI P El n nts B L (fun _ => True):=
 ⟨h.wd,h.sound,fun p hp _ hn => by
  by_cases hb:∃ s t,p.body = [s,t]
  ·obtain ⟨s,t,hb⟩:=hb
   unfold Asks
   rw [hb]
   intro i k j h1 _
   obtain ⟨⟨s0,s1⟩,-⟩:=(hs p hp).two s t hb
   have:=hf s.at_.toNat (by omega) _ _ h1
   rw [Int.toNat_of_nonneg s0] at this
   exact absurd ⟨s,t,hb,.inl this⟩ hn
  ·exact h.due p hp (hD p hp (fun s t e => hb ⟨s,t,e⟩)) hn,h.inL,h.nd⟩
theorem FiI.pop {P:List Pr} {El:Int→Nat→Nat→Prop} {n nts:Nat} {B:Mats} {L L':List Int} {x:Int} (h:FiI P El n nts B L (fun _ => True)) (hL:L.Perm (x :: L')):FiI P El n nts B L' (fun p => ¬ NamesL p [x]):=
 ⟨h.wd,h.sound,fun p hp hd hn => h.due p hp trivial (fun ⟨s,t,e,hst⟩ => by
  have hm:∀ y,y ∈ L→y = x ∨ y ∈ L':=fun y hy => List.mem_cons.1 (hL.mem_iff.1 hy)
  rcases hst with h1 | h1
  ·rcases hm _ h1 with e1 | e1
   ·exact hd ⟨s,t,e,.inl (by rw [e1];exact List.mem_singleton.2 rfl)⟩
   ·exact hn ⟨s,t,e,.inl e1⟩
  ·rcases hm _ h1 with e1 | e1
   ·exact hd ⟨s,t,e,.inr (by rw [e1];exact List.mem_singleton.2 rfl)⟩
   ·exact hn ⟨s,t,e,.inr e1⟩),fun y hy => h.inL y (hL.mem_iff.2 (List.mem_cons_of_mem _ hy)),(List.nodup_cons.1 (hL.nodup_iff.1 h.nd)).2⟩
theorem FiI.all {P:List Pr} {El:Int→Nat→Nat→Prop} {n nts:Nat} {B:Mats} {L:List Int} {D D':Pr→Prop} (h:FiI P El n nts B L D) (hD:∀ p ∈ P,D' p→D p):FiI P El n nts B L D':=
 ⟨h.wd,h.sound,fun p hp hd hn => h.due p hp (hD p hp hd) hn,h.inL,h.nd⟩
theorem FiI.done {P:List Pr} {El:Int→Nat→Nat→Prop} {n nts:Nat} {B:Mats} (h:FiI P El n nts B [] (fun _ => True)) {k:Nat} (hk:k < nts) {i j:Nat}:bitO (B k) i j = true ↔ DerP P El n (k:Int) i j:=by
 refine ⟨h.sound k hk i j,fun d => ?_⟩
 have hn:∀ p:Pr,¬ NamesL p []:=fun p ⟨s,t,_,hst⟩ => by rcases hst with h1 | h1 <;> cases h1
 have hc:Closed P El n (fun a i j => bitO (B a.toNat) i j = true):=⟨fun a i hp hi => h.due _ hp trivial (hn _) i hi,fun a s i j hp he => h.due _ hp trivial (hn _) i j he,fun a s t i k j hp h1 h2 => h.due _ hp trivial (hn _) i k j h1 h2⟩
 have:=hc.least d
 rwa [Int.toNat_natCast] at this
end Go.Proofs.YtddffnonlmfhdaaGreatDoor
namespace Go.Proofs.YtddffnonlmfhdaaGreatDoor
open Go.RowKit Go.Shelf
def swapL (L:List Int) (i j:Nat) (x y:Int):List Int:=(L.set i y).set j x
theorem swapL_len (L:List Int) (i j:Nat) (x y:Int):(swapL L i j x y).length = L.length:=by simp [swapL]
theorem swapL_perm {L:List Int} {i j:Nat} {x y:Int} (hi:L[i]? = some x) (hj:L[j]? = some y):(swapL L i j x y).Perm L:=by
 obtain ⟨h1,e1⟩:=List.getElem?_eq_some_iff.1 hi
 obtain ⟨h2,e2⟩:=List.getElem?_eq_some_iff.1 hj
 have:=List.set_set_perm h1 h2
 rw [e1,e2] at this
 exact this
theorem intC_set (L:List Int) (i:Nat) (x:Int):(intC L).set i (.int .i64 x) = intC (L.set i x):=by
 simp [intC,List.map_set]
theorem intC_len (L:List Int):(intC L).length = L.length:=by simp [intC]
theorem chswap_any (w:World) (p:Nat) (lv mv:Value) (L:List Int) (h:ChS w p lv mv L) (hne:∀ k,lv.ownBlock = some k→¬ k = p) (i j:Nat) (x y:Int) (hi:L[i]? = some x) (hj:L[j]? = some y) :
  Calls Tryz.prog 285 #[.pointer (some ⟨p,0,none⟩),.int .i64 (i:Int),.int .i64 (j:Int)] w (fun e w' => e = .returned (.tuple #[])∧ChS w' p lv mv (swapL L i j x y)∧Upd (fun k => lv.ownBlock = some k) w w'):=by
 have hi2:=(List.getElem?_eq_some_iff.1 hi).1
 have hj2:=(List.getElem?_eq_some_iff.1 hj).1
 obtain ⟨g,c,rfl,-,-,-,-,hc⟩:=own_cells h.2 (by omega)
 have hgp:¬ g = p:=hne g rfl
 have HU:=Lib.hid (show Upd (fun k => (Value.slice (some ⟨g,0,none⟩) L.length c).ownBlock = some k) w (((w.drew).setCell ⟨g,i,none⟩ (.int .i64 y)).setCell ⟨g,j,none⟩ (.int .i64 x)) from (((Upd.refl (fun k => (Value.slice (some ⟨g,0,none⟩) L.length c).ownBlock = some k) w).drew).setCell (p:=⟨g,i,none⟩) (.inl rfl) _).setCell (p:=⟨g,j,none⟩) (.inl rfl) _)
 have HS:=Lib.hid (show ChS (((w.drew).setCell ⟨g,i,none⟩ (.int .i64 y)).setCell ⟨g,j,none⟩ (.int .i64 x)) p (.slice (some ⟨g,0,none⟩) L.length c) mv (swapL L i j x y) from by
  refine ⟨h.1.upd HU.out (fun e => hgp (by simpa [Value.ownBlock] using e)),?_⟩
  have o1:=own_setCell (own_setCell (ownsRow_upd h.2 (Upd.refl (fun _ => False) w).drew (fun _ _ => id)) (i:=i) (by omega) (.int .i64 y)) (i:=j) (by omega) (.int .i64 x)
  rw [intC_set,intC_set] at o1
  rw [swapL_len]
  exact o1)
 have qi:=hc i _ (show (intC L)[i]? = some (.int .i64 x) by simp [intC,hi])
 have qj:=hc j _ (show (intC L)[j]? = some (.int .i64 y) by simp [intC,hj])
 have hS:(fun W:World => W.cell? ⟨p,0,none⟩ = some (.slice (some ⟨g,0,none⟩) L.length c)∧W.cell? ⟨g,i,none⟩ = some (.int .i64 x)∧W.cell? ⟨g,j,none⟩ = some (.int .i64 y)) w.drew:=⟨h.1.cell 0,qi.1,qj.1⟩
 have c1:w.drew.cell? ⟨g,i,none⟩ = some (.int .i64 x):=qi.1
 have f1:w.drew.frozen? ⟨g,i,none⟩ = false:=qi.2
 have f2:(w.drew.setCell ⟨g,i,none⟩ (.int .i64 y)).frozen? ⟨g,j,none⟩ = false:=by rw [World.frozen?_setCell];exact qj.2
 have c2:∃ u,(w.drew.setCell ⟨g,i,none⟩ (.int .i64 y)).cell? ⟨g,j,none⟩ = some u:=by
  have o1:=own_setCell (ownsRow_upd h.2 (Upd.refl (fun _ => False) w).drew (fun _ _ => id)) (i:=i) (by omega) (.int .i64 y)
  rw [intC_set] at o1
  obtain ⟨g',c',e,-,-,-,-,hc'⟩:=own_cells o1 (by omega)
  injection e with e
  injection e with e
  injection e with e
  subst e
  obtain ⟨z,hz⟩:∃ z,(L.set i y)[j]? = some z:=⟨_,List.getElem?_eq_getElem (by simpa using hj2)⟩
  exact ⟨_,(hc' j _ (show (intC (L.set i y))[j]? = some (.int .i64 z) by unfold intC;rw [List.getElem?_map,hz];rfl)).1⟩
 obtain ⟨u2,c2⟩:=c2
 have z1:(i:Int) < (L.length:Int):=by omega
 have z2:(j:Int) < (L.length:Int):=by omega
 clear h hc hi hj qi qj hne hgp
 generalize swapL L i j x y = L2 at HS
 generalize L.length = n at HU HS hS z1 z2 hi2 hj2 ⊢
 go_enter Tryz.func285,Tryz.ntmps285
 refine wp_region_late (fun W:World => W.cell? ⟨p,0,none⟩ = some (.slice (some ⟨g,0,none⟩) n c)∧W.cell? ⟨g,i,none⟩ = some (.int .i64 x)∧W.cell? ⟨g,j,none⟩ = some (.int .i64 y)) (lateFrom 25) (by kernel_rfl) ?_
 generalize w.drew = V0 at HU HS hS c1 f1 c2 f2 ⊢
 intro hd
 (refine late_takeA (i:=0) rfl hd hS ?_;clear hd;intro hd;(try simp only [Act.put,gA,gZ,sA,sZ,sS]))
 (refine late_takeA (i:=1) rfl hd hS ?_;clear hd;intro hd;(try simp only [Act.put,gA,gS,gZ,sA,sZ,sS]))
 (refine late_takeA (i:=2) rfl hd hS ?_;clear hd;intro hd;(try simp only [Act.put,gA,gS,gZ,sA,sZ,sS]))
 (refine late_takeA (i:=3) rfl hd hS ?_;clear hd;intro hd;(try simp only [Act.put,gA,gS,gZ,sA,sZ,sS]))
 (refine late_takeA (i:=4) rfl hd hS ?_;clear hd;intro hd;(try simp only [Act.put,gA,gS,gZ,sA,sZ,sS]))
 (refine late_takeA (i:=5) rfl hd hS ?_;clear hd;intro hd;(try simp only [Act.put,gA,gS,gZ,sA,sZ,sS]))
 (refine late_takeA (i:=6) rfl hd hS ?_;clear hd;intro hd;(try simp only [Act.put,gA,gS,gZ,sA,sZ,sS]))
 (refine late_takeA (i:=7) rfl hd hS ?_;clear hd;intro hd;(try simp only [Act.put,gA,gS,gZ,sA,sZ,sS]))
 (refine late_takeA (i:=8) rfl hd hS ?_;clear hd;intro hd;(try simp only [Act.put,gA,gS,gZ,sA,sZ,sS]))
 (refine late_take0 (i:=9) (v:=?_) rfl (by kernel_rfl) hd (fun _ _ d _ _ h => by cases d <;> exact h) (by first | with_reducible rfl | kernel_rfl) ?_ ?_;rotate_left;(focus (intro wS;go_simp;(try with_reducible rfl);done));clear hd;intro hd;(try simp only [Act.put,gA,gS,gZ,sA,sZ,sS]))
 (refine late_takeA (i:=10) rfl hd hS ?_;clear hd;intro hd;(try simp only [Act.put,gA,gS,gZ,sA,sZ,sS]))
 (refine late_takeA (i:=11) rfl hd hS ?_;clear hd;intro hd;(try simp only [Act.put,gA,gS,gZ,sA,sZ,sS]))
 (refine late_takeA (i:=12) rfl hd hS ?_;clear hd;intro hd;(try simp only [Act.put,gA,gS,gZ,sA,sZ,sS]))
 (refine late_takeA (i:=13) rfl hd hS ?_;clear hd;intro hd;(try simp only [Act.put,gA,gS,gZ,sA,sZ,sS]))
 (refine late_takeA (i:=14) rfl hd hS ?_;clear hd;intro hd;(try simp only [Act.put,gA,gS,gZ,sA,sZ,sS]))
 (refine late_takeA (i:=15) rfl hd hS ?_;clear hd;intro hd;(try simp only [Act.put,gA,gS,gZ,sA,sZ,sS]))
 (refine late_takeA (i:=16) rfl hd hS ?_;clear hd;intro hd;(try simp only [Act.put,gA,gS,gZ,sA,sZ,sS]))
 (refine late_takeA (i:=17) rfl hd hS ?_;clear hd;intro hd;(try simp only [Act.put,gA,gS,gZ,sA,sZ,sS]))
 (refine late_takeA (i:=18) rfl hd hS ?_;clear hd;intro hd;(try simp only [Act.put,gA,gS,gZ,sA,sZ,sS]))
 (refine late_takeA (i:=19) rfl hd hS ?_;clear hd;intro hd;(try simp only [Act.put,gA,gS,gZ,sA,sZ,sS]))
 (refine late_takeA (i:=20) rfl hd hS ?_;clear hd;intro hd;(try simp only [Act.put,gA,gS,gZ,sA,sZ,sS]))
 (refine late_takeA (i:=21) rfl hd hS ?_;clear hd;intro hd;(try simp only [Act.put,gA,gS,gZ,sA,sZ,sS]))
 (refine late_takeA (i:=22) rfl hd hS ?_;clear hd;intro hd;(try simp only [Act.put,gA,gS,gZ,sA,sZ,sS]))
 (refine late_takeA (i:=23) rfl hd hS ?_;clear hd;intro hd;(try simp only [Act.put,gA,gS,gZ,sA,sZ,sS]))
 (refine late_takeA (i:=24) rfl hd hS ?_;clear hd;intro hd;(try simp only [Act.put,gA,gS,gZ,sA,sZ,sS]))
 refine late_run hd (L:=[25]) (by kernel_rfl) (by decide) (fun ix hix hd2 => ?_)
 clear hd
 have hd:=hd2
 clear hd2
 simp only [List.mem_cons,List.not_mem_nil,or_false] at hix
 subst hix
 refine late_do (S:=fun W:World => W.cell? ⟨p,0,none⟩ = some (.slice (some ⟨g,0,none⟩) n c)∧W.cell? ⟨g,i,none⟩ = some (.int .i64 x)∧W.cell? ⟨g,j,none⟩ = some (.int .i64 y)) (late:=lateFrom 25) rfl rfl (fun K hK => ?_)
 go_simp
 refine hK _ _ (fun h _ => absurd h (by decide)) ?_
 clear hK K hS
 (try simp only [Act.put,gA,gS,gZ,sA,sZ,sS])
 (refine late_take0 (i:=26) (v:=?_) rfl (by kernel_rfl) hd (fun _ _ d _ _ h => by cases d <;> exact h) (by first | with_reducible rfl | kernel_rfl) ?_ ?_;rotate_left;(focus (intro wS;go_simp;(try with_reducible rfl);done));clear hd;intro hd;(try simp only [Act.put,gA,gS,gZ,sA,sZ,sS]))
 refine late_run hd (L:=[27]) (by kernel_rfl) (by decide) (fun ix hix hd2 => ?_)
 clear hd
 have hd:=hd2
 clear hd2
 simp only [List.mem_cons,List.not_mem_nil,or_false] at hix
 subst hix
 refine late_do (S:=fun W:World => W.cell? ⟨p,0,none⟩ = some (.slice (some ⟨g,0,none⟩) n c)∧W.cell? ⟨g,i,none⟩ = some (.int .i64 x)∧W.cell? ⟨g,j,none⟩ = some (.int .i64 y)) (late:=lateFrom 25) rfl rfl (fun K hK => ?_)
 go_simp
 refine hK _ _ (fun h _ => absurd h (by decide)) ?_
 clear hK K
 (try simp only [Act.put,gA,gS,gZ,sA,sZ,sS])
 refine late_done (by kernel_rfl) ?_
 generalize (V0.setCell ⟨g,i,none⟩ (.int .i64 y)).setCell ⟨g,j,none⟩ (.int .i64 x) = WF at HU HS ⊢
 go_wp2
 exact bodyPost_end (results_none rfl _ _ _) rfl ⟨rfl,HS.out,HU.out⟩
def ChT (w:World) (p:Nat) (lv mv:Value) (C:List Int→Prop) (w':World):Prop:=
 ∃ lv' L',ChS w' p lv' mv L'∧C L'∧Upd (fun k => k = p ∨ lv.ownBlock = some k) w w'∧(∀ k,lv'.ownBlock = some k→lv.ownBlock = some k ∨ w.heap.size ≤ k)∧∀ k,lv'.ownBlock = some k→¬ k = p
theorem info_int1:(Tryz.prog.info? 3).map (fun i => (i.zero,i.size,i.bytes)) = some (some (.int .i64 0),1,8):=by kernel_rfl
theorem chpush_any (w:World) (p:Nat) (lv mv:Value) (L:List Int) (h:ChS w p lv mv L) (hne:∀ k,lv.ownBlock = some k→¬ k = p) (hl:L.length ≤ 1000000) (x:Int) :
  Calls Tryz.prog 284 #[.pointer (some ⟨p,0,none⟩),.iface 3 (.int .i64 x)] w (fun e w' => e = .returned (.tuple #[])∧ChT w p lv mv (fun L' => L' = L ++ [x]) w'):=by
 have hS:w.drew.cell? ⟨p,0,none⟩ = some lv:=h.1.cell 0
 obtain ⟨v2,W2,happ,own2,u2,p2⟩:=push_own w.drew 0 181 3 1 8 _ Tryz.underlying181 info_int1 rfl (by decide) lv L.length (intC L) (ownsRow_upd h.2 (Upd.refl (fun _ => False) w).drew (fun _ _ => id)) [.int .i64 x] 1 rfl (fun u hu => by rw [List.mem_singleton.1 hu];rfl) (by omega) (by unfold maxLen;omega) (Nat.zero_le _)
 obtain ⟨A2,c2,rfl,-,-⟩:=own_form own2
 have hb:Blk W2 p 183 #[lv,mv]:=(h.1.drew).upd u2 (fun e => hne _ e rfl)
 have hvp:∀ k,(Value.slice A2 (L.length + 1) c2).ownBlock = some k→¬ k = p:=fun k hk e => by
  subst e
  rcases p2 _ hk with h1 | h1
  ·exact hne _ h1 rfl
  ·have:=h.1.lt;have:w.heap.size ≤ k:=h1;omega
 have FIN:=Lib.hid (show ChT w p lv mv (fun L' => L' = L ++ [x]) (W2.setCell ⟨p,0,none⟩ (.slice A2 (L.length + 1) c2)) from by
  refine ⟨.slice A2 (L.length + 1) c2,L ++ [x],⟨hb.set 0 _,?_⟩,rfl,?_,p2,hvp⟩
  ·have:=ownsRow_upd own2 ((Upd.refl (fun k => k = p) W2).setCell (p:=⟨p,0,none⟩) (.inl rfl) (.slice A2 (L.length + 1) c2)) hvp
   rw [show intC L ++ [.int .i64 x] = intC (L ++ [x]) by simp [intC]] at this
   rw [List.length_append]
   exact this
  ·exact ((((Upd.refl _ w).drew).trans (u2.mono (fun k _ hk => .inr hk)) (fun k hk => .inl hk))).setCell (p:=⟨p,0,none⟩) (.inl (.inl rfl)) _)
 have cc2:W2.cell? ⟨p,0,none⟩ = some lv:=hb.cell 0
 have f2:W2.frozen? ⟨p,0,none⟩ = false:=hb.frozen 0
 have ha:(w.drew.alloc (.cells #[.int .i64 x] 3)).cell? ⟨p,0,none⟩ = some lv:=((h.1.drew).alloc _).cell 0
 clear h hne own2 u2 p2 hb hvp
 obtain ⟨n1,hn1⟩:∃ n1,L.length + 1 = n1:=⟨_,rfl⟩
 rw [hn1] at FIN happ
 clear hn1
 go_enter Tryz.func284,Tryz.ntmps284
 refine wp_region_ord (fun W:World => W.cell? ⟨p,0,none⟩ = some lv) 11 [(0,true),(1,true),(2,true),(3,true),(4,true),(5,true),(6,false),(7,false),(8,false),(9,true),(10,true),(11,false)] (by kernel_rfl) (by kernel_rfl) (fun _ _ d _ _ h => by cases d <;> exact h) hS ?_
 generalize w.drew = V0 at hS happ ha ⊢
 iterate 6 (refine ord_takeA rfl ?_;(try simp only [Act.put,gA,gS,gZ,sA,sZ,sS]))
 refine ord_do rfl rfl (fun K hK => ?_)
 go_simp
 refine hK _ _ (fun _ => hS) ?_
 clear hK K
 (try simp only [Act.put,gA,gS,gZ,sA,sZ,sS])
 refine ord_do rfl rfl (fun K hK => ?_)
 go_simp
 refine hK _ _ (fun _ => ha) ?_
 clear hK K
 (try simp only [Act.put,gA,gS,gZ,sA,sZ,sS])
 refine ord_do rfl rfl (fun K hK => ?_)
 refine do_append _ _ _ rfl rfl rfl happ ?_
 refine hK _ _ (fun _ => cc2) ?_
 clear hK K
 (try simp only [Act.put,gA,gS,gZ,sA,sZ,sS])
 have hS:=cc2
 iterate 2 (refine ord_takeA rfl ?_;(try simp only [Act.put,gA,gS,gZ,sA,sZ,sS]))
 refine ord_do rfl rfl (fun K hK => ?_)
 go_simp
 refine hK _ _ (fun h => absurd rfl h) ?_
 clear hK K
 (try simp only [Act.put,gA,gS,gZ,sA,sZ,sS])
 refine ord_done ?_
 generalize W2.setCell ⟨p,0,none⟩ (.slice A2 n1 c2) = WF at FIN ⊢
 go_wp2
 exact bodyPost_end (results_none rfl _ _ _) rfl ⟨rfl,FIN.out⟩
theorem chpop_any (w:World) (p:Nat) (lv mv:Value) (L:List Int) (h:ChS w p lv mv L) (hne:∀ k,lv.ownBlock = some k→¬ k = p) (hl:L.length ≤ 1000000) (L0:List Int) (x:Int) (hL:L = L0 ++ [x]) :
  Calls Tryz.prog 283 #[.pointer (some ⟨p,0,none⟩)] w (fun e w' => e = .returned (.iface 3 (.int .i64 x))∧ChT w p lv mv (fun L' => L' = L0) w'):=by
 obtain ⟨n,hn⟩:∃ n,L0.length = n:=⟨_,rfl⟩
 have hlen:L.length = n + 1:=by rw [hL,List.length_append,hn];rfl
 obtain ⟨g,c,rfl,-,hcn,-,-,hc⟩:=own_cells h.2 (by omega)
 have hgp:¬ g = p:=hne g rfl
 rw [hlen] at hcn
 have q0:w.cell? ⟨p,0,none⟩ = some (.slice (some ⟨g,0,none⟩) (n + 1) c):=by rw [← hlen];exact h.1.cell 0
 have f0:w.frozen? ⟨p,0,none⟩ = false:=h.1.frozen 0
 have qx:w.cell? ⟨g,n,none⟩ = some (.int .i64 x):=(hc n _ (by rw [hL];simp [intC,← hn])).1
 have FIN:=Lib.hid (show ChT w p (.slice (some ⟨g,0,none⟩) L.length c) mv (fun L' => L' = L0) (w.setCell ⟨p,0,none⟩ (.slice (some ⟨g,0,none⟩) n c)) from by
  refine ⟨.slice (some ⟨g,0,none⟩) n c,L0,⟨h.1.set 0 _,?_⟩,rfl,(Upd.refl _ w).setCell (p:=⟨p,0,none⟩) (.inl (.inl rfl)) _,fun k hk => .inl hk,fun k hk => hne k hk⟩
  have o:=h.2
  rw [hlen,hL] at o
  have o2:=ownsRow_pop (n:=n) (xs:=intC L0) (last:=[.int .i64 x]) (size:=1) (by rw [intC_len,hn];omega) (by simpa [intC] using o)
  rw [hn]
  exact ownsRow_upd o2 ((Upd.refl (fun k => k = p) w).setCell (p:=⟨p,0,none⟩) (.inl rfl) _) hne)
 have hw1:IntKind.i64.wrap (((n + 1:Nat):Int) - 1) = (n:Int):=by rw [IntWalk.i64_in (((n + 1:Nat):Int) - 1) (by omega)];omega
 have z1:(n:Int) < ((n + 1:Nat):Int):=by omega
 have z2:n ≤ c:=by omega
 have z3:n < n + 1:=by omega
 have z4:n < 1000000:=by omega
 clear h hc hL hlen hn hne hgp
 go_enter Tryz.func283,Tryz.ntmps283
 go_wp2
 go_ret
 exact ⟨rfl,FIN.out⟩
end Go.Proofs.YtddffnonlmfhdaaGreatDoor
namespace Go.Proofs.YtddffnonlmfhdaaGreatDoor
open Go.RowKit Go.Shelf
def chV (p:Nat):Value:=.iface 180 (.pointer (some ⟨p,0,none⟩))
theorem m_len (p n : Nat) (w : World) : (method (n + 1) 180 (.pointer (some ⟨p, 0, none⟩)) "Len").run Tryz.prog w = .ok (113, .pointer (some ⟨p, 0, none⟩)) w := by kernel_rfl
theorem m_less (p n : Nat) (w : World) : (method (n + 1) 180 (.pointer (some ⟨p, 0, none⟩)) "Less").run Tryz.prog w = .ok (282, .pointer (some ⟨p, 0, none⟩)) w := by kernel_rfl
theorem m_swap (p n : Nat) (w : World) : (method (n + 1) 180 (.pointer (some ⟨p, 0, none⟩)) "Swap").run Tryz.prog w = .ok (285, .pointer (some ⟨p, 0, none⟩)) w := by kernel_rfl
theorem m_push (p n : Nat) (w : World) : (method (n + 1) 180 (.pointer (some ⟨p, 0, none⟩)) "Push").run Tryz.prog w = .ok (284, .pointer (some ⟨p, 0, none⟩)) w := by kernel_rfl
theorem m_pop (p n : Nat) (w : World) : (method (n + 1) 180 (.pointer (some ⟨p, 0, none⟩)) "Pop").run Tryz.prog w = .ok (283, .pointer (some ⟨p, 0, none⟩)) w := by kernel_rfl
theorem ChS.upd {w w':World} {p:Nat} {lv mv:Value} {L:List Int} {F:Nat→Prop} (h:ChS w p lv mv L) (hu:Upd F w w') (hp:¬ F p) (hl:∀ k,lv.ownBlock = some k→¬ F k):ChS w' p lv mv L:=⟨h.1.upd hu hp,ownsRow_upd h.2 hu hl⟩
theorem ChS.below {w w':World} {p:Nat} {lv mv:Value} {L:List Int} (h:ChS w p lv mv L) (hb:Below w.heap.size w w'):ChS w' p lv mv L:=h.upd (Upd.of_below hb (fun _ => False)) id (fun _ _ => id)
def PermQ (w:World) (p:Nat) (lv mv:Value) (L:List Int) (w':World):Prop:=∃ L',L'.Perm L∧ChS w' p lv mv L'∧Upd (fun k => lv.ownBlock = some k) w w'
theorem hup_any (w:World) (p:Nat) (lv mv:Value) (L:List Int) (h:ChS w p lv mv L) (hne:∀ k,lv.ownBlock = some k→¬ k = p) (hl:L.length ≤ 1000000) (j:Nat) (hj:j < L.length) :
  Calls Tryz.prog 181 #[chV p,.int .i64 (j:Int)] w (fun e w' => e = .returned (.tuple #[])∧PermQ w p lv mv L w'):=by
 obtain ⟨n,hn⟩:∃ n,L.length = n:=⟨_,rfl⟩
 have H:=Lib.hid (And.intro h (And.intro hne hn))
 rw [hn] at hl hj
 clear h hne hn
 unfold chV
 go_enter Tryz.func181,Tryz.ntmps181
 go_wp2
 go_loopw [1,4] (fun jv _ wr => ∃ (k:Nat) (L1:List Int),k < n∧jv = .int .i64 (k:Int)∧Hid (L1.Perm L∧ChS wr p lv mv L1∧Upd (fun k => lv.ownBlock = some k) w wr)) (fun jv _ _ => (intOf jv).toNat)
 case atStart => exact ⟨j,L,hj,rfl,Lib.hid ⟨List.Perm.refl _,H.out.1,Upd.refl _ _⟩⟩
 case round =>
  obtain ⟨k,L1,hk,rfl,hq⟩:=hrel
  have hlen:Hid (L1.length = n):=Lib.hid (by rw [hq.out.1.length_eq];exact H.out.2.2)
  by_cases h0:k = 0
  ·subst h0
   have FIN:=Lib.hid (show PermQ w p lv mv L wr from ⟨L1,hq.out⟩)
   clear hq hlen
   have e1:IntKind.i64.wrap (((0:Nat):Int) - 1) = -1:=by decide
   go_wp2
   exact bodyPost_end (results_none rfl _ _ _) rfl ⟨rfl,FIN.out⟩
  ·obtain ⟨q,hqd⟩:∃ q,(k - 1) / 2 = q:=⟨_,rfl⟩
   have e1:IntKind.i64.wrap ((k:Int) - 1) = (k:Int) - 1:=IntWalk.i64_in _ (by omega)
   have e2:((k:Int) - 1).tdiv 2 = (q:Int):=by
    rw [Int.tdiv_eq_ediv_of_nonneg (by omega)];omega
   have e4:((k:Int) - 1) / 2 = (q:Int):=by omega
   have e3:(((q:Int)) == (k:Int)) = false:=by simp;omega
   have hqk:q < k:=by omega
   clear hqd
   obtain ⟨x,hx⟩:∃ x,L1[k]? = some x:=⟨_,List.getElem?_eq_getElem (by rw [hlen.out];exact hk)⟩
   obtain ⟨y,hy⟩:∃ y,L1[q]? = some y:=⟨_,List.getElem?_eq_getElem (by rw [hlen.out];omega)⟩
   have hle:=chless_any wr p lv mv L1 hq.out.2.1 k q x y hx hy
   have hm1:=fun n => m_less p n wr
   have HX:=Lib.hid (And.intro hx hy)
   clear hx hy
   go_wp2_with fail
   refine hle.mono ?_
   clear hle hm1
   rintro e V ⟨rfl,hb⟩
   have H1:=Lib.hid (And.intro (hq.out.2.1.below hb) (hq.out.2.2.trans (Upd.of_below hb (fun _ => False)) (fun _ h => h.elim)))
   have hz:=hb.size
   clear hb
   by_cases hlt:x < y
   ·have hsw:=chswap_any V p lv mv L1 H1.out.1 H.out.2.1 q k y x HX.out.2 HX.out.1
    have hm1:=fun n => m_swap p n V
    go_wp2_with fail
    refine hsw.mono ?_
    clear hsw hm1
    rintro e V2 ⟨rfl,hs,hu⟩
    have H2:=Lib.hid (show (swapL L1 q k y x).Perm L∧ChS V2 p lv mv (swapL L1 q k y x)∧Upd (fun k => lv.ownBlock = some k) w V2 from ⟨(swapL_perm HX.out.2 HX.out.1).trans hq.out.1,hs,H1.out.2.trans hu (fun _ h => .inl h)⟩)
    clear hs hu
    go_wp2
    go_roundw
    case rel => exact ⟨q,swapL L1 q k y x,by omega,rfl,H2⟩
    case measure => simp [intOf];omega
   ·have FIN:=Lib.hid (show PermQ w p lv mv L V from ⟨L1,hq.out.1,H1.out⟩)
    have hd:decide (x < y) = false:=by simpa using hlt
    have hle':y ≤ x:=by omega
    go_wp2
    exact bodyPost_end (results_none rfl _ _ _) rfl ⟨rfl,FIN.out⟩
theorem hdown_any (w:World) (p:Nat) (lv mv:Value) (L:List Int) (h:ChS w p lv mv L) (hne:∀ k,lv.ownBlock = some k→¬ k = p) (hl:L.length ≤ 1000000) (m:Nat) (hm:m < L.length) :
  Calls Tryz.prog 154 #[chV p,.int .i64 0,.int .i64 (m:Int)] w (fun e w' => (∃ b,e = .returned (.bool b))∧PermQ w p lv mv L w'):=by
 obtain ⟨n,hn⟩:∃ n,L.length = n:=⟨_,rfl⟩
 have H:=Lib.hid (And.intro h (And.intro hne hn))
 rw [hn] at hl hm
 clear h hne hn
 unfold chV
 go_enter Tryz.func154,Tryz.ntmps154
 go_wp2
 go_loopw [7] (fun iv wr => ∃ (k:Nat) (L1:List Int),k ≤ n∧iv = .int .i64 (k:Int)∧Hid (L1.Perm L∧ChS wr p lv mv L1∧Upd (fun k => lv.ownBlock = some k) w wr)) (fun iv _ => n - (intOf iv).toNat)
 case atStart => exact ⟨0,L,by omega,rfl,Lib.hid ⟨List.Perm.refl _,H.out.1,Upd.refl _ _⟩⟩
 case round =>
  obtain ⟨k,L1,hk,rfl,hq⟩:=hrel
  have hlen:Hid (L1.length = n):=Lib.hid (by rw [hq.out.1.length_eq];exact H.out.2.2)
  have e1:IntKind.i64.wrap (2 * (k:Int)) = 2 * (k:Int):=IntWalk.i64_in _ (by omega)
  have e2:IntKind.i64.wrap (2 * (k:Int) + 1) = 2 * (k:Int) + 1:=IntWalk.i64_in _ (by omega)
  by_cases h0:2 * k + 1 < m
  ·have h0':2 * (k:Int) + 1 < (m:Int):=by omega
   obtain ⟨j1,hj1⟩:∃ j1,2 * k + 1 = j1:=⟨_,rfl⟩
   have e3:2 * (k:Int) + 1 = (j1:Int):=by omega
   have e4:IntKind.i64.wrap ((j1:Int) + 1) = (j1:Int) + 1:=IntWalk.i64_in _ (by omega)
   have hkn:k < n:=by omega
   obtain ⟨x,hx⟩:∃ x,L1[k]? = some x:=⟨_,List.getElem?_eq_getElem (by rw [hlen.out];omega)⟩
   obtain ⟨xj1,hj1x⟩:∃ x,L1[j1]? = some x:=⟨_,List.getElem?_eq_getElem (by rw [hlen.out];omega)⟩
   have hkj:k < j1:=by omega
   have hjm:(j1:Int) < (m:Int):=by omega
   have hjm2:j1 < m:=by omega
   have hj0:¬ ((j1:Int) < 0):=by omega
   have H0:=Lib.hid (show ChS wr p lv mv L1∧Upd (fun k => lv.ownBlock = some k) w wr from hq.out.2)
   clear hj1 h0 h0'
   by_cases h2:j1 + 1 < m
   ·obtain ⟨j2,hj2⟩:∃ j2,j1 + 1 = j2:=⟨_,rfl⟩
    have e5:(j1:Int) + 1 = (j2:Int):=by omega
    have h2':(j2:Int) < (m:Int):=by omega
    have h2m:j2 < m:=by omega
    have hkj2:k < j2:=by omega
    clear hj2 h2
    obtain ⟨xj2,hj2x⟩:∃ x,L1[j2]? = some x:=⟨_,List.getElem?_eq_getElem (by rw [hlen.out];omega)⟩
    have hle:=chless_any wr p lv mv L1 hq.out.2.1 j2 j1 xj2 xj1 hj2x hj1x
    have hm1:=fun n => m_less p n wr
    have HY:=Lib.hid (And.intro hx (And.intro hj1x hj2x))
    clear hx hj1x hj2x
    go_wp2_with fail
    refine hle.mono ?_
    clear hle hm1
    rintro e W0 ⟨rfl,hb⟩
    have H1:=Lib.hid (And.intro (H0.out.1.below hb) (H0.out.2.trans (Upd.of_below hb (fun _ => False)) (fun _ h => h.elim)))
    clear hb
    by_cases hl2:xj2 < xj1
    ·have hx:=HY.out.1
     have hj2:=HY.out.2.2
     have hle:=chless_any W0 p lv mv L1 H1.out.1 j2 k xj2 x hj2 hx
     have hm1:=fun n => m_less p n W0
     have HX:=Lib.hid (And.intro hj2 hx)
     clear hj2 hx
     go_wp2_with fail
     refine hle.mono ?_
     clear hle hm1
     rintro e W1 ⟨rfl,hb⟩
     have H5:=Lib.hid (And.intro (H1.out.1.below hb) (H1.out.2.trans (Upd.of_below hb (fun _ => False)) (fun _ h => h.elim)))
     clear hb
     by_cases hlt:xj2 < x
     ·have hsw:=chswap_any W1 p lv mv L1 H5.out.1 H.out.2.1 k j2 x xj2 HX.out.2 HX.out.1
      have hm1:=fun n => m_swap p n W1
      go_wp2_with fail
      refine hsw.mono ?_
      clear hsw hm1
      rintro e V9 ⟨rfl,hs,hu⟩
      have H6:=Lib.hid (show (swapL L1 k j2 x xj2).Perm L∧ChS V9 p lv mv (swapL L1 k j2 x xj2)∧Upd (fun k => lv.ownBlock = some k) w V9 from ⟨(swapL_perm HX.out.2 HX.out.1).trans hq.out.1,hs,H5.out.2.trans hu (fun _ h => .inl h)⟩)
      clear hs hu
      go_wp2
      go_roundw
      case rel => exact ⟨j2,swapL L1 k j2 x xj2,by omega,rfl,H6⟩
      case measure => simp [intOf];omega
     ·have FIN:=Lib.hid (show PermQ w p lv mv L W1 from ⟨L1,hq.out.1,H5.out⟩)
      have hd:decide (xj2 < x) = false:=by simpa using hlt
      have hle':x ≤ xj2:=by omega
      clear hq hlen H5
      go_wp2
      go_ret
      exact ⟨⟨_,rfl⟩,FIN.out⟩
    ·have hx:=HY.out.1
     have hj1:=HY.out.2.1
     have hd2:decide (xj2 < xj1) = false:=by simpa using hl2
     have hle2:xj1 ≤ xj2:=by omega
     have hle:=chless_any W0 p lv mv L1 H1.out.1 j1 k xj1 x hj1 hx
     have hm1:=fun n => m_less p n W0
     have HX:=Lib.hid (And.intro hj1 hx)
     clear hj1 hx
     go_wp2_with fail
     refine hle.mono ?_
     clear hle hm1
     rintro e W1 ⟨rfl,hb⟩
     have H5:=Lib.hid (And.intro (H1.out.1.below hb) (H1.out.2.trans (Upd.of_below hb (fun _ => False)) (fun _ h => h.elim)))
     clear hb
     by_cases hlt:xj1 < x
     ·have hsw:=chswap_any W1 p lv mv L1 H5.out.1 H.out.2.1 k j1 x xj1 HX.out.2 HX.out.1
      have hm1:=fun n => m_swap p n W1
      go_wp2_with fail
      refine hsw.mono ?_
      clear hsw hm1
      rintro e V9 ⟨rfl,hs,hu⟩
      have H6:=Lib.hid (show (swapL L1 k j1 x xj1).Perm L∧ChS V9 p lv mv (swapL L1 k j1 x xj1)∧Upd (fun k => lv.ownBlock = some k) w V9 from ⟨(swapL_perm HX.out.2 HX.out.1).trans hq.out.1,hs,H5.out.2.trans hu (fun _ h => .inl h)⟩)
      clear hs hu
      go_wp2
      go_roundw
      case rel => exact ⟨j1,swapL L1 k j1 x xj1,by omega,rfl,H6⟩
      case measure => simp [intOf];omega
     ·have FIN:=Lib.hid (show PermQ w p lv mv L W1 from ⟨L1,hq.out.1,H5.out⟩)
      have hd:decide (xj1 < x) = false:=by simpa using hlt
      have hle':x ≤ xj1:=by omega
      clear hq hlen H5
      go_wp2
      go_ret
      exact ⟨⟨_,rfl⟩,FIN.out⟩
   ·have h2':(m:Int) ≤ (j1:Int) + 1:=by omega
    have h2n:¬ ((j1:Int) + 1 < (m:Int)):=by omega
    have hj1:=hj1x
    clear hj1x
    have hle:=chless_any wr p lv mv L1 H0.out.1 j1 k xj1 x hj1 hx
    have hm1:=fun n => m_less p n wr
    have HX:=Lib.hid (And.intro hj1 hx)
    clear hj1 hx
    go_wp2_with fail
    refine hle.mono ?_
    clear hle hm1
    rintro e W1 ⟨rfl,hb⟩
    have H5:=Lib.hid (And.intro (H0.out.1.below hb) (H0.out.2.trans (Upd.of_below hb (fun _ => False)) (fun _ h => h.elim)))
    clear hb
    by_cases hlt:xj1 < x
    ·have hsw:=chswap_any W1 p lv mv L1 H5.out.1 H.out.2.1 k j1 x xj1 HX.out.2 HX.out.1
     have hm1:=fun n => m_swap p n W1
     go_wp2_with fail
     refine hsw.mono ?_
     clear hsw hm1
     rintro e V9 ⟨rfl,hs,hu⟩
     have H6:=Lib.hid (show (swapL L1 k j1 x xj1).Perm L∧ChS V9 p lv mv (swapL L1 k j1 x xj1)∧Upd (fun k => lv.ownBlock = some k) w V9 from ⟨(swapL_perm HX.out.2 HX.out.1).trans hq.out.1,hs,H5.out.2.trans hu (fun _ h => .inl h)⟩)
     clear hs hu
     go_wp2
     go_roundw
     case rel => exact ⟨j1,swapL L1 k j1 x xj1,by omega,rfl,H6⟩
     case measure => simp [intOf];omega
    ·have FIN:=Lib.hid (show PermQ w p lv mv L W1 from ⟨L1,hq.out.1,H5.out⟩)
     have hd:decide (xj1 < x) = false:=by simpa using hlt
     have hle':x ≤ xj1:=by omega
     clear hq hlen H5
     go_wp2
     go_ret
     exact ⟨⟨_,rfl⟩,FIN.out⟩
  ·have h0':(m:Int) ≤ 2 * (k:Int) + 1:=by omega
   have FIN:=Lib.hid (show PermQ w p lv mv L wr from ⟨L1,hq.out⟩)
   clear hq hlen
   go_wp2
   go_ret
   exact ⟨⟨_,rfl⟩,FIN.out⟩
end Go.Proofs.YtddffnonlmfhdaaGreatDoor
namespace Go.Proofs.YtddffnonlmfhdaaGreatDoor
open Go.RowKit Go.Shelf
theorem ChT.after {w w1 w':World} {p:Nat} {lv mv:Value} {C:List Int→Prop} (h:ChT w1 p lv mv C w') (hb:Upd (fun k => k = p ∨ lv.ownBlock = some k) w w1):ChT w p lv mv C w':=by
 obtain ⟨lv',L',h1,h2,h3,h4,h5⟩:=h
 exact ⟨lv',L',h1,h2,hb.trans h3 (fun k hk => .inl hk),fun k hk => (h4 k hk).imp id (fun h => Nat.le_trans hb.size h),h5⟩
theorem hpush_any (w:World) (p:Nat) (lv mv:Value) (L:List Int) (h:ChS w p lv mv L) (hne:∀ k,lv.ownBlock = some k→¬ k = p) (hl:L.length ≤ 999999) (x:Int) :
  Calls Tryz.prog 152 #[chV p,.iface 3 (.int .i64 x)] w (fun e w' => e = .returned (.tuple #[])∧ChT w p lv mv (fun L' => L'.Perm (x :: L)) w'):=by
 have hpu:=chpush_any w p lv mv L h hne (by omega) x
 have hm1:=fun n => m_push p n w
 have HL:=Lib.hid hl
 clear h hne hl
 unfold chV
 go_enter Tryz.func152,Tryz.ntmps152
 go_wp2_with fail
 refine hpu.mono ?_
 clear hpu hm1
 rintro e W1 ⟨rfl,lv1,L1,h1,hL1,hu1,ho1,hn1⟩
 obtain ⟨n,hn⟩:∃ n,L.length = n:=⟨_,rfl⟩
 have hl2:L1.length = n + 1:=by rw [hL1,List.length_append,hn];rfl
 have hlen:=chlen_any W1 p lv1 mv _ h1
 rw [hl2] at hlen
 have hm1:=fun n => m_len p n W1
 have hn9:n ≤ 999999:=by have:=HL.out;omega
 have hup:=hup_any W1 p lv1 mv _ h1 hn1 (by omega) n (by omega)
 unfold chV at hup
 have H1:=Lib.hid (And.intro hu1 (And.intro ho1 (And.intro hn1 hL1)))
 clear h1 hu1 ho1 hn1 hL1 hl2 hn HL
 go_wp2_with fail
 refine hlen.mono ?_
 clear hlen hm1
 rintro e W2 ⟨rfl,hw⟩
 subst W2
 have e1:IntKind.i64.wrap (((n + 1:Nat):Int) - 1) = (n:Int):=by
  rw [IntWalk.i64_in (((n + 1:Nat):Int) - 1) (by omega)];omega
 go_wp2_with fail
 refine hup.mono ?_
 clear hup
 rintro e W3 ⟨rfl,L3,hp3,hs3,hu3⟩
 have FIN:=Lib.hid (show ChT w p lv mv (fun L' => L'.Perm (x :: L)) W3 from ⟨lv1,L3,hs3,hp3.trans (by rw [H1.out.2.2.2];exact List.perm_append_singleton x L),H1.out.1.trans hu3 (fun k hk => (H1.out.2.1 k hk).imp (fun h => .inr h) id),H1.out.2.1,H1.out.2.2.1⟩)
 clear hp3 hs3 hu3
 go_wp2
 exact bodyPost_end (results_none rfl _ _ _) rfl ⟨rfl,FIN.out⟩
def HPopQ (w:World) (p:Nat) (lv mv:Value) (L:List Int) (e:Ending) (w':World):Prop:=∃ x,e = .returned (.iface 3 (.int .i64 x))∧ChT w p lv mv (fun L' => L.Perm (x :: L')) w'
theorem hpop_any (w:World) (p:Nat) (lv mv:Value) (L:List Int) (h:ChS w p lv mv L) (hne:∀ k,lv.ownBlock = some k→¬ k = p) (hl:L.length ≤ 999999) (h0:0 < L.length) :
  Calls Tryz.prog 114 #[chV p] w (HPopQ w p lv mv L):=by
 have hlen:=chlen_any w p lv mv L h
 have hm1:=fun n => m_len p n w
 obtain ⟨n,hn⟩:∃ n,L.length = n + 1:=⟨L.length - 1,by omega⟩
 have hnl:n ≤ 999999:=by omega
 have H:=Lib.hid (And.intro h (And.intro hne hn))
 rw [hn] at hlen
 clear h hne hl h0 hn
 unfold chV
 go_enter Tryz.func114,Tryz.ntmps114
 go_wp2_with fail
 refine hlen.mono ?_
 clear hlen hm1
 rintro e W2 ⟨rfl,hw⟩
 subst W2
 have e1:IntKind.i64.wrap (((n + 1:Nat):Int) - 1) = (n:Int):=by
  rw [IntWalk.i64_in (((n + 1:Nat):Int) - 1) (by omega)];omega
 obtain ⟨a,ha⟩:∃ x,L[0]? = some x:=⟨_,List.getElem?_eq_getElem (by rw [H.out.2.2];omega)⟩
 obtain ⟨b,hb⟩:∃ x,L[n]? = some x:=⟨_,List.getElem?_eq_getElem (by rw [H.out.2.2];omega)⟩
 have hsw:=chswap_any w p lv mv L H.out.1 H.out.2.1 0 n a b ha hb
 have hperm:=Lib.hid (swapL_perm ha hb)
 have hm1:=fun n => m_swap p n w
 clear ha hb
 go_wp2_with fail
 refine hsw.mono ?_
 clear hsw hm1
 rintro e W3 ⟨rfl,hs3,hu3⟩
 have hdn:=hdown_any W3 p lv mv _ hs3 H.out.2.1 (by rw [swapL_len,H.out.2.2];omega) n (by rw [swapL_len,H.out.2.2];omega)
 unfold chV at hdn
 have H3:=Lib.hid (hu3.mono (F':=fun k => k = p ∨ lv.ownBlock = some k) (fun k _ h => .inr h))
 clear hs3 hu3
 go_wp2_with fail
 refine hdn.mono ?_
 clear hdn
 rintro e W4 ⟨⟨bb,rfl⟩,L4,hp4,hs4,hu4⟩
 have hL4:L4.length = n + 1:=by rw [hp4.length_eq,swapL_len,H.out.2.2]
 have hne4:L4 ≠ []:=fun e => by rw [e] at hL4;cases hL4
 have hpp:=chpop_any W4 p lv mv L4 hs4 H.out.2.1 (by omega) L4.dropLast (L4.getLast hne4) (List.dropLast_concat_getLast hne4).symm
 have H4:=Lib.hid (And.intro (show L.Perm (L4.getLast hne4 :: L4.dropLast) from by
  refine (hp4.trans hperm.out).symm.trans ?_
  have:=(List.perm_append_singleton (L4.getLast hne4) L4.dropLast)
  rwa [List.dropLast_concat_getLast hne4] at this) (H3.out.trans hu4 (fun k hk => .inl (.inr hk))))
 generalize L4.getLast hne4 = x at hpp H4
 generalize L4.dropLast = L5 at hpp H4
 have hm1:=fun n => m_pop p n W4
 clear hp4 hs4 hu4 hL4 hne4
 go_wp2_with fail
 refine hpp.mono ?_
 clear hpp hm1
 rintro e W5 ⟨rfl,ht⟩
 have FIN:=Lib.hid (show HPopQ w p lv mv L (.returned (.iface 3 (.int .i64 x))) W5 from ⟨x,rfl,by
  obtain ⟨lv',L',h1,h2,h3⟩:=ht.after H4.out.2
  exact ⟨lv',L',h1,by rw [h2];exact H4.out.1,h3⟩⟩)
 clear ht
 go_wp2
 go_ret
 exact FIN.out
end Go.Proofs.YtddffnonlmfhdaaGreatDoor
namespace Go.Proofs.YtddffnonlmfhdaaGreatDoor
open Go.RowKit Go.Shelf
def mkC (nts:Nat) (L:List Int):List Value:=(List.range nts).map (fun (k:Nat) => Value.bool (decide ((k:Int) ∈ L)))
theorem mkC_at {nts k:Nat} {L:List Int} (h:k < nts):(mkC nts L)[k]? = some (.bool (decide ((k:Int) ∈ L))):=by simp [mkC,h]
theorem mkC_set {nts k:Nat} {L L':List Int} (b:Bool) (h:∀ y:Int,y ≠ (k:Int)→(y ∈ L' ↔ y ∈ L)) (hk:decide ((k:Int) ∈ L') = b):(mkC nts L).set k (.bool b) = mkC nts L':=by
 apply List.ext_getElem?
 intro i
 rw [List.getElem?_set]
 by_cases hi:k = i
 ·subst hi
  rw [if_pos rfl]
  by_cases hl:k < nts
  ·rw [if_pos (by simpa [mkC] using hl),mkC_at hl,hk]
  ·rw [if_neg (by simpa [mkC] using hl)]
   simp [mkC,hl]
 ·rw [if_neg hi]
  by_cases hl:i < nts
  ·rw [mkC_at hl,mkC_at hl,decide_eq_decide.2 (h (i:Int) (by omega))]
  ·simp [mkC,hl]
theorem nd_le:∀ (nts:Nat) (L:List Int),L.Nodup→(∀ x ∈ L,0 ≤ x∧x < (nts:Int))→L.length ≤ nts
 | 0,L,_,h => by
  cases L with
  | nil => exact Nat.le_refl _
  | cons x l => have:=h x (List.mem_cons_self ..);omega
 | n + 1,L,hn,h => by
  by_cases hm:(n:Int) ∈ L
  ·have h1:=nd_le n (L.erase (n:Int)) (hn.erase _) (fun x hx => by
    have h2:=(hn.mem_erase_iff).1 hx
    have:=h x h2.2
    have:x ≠ (n:Int):=h2.1
    omega)
   have h2:=List.length_erase_of_mem hm
   have h3:0 < L.length:=List.length_pos_of_mem hm
   omega
  ·have:=nd_le n L hn (fun x hx => by
    have h2:=h x hx
    have:x ≠ (n:Int):=fun e => hm (e ▸ hx)
    omega)
   omega
structure WkI (w:World) (p m nts:Nat) (lv:Value) (L:List Int):Prop where
 ch:ChS w p lv (.slice (some ⟨m,0,none⟩) nts nts) L
 mks:Blk w m 4 (mkC nts L).toArray
 np:∀ k,lv.ownBlock = some k→¬ k = p
 nm:∀ k,lv.ownBlock = some k→¬ k = m
 ne:¬ m = p
 inL:∀ x ∈ L,0 ≤ x∧x < (nts:Int)
 nd:L.Nodup
theorem WkI.len {w:World} {p m nts:Nat} {lv:Value} {L:List Int} (h:WkI w p m nts lv L):L.length ≤ nts:=nd_le nts L h.nd h.inL
theorem WkI.upd {w w':World} {p m nts:Nat} {lv:Value} {L:List Int} {F:Nat→Prop} (h:WkI w p m nts lv L) (hu:Upd F w w') (hp:¬ F p) (hm:¬ F m) (hl:∀ k,lv.ownBlock = some k→¬ F k):WkI w' p m nts lv L:=
 ⟨h.ch.upd hu hp hl,h.mks.upd hu hm,h.np,h.nm,h.ne,h.inL,h.nd⟩
def WkF (p m:Nat) (lv:Value) (k:Nat):Prop:=k = p ∨ k = m ∨ lv.ownBlock = some k
def WkT (w:World) (p m nts:Nat) (lv:Value) (C:List Int→Prop) (w':World):Prop:=
 ∃ lv' L',WkI w' p m nts lv' L'∧C L'∧Upd (WkF p m lv) w w'∧∀ k,lv'.ownBlock = some k→lv.ownBlock = some k ∨ w.heap.size ≤ k
theorem wput_any (w:World) (p m nts:Nat) (lv:Value) (L:List Int) (h:WkI w p m nts lv L) (hnt:nts ≤ 512) (k:Nat) (hk:k < nts) :
  Calls Tryz.prog 111 #[.pointer (some ⟨p,0,none⟩),.int .i64 (k:Int)] w (fun e w' => e = .returned (.tuple #[])∧WkT w p m nts lv (fun L' => Puts L L' (k:Int)) w'):=by
 have q1:w.cell? ⟨p,1,none⟩ = some (.slice (some ⟨m,0,none⟩) nts nts):=h.ch.1.cell 1
 have qm:w.cell? ⟨m,k,none⟩ = some (.bool (decide ((k:Int) ∈ L))):=by rw [h.mks.cell k];simpa using mkC_at hk
 have fm:w.frozen? ⟨m,k,none⟩ = false:=h.mks.frozen k
 have hkI:(k:Int) < (nts:Int):=by omega
 by_cases hin:(k:Int) ∈ L
 ·rw [decide_eq_true hin] at qm
  have FIN:=Lib.hid (show WkT w p m nts lv (fun L' => Puts L L' (k:Int)) w from ⟨lv,L,h,⟨fun y => ⟨.inl,fun hy => hy.elim id (fun e => e ▸ hin)⟩,h.nd,by omega⟩,Upd.refl _ _,fun _ hk => .inl hk⟩)
  clear h hin
  go_enter Tryz.func111,Tryz.ntmps111
  go_wp2
  exact bodyPost_end (results_none rfl _ _ _) rfl ⟨rfl,FIN.out⟩
 ·rw [decide_eq_false hin] at qm
  have us:=(Upd.refl (fun q => q = m) w).setCell (p:=⟨m,k,none⟩) (.inl rfl) (.bool true)
  have hc1:=h.ch.upd us (fun e => h.ne e.symm) h.nm
  have hlen:=h.len
  have hpu:=hpush_any _ p lv _ L hc1 h.np (by omega) (k:Int)
  have hmk:Blk (w.setCell ⟨m,k,none⟩ (.bool true)) m 4 ((mkC nts L).toArray.setIfInBounds k (.bool true)):=h.mks.set k (.bool true)
  have H:=Lib.hid (And.intro h (And.intro us (And.intro hmk hin)))
  unfold chV at hpu
  clear h us hc1 hmk hin
  go_enter Tryz.func111,Tryz.ntmps111
  go_wp2_with fail
  refine hpu.mono ?_
  clear hpu
  rintro e W1 ⟨rfl,lv1,L1,h1,hp1,hu1,ho1,hn1⟩
  have FIN:=Lib.hid (show WkT w p m nts lv (fun L' => Puts L L' (k:Int)) W1 from by
   have h0:=H.out.1
   have hz:=H.out.2.1.size
   have hmem:∀ y,y ∈ L1 ↔ y = (k:Int) ∨ y ∈ L:=fun y => by rw [hp1.mem_iff,List.mem_cons]
   have hmk2:=H.out.2.2.1.upd hu1 (fun e => e.elim (fun e => h0.ne e) (fun e => h0.nm _ e rfl))
   have ems:(mkC nts L).toArray.setIfInBounds k (.bool true) = (mkC nts L1).toArray:=by
    rw [List.setIfInBounds_toArray,mkC_set true (L':=L1) (fun y hy => by rw [hmem];exact ⟨fun h => h.resolve_left hy,.inr⟩) (decide_eq_true ((hmem _).2 (.inl rfl)))]
   rw [ems] at hmk2
   refine ⟨lv1,L1,⟨h1,hmk2,hn1,fun q hq e => ?_,h0.ne,fun x hx => ?_,hp1.nodup_iff.2 (List.nodup_cons.2 ⟨H.out.2.2.2,h0.nd⟩)⟩,⟨fun y => by rw [hmem];exact or_comm,hp1.nodup_iff.2 (List.nodup_cons.2 ⟨H.out.2.2.2,h0.nd⟩),by rw [hp1.length_eq];exact Nat.le_refl _⟩,?_,fun q hq => (ho1 q hq).imp id (fun h => Nat.le_trans hz h)⟩
   ·rcases ho1 q hq with h2 | h2
    ·exact h0.nm q h2 e
    ·have:=h0.mks.lt
     subst e
     omega
   ·rcases (hmem x).1 hx with h2 | h2
    ·subst h2;exact ⟨by omega,hkI⟩
    ·exact h0.inL x h2
   ·exact (H.out.2.1.mono (F':=WkF p m lv) (fun q _ e => .inr (.inl e))).trans hu1 (fun q hq => .inl (hq.imp id .inr)))
  clear h1 hp1 hu1 ho1 hn1
  go_wp2
  exact bodyPost_end (results_none rfl _ _ _) rfl ⟨rfl,FIN.out⟩
end Go.Proofs.YtddffnonlmfhdaaGreatDoor
namespace Go.Proofs.YtddffnonlmfhdaaGreatDoor
open Go.RowKit Go.Shelf
inductive CRo
 | x | row | mat (k:Nat)
def ptC (ad:Nat→Nat) (nts:Nat):List Value:=(List.range nts).map (fun (k:Nat) => Value.pointer (some ⟨ad k,0,none⟩))
theorem ptC_at {ad:Nat→Nat} {nts k:Nat} (h:k < nts):(ptC ad nts)[k]? = some (.pointer (some ⟨ad k,0,none⟩)):=by simp [ptC,h]
structure ClI (w:World) (O:Nat→Option CRo) (p side nodes nts:Nat) (pv:Value) (ad:Nat→Nat) (B:Mats):Prop where
 blk:Blk w p 138 #[.int .i64 (nodes:Int),pv]
 rows:w.ownsRow 0 121 1 pv nts (ptC ad nts)
 op:O p = some .x
 orow:∀ k,pv.ownBlock = some k→O k = some .row
 mats:∀ k,k < nts→∃ F,QuS w F (ad k) side (B k)∧∀ q,F q→O q = some (.mat k)
 lt:∀ q,O q ≠ none→q < w.heap.size
def ClS (w:World) (F:Nat→Prop) (p side nodes nts:Nat) (B:Mats):Prop:=∃ O pv ad,ClI w O p side nodes nts pv ad B∧F = fun q => O q ≠ none
theorem ClI.upd {w w':World} {O:Nat→Option CRo} {p side nodes nts:Nat} {pv:Value} {ad:Nat→Nat} {B:Mats} {G:Nat→Prop} (h:ClI w O p side nodes nts pv ad B) (hu:Upd G w w') (hd:∀ q,O q ≠ none→¬ G q):ClI w' O p side nodes nts pv ad B:=by
 have no:∀ k t,O k = some t→¬ G k:=fun k t e => hd k (by simp [e])
 exact ⟨h.blk.upd hu (no _ _ h.op),ownsRow_upd h.rows hu fun k hk => no _ _ (h.orow k hk),h.op,h.orow,fun k hk => by
  obtain ⟨F,h1,h2⟩:=h.mats k hk
  exact ⟨F,h1.upd hu (fun q hq => no _ _ (h2 q hq)),h2⟩,fun q hq => Nat.lt_of_lt_of_le (h.lt q hq) hu.size⟩
theorem ClS.upd {w w':World} {F G:Nat→Prop} {p side nodes nts:Nat} {B:Mats} (h:ClS w F p side nodes nts B) (hu:Upd G w w') (hd:∀ k,F k→¬ G k):ClS w' F p side nodes nts B:=by
 obtain ⟨O,pv,ad,hi,rfl⟩:=h
 exact ⟨O,pv,ad,hi.upd hu hd,rfl⟩
theorem ClS.below {w w':World} {F:Nat→Prop} {p side nodes nts:Nat} {B:Mats} (h:ClS w F p side nodes nts B) (hb:Below w.heap.size w w'):ClS w' F p side nodes nts B:=h.upd (Upd.of_below hb (fun _ => False)) (fun _ _ => id)
theorem ClS.lt {w:World} {F:Nat→Prop} {p side nodes nts:Nat} {B:Mats} (h:ClS w F p side nodes nts B):∀ k,F k→k < w.heap.size:=by
 obtain ⟨O,pv,ad,hi,rfl⟩:=h
 exact hi.lt
def ClTo (w:World) (F:Nat→Prop) (p side nodes nts:Nat) (B:Mats) (w':World):Prop:=∃ F',ClS w' F' p side nodes nts B∧Upd F w w'∧∀ k,F' k→F k ∨ w.heap.size ≤ k
theorem ClTo.after {w w1 w':World} {F:Nat→Prop} {p side nodes nts:Nat} {B:Mats} (hb:Below w.heap.size w w1) (h:ClTo w1 F p side nodes nts B w'):ClTo w F p side nodes nts B w':=by
 obtain ⟨F',h1,h2,h3⟩:=h
 exact ⟨F',h1,(Upd.of_below hb F).trans h2 (fun _ h => .inl h),fun k hk => (h3 k hk).imp id (fun h => Nat.le_trans hb.size h)⟩
theorem ClI.turn {w w':World} {O:Nat→Option CRo} {p side nodes nts:Nat} {pv:Value} {ad:Nat→Nat} {B:Mats} (h:ClI w O p side nodes nts pv ad B) {a:Nat} {Fa:Nat→Prop} {m:Option (List Nat)} (hFa:∀ q,Fa q→O q = some (.mat a)) (ht:QTo w Fa (ad a) side m w') :
  ClTo w (fun q => O q ≠ none) p side nodes nts (upM B a m) w':=by
 obtain ⟨F',hq,hu,hn⟩:=ht
 have ho:∀ q,Fa q→O q ≠ none:=fun q hq e => by rw [hFa q hq] at e;cases e
 have hlt:=hq.lt
 refine ⟨_,⟨fun q => if q < w.heap.size then O q else if q < w'.heap.size then some (.mat a) else none,pv,ad,⟨?_,?_,?_,?_,?_,?_⟩,rfl⟩,hu.mono (fun q _ hq => ho q hq),fun k hk => ?_⟩
 ·exact h.blk.upd hu (fun e => by have:=hFa _ e;rw [h.op] at this;cases this)
 ·exact ownsRow_upd h.rows hu (fun k hk e => by have:=hFa _ e;rw [h.orow k hk] at this;cases this)
 ·show (if p < w.heap.size then O p else _) = _
  rw [if_pos h.blk.lt];exact h.op
 ·intro k hk
  show (if k < w.heap.size then O k else _) = _
  have:=h.orow k hk
  rw [if_pos (h.lt k (by rw [this];exact nofun))];exact this
 ·intro k hk
  by_cases e:k = a
  ·subst e
   rw [upM_at]
   refine ⟨F',hq,fun q hf => ?_⟩
   show (if q < w.heap.size then O q else if q < w'.heap.size then some (.mat k) else none) = _
   by_cases hl:q < w.heap.size
   ·rw [if_pos hl]
    rcases hn q hf with h1 | h1
    ·exact hFa q h1
    ·omega
   ·rw [if_neg hl,if_pos (hlt q hf)]
  ·rw [upM_ne B m e]
   obtain ⟨F,h1,h2⟩:=h.mats k hk
   refine ⟨F,h1.upd hu (fun q hf hf' => ?_),fun q hf => ?_⟩
   ·have e1:=h2 q hf
    rw [hFa q hf'] at e1
    injection e1 with e1
    injection e1 with e1
    exact e e1.symm
   ·show (if q < w.heap.size then O q else _) = _
    rw [if_pos (h1.lt q hf)];exact h2 q hf
 ·intro q hq
  by_cases hl:q < w.heap.size
  ·exact Nat.lt_of_lt_of_le hl hu.size
  ·by_cases hl2:q < w'.heap.size
   ·exact hl2
   ·rw [if_neg hl,if_neg hl2] at hq
    exact absurd rfl hq
 ·by_cases hl:k < w.heap.size
  ·have hk:(if k < w.heap.size then O k else _) ≠ none:=hk
   rw [if_pos hl] at hk
   exact .inl hk
  ·exact .inr (by omega)
theorem next_any (w:World) (F:Nat→Prop) (p side nodes nts:Nat) (B:Mats) (h:ClS w F p side nodes nts B) (a b c:Nat) (la lb:Bool) (A:Option Addr) (cap:Nat) (hr:RowR w A (syCells [⟨la,b⟩,⟨lb,c⟩]))
  (ha:a < nts) (hb:b < nts) (hc:c < nts) (hnt:nts ≤ 512) (hs64:side ≤ 64) (hT:TabW w) (htab:1 < w.heap.size)
  (hfit:∀ x y,B b = some x→B c = some y→cornW (mulW x y) side = mulW x y) :
  Calls Tryz.prog 112 #[.pointer (some ⟨p,0,none⟩),.agg #[.int .i64 (a:Int),.slice A 2 cap]] w (fun e w' => e = .returned (.bool (moreQ (B a) (mulO (B b) (B c))))∧ClTo w F p side nodes nts (upM B a (joinQ (B a) (mulO (B b) (B c)))) w'):=by
 obtain ⟨O,pv,ad,hi,rfl⟩:=h
 obtain ⟨g,gc,rfl,-,-,-,-,-⟩:=own_cells hi.rows (by omega)
 obtain ⟨gb,go,rfl,-⟩:=hr 0 (.bool la) rfl
 have b1:Below w.heap.size w (w.alloc (.cells #[.int .i64 (a:Int),.slice (some ⟨gb,go,none⟩) 2 cap] 71)):=(Below.refl _ _).alloc (Nat.le_refl _) _
 have k1:=Blk.new w 71 #[.int .i64 (a:Int),.slice (some ⟨gb,go,none⟩) 2 cap]
 have hi1:=hi.upd (Upd.of_below b1 (fun _ => False)) (fun _ _ => id)
 have hr1:=hr.below3 b1
 have SF:∀ W,Below (w.alloc (.cells #[.int .i64 (a:Int),.slice (some ⟨gb,go,none⟩) 2 cap] 71)).heap.size (w.alloc (.cells #[.int .i64 (a:Int),.slice (some ⟨gb,go,none⟩) 2 cap] 71)) W →
   W.cell? ⟨p,1,none⟩ = some (.slice (some ⟨g,0,none⟩) nts gc)∧W.cell? ⟨w.heap.size,0,none⟩ = some (.int .i64 (a:Int))∧W.cell? ⟨w.heap.size,1,none⟩ = some (.slice (some ⟨gb,go,none⟩) 2 cap) ∧
   W.cell? ⟨gb,go + 1,none⟩ = some (.int .i64 (b:Int))∧W.cell? ⟨gb,go + 3,none⟩ = some (.int .i64 (c:Int))∧W.cell? ⟨g,a,none⟩ = some (.pointer (some ⟨ad a,0,none⟩))∧W.cell? ⟨g,b,none⟩ = some (.pointer (some ⟨ad b,0,none⟩))∧W.cell? ⟨g,c,none⟩ = some (.pointer (some ⟨ad c,0,none⟩)):=fun W hW => by
  have hi2:=hi1.upd (Upd.of_below hW (fun _ => False)) (fun _ _ => id)
  have k2:=k1.upd (Upd.of_below hW (fun _ => False)) id
  have hr2:=hr1.below3 hW
  obtain ⟨g',c',e,-,-,-,-,hg⟩:=own_cells hi2.rows (by omega)
  injection e with e
  injection e with e
  injection e with e
  subst e
  obtain ⟨b',o',e,c1⟩:=hr2 1 (.int .i64 (b:Int)) rfl
  injection e with e
  injection e with e1 e2
  subst e1
  subst e2
  obtain ⟨b',o',e,c3⟩:=hr2 3 (.int .i64 (c:Int)) rfl
  injection e with e
  injection e with e1 e2
  subst e1
  subst e2
  exact ⟨hi2.blk.cell 1,k2.cell 0,k2.cell 1,c1,c3,(hg a _ (ptC_at ha)).1,(hg b _ (ptC_at hb)).1,(hg c _ (ptC_at hc)).1⟩
 have HX:=Lib.hid (And.intro hi1 (And.intro b1 (And.intro (hT.upd (Upd.of_below b1 (fun _ => False)) htab id) (And.intro (Nat.lt_of_lt_of_le htab b1.size) hfit))))
 have HS:=Lib.hid SF
 have haI:(a:Int) < (nts:Int):=by omega
 have hbI:(b:Int) < (nts:Int):=by omega
 have hcI:(c:Int) < (nts:Int):=by omega
 clear hi hr b1 k1 hi1 hr1 SF hT htab hfit
 go_enter Tryz.func112,Tryz.ntmps112
 go_upto_region 1 with (fail)
 generalize w.alloc (.cells #[.int .i64 (a:Int),.slice (some ⟨gb,go,none⟩) 2 cap] 71) = W1 at HX HS ⊢
 generalize w.heap.size = z at HS ⊢
 have HB:=Lib.hid (show Below W1.heap.size W1 W1.drew from (Below.refl _ _).drew)
 have hS:=HS.out W1.drew HB.out
 refine wp_region_late (fun W:World => W.cell? ⟨p,1,none⟩ = some (.slice (some ⟨g,0,none⟩) nts gc)∧W.cell? ⟨z,0,none⟩ = some (.int .i64 (a:Int))∧W.cell? ⟨z,1,none⟩ = some (.slice (some ⟨gb,go,none⟩) 2 cap) ∧
   W.cell? ⟨gb,go + 1,none⟩ = some (.int .i64 (b:Int))∧W.cell? ⟨gb,go + 3,none⟩ = some (.int .i64 (c:Int))∧W.cell? ⟨g,a,none⟩ = some (.pointer (some ⟨ad a,0,none⟩))∧W.cell? ⟨g,b,none⟩ = some (.pointer (some ⟨ad b,0,none⟩))∧W.cell? ⟨g,c,none⟩ = some (.pointer (some ⟨ad c,0,none⟩))) (lateFrom 30) (by kernel_rfl) ?_
 generalize W1.drew = W2 at HB hS ⊢
 intro hd
 (refine late_takeA (i:=0) rfl hd hS ?_;clear hd;intro hd;(try simp only [Act.put,gA,gZ,sA,sZ,sS]))
 (refine late_takeA (i:=1) rfl hd hS ?_;clear hd;intro hd;(try simp only [Act.put,gA,gS,gZ,sA,sZ,sS]))
 (refine late_takeA (i:=2) rfl hd hS ?_;clear hd;intro hd;(try simp only [Act.put,gA,gS,gZ,sA,sZ,sS]))
 (refine late_takeA (i:=3) rfl hd hS ?_;clear hd;intro hd;(try simp only [Act.put,gA,gS,gZ,sA,sZ,sS]))
 (refine late_takeA (i:=4) rfl hd hS ?_;clear hd;intro hd;(try simp only [Act.put,gA,gS,gZ,sA,sZ,sS]))
 (refine late_takeA (i:=5) rfl hd hS ?_;clear hd;intro hd;(try simp only [Act.put,gA,gS,gZ,sA,sZ,sS]))
 (refine late_takeA (i:=6) rfl hd hS ?_;clear hd;intro hd;(try simp only [Act.put,gA,gS,gZ,sA,sZ,sS]))
 (refine late_takeA (i:=7) rfl hd hS ?_;clear hd;intro hd;(try simp only [Act.put,gA,gS,gZ,sA,sZ,sS]))
 (refine late_takeA (i:=8) rfl hd hS ?_;clear hd;intro hd;(try simp only [Act.put,gA,gS,gZ,sA,sZ,sS]))
 (refine late_takeA (i:=9) rfl hd hS ?_;clear hd;intro hd;(try simp only [Act.put,gA,gS,gZ,sA,sZ,sS]))
 (refine late_takeA (i:=10) rfl hd hS ?_;clear hd;intro hd;(try simp only [Act.put,gA,gS,gZ,sA,sZ,sS]))
 (refine late_takeA (i:=11) rfl hd hS ?_;clear hd;intro hd;(try simp only [Act.put,gA,gS,gZ,sA,sZ,sS]))
 (refine late_takeA (i:=12) rfl hd hS ?_;clear hd;intro hd;(try simp only [Act.put,gA,gS,gZ,sA,sZ,sS]))
 (refine late_takeA (i:=13) rfl hd hS ?_;clear hd;intro hd;(try simp only [Act.put,gA,gS,gZ,sA,sZ,sS]))
 (refine late_takeA (i:=14) rfl hd hS ?_;clear hd;intro hd;(try simp only [Act.put,gA,gS,gZ,sA,sZ,sS]))
 (refine late_takeA (i:=15) rfl hd hS ?_;clear hd;intro hd;(try simp only [Act.put,gA,gS,gZ,sA,sZ,sS]))
 (refine late_takeA (i:=16) rfl hd hS ?_;clear hd;intro hd;(try simp only [Act.put,gA,gS,gZ,sA,sZ,sS]))
 (refine late_takeA (i:=17) rfl hd hS ?_;clear hd;intro hd;(try simp only [Act.put,gA,gS,gZ,sA,sZ,sS]))
 (refine late_takeA (i:=18) rfl hd hS ?_;clear hd;intro hd;(try simp only [Act.put,gA,gS,gZ,sA,sZ,sS]))
 (refine late_takeA (i:=19) rfl hd hS ?_;clear hd;intro hd;(try simp only [Act.put,gA,gS,gZ,sA,sZ,sS]))
 (refine late_takeA (i:=20) rfl hd hS ?_;clear hd;intro hd;(try simp only [Act.put,gA,gS,gZ,sA,sZ,sS]))
 (refine late_takeA (i:=21) rfl hd hS ?_;clear hd;intro hd;(try simp only [Act.put,gA,gS,gZ,sA,sZ,sS]))
 (refine late_takeA (i:=22) rfl hd hS ?_;clear hd;intro hd;(try simp only [Act.put,gA,gS,gZ,sA,sZ,sS]))
 (refine late_takeA (i:=23) rfl hd hS ?_;clear hd;intro hd;(try simp only [Act.put,gA,gS,gZ,sA,sZ,sS]))
 (refine late_takeA (i:=24) rfl hd hS ?_;clear hd;intro hd;(try simp only [Act.put,gA,gS,gZ,sA,sZ,sS]))
 (refine late_takeA (i:=25) rfl hd hS ?_;clear hd;intro hd;(try simp only [Act.put,gA,gS,gZ,sA,sZ,sS]))
 (refine late_takeA (i:=26) rfl hd hS ?_;clear hd;intro hd;(try simp only [Act.put,gA,gS,gZ,sA,sZ,sS]))
 (refine late_takeA (i:=27) rfl hd hS ?_;clear hd;intro hd;(try simp only [Act.put,gA,gS,gZ,sA,sZ,sS]))
 (refine late_takeA (i:=28) rfl hd hS ?_;clear hd;intro hd;(try simp only [Act.put,gA,gS,gZ,sA,sZ,sS]))
 (refine late_takeA (i:=29) rfl hd hS ?_;clear hd;intro hd;(try simp only [Act.put,gA,gS,gZ,sA,sZ,sS]))
 have hint:Hid (∃ Fa Fb Fc,QuS W2 Fa (ad a) side (B a)∧QuS W2 Fb (ad b) side (B b)∧QuS W2 Fc (ad c) side (B c)∧(∀ q,Fa q→O q = some (.mat a))∧TabW W2∧1 < W2.heap.size∧ClI W2 O p side nodes nts (.slice (some ⟨g,0,none⟩) nts gc) ad B):=Lib.hid (by
  have hi2:=HX.out.1.upd (Upd.of_below HB.out (fun _ => False)) (fun _ _ => id)
  obtain ⟨Fa,a1,a2⟩:=hi2.mats a ha
  obtain ⟨Fb,b1,-⟩:=hi2.mats b hb
  obtain ⟨Fc,c1,-⟩:=hi2.mats c hc
  exact ⟨Fa,Fb,Fc,a1,b1,c1,a2,HX.out.2.2.1.upd (Upd.of_below HB.out (fun _ => False)) HX.out.2.2.2.1 id,Nat.lt_of_lt_of_le HX.out.2.2.2.1 HB.out.size,hi2⟩)
 obtain ⟨Fa,Fb,Fc,a1,b1,c1,a2,t1,t2,i2⟩:=hint.out
 have hcon:=pinto_any W2 Fa Fb Fc (ad a) (ad b) (ad c) side (B a) (B b) (B c) a1 b1 c1 hs64 t1 t2 HX.out.2.2.2.2
 have HI:=Lib.hid (And.intro i2 a2)
 clear a1 b1 c1 t1 t2 i2 a2 hint hS
 refine late_run hd (L:=[30]) (by kernel_rfl) (by decide) (fun ix hix hd2 => ?_)
 clear hd
 have hd:=hd2
 clear hd2
 simp only [List.mem_cons,List.not_mem_nil,or_false] at hix
 subst hix
 refine late_do (S:=(fun W:World => W.cell? ⟨p,1,none⟩ = some (.slice (some ⟨g,0,none⟩) nts gc)∧W.cell? ⟨z,0,none⟩ = some (.int .i64 (a:Int))∧W.cell? ⟨z,1,none⟩ = some (.slice (some ⟨gb,go,none⟩) 2 cap) ∧
   W.cell? ⟨gb,go + 1,none⟩ = some (.int .i64 (b:Int))∧W.cell? ⟨gb,go + 3,none⟩ = some (.int .i64 (c:Int))∧W.cell? ⟨g,a,none⟩ = some (.pointer (some ⟨ad a,0,none⟩))∧W.cell? ⟨g,b,none⟩ = some (.pointer (some ⟨ad b,0,none⟩))∧W.cell? ⟨g,c,none⟩ = some (.pointer (some ⟨ad c,0,none⟩)))) (late:=lateFrom 30) rfl rfl (fun K hK => ?_)
 go_simp
 refine hcon.mono ?_
 clear hcon
 rintro e W3 ⟨rfl,hto⟩
 have FIN:=Lib.hid (show ClTo w (fun q => O q ≠ none) p side nodes nts (upM B a (joinQ (B a) (mulO (B b) (B c)))) W3 from (ClTo.after (HX.out.2.1.trans (HB.out.mono HX.out.2.1.size)) (HI.out.1.turn HI.out.2 hto)))
 clear hto
 refine hK _ _ (fun h _ => absurd h (by decide)) ?_
 clear hK K
 (try simp only [Act.put,gA,gS,gZ,sA,sZ,sS])
 (refine late_take0 (i:=31) (v:=?_) rfl (by kernel_rfl) hd (fun _ _ d _ _ h => by cases d <;> exact h) (by first | with_reducible rfl | kernel_rfl) ?_ ?_;rotate_left;(focus (intro wS;go_simp;(try with_reducible rfl);done));clear hd;intro hd;(try simp only [Act.put,gA,gS,gZ,sA,sZ,sS]))
 (refine late_take0 (i:=32) (v:=?_) rfl (by kernel_rfl) hd (fun _ _ d _ _ h => by cases d <;> exact h) (by first | with_reducible rfl | kernel_rfl) ?_ ?_;rotate_left;(focus (intro wS;go_simp;(try with_reducible rfl);done));clear hd;intro hd;(try simp only [Act.put,gA,gS,gZ,sA,sZ,sS]))
 (refine late_take0 (i:=33) (v:=?_) rfl (by kernel_rfl) hd (fun _ _ d _ _ h => by cases d <;> exact h) (by first | with_reducible rfl | kernel_rfl) ?_ ?_;rotate_left;(focus (intro wS;go_simp;(try with_reducible rfl);done));clear hd;intro hd;(try simp only [Act.put,gA,gS,gZ,sA,sZ,sS]))
 (refine late_take0 (i:=34) (v:=?_) rfl (by kernel_rfl) hd (fun _ _ d _ _ h => by cases d <;> exact h) (by first | with_reducible rfl | kernel_rfl) ?_ ?_;rotate_left;(focus (intro wS;go_simp;(try with_reducible rfl);done));clear hd;intro hd;(try simp only [Act.put,gA,gS,gZ,sA,sZ,sS]))
 (refine late_take0 (i:=35) (v:=?_) rfl (by kernel_rfl) hd (fun _ _ d _ _ h => by cases d <;> exact h) (by first | with_reducible rfl | kernel_rfl) ?_ ?_;rotate_left;(focus (intro wS;go_simp;(try with_reducible rfl);done));clear hd;intro hd;(try simp only [Act.put,gA,gS,gZ,sA,sZ,sS]))
 refine late_done (by kernel_rfl) ?_
 go_wp2
 go_ret
 exact ⟨rfl,FIN.out⟩
end Go.Proofs.YtddffnonlmfhdaaGreatDoor
namespace Go.Proofs.YtddffnonlmfhdaaGreatDoor
open Go.RowKit
theorem txt_beq (a b:Txt):(ByteArray.toList a == ByteArray.toList b) = decide (a = b):=by
 rw [Bool.eq_iff_iff,beq_iff_eq,decide_eq_true_iff,txt_list,txt_list]
 exact ⟨txt_ext,fun h => by rw [h]⟩
def MatOf (G:Gr) (lb:Txt) (b:Option (List Nat)):Prop:=∀ i j,i < 64→j < 64→(bitO b i j = true ↔ ∃ x ∈ G.X,x.lb = lb∧G.N[i]? = some x.fr∧G.N[j]? = some x.to)
def MatTo (U:Nat→List Hp) (lb:Txt) (k t:Nat) (b:Option (List Nat)):Prop:=∀ i j,i < 64→j < 64→(bitO b i j = true ↔ (i < k∧∃ h ∈ U i,h.lb = lb∧h.nd = (j:Int)) ∨ (i = k∧∃ h ∈ (U k).take t,h.lb = lb∧h.nd = (j:Int)))
theorem MatTo.all {G:Gr} {U V:Nat→List Hp} {lb:Txt} {b:Option (List Nat)} (h:MatTo U lb G.N.length 0 b) (ho:HopsOK G.N G.X U V) (ok:GOk G):MatOf G lb b:=fun i j hi hj => by
 rw [h i j hi hj]
 constructor
 ·rintro (⟨_,y,hy,h1,h2⟩ | ⟨_,y,hy,_⟩)
  ·obtain ⟨x,hx,e1,rfl⟩:=(ho.um i y).1 hy
   refine ⟨x,hx,h1,e1,?_⟩
   have h2:(idxT G.N x.to:Int) = (j:Int):=h2
   have:idxT G.N x.to = j:=by omega
   rw [← this]
   exact idxT_at (ok.ends x hx).2
  ·simp at hy
 ·rintro ⟨x,hx,h1,h2,h3⟩
  refine .inl ⟨(List.getElem?_eq_some_iff.1 h2).1,⟨x.lb,(idxT G.N x.to:Int)⟩,(ho.um i _).2 ⟨x,hx,h2,rfl⟩,h1,?_⟩
  show (idxT G.N x.to:Int) = (j:Int)
  rw [idxT_is ok.nd h3]
theorem MatTo.next {U:Nat→List Hp} {lb:Txt} {k:Nat} {b:Option (List Nat)} (h:MatTo U lb k (U k).length b):MatTo U lb (k + 1) 0 b:=fun i j hi hj => by
 rw [h i j hi hj,List.take_length]
 constructor
 ·rintro (⟨h1,h2⟩ | ⟨rfl,h2⟩)
  ·exact .inl ⟨by omega,h2⟩
  ·exact .inl ⟨by omega,h2⟩
 ·rintro (⟨h1,h2⟩ | ⟨_,y,hy,_⟩)
  ·by_cases e:i = k
   ·subst e;exact .inr ⟨rfl,h2⟩
   ·exact .inl ⟨by omega,h2⟩
  ·simp at hy
theorem MatTo.skip {U:Nat→List Hp} {lb:Txt} {k t:Nat} {b:Option (List Nat)} {y:Hp} (h:MatTo U lb k t b) (hy:(U k)[t]? = some y) (hn:y.lb ≠ lb):MatTo U lb k (t + 1) b:=fun i j hi hj => by
 rw [h i j hi hj,List.take_add_one,hy]
 simp only [Option.toList_some,List.mem_append,List.mem_singleton]
 constructor
 ·rintro (h1 | ⟨e,z,hz,h2⟩)
  ·exact .inl h1
  ·exact .inr ⟨e,z,.inl hz,h2⟩
 ·rintro (h1 | ⟨e,z,hz | rfl,h2⟩)
  ·exact .inl h1
  ·exact .inr ⟨e,z,hz,h2⟩
  ·exact absurd h2.1 hn
theorem MatTo.put {U:Nat→List Hp} {lb:Txt} {k t q:Nat} {b:Option (List Nat)} (h:MatTo U lb k t b) (hw:Wd (oldW b)) (hk:k < 64) (hy:(U k)[t]? = some ⟨lb,(q:Int)⟩):MatTo U lb k (t + 1) (setO b k q):=fun i j hi hj => by
 rw [bit_set hw hk hi,Bool.or_eq_true,h i j hi hj,List.take_add_one,hy]
 simp only [Option.toList_some,List.mem_append,List.mem_singleton,decide_eq_true_eq]
 constructor
 ·rintro ((h1 | ⟨e,z,hz,h2⟩) | ⟨rfl,rfl⟩)
  ·exact .inl h1
  ·exact .inr ⟨e,z,.inl hz,h2⟩
  ·exact .inr ⟨rfl,_,.inr rfl,rfl,rfl⟩
 ·rintro (h1 | ⟨e,z,hz | rfl,h2⟩)
  ·exact .inl (.inl h1)
  ·exact .inl (.inr ⟨e,z,hz,h2⟩)
  ·exact .inr ⟨e,by have:=h2.2;dsimp only at this;omega⟩
theorem MatTo.zero (U:Nat→List Hp) (lb:Txt):MatTo U lb 0 0 none:=fun i j _ _ => by
 constructor
 ·intro h;cases h
 ·rintro (⟨h,_⟩ | ⟨_,y,hy,_⟩)
  ·omega
  ·simp at hy
def MatP (w:World) (G:Gr) (lb:Txt) (side:Nat) (e:Ending) (w':World):Prop:=∃ q b,e = .returned (.tuple #[.pointer (some ⟨q,0,none⟩),.int .i64 0])∧QFresh w.heap.size q side b w'∧Below w.heap.size w w'∧MatOf G lb b
theorem matrix_gr (w:World) (F:Nat→Prop) (p:Nat) (G:Gr) (h:GrS w F p G) (ok:GOk G) (lb:Txt) (side:Nat) (hs:G.N.length ≤ side) (hs1:1 ≤ side) (hs2:side ≤ 1024) :
  Calls Tryz.prog 59 #[.pointer (some ⟨p,0,none⟩),.string lb,.int .i64 (side:Int)] w (MatP w G lb side):=by
 obtain ⟨U,V,⟨O,⟨r,nv,ov,iv,fo,fi⟩,hg,-⟩,ho⟩:=h
 have hf:=ok.few
 have q1:w.cell? ⟨p,1,none⟩ = some (.map (some r)):=hg.blk.cell 1
 obtain ⟨nA,nc,e1,-,-⟩:=own_form hg.rn
 obtain ⟨oA,oc,e2,-,-⟩:=own_form hg.ro
 dsimp only at e1 e2
 subst e1
 subst e2
 obtain ⟨n,hn⟩:∃ n,G.N.length = n:=⟨_,rfl⟩
 have hn32:n ≤ 32:=by omega
 rw [hn] at hs
 have H:=Lib.hid (And.intro hg (And.intro ho (And.intro ok hn)))
 have hnew:=qnew_any w side hs1 hs2
 have hlt:¬ (side < n):=by omega
 clear hg ho ok hn hf
 go_enter Tryz.func59,Tryz.ntmps59
 go_wp2_with fail
 refine (is_any w p r q1).mono ?_
 rintro e w' ⟨rfl,hw⟩
 subst w'
 go_wp2_with fail
 refine hnew.mono ?_
 clear hnew q1
 rintro e W1 ⟨q,rfl,fr1,b1⟩
 have HF1:=Lib.hid fr1
 have HB1:=Lib.hid b1
 have hg1:=H.out.1.upd (Upd.of_below b1 (fun _ => False)) (fun _ _ => id)
 have q0:W1.cell? ⟨p,0,none⟩ = some (.slice nA n nc):=by rw [← H.out.2.2.2];exact hg1.blk.cell 0
 have q2:W1.cell? ⟨p,2,none⟩ = some (.slice oA n oc):=by rw [← H.out.2.2.2];exact hg1.blk.cell 2
 clear fr1 b1 hg1
 go_wp2_with fail
 clear q0 q2
 go_loopw [38] (fun i wr => ∃ k:Nat,k ≤ n∧i = .int .i64 k∧Hid (∃ b,QFresh w.heap.size q side b wr∧MatTo U lb k 0 b)∧Hid (Below w.heap.size w wr)) (fun i _ => n - (intOf i).toNat)
 case atStart => exact ⟨0,Nat.zero_le _,rfl,Lib.hid ⟨none,HF1.out,MatTo.zero U lb⟩,HB1⟩
 case round =>
  obtain ⟨k,hk,rfl,hq,hbw⟩:=hrel
  by_cases hkn:k < n
  ·have hknI:(k:Int) < (n:Int):=by omega
   have hkw:IntKind.i64.wrap ((k:Int) + 1) = (k:Int) + 1:=IntWalk.i64_in _ (by omega)
   have hkN:k < G.N.length:=by rw [H.out.2.2.2];exact hkn
   have hg:=H.out.1.upd (Upd.of_below hbw.out (fun _ => False)) (fun _ _ => id)
   obtain ⟨og,oc',e,-,co,-⟩:=row_get hg.ro hkN
   dsimp only at e co
   injection e with e e1 e2
   subst e
   clear e1 e2
   obtain ⟨A,cA,eA,-,-⟩:=own_form (hg.fo k)
   dsimp only at eA
   have hrow:=H.out.1.fo k
   dsimp only at hrow
   rw [eA] at co hrow
   obtain ⟨m,hm⟩:∃ m,(U k).length = m:=⟨_,rfl⟩
   have hm256:m ≤ 256:=by rw [← hm];exact Nat.le_trans (H.out.2.1.len k).1 H.out.2.2.1.few.2
   rw [hm] at co
   have HM:=Lib.hid (And.intro hm (RowR.of_own hrow))
   clear hg eA hrow hm
   go_wp2_with fail
   clear co
   generalize wr = W5 at hq hbw ⊢
   go_loopw [45] (fun i wr => ∃ t:Nat,t ≤ m∧i = .int .i64 t∧Hid (∃ b,QFresh w.heap.size q side b wr∧MatTo U lb k t b)∧Hid (Below w.heap.size w wr)) (fun i _ => m - (intOf i).toNat)
   case atStart => exact ⟨0,Nat.zero_le _,rfl,hq,hbw⟩
   case round =>
    obtain ⟨t,ht,rfl,hqt,hbt⟩:=hrel
    by_cases htm:t < m
    ·have htmI:(t:Int) < (m:Int):=by omega
     have htw:IntKind.i64.wrap ((t:Int) + 1) = (t:Int) + 1:=IntWalk.i64_in _ (by omega)
     obtain ⟨⟨s,nd⟩,hx⟩:∃ x,(U k)[t]? = some x:=⟨(U k)[t]'(by rw [HM.out.1];exact htm),List.getElem?_eq_getElem _⟩
     obtain ⟨ed,hed,-,hnd⟩:=(H.out.2.1.um k _).1 (List.mem_of_getElem? hx)
     injection hnd with hs0 hnd
     clear hs0
     have hqn:=idxT_lt (H.out.2.2.1.ends ed hed).2
     rw [H.out.2.2.2] at hqn
     generalize idxT G.N ed.to = v at hnd hqn
     subst hnd
     clear hed
     obtain ⟨ab,ao,rfl,y0,y1⟩:=(HM.out.2.below hbt.out).hp hx
     dsimp only at y0 y1
     have k6:=Blk.new wr 103 #[.string s,.int .i64 (v:Int)]
     have u6:Below wr.heap.size wr (wr.alloc (.cells #[.string s,.int .i64 (v:Int)] 103)):=(Below.refl _ _).alloc (Nat.le_refl _) _
     obtain ⟨b,hb1,hb2⟩:=hqt.out
     have H6:=Lib.hid (And.intro k6 (And.intro (hb1.below u6) (And.intro hb2 (And.intro (hbt.out.trans (u6.mono hbt.out.size)) hx))))
     clear k6 u6 hb1 hb2 hqt hbt hx
     go_upto_region 12 with (fail)
     generalize wr.alloc (.cells #[.string s,.int .i64 (v:Int)] 103) = W6 at H6 ⊢
     clear y0 y1
     have y0:W6.cell? ⟨wr.heap.size,0,none⟩ = some (.string s):=H6.out.1.cell 0
     have y1:W6.cell? ⟨wr.heap.size,1,none⟩ = some (.int .i64 (v:Int)):=H6.out.1.cell 1
     by_cases hsl:s = lb
     ·subst hsl
      obtain ⟨F6,g6,n6⟩:=H6.out.2.1
      have hset:=qset_any W6 F6 q side b g6 k v (by omega) (by omega) (by omega) (by omega)
      have HW:=Lib.hid g6.wd
      have HN6:=Lib.hid n6
      clear g6 n6
      go_wp2_with fail
      refine hset.mono ?_
      clear hset y0 y1
      rintro e W7 ⟨rfl,hto⟩
      have hst:=QFresh.step HN6.out H6.out.2.2.2.1.size hto
      have HF:=Lib.hid hst
      clear hto hst
      go_wp2
      go_roundw
      case rel => exact ⟨t + 1,by omega,by go_num,Lib.hid ⟨_,HF.out.1,H6.out.2.2.1.put HW.out (by omega) H6.out.2.2.2.2⟩,Lib.hid (H6.out.2.2.2.1.trans HF.out.2)⟩
      case measure => simp [intOf];omega
     ·have hsb:(ByteArray.toList s == ByteArray.toList lb) = false:=by rw [txt_beq];exact decide_eq_false hsl
      go_wp2
      go_roundw
      case rel => exact ⟨t + 1,by omega,by go_num,Lib.hid ⟨b,H6.out.2.1,H6.out.2.2.1.skip H6.out.2.2.2.2 hsl⟩,Lib.hid H6.out.2.2.2.1⟩
      case measure => simp [intOf];omega
    ·obtain rfl:t = m:=by omega
     go_wp2
     go_roundw
     case rel => exact ⟨k + 1,by omega,by go_num,Lib.hid (by
      obtain ⟨b,h1,h2⟩:=hqt.out
      rw [← HM.out.1] at h2
      exact ⟨b,h1,h2.next⟩),hbt⟩
     case measure => simp [intOf];omega
  ·obtain rfl:k = n:=by omega
   have FIN:=Lib.hid (show MatP w G lb side (.returned (.tuple #[.pointer (some ⟨q,0,none⟩),.int .i64 0])) wr from by
    obtain ⟨b,h1,h2⟩:=hq.out
    rw [← H.out.2.2.2] at h2
    exact ⟨q,b,rfl,h1,hbw.out,h2.all H.out.2.1 H.out.2.2.1⟩)
   clear hq hbw
   go_wp2
   refine bodyPost_ret (v:=.tuple #[.pointer (some ⟨q,0,none⟩),.int .i64 0]) (by simp [results,Tryz.f59,go_sem]) rfl FIN.out
end Go.Proofs.YtddffnonlmfhdaaGreatDoor
namespace Go.Proofs.YtddffnonlmfhdaaGreatDoor
open Go.RowKit Go.Shelf
def ElG (G:Gr) (labels:List Txt) (k:Int) (i j:Nat):Prop:=∃ lb,labels[k.toNat]? = some lb∧∃ x ∈ G.X,x.lb = lb∧G.N[i]? = some x.fr∧G.N[j]? = some x.to
theorem ElG.lt {G:Gr} {labels:List Txt} {k:Int} {i j:Nat} (h:ElG G labels k i j):i < G.N.length∧j < G.N.length:=by
 obtain ⟨lb,-,x,-,-,h1,h2⟩:=h
 exact ⟨(List.getElem?_eq_some_iff.1 h1).1,(List.getElem?_eq_some_iff.1 h2).1⟩
theorem QuS.wdO {w:World} {F:Nat→Prop} {p side:Nat} {b:Option (List Nat)} (h:QuS w F p side b):WdO b:=by
 obtain ⟨O,dep,cnt,m,last,L,pv,lv,hq,ok,-⟩:=h
 exact fun r e => (ok.is r e).2.2.2.2
theorem diag_gives {El:Int→Nat→Nat→Prop} {n:Nat} (hn:n ≤ 64) {p:Pr} (hp:p.body = []):Gives El n p (joinO none (cornW diag n)):=by
 have hd:Wd diag:=diag_wd
 have hc:=cornW_wd hd n
 refine ⟨WdO.joinO (b:=none) (fun r e => by cases e) hc,?_⟩
 rw [hp]
 intro i j hi
 rw [bit_joinO (b:=none) zero64_wd hc hi,bit_corn hi,bit_diag hi]
 show (false || _) = true ↔ _
 simp only [Bool.false_or,Bool.and_eq_true,decide_eq_true_eq]
 constructor
 ·rintro ⟨rfl,h1,-⟩;exact ⟨rfl,h1⟩
 ·rintro ⟨rfl,h1⟩;exact ⟨rfl,h1,h1⟩
theorem mat_gives {G:Gr} {labels:List Txt} {n:Nat} {p:Pr} {s:Sy} {lb:Txt} {m:Option (List Nat)} (hm:WdO m) (hp:p.body = [s]) (hl:labels[s.at_.toNat]? = some lb) (h:MatOf G lb m):Gives (ElG G labels) n p m:=by
 refine ⟨hm,?_⟩
 rw [hp]
 intro i j hi hj
 rw [h i j hi hj]
 constructor
 ·rintro ⟨x,hx,e⟩;exact ⟨lb,hl,x,hx,e⟩
 ·rintro ⟨lb',hl',x,hx,e⟩
  rw [hl] at hl'
  obtain rfl:=Option.some.inj hl'
  exact ⟨x,hx,e⟩
def FirstQ (w:World) (F:Nat→Prop) (p side nodes nts:Nat) (B:Mats) (El:Int→Nat→Nat→Prop) (pr:Pr) (e:Ending) (w':World):Prop:=
 ∃ m,Gives El nodes pr m∧e = .returned (.bool (moreQ (B pr.head.toNat) m))∧ClTo w F p side nodes nts (upM B pr.head.toNat (joinQ (B pr.head.toNat) m)) w'
theorem first0_any (w:World) (F:Nat→Prop) (p side nts:Nat) (B:Mats) (h:ClS w F p side side nts B) (a:Nat) (A:Option Addr) (cap:Nat) (ha:a < nts) (hs1:1 ≤ side) (hs64:side ≤ 64) (El:Int→Nat→Nat→Prop) (lv gv:Value) :
  Calls Tryz.prog 110 #[.pointer (some ⟨p,0,none⟩),.agg #[.int .i64 (a:Int),.slice A 0 cap],lv,gv] w (FirstQ w F p side side nts B El ⟨(a:Int),[]⟩):=by
 obtain ⟨nodes,hnodes⟩:∃ nodes,side = nodes:=⟨_,rfl⟩
 have hnI:(1:Int) ≤ (nodes:Int):=by omega
 rw [show ClS w F p side side nts B = ClS w F p side nodes nts B by rw [← hnodes]] at h
 have GG:=Lib.hid (show ∀ e w',(∃ m,Gives El nodes ⟨(a:Int),[]⟩ m∧e = .returned (.bool (moreQ (B a) m))∧ClTo w F p side nodes nts (upM B a (joinQ (B a) m)) w')→FirstQ w F p side side nts B El ⟨(a:Int),[]⟩ e w' from fun e w' h => by
  subst hnodes
  exact h)
 obtain ⟨O,pv,ad,hi,rfl⟩:=h
 obtain ⟨g,gc,rfl,-,-,-,-,-⟩:=own_cells hi.rows (by omega)
 have b1:Below w.heap.size w (w.alloc (.cells #[.int .i64 (a:Int),.slice A 0 cap] 71)):=(Below.refl _ _).alloc (Nat.le_refl _) _
 have k1:=Blk.new w 71 #[.int .i64 (a:Int),.slice A 0 cap]
 have hi1:=hi.upd (Upd.of_below b1 (fun _ => False)) (fun _ _ => id)
 have SF:∀ W,Below (w.alloc (.cells #[.int .i64 (a:Int),.slice A 0 cap] 71)).heap.size (w.alloc (.cells #[.int .i64 (a:Int),.slice A 0 cap] 71)) W →
   W.cell? ⟨p,1,none⟩ = some (.slice (some ⟨g,0,none⟩) nts gc)∧W.cell? ⟨w.heap.size,0,none⟩ = some (.int .i64 (a:Int))∧W.cell? ⟨g,a,none⟩ = some (.pointer (some ⟨ad a,0,none⟩)):=fun W hW => by
  have hi2:=hi1.upd (Upd.of_below hW (fun _ => False)) (fun _ _ => id)
  have k2:=k1.upd (Upd.of_below hW (fun _ => False)) id
  obtain ⟨g',c',e,-,-,-,-,hg⟩:=own_cells hi2.rows (by omega)
  injection e with e
  injection e with e
  injection e with e
  subst e
  exact ⟨hi2.blk.cell 1,k2.cell 0,(hg a _ (ptC_at ha)).1⟩
 have HX:=Lib.hid (And.intro hi1 b1)
 have HS:=Lib.hid SF
 have haI:(a:Int) < (nts:Int):=by omega
 have qn:(w.alloc (.cells #[.int .i64 (a:Int),.slice A 0 cap] 71)).cell? ⟨p,0,none⟩ = some (.int .i64 (nodes:Int)):=hi1.blk.cell 0
 have qs:(w.alloc (.cells #[.int .i64 (a:Int),.slice A 0 cap] 71)).cell? ⟨w.heap.size,1,none⟩ = some (.slice A 0 cap):=k1.cell 1
 have hone:=pone_any (w.alloc (.cells #[.int .i64 (a:Int),.slice A 0 cap] 71)) nodes (by omega) (by omega)
 have HV:=Lib.hid (diag_gives (El:=El) (n:=nodes) (by omega) (p:=⟨(a:Int),[]⟩) rfl)
 have HN:=Lib.hid hnodes
 clear hi b1 k1 hi1 SF hnodes
 go_enter Tryz.func110,Tryz.ntmps110
 go_wp2_with fail
 refine hone.mono ?_
 clear hone
 rintro e W2 ⟨q,rfl,hfr,b2⟩
 rw [← HN.out] at hfr
 have HQ:=Lib.hid hfr
 have HG:Hid (Gives El nodes ⟨(a:Int),[]⟩ (joinO none (cornW diag side))):=Lib.hid (by rw [HN.out];exact HV.out)
 generalize joinO none (cornW diag side) = m at HQ HG
 have B2:=Lib.hid b2
 clear hfr b2
 generalize w.alloc (.cells #[.int .i64 (a:Int),.slice A 0 cap] 71) = W1 at HX HS B2 HQ qn qs ⊢
 generalize w.heap.size = z at HS qs ⊢
 go_upto_region 8 with (fail)
 have HB3:=Lib.hid (show Below W2.heap.size W2 W2.drew from (Below.refl _ _).drew)
 have hS:=HS.out W2.drew (B2.out.trans (HB3.out.mono B2.out.size))
 refine wp_region_late (fun W:World => W.cell? ⟨p,1,none⟩ = some (.slice (some ⟨g,0,none⟩) nts gc)∧W.cell? ⟨z,0,none⟩ = some (.int .i64 (a:Int))∧W.cell? ⟨g,a,none⟩ = some (.pointer (some ⟨ad a,0,none⟩))) (lateFrom 9) (by kernel_rfl) ?_
 generalize W2.drew = W3 at HB3 hS ⊢
 intro hd
 (refine late_takeA (i:=0) rfl hd hS ?_;clear hd;intro hd;(try simp only [Act.put,gA,gZ,sA,sZ,sS]))
 (refine late_takeA (i:=1) rfl hd hS ?_;clear hd;intro hd;(try simp only [Act.put,gA,gS,gZ,sA,sZ,sS]))
 (refine late_takeA (i:=2) rfl hd hS ?_;clear hd;intro hd;(try simp only [Act.put,gA,gS,gZ,sA,sZ,sS]))
 (refine late_takeA (i:=3) rfl hd hS ?_;clear hd;intro hd;(try simp only [Act.put,gA,gS,gZ,sA,sZ,sS]))
 (refine late_takeA (i:=4) rfl hd hS ?_;clear hd;intro hd;(try simp only [Act.put,gA,gS,gZ,sA,sZ,sS]))
 (refine late_takeA (i:=5) rfl hd hS ?_;clear hd;intro hd;(try simp only [Act.put,gA,gS,gZ,sA,sZ,sS]))
 (refine late_takeA (i:=6) rfl hd hS ?_;clear hd;intro hd;(try simp only [Act.put,gA,gS,gZ,sA,sZ,sS]))
 (refine late_takeA (i:=7) rfl hd hS ?_;clear hd;intro hd;(try simp only [Act.put,gA,gS,gZ,sA,sZ,sS]))
 (refine late_takeA (i:=8) rfl hd hS ?_;clear hd;intro hd;(try simp only [Act.put,gA,gS,gZ,sA,sZ,sS]))
 have hint:Hid (∃ Fa Fm,QuS W3 Fa (ad a) side (B a)∧QuS W3 Fm q side m∧(∀ q,Fa q→O q = some (.mat a))∧ClI W3 O p side nodes nts (.slice (some ⟨g,0,none⟩) nts gc) ad B):=Lib.hid (by
  have hi3:=HX.out.1.upd (Upd.of_below (B2.out.trans (HB3.out.mono B2.out.size)) (fun _ => False)) (fun _ _ => id)
  obtain ⟨Fa,a1,a2⟩:=hi3.mats a ha
  obtain ⟨Fm,m1,-⟩:=HQ.out
  exact ⟨Fa,Fm,a1,m1.below HB3.out,a2,hi3⟩)
 obtain ⟨Fa,Fm,a1,m1,a2,i3⟩:=hint.out
 have hcon:=qjoin_any W3 Fa Fm (ad a) q side (B a) m a1 m1
 have HI:=Lib.hid (And.intro i3 a2)
 clear a1 m1 i3 a2 hint hS
 refine late_run hd (L:=[9]) (by kernel_rfl) (by decide) (fun ix hix hd2 => ?_)
 clear hd
 have hd:=hd2
 clear hd2
 simp only [List.mem_cons,List.not_mem_nil,or_false] at hix
 subst hix
 refine late_do (S:=(fun W:World => W.cell? ⟨p,1,none⟩ = some (.slice (some ⟨g,0,none⟩) nts gc)∧W.cell? ⟨z,0,none⟩ = some (.int .i64 (a:Int))∧W.cell? ⟨g,a,none⟩ = some (.pointer (some ⟨ad a,0,none⟩)))) (late:=lateFrom 9) rfl rfl (fun K hK => ?_)
 go_simp
 refine hcon.mono ?_
 clear hcon
 rintro e W4 ⟨rfl,hto⟩
 have FIN:=Lib.hid (show ClTo w (fun q => O q ≠ none) p side nodes nts (upM B a (joinQ (B a) m)) W4 from (ClTo.after (HX.out.2.trans ((B2.out.trans (HB3.out.mono B2.out.size)).mono HX.out.2.size)) (HI.out.1.turn HI.out.2 hto)))
 clear hto
 refine hK _ _ (fun h _ => absurd h (by decide)) ?_
 clear hK K
 (try simp only [Act.put,gA,gS,gZ,sA,sZ,sS])
 (refine late_take0 (i:=10) (v:=?_) rfl (by kernel_rfl) hd (fun _ _ d _ _ h => by cases d <;> exact h) (by first | with_reducible rfl | kernel_rfl) ?_ ?_;rotate_left;(focus (intro wS;go_simp;(try with_reducible rfl);done));clear hd;intro hd;(try simp only [Act.put,gA,gS,gZ,sA,sZ,sS]))
 (refine late_take0 (i:=11) (v:=?_) rfl (by kernel_rfl) hd (fun _ _ d _ _ h => by cases d <;> exact h) (by first | with_reducible rfl | kernel_rfl) ?_ ?_;rotate_left;(focus (intro wS;go_simp;(try with_reducible rfl);done));clear hd;intro hd;(try simp only [Act.put,gA,gS,gZ,sA,sZ,sS]))
 (refine late_take0 (i:=12) (v:=?_) rfl (by kernel_rfl) hd (fun _ _ d _ _ h => by cases d <;> exact h) (by first | with_reducible rfl | kernel_rfl) ?_ ?_;rotate_left;(focus (intro wS;go_simp;(try with_reducible rfl);done));clear hd;intro hd;(try simp only [Act.put,gA,gS,gZ,sA,sZ,sS]))
 (refine late_take0 (i:=13) (v:=?_) rfl (by kernel_rfl) hd (fun _ _ d _ _ h => by cases d <;> exact h) (by first | with_reducible rfl | kernel_rfl) ?_ ?_;rotate_left;(focus (intro wS;go_simp;(try with_reducible rfl);done));clear hd;intro hd;(try simp only [Act.put,gA,gS,gZ,sA,sZ,sS]))
 (refine late_take0 (i:=14) (v:=?_) rfl (by kernel_rfl) hd (fun _ _ d _ _ h => by cases d <;> exact h) (by first | with_reducible rfl | kernel_rfl) ?_ ?_;rotate_left;(focus (intro wS;go_simp;(try with_reducible rfl);done));clear hd;intro hd;(try simp only [Act.put,gA,gS,gZ,sA,sZ,sS]))
 refine late_done (by kernel_rfl) ?_
 go_wp2
 go_ret
 exact GG.out _ _ ⟨m,HG.out,rfl,FIN.out⟩
theorem first2_any (w:World) (p:Nat) (hd:Int) (A:Option Addr) (len cap:Nat) (hl:2 ≤ len) (lv gv:Value) :
  Calls Tryz.prog 110 #[.pointer (some ⟨p,0,none⟩),.agg #[.int .i64 hd,.slice A len cap],lv,gv] w (fun e w' => e = .returned (.bool false)∧Below w.heap.size w w'):=by
 have b1:Below w.heap.size w (w.alloc (.cells #[.int .i64 hd,.slice A len cap] 71)):=(Below.refl _ _).alloc (Nat.le_refl _) _
 have k1:=Blk.new w 71 #[.int .i64 hd,.slice A len cap]
 have q1:(w.alloc (.cells #[.int .i64 hd,.slice A len cap] 71)).cell? ⟨w.heap.size,1,none⟩ = some (.slice A len cap):=k1.cell 1
 have z0:((len:Int) == 0) = false:=by simp;omega
 have z1:((len:Int) == 1) = false:=by simp;omega
 have H:=Lib.hid b1
 clear b1 k1
 go_enter Tryz.func110,Tryz.ntmps110
 go_wp2
 go_ret
 exact ⟨rfl,H.out⟩
end Go.Proofs.YtddffnonlmfhdaaGreatDoor
