/- azimov: Check; azimov: there; a closure that takes a matrix more; azimov: New; azimov: is, Has, Len; azimov: Len; Pairs where it refuses; layer 18's laws: small, a grammar of the law's own. (Written by mkAyG.py.); layer 18's laws: the closure of the law's own grammar over its own graph: plain; azimov: Pairs where it refuses; Facts without a closure; layer 18's laws: awake. -/
import Derived.Test.YtddffnonlmfhdaaGreatDoorW14
import Derived.Deep.CutRange
import Derived.Test.YtddffnonlmfhdaaGreatDoorW08
import Derived.Test.YtddffnonlmfhdaaGreatDoorW10
set_option linter.unusedVariables false
set_option linter.unusedSimpArgs false
set_option maxHeartbeats 16000000
set_option maxRecDepth 100000
namespace Go.Proofs.YtddffnonlmfhdaaGreatDoor
open Go.RowKit Go.Shelf
def achkI (nts:Int) (PV:List Pv) (labels:List Txt):Int:=
 if 16 < labels.length ∨ nts < 1 ∨ 512 < nts ∨ 8192 < PV.length then 2 else if upB ltT labels = true∧∀ v ∈ PV,shapeOf v.pr nts labels.length = true then 0 else 2
theorem acheck_any (w:World) (nts:Int) (PA:Option Addr) (pc:Nat) (PV:List Pv) (hP:PvR w PA PV) (LA:Option Addr) (cl:Nat) (labels:List Txt) (hlab:RowR w LA (txtCells labels)) :
  Calls Tryz.prog 26 #[.agg #[.int .i64 nts,.slice PA PV.length pc],.slice LA labels.length cl] w (Sam w (.int .i64 (achkI nts PV labels))):=by
 obtain ⟨m,hm⟩:∃ m,PV.length = m:=⟨_,rfl⟩
 obtain ⟨l,hl⟩:∃ l,labels.length = l:=⟨_,rfl⟩
 have b1:Below w.heap.size w (w.alloc (.cells #[.int .i64 nts,.slice PA m pc] 50)):=(Below.refl _ _).alloc (Nat.le_refl _) _
 have k1:=Blk.new w 50 #[.int .i64 nts,.slice PA m pc]
 have q0:(w.alloc (.cells #[.int .i64 nts,.slice PA m pc] 50)).cell? ⟨w.heap.size,0,none⟩ = some (.int .i64 nts):=k1.cell 0
 have q1:(w.alloc (.cells #[.int .i64 nts,.slice PA m pc] 50)).cell? ⟨w.heap.size,1,none⟩ = some (.slice PA m pc):=k1.cell 1
 have hv:achkI nts PV labels = if 16 < l ∨ nts < 1 ∨ 512 < nts ∨ 8192 < m then 2 else if upB ltT labels = true∧∀ v ∈ PV,shapeOf v.pr nts l = true then 0 else 2:=by
  unfold achkI
  rw [hm,hl]
 rw [hm,hl]
 have HM:=Lib.hid (And.intro hm hl)
 have H:=Lib.hid (And.intro b1 (And.intro k1 (And.intro hP hlab)))
 have HV:=Lib.hid hv
 clear b1 k1 hP hlab hm hl hv
 by_cases h1:16 < l
 ·have FIN:=Lib.hid (show achkI nts PV labels = 2 from by rw [HV.out,if_pos (.inl h1)])
  have h1I:(16:Int) < (l:Int):=by omega
  go_enter Tryz.func26,Tryz.ntmps26
  go_wp2
  go_ret
  exact ⟨by rw [FIN.out];rfl,H.out.1⟩
 ·have h1I:¬ (16:Int) < (l:Int):=by omega
  by_cases h2:nts < 1
  ·have FIN:=Lib.hid (show achkI nts PV labels = 2 from by rw [HV.out,if_pos (.inr (.inl h2))])
   go_enter Tryz.func26,Tryz.ntmps26
   go_wp2
   go_ret
   exact ⟨by rw [FIN.out];rfl,H.out.1⟩
  ·by_cases h3:512 < nts
   ·have FIN:=Lib.hid (show achkI nts PV labels = 2 from by rw [HV.out,if_pos (.inr (.inr (.inl h3)))])
    go_enter Tryz.func26,Tryz.ntmps26
    go_wp2
    go_ret
    exact ⟨by rw [FIN.out];rfl,H.out.1⟩
   ·by_cases h4:8192 < m
    ·have FIN:=Lib.hid (show achkI nts PV labels = 2 from by rw [HV.out,if_pos (.inr (.inr (.inr h4)))])
     have h4I:(8192:Int) < (m:Int):=by omega
     go_enter Tryz.func26,Tryz.ntmps26
     go_wp2
     go_ret
     exact ⟨by rw [FIN.out];rfl,H.out.1⟩
    ·have h4I:¬ (8192:Int) < (m:Int):=by omega
     have HV2:=Lib.hid (show achkI nts PV labels = if upB ltT labels = true∧∀ v ∈ PV,shapeOf v.pr nts l = true then 0 else 2 from by rw [HV.out,if_neg (by omega)])
     clear HV
     go_enter Tryz.func26,Tryz.ntmps26
     go_wp2
     generalize w.alloc (.cells #[.int .i64 nts,.slice PA m pc] 50) = W1 at H q0 q1 ⊢
     clear q0 q1
     go_loopw [5] (fun i wr => ∃ k:Nat,(k ≤ l∧i = .int .i64 ((k:Int) + 1))∧Hid (Below W1.heap.size W1 wr)∧Hid (∀ j,j < k→∀ a b,labels[j]? = some a→labels[j + 1]? = some b→ltT a b = true)) (fun i _ => l + 1 - (intOf i).toNat)
     case atStart => exact ⟨0,⟨Nat.zero_le _,rfl⟩,Lib.hid (Below.refl _ _),Lib.hid (fun j hj => by omega)⟩
     case round =>
      obtain ⟨k,⟨hk,rfl⟩,hb,hall⟩:=hrel
      by_cases hlt:k + 1 < l
      ·have hkw:IntKind.i64.wrap (k:Int) = (k:Int):=IntWalk.i64_in _ (by omega)
       have hkw1:IntKind.i64.wrap ((k:Int) + 1 - 1) = (k:Int):=by rw [IntWalk.i64_in _ (by omega)];omega
       have hkw2:IntKind.i64.wrap ((k:Int) + 1 + 1) = (k:Int) + 1 + 1:=IntWalk.i64_in _ (by omega)
       have hltI:(k:Int) + 1 < (l:Int):=by omega
       have hltI2:(k:Int) < (l:Int):=by omega
       have ht:((k:Int) + 1).toNat = k + 1:=by omega
       have hn0:(0:Int) ≤ (k:Int) + 1:=by omega
       have h0:=(H.out.2.2.2.below3 H.out.1).below3 (hb.out)
       obtain ⟨x,hx⟩:∃ x,labels[k]? = some x:=⟨_,List.getElem?_eq_getElem (by rw [HM.out.2];omega)⟩
       obtain ⟨y,hy⟩:∃ y,labels[k + 1]? = some y:=⟨_,List.getElem?_eq_getElem (by rw [HM.out.2];omega)⟩
       obtain ⟨ab,ao,rfl,x0⟩:=h0.txt hx
       obtain ⟨_,_,e1,y0⟩:=h0.txt hy
       injection e1 with e1;injection e1 with e1 e2;subst e1;subst e2
       have HXY:=Lib.hid (And.intro hx hy)
       clear h0 hx hy
       go_upto_region 6 with (fail)
       refine wp_region_ord (fun w' => w'.cell? ⟨ab,ao + k,none⟩ = some (.string x)∧w'.cell? ⟨ab,ao + (k + 1),none⟩ = some (.string y)) 11 [(0,true),(1,true),(2,true),(3,true),(4,true),(5,true),(6,true),(7,true),(8,true),(9,false),(10,true)] (by kernel_rfl) (by kernel_rfl) (fun _ _ d _ _ h => by cases d <;> exact h) ⟨x0,y0⟩ ?_
       iterate 9 (refine ord_takeA rfl ?_;(try simp only [Act.put,gA,gS,gZ,sA,sZ,sS]))
       refine ord_do rfl rfl (fun K hK => ?_)
       go_simp
       refine (compare_any x y _).mono ?_
       rintro e w2 ⟨rfl,rfl⟩
       have b2:Below wr.heap.size wr wr.drew:=(Below.refl _ _).drew
       have hcmp:=cmpT_lt x y
       obtain ⟨v,hv⟩:∃ v,cmpT x y = v:=⟨_,rfl⟩
       rw [hv] at hcmp ⊢
       clear hv
       refine hK _ _ (fun _ => ⟨x0,y0⟩) ?_
       clear hK K
       (try simp only [Act.put,gA,gS,gZ,sA,sZ,sS])
       have HB:=Lib.hid (hb.out.trans (b2.mono hb.out.size))
       have HC:=Lib.hid hcmp
       clear hcmp b2
       by_cases hv:v < 0
       ·have hv1:decide (0 ≤ v) = false:=by simpa using hv
        have hlt2:ltT x y = true:=by rw [← HC.out];simpa using hv
        have HL:=Lib.hid hlt2
        clear hlt2
        (refine ord_takeA rfl ?_;(try simp only [Act.put,gA,gS,gZ,sA,sZ,sS]))
        refine ord_done ?_
        go_wp2
        go_roundw
        case rel => exact ⟨k + 1,⟨by omega,by go_num⟩,HB,Lib.hid (fun j hj a b ha hb => by
         rcases Nat.lt_succ_iff_lt_or_eq.1 hj with h | rfl
         ·exact hall.out j h a b ha hb
         ·rw [HXY.out.1] at ha
          rw [HXY.out.2] at hb
          injection ha with ha
          injection hb with hb
          subst ha;subst hb
          exact HL.out)⟩
        case measure => simp [intOf];omega
       ·have hv1:decide (0 ≤ v) = true:=by simpa using hv
        have hlt2:ltT x y = false:=by rw [← HC.out];simpa using hv
        have FIN:=Lib.hid (show achkI nts PV labels = 2 from by
         rw [HV2.out,if_neg]
         intro h
         rw [up_false HXY.out.1 HXY.out.2 hlt2] at h
         cases h.1)
        clear hlt2
        (refine ord_takeA rfl ?_;(try simp only [Act.put,gA,gS,gZ,sA,sZ,sS]))
        refine ord_done ?_
        go_wp2
        go_ret
        exact ⟨by rw [FIN.out];rfl,H.out.1.trans (HB.out.mono H.out.1.size)⟩
      ·have hgeI:(l:Int) ≤ (k:Int) + 1:=by omega
       have HUP:=Lib.hid (show upB ltT labels = true from (upB_iff labels).2 (fun i a b ha hb' => by
        have:=(List.getElem?_eq_some_iff.1 hb').1
        have:=HM.out.2
        exact hall.out i (by omega) a b ha hb'))
       have k2:=H.out.2.1.upd (Upd.of_below hb.out (fun _ => False)) id
       have q0:wr.cell? ⟨w.heap.size,0,none⟩ = some (.int .i64 nts):=k2.cell 0
       have q1:wr.cell? ⟨w.heap.size,1,none⟩ = some (.slice PA m pc):=k2.cell 1
       have HB0:=Lib.hid hb.out
       clear k2 hall hb
       go_wp2
       generalize wr = W2 at HB0 q0 q1 ⊢
       clear q1
       go_loopw [47] (fun i wz => ∃ t:Nat,t ≤ m∧i = .int .i64 (t:Int)∧Hid (Below W2.heap.size W2 wz)∧Hid (∀ j,j < t→∀ v,PV[j]? = some v→shapeOf v.pr nts l = true)) (fun i _ => m - (intOf i).toNat)
       case atStart => exact ⟨0,Nat.zero_le _,rfl,Lib.hid (Below.refl _ _),Lib.hid (fun j hj => by omega)⟩
       case round =>
        obtain ⟨t,ht,rfl,hb,hall⟩:=hrel
        have bw:=H.out.1.trans ((HB0.out.trans (hb.out.mono HB0.out.size)).mono H.out.1.size)
        clear q0
        by_cases hlt2:t < m
        ·have htI:(t:Int) < (m:Int):=by omega
         obtain ⟨v,hv⟩:∃ v,PV[t]? = some v:=⟨_,List.getElem?_eq_getElem (by rw [HM.out.1];omega)⟩
         have hp:=H.out.2.2.1.below bw
         obtain ⟨pb,po,rfl,c0,c1⟩:=hp.1.pv hv
         have hrow:=hp.2 v (List.mem_of_getElem? hv)
         have q0:wr.cell? ⟨w.heap.size,0,none⟩ = some (.int .i64 nts):=(H.out.2.1.upd (Upd.of_below (HB0.out.trans (hb.out.mono HB0.out.size)) (fun _ => False)) id).cell 0
         have b1:Below wr.heap.size wr (wr.alloc (.cells #[.int .i64 v.pr.head,.slice v.adr v.pr.body.length v.cap] 71)):=(Below.refl _ _).alloc (Nat.le_refl _) _
         have kb:=Blk.new wr 71 #[.int .i64 v.pr.head,.slice v.adr v.pr.body.length v.cap]
         have e0:(wr.alloc (.cells #[.int .i64 v.pr.head,.slice v.adr v.pr.body.length v.cap] 71)).cell? ⟨wr.heap.size,0,none⟩ = some (.int .i64 v.pr.head):=kb.cell 0
         have e1:(wr.alloc (.cells #[.int .i64 v.pr.head,.slice v.adr v.pr.body.length v.cap] 71)).cell? ⟨wr.heap.size,1,none⟩ = some (.slice v.adr v.pr.body.length v.cap):=kb.cell 1
         have q01:=cell_keep b1 q0
         have hcon:=shape_any (wr.alloc (.cells #[.int .i64 v.pr.head,.slice v.adr v.pr.body.length v.cap] 71)) v.pr v.adr v.cap (hrow.below3 b1) nts (l:Int)
         have HX:=Lib.hid (And.intro hv (And.intro b1 bw))
         clear hv hp hrow b1 kb bw q0
         generalize v.pr.body.length = vl at *
         go_wp2_with fail
         refine hcon.mono ?_
         clear hcon c0 c1 e0 e1 q01
         rintro e V2 ⟨he,b2⟩
         have HB5:=Lib.hid (HX.out.2.1.trans (b2.mono HX.out.2.1.size))
         cases hsh:shapeOf v.pr nts (l:Int)
         ·rw [hsh] at he
          subst he
          have FIN:=Lib.hid (show achkI nts PV labels = 2 from by
           rw [HV2.out,if_neg]
           intro h
           rw [h.2 v (List.mem_of_getElem? HX.out.1)] at hsh
           cases hsh)
          clear b2 hsh
          go_wp2
          go_ret
          exact ⟨by rw [FIN.out];rfl,HX.out.2.2.trans (HB5.out.mono HX.out.2.2.size)⟩
         ·rw [hsh] at he
          subst he
          have FIN:=Lib.hid (And.intro (hb.out.trans (HB5.out.mono hb.out.size)) hsh)
          clear b2 hsh
          go_wp2
          go_roundw
          case rel => exact ⟨t + 1,by omega,by go_num,Lib.hid FIN.out.1,Lib.hid (fun j hj v' hv' => by
           rcases Nat.lt_succ_iff_lt_or_eq.1 hj with h | rfl
           ·exact hall.out j h v' hv'
           ·rw [HX.out.1] at hv'
            obtain rfl:=Option.some.inj hv'
            exact FIN.out.2)⟩
          case measure => simp [intOf];omega
        ·have FIN:=Lib.hid (show achkI nts PV labels = 0 from by
          exact (HV2.out).trans (if_pos ⟨HUP.out,fun v hv => by
             obtain ⟨j,hj⟩:=List.getElem?_of_mem hv
             have:=(List.getElem?_eq_some_iff.1 hj).1
             have:=HM.out.1
             exact hall.out j (by omega) v hj⟩))
         have HBW:=Lib.hid bw
         clear bw hall hb
         go_wp2
         go_ret
         exact ⟨by rw [FIN.out];rfl,HBW.out⟩
end Go.Proofs.YtddffnonlmfhdaaGreatDoor
namespace Go.Proofs.YtddffnonlmfhdaaGreatDoor
open Go.RowKit Go.Shelf
theorem there_any (w:World) (Fg:Nat→Prop) (pg:Nat) (G:Gr) (h:GrS w Fg pg G) (ok:GOk G) (h1:G.N.length ≤ 1):Calls Tryz.prog 69 #[.pointer (some ⟨pg,0,none⟩)] w (Sam w (.bool true)):=by
 have hcon:=matrix_gr w Fg pg G h ok ByteArray.empty 1 h1 (Nat.le_refl _) (by omega)
 clear h ok h1
 go_enter Tryz.func69,Tryz.ntmps69
 go_wp2_with fail
 refine hcon.mono ?_
 clear hcon
 rintro e W1 ⟨q,b,rfl,-,hb,-⟩
 have HB:=Lib.hid hb
 clear hb
 go_wp2
 go_ret
 exact ⟨rfl,HB.out⟩
theorem info_mat:(Tryz.prog.info? 121).map (fun i => (i.zero,i.size,i.bytes)) = some (some (.pointer none),1,8):=by kernel_rfl
def upA (ad:Nat→Nat) (t q:Nat):Nat→Nat:=fun k => if k = t then q else ad k
theorem ptC_grow (ad:Nat→Nat) (t q:Nat):ptC ad t ++ [.pointer (some ⟨q,0,none⟩)] = ptC (upA ad t q) (t + 1):=by
 unfold ptC
 rw [List.range_succ,List.map_append]
 congr 1
 ·refine List.map_congr_left (fun k hk => ?_)
  have:=List.mem_range.1 hk
  simp only [upA]
  rw [if_neg (by omega)]
 ·simp [upA]
open Classical in
set_option maxRecDepth 20000 in
theorem ClS.grow {w:World} {F Fq:Nat→Prop} {p side nodes t q:Nat} (h:ClS w F p side nodes t (fun _ => none)) (hq:QuS w Fq q side none) (hd:∀ k,Fq k→¬ F k) (ht:t ≤ 512) :
  ∃ A c A' c' W2,w.cell? ⟨p,1,none⟩ = some (.slice A t c)∧(Builtin.append_ #[136,136] 136 #[.slice A t c,.slice (some ⟨w.heap.size,0,none⟩) 1 1]).run Tryz.prog (w.alloc (.cells #[.pointer (some ⟨q,0,none⟩)] 121)) = .ok (.slice A' (t + 1) c') W2 ∧
   W2.cell? ⟨p,1,none⟩ = some (.slice A t c)∧W2.frozen? ⟨p,1,none⟩ = false∧(∃ F',ClS (W2.setCell ⟨p,1,none⟩ (.slice A' (t + 1) c')) F' p side nodes (t + 1) (fun _ => none)∧∀ k,F' k→F k ∨ Fq k ∨ w.heap.size ≤ k)∧Upd F w (W2.setCell ⟨p,1,none⟩ (.slice A' (t + 1) c')):=by
 obtain ⟨O,pv,ad,hi,rfl⟩:=h
 obtain ⟨A,c,rfl,-,-⟩:=own_form hi.rows
 obtain ⟨v2,W2,happ,own2,u2,p2⟩:=push_own w 0 136 121 1 8 _ Tryz.underlying136 info_mat rfl (by decide) (.slice A t c) t (ptC ad t) hi.rows [.pointer (some ⟨q,0,none⟩)] 1 rfl (fun x hx => by rw [List.mem_singleton.1 hx];rfl) (by omega) (by unfold maxLen;omega) (Nat.zero_le _)
 obtain ⟨A',c',rfl,-,-⟩:=own_form own2
 have hrow:∀ k,(Value.slice A t c).ownBlock = some k→O k = some .row:=hi.orow
 have hb2:=hi.blk.upd u2 (fun e => by have:=hrow _ e;rw [hi.op] at this;cases this)
 have u3:Upd (fun k => (Value.slice A t c).ownBlock = some k ∨ k = p) w (W2.setCell ⟨p,1,none⟩ (.slice A' (t + 1) c')):=(u2.mono (fun _ _ e => .inl e)).setCell (p:=⟨p,1,none⟩) (.inl (.inr rfl)) _
 have hUF:∀ k,((Value.slice A t c).ownBlock = some k ∨ k = p)→O k ≠ none:=fun k hk => hk.elim (fun e => by rw [hrow k e];exact nofun) (fun e => by rw [e,hi.op];exact nofun)
 have hnp:∀ k,(Value.slice A' (t + 1) c').ownBlock = some k→¬ k = p:=fun k hk e => by
  subst e
  rcases p2 k hk with h1 | h1
  ·have:=hrow k h1;rw [hi.op] at this;cases this
  ·have:=hi.blk.lt;omega
 have hlt2:=own2.lt
 have hqlt:=hq.lt
 refine ⟨A,c,A',c',W2,hi.blk.cell 1,happ,hb2.cell 1,hb2.frozen 1,⟨_,⟨fun k => if k < w.heap.size then (if O k ≠ none then O k else if Fq k then some (.mat t) else none) else if (Value.slice A' (t + 1) c').ownBlock = some k then some .row else none,.slice A' (t + 1) c',upA ad t q,⟨hb2.set 1 _,?_,?_,?_,?_,?_⟩,rfl⟩,?_⟩,u3.mono (fun k _ hk => hUF k hk)⟩
 ·rw [← ptC_grow]
  exact ownsRow_upd own2 ((Upd.refl (fun k => k = p) W2).setCell (p:=⟨p,1,none⟩) (.inl rfl) (.slice A' (t + 1) c')) hnp
 ·show (if p < w.heap.size then (if O p ≠ none then O p else _) else _) = _
  rw [if_pos hi.blk.lt,if_pos (by rw [hi.op];exact nofun)];exact hi.op
 ·intro k hk
  show (if k < w.heap.size then (if O k ≠ none then O k else _) else _) = _
  rcases p2 k hk with h1 | h1
  ·rw [if_pos (hi.lt k (by rw [hrow k h1];exact nofun)),if_pos (by rw [hrow k h1];exact nofun)];exact hrow k h1
  ·rw [if_neg (by omega),if_pos hk]
 ·intro k hk
  by_cases e:k = t
  ·subst e
   refine ⟨Fq,?_,fun x hx => ?_⟩
   ·show QuS _ Fq (if k = k then q else ad k) side none
    rw [if_pos rfl]
    exact hq.upd u3 (fun x hx e => hd x hx (hUF x e))
   ·show (if x < w.heap.size then (if O x ≠ none then O x else if Fq x then some (CRo.mat k) else none) else _) = _
    have hox:O x = none:=Classical.byContradiction (fun e => hd x hx e)
    rw [if_pos (hqlt x hx),if_neg (fun e => e hox),if_pos hx]
  ·obtain ⟨Fk,h1,h2⟩:=hi.mats k (by omega)
   refine ⟨Fk,?_,fun x hx => ?_⟩
   ·show QuS _ Fk (if k = t then q else ad k) side none
    rw [if_neg e]
    exact h1.upd u3 (fun x hx e' => by
     have e3:=h2 x hx
     rcases e' with e' | e'
     ·rw [hrow x e'] at e3;cases e3
     ·rw [e',hi.op] at e3;cases e3)
   ·show (if x < w.heap.size then (if O x ≠ none then O x else _) else _) = _
    rw [if_pos (h1.lt x hx),if_pos (by rw [h2 x hx];exact nofun)];exact h2 x hx
 ·intro k hk
  have hz:=u3.size
  by_cases hl:k < w.heap.size
  ·omega
  ·have hk:(if k < w.heap.size then _ else if (Value.slice A' (t + 1) c').ownBlock = some k then some CRo.row else none) ≠ none:=hk
   rw [if_neg hl] at hk
   by_cases e:(Value.slice A' (t + 1) c').ownBlock = some k
   ·have:=(hlt2 k e).2
    simpa [World.setCell] using this
   ·rw [if_neg e] at hk;exact absurd rfl hk
 ·intro k hk
  by_cases hl:k < w.heap.size
  ·have hk:(if k < w.heap.size then (if O k ≠ none then O k else if Fq k then some (CRo.mat t) else none) else _) ≠ none:=hk
   rw [if_pos hl] at hk
   by_cases e:O k ≠ none
   ·exact .inl e
   ·rw [if_neg e] at hk
    by_cases e2:Fq k
    ·exact .inr (.inl e2)
    ·rw [if_neg e2] at hk;exact absurd rfl hk
  ·exact .inr (.inr (by omega))
end Go.Proofs.YtddffnonlmfhdaaGreatDoor
namespace Go.Proofs.YtddffnonlmfhdaaGreatDoor
open Go.RowKit Go.Shelf
def NewQ (w:World) (nts:Int) (PV:List Pv) (labels:List Txt) (G:Gr) (e:Ending) (w':World):Prop:=
 (achkI nts PV labels = 2∧e = .returned (.tuple #[.pointer none,.int .i64 2])∧Below w.heap.size w w') ∨
 (achkI nts PV labels = 0∧∃ (p:Nat) (F:Nat→Prop) (B:Mats),e = .returned (.tuple #[.pointer (some ⟨p,0,none⟩),.int .i64 0])∧ClS w' F p (max 1 G.N.length) G.N.length nts.toNat B∧(∀ k,F k→w.heap.size ≤ k)∧Below w.heap.size w w' ∧
  (∀ k,k < nts.toNat→∀ i j,bitO (B k) i j = true ↔ DerP (PV.map (·.pr)) (ElG G labels) G.N.length (k:Int) i j)∧∀ k,WdO (B k))
theorem achk_cases (nts:Int) (PV:List Pv) (labels:List Txt):achkI nts PV labels = 2 ∨ (achkI nts PV labels = 0∧labels.length ≤ 16∧1 ≤ nts∧nts ≤ 512∧PV.length ≤ 8192∧upB ltT labels = true∧∀ v ∈ PV,shapeOf v.pr nts labels.length = true):=by
 unfold achkI
 by_cases h:16 < labels.length ∨ nts < 1 ∨ 512 < nts ∨ 8192 < PV.length
 ·exact .inl (if_pos h)
 ·rw [if_neg h]
  by_cases h2:upB ltT labels = true∧∀ v ∈ PV,shapeOf v.pr nts labels.length = true
  ·rw [if_pos h2];exact .inr ⟨rfl,by omega,by omega,by omega,by omega,h2⟩
  ·exact .inl (if_neg h2)
theorem cl_begin (w:World) (side n:Nat):ClS (w.alloc (.cells #[.int .i64 (n:Int),.slice none 0 0] 138)) (fun k => k = w.heap.size) w.heap.size side n 0 (fun _ => none):=by
 refine ⟨fun k => if k = w.heap.size then some .x else none,.slice none 0 0,fun _ => 0,⟨Blk.new w _ _,World.ownsRow_nil _ _ _ _,if_pos rfl,fun k hk => by simp [Value.ownBlock] at hk,fun k hk => by omega,fun q hq => ?_⟩,?_⟩
 ·by_cases e:q = w.heap.size
  ·subst e;simp
  ·rw [if_neg e] at hq;exact absurd rfl hq
 ·funext k
  by_cases e:k = w.heap.size
  ·simp [e]
  ·simp [e]
def NewI (V:World) (p side n t:Nat) (wr:World):Prop:=∃ F,ClS wr F p side n t (fun _ => none)∧(∀ k,F k→V.heap.size ≤ k)∧Below V.heap.size V wr
theorem anew_any (w:World) (nts:Int) (PA:Option Addr) (pc:Nat) (PV:List Pv) (hP:PvR w PA PV) (LA:Option Addr) (cl:Nat) (labels:List Txt) (hlab:RowR w LA (txtCells labels))
  (Fg:Nat→Prop) (pg:Nat) (G:Gr) (hG:GrS w Fg pg G) (ok:GOk G) (hT:TabW w) (htab:1 < w.heap.size) :
  Calls Tryz.prog 17 #[.agg #[.int .i64 nts,.slice PA PV.length pc],.slice LA labels.length cl,.pointer (some ⟨pg,0,none⟩)] w (NewQ w nts PV labels G):=by
 have b1:Below w.heap.size w (w.alloc (.cells #[.int .i64 nts,.slice PA PV.length pc] 50)):=(Below.refl _ _).alloc (Nat.le_refl _) _
 have k1:=Blk.new w 50 #[.int .i64 nts,.slice PA PV.length pc]
 have hlen:=len_gr _ Fg pg G (hG.below b1)
 obtain ⟨n,hn⟩:∃ n,G.N.length = n:=⟨_,rfl⟩
 have hn32:n ≤ 32:=by have:=ok.few;omega
 have H:=Lib.hid (And.intro b1 (And.intro k1 (And.intro hP (And.intro hlab (And.intro hG (And.intro ok (And.intro hT (And.intro htab hn))))))))
 have HN0:=Lib.hid (show NewQ w nts PV labels G = fun e w' => (achkI nts PV labels = 2∧e = .returned (.tuple #[.pointer none,.int .i64 2])∧Below w.heap.size w w') ∨
  (achkI nts PV labels = 0∧∃ (p:Nat) (F:Nat→Prop) (B:Mats),e = .returned (.tuple #[.pointer (some ⟨p,0,none⟩),.int .i64 0])∧ClS w' F p (max 1 n) n nts.toNat B∧(∀ k,F k→w.heap.size ≤ k)∧Below w.heap.size w w' ∧
  (∀ k,k < nts.toNat→∀ i j,bitO (B k) i j = true ↔ DerP (PV.map (·.pr)) (ElG G labels) n (k:Int) i j)∧∀ k,WdO (B k)) from by subst hn;rfl)
 rw [hn] at hlen
 have hthere:=fun V (hV:Below w.heap.size w V) (h0:n ≤ 1) => there_any V Fg pg G (hG.below hV) ok (by omega)
 have HTH:=Lib.hid hthere
 have hcheck:=fun V (hV:Below w.heap.size w V) => acheck_any V nts PA pc PV (hP.below hV) LA cl labels (hlab.below3 hV)
 have HCK:=Lib.hid hcheck
 clear b1 k1 hP hlab hG ok hT htab hn hthere hcheck
 obtain ⟨m,hm⟩:∃ m,PV.length = m:=⟨_,rfl⟩
 obtain ⟨l,hl⟩:∃ l,labels.length = l:=⟨_,rfl⟩
 rw [hm] at H HCK hlen ⊢
 rw [hl] at HCK ⊢
 have HM:=Lib.hid (And.intro hm hl)
 clear hm hl
 go_enter Tryz.func17,Tryz.ntmps17
 go_wp2_with fail
 refine hlen.mono ?_
 clear hlen
 rintro e V1 ⟨rfl,hb1⟩
 have hbw1:=H.out.1.trans (hb1.mono H.out.1.size)
 have k1:=H.out.2.1.upd (Upd.of_below hb1 (fun _ => False)) id
 have H1:=Lib.hid (And.intro hbw1 k1)
 clear hbw1 k1 hb1
 go_upto_region 2 with (fail)
 go_cut [29] from 19 (fun s29 wc => s29 = .bool false∧Hid (Below V1.heap.size V1 wc))
 case first =>
  by_cases hn0:n = 0
  ·have hz:((n:Int) == 0) = true:=by simp;omega
   have hth:=HTH.out V1 H1.out.1 (by omega)
   clear hn0
   go_wp2_with fail
   refine hth.mono ?_
   clear hth hz
   rintro e V2 ⟨rfl,hb2⟩
   have HB:=Lib.hid hb2
   clear hb2
   go_wp2
   go_meet
   case rel => exact ⟨rfl,HB⟩
  ·have hz:((n:Int) == 0) = false:=by simp;omega
   clear hn0
   go_wp2
   go_meet
   case rel => exact ⟨rfl,Lib.hid (Below.refl _ _)⟩
 case rest =>
  obtain ⟨rfl,hc⟩:=hcut
  have hbc:=H1.out.1.trans (hc.out.mono H1.out.1.size)
  have kc:=H1.out.2.upd (Upd.of_below hc.out (fun _ => False)) id
  have c0:wc.cell? ⟨w.heap.size,0,none⟩ = some (.int .i64 nts):=kc.cell 0
  have c1:wc.cell? ⟨w.heap.size,1,none⟩ = some (.slice PA m pc):=kc.cell 1
  have hck:=HCK.out wc hbc
  have H2:=Lib.hid (And.intro hbc kc)
  clear hbc kc hc H1
  rcases achk_cases nts PV labels with h2 | ⟨h0,hok⟩
  ·rw [h2] at hck
   have HA:=Lib.hid h2
   clear h2
   go_wp2_with fail
   refine hck.mono ?_
   clear hck
   rintro e V3 ⟨rfl,hb3⟩
   have FIN:=Lib.hid (show NewQ w nts PV labels G (.returned (.tuple #[.pointer none,.int .i64 2])) V3 from .inl ⟨HA.out,rfl,H2.out.1.trans (hb3.mono H2.out.1.size)⟩)
   clear hb3
   go_wp2
   refine bodyPost_ret (v:=.tuple #[.pointer none,.int .i64 2]) (by simp [results,Tryz.f17,go_sem]) rfl FIN.out
  ·rw [h0] at hck
   obtain ⟨hl16,hn1,hn5,hp8,hup,hsh⟩:=hok
   obtain ⟨t5,rfl⟩:∃ t5:Nat,nts = (t5:Int):=⟨nts.toNat,by omega⟩
   have HA:=Lib.hid (And.intro h0 (And.intro hup hsh))
   clear h0 hup hsh
   obtain ⟨side,hside⟩:∃ side,max 1 n = side:=⟨_,rfl⟩
   have hmx:max (1:Int) (n:Int) = (side:Int):=by omega
   have hs1:1 ≤ side:=by omega
   have hs32:side ≤ 32:=by omega
   have HSD:=Lib.hid hside
   clear hside
   go_wp2_with fail
   refine hck.mono ?_
   clear hck
   rintro e V3 ⟨rfl,hb3⟩
   have hbw3:=H2.out.1.trans (hb3.mono H2.out.1.size)
   have k3:=H2.out.2.upd (Upd.of_below hb3 (fun _ => False)) id
   have hcl:=cl_begin V3 side n
   have b4:Below V3.heap.size V3 (V3.alloc (.cells #[.int .i64 (n:Int),.slice none 0 0] 138)):=(Below.refl _ _).alloc (Nat.le_refl _) _
   have c0:(V3.alloc (.cells #[.int .i64 (n:Int),.slice none 0 0] 138)).cell? ⟨w.heap.size,0,none⟩ = some (.int .i64 (t5:Int)):=(k3.alloc _).cell 0
   have H3:=Lib.hid (And.intro hbw3 (And.intro k3 (show NewI V3 V3.heap.size side n 0 (V3.alloc (.cells #[.int .i64 (n:Int),.slice none 0 0] 138)) from ⟨_,hcl,fun k hk => Nat.le_of_eq hk.symm,b4⟩)))
   clear hbw3 k3 hcl b4 hb3
   go_upto_region 8 with (fail)
   generalize V3.alloc (.cells #[.int .i64 (n:Int),.slice none 0 0] 138) = W4 at H3 c0 ⊢
   go_wp2
   clear c0
   go_loopw [41] (fun i wr => ∃ t:Nat,t ≤ t5∧i = .int .i64 (t:Int)∧Hid (NewI V3 V3.heap.size side n t wr)) (fun i _ => t5 - (intOf i).toNat)
   case atStart => exact ⟨0,Nat.zero_le _,rfl,Lib.hid H3.out.2.2⟩
   case round =>
    obtain ⟨t,ht,rfl,hq⟩:=hrel
    by_cases hlt:t < t5
    ·have htI:(t:Int) < (t5:Int):=by omega
     obtain ⟨F,hcl,hF,hbV⟩:=hq.out
     have hnew:=qnew_any wr side hs1 (by omega)
     have HC:=Lib.hid (And.intro hcl (And.intro hF hbV))
     clear hcl hF hbV hq
     go_wp2_with fail
     refine hnew.mono ?_
     clear hnew
     rintro e V5 ⟨q,rfl,⟨Fq,hqs,hFq⟩,hb5⟩
     obtain ⟨A,c,A',c',W6,qa,happ,qa2,fa2,⟨F',hcl',hF'⟩,hu'⟩:=ClS.grow (HC.out.1.below hb5) hqs (fun k hk hf => by have:=hFq k hk;have:=HC.out.1.lt k hf;omega) (by omega)
     have b6:Below V5.heap.size V5 (V5.alloc (.cells #[.pointer (some ⟨q,0,none⟩)] 121)):=(Below.refl _ _).alloc (Nat.le_refl _) _
     have FIN:=Lib.hid (show NewI V3 V3.heap.size side n (t + 1) (W6.setCell ⟨V3.heap.size,1,none⟩ (.slice A' (t + 1) c')) from by
      refine ⟨F',hcl',fun k hk => ?_,?_⟩
      ·rcases hF' k hk with h | h | h
       ·exact HC.out.2.1 k h
       ·exact Nat.le_trans HC.out.2.2.size (hFq k h)
       ·exact Nat.le_trans (Nat.le_trans HC.out.2.2.size hb5.size) h
      ·have hb35:=HC.out.2.2.trans (hb5.mono HC.out.2.2.size)
       exact hb35.trans (hu'.below (fun k _ hk => HC.out.2.1 k hk) hb35.size))
     obtain ⟨t1,ht1⟩:∃ t1,t + 1 = t1:=⟨_,rfl⟩
     rw [ht1] at happ FIN
     have HT1:=Lib.hid ht1
     clear hqs hFq hcl' hF' hu' hb5 b6 ht1
     go_wp2_with (at_builtin;refine wpList_append_run rfl _ _ _ rfl rfl rfl happ ?_)
     generalize W6.setCell ⟨V3.heap.size,1,none⟩ (.slice A' t1 c') = W7 at FIN ⊢
     go_roundw
     case rel => exact ⟨t1,by have:=HT1.out;omega,by rw [← HT1.out];go_num,FIN⟩
     case measure => simp [intOf];omega
    ·obtain rfl:t = t5:=by omega
     obtain ⟨F,hcl,hF,hbV⟩:=hq.out
     clear hq
     have kz:=H3.out.2.1.upd (Upd.of_below hbV (fun _ => False)) id
     have z0:wr.cell? ⟨w.heap.size,0,none⟩ = some (.int .i64 (t:Int)):=kz.cell 0
     have z1:wr.cell? ⟨w.heap.size,1,none⟩ = some (.slice PA m pc):=kz.cell 1
     by_cases hn0:n = 0
     ·have hnI:¬ (0:Int) < (n:Int):=by omega
      have FIN:=Lib.hid (show NewQ w (t:Int) PV labels G (.returned (.tuple #[.pointer (some ⟨V3.heap.size,0,none⟩),.int .i64 0])) wr from by
       rw [HN0.out]
       refine .inr ⟨HA.out.1,V3.heap.size,F,fun _ => none,rfl,?_,fun k hk => Nat.le_trans H3.out.1.size (hF k hk),H3.out.1.trans (hbV.mono H3.out.1.size),fun k _ i j => ⟨fun h => (by cases h),fun d => ?_⟩,fun k r e => (by cases e)⟩
       ·rw [HSD.out,Int.toNat_natCast];exact hcl
       ·have:=d.lt (fun k i j h => by have:=h.lt;rwa [H.out.2.2.2.2.2.2.2.2] at this)
        omega)
      clear hcl hF hbV kz hn0
      go_wp2
      refine bodyPost_ret (v:=.tuple #[.pointer (some ⟨V3.heap.size,0,none⟩),.int .i64 0]) (by simp [results,Tryz.f17,go_sem]) rfl FIN.out
     ·have hnI:(0:Int) < (n:Int):=by omega
      have hsn:side = n:=by have:=HSD.out;omega
      have hfil:=fill_any V3 wr hbV F hF V3.heap.size n t (by rw [hsn] at hcl;exact hcl) PA pc PV LA cl labels Fg pg G
       ⟨H.out.2.2.1.below H3.out.1,H.out.2.2.2.1.below3 H3.out.1,H.out.2.2.2.2.1.below H3.out.1,H.out.2.2.2.2.2.1,H.out.2.2.2.2.2.2.2.2,by omega,H.out.2.2.2.2.2.2.1.upd (Upd.of_below H3.out.1 (fun _ => False)) H.out.2.2.2.2.2.2.2.1 id,Nat.lt_of_lt_of_le H.out.2.2.2.2.2.2.2.1 H3.out.1.size,fun v hv => pvok_of (HA.out.2.2 v hv),by omega,by omega,hp8⟩
      rw [HM.out.1,HM.out.2] at hfil
      have HE:=Lib.hid (And.intro hF (And.intro hbV hsn))
      clear hcl hF hbV kz hsn
      go_wp2_with fail
      refine hfil.mono ?_
      clear hfil
      rintro e V9 ⟨rfl,B,hbit,hwd,F9,hcl9,hu9,hF9⟩
      have FIN:=Lib.hid (show NewQ w (t:Int) PV labels G (.returned (.tuple #[.pointer (some ⟨V3.heap.size,0,none⟩),.int .i64 0])) V9 from by
       rw [HN0.out]
       have hb9:Below V3.heap.size V3 V9:=HE.out.2.1.trans (hu9.below (fun k _ hk => HE.out.1 k hk) HE.out.2.1.size)
       refine .inr ⟨HA.out.1,V3.heap.size,F9,B,rfl,?_,fun k hk => ?_,H3.out.1.trans (hb9.mono H3.out.1.size),hbit,hwd⟩
       ·rw [HSD.out,Int.toNat_natCast,HE.out.2.2];exact hcl9
       ·rcases hF9 k hk with h | h
        ·exact Nat.le_trans H3.out.1.size (HE.out.1 k h)
        ·exact Nat.le_trans (Nat.le_trans H3.out.1.size HE.out.2.1.size) h)
      clear hbit hwd hcl9 hu9 hF9
      go_wp2
      refine bodyPost_ret (v:=.tuple #[.pointer (some ⟨V3.heap.size,0,none⟩),.int .i64 0]) (by simp [results,Tryz.f17,go_sem]) rfl FIN.out
end Go.Proofs.YtddffnonlmfhdaaGreatDoor
namespace Go.Proofs.YtddffnonlmfhdaaGreatDoor
open Go.RowKit Go.Shelf
theorem ais_any (w:World) (p g nts c:Nat) (q1:w.cell? ⟨p,1,none⟩ = some (.slice (some ⟨g,0,none⟩) nts c)):Calls Tryz.prog 72 #[.pointer (some ⟨p,0,none⟩)] w (Only w (.bool true)):=by
 have qT:∀ (w:World) (a:Option Addr) (n c n' c':Nat),(binOp .neq 136 (.slice a n c) (.slice none n' c')).run Tryz.prog w = .ok (.bool (!a.isNone)) w:=fun w a n c n' c' => run_neq_slice_nil_any w _ _ a n c n' c' Tryz.underlying136
 go_enter Tryz.func72,Tryz.ntmps72
 go_wp2
 go_ret
 exact ⟨rfl,rfl⟩
def hasV (n nts:Nat) (B:Mats) (k i j:Int):Value:=
 if 0 ≤ k∧k < (nts:Int)∧0 ≤ i∧i < (n:Int)∧0 ≤ j∧j < (n:Int) then .tuple #[.bool (bitO (B k.toNat) i.toNat j.toNat),.int .i64 0] else .tuple #[.bool false,.int .i64 4]
theorem ahas_any (w:World) (F:Nat→Prop) (p side n nts:Nat) (B:Mats) (h:ClS w F p side n nts B) (hn1:1 ≤ nts) (hns:n ≤ side) (h64:side ≤ 64) (k i j:Int) :
  Calls Tryz.prog 18 #[.pointer (some ⟨p,0,none⟩),.agg #[.int .i64 k,.int .i64 i,.int .i64 j]] w (Sam w (hasV n nts B k i j)):=by
 obtain ⟨O,pv,ad,hi,rfl⟩:=h
 obtain ⟨g,gc,rfl,-,-,-,-,-⟩:=own_cells hi.rows (by omega)
 have b1:Below w.heap.size w (w.alloc (.cells #[.int .i64 k,.int .i64 i,.int .i64 j] 52)):=(Below.refl _ _).alloc (Nat.le_refl _) _
 have k1:=Blk.new w 52 #[.int .i64 k,.int .i64 i,.int .i64 j]
 have hi1:=hi.upd (Upd.of_below b1 (fun _ => False)) (fun _ _ => id)
 have his:=ais_any (w.alloc (.cells #[.int .i64 k,.int .i64 i,.int .i64 j] 52)) p g nts gc (hi1.blk.cell 1)
 have H:=Lib.hid (And.intro b1 (And.intro hi1 k1))
 have f0:(w.alloc (.cells #[.int .i64 k,.int .i64 i,.int .i64 j] 52)).cell? ⟨w.heap.size,0,none⟩ = some (.int .i64 k):=k1.cell 0
 have f1:(w.alloc (.cells #[.int .i64 k,.int .i64 i,.int .i64 j] 52)).cell? ⟨w.heap.size,1,none⟩ = some (.int .i64 i):=k1.cell 1
 have f2:(w.alloc (.cells #[.int .i64 k,.int .i64 i,.int .i64 j] 52)).cell? ⟨w.heap.size,2,none⟩ = some (.int .i64 j):=k1.cell 2
 have q0:(w.alloc (.cells #[.int .i64 k,.int .i64 i,.int .i64 j] 52)).cell? ⟨p,0,none⟩ = some (.int .i64 (n:Int)):=hi1.blk.cell 0
 have q1:(w.alloc (.cells #[.int .i64 k,.int .i64 i,.int .i64 j] 52)).cell? ⟨p,1,none⟩ = some (.slice (some ⟨g,0,none⟩) nts gc):=hi1.blk.cell 1
 clear hi b1 hi1 k1
 go_enter Tryz.func18,Tryz.ntmps18
 go_wp2_with fail
 refine his.mono ?_
 clear his
 rintro e V ⟨rfl,hw⟩
 subst V
 go_upto_region 3 with (fail)
 generalize w.alloc (.cells #[.int .i64 k,.int .i64 i,.int .i64 j] 52) = W1 at H f0 f1 f2 q0 q1 ⊢
 have hbd:=Lib.hid (show ∀ n,Below W1.heap.size W1 (W1.drewN n) from fun n => ⟨rfl,rfl,rfl,Nat.le_refl _,fun _ _ => rfl⟩)
 generalize w.heap.size = z at f0 f1 f2 ⊢
 by_cases h0:k < 0
 ·have FIN:=Lib.hid (show hasV n nts B k i j = .tuple #[.bool false,.int .i64 4] from if_neg (by omega))
  go_quiet (fail)
  go_wp2
  refine bodyPost_ret (v:=.tuple #[.bool false,.int .i64 4]) (by simp [results,Tryz.f18,go_sem]) rfl ⟨by rw [FIN.out],H.out.1.trans ((hbd.out _).mono H.out.1.size)⟩
 ·have _g0:=h0
  by_cases h1:(nts:Int) ≤ k
  ·have FIN:=Lib.hid (show hasV n nts B k i j = .tuple #[.bool false,.int .i64 4] from if_neg (by omega))
   go_quiet (fail)
   go_wp2
   refine bodyPost_ret (v:=.tuple #[.bool false,.int .i64 4]) (by simp [results,Tryz.f18,go_sem]) rfl ⟨by rw [FIN.out],H.out.1.trans ((hbd.out _).mono H.out.1.size)⟩
  ·have _g1:=h1
   by_cases h2:i < 0
   ·have FIN:=Lib.hid (show hasV n nts B k i j = .tuple #[.bool false,.int .i64 4] from if_neg (by omega))
    go_quiet (fail)
    go_wp2
    refine bodyPost_ret (v:=.tuple #[.bool false,.int .i64 4]) (by simp [results,Tryz.f18,go_sem]) rfl ⟨by rw [FIN.out],H.out.1.trans ((hbd.out _).mono H.out.1.size)⟩
   ·have _g2:=h2
    by_cases h3:(n:Int) ≤ i
    ·have FIN:=Lib.hid (show hasV n nts B k i j = .tuple #[.bool false,.int .i64 4] from if_neg (by omega))
     go_quiet (fail)
     go_wp2
     refine bodyPost_ret (v:=.tuple #[.bool false,.int .i64 4]) (by simp [results,Tryz.f18,go_sem]) rfl ⟨by rw [FIN.out],H.out.1.trans ((hbd.out _).mono H.out.1.size)⟩
    ·have _g3:=h3
     by_cases h4:j < 0
     ·have FIN:=Lib.hid (show hasV n nts B k i j = .tuple #[.bool false,.int .i64 4] from if_neg (by omega))
      go_quiet (fail)
      go_wp2
      refine bodyPost_ret (v:=.tuple #[.bool false,.int .i64 4]) (by simp [results,Tryz.f18,go_sem]) rfl ⟨by rw [FIN.out],H.out.1.trans ((hbd.out _).mono H.out.1.size)⟩
     ·have _g4:=h4
      by_cases h5:(n:Int) ≤ j
      ·have FIN:=Lib.hid (show hasV n nts B k i j = .tuple #[.bool false,.int .i64 4] from if_neg (by omega))
       go_quiet (fail)
       go_wp2
       refine bodyPost_ret (v:=.tuple #[.bool false,.int .i64 4]) (by simp [results,Tryz.f18,go_sem]) rfl ⟨by rw [FIN.out],H.out.1.trans ((hbd.out _).mono H.out.1.size)⟩
      ·have _g5:=h5
       obtain ⟨a,rfl⟩:∃ a:Nat,k = (a:Int):=⟨k.toNat,by omega⟩
       obtain ⟨x,rfl⟩:∃ x:Nat,i = (x:Int):=⟨i.toNat,by omega⟩
       obtain ⟨y,rfl⟩:∃ y:Nat,j = (y:Int):=⟨j.toNat,by omega⟩
       have FIN:=Lib.hid (show hasV n nts B (a:Int) (x:Int) (y:Int) = .tuple #[.bool (bitO (B a) x y),.int .i64 0] from by
        unfold hasV
        rw [if_pos (by omega),Int.toNat_natCast,Int.toNat_natCast,Int.toNat_natCast])
       go_quiet (fail)
       have haN:a < nts:=by omega
       have haI:(a:Int) < (nts:Int):=by omega
       go_upto_region 5 with (fail)
       clear q0
       have hb1:=hbd.out nq
       have hS:(fun X:World => X.cell? ⟨p,1,none⟩ = some (.slice (some ⟨g,0,none⟩) nts gc)∧X.cell? ⟨z,0,none⟩ = some (.int .i64 (a:Int))∧X.cell? ⟨z,1,none⟩ = some (.int .i64 (x:Int))∧X.cell? ⟨z,2,none⟩ = some (.int .i64 (y:Int))∧X.cell? ⟨g,a,none⟩ = some (.pointer (some ⟨ad a,0,none⟩))) (W1.drewN nq).drew:=by
        have hi2:=H.out.2.1.upd (Upd.of_below hb1.drew (fun _ => False)) (fun _ _ => id)
        obtain ⟨g',c',e,-,-,-,-,hg⟩:=own_cells hi2.rows (by omega)
        injection e with e
        injection e with e
        injection e with e
        subst e
        exact ⟨q1,f0,f1,f2,(hg a _ (ptC_at (by omega))).1⟩
       have HB2:=Lib.hid hb1.drew
       clear hb1 f0 f1 f2 q1
       refine wp_region_late (fun X:World => X.cell? ⟨p,1,none⟩ = some (.slice (some ⟨g,0,none⟩) nts gc)∧X.cell? ⟨z,0,none⟩ = some (.int .i64 (a:Int))∧X.cell? ⟨z,1,none⟩ = some (.int .i64 (x:Int))∧X.cell? ⟨z,2,none⟩ = some (.int .i64 (y:Int))∧X.cell? ⟨g,a,none⟩ = some (.pointer (some ⟨ad a,0,none⟩))) (lateFrom 12) (by kernel_rfl) ?_
       generalize (W1.drewN nq).drew = W2 at HB2 hS ⊢
       intro hd
       (refine late_takeA (i:=0) rfl hd hS ?_;clear hd;intro hd;(try simp only [Act.put,gA,gZ,sA,sZ,sS]))
       (refine late_takeA (i:=1) rfl hd hS ?_;clear hd;intro hd;(try simp only [Act.put,gA,gS,gZ,sA,sZ,sS]))
       (refine late_takeA (i:=2) rfl hd hS ?_;clear hd;intro hd;(try simp only [Act.put,gA,gS,gZ,sA,sZ,sS]))
       (refine late_takeA (i:=3) rfl hd hS ?_;clear hd;intro hd;(try simp only [Act.put,gA,gS,gZ,sA,sZ,sS]))
       (refine late_takeA (i:=4) rfl hd hS ?_;clear hd;intro hd;(try simp only [Act.put,gA,gS,gZ,sA,sZ,sS]))
       (refine late_takeA (i:=5) rfl hd hS ?_;clear hd;intro hd;(try simp only [Act.put,gA,gS,gZ,sA,sZ,sS]))
       (refine late_takeA (i:=6) rfl hd hS ?_;clear hd;intro hd;(try simp only [Act.put,gA,gS,gZ,sA,sZ,sS]))
       (refine late_takeA (i:=7) rfl hd hS ?_;clear hd;intro hd;(try simp only [Act.put,gA,gS,gZ,sA,sZ,sS]))
       (refine late_takeA (i:=8) rfl hd hS ?_;clear hd;intro hd;(try simp only [Act.put,gA,gS,gZ,sA,sZ,sS]))
       (refine late_takeA (i:=9) rfl hd hS ?_;clear hd;intro hd;(try simp only [Act.put,gA,gS,gZ,sA,sZ,sS]))
       (refine late_takeA (i:=10) rfl hd hS ?_;clear hd;intro hd;(try simp only [Act.put,gA,gS,gZ,sA,sZ,sS]))
       (refine late_takeA (i:=11) rfl hd hS ?_;clear hd;intro hd;(try simp only [Act.put,gA,gS,gZ,sA,sZ,sS]))
       have hcon:Hid (Calls Tryz.prog 73 #[.pointer (some ⟨ad a,0,none⟩),.int .i64 (x:Int),.int .i64 (y:Int)] W2 (Sam W2 (.tuple #[.bool (bitO (B a) x y),.int .i64 0]))):=Lib.hid (by
        obtain ⟨Fa,a1,-⟩:=(H.out.2.1.upd (Upd.of_below HB2.out (fun _ => False)) (fun _ _ => id)).mats a (by omega)
        exact qget_any W2 Fa (ad a) side (B a) a1 x y (by omega) (by omega) (by omega) (by omega))
       clear hS
       refine late_run hd (L:=[12]) (by kernel_rfl) (by decide) (fun ix hix hd2 => ?_)
       clear hd
       have hd:=hd2
       clear hd2
       simp only [List.mem_cons,List.not_mem_nil,or_false] at hix
       subst hix
       refine late_do (S:=(fun X:World => X.cell? ⟨p,1,none⟩ = some (.slice (some ⟨g,0,none⟩) nts gc)∧X.cell? ⟨z,0,none⟩ = some (.int .i64 (a:Int))∧X.cell? ⟨z,1,none⟩ = some (.int .i64 (x:Int))∧X.cell? ⟨z,2,none⟩ = some (.int .i64 (y:Int))∧X.cell? ⟨g,a,none⟩ = some (.pointer (some ⟨ad a,0,none⟩)))) (late:=lateFrom 12) rfl rfl (fun K hK => ?_)
       go_simp
       refine hcon.out.mono ?_
       clear hcon
       rintro e W3 ⟨rfl,hb3⟩
       have HB3:=Lib.hid (H.out.1.trans ((HB2.out.trans (hb3.mono HB2.out.size)).mono H.out.1.size))
       clear hb3
       refine hK _ _ (fun h _ => absurd h (by decide)) ?_
       clear hK K
       (try simp only [Act.put,gA,gS,gZ,sA,sZ,sS])
       (refine late_take0 (i:=13) (v:=?_) rfl (by kernel_rfl) hd (fun _ _ d _ _ h => by cases d <;> exact h) (by first | with_reducible rfl | kernel_rfl) ?_ ?_;rotate_left;(focus (intro wS;go_simp;(try with_reducible rfl);done));clear hd;intro hd;(try simp only [Act.put,gA,gS,gZ,sA,sZ,sS]))
       (refine late_take0 (i:=14) (v:=?_) rfl (by kernel_rfl) hd (fun _ _ d _ _ h => by cases d <;> exact h) (by first | with_reducible rfl | kernel_rfl) ?_ ?_;rotate_left;(focus (intro wS;go_simp;(try with_reducible rfl);done));clear hd;intro hd;(try simp only [Act.put,gA,gS,gZ,sA,sZ,sS]))
       (refine late_take0 (i:=15) (v:=?_) rfl (by kernel_rfl) hd (fun _ _ d _ _ h => by cases d <;> exact h) (by first | with_reducible rfl | kernel_rfl) ?_ ?_;rotate_left;(focus (intro wS;go_simp;(try with_reducible rfl);done));clear hd;intro hd;(try simp only [Act.put,gA,gS,gZ,sA,sZ,sS]))
       (refine late_take0 (i:=16) (v:=?_) rfl (by kernel_rfl) hd (fun _ _ d _ _ h => by cases d <;> exact h) (by first | with_reducible rfl | kernel_rfl) ?_ ?_;rotate_left;(focus (intro wS;go_simp;(try with_reducible rfl);done));clear hd;intro hd;(try simp only [Act.put,gA,gS,gZ,sA,sZ,sS]))
       refine late_done (by kernel_rfl) ?_
       go_wp2
       refine bodyPost_ret (v:=.tuple #[.bool (bitO (B a) x y),.int .i64 0]) (by simp [results,Tryz.f18,go_sem]) rfl ⟨by rw [FIN.out],HB3.out⟩
end Go.Proofs.YtddffnonlmfhdaaGreatDoor
namespace Go.Proofs.YtddffnonlmfhdaaGreatDoor
open Go.RowKit Go.Shelf
theorem QuS.len {w:World} {F:Nat→Prop} {p side:Nat} {b:Option (List Nat)} (h:QuS w F p side b):w.cell? ⟨p,2,none⟩ = some (.int .i64 ((lenB (oldW b):Nat):Int))∧lenB (oldW b) ≤ 4096:=by
 obtain ⟨O,dep,cnt,m,last,L,pv,lv,hq,ok,-⟩:=h
 have:=oldW_cnt ok
 subst this
 exact ⟨hq.blk.cell 2,lenB_most (oldW_wd ok)⟩
def lenM (B:Mats) (t:Nat):Nat:=sumN (fun k => lenB (oldW (B k))) t
theorem alen_any (w:World) (F:Nat→Prop) (p side n nts:Nat) (B:Mats) (h:ClS w F p side n nts B) (hn1:1 ≤ nts) (hn5:nts ≤ 512) (hs1:1 ≤ side) :
  Calls Tryz.prog 21 #[.pointer (some ⟨p,0,none⟩)] w (Sam w (.int .i64 ((lenM B nts:Nat):Int))):=by
 obtain ⟨O,pv,ad,hi,rfl⟩:=h
 obtain ⟨g,gc,rfl,-,-,-,-,hg⟩:=own_cells hi.rows (by omega)
 have his:=ais_any w p g nts gc (hi.blk.cell 1)
 have q1:w.cell? ⟨p,1,none⟩ = some (.slice (some ⟨g,0,none⟩) nts gc):=hi.blk.cell 1
 have hcell:=fun k (hk:k < nts) => (hg k _ (ptC_at hk)).1
 have H:=Lib.hid (And.intro hi hcell)
 clear hi hg hcell
 go_enter Tryz.func21,Tryz.ntmps21
 go_wp2_with fail
 refine his.mono ?_
 clear his
 rintro e V ⟨rfl,hw⟩
 subst V
 go_wp2
 clear q1
 go_loopw [3,13] (fun s i wr => ∃ t:Nat,t ≤ nts∧i = .int .i64 (t:Int)∧s = .int .i64 ((lenM B t:Nat):Int)∧wr = w∧lenM B t ≤ t * 4096) (fun _ i _ => nts - (intOf i).toNat)
 case atStart => exact ⟨0,Nat.zero_le _,rfl,rfl,rfl,Nat.le_refl _⟩
 case round =>
  obtain ⟨t,ht,rfl,rfl,hw,hle⟩:=hrel
  subst wr
  by_cases hlt:t < nts
  ·have htI:(t:Int) < (nts:Int):=by omega
   obtain ⟨Fk,hq,-⟩:=H.out.1.mats t hlt
   have hcon:=qlen_any w (ad t) side (lenB (oldW (B t))) hs1 hq.side.2 hq.len.1
   have hl4:=hq.len.2
   have q1:=H.out.2 t hlt
   have hsum:lenM B (t + 1) = lenM B t + lenB (oldW (B t)):=rfl
   have hle2:lenM B (t + 1) ≤ (t + 1) * 4096:=by omega
   have FS:=Lib.hid hsum
   have hlB:lenM B t ≤ 2097152:=by omega
   clear hq hsum hle
   generalize lenB (oldW (B t)) = x at hcon hl4 FS
   go_wp2_with fail
   refine hcon.mono ?_
   clear hcon q1
   rintro e V ⟨rfl,hw⟩
   subst V
   obtain ⟨y,hy⟩:∃ y,lenM B t = y:=⟨_,rfl⟩
   rw [hy] at FS hlB ⊢
   clear hy
   go_wp2
   go_roundw
   case rel => exact ⟨t + 1,by omega,by go_num,by rw [FS.out];go_num,trivial,hle2⟩
   case measure => simp [intOf];omega
  ·obtain rfl:t = nts:=by omega
   go_wp2
   go_ret
   exact ⟨rfl,Below.refl _ _⟩
end Go.Proofs.YtddffnonlmfhdaaGreatDoor
namespace Go.Proofs.YtddffnonlmfhdaaGreatDoor
open Go.RowKit Go.Shelf
theorem blk_row {w:World} {g:Nat} {t:TypeId} {cs:List Value} (h:Blk w g t cs.toArray):RowR w (some ⟨g,0,none⟩) cs:=fun j u hj => ⟨g,0,rfl,by rw [Nat.zero_add,h.cell j];simpa using hj⟩
def smallP:List Pr:=[⟨0,[⟨false,1⟩,⟨false,2⟩]⟩,⟨1,[⟨true,0⟩]⟩,⟨2,[⟨false,0⟩,⟨false,2⟩]⟩,⟨2,[⟨true,1⟩]⟩]
def SmallQ (w:World) (e:Ending) (w':World):Prop:=∃ (g c:Nat) (PV:List Pv),e = .returned (.agg #[.int .i64 3,.slice (some ⟨g,0,none⟩) 4 c])∧PvR w' (some ⟨g,0,none⟩) PV∧PV.map (·.pr) = smallP∧Below w.heap.size w w'
def SmI2 (w wc:World) (g3 g4:Nat):Prop:=Below w.heap.size w wc∧Blk wc w.heap.size 50 #[.int .i64 0,.slice none 0 0]∧Blk wc (w.heap.size + 1) 96 #[.bool false,.int .i64 0]∧Blk wc (w.heap.size + 1 + 1) 96 #[.bool true,.int .i64 0] ∧
 Blk wc g3 96 #[.bool false,.int .i64 0]∧Blk wc g4 96 #[.bool false,.int .i64 0]∧w.heap.size + 3 ≤ g3∧w.heap.size + 3 ≤ g4∧g3 ≠ g4
def SmI1 (w W:World):Prop:=Below w.heap.size w W∧Blk W w.heap.size 50 #[.int .i64 0,.slice none 0 0]∧Blk W (w.heap.size + 1) 96 #[.bool false,.int .i64 0]∧Blk W (w.heap.size + 1 + 1) 96 #[.bool true,.int .i64 0]∧W.heap.size = w.heap.size + 3
theorem smI1 (w:World):SmI1 w (((w.alloc (.cells #[.int .i64 0,.slice none 0 0] 50)).alloc (.cells #[.bool false,.int .i64 0] 96)).alloc (.cells #[.bool true,.int .i64 0] 96)):=by
 have k0:=((Blk.new w 50 #[.int .i64 0,.slice none 0 0]).alloc (.cells #[.bool false,.int .i64 0] 96)).alloc (.cells #[.bool true,.int .i64 0] 96)
 have k1:=(Blk.new (w.alloc (.cells #[.int .i64 0,.slice none 0 0] 50)) 96 #[.bool false,.int .i64 0]).alloc (.cells #[.bool true,.int .i64 0] 96)
 have k2:=Blk.new ((w.alloc (.cells #[.int .i64 0,.slice none 0 0] 50)).alloc (.cells #[.bool false,.int .i64 0] 96)) 96 #[.bool true,.int .i64 0]
 simp only [World.size_alloc] at k1 k2
 exact ⟨by (repeat (first | exact Below.refl _ _ | apply Below.drew | refine Below.alloc ?_ (by first | exact Nat.le_refl _ | (simp;done) | (simp;omega)) _ | refine Below.setCell ?_ (by first | exact Nat.le_refl _ | (simp;done) | (simp;omega)) _)),k0,k1,k2,by simp⟩
theorem smI2 {w W V:World} {a b:Nat} (h:SmI1 w W) (hb:Below W.heap.size W V) (ha:Blk V a 96 #[.bool false,.int .i64 0]) (hb2:Blk V b 96 #[.bool false,.int .i64 0]) (h0:W.heap.size ≤ a) (h1:W.heap.size ≤ b) (hab:a ≠ b):SmI2 w V a b:=by
 obtain ⟨i1,i2,i3,i4,i5⟩:=h
 have hu:=Upd.of_below hb (fun _ => False)
 exact ⟨i1.trans (hb.mono i1.size),i2.upd hu id,i3.upd hu id,i4.upd hu id,ha,hb2,by omega,by omega,hab⟩
theorem small_ok (w:World):Calls Tryz.prog 78 #[] w (SmallQ w):=by
 have HI:=Lib.hid (smI1 w)
 go_enter Tryz.func78,Tryz.ntmps78
 go_upto_region 2 with (fail)
 generalize ((w.alloc (.cells #[.int .i64 0,.slice none 0 0] 50)).alloc (.cells #[.bool false,.int .i64 0] 96)).alloc (.cells #[.bool true,.int .i64 0] 96) = W at HI ⊢
 go_cut [3,4] from 8 (fun s3 s4 wc => ∃ g3 g4:Nat,s3 = .pointer (some ⟨g3,0,none⟩)∧s4 = .pointer (some ⟨g4,0,none⟩)∧Hid (SmI2 w wc g3 g4))
 case first =>
  have SR:=Lib.hid (show ∀ V,Below W.heap.size W V→(fun V:World => V.cell? ⟨w.heap.size + 1,0,none⟩ = some (.bool false)∧V.cell? ⟨w.heap.size + 1,1,none⟩ = some (.int .i64 0)) V from fun V hb => by
   have hu:=Upd.of_below hb (fun _ => False)
   have k:=HI.out.2.2.1.upd hu id
   exact ⟨k.cell 0,k.cell 1⟩)
  have HK0:=Lib.hid (show Below W.heap.size W W.drew from (Below.refl _ _).drew)
  have hS:=SR.out _ HK0.out
  refine wp_noPan2 ?_
  refine wp_region_any2 (fun V:World => V.cell? ⟨w.heap.size + 1,0,none⟩ = some (.bool false)∧V.cell? ⟨w.heap.size + 1,1,none⟩ = some (.int .i64 0)) (by kernel_rfl) (by kernel_rfl) hS ?_
  refine any_start (fun hd => ?_)
  generalize W.drew = V0 at HK0 hS ⊢
  (refine any_takeA (i:=0) rfl hd hS ?_;clear hd;intro hd;(try simp only [Act.put,gA,gZ,sA,sZ,sS]))
  (refine any_takeA (i:=1) rfl hd hS ?_;clear hd;intro hd;(try simp only [Act.put,gA,gS,gZ,sA,sZ,sS]))
  refine any_run hd (L:=[2,3]) (by kernel_rfl) (by decide) (fun ix hix hd2 => ?_)
  clear hd
  have hd:=hd2
  clear hd2
  simp only [List.mem_cons,List.not_mem_nil,or_false] at hix
  rcases hix with rfl | rfl
  ·have HN0:=Lib.hid (show Blk (V0.alloc (.cells #[.bool false,.int .i64 0] 96)) V0.heap.size 96 #[.bool false,.int .i64 0] from Blk.new V0 _ _)
   have HK1:=Lib.hid (show Below W.heap.size W (V0.alloc (.cells #[.bool false,.int .i64 0] 96)) from HK0.out.alloc HK0.out.size _)
   have hz0:(V0.alloc (.cells #[.bool false,.int .i64 0] 96)).heap.size = V0.heap.size + 1:=by simp
   have HZ0:=Lib.hid hz0
   clear hz0
   refine any_do rfl rfl (fun K hK => ?_)
   go_simp
   refine hK _ _ (SR.out _ HK1.out) ?_
   clear hK K hS
   (try simp only [Act.put,gA,gS,gZ,sA,sZ,sS])
   have hS:=SR.out _ HK1.out
   generalize V0.alloc (.cells #[.bool false,.int .i64 0] 96) = V1 at HN0 HK1 HZ0 hS ⊢
   refine any_run hd (L:=[3]) (by kernel_rfl) (by decide) (fun ix hix hd2 => ?_)
   clear hd
   have hd:=hd2
   clear hd2
   simp only [List.mem_cons,List.not_mem_nil,or_false] at hix
   subst hix
   have HN1:=Lib.hid (show Blk (V1.alloc (.cells #[.bool false,.int .i64 0] 96)) V1.heap.size 96 #[.bool false,.int .i64 0] from Blk.new V1 _ _)
   have HK2:=Lib.hid (show Below W.heap.size W (V1.alloc (.cells #[.bool false,.int .i64 0] 96)) from HK1.out.alloc HK1.out.size _)
   have hz1:(V1.alloc (.cells #[.bool false,.int .i64 0] 96)).heap.size = V1.heap.size + 1:=by simp
   have HZ1:=Lib.hid hz1
   clear hz1
   have HO:=Lib.hid (HN0.out.alloc (.cells #[.bool false,.int .i64 0] 96))
   refine any_do rfl rfl (fun K hK => ?_)
   go_simp
   refine hK _ _ (SR.out _ HK2.out) ?_
   clear hK K hS
   (try simp only [Act.put,gA,gS,gZ,sA,sZ,sS])
   have hS:=SR.out _ HK2.out
   generalize V1.alloc (.cells #[.bool false,.int .i64 0] 96) = V2 at HN1 HK2 HZ1 HO hS ⊢
   have HF:=Lib.hid (show Blk V2 V0.heap.size 96 #[.bool false,.int .i64 0]∧Blk V2 V1.heap.size 96 #[.bool false,.int .i64 0] from ⟨HO.out,HN1.out⟩)
   have HB:=HK2
   have HAB:=Lib.hid (show W.heap.size ≤ V0.heap.size∧W.heap.size ≤ V1.heap.size∧V0.heap.size ≠ V1.heap.size∧V1.heap.size ≠ V0.heap.size from by
    have h0:=HK0.out.size
    have h1:=HZ0.out
    refine ⟨by omega,by omega,by omega,by omega⟩)
   clear HK2 HN1 HO HN0 HK1 HZ0 HZ1
   generalize V0.heap.size = a at HF HAB ⊢
   generalize V1.heap.size = b at HF HAB ⊢
   refine any_run hd (L:=[4]) (by kernel_rfl) (by decide) (fun ix hix hd2 => ?_)
   clear hd
   have hd:=hd2
   clear hd2
   simp only [List.mem_cons,List.not_mem_nil,or_false] at hix
   subst hix
   have c0:V2.cell? ⟨a,0,none⟩ = some (.bool false):=HF.out.1.cell 0
   have f0:V2.frozen? ⟨a,0,none⟩ = false:=HF.out.1.frozen 0
   have ks:=HF.out.1.set 0 (.bool false)
   have c1:(V2.setCell ⟨a,0,none⟩ (.bool false)).cell? ⟨a,1,none⟩ = some (.int .i64 0):=ks.cell 1
   have f1:(V2.setCell ⟨a,0,none⟩ (.bool false)).frozen? ⟨a,1,none⟩ = false:=ks.frozen 1
   have ks2:Blk ((V2.setCell ⟨a,0,none⟩ (.bool false)).setCell ⟨a,1,none⟩ (.int .i64 0)) a 96 #[.bool false,.int .i64 0]:=ks.set 1 (.int .i64 0)
   have HF2:=Lib.hid (show Blk ((V2.setCell ⟨a,0,none⟩ (.bool false)).setCell ⟨a,1,none⟩ (.int .i64 0)) a 96 #[.bool false,.int .i64 0]∧Blk ((V2.setCell ⟨a,0,none⟩ (.bool false)).setCell ⟨a,1,none⟩ (.int .i64 0)) b 96 #[.bool false,.int .i64 0] from ⟨ks2,(HF.out.2.far (p:=⟨a,0,none⟩) HAB.out.2.2.2 _).far (p:=⟨a,1,none⟩) HAB.out.2.2.2 _⟩)
   have HB2:=Lib.hid (show Below W.heap.size W ((V2.setCell ⟨a,0,none⟩ (.bool false)).setCell ⟨a,1,none⟩ (.int .i64 0)) from (HB.out.setCell (p:=⟨a,0,none⟩) HAB.out.1 _).setCell (p:=⟨a,1,none⟩) HAB.out.1 _)
   clear ks ks2
   refine any_do rfl rfl (fun K hK => ?_)
   go_simp
   refine hK _ _ (SR.out _ HB2.out) ?_
   clear hK K c0 c1 f0 f1 HF HB hS
   (try simp only [Act.put,gA,gS,gZ,sA,sZ,sS])
   generalize (V2.setCell ⟨a,0,none⟩ (.bool false)).setCell ⟨a,1,none⟩ (.int .i64 0) = V3 at HF2 HB2 ⊢
   have HF:=HF2
   have HB:=HB2
   clear HF2 HB2
   have hS:=SR.out _ HB.out
   refine any_run hd (L:=[5]) (by kernel_rfl) (by decide) (fun ix hix hd2 => ?_)
   clear hd
   have hd:=hd2
   clear hd2
   simp only [List.mem_cons,List.not_mem_nil,or_false] at hix
   subst hix
   have c0:V3.cell? ⟨b,0,none⟩ = some (.bool false):=HF.out.2.cell 0
   have f0:V3.frozen? ⟨b,0,none⟩ = false:=HF.out.2.frozen 0
   have ks:=HF.out.2.set 0 (.bool false)
   have c1:(V3.setCell ⟨b,0,none⟩ (.bool false)).cell? ⟨b,1,none⟩ = some (.int .i64 0):=ks.cell 1
   have f1:(V3.setCell ⟨b,0,none⟩ (.bool false)).frozen? ⟨b,1,none⟩ = false:=ks.frozen 1
   have ks2:Blk ((V3.setCell ⟨b,0,none⟩ (.bool false)).setCell ⟨b,1,none⟩ (.int .i64 0)) b 96 #[.bool false,.int .i64 0]:=ks.set 1 (.int .i64 0)
   have HF2:=Lib.hid (show Blk ((V3.setCell ⟨b,0,none⟩ (.bool false)).setCell ⟨b,1,none⟩ (.int .i64 0)) a 96 #[.bool false,.int .i64 0]∧Blk ((V3.setCell ⟨b,0,none⟩ (.bool false)).setCell ⟨b,1,none⟩ (.int .i64 0)) b 96 #[.bool false,.int .i64 0] from ⟨(HF.out.1.far (p:=⟨b,0,none⟩) HAB.out.2.2.1 _).far (p:=⟨b,1,none⟩) HAB.out.2.2.1 _,ks2⟩)
   have HB2:=Lib.hid (show Below W.heap.size W ((V3.setCell ⟨b,0,none⟩ (.bool false)).setCell ⟨b,1,none⟩ (.int .i64 0)) from (HB.out.setCell (p:=⟨b,0,none⟩) HAB.out.2.1 _).setCell (p:=⟨b,1,none⟩) HAB.out.2.1 _)
   clear ks ks2
   refine any_do rfl rfl (fun K hK => ?_)
   go_simp
   refine hK _ _ (SR.out _ HB2.out) ?_
   clear hK K c0 c1 f0 f1 HF HB hS
   (try simp only [Act.put,gA,gS,gZ,sA,sZ,sS])
   generalize (V3.setCell ⟨b,0,none⟩ (.bool false)).setCell ⟨b,1,none⟩ (.int .i64 0) = V4 at HF2 HB2 ⊢
   have HF:=HF2
   have HB:=HB2
   clear HF2 HB2
   have hS:=SR.out _ HB.out
   refine any_done (by kernel_rfl) ?_
   clear hd hS
   dsimp only [noPan2]
   go_wp2
   go_meet
   case rel => exact ⟨a,b,rfl,rfl,Lib.hid (smI2 HI.out HB.out HF.out.1 HF.out.2 HAB.out.1 HAB.out.2.1 HAB.out.2.2.1)⟩
  ·have HN0:=Lib.hid (show Blk (V0.alloc (.cells #[.bool false,.int .i64 0] 96)) V0.heap.size 96 #[.bool false,.int .i64 0] from Blk.new V0 _ _)
   have HK1:=Lib.hid (show Below W.heap.size W (V0.alloc (.cells #[.bool false,.int .i64 0] 96)) from HK0.out.alloc HK0.out.size _)
   have hz0:(V0.alloc (.cells #[.bool false,.int .i64 0] 96)).heap.size = V0.heap.size + 1:=by simp
   have HZ0:=Lib.hid hz0
   clear hz0
   refine any_do rfl rfl (fun K hK => ?_)
   go_simp
   refine hK _ _ (SR.out _ HK1.out) ?_
   clear hK K hS
   (try simp only [Act.put,gA,gS,gZ,sA,sZ,sS])
   have hS:=SR.out _ HK1.out
   generalize V0.alloc (.cells #[.bool false,.int .i64 0] 96) = V1 at HN0 HK1 HZ0 hS ⊢
   refine any_run hd (L:=[2]) (by kernel_rfl) (by decide) (fun ix hix hd2 => ?_)
   clear hd
   have hd:=hd2
   clear hd2
   simp only [List.mem_cons,List.not_mem_nil,or_false] at hix
   subst hix
   have HN1:=Lib.hid (show Blk (V1.alloc (.cells #[.bool false,.int .i64 0] 96)) V1.heap.size 96 #[.bool false,.int .i64 0] from Blk.new V1 _ _)
   have HK2:=Lib.hid (show Below W.heap.size W (V1.alloc (.cells #[.bool false,.int .i64 0] 96)) from HK1.out.alloc HK1.out.size _)
   have hz1:(V1.alloc (.cells #[.bool false,.int .i64 0] 96)).heap.size = V1.heap.size + 1:=by simp
   have HZ1:=Lib.hid hz1
   clear hz1
   have HO:=Lib.hid (HN0.out.alloc (.cells #[.bool false,.int .i64 0] 96))
   refine any_do rfl rfl (fun K hK => ?_)
   go_simp
   refine hK _ _ (SR.out _ HK2.out) ?_
   clear hK K hS
   (try simp only [Act.put,gA,gS,gZ,sA,sZ,sS])
   have hS:=SR.out _ HK2.out
   generalize V1.alloc (.cells #[.bool false,.int .i64 0] 96) = V2 at HN1 HK2 HZ1 HO hS ⊢
   have HF:=Lib.hid (show Blk V2 V1.heap.size 96 #[.bool false,.int .i64 0]∧Blk V2 V0.heap.size 96 #[.bool false,.int .i64 0] from ⟨HN1.out,HO.out⟩)
   have HB:=HK2
   have HAB:=Lib.hid (show W.heap.size ≤ V1.heap.size∧W.heap.size ≤ V0.heap.size∧V1.heap.size ≠ V0.heap.size∧V0.heap.size ≠ V1.heap.size from by
    have h0:=HK0.out.size
    have h1:=HZ0.out
    refine ⟨by omega,by omega,by omega,by omega⟩)
   clear HK2 HN1 HO HN0 HK1 HZ0 HZ1
   generalize V0.heap.size = b at HF HAB ⊢
   generalize V1.heap.size = a at HF HAB ⊢
   refine any_run hd (L:=[4]) (by kernel_rfl) (by decide) (fun ix hix hd2 => ?_)
   clear hd
   have hd:=hd2
   clear hd2
   simp only [List.mem_cons,List.not_mem_nil,or_false] at hix
   subst hix
   have c0:V2.cell? ⟨a,0,none⟩ = some (.bool false):=HF.out.1.cell 0
   have f0:V2.frozen? ⟨a,0,none⟩ = false:=HF.out.1.frozen 0
   have ks:=HF.out.1.set 0 (.bool false)
   have c1:(V2.setCell ⟨a,0,none⟩ (.bool false)).cell? ⟨a,1,none⟩ = some (.int .i64 0):=ks.cell 1
   have f1:(V2.setCell ⟨a,0,none⟩ (.bool false)).frozen? ⟨a,1,none⟩ = false:=ks.frozen 1
   have ks2:Blk ((V2.setCell ⟨a,0,none⟩ (.bool false)).setCell ⟨a,1,none⟩ (.int .i64 0)) a 96 #[.bool false,.int .i64 0]:=ks.set 1 (.int .i64 0)
   have HF2:=Lib.hid (show Blk ((V2.setCell ⟨a,0,none⟩ (.bool false)).setCell ⟨a,1,none⟩ (.int .i64 0)) a 96 #[.bool false,.int .i64 0]∧Blk ((V2.setCell ⟨a,0,none⟩ (.bool false)).setCell ⟨a,1,none⟩ (.int .i64 0)) b 96 #[.bool false,.int .i64 0] from ⟨ks2,(HF.out.2.far (p:=⟨a,0,none⟩) HAB.out.2.2.2 _).far (p:=⟨a,1,none⟩) HAB.out.2.2.2 _⟩)
   have HB2:=Lib.hid (show Below W.heap.size W ((V2.setCell ⟨a,0,none⟩ (.bool false)).setCell ⟨a,1,none⟩ (.int .i64 0)) from (HB.out.setCell (p:=⟨a,0,none⟩) HAB.out.1 _).setCell (p:=⟨a,1,none⟩) HAB.out.1 _)
   clear ks ks2
   refine any_do rfl rfl (fun K hK => ?_)
   go_simp
   refine hK _ _ (SR.out _ HB2.out) ?_
   clear hK K c0 c1 f0 f1 HF HB hS
   (try simp only [Act.put,gA,gS,gZ,sA,sZ,sS])
   generalize (V2.setCell ⟨a,0,none⟩ (.bool false)).setCell ⟨a,1,none⟩ (.int .i64 0) = V3 at HF2 HB2 ⊢
   have HF:=HF2
   have HB:=HB2
   clear HF2 HB2
   have hS:=SR.out _ HB.out
   refine any_run hd (L:=[5]) (by kernel_rfl) (by decide) (fun ix hix hd2 => ?_)
   clear hd
   have hd:=hd2
   clear hd2
   simp only [List.mem_cons,List.not_mem_nil,or_false] at hix
   subst hix
   have c0:V3.cell? ⟨b,0,none⟩ = some (.bool false):=HF.out.2.cell 0
   have f0:V3.frozen? ⟨b,0,none⟩ = false:=HF.out.2.frozen 0
   have ks:=HF.out.2.set 0 (.bool false)
   have c1:(V3.setCell ⟨b,0,none⟩ (.bool false)).cell? ⟨b,1,none⟩ = some (.int .i64 0):=ks.cell 1
   have f1:(V3.setCell ⟨b,0,none⟩ (.bool false)).frozen? ⟨b,1,none⟩ = false:=ks.frozen 1
   have ks2:Blk ((V3.setCell ⟨b,0,none⟩ (.bool false)).setCell ⟨b,1,none⟩ (.int .i64 0)) b 96 #[.bool false,.int .i64 0]:=ks.set 1 (.int .i64 0)
   have HF2:=Lib.hid (show Blk ((V3.setCell ⟨b,0,none⟩ (.bool false)).setCell ⟨b,1,none⟩ (.int .i64 0)) a 96 #[.bool false,.int .i64 0]∧Blk ((V3.setCell ⟨b,0,none⟩ (.bool false)).setCell ⟨b,1,none⟩ (.int .i64 0)) b 96 #[.bool false,.int .i64 0] from ⟨(HF.out.1.far (p:=⟨b,0,none⟩) HAB.out.2.2.1 _).far (p:=⟨b,1,none⟩) HAB.out.2.2.1 _,ks2⟩)
   have HB2:=Lib.hid (show Below W.heap.size W ((V3.setCell ⟨b,0,none⟩ (.bool false)).setCell ⟨b,1,none⟩ (.int .i64 0)) from (HB.out.setCell (p:=⟨b,0,none⟩) HAB.out.2.1 _).setCell (p:=⟨b,1,none⟩) HAB.out.2.1 _)
   clear ks ks2
   refine any_do rfl rfl (fun K hK => ?_)
   go_simp
   refine hK _ _ (SR.out _ HB2.out) ?_
   clear hK K c0 c1 f0 f1 HF HB hS
   (try simp only [Act.put,gA,gS,gZ,sA,sZ,sS])
   generalize (V3.setCell ⟨b,0,none⟩ (.bool false)).setCell ⟨b,1,none⟩ (.int .i64 0) = V4 at HF2 HB2 ⊢
   have HF:=HF2
   have HB:=HB2
   clear HF2 HB2
   have hS:=SR.out _ HB.out
   refine any_done (by kernel_rfl) ?_
   clear hd hS
   dsimp only [noPan2]
   go_wp2
   go_meet
   case rel => exact ⟨a,b,rfl,rfl,Lib.hid (smI2 HI.out HB.out HF.out.1 HF.out.2 HAB.out.1 HAB.out.2.1 HAB.out.2.2.1)⟩
 case rest =>
  obtain ⟨g3,g4,rfl,rfl,hc⟩:=hcut
  clear HI
  have c31:wc.cell? ⟨g3,1,none⟩ = some (.int .i64 0):=hc.out.2.2.2.2.1.cell 1
  have f31:=hc.out.2.2.2.2.1.frozen 1
  have k4:=hc.out.2.2.2.2.2.1.far (p:=⟨g3,1,none⟩) hc.out.2.2.2.2.2.2.2.2.symm (.int .i64 1)
  have c41:(wc.setCell ⟨g3,1,none⟩ (.int .i64 1)).cell? ⟨g4,1,none⟩ = some (.int .i64 0):=k4.cell 1
  have f41:=k4.frozen 1
  have FX:=Lib.hid (show Below w.heap.size w ((wc.setCell ⟨g3,1,none⟩ (.int .i64 1)).setCell ⟨g4,1,none⟩ (.int .i64 2))∧Blk ((wc.setCell ⟨g3,1,none⟩ (.int .i64 1)).setCell ⟨g4,1,none⟩ (.int .i64 2)) w.heap.size 50 #[.int .i64 0,.slice none 0 0] ∧
    Blk ((wc.setCell ⟨g3,1,none⟩ (.int .i64 1)).setCell ⟨g4,1,none⟩ (.int .i64 2)) (w.heap.size + 1) 96 #[.bool false,.int .i64 0]∧Blk ((wc.setCell ⟨g3,1,none⟩ (.int .i64 1)).setCell ⟨g4,1,none⟩ (.int .i64 2)) (w.heap.size + 1 + 1) 96 #[.bool true,.int .i64 0] ∧
    Blk ((wc.setCell ⟨g3,1,none⟩ (.int .i64 1)).setCell ⟨g4,1,none⟩ (.int .i64 2)) g3 96 #[.bool false,.int .i64 1]∧Blk ((wc.setCell ⟨g3,1,none⟩ (.int .i64 1)).setCell ⟨g4,1,none⟩ (.int .i64 2)) g4 96 #[.bool false,.int .i64 2] from by
   obtain ⟨i1,i2,i3,i4,i5,i6,i7,i8,i9⟩:=hc.out
   have u:Upd (fun k => k = g3 ∨ k = g4) wc ((wc.setCell ⟨g3,1,none⟩ (.int .i64 1)).setCell ⟨g4,1,none⟩ (.int .i64 2)):=((Upd.refl _ wc).setCell (p:=⟨g3,1,none⟩) (.inl (.inl rfl)) _).setCell (p:=⟨g4,1,none⟩) (.inl (.inr rfl)) _
   exact ⟨i1.trans (u.below (fun k _ hk => by rcases hk with e | e <;> omega) i1.size),i2.upd u (by omega),i3.upd u (by omega),i4.upd u (by omega),(i5.set 1 (.int .i64 1)).far (p:=⟨g4,1,none⟩) i9 _,k4.set 1 (.int .i64 2)⟩)
  clear k4 hc
  go_upto_region 4 with (fail)
  clear c31 f31 c41 f41
  generalize (wc.setCell ⟨g3,1,none⟩ (.int .i64 1)).setCell ⟨g4,1,none⟩ (.int .i64 2) = W3 at FX ⊢
  have c20:W3.cell? ⟨w.heap.size + 1 + 1,0,none⟩ = some (.bool true):=FX.out.2.2.2.1.cell 0
  have c21:W3.cell? ⟨w.heap.size + 1 + 1,1,none⟩ = some (.int .i64 0):=FX.out.2.2.2.1.cell 1
  have k5:=Blk.new W3 96 #[.bool true,.int .i64 0]
  have c51:(W3.alloc (.cells #[.bool true,.int .i64 0] 96)).cell? ⟨W3.heap.size,1,none⟩ = some (.int .i64 0):=k5.cell 1
  have f51:=k5.frozen 1
  have F5:=Lib.hid (show Below w.heap.size w (W3.alloc (.cells #[.bool true,.int .i64 1] 96))∧Blk (W3.alloc (.cells #[.bool true,.int .i64 1] 96)) w.heap.size 50 #[.int .i64 0,.slice none 0 0] ∧
    Blk (W3.alloc (.cells #[.bool true,.int .i64 1] 96)) (w.heap.size + 1) 96 #[.bool false,.int .i64 0]∧Blk (W3.alloc (.cells #[.bool true,.int .i64 1] 96)) (w.heap.size + 1 + 1) 96 #[.bool true,.int .i64 0] ∧
    Blk (W3.alloc (.cells #[.bool true,.int .i64 1] 96)) g3 96 #[.bool false,.int .i64 1]∧Blk (W3.alloc (.cells #[.bool true,.int .i64 1] 96)) g4 96 #[.bool false,.int .i64 2]∧Blk (W3.alloc (.cells #[.bool true,.int .i64 1] 96)) W3.heap.size 96 #[.bool true,.int .i64 1] from by
   obtain ⟨i1,i2,i3,i4,i5,i6⟩:=FX.out
   have b:Below W3.heap.size W3 (W3.alloc (.cells #[.bool true,.int .i64 1] 96)):=by (repeat (first | exact Below.refl _ _ | apply Below.drew | refine Below.alloc ?_ (by first | exact Nat.le_refl _ | (simp;done) | (simp;omega)) _ | refine Below.setCell ?_ (by first | exact Nat.le_refl _ | (simp;done) | (simp;omega)) _))
   have u:=Upd.of_below b (fun _ => False)
   exact ⟨i1.trans (b.mono i1.size),i2.upd u id,i3.upd u id,i4.upd u id,i5.upd u id,i6.upd u id,Blk.new W3 _ _⟩)
  clear k5 FX
  go_upto_region 6 with (fail)
  clear c20 c21 c51 f51
  generalize W3.alloc (.cells #[.bool true,.int .i64 1] 96) = W5 at F5 ⊢
  generalize W3.heap.size = g5 at F5 ⊢
  obtain ⟨i1,i2,i3,i4,i5,i6,i7⟩:=F5.out
  have a30:W5.cell? ⟨g3,0,none⟩ = some (.bool false):=i5.cell 0
  have a31:W5.cell? ⟨g3,1,none⟩ = some (.int .i64 1):=i5.cell 1
  have a40:W5.cell? ⟨g4,0,none⟩ = some (.bool false):=i6.cell 0
  have a41:W5.cell? ⟨g4,1,none⟩ = some (.int .i64 2):=i6.cell 1
  have j4:=i4.alloc (.cells #[.bool false,.int .i64 1,.bool false,.int .i64 2] 96)
  have a20:(W5.alloc (.cells #[.bool false,.int .i64 1,.bool false,.int .i64 2] 96)).cell? ⟨w.heap.size + 1 + 1,0,none⟩ = some (.bool true):=j4.cell 0
  have a21:(W5.alloc (.cells #[.bool false,.int .i64 1,.bool false,.int .i64 2] 96)).cell? ⟨w.heap.size + 1 + 1,1,none⟩ = some (.int .i64 0):=j4.cell 1
  have j1:=(i3.alloc (.cells #[.bool false,.int .i64 1,.bool false,.int .i64 2] 96)).alloc (.cells #[.bool true,.int .i64 0] 96)
  have j6:=(i6.alloc (.cells #[.bool false,.int .i64 1,.bool false,.int .i64 2] 96)).alloc (.cells #[.bool true,.int .i64 0] 96)
  have a10:=j1.cell 0
  have a11:=j1.cell 1
  have a60:=j6.cell 0
  have a61:=j6.cell 1
  have j7:=((i7.alloc (.cells #[.bool false,.int .i64 1,.bool false,.int .i64 2] 96)).alloc (.cells #[.bool true,.int .i64 0] 96)).alloc (.cells #[.bool false,.int .i64 0,.bool false,.int .i64 2] 96)
  have a70:=j7.cell 0
  have a71:=j7.cell 1
  simp only [List.getElem?_toArray,List.getElem?_cons_zero,List.getElem?_cons_succ] at a10 a11 a60 a61 a70 a71
  have kz:=((((i2.alloc (.cells #[.bool false,.int .i64 1,.bool false,.int .i64 2] 96)).alloc (.cells #[.bool true,.int .i64 0] 96)).alloc (.cells #[.bool false,.int .i64 0,.bool false,.int .i64 2] 96)).alloc (.cells #[.bool true,.int .i64 1] 96)).alloc (.cells #[.int .i64 0,.slice (some ⟨W5.heap.size,0,none⟩) 2 2,.int .i64 1,.slice (some ⟨W5.heap.size + 1,0,none⟩) 1 1,.int .i64 2,.slice (some ⟨W5.heap.size + 1 + 1,0,none⟩) 2 2,.int .i64 2,.slice (some ⟨W5.heap.size + 1 + 1 + 1,0,none⟩) 1 1] 71)
  have z0:=kz.cell 0
  have fz0:=kz.frozen 0
  have kz1:=kz.set 0 (.int .i64 3)
  have z1:=kz1.cell 1
  have fz1:=kz1.frozen 1
  have kz2:=kz1.set 1 (.slice (some ⟨W5.heap.size + 1 + 1 + 1 + 1,0,none⟩) 4 4)
  have y0:=kz2.cell 0
  have y1:=kz2.cell 1
  simp only [List.getElem?_toArray,List.setIfInBounds_toArray,List.set_cons_zero,List.set_cons_succ,List.getElem?_cons_zero,List.getElem?_cons_succ] at z0 z1 y0 y1
  have hfar:∀ k,w.heap.size + 1 ≤ k→¬ k = w.heap.size:=fun k h => by omega
  have hn5:w.heap.size + 1 ≤ W5.heap.size:=by have:=i4.lt;omega
  have FIN:=Lib.hid (show SmallQ w (.returned (.agg #[.int .i64 3,(.slice (some ⟨W5.heap.size + 1 + 1 + 1 + 1,0,none⟩) 4 4)])) (((((((W5.alloc (.cells #[.bool false,.int .i64 1,.bool false,.int .i64 2] 96)).alloc (.cells #[.bool true,.int .i64 0] 96)).alloc (.cells #[.bool false,.int .i64 0,.bool false,.int .i64 2] 96)).alloc (.cells #[.bool true,.int .i64 1] 96)).alloc (.cells #[.int .i64 0,.slice (some ⟨W5.heap.size,0,none⟩) 2 2,.int .i64 1,.slice (some ⟨W5.heap.size + 1,0,none⟩) 1 1,.int .i64 2,.slice (some ⟨W5.heap.size + 1 + 1,0,none⟩) 2 2,.int .i64 2,.slice (some ⟨W5.heap.size + 1 + 1 + 1,0,none⟩) 1 1] 71)).setCell ⟨w.heap.size,0,none⟩ (.int .i64 3)).setCell ⟨w.heap.size,1,none⟩ (.slice (some ⟨W5.heap.size + 1 + 1 + 1 + 1,0,none⟩) 4 4)) from by
   have b16:=(((((Blk.new W5 96 #[.bool false,.int .i64 1,.bool false,.int .i64 2]).alloc (.cells #[.bool true,.int .i64 0] 96)).alloc (.cells #[.bool false,.int .i64 0,.bool false,.int .i64 2] 96)).alloc (.cells #[.bool true,.int .i64 1] 96)).alloc (.cells #[.int .i64 0,.slice (some ⟨W5.heap.size,0,none⟩) 2 2,.int .i64 1,.slice (some ⟨W5.heap.size + 1,0,none⟩) 1 1,.int .i64 2,.slice (some ⟨W5.heap.size + 1 + 1,0,none⟩) 2 2,.int .i64 2,.slice (some ⟨W5.heap.size + 1 + 1 + 1,0,none⟩) 1 1] 71))
   have b19:=((((Blk.new (W5.alloc (.cells #[.bool false,.int .i64 1,.bool false,.int .i64 2] 96)) 96 #[.bool true,.int .i64 0]).alloc (.cells #[.bool false,.int .i64 0,.bool false,.int .i64 2] 96)).alloc (.cells #[.bool true,.int .i64 1] 96)).alloc (.cells #[.int .i64 0,.slice (some ⟨W5.heap.size,0,none⟩) 2 2,.int .i64 1,.slice (some ⟨W5.heap.size + 1,0,none⟩) 1 1,.int .i64 2,.slice (some ⟨W5.heap.size + 1 + 1,0,none⟩) 2 2,.int .i64 2,.slice (some ⟨W5.heap.size + 1 + 1 + 1,0,none⟩) 1 1] 71))
   have b23:=(((Blk.new ((W5.alloc (.cells #[.bool false,.int .i64 1,.bool false,.int .i64 2] 96)).alloc (.cells #[.bool true,.int .i64 0] 96)) 96 #[.bool false,.int .i64 0,.bool false,.int .i64 2]).alloc (.cells #[.bool true,.int .i64 1] 96)).alloc (.cells #[.int .i64 0,.slice (some ⟨W5.heap.size,0,none⟩) 2 2,.int .i64 1,.slice (some ⟨W5.heap.size + 1,0,none⟩) 1 1,.int .i64 2,.slice (some ⟨W5.heap.size + 1 + 1,0,none⟩) 2 2,.int .i64 2,.slice (some ⟨W5.heap.size + 1 + 1 + 1,0,none⟩) 1 1] 71))
   have b26:=((Blk.new (((W5.alloc (.cells #[.bool false,.int .i64 1,.bool false,.int .i64 2] 96)).alloc (.cells #[.bool true,.int .i64 0] 96)).alloc (.cells #[.bool false,.int .i64 0,.bool false,.int .i64 2] 96)) 96 #[.bool true,.int .i64 1]).alloc (.cells #[.int .i64 0,.slice (some ⟨W5.heap.size,0,none⟩) 2 2,.int .i64 1,.slice (some ⟨W5.heap.size + 1,0,none⟩) 1 1,.int .i64 2,.slice (some ⟨W5.heap.size + 1 + 1,0,none⟩) 2 2,.int .i64 2,.slice (some ⟨W5.heap.size + 1 + 1 + 1,0,none⟩) 1 1] 71))
   have b28:=Blk.new ((((W5.alloc (.cells #[.bool false,.int .i64 1,.bool false,.int .i64 2] 96)).alloc (.cells #[.bool true,.int .i64 0] 96)).alloc (.cells #[.bool false,.int .i64 0,.bool false,.int .i64 2] 96)).alloc (.cells #[.bool true,.int .i64 1] 96)) 71 #[.int .i64 0,.slice (some ⟨W5.heap.size,0,none⟩) 2 2,.int .i64 1,.slice (some ⟨W5.heap.size + 1,0,none⟩) 1 1,.int .i64 2,.slice (some ⟨W5.heap.size + 1 + 1,0,none⟩) 2 2,.int .i64 2,.slice (some ⟨W5.heap.size + 1 + 1 + 1,0,none⟩) 1 1]
   simp only [World.size_alloc] at b19 b23 b26 b28
   have d16:=(b16.far (p:=⟨w.heap.size,0,none⟩) (by show ¬ W5.heap.size = w.heap.size;omega) (.int .i64 3)).far (p:=⟨w.heap.size,1,none⟩) (by show ¬ W5.heap.size = w.heap.size;omega) (.slice (some ⟨W5.heap.size + 1 + 1 + 1 + 1,0,none⟩) 4 4)
   have d19:=(b19.far (p:=⟨w.heap.size,0,none⟩) (by show ¬ W5.heap.size + 1 = w.heap.size;omega) (.int .i64 3)).far (p:=⟨w.heap.size,1,none⟩) (by show ¬ W5.heap.size + 1 = w.heap.size;omega) (.slice (some ⟨W5.heap.size + 1 + 1 + 1 + 1,0,none⟩) 4 4)
   have d23:=(b23.far (p:=⟨w.heap.size,0,none⟩) (by show ¬ W5.heap.size + 1 + 1 = w.heap.size;omega) (.int .i64 3)).far (p:=⟨w.heap.size,1,none⟩) (by show ¬ W5.heap.size + 1 + 1 = w.heap.size;omega) (.slice (some ⟨W5.heap.size + 1 + 1 + 1 + 1,0,none⟩) 4 4)
   have d26:=(b26.far (p:=⟨w.heap.size,0,none⟩) (by show ¬ W5.heap.size + 1 + 1 + 1 = w.heap.size;omega) (.int .i64 3)).far (p:=⟨w.heap.size,1,none⟩) (by show ¬ W5.heap.size + 1 + 1 + 1 = w.heap.size;omega) (.slice (some ⟨W5.heap.size + 1 + 1 + 1 + 1,0,none⟩) 4 4)
   have d28:=(b28.far (p:=⟨w.heap.size,0,none⟩) (by show ¬ W5.heap.size + 1 + 1 + 1 + 1 = w.heap.size;omega) (.int .i64 3)).far (p:=⟨w.heap.size,1,none⟩) (by show ¬ W5.heap.size + 1 + 1 + 1 + 1 = w.heap.size;omega) (.slice (some ⟨W5.heap.size + 1 + 1 + 1 + 1,0,none⟩) 4 4)
   have hb:Below W5.heap.size W5 (((((W5.alloc (.cells #[.bool false,.int .i64 1,.bool false,.int .i64 2] 96)).alloc (.cells #[.bool true,.int .i64 0] 96)).alloc (.cells #[.bool false,.int .i64 0,.bool false,.int .i64 2] 96)).alloc (.cells #[.bool true,.int .i64 1] 96)).alloc (.cells #[.int .i64 0,.slice (some ⟨W5.heap.size,0,none⟩) 2 2,.int .i64 1,.slice (some ⟨W5.heap.size + 1,0,none⟩) 1 1,.int .i64 2,.slice (some ⟨W5.heap.size + 1 + 1,0,none⟩) 2 2,.int .i64 2,.slice (some ⟨W5.heap.size + 1 + 1 + 1,0,none⟩) 1 1] 71)):=by (repeat (first | exact Below.refl _ _ | apply Below.drew | refine Below.alloc ?_ (by first | exact Nat.le_refl _ | (simp;done) | (simp;omega)) _ | refine Below.setCell ?_ (by first | exact Nat.le_refl _ | (simp;done) | (simp;omega)) _))
   have hb9:Below w.heap.size w (((((((W5.alloc (.cells #[.bool false,.int .i64 1,.bool false,.int .i64 2] 96)).alloc (.cells #[.bool true,.int .i64 0] 96)).alloc (.cells #[.bool false,.int .i64 0,.bool false,.int .i64 2] 96)).alloc (.cells #[.bool true,.int .i64 1] 96)).alloc (.cells #[.int .i64 0,.slice (some ⟨W5.heap.size,0,none⟩) 2 2,.int .i64 1,.slice (some ⟨W5.heap.size + 1,0,none⟩) 1 1,.int .i64 2,.slice (some ⟨W5.heap.size + 1 + 1,0,none⟩) 2 2,.int .i64 2,.slice (some ⟨W5.heap.size + 1 + 1 + 1,0,none⟩) 1 1] 71)).setCell ⟨w.heap.size,0,none⟩ (.int .i64 3)).setCell ⟨w.heap.size,1,none⟩ (.slice (some ⟨W5.heap.size + 1 + 1 + 1 + 1,0,none⟩) 4 4)):=((i1.trans (hb.mono i1.size)).setCell (p:=⟨w.heap.size,0,none⟩) (Nat.le_refl _) _).setCell (p:=⟨w.heap.size,1,none⟩) (Nat.le_refl _) _
   refine ⟨W5.heap.size + 1 + 1 + 1 + 1,4,[⟨⟨0,[⟨false,1⟩,⟨false,2⟩]⟩,some ⟨W5.heap.size,0,none⟩,2⟩,⟨⟨1,[⟨true,0⟩]⟩,some ⟨W5.heap.size + 1,0,none⟩,1⟩,⟨⟨2,[⟨false,0⟩,⟨false,2⟩]⟩,some ⟨W5.heap.size + 1 + 1,0,none⟩,2⟩,⟨⟨2,[⟨true,1⟩]⟩,some ⟨W5.heap.size + 1 + 1 + 1,0,none⟩,1⟩],rfl,⟨blk_row d28,fun v hv => ?_⟩,rfl,hb9⟩
   simp only [List.mem_cons,List.not_mem_nil,or_false] at hv
   rcases hv with rfl | rfl | rfl | rfl
   ·exact blk_row d16
   ·exact blk_row d19
   ·exact blk_row d23
   ·exact blk_row d26)
  clear i1 i2 i3 i4 i5 i6 i7 j4 j1 j6 j7 kz kz1 kz2 hfar hn5
  go_wp2
  generalize (((((((W5.alloc (.cells #[.bool false,.int .i64 1,.bool false,.int .i64 2] 96)).alloc (.cells #[.bool true,.int .i64 0] 96)).alloc (.cells #[.bool false,.int .i64 0,.bool false,.int .i64 2] 96)).alloc (.cells #[.bool true,.int .i64 1] 96)).alloc (.cells #[.int .i64 0,.slice (some ⟨W5.heap.size,0,none⟩) 2 2,.int .i64 1,.slice (some ⟨W5.heap.size + 1,0,none⟩) 1 1,.int .i64 2,.slice (some ⟨W5.heap.size + 1 + 1,0,none⟩) 2 2,.int .i64 2,.slice (some ⟨W5.heap.size + 1 + 1 + 1,0,none⟩) 1 1] 71)).setCell ⟨w.heap.size,0,none⟩ (.int .i64 3)).setCell ⟨w.heap.size,1,none⟩ (.slice (some ⟨W5.heap.size + 1 + 1 + 1 + 1,0,none⟩) 4 4)) = WF at FIN y0 y1 ⊢
  refine bodyPost_ret (v:=.agg #[.int .i64 3,(.slice (some ⟨W5.heap.size + 1 + 1 + 1 + 1,0,none⟩) 4 4)]) (by simp [results,Tryz.f78,go_sem,y0,y1]) rfl FIN.out
end Go.Proofs.YtddffnonlmfhdaaGreatDoor
namespace Go.Proofs.YtddffnonlmfhdaaGreatDoor
open Go.RowKit Go.Shelf
def sX:Txt:=⟨#[120]⟩
def sY:Txt:=⟨#[121]⟩
def sZq:Txt:=⟨#[122]⟩
def sAq:Txt:=⟨#[97]⟩
def sB:Txt:=⟨#[98]⟩
def ed1:Ed:=⟨sX,sAq,sY⟩
def ed2:Ed:=⟨sY,sB,sZq⟩
def gr1:Gr:=⟨[sX,sY],[ed1]⟩
def gr2:Gr:=⟨[sX,sY,sZq],[ed1,ed2]⟩
theorem ofI_1:ofI [] [ed1] = 0:=by
 have h1:gN [] [ed1] = [sX,sY]:=by
  refine setOf_eq stoT (by decide +kernel) (fun x => ?_)
  simp only [allT,ed1,endsL,List.flatMap_cons,List.flatMap_nil,List.mem_append,List.mem_cons,List.not_mem_nil,or_false]
  constructor
  ·rintro (rfl | rfl) <;> simp
  ·rintro (h | (rfl | rfl)) <;> simp_all
 have h2:gE [ed1] = [ed1]:=setOf_eq stoE rfl (fun _ => Iff.rfl)
 have h3:setOf ltT (lbs [ed1]) = [sAq]:=setOf_eq stoT rfl (fun x => by simp [lbs,ed1])
 rw [ofI,if_neg (by decide +kernel),h1,h2,capsI,h3]
 rw [if_neg (by decide),if_neg (by decide),if_neg (by decide),if_neg (Nat.not_lt.2 (by unfold textL loneL;decide +kernel))]
theorem ofI_2:ofI [sX,sY] [ed1,ed2] = 0:=by
 have h1:gN [sX,sY] [ed1,ed2] = [sX,sY,sZq]:=by
  refine setOf_eq stoT (by decide +kernel) (fun x => ?_)
  simp only [allT,ed1,ed2,endsL,List.flatMap_cons,List.flatMap_nil,List.mem_append,List.mem_cons,List.not_mem_nil,or_false]
  constructor
  ·rintro (rfl | rfl | rfl) <;> simp
  ·rintro ((rfl | rfl) | ((rfl | rfl) | (rfl | rfl))) <;> simp
 have h2:gE [ed1,ed2] = [ed1,ed2]:=setOf_eq stoE (by decide +kernel) (fun _ => Iff.rfl)
 have h3:setOf ltT (lbs [ed1,ed2]) = [sAq,sB]:=setOf_eq stoT (by decide +kernel) (fun x => by simp [lbs,ed1,ed2])
 rw [ofI,if_neg (by decide +kernel),h1,h2,capsI,h3]
 rw [if_neg (by decide),if_neg (by decide),if_neg (by decide),if_neg (Nat.not_lt.2 (by unfold textL loneL;decide +kernel))]
theorem addn_new {N:List Txt} {s:Txt} (h:inB s N = false):addN N s = N ++ [s]:=by
 unfold addN
 rw [h]
 rfl
theorem addn_old {N:List Txt} {s:Txt} (h:inB s N = true):addN N s = N:=by
 unfold addN
 rw [h]
 rfl
theorem add_1:addEdge ⟨[],[]⟩ ed1 = (gr1,true,0):=by
 rw [addEdge_yes (by simp) ofI_1]
 have h1:addN [] sX = [sX]:=addn_new (by decide +kernel)
 have h2:addN [sX] sY = [sX,sY]:=addn_new (by decide +kernel)
 show ((⟨addN (addN [] sX) sY,[] ++ [ed1]⟩:Gr),true,(0:Int)) = _
 rw [h1,h2]
 rfl
theorem add_2:addEdge gr1 ed2 = (gr2,true,0):=by
 rw [addEdge_yes (by show ed2 ∉ [ed1];simp [ed1,ed2];decide +kernel) ofI_2]
 have h1:addN [sX,sY] sY = [sX,sY]:=addn_old (by decide +kernel)
 have h2:addN [sX,sY] sZq = [sX,sY,sZq]:=addn_new (by decide +kernel)
 show ((⟨addN (addN [sX,sY] sY) sZq,[ed1] ++ [ed2]⟩:Gr),true,(0:Int)) = _
 rw [h1,h2]
 rfl
theorem at_gr2 {i:Nat} {s:Txt} (h:gr2.N[i]? = some s):(i = 0∧s = sX) ∨ (i = 1∧s = sY) ∨ (i = 2∧s = sZq):=by
 match i,h with
 | 0,h => exact .inl ⟨rfl,(Option.some.inj h).symm⟩
 | 1,h => exact .inr (.inl ⟨rfl,(Option.some.inj h).symm⟩)
 | 2,h => exact .inr (.inr ⟨rfl,(Option.some.inj h).symm⟩)
 | n + 3,h => simp [gr2] at h
theorem ne_XY:sX ≠ sY:=by decide +kernel
theorem ne_XZ:sX ≠ sZq:=by decide +kernel
theorem ne_YZ:sY ≠ sZq:=by decide +kernel
theorem ne_AB:sAq ≠ sB:=by decide +kernel
theorem el_0 {i j:Nat} (h:ElG gr2 [sAq,sB] 0 i j):i = 0∧j = 1:=by
 obtain ⟨lb,hl,x,hx,he,h1,h2⟩:=h
 obtain rfl:sAq = lb:=Option.some.inj hl
 have hx:x ∈ [ed1,ed2]:=hx
 simp only [List.mem_cons,List.not_mem_nil,or_false] at hx
 rcases hx with rfl | rfl
 ·have h1:gr2.N[i]? = some sX:=h1
  have h2:gr2.N[j]? = some sY:=h2
  refine ⟨?_,?_⟩
  ·rcases at_gr2 h1 with ⟨e,-⟩ | ⟨-,e⟩ | ⟨-,e⟩
   ·exact e
   ·exact absurd e ne_XY
   ·exact absurd e ne_XZ
  ·rcases at_gr2 h2 with ⟨-,e⟩ | ⟨e,-⟩ | ⟨-,e⟩
   ·exact absurd e.symm ne_XY
   ·exact e
   ·exact absurd e ne_YZ
 ·exact absurd he.symm ne_AB
theorem el_1 {i j:Nat} (h:ElG gr2 [sAq,sB] 1 i j):i = 1∧j = 2:=by
 obtain ⟨lb,hl,x,hx,he,h1,h2⟩:=h
 obtain rfl:sB = lb:=Option.some.inj hl
 have hx:x ∈ [ed1,ed2]:=hx
 simp only [List.mem_cons,List.not_mem_nil,or_false] at hx
 rcases hx with rfl | rfl
 ·exact absurd he ne_AB
 ·have h1:gr2.N[i]? = some sY:=h1
  have h2:gr2.N[j]? = some sZq:=h2
  refine ⟨?_,?_⟩
  ·rcases at_gr2 h1 with ⟨-,e⟩ | ⟨e,-⟩ | ⟨-,e⟩
   ·exact absurd e.symm ne_XY
   ·exact e
   ·exact absurd e ne_YZ
  ·rcases at_gr2 h2 with ⟨-,e⟩ | ⟨-,e⟩ | ⟨e,-⟩
   ·exact absurd e.symm ne_XZ
   ·exact absurd e.symm ne_YZ
   ·exact e
def facts18 (a:Int) (i j:Nat):Prop:=(a = 1∧i = 0∧j = 1) ∨ (a = 2∧i = 1∧j = 2) ∨ (a = 0∧i = 0∧j = 2)
theorem der18 {a:Int} {i j:Nat}:DerP smallP (ElG gr2 [sAq,sB]) 3 a i j ↔ facts18 a i j:=by
 have d1:DerP smallP (ElG gr2 [sAq,sB]) 3 1 0 1:=.one (s:=⟨true,0⟩) (by simp [smallP]) ⟨sAq,rfl,ed1,by simp [gr2],rfl,rfl,rfl⟩
 have d2:DerP smallP (ElG gr2 [sAq,sB]) 3 2 1 2:=.one (s:=⟨true,1⟩) (by simp [smallP]) ⟨sB,rfl,ed2,by simp [gr2],rfl,rfl,rfl⟩
 constructor
 ·intro d
  have hc:Closed smallP (ElG gr2 [sAq,sB]) 3 facts18:=by
   refine ⟨fun a i h => ?_,fun a s i j h he => ?_,fun a s t i k j h h1 h2 => ?_⟩
   ·simp [smallP] at h
   ·simp only [smallP,List.mem_cons,List.not_mem_nil,or_false,Pr.mk.injEq,List.cons.injEq] at h
    rcases h with ⟨-,-,h⟩ | ⟨rfl,rfl,-⟩ | ⟨-,-,h⟩ | ⟨rfl,rfl,-⟩
    ·cases h
    ·exact .inl ⟨rfl,el_0 he⟩
    ·cases h
    ·exact .inr (.inl ⟨rfl,el_1 he⟩)
   ·simp only [smallP,List.mem_cons,List.not_mem_nil,or_false,Pr.mk.injEq,List.cons.injEq] at h
    rcases h with ⟨rfl,rfl,rfl,-⟩ | ⟨-,-,h⟩ | ⟨rfl,rfl,rfl,-⟩ | ⟨-,-,h⟩
    ·unfold facts18 at h1 h2 ⊢
     dsimp only at h1 h2
     omega
    ·cases h
    ·unfold facts18 at h1 h2 ⊢
     dsimp only at h1 h2
     omega
    ·cases h
  exact hc.least d
 ·rintro (⟨rfl,rfl,rfl⟩ | ⟨rfl,rfl,rfl⟩ | ⟨rfl,rfl,rfl⟩)
  ·exact d1
  ·exact d2
  ·exact .two (s:=⟨false,1⟩) (t:=⟨false,2⟩) (by simp [smallP]) d1 d2
theorem wd_ext {r s:List Nat} (hr:Wd r) (hs:Wd s) (h:∀ i j,i < 64→bitW r i j = bitW s i j):r = s:=by
 apply List.ext_getElem?
 intro i
 by_cases hi:i < 64
 ·have h1:r[i]? = some (r[i]?.getD 0):=by rw [List.getElem?_eq_getElem (by rw [hr.len];exact hi)];rfl
  have h2:s[i]? = some (s[i]?.getD 0):=by rw [List.getElem?_eq_getElem (by rw [hs.len];exact hi)];rfl
  rw [h1,h2]
  exact congrArg some (Nat.eq_of_testBit_eq (fun j => h i j hi))
 ·rw [List.getElem?_eq_none (by rw [hr.len];omega),List.getElem?_eq_none (by rw [hs.len];omega)]
theorem len_one {b:Option (List Nat)} (hb:WdO b) {i0 j0:Nat} (hi:i0 < 64) (hj:j0 < 64) (h:∀ i j,bitO b i j = true ↔ i = i0∧j = j0):oldW b = List.zipWith orN zero64 (oneB i0 j0):=by
 have hbit:∀ i j,i < 64→bitW (List.zipWith orN zero64 (oneB i0 j0)) i j = decide (i = i0∧j = j0):=fun i j hi' => by
  rw [bit_or zero64_wd hi hi']
  have:bitW zero64 i j = false:=by
   have:=bit_oldW none (i:=i) (j:=j) hi'
   exact this
  rw [this,Bool.false_or]
 have hwd:Wd (List.zipWith orN zero64 (oneB i0 j0)):=by
  have h1:WdO (joinO none (oneB i0 j0)):=WdO.joinO (b:=none) (fun r e => by cases e) (oneB_wd hj)
  refine h1 _ ?_
  unfold joinO
  rw [if_neg (oneB_ne hi)]
  rfl
 refine wd_ext hb.old hwd (fun i j hi' => ?_)
 rw [bit_oldW b hi',hbit i j hi',Bool.eq_iff_iff,h i j,decide_eq_true_eq]
theorem len18 {B:Mats} (hw:∀ k,WdO (B k)) (h:∀ k,k < 3→∀ i j,bitO (B k) i j = true ↔ facts18 (k:Int) i j):lenM B 3 = 3:=by
 have h0:=len_one (hw 0) (i0:=0) (j0:=2) (by decide) (by decide) (fun i j => by rw [h 0 (by omega)];unfold facts18;simp)
 have h1:=len_one (hw 1) (i0:=0) (j0:=1) (by decide) (by decide) (fun i j => by rw [h 1 (by omega)];unfold facts18;simp)
 have h2:=len_one (hw 2) (i0:=1) (j0:=2) (by decide) (by decide) (fun i j => by rw [h 2 (by omega)];unfold facts18;simp)
 show 0 + lenB (oldW (B 0)) + lenB (oldW (B 1)) + lenB (oldW (B 2)) = 3
 rw [h0,h1,h2]
 decide +kernel
theorem chk18 {PV:List Pv} (h:PV.map (·.pr) = smallP):achkI 3 PV [sAq,sB] = 0:=by
 have hl:PV.length = 4:=by have:=congrArg List.length h;simpa [smallP] using this
 have hs:∀ p ∈ smallP,shapeOf p 3 2 = true:=by decide
 unfold achkI
 rw [if_neg (by rw [hl];decide),if_pos ⟨by decide +kernel,fun v hv => hs v.pr (by rw [← h];exact List.mem_map.2 ⟨v,hv,rfl⟩)⟩]
theorem chk18b (PV:List Pv):achkI 3 PV [sB,sAq] = 2:=by
 unfold achkI
 by_cases h:16 < [sB,sAq].length ∨ (3:Int) < 1 ∨ 512 < (3:Int) ∨ 8192 < PV.length
 ·rw [if_pos h]
 ·rw [if_neg h,if_neg (fun h => by
   have:upB ltT [sB,sAq] = false:=by decide +kernel
   rw [this] at h
   cases h.1)]
end Go.Proofs.YtddffnonlmfhdaaGreatDoor
namespace Go.Proofs.YtddffnonlmfhdaaGreatDoor
open Go.RowKit Go.Shelf
attribute [local go_sem] Oper.semAt_some
theorem postM_ret {F:Fence} {n:Nat} {P:Program} {fn:Func} {R:Ending→World→Prop} {a:Act} {w:World} {v:Value} (hr:(results fn a.tmps).run P w = .ok v w) (hd:a.defers = []) (hR:R (.returned v) w):bodyPostM F n P fn R .ret a w:=by
 show LeavesInM F n P fn a.tmps R a.defers .returning w
 rw [hd]
 exact ⟨v,hr,hR⟩
theorem apairs_bad (w:World) (F:Nat→Prop) (p side n nts:Nat) (B:Mats) (h:ClS w F p side n nts B) (hn1:1 ≤ nts) (k:Int) (hk:k < 0 ∨ (nts:Int) ≤ k) :
  Calls Tryz.prog 19 #[.pointer (some ⟨p,0,none⟩),.int .i64 k] w (Sam w (.tuple #[.slice none 0 0,.int .i64 4])):=by
 obtain ⟨O,pv,ad,hi,rfl⟩:=h
 obtain ⟨g,gc,rfl,-,-,-,-,-⟩:=own_cells hi.rows (by omega)
 have his:=ais_any w p g nts gc (hi.blk.cell 1)
 have q1:w.cell? ⟨p,1,none⟩ = some (.slice (some ⟨g,0,none⟩) nts gc):=hi.blk.cell 1
 clear hi
 refine (callsIn_wide (n:=1)).1 ?_
 refine callsIn_of_wp_marks Tryz.func19 rfl trivial ?_ rfl
 simp only [Tryz.ntmps19,List.size_toArray,List.length_cons,List.length_nil,Nat.reduceAdd,Nat.reduceSub,Array.replicate_succ,Array.replicate_zero,List.push_toArray,List.append_toArray,List.nil_append,List.cons_append]
 refine wpIn_wide.2 ?_
 go_wp2_with fail
 refine his.mono ?_
 clear his
 rintro e V ⟨rfl,hw⟩
 subst V
 by_cases h0:k < 0
 ·clear hk
  go_wp2
  refine postM_ret (v:=.tuple #[.slice none 0 0,.int .i64 4]) (by simp [results,Tryz.f19,go_sem]) rfl ⟨rfl,Below.refl _ _⟩
 ·have h1:(nts:Int) ≤ k:=by omega
  clear hk
  go_wp2
  refine postM_ret (v:=.tuple #[.slice none 0 0,.int .i64 4]) (by simp [results,Tryz.f19,go_sem]) rfl ⟨rfl,Below.refl _ _⟩
end Go.Proofs.YtddffnonlmfhdaaGreatDoor
namespace Go.Proofs.YtddffnonlmfhdaaGreatDoor
open Go.RowKit Go.Shelf
theorem has18 (B:Mats) (k i j:Nat) (hk:k < 3) (hi:i < 3) (hj:j < 3):hasV 3 3 B (k:Int) (i:Int) (j:Int) = .tuple #[.bool (bitO (B k) i j),.int .i64 0]:=by
 unfold hasV
 rw [if_pos (by omega),Int.toNat_natCast,Int.toNat_natCast,Int.toNat_natCast]
theorem aawake_any (w:World) (hT:TabW w) (htab:1 < w.heap.size):Calls Tryz.prog 22 #[] w (Sam w (.bool true)):=by
 have hk1:EdOk ed1:=by unfold EdOk TxtOk;decide
 have hk2:EdOk ed2:=by unfold EdOk TxtOk;decide
 have ok1:GOk gr1:=by have:=GOk.new.edge ed1;rw [add_1] at this;exact this
 have ok2:GOk gr2:=by have:=ok1.edge ed2;rw [add_2] at this;exact this
 have HT:=Lib.hid (And.intro hT htab)
 clear hT htab
 go_enter Tryz.func22,Tryz.ntmps22
 go_wp2_with fail
 refine (new_gr w).mono ?_
 rintro e W1 ⟨p,rfl,⟨F1,g1,n1⟩,b1⟩
 have hc:=addEdge_gr W1 F1 p ⟨[],[]⟩ g1 GOk.new ed1 hk1
 rw [add_1] at hc
 have HB1:=Lib.hid b1
 have HF1:=Lib.hid n1
 clear b1 n1 g1
 unfold ed1 sX sAq sY at hc
 dsimp only at hc
 go_wp2_with fail
 refine hc.mono ?_
 clear hc
 rintro e W2 ⟨rfl,F2,g2,u2,n2⟩
 obtain ⟨⟨F3,g3,n3⟩,b3⟩:=Fresh.step HF1.out HB1.out.size ⟨F2,g2,u2,n2⟩
 have HB2:=Lib.hid (HB1.out.trans b3)
 have HF2:=Lib.hid n3
 clear g2 u2 n2 b3 n3
 have hc:=addEdge_gr W2 F3 p gr1 g3 ok1 ed2 hk2
 rw [add_2] at hc
 clear g3
 unfold ed2 sY sB sZq at hc
 dsimp only at hc
 go_wp2_with fail
 refine hc.mono ?_
 clear hc
 rintro e W3 ⟨rfl,F4,g4,u4,n4⟩
 obtain ⟨⟨F5,g5,n5⟩,b5⟩:=Fresh.step HF2.out HB2.out.size ⟨F4,g4,u4,n4⟩
 have HB3:=Lib.hid (HB2.out.trans b5)
 have HG:=Lib.hid g5
 clear g4 u4 n4 b5 n5 g5
 have hsm:=small_ok W3
 go_wp2_with fail
 refine hsm.mono ?_
 clear hsm
 rintro e W4 ⟨gp,gc,PV,rfl,hPV,hPr,b4⟩
 have b5:Below W4.heap.size W4 (W4.alloc (.cells #[.string sAq,.string sB] 9)):=(Below.refl _ _).alloc (Nat.le_refl _) _
 have hlr:RowR (W4.alloc (.cells #[.string sAq,.string sB] 9)) (some ⟨W4.heap.size,0,none⟩) (txtCells [sAq,sB]):=blk_row (Blk.new W4 9 #[.string sAq,.string sB])
 have hlen4:PV.length = 4:=by have:=congrArg List.length hPr;simpa [smallP] using this
 have hb15:=HB3.out.trans ((b4.trans (b5.mono b4.size)).mono HB3.out.size)
 have hnew:=anew_any (W4.alloc (.cells #[.string sAq,.string sB] 9)) 3 (some ⟨gp,0,none⟩) gc PV (hPV.below b5) (some ⟨W4.heap.size,0,none⟩) 2 [sAq,sB] hlr F5 p gr2 ((HG.out.below b4).below b5) ok2 (HT.out.1.upd (Upd.of_below hb15 (fun _ => False)) HT.out.2 id) (Nat.lt_of_lt_of_le HT.out.2 hb15.size)
 rw [hlen4] at hnew
 have hnq:∀ e w',NewQ (W4.alloc (.cells #[.string sAq,.string sB] 9)) 3 PV [sAq,sB] gr2 e w'→∃ (x:Nat) (F:Nat→Prop) (B:Mats),e = .returned (.tuple #[.pointer (some ⟨x,0,none⟩),.int .i64 0])∧ClS w' F x 3 3 3 B∧Below (W4.alloc (.cells #[.string sAq,.string sB] 9)).heap.size (W4.alloc (.cells #[.string sAq,.string sB] 9)) w' ∧
   (∀ k,k < 3→∀ i j,bitO (B k) i j = true ↔ facts18 (k:Int) i j)∧lenM B 3 = 3:=by
  rintro e w' (⟨h,-,-⟩ | ⟨-,x,F,B,he,h1,-,h2,h3,h4⟩)
  ·rw [chk18 hPr] at h;cases h
  ·rw [hPr] at h3
   have h5:∀ k,k < 3→∀ i j,bitO (B k) i j = true ↔ facts18 (k:Int) i j:=fun k hk i j => (h3 k hk i j).trans der18
   exact ⟨x,F,B,he,h1,h2,h5,len18 h4 h5⟩
 have HNQ:=Lib.hid hnq
 have HB5:=Lib.hid hb15
 have HG5:=Lib.hid ((HG.out.below b4).below b5)
 clear hnq hb15 b4 b5 hlr hPV hPr hlen4 HG
 unfold sAq sB at hnew
 simp only [List.length_cons,List.length_nil,Nat.reduceAdd] at hnew
 go_wp2_with fail
 refine hnew.mono ?_
 clear hnew
 rintro e W6 hq
 obtain ⟨x,F,B,rfl,hcl,hb6,hbit,hl3⟩:=HNQ.out e W6 hq
 have HB6:=Lib.hid (HB5.out.trans (hb6.mono HB5.out.size))
 have HG6:=Lib.hid (HG5.out.below hb6)
 have h1:=ahas_any W6 F x 3 3 3 B hcl (by decide) (by decide) (by decide) 0 0 2
 have e1:hasV 3 3 B 0 0 2 = .tuple #[.bool true,.int .i64 0]:=by
  have:=has18 B 0 0 2 (by decide) (by decide) (by decide)
  rw [(hbit 0 (by decide) 0 2).2 (by unfold facts18;simp)] at this
  exact this
 have e2:hasV 3 3 B 0 1 2 = .tuple #[.bool false,.int .i64 0]:=by
  have:=has18 B 0 1 2 (by decide) (by decide) (by decide)
  have hf:bitO (B 0) 1 2 = false:=by
   cases h:bitO (B 0) 1 2 with
   | false => rfl
   | true =>
    have:=(hbit 0 (by decide) 1 2).1 h
    unfold facts18 at this
    omega
  rw [hf] at this
  exact this
 rw [e1] at h1
 have HC:=Lib.hid (And.intro hcl (And.intro e2 hl3))
 clear hq hb6 hbit hl3 e1 e2 hcl HG5 HNQ
 go_wp2_with fail
 refine h1.mono ?_
 clear h1
 rintro e W7 ⟨rfl,hb7⟩
 have hcl7:=HC.out.1.below hb7
 have h2:=ahas_any W7 F x 3 3 3 B hcl7 (by decide) (by decide) (by decide) 0 1 2
 rw [HC.out.2.1] at h2
 have HB7:=Lib.hid (HB6.out.trans (hb7.mono HB6.out.size))
 have HG7:=Lib.hid (HG6.out.below hb7)
 have HC7:=Lib.hid hcl7
 clear hb7 hcl7
 go_wp2_with fail
 refine h2.mono ?_
 clear h2
 rintro e W8 ⟨rfl,hb8⟩
 have HB8:=Lib.hid (HB7.out.trans (hb8.mono HB7.out.size))
 have HG8:=Lib.hid (HG7.out.below hb8)
 have HC8:=Lib.hid (HC7.out.below hb8)
 clear hb8
 have hsm:=small_ok W8
 go_wp2_with fail
 refine hsm.mono ?_
 clear hsm
 rintro e W9 ⟨gp2,gc2,PV2,rfl,hPV,hPr,b4⟩
 have b5:Below W9.heap.size W9 (W9.alloc (.cells #[.string sB,.string sAq] 9)):=(Below.refl _ _).alloc (Nat.le_refl _) _
 have hlr:RowR (W9.alloc (.cells #[.string sB,.string sAq] 9)) (some ⟨W9.heap.size,0,none⟩) (txtCells [sB,sAq]):=blk_row (Blk.new W9 9 #[.string sB,.string sAq])
 have hlen4:PV2.length = 4:=by have:=congrArg List.length hPr;simpa [smallP] using this
 have hb15:=HB8.out.trans ((b4.trans (b5.mono b4.size)).mono HB8.out.size)
 have hnew:=anew_any (W9.alloc (.cells #[.string sB,.string sAq] 9)) 3 (some ⟨gp2,0,none⟩) gc2 PV2 (hPV.below b5) (some ⟨W9.heap.size,0,none⟩) 2 [sB,sAq] hlr F5 p gr2 ((HG8.out.below b4).below b5) ok2 (HT.out.1.upd (Upd.of_below hb15 (fun _ => False)) HT.out.2 id) (Nat.lt_of_lt_of_le HT.out.2 hb15.size)
 rw [hlen4] at hnew
 have hnq:∀ e w',NewQ (W9.alloc (.cells #[.string sB,.string sAq] 9)) 3 PV2 [sB,sAq] gr2 e w'→e = .returned (.tuple #[.pointer none,.int .i64 2])∧Below (W9.alloc (.cells #[.string sB,.string sAq] 9)).heap.size (W9.alloc (.cells #[.string sB,.string sAq] 9)) w':=by
  rintro e w' (⟨-,h1,h2⟩ | ⟨h,-⟩)
  ·exact ⟨h1,h2⟩
  ·rw [chk18b] at h;cases h
 have HNQ:=Lib.hid hnq
 have HB9:=Lib.hid hb15
 have HC9:=Lib.hid ((HC8.out.below b4).below b5)
 clear hnq hb15 b4 b5 hlr hPV hPr hlen4
 unfold sAq sB at hnew
 simp only [List.length_cons,List.length_nil,Nat.reduceAdd] at hnew
 go_wp2_with fail
 refine hnew.mono ?_
 clear hnew
 rintro e V1 hq
 obtain ⟨rfl,hb10⟩:=HNQ.out e V1 hq
 have HB10:=Lib.hid (HB9.out.trans (hb10.mono HB9.out.size))
 have hcl10:=HC9.out.below hb10
 have h3:=apairs_bad V1 F x 3 3 3 B hcl10 (by decide) 3 (.inr (by decide))
 have HC10:=Lib.hid hcl10
 clear hq hb10 hcl10 HNQ
 go_wp2_with fail
 refine h3.mono ?_
 clear h3
 rintro e V2 ⟨rfl,hb11⟩
 have HB11:=Lib.hid (HB10.out.trans (hb11.mono HB10.out.size))
 have h4:=alen_any V2 F x 3 3 3 B (HC10.out.below hb11) (by decide) (by decide) (by decide)
 rw [HC.out.2.2] at h4
 clear hb11
 go_wp2_with fail
 refine h4.mono ?_
 clear h4
 rintro e V3 ⟨rfl,hb12⟩
 have HB12:=Lib.hid (HB11.out.trans (hb12.mono HB11.out.size))
 clear hb12
 go_wp2
 go_ret
 exact ⟨rfl,HB12.out⟩
end Go.Proofs.YtddffnonlmfhdaaGreatDoor
