/- Graphs: fits. -/
import Derived.Test.YtddffnonlmfhdaaGreatDoorW10
set_option linter.unusedVariables false
set_option linter.unusedSimpArgs false
set_option maxHeartbeats 16000000
set_option maxRecDepth 100000
namespace Go.Proofs.YtddffnonlmfhdaaGreatDoor
open Go.RowKit
theorem fits_gr (w:World) (F:Nat→Prop) (p:Nat) (G:Gr) (h:GrS w F p G) (ok:GOk G) (A:Option Addr) (c:Nat) (B:Option Addr) (d:Nat) (M:List Txt) (D:List Ed) (hM:RowR w A (txtCells M)) (hD:RowR w B (edCells D)) (hm1:M.length ≤ 1) (hd1:D.length ≤ 1) (tM:∀ s ∈ M,TxtOk s) (tD:∀ x ∈ D,EdOk x) :
  Calls Tryz.prog 82 #[.pointer (some ⟨p,0,none⟩),.slice A M.length c,.slice B D.length d] w (Sam w (.int .i64 (ofI (G.N ++ M) (G.X ++ D)))):=by
 have hcon:=data_gr w F p G h ok
 have hf:=ok.few
 have hs:=Short.of (ofI_named ok.may)
 have hn5:(datN G).length ≤ 32:=Nat.le_trans (len_sub (gN_nodup _ _) (fun s hs => (datN_mem ok).1 hs)) hf.1
 have he5:(datE G).length ≤ 256:=Nat.le_trans (len_sub (gE_nodup _) (fun x hx => gE_mem.1 hx)) hf.2
 have HFT:=Lib.hid (show FitG (datN G ++ M) (datE G ++ D) from ⟨by rw [List.length_append];omega,by rw [List.length_append];omega,fun t ht => by
  rcases List.mem_append.1 ht with ht | ht
  ·have:=hs.n t ((datN_mem ok).1 ht);unfold TxtOk;omega
  ·exact tM t ht,fun x hx => by
  rcases List.mem_append.1 hx with hx | hx
  ·have:=hs.e x (gE_mem.1 hx);unfold EdOk TxtOk;omega
  ·exact tD x hx⟩)
 have HBB:=Lib.hid (show ((datN G ++ M).length + (datE G ++ D).length * 2) * 16 ≤ 140737488355328 by simp only [List.length_append];omega)
 have HNL:=Lib.hid (show ((datN G).length + M.length) * 16 ≤ 140737488355328∧((datE G).length + D.length) * 48 ≤ 140737488355328 by omega)
 have HOI:=Lib.hid (show ofI (datN G ++ M) (datE G ++ D) = ofI (G.N ++ M) (G.X ++ D) from ofI_dat M D)
 have HMD:=Lib.hid (And.intro hM hD)
 obtain ⟨x1,hx1⟩:∃ q,(datN G).length = q:=⟨_,rfl⟩
 obtain ⟨x2,hx2⟩:∃ q,(datE G).length = q:=⟨_,rfl⟩
 obtain ⟨m1,hm⟩:∃ q,M.length = q:=⟨_,rfl⟩
 obtain ⟨m2,hdd⟩:∃ q,D.length = q:=⟨_,rfl⟩
 obtain ⟨qN,hqN⟩:∃ q,(datN G ++ M).length = q:=⟨_,rfl⟩
 obtain ⟨qE,hqE⟩:∃ q,(datE G ++ D).length = q:=⟨_,rfl⟩
 have HQ:=Lib.hid (And.intro hqN hqE)
 have HN:=Lib.hid (And.intro hx1 (And.intro hx2 (And.intro hm hdd)))
 unfold DatP twoV at hcon
 rw [hx1,hx2] at hcon
 rw [hm,hdd]
 clear h hf hs hn5 he5 tM tD hM hD hm1 hd1 hx1 hx2 hm hdd hqN hqE ok
 go_enter Tryz.func82,Tryz.ntmps82
 go_wp2_with fail
 refine hcon.mono ?_
 clear hcon
 rintro e W0 ⟨A5,c5,B5,d5,rfl,o1,o2,b0⟩
 have k7:=Blk.new W0 34 #[.slice A5 x1 c5,.slice B5 x2 d5]
 have u7:Below W0.heap.size W0 (W0.alloc (.cells #[.slice A5 x1 c5,.slice B5 x2 d5] 34)):=(Below.refl _ _).alloc (Nat.le_refl _) _
 have HR0:=Lib.hid (show RowR W0 A5 (txtCells (datN G))∧RowR W0 B5 (edCells (datE G))∧RowR W0 A (txtCells M)∧RowR W0 B (edCells D) from ⟨RowR.of_own o1,RowR.of_own o2,HMD.out.1.below b0,HMD.out.2.below b0⟩)
 have HW0:=Lib.hid b0
 have HK7:=Lib.hid (And.intro k7 u7)
 have hz7:(W0.alloc (.cells #[.slice A5 x1 c5,.slice B5 x2 d5] 34)).heap.size = W0.heap.size + 1:=by simp
 clear o1 o2 b0 k7 u7
 go_upto_region 2 with (fail)
 generalize W0.alloc (.cells #[.slice A5 x1 c5,.slice B5 x2 d5] 34) = W1 at HK7 hz7 ⊢
 have US:=Lib.hid (show ∀ W,Below W1.heap.size W1 W→(fun w' => w'.cell? ⟨W0.heap.size,0,none⟩ = some (.slice A5 x1 c5)∧w'.cell? ⟨W0.heap.size,1,none⟩ = some (.slice B5 x2 d5)) W from fun W hb => by
  have kb:=HK7.out.1.upd (Upd.of_below hb (fun _ => False)) id
  exact ⟨kb.cell 0,kb.cell 1⟩)
 have HWT:=Lib.hid (show Below w.heap.size w W1 from HW0.out.trans (HK7.out.2.mono HW0.out.size))
 have HR:=Lib.hid (show RowR W1 A5 (txtCells (datN G))∧RowR W1 B5 (edCells (datE G))∧RowR W1 A (txtCells M)∧RowR W1 B (edCells D) from ⟨HR0.out.1.below HK7.out.2,HR0.out.2.1.below HK7.out.2,HR0.out.2.2.1.below HK7.out.2,HR0.out.2.2.2.below HK7.out.2⟩)
 clear HR0 HK7 HW0 HMD hz7
 have HB0:=Lib.hid (show Below W1.heap.size W1 W1.drew from (Below.refl _ _).drew)
 have hS:=US.out _ HB0.out
 refine wp_region_any2 (fun w' => w'.cell? ⟨W0.heap.size,0,none⟩ = some (.slice A5 x1 c5)∧w'.cell? ⟨W0.heap.size,1,none⟩ = some (.slice B5 x2 d5)) (by kernel_rfl) (by kernel_rfl) hS ?_
 refine any_start (fun hd => ?_)
 generalize W1.drew = V0 at HB0 hS ⊢
 (refine any_takeA (i:=0) rfl hd hS ?_;clear hd;intro hd;(try simp only [Act.put,gA,gZ,sA,sZ,sS]))
 (refine any_takeA (i:=1) rfl hd hS ?_;clear hd;intro hd;(try simp only [Act.put,gA,gS,gZ,sA,sZ,sS]))
 (refine any_takeA (i:=2) rfl hd hS ?_;clear hd;intro hd;(try simp only [Act.put,gA,gS,gZ,sA,sZ,sS]))
 (refine any_takeA (i:=5) rfl hd hS ?_;clear hd;intro hd;(try simp only [Act.put,gA,gS,gZ,sA,sZ,sS]))
 (refine any_takeA (i:=6) rfl hd hS ?_;clear hd;intro hd;(try simp only [Act.put,gA,gS,gZ,sA,sZ,sS]))
 (refine any_takeA (i:=7) rfl hd hS ?_;clear hd;intro hd;(try simp only [Act.put,gA,gS,gZ,sA,sZ,sS]))
 clear hS
 refine any_run hd (L:=[3,8,14]) (by kernel_rfl) (by decide) (fun i hi hd2 => ?_)
 clear hd
 have hd:=hd2
 clear hd2
 simp only [List.mem_cons,List.not_mem_nil,or_false] at hi
 rcases hi with rfl | rfl | rfl
 ·refine any_do rfl rfl (fun K hK => ?_)
  go_simp
  have kx1:=Blk.new V0 26 #[.slice A5 x1 c5,.slice A m1 c]
  have bx1:Below W1.heap.size W1 (V0.alloc (.cells #[.slice A5 x1 c5,.slice A m1 c] 26)):=HB0.out.alloc HB0.out.size _
  have hlt1:=kx1.lt
  have HX1:=Lib.hid (And.intro kx1 bx1)
  clear kx1 bx1
  have HS1:=Lib.hid (show Below V0.heap.size V0 (V0.alloc (.cells #[.slice A5 x1 c5,.slice A m1 c] 26)) from (Below.refl V0.heap.size V0).alloc (Nat.le_refl _) _)
  refine hK _ _ (US.out _ HX1.out.2) ?_
  clear hK K
  (try simp only [Act.put,gA,gS,gZ,sA,sZ,sS])
  generalize V0.alloc (.cells #[.slice A5 x1 c5,.slice A m1 c] 26) = V1 at HX1 HS1 hlt1 ⊢
  have HB1:=Lib.hid HX1.out.2
  refine any_run hd (L:=[4,8,14]) (by kernel_rfl) (by decide) (fun i hi hd2 => ?_)
  clear hd
  have hd:=hd2
  clear hd2
  simp only [List.mem_cons,List.not_mem_nil,or_false] at hi
  rcases hi with rfl | rfl | rfl
  ·refine any_do rfl rfl (fun K hK => ?_)
   go_simp
   have hcon:=concat_txt V1 V0.heap.size A5 c5 A c (datN G) M (by rw [HN.out.1,HN.out.2.2.1];exact HX1.out.1.upd (Upd.of_below (Below.refl _ _) (fun _ => False)) id) (HR.out.1.below HB1.out) (HR.out.2.2.1.below HB1.out) HNL.out.1
   refine hcon.mono ?_
   clear hcon
   rintro e V2 ⟨v,rfl,own2X,b2X⟩
   rw [HQ.out.1] at own2X
   obtain ⟨A2X,c2X,rfl,hle2X,row2X⟩:=own_le2 own2X
   have HB2:=Lib.hid (HB1.out.trans (b2X.mono HB1.out.size))
   have HS2:=Lib.hid b2X
   have HR2X:=Lib.hid (And.intro row2X hle2X)
   clear own2X b2X row2X hle2X
   refine hK _ _ (US.out _ HB2.out) ?_
   clear hK K
   (try simp only [Act.put,gA,gS,gZ,sA,sZ,sS])
   refine any_run hd (L:=[8,14]) (by kernel_rfl) (by decide) (fun i hi hd2 => ?_)
   clear hd
   have hd:=hd2
   clear hd2
   simp only [List.mem_cons,List.not_mem_nil,or_false] at hi
   rcases hi with rfl | rfl
   ·refine any_do rfl rfl (fun K hK => ?_)
    go_simp
    have kx3:=Blk.new V2 27 #[.slice B5 x2 d5,.slice B m2 d]
    have bx3:Below W1.heap.size W1 (V2.alloc (.cells #[.slice B5 x2 d5,.slice B m2 d] 27)):=HB2.out.alloc HB2.out.size _
    have hlt3:=kx3.lt
    have HX3:=Lib.hid (And.intro kx3 bx3)
    clear kx3 bx3
    have HS3:=Lib.hid (show Below V2.heap.size V2 (V2.alloc (.cells #[.slice B5 x2 d5,.slice B m2 d] 27)) from (Below.refl V2.heap.size V2).alloc (Nat.le_refl _) _)
    refine hK _ _ (US.out _ HX3.out.2) ?_
    clear hK K
    (try simp only [Act.put,gA,gS,gZ,sA,sZ,sS])
    generalize V2.alloc (.cells #[.slice B5 x2 d5,.slice B m2 d] 27) = V3 at HX3 HS3 hlt3 ⊢
    have HB3:=Lib.hid HX3.out.2
    refine any_run hd (L:=[9,14]) (by kernel_rfl) (by decide) (fun i hi hd2 => ?_)
    clear hd
    have hd:=hd2
    clear hd2
    simp only [List.mem_cons,List.not_mem_nil,or_false] at hi
    rcases hi with rfl | rfl
    ·refine any_do rfl rfl (fun K hK => ?_)
     go_simp
     have hcon:=concat_ed V3 V2.heap.size B5 d5 B d (datE G) D (by rw [HN.out.2.1,HN.out.2.2.2];exact HX3.out.1.upd (Upd.of_below (Below.refl _ _) (fun _ => False)) id) (HR.out.2.1.below HB3.out) (HR.out.2.2.2.below HB3.out) HNL.out.2
     refine hcon.mono ?_
     clear hcon
     rintro e V4 ⟨v,rfl,own4X,b4X⟩
     rw [HQ.out.2] at own4X
     obtain ⟨A4X,c4X,rfl,hle4X,row4X⟩:=own_le2 own4X
     have HB4:=Lib.hid (HB3.out.trans (b4X.mono HB3.out.size))
     have HS4:=Lib.hid b4X
     have HR4X:=Lib.hid (And.intro row4X hle4X)
     clear own4X b4X row4X hle4X
     refine hK _ _ (US.out _ HB4.out) ?_
     clear hK K
     (try simp only [Act.put,gA,gS,gZ,sA,sZ,sS])
     refine any_run hd (L:=[10,14]) (by kernel_rfl) (by decide) (fun i hi hd2 => ?_)
     clear hd
     have hd:=hd2
     clear hd2
     simp only [List.mem_cons,List.not_mem_nil,or_false] at hi
     rcases hi with rfl | rfl
     ·refine any_do rfl rfl (fun K hK => ?_)
      have rA:=HR2X.out.1.below ((HS3.out).trans ((HS4.out).mono (HS3.out).size))
      have rB:=HR4X.out.1.below (Below.refl _ _)
      have hmade:=of_any V4 A2X c2X A4X c4X (datN G ++ M) (datE G ++ D) ⟨rA,rB,by rw [HQ.out.1];exact HR2X.out.2,by rw [HQ.out.2];exact HR4X.out.2,HFT.out⟩ HBB.out
      clear rA rB
      rw [HQ.out.1,HQ.out.2] at hmade
      go_simp
      refine hmade.mono ?_
      clear hmade
      rintro e V5 ⟨AZ,cZ,BZ,dZ,rfl,-,-,bZ⟩
      have HB5:=Lib.hid (HB4.out.trans (bZ.mono HB4.out.size))
      have HS5:=Lib.hid bZ
      clear bZ
      unfold twoV
      refine hK _ _ (US.out _ HB5.out) ?_
      clear hK K
      (try simp only [Act.put,gA,gS,gZ,sA,sZ,sS])
      have hS:=US.out _ HB5.out
      (refine any_takeA (i:=11) rfl hd hS ?_;clear hd;intro hd;(try simp only [Act.put,gA,gS,gZ,sA,sZ,sS]))
      (refine any_takeA (i:=12) rfl hd hS ?_;clear hd;intro hd;(try simp only [Act.put,gA,gS,gZ,sA,sZ,sS]))
      (refine any_takeA (i:=13) rfl hd hS ?_;clear hd;intro hd;(try simp only [Act.put,gA,gS,gZ,sA,sZ,sS]))
      clear hS
      refine any_run hd (L:=[14]) (by kernel_rfl) (by decide) (fun i hi hd2 => ?_)
      clear hd
      have hd:=hd2
      clear hd2
      obtain rfl:=List.mem_singleton.1 hi
      clear hi
      refine any_do rfl rfl (fun K hK => ?_)
      go_simp
      have kx6:=Blk.new V5 34 #[.slice none 0 0,.slice none 0 0]
      have bx6:Below W1.heap.size W1 (V5.alloc (.cells #[.slice none 0 0,.slice none 0 0] 34)):=HB5.out.alloc HB5.out.size _
      have hlt6:=kx6.lt
      have HX6:=Lib.hid (And.intro kx6 bx6)
      clear kx6 bx6
      have HS6:=Lib.hid (show Below V5.heap.size V5 (V5.alloc (.cells #[.slice none 0 0,.slice none 0 0] 34)) from (Below.refl V5.heap.size V5).alloc (Nat.le_refl _) _)
      refine hK _ _ (US.out _ HX6.out.2) ?_
      clear hK K
      (try simp only [Act.put,gA,gS,gZ,sA,sZ,sS])
      generalize V5.alloc (.cells #[.slice none 0 0,.slice none 0 0] 34) = V6 at HX6 HS6 hlt6 ⊢
      have HB6:=Lib.hid HX6.out.2
      have kr:=HX6.out.1.upd (Upd.of_below (Below.refl _ _) (fun _ => False)) id
      have r0:V6.cell? ⟨V5.heap.size,0,none⟩ = some (.slice none 0 0):=kr.cell 0
      have r1:V6.cell? ⟨V5.heap.size,1,none⟩ = some (.slice none 0 0):=kr.cell 1
      have f0:=kr.frozen 0
      have f1:=kr.frozen 1
      generalize (ofN (datN G ++ M) (datE G ++ D)).length = l1
      generalize (ofE (datN G ++ M) (datE G ++ D)).length = l2
      have uF:=((Upd.refl (fun q => q = V5.heap.size) V6).setCell (p:=⟨V5.heap.size,0,none⟩) (.inl rfl) (.slice AZ l1 cZ)).setCell (p:=⟨V5.heap.size,1,none⟩) (.inl rfl) (.slice BZ l2 dZ)
      have bF:=uF.below (B:=W1.heap.size) (fun q _ e => by subst e;exact HB5.out.size) HB6.out.size
      have bZ:=HB6.out.trans bF
      have hS:=US.out _ bZ
      have FIN:=Lib.hid (HWT.out.trans (bZ.mono HWT.out.size))
      clear kr uF bF bZ
      refine any_run hd (L:=[15]) (by kernel_rfl) (by decide) (fun i hi hd2 => ?_)
      clear hd
      have hd:=hd2
      clear hd2
      obtain rfl:=List.mem_singleton.1 hi
      clear hi
      refine any_do rfl rfl (fun K hK => ?_)
      go_simp
      refine hK _ _ hS ?_
      clear hK K
      (try simp only [Act.put,gA,gS,gZ,sA,sZ,sS])
      (refine any_takeA (i:=16) rfl hd hS ?_;clear hd;intro hd;(try simp only [Act.put,gA,gS,gZ,sA,sZ,sS]))
      refine any_done (by kernel_rfl) ?_
      clear hS hd r0 r1 f0 f1
      go_wp2
      go_ret
      exact ⟨by rw [← HOI.out];rfl,FIN.out⟩
     ·refine any_do rfl rfl (fun K hK => ?_)
      go_simp
      have kx7:=Blk.new V4 34 #[.slice none 0 0,.slice none 0 0]
      have bx7:Below W1.heap.size W1 (V4.alloc (.cells #[.slice none 0 0,.slice none 0 0] 34)):=HB4.out.alloc HB4.out.size _
      have hlt7:=kx7.lt
      have HX7:=Lib.hid (And.intro kx7 bx7)
      clear kx7 bx7
      have HS7:=Lib.hid (show Below V4.heap.size V4 (V4.alloc (.cells #[.slice none 0 0,.slice none 0 0] 34)) from (Below.refl V4.heap.size V4).alloc (Nat.le_refl _) _)
      refine hK _ _ (US.out _ HX7.out.2) ?_
      clear hK K
      (try simp only [Act.put,gA,gS,gZ,sA,sZ,sS])
      generalize V4.alloc (.cells #[.slice none 0 0,.slice none 0 0] 34) = V7 at HX7 HS7 hlt7 ⊢
      have HB7:=Lib.hid HX7.out.2
      refine any_run hd (L:=[10]) (by kernel_rfl) (by decide) (fun i hi hd2 => ?_)
      clear hd
      have hd:=hd2
      clear hd2
      obtain rfl:=List.mem_singleton.1 hi
      clear hi
      refine any_do rfl rfl (fun K hK => ?_)
      have rA:=HR2X.out.1.below (((HS3.out).trans ((HS4.out).mono (HS3.out).size)).trans ((HS7.out).mono ((HS3.out).trans ((HS4.out).mono (HS3.out).size)).size))
      have rB:=HR4X.out.1.below (HS7.out)
      have hmade:=of_any V7 A2X c2X A4X c4X (datN G ++ M) (datE G ++ D) ⟨rA,rB,by rw [HQ.out.1];exact HR2X.out.2,by rw [HQ.out.2];exact HR4X.out.2,HFT.out⟩ HBB.out
      clear rA rB
      rw [HQ.out.1,HQ.out.2] at hmade
      go_simp
      refine hmade.mono ?_
      clear hmade
      rintro e V8 ⟨AZ,cZ,BZ,dZ,rfl,-,-,bZ⟩
      have HB8:=Lib.hid (HB7.out.trans (bZ.mono HB7.out.size))
      have HS8:=Lib.hid bZ
      clear bZ
      unfold twoV
      refine hK _ _ (US.out _ HB8.out) ?_
      clear hK K
      (try simp only [Act.put,gA,gS,gZ,sA,sZ,sS])
      have hS:=US.out _ HB8.out
      (refine any_takeA (i:=11) rfl hd hS ?_;clear hd;intro hd;(try simp only [Act.put,gA,gS,gZ,sA,sZ,sS]))
      (refine any_takeA (i:=12) rfl hd hS ?_;clear hd;intro hd;(try simp only [Act.put,gA,gS,gZ,sA,sZ,sS]))
      (refine any_takeA (i:=13) rfl hd hS ?_;clear hd;intro hd;(try simp only [Act.put,gA,gS,gZ,sA,sZ,sS]))
      clear hS
      have kr:=HX7.out.1.upd (Upd.of_below (HS8.out) (fun _ => False)) id
      have r0:V8.cell? ⟨V4.heap.size,0,none⟩ = some (.slice none 0 0):=kr.cell 0
      have r1:V8.cell? ⟨V4.heap.size,1,none⟩ = some (.slice none 0 0):=kr.cell 1
      have f0:=kr.frozen 0
      have f1:=kr.frozen 1
      generalize (ofN (datN G ++ M) (datE G ++ D)).length = l1
      generalize (ofE (datN G ++ M) (datE G ++ D)).length = l2
      have uF:=((Upd.refl (fun q => q = V4.heap.size) V8).setCell (p:=⟨V4.heap.size,0,none⟩) (.inl rfl) (.slice AZ l1 cZ)).setCell (p:=⟨V4.heap.size,1,none⟩) (.inl rfl) (.slice BZ l2 dZ)
      have bF:=uF.below (B:=W1.heap.size) (fun q _ e => by subst e;exact HB4.out.size) HB8.out.size
      have bZ:=HB8.out.trans bF
      have hS:=US.out _ bZ
      have FIN:=Lib.hid (HWT.out.trans (bZ.mono HWT.out.size))
      clear kr uF bF bZ
      refine any_run hd (L:=[15]) (by kernel_rfl) (by decide) (fun i hi hd2 => ?_)
      clear hd
      have hd:=hd2
      clear hd2
      obtain rfl:=List.mem_singleton.1 hi
      clear hi
      refine any_do rfl rfl (fun K hK => ?_)
      go_simp
      refine hK _ _ hS ?_
      clear hK K
      (try simp only [Act.put,gA,gS,gZ,sA,sZ,sS])
      (refine any_takeA (i:=16) rfl hd hS ?_;clear hd;intro hd;(try simp only [Act.put,gA,gS,gZ,sA,sZ,sS]))
      refine any_done (by kernel_rfl) ?_
      clear hS hd r0 r1 f0 f1
      go_wp2
      go_ret
      exact ⟨by rw [← HOI.out];rfl,FIN.out⟩
    ·refine any_do rfl rfl (fun K hK => ?_)
     go_simp
     have kx9:=Blk.new V3 34 #[.slice none 0 0,.slice none 0 0]
     have bx9:Below W1.heap.size W1 (V3.alloc (.cells #[.slice none 0 0,.slice none 0 0] 34)):=HB3.out.alloc HB3.out.size _
     have hlt9:=kx9.lt
     have HX9:=Lib.hid (And.intro kx9 bx9)
     clear kx9 bx9
     have HS9:=Lib.hid (show Below V3.heap.size V3 (V3.alloc (.cells #[.slice none 0 0,.slice none 0 0] 34)) from (Below.refl V3.heap.size V3).alloc (Nat.le_refl _) _)
     refine hK _ _ (US.out _ HX9.out.2) ?_
     clear hK K
     (try simp only [Act.put,gA,gS,gZ,sA,sZ,sS])
     generalize V3.alloc (.cells #[.slice none 0 0,.slice none 0 0] 34) = V9 at HX9 HS9 hlt9 ⊢
     have HB9:=Lib.hid HX9.out.2
     refine any_run hd (L:=[9]) (by kernel_rfl) (by decide) (fun i hi hd2 => ?_)
     clear hd
     have hd:=hd2
     clear hd2
     obtain rfl:=List.mem_singleton.1 hi
     clear hi
     refine any_do rfl rfl (fun K hK => ?_)
     go_simp
     have hcon:=concat_ed V9 V2.heap.size B5 d5 B d (datE G) D (by rw [HN.out.2.1,HN.out.2.2.2];exact HX3.out.1.upd (Upd.of_below (HS9.out) (fun _ => False)) id) (HR.out.2.1.below HB9.out) (HR.out.2.2.2.below HB9.out) HNL.out.2
     refine hcon.mono ?_
     clear hcon
     rintro e V10 ⟨v,rfl,own10X,b10X⟩
     rw [HQ.out.2] at own10X
     obtain ⟨A10X,c10X,rfl,hle10X,row10X⟩:=own_le2 own10X
     have HB10:=Lib.hid (HB9.out.trans (b10X.mono HB9.out.size))
     have HS10:=Lib.hid b10X
     have HR10X:=Lib.hid (And.intro row10X hle10X)
     clear own10X b10X row10X hle10X
     refine hK _ _ (US.out _ HB10.out) ?_
     clear hK K
     (try simp only [Act.put,gA,gS,gZ,sA,sZ,sS])
     refine any_run hd (L:=[10]) (by kernel_rfl) (by decide) (fun i hi hd2 => ?_)
     clear hd
     have hd:=hd2
     clear hd2
     obtain rfl:=List.mem_singleton.1 hi
     clear hi
     refine any_do rfl rfl (fun K hK => ?_)
     have rA:=HR2X.out.1.below (((HS3.out).trans ((HS9.out).mono (HS3.out).size)).trans ((HS10.out).mono ((HS3.out).trans ((HS9.out).mono (HS3.out).size)).size))
     have rB:=HR10X.out.1.below (Below.refl _ _)
     have hmade:=of_any V10 A2X c2X A10X c10X (datN G ++ M) (datE G ++ D) ⟨rA,rB,by rw [HQ.out.1];exact HR2X.out.2,by rw [HQ.out.2];exact HR10X.out.2,HFT.out⟩ HBB.out
     clear rA rB
     rw [HQ.out.1,HQ.out.2] at hmade
     go_simp
     refine hmade.mono ?_
     clear hmade
     rintro e V11 ⟨AZ,cZ,BZ,dZ,rfl,-,-,bZ⟩
     have HB11:=Lib.hid (HB10.out.trans (bZ.mono HB10.out.size))
     have HS11:=Lib.hid bZ
     clear bZ
     unfold twoV
     refine hK _ _ (US.out _ HB11.out) ?_
     clear hK K
     (try simp only [Act.put,gA,gS,gZ,sA,sZ,sS])
     have hS:=US.out _ HB11.out
     (refine any_takeA (i:=11) rfl hd hS ?_;clear hd;intro hd;(try simp only [Act.put,gA,gS,gZ,sA,sZ,sS]))
     (refine any_takeA (i:=12) rfl hd hS ?_;clear hd;intro hd;(try simp only [Act.put,gA,gS,gZ,sA,sZ,sS]))
     (refine any_takeA (i:=13) rfl hd hS ?_;clear hd;intro hd;(try simp only [Act.put,gA,gS,gZ,sA,sZ,sS]))
     clear hS
     have kr:=HX9.out.1.upd (Upd.of_below ((HS10.out).trans ((HS11.out).mono (HS10.out).size)) (fun _ => False)) id
     have r0:V11.cell? ⟨V3.heap.size,0,none⟩ = some (.slice none 0 0):=kr.cell 0
     have r1:V11.cell? ⟨V3.heap.size,1,none⟩ = some (.slice none 0 0):=kr.cell 1
     have f0:=kr.frozen 0
     have f1:=kr.frozen 1
     generalize (ofN (datN G ++ M) (datE G ++ D)).length = l1
     generalize (ofE (datN G ++ M) (datE G ++ D)).length = l2
     have uF:=((Upd.refl (fun q => q = V3.heap.size) V11).setCell (p:=⟨V3.heap.size,0,none⟩) (.inl rfl) (.slice AZ l1 cZ)).setCell (p:=⟨V3.heap.size,1,none⟩) (.inl rfl) (.slice BZ l2 dZ)
     have bF:=uF.below (B:=W1.heap.size) (fun q _ e => by subst e;exact HB3.out.size) HB11.out.size
     have bZ:=HB11.out.trans bF
     have hS:=US.out _ bZ
     have FIN:=Lib.hid (HWT.out.trans (bZ.mono HWT.out.size))
     clear kr uF bF bZ
     refine any_run hd (L:=[15]) (by kernel_rfl) (by decide) (fun i hi hd2 => ?_)
     clear hd
     have hd:=hd2
     clear hd2
     obtain rfl:=List.mem_singleton.1 hi
     clear hi
     refine any_do rfl rfl (fun K hK => ?_)
     go_simp
     refine hK _ _ hS ?_
     clear hK K
     (try simp only [Act.put,gA,gS,gZ,sA,sZ,sS])
     (refine any_takeA (i:=16) rfl hd hS ?_;clear hd;intro hd;(try simp only [Act.put,gA,gS,gZ,sA,sZ,sS]))
     refine any_done (by kernel_rfl) ?_
     clear hS hd r0 r1 f0 f1
     go_wp2
     go_ret
     exact ⟨by rw [← HOI.out];rfl,FIN.out⟩
   ·refine any_do rfl rfl (fun K hK => ?_)
    go_simp
    have kx12:=Blk.new V2 34 #[.slice none 0 0,.slice none 0 0]
    have bx12:Below W1.heap.size W1 (V2.alloc (.cells #[.slice none 0 0,.slice none 0 0] 34)):=HB2.out.alloc HB2.out.size _
    have hlt12:=kx12.lt
    have HX12:=Lib.hid (And.intro kx12 bx12)
    clear kx12 bx12
    have HS12:=Lib.hid (show Below V2.heap.size V2 (V2.alloc (.cells #[.slice none 0 0,.slice none 0 0] 34)) from (Below.refl V2.heap.size V2).alloc (Nat.le_refl _) _)
    refine hK _ _ (US.out _ HX12.out.2) ?_
    clear hK K
    (try simp only [Act.put,gA,gS,gZ,sA,sZ,sS])
    generalize V2.alloc (.cells #[.slice none 0 0,.slice none 0 0] 34) = V12 at HX12 HS12 hlt12 ⊢
    have HB12:=Lib.hid HX12.out.2
    refine any_run hd (L:=[8]) (by kernel_rfl) (by decide) (fun i hi hd2 => ?_)
    clear hd
    have hd:=hd2
    clear hd2
    obtain rfl:=List.mem_singleton.1 hi
    clear hi
    refine any_do rfl rfl (fun K hK => ?_)
    go_simp
    have kx13:=Blk.new V12 27 #[.slice B5 x2 d5,.slice B m2 d]
    have bx13:Below W1.heap.size W1 (V12.alloc (.cells #[.slice B5 x2 d5,.slice B m2 d] 27)):=HB12.out.alloc HB12.out.size _
    have hlt13:=kx13.lt
    have HX13:=Lib.hid (And.intro kx13 bx13)
    clear kx13 bx13
    have HS13:=Lib.hid (show Below V12.heap.size V12 (V12.alloc (.cells #[.slice B5 x2 d5,.slice B m2 d] 27)) from (Below.refl V12.heap.size V12).alloc (Nat.le_refl _) _)
    refine hK _ _ (US.out _ HX13.out.2) ?_
    clear hK K
    (try simp only [Act.put,gA,gS,gZ,sA,sZ,sS])
    generalize V12.alloc (.cells #[.slice B5 x2 d5,.slice B m2 d] 27) = V13 at HX13 HS13 hlt13 ⊢
    have HB13:=Lib.hid HX13.out.2
    refine any_run hd (L:=[9]) (by kernel_rfl) (by decide) (fun i hi hd2 => ?_)
    clear hd
    have hd:=hd2
    clear hd2
    obtain rfl:=List.mem_singleton.1 hi
    clear hi
    refine any_do rfl rfl (fun K hK => ?_)
    go_simp
    have hcon:=concat_ed V13 V12.heap.size B5 d5 B d (datE G) D (by rw [HN.out.2.1,HN.out.2.2.2];exact HX13.out.1.upd (Upd.of_below (Below.refl _ _) (fun _ => False)) id) (HR.out.2.1.below HB13.out) (HR.out.2.2.2.below HB13.out) HNL.out.2
    refine hcon.mono ?_
    clear hcon
    rintro e V14 ⟨v,rfl,own14X,b14X⟩
    rw [HQ.out.2] at own14X
    obtain ⟨A14X,c14X,rfl,hle14X,row14X⟩:=own_le2 own14X
    have HB14:=Lib.hid (HB13.out.trans (b14X.mono HB13.out.size))
    have HS14:=Lib.hid b14X
    have HR14X:=Lib.hid (And.intro row14X hle14X)
    clear own14X b14X row14X hle14X
    refine hK _ _ (US.out _ HB14.out) ?_
    clear hK K
    (try simp only [Act.put,gA,gS,gZ,sA,sZ,sS])
    refine any_run hd (L:=[10]) (by kernel_rfl) (by decide) (fun i hi hd2 => ?_)
    clear hd
    have hd:=hd2
    clear hd2
    obtain rfl:=List.mem_singleton.1 hi
    clear hi
    refine any_do rfl rfl (fun K hK => ?_)
    have rA:=HR2X.out.1.below (((HS12.out).trans ((HS13.out).mono (HS12.out).size)).trans ((HS14.out).mono ((HS12.out).trans ((HS13.out).mono (HS12.out).size)).size))
    have rB:=HR14X.out.1.below (Below.refl _ _)
    have hmade:=of_any V14 A2X c2X A14X c14X (datN G ++ M) (datE G ++ D) ⟨rA,rB,by rw [HQ.out.1];exact HR2X.out.2,by rw [HQ.out.2];exact HR14X.out.2,HFT.out⟩ HBB.out
    clear rA rB
    rw [HQ.out.1,HQ.out.2] at hmade
    go_simp
    refine hmade.mono ?_
    clear hmade
    rintro e V15 ⟨AZ,cZ,BZ,dZ,rfl,-,-,bZ⟩
    have HB15:=Lib.hid (HB14.out.trans (bZ.mono HB14.out.size))
    have HS15:=Lib.hid bZ
    clear bZ
    unfold twoV
    refine hK _ _ (US.out _ HB15.out) ?_
    clear hK K
    (try simp only [Act.put,gA,gS,gZ,sA,sZ,sS])
    have hS:=US.out _ HB15.out
    (refine any_takeA (i:=11) rfl hd hS ?_;clear hd;intro hd;(try simp only [Act.put,gA,gS,gZ,sA,sZ,sS]))
    (refine any_takeA (i:=12) rfl hd hS ?_;clear hd;intro hd;(try simp only [Act.put,gA,gS,gZ,sA,sZ,sS]))
    (refine any_takeA (i:=13) rfl hd hS ?_;clear hd;intro hd;(try simp only [Act.put,gA,gS,gZ,sA,sZ,sS]))
    clear hS
    have kr:=HX12.out.1.upd (Upd.of_below (((HS13.out).trans ((HS14.out).mono (HS13.out).size)).trans ((HS15.out).mono ((HS13.out).trans ((HS14.out).mono (HS13.out).size)).size)) (fun _ => False)) id
    have r0:V15.cell? ⟨V2.heap.size,0,none⟩ = some (.slice none 0 0):=kr.cell 0
    have r1:V15.cell? ⟨V2.heap.size,1,none⟩ = some (.slice none 0 0):=kr.cell 1
    have f0:=kr.frozen 0
    have f1:=kr.frozen 1
    generalize (ofN (datN G ++ M) (datE G ++ D)).length = l1
    generalize (ofE (datN G ++ M) (datE G ++ D)).length = l2
    have uF:=((Upd.refl (fun q => q = V2.heap.size) V15).setCell (p:=⟨V2.heap.size,0,none⟩) (.inl rfl) (.slice AZ l1 cZ)).setCell (p:=⟨V2.heap.size,1,none⟩) (.inl rfl) (.slice BZ l2 dZ)
    have bF:=uF.below (B:=W1.heap.size) (fun q _ e => by subst e;exact HB2.out.size) HB15.out.size
    have bZ:=HB15.out.trans bF
    have hS:=US.out _ bZ
    have FIN:=Lib.hid (HWT.out.trans (bZ.mono HWT.out.size))
    clear kr uF bF bZ
    refine any_run hd (L:=[15]) (by kernel_rfl) (by decide) (fun i hi hd2 => ?_)
    clear hd
    have hd:=hd2
    clear hd2
    obtain rfl:=List.mem_singleton.1 hi
    clear hi
    refine any_do rfl rfl (fun K hK => ?_)
    go_simp
    refine hK _ _ hS ?_
    clear hK K
    (try simp only [Act.put,gA,gS,gZ,sA,sZ,sS])
    (refine any_takeA (i:=16) rfl hd hS ?_;clear hd;intro hd;(try simp only [Act.put,gA,gS,gZ,sA,sZ,sS]))
    refine any_done (by kernel_rfl) ?_
    clear hS hd r0 r1 f0 f1
    go_wp2
    go_ret
    exact ⟨by rw [← HOI.out];rfl,FIN.out⟩
  ·refine any_do rfl rfl (fun K hK => ?_)
   go_simp
   have kx16:=Blk.new V1 27 #[.slice B5 x2 d5,.slice B m2 d]
   have bx16:Below W1.heap.size W1 (V1.alloc (.cells #[.slice B5 x2 d5,.slice B m2 d] 27)):=HB1.out.alloc HB1.out.size _
   have hlt16:=kx16.lt
   have HX16:=Lib.hid (And.intro kx16 bx16)
   clear kx16 bx16
   have HS16:=Lib.hid (show Below V1.heap.size V1 (V1.alloc (.cells #[.slice B5 x2 d5,.slice B m2 d] 27)) from (Below.refl V1.heap.size V1).alloc (Nat.le_refl _) _)
   refine hK _ _ (US.out _ HX16.out.2) ?_
   clear hK K
   (try simp only [Act.put,gA,gS,gZ,sA,sZ,sS])
   generalize V1.alloc (.cells #[.slice B5 x2 d5,.slice B m2 d] 27) = V16 at HX16 HS16 hlt16 ⊢
   have HB16:=Lib.hid HX16.out.2
   refine any_run hd (L:=[4,14]) (by kernel_rfl) (by decide) (fun i hi hd2 => ?_)
   clear hd
   have hd:=hd2
   clear hd2
   simp only [List.mem_cons,List.not_mem_nil,or_false] at hi
   rcases hi with rfl | rfl
   ·refine any_do rfl rfl (fun K hK => ?_)
    go_simp
    have hcon:=concat_txt V16 V0.heap.size A5 c5 A c (datN G) M (by rw [HN.out.1,HN.out.2.2.1];exact HX1.out.1.upd (Upd.of_below (HS16.out) (fun _ => False)) id) (HR.out.1.below HB16.out) (HR.out.2.2.1.below HB16.out) HNL.out.1
    refine hcon.mono ?_
    clear hcon
    rintro e V17 ⟨v,rfl,own17X,b17X⟩
    rw [HQ.out.1] at own17X
    obtain ⟨A17X,c17X,rfl,hle17X,row17X⟩:=own_le2 own17X
    have HB17:=Lib.hid (HB16.out.trans (b17X.mono HB16.out.size))
    have HS17:=Lib.hid b17X
    have HR17X:=Lib.hid (And.intro row17X hle17X)
    clear own17X b17X row17X hle17X
    refine hK _ _ (US.out _ HB17.out) ?_
    clear hK K
    (try simp only [Act.put,gA,gS,gZ,sA,sZ,sS])
    refine any_run hd (L:=[9,14]) (by kernel_rfl) (by decide) (fun i hi hd2 => ?_)
    clear hd
    have hd:=hd2
    clear hd2
    simp only [List.mem_cons,List.not_mem_nil,or_false] at hi
    rcases hi with rfl | rfl
    ·refine any_do rfl rfl (fun K hK => ?_)
     go_simp
     have hcon:=concat_ed V17 V1.heap.size B5 d5 B d (datE G) D (by rw [HN.out.2.1,HN.out.2.2.2];exact HX16.out.1.upd (Upd.of_below (HS17.out) (fun _ => False)) id) (HR.out.2.1.below HB17.out) (HR.out.2.2.2.below HB17.out) HNL.out.2
     refine hcon.mono ?_
     clear hcon
     rintro e V18 ⟨v,rfl,own18X,b18X⟩
     rw [HQ.out.2] at own18X
     obtain ⟨A18X,c18X,rfl,hle18X,row18X⟩:=own_le2 own18X
     have HB18:=Lib.hid (HB17.out.trans (b18X.mono HB17.out.size))
     have HS18:=Lib.hid b18X
     have HR18X:=Lib.hid (And.intro row18X hle18X)
     clear own18X b18X row18X hle18X
     refine hK _ _ (US.out _ HB18.out) ?_
     clear hK K
     (try simp only [Act.put,gA,gS,gZ,sA,sZ,sS])
     refine any_run hd (L:=[10,14]) (by kernel_rfl) (by decide) (fun i hi hd2 => ?_)
     clear hd
     have hd:=hd2
     clear hd2
     simp only [List.mem_cons,List.not_mem_nil,or_false] at hi
     rcases hi with rfl | rfl
     ·refine any_do rfl rfl (fun K hK => ?_)
      have rA:=HR17X.out.1.below (HS18.out)
      have rB:=HR18X.out.1.below (Below.refl _ _)
      have hmade:=of_any V18 A17X c17X A18X c18X (datN G ++ M) (datE G ++ D) ⟨rA,rB,by rw [HQ.out.1];exact HR17X.out.2,by rw [HQ.out.2];exact HR18X.out.2,HFT.out⟩ HBB.out
      clear rA rB
      rw [HQ.out.1,HQ.out.2] at hmade
      go_simp
      refine hmade.mono ?_
      clear hmade
      rintro e V19 ⟨AZ,cZ,BZ,dZ,rfl,-,-,bZ⟩
      have HB19:=Lib.hid (HB18.out.trans (bZ.mono HB18.out.size))
      have HS19:=Lib.hid bZ
      clear bZ
      unfold twoV
      refine hK _ _ (US.out _ HB19.out) ?_
      clear hK K
      (try simp only [Act.put,gA,gS,gZ,sA,sZ,sS])
      have hS:=US.out _ HB19.out
      (refine any_takeA (i:=11) rfl hd hS ?_;clear hd;intro hd;(try simp only [Act.put,gA,gS,gZ,sA,sZ,sS]))
      (refine any_takeA (i:=12) rfl hd hS ?_;clear hd;intro hd;(try simp only [Act.put,gA,gS,gZ,sA,sZ,sS]))
      (refine any_takeA (i:=13) rfl hd hS ?_;clear hd;intro hd;(try simp only [Act.put,gA,gS,gZ,sA,sZ,sS]))
      clear hS
      refine any_run hd (L:=[14]) (by kernel_rfl) (by decide) (fun i hi hd2 => ?_)
      clear hd
      have hd:=hd2
      clear hd2
      obtain rfl:=List.mem_singleton.1 hi
      clear hi
      refine any_do rfl rfl (fun K hK => ?_)
      go_simp
      have kx20:=Blk.new V19 34 #[.slice none 0 0,.slice none 0 0]
      have bx20:Below W1.heap.size W1 (V19.alloc (.cells #[.slice none 0 0,.slice none 0 0] 34)):=HB19.out.alloc HB19.out.size _
      have hlt20:=kx20.lt
      have HX20:=Lib.hid (And.intro kx20 bx20)
      clear kx20 bx20
      have HS20:=Lib.hid (show Below V19.heap.size V19 (V19.alloc (.cells #[.slice none 0 0,.slice none 0 0] 34)) from (Below.refl V19.heap.size V19).alloc (Nat.le_refl _) _)
      refine hK _ _ (US.out _ HX20.out.2) ?_
      clear hK K
      (try simp only [Act.put,gA,gS,gZ,sA,sZ,sS])
      generalize V19.alloc (.cells #[.slice none 0 0,.slice none 0 0] 34) = V20 at HX20 HS20 hlt20 ⊢
      have HB20:=Lib.hid HX20.out.2
      have kr:=HX20.out.1.upd (Upd.of_below (Below.refl _ _) (fun _ => False)) id
      have r0:V20.cell? ⟨V19.heap.size,0,none⟩ = some (.slice none 0 0):=kr.cell 0
      have r1:V20.cell? ⟨V19.heap.size,1,none⟩ = some (.slice none 0 0):=kr.cell 1
      have f0:=kr.frozen 0
      have f1:=kr.frozen 1
      generalize (ofN (datN G ++ M) (datE G ++ D)).length = l1
      generalize (ofE (datN G ++ M) (datE G ++ D)).length = l2
      have uF:=((Upd.refl (fun q => q = V19.heap.size) V20).setCell (p:=⟨V19.heap.size,0,none⟩) (.inl rfl) (.slice AZ l1 cZ)).setCell (p:=⟨V19.heap.size,1,none⟩) (.inl rfl) (.slice BZ l2 dZ)
      have bF:=uF.below (B:=W1.heap.size) (fun q _ e => by subst e;exact HB19.out.size) HB20.out.size
      have bZ:=HB20.out.trans bF
      have hS:=US.out _ bZ
      have FIN:=Lib.hid (HWT.out.trans (bZ.mono HWT.out.size))
      clear kr uF bF bZ
      refine any_run hd (L:=[15]) (by kernel_rfl) (by decide) (fun i hi hd2 => ?_)
      clear hd
      have hd:=hd2
      clear hd2
      obtain rfl:=List.mem_singleton.1 hi
      clear hi
      refine any_do rfl rfl (fun K hK => ?_)
      go_simp
      refine hK _ _ hS ?_
      clear hK K
      (try simp only [Act.put,gA,gS,gZ,sA,sZ,sS])
      (refine any_takeA (i:=16) rfl hd hS ?_;clear hd;intro hd;(try simp only [Act.put,gA,gS,gZ,sA,sZ,sS]))
      refine any_done (by kernel_rfl) ?_
      clear hS hd r0 r1 f0 f1
      go_wp2
      go_ret
      exact ⟨by rw [← HOI.out];rfl,FIN.out⟩
     ·refine any_do rfl rfl (fun K hK => ?_)
      go_simp
      have kx21:=Blk.new V18 34 #[.slice none 0 0,.slice none 0 0]
      have bx21:Below W1.heap.size W1 (V18.alloc (.cells #[.slice none 0 0,.slice none 0 0] 34)):=HB18.out.alloc HB18.out.size _
      have hlt21:=kx21.lt
      have HX21:=Lib.hid (And.intro kx21 bx21)
      clear kx21 bx21
      have HS21:=Lib.hid (show Below V18.heap.size V18 (V18.alloc (.cells #[.slice none 0 0,.slice none 0 0] 34)) from (Below.refl V18.heap.size V18).alloc (Nat.le_refl _) _)
      refine hK _ _ (US.out _ HX21.out.2) ?_
      clear hK K
      (try simp only [Act.put,gA,gS,gZ,sA,sZ,sS])
      generalize V18.alloc (.cells #[.slice none 0 0,.slice none 0 0] 34) = V21 at HX21 HS21 hlt21 ⊢
      have HB21:=Lib.hid HX21.out.2
      refine any_run hd (L:=[10]) (by kernel_rfl) (by decide) (fun i hi hd2 => ?_)
      clear hd
      have hd:=hd2
      clear hd2
      obtain rfl:=List.mem_singleton.1 hi
      clear hi
      refine any_do rfl rfl (fun K hK => ?_)
      have rA:=HR17X.out.1.below ((HS18.out).trans ((HS21.out).mono (HS18.out).size))
      have rB:=HR18X.out.1.below (HS21.out)
      have hmade:=of_any V21 A17X c17X A18X c18X (datN G ++ M) (datE G ++ D) ⟨rA,rB,by rw [HQ.out.1];exact HR17X.out.2,by rw [HQ.out.2];exact HR18X.out.2,HFT.out⟩ HBB.out
      clear rA rB
      rw [HQ.out.1,HQ.out.2] at hmade
      go_simp
      refine hmade.mono ?_
      clear hmade
      rintro e V22 ⟨AZ,cZ,BZ,dZ,rfl,-,-,bZ⟩
      have HB22:=Lib.hid (HB21.out.trans (bZ.mono HB21.out.size))
      have HS22:=Lib.hid bZ
      clear bZ
      unfold twoV
      refine hK _ _ (US.out _ HB22.out) ?_
      clear hK K
      (try simp only [Act.put,gA,gS,gZ,sA,sZ,sS])
      have hS:=US.out _ HB22.out
      (refine any_takeA (i:=11) rfl hd hS ?_;clear hd;intro hd;(try simp only [Act.put,gA,gS,gZ,sA,sZ,sS]))
      (refine any_takeA (i:=12) rfl hd hS ?_;clear hd;intro hd;(try simp only [Act.put,gA,gS,gZ,sA,sZ,sS]))
      (refine any_takeA (i:=13) rfl hd hS ?_;clear hd;intro hd;(try simp only [Act.put,gA,gS,gZ,sA,sZ,sS]))
      clear hS
      have kr:=HX21.out.1.upd (Upd.of_below (HS22.out) (fun _ => False)) id
      have r0:V22.cell? ⟨V18.heap.size,0,none⟩ = some (.slice none 0 0):=kr.cell 0
      have r1:V22.cell? ⟨V18.heap.size,1,none⟩ = some (.slice none 0 0):=kr.cell 1
      have f0:=kr.frozen 0
      have f1:=kr.frozen 1
      generalize (ofN (datN G ++ M) (datE G ++ D)).length = l1
      generalize (ofE (datN G ++ M) (datE G ++ D)).length = l2
      have uF:=((Upd.refl (fun q => q = V18.heap.size) V22).setCell (p:=⟨V18.heap.size,0,none⟩) (.inl rfl) (.slice AZ l1 cZ)).setCell (p:=⟨V18.heap.size,1,none⟩) (.inl rfl) (.slice BZ l2 dZ)
      have bF:=uF.below (B:=W1.heap.size) (fun q _ e => by subst e;exact HB18.out.size) HB22.out.size
      have bZ:=HB22.out.trans bF
      have hS:=US.out _ bZ
      have FIN:=Lib.hid (HWT.out.trans (bZ.mono HWT.out.size))
      clear kr uF bF bZ
      refine any_run hd (L:=[15]) (by kernel_rfl) (by decide) (fun i hi hd2 => ?_)
      clear hd
      have hd:=hd2
      clear hd2
      obtain rfl:=List.mem_singleton.1 hi
      clear hi
      refine any_do rfl rfl (fun K hK => ?_)
      go_simp
      refine hK _ _ hS ?_
      clear hK K
      (try simp only [Act.put,gA,gS,gZ,sA,sZ,sS])
      (refine any_takeA (i:=16) rfl hd hS ?_;clear hd;intro hd;(try simp only [Act.put,gA,gS,gZ,sA,sZ,sS]))
      refine any_done (by kernel_rfl) ?_
      clear hS hd r0 r1 f0 f1
      go_wp2
      go_ret
      exact ⟨by rw [← HOI.out];rfl,FIN.out⟩
    ·refine any_do rfl rfl (fun K hK => ?_)
     go_simp
     have kx23:=Blk.new V17 34 #[.slice none 0 0,.slice none 0 0]
     have bx23:Below W1.heap.size W1 (V17.alloc (.cells #[.slice none 0 0,.slice none 0 0] 34)):=HB17.out.alloc HB17.out.size _
     have hlt23:=kx23.lt
     have HX23:=Lib.hid (And.intro kx23 bx23)
     clear kx23 bx23
     have HS23:=Lib.hid (show Below V17.heap.size V17 (V17.alloc (.cells #[.slice none 0 0,.slice none 0 0] 34)) from (Below.refl V17.heap.size V17).alloc (Nat.le_refl _) _)
     refine hK _ _ (US.out _ HX23.out.2) ?_
     clear hK K
     (try simp only [Act.put,gA,gS,gZ,sA,sZ,sS])
     generalize V17.alloc (.cells #[.slice none 0 0,.slice none 0 0] 34) = V23 at HX23 HS23 hlt23 ⊢
     have HB23:=Lib.hid HX23.out.2
     refine any_run hd (L:=[9]) (by kernel_rfl) (by decide) (fun i hi hd2 => ?_)
     clear hd
     have hd:=hd2
     clear hd2
     obtain rfl:=List.mem_singleton.1 hi
     clear hi
     refine any_do rfl rfl (fun K hK => ?_)
     go_simp
     have hcon:=concat_ed V23 V1.heap.size B5 d5 B d (datE G) D (by rw [HN.out.2.1,HN.out.2.2.2];exact HX16.out.1.upd (Upd.of_below ((HS17.out).trans ((HS23.out).mono (HS17.out).size)) (fun _ => False)) id) (HR.out.2.1.below HB23.out) (HR.out.2.2.2.below HB23.out) HNL.out.2
     refine hcon.mono ?_
     clear hcon
     rintro e V24 ⟨v,rfl,own24X,b24X⟩
     rw [HQ.out.2] at own24X
     obtain ⟨A24X,c24X,rfl,hle24X,row24X⟩:=own_le2 own24X
     have HB24:=Lib.hid (HB23.out.trans (b24X.mono HB23.out.size))
     have HS24:=Lib.hid b24X
     have HR24X:=Lib.hid (And.intro row24X hle24X)
     clear own24X b24X row24X hle24X
     refine hK _ _ (US.out _ HB24.out) ?_
     clear hK K
     (try simp only [Act.put,gA,gS,gZ,sA,sZ,sS])
     refine any_run hd (L:=[10]) (by kernel_rfl) (by decide) (fun i hi hd2 => ?_)
     clear hd
     have hd:=hd2
     clear hd2
     obtain rfl:=List.mem_singleton.1 hi
     clear hi
     refine any_do rfl rfl (fun K hK => ?_)
     have rA:=HR17X.out.1.below ((HS23.out).trans ((HS24.out).mono (HS23.out).size))
     have rB:=HR24X.out.1.below (Below.refl _ _)
     have hmade:=of_any V24 A17X c17X A24X c24X (datN G ++ M) (datE G ++ D) ⟨rA,rB,by rw [HQ.out.1];exact HR17X.out.2,by rw [HQ.out.2];exact HR24X.out.2,HFT.out⟩ HBB.out
     clear rA rB
     rw [HQ.out.1,HQ.out.2] at hmade
     go_simp
     refine hmade.mono ?_
     clear hmade
     rintro e V25 ⟨AZ,cZ,BZ,dZ,rfl,-,-,bZ⟩
     have HB25:=Lib.hid (HB24.out.trans (bZ.mono HB24.out.size))
     have HS25:=Lib.hid bZ
     clear bZ
     unfold twoV
     refine hK _ _ (US.out _ HB25.out) ?_
     clear hK K
     (try simp only [Act.put,gA,gS,gZ,sA,sZ,sS])
     have hS:=US.out _ HB25.out
     (refine any_takeA (i:=11) rfl hd hS ?_;clear hd;intro hd;(try simp only [Act.put,gA,gS,gZ,sA,sZ,sS]))
     (refine any_takeA (i:=12) rfl hd hS ?_;clear hd;intro hd;(try simp only [Act.put,gA,gS,gZ,sA,sZ,sS]))
     (refine any_takeA (i:=13) rfl hd hS ?_;clear hd;intro hd;(try simp only [Act.put,gA,gS,gZ,sA,sZ,sS]))
     clear hS
     have kr:=HX23.out.1.upd (Upd.of_below ((HS24.out).trans ((HS25.out).mono (HS24.out).size)) (fun _ => False)) id
     have r0:V25.cell? ⟨V17.heap.size,0,none⟩ = some (.slice none 0 0):=kr.cell 0
     have r1:V25.cell? ⟨V17.heap.size,1,none⟩ = some (.slice none 0 0):=kr.cell 1
     have f0:=kr.frozen 0
     have f1:=kr.frozen 1
     generalize (ofN (datN G ++ M) (datE G ++ D)).length = l1
     generalize (ofE (datN G ++ M) (datE G ++ D)).length = l2
     have uF:=((Upd.refl (fun q => q = V17.heap.size) V25).setCell (p:=⟨V17.heap.size,0,none⟩) (.inl rfl) (.slice AZ l1 cZ)).setCell (p:=⟨V17.heap.size,1,none⟩) (.inl rfl) (.slice BZ l2 dZ)
     have bF:=uF.below (B:=W1.heap.size) (fun q _ e => by subst e;exact HB17.out.size) HB25.out.size
     have bZ:=HB25.out.trans bF
     have hS:=US.out _ bZ
     have FIN:=Lib.hid (HWT.out.trans (bZ.mono HWT.out.size))
     clear kr uF bF bZ
     refine any_run hd (L:=[15]) (by kernel_rfl) (by decide) (fun i hi hd2 => ?_)
     clear hd
     have hd:=hd2
     clear hd2
     obtain rfl:=List.mem_singleton.1 hi
     clear hi
     refine any_do rfl rfl (fun K hK => ?_)
     go_simp
     refine hK _ _ hS ?_
     clear hK K
     (try simp only [Act.put,gA,gS,gZ,sA,sZ,sS])
     (refine any_takeA (i:=16) rfl hd hS ?_;clear hd;intro hd;(try simp only [Act.put,gA,gS,gZ,sA,sZ,sS]))
     refine any_done (by kernel_rfl) ?_
     clear hS hd r0 r1 f0 f1
     go_wp2
     go_ret
     exact ⟨by rw [← HOI.out];rfl,FIN.out⟩
   ·refine any_do rfl rfl (fun K hK => ?_)
    go_simp
    have kx26:=Blk.new V16 34 #[.slice none 0 0,.slice none 0 0]
    have bx26:Below W1.heap.size W1 (V16.alloc (.cells #[.slice none 0 0,.slice none 0 0] 34)):=HB16.out.alloc HB16.out.size _
    have hlt26:=kx26.lt
    have HX26:=Lib.hid (And.intro kx26 bx26)
    clear kx26 bx26
    have HS26:=Lib.hid (show Below V16.heap.size V16 (V16.alloc (.cells #[.slice none 0 0,.slice none 0 0] 34)) from (Below.refl V16.heap.size V16).alloc (Nat.le_refl _) _)
    refine hK _ _ (US.out _ HX26.out.2) ?_
    clear hK K
    (try simp only [Act.put,gA,gS,gZ,sA,sZ,sS])
    generalize V16.alloc (.cells #[.slice none 0 0,.slice none 0 0] 34) = V26 at HX26 HS26 hlt26 ⊢
    have HB26:=Lib.hid HX26.out.2
    refine any_run hd (L:=[4]) (by kernel_rfl) (by decide) (fun i hi hd2 => ?_)
    clear hd
    have hd:=hd2
    clear hd2
    obtain rfl:=List.mem_singleton.1 hi
    clear hi
    refine any_do rfl rfl (fun K hK => ?_)
    go_simp
    have hcon:=concat_txt V26 V0.heap.size A5 c5 A c (datN G) M (by rw [HN.out.1,HN.out.2.2.1];exact HX1.out.1.upd (Upd.of_below ((HS16.out).trans ((HS26.out).mono (HS16.out).size)) (fun _ => False)) id) (HR.out.1.below HB26.out) (HR.out.2.2.1.below HB26.out) HNL.out.1
    refine hcon.mono ?_
    clear hcon
    rintro e V27 ⟨v,rfl,own27X,b27X⟩
    rw [HQ.out.1] at own27X
    obtain ⟨A27X,c27X,rfl,hle27X,row27X⟩:=own_le2 own27X
    have HB27:=Lib.hid (HB26.out.trans (b27X.mono HB26.out.size))
    have HS27:=Lib.hid b27X
    have HR27X:=Lib.hid (And.intro row27X hle27X)
    clear own27X b27X row27X hle27X
    refine hK _ _ (US.out _ HB27.out) ?_
    clear hK K
    (try simp only [Act.put,gA,gS,gZ,sA,sZ,sS])
    refine any_run hd (L:=[9]) (by kernel_rfl) (by decide) (fun i hi hd2 => ?_)
    clear hd
    have hd:=hd2
    clear hd2
    obtain rfl:=List.mem_singleton.1 hi
    clear hi
    refine any_do rfl rfl (fun K hK => ?_)
    go_simp
    have hcon:=concat_ed V27 V1.heap.size B5 d5 B d (datE G) D (by rw [HN.out.2.1,HN.out.2.2.2];exact HX16.out.1.upd (Upd.of_below ((HS26.out).trans ((HS27.out).mono (HS26.out).size)) (fun _ => False)) id) (HR.out.2.1.below HB27.out) (HR.out.2.2.2.below HB27.out) HNL.out.2
    refine hcon.mono ?_
    clear hcon
    rintro e V28 ⟨v,rfl,own28X,b28X⟩
    rw [HQ.out.2] at own28X
    obtain ⟨A28X,c28X,rfl,hle28X,row28X⟩:=own_le2 own28X
    have HB28:=Lib.hid (HB27.out.trans (b28X.mono HB27.out.size))
    have HS28:=Lib.hid b28X
    have HR28X:=Lib.hid (And.intro row28X hle28X)
    clear own28X b28X row28X hle28X
    refine hK _ _ (US.out _ HB28.out) ?_
    clear hK K
    (try simp only [Act.put,gA,gS,gZ,sA,sZ,sS])
    refine any_run hd (L:=[10]) (by kernel_rfl) (by decide) (fun i hi hd2 => ?_)
    clear hd
    have hd:=hd2
    clear hd2
    obtain rfl:=List.mem_singleton.1 hi
    clear hi
    refine any_do rfl rfl (fun K hK => ?_)
    have rA:=HR27X.out.1.below (HS28.out)
    have rB:=HR28X.out.1.below (Below.refl _ _)
    have hmade:=of_any V28 A27X c27X A28X c28X (datN G ++ M) (datE G ++ D) ⟨rA,rB,by rw [HQ.out.1];exact HR27X.out.2,by rw [HQ.out.2];exact HR28X.out.2,HFT.out⟩ HBB.out
    clear rA rB
    rw [HQ.out.1,HQ.out.2] at hmade
    go_simp
    refine hmade.mono ?_
    clear hmade
    rintro e V29 ⟨AZ,cZ,BZ,dZ,rfl,-,-,bZ⟩
    have HB29:=Lib.hid (HB28.out.trans (bZ.mono HB28.out.size))
    have HS29:=Lib.hid bZ
    clear bZ
    unfold twoV
    refine hK _ _ (US.out _ HB29.out) ?_
    clear hK K
    (try simp only [Act.put,gA,gS,gZ,sA,sZ,sS])
    have hS:=US.out _ HB29.out
    (refine any_takeA (i:=11) rfl hd hS ?_;clear hd;intro hd;(try simp only [Act.put,gA,gS,gZ,sA,sZ,sS]))
    (refine any_takeA (i:=12) rfl hd hS ?_;clear hd;intro hd;(try simp only [Act.put,gA,gS,gZ,sA,sZ,sS]))
    (refine any_takeA (i:=13) rfl hd hS ?_;clear hd;intro hd;(try simp only [Act.put,gA,gS,gZ,sA,sZ,sS]))
    clear hS
    have kr:=HX26.out.1.upd (Upd.of_below (((HS27.out).trans ((HS28.out).mono (HS27.out).size)).trans ((HS29.out).mono ((HS27.out).trans ((HS28.out).mono (HS27.out).size)).size)) (fun _ => False)) id
    have r0:V29.cell? ⟨V16.heap.size,0,none⟩ = some (.slice none 0 0):=kr.cell 0
    have r1:V29.cell? ⟨V16.heap.size,1,none⟩ = some (.slice none 0 0):=kr.cell 1
    have f0:=kr.frozen 0
    have f1:=kr.frozen 1
    generalize (ofN (datN G ++ M) (datE G ++ D)).length = l1
    generalize (ofE (datN G ++ M) (datE G ++ D)).length = l2
    have uF:=((Upd.refl (fun q => q = V16.heap.size) V29).setCell (p:=⟨V16.heap.size,0,none⟩) (.inl rfl) (.slice AZ l1 cZ)).setCell (p:=⟨V16.heap.size,1,none⟩) (.inl rfl) (.slice BZ l2 dZ)
    have bF:=uF.below (B:=W1.heap.size) (fun q _ e => by subst e;exact HB16.out.size) HB29.out.size
    have bZ:=HB29.out.trans bF
    have hS:=US.out _ bZ
    have FIN:=Lib.hid (HWT.out.trans (bZ.mono HWT.out.size))
    clear kr uF bF bZ
    refine any_run hd (L:=[15]) (by kernel_rfl) (by decide) (fun i hi hd2 => ?_)
    clear hd
    have hd:=hd2
    clear hd2
    obtain rfl:=List.mem_singleton.1 hi
    clear hi
    refine any_do rfl rfl (fun K hK => ?_)
    go_simp
    refine hK _ _ hS ?_
    clear hK K
    (try simp only [Act.put,gA,gS,gZ,sA,sZ,sS])
    (refine any_takeA (i:=16) rfl hd hS ?_;clear hd;intro hd;(try simp only [Act.put,gA,gS,gZ,sA,sZ,sS]))
    refine any_done (by kernel_rfl) ?_
    clear hS hd r0 r1 f0 f1
    go_wp2
    go_ret
    exact ⟨by rw [← HOI.out];rfl,FIN.out⟩
  ·refine any_do rfl rfl (fun K hK => ?_)
   go_simp
   have kx30:=Blk.new V1 34 #[.slice none 0 0,.slice none 0 0]
   have bx30:Below W1.heap.size W1 (V1.alloc (.cells #[.slice none 0 0,.slice none 0 0] 34)):=HB1.out.alloc HB1.out.size _
   have hlt30:=kx30.lt
   have HX30:=Lib.hid (And.intro kx30 bx30)
   clear kx30 bx30
   have HS30:=Lib.hid (show Below V1.heap.size V1 (V1.alloc (.cells #[.slice none 0 0,.slice none 0 0] 34)) from (Below.refl V1.heap.size V1).alloc (Nat.le_refl _) _)
   refine hK _ _ (US.out _ HX30.out.2) ?_
   clear hK K
   (try simp only [Act.put,gA,gS,gZ,sA,sZ,sS])
   generalize V1.alloc (.cells #[.slice none 0 0,.slice none 0 0] 34) = V30 at HX30 HS30 hlt30 ⊢
   have HB30:=Lib.hid HX30.out.2
   refine any_run hd (L:=[4,8]) (by kernel_rfl) (by decide) (fun i hi hd2 => ?_)
   clear hd
   have hd:=hd2
   clear hd2
   simp only [List.mem_cons,List.not_mem_nil,or_false] at hi
   rcases hi with rfl | rfl
   ·refine any_do rfl rfl (fun K hK => ?_)
    go_simp
    have hcon:=concat_txt V30 V0.heap.size A5 c5 A c (datN G) M (by rw [HN.out.1,HN.out.2.2.1];exact HX1.out.1.upd (Upd.of_below (HS30.out) (fun _ => False)) id) (HR.out.1.below HB30.out) (HR.out.2.2.1.below HB30.out) HNL.out.1
    refine hcon.mono ?_
    clear hcon
    rintro e V31 ⟨v,rfl,own31X,b31X⟩
    rw [HQ.out.1] at own31X
    obtain ⟨A31X,c31X,rfl,hle31X,row31X⟩:=own_le2 own31X
    have HB31:=Lib.hid (HB30.out.trans (b31X.mono HB30.out.size))
    have HS31:=Lib.hid b31X
    have HR31X:=Lib.hid (And.intro row31X hle31X)
    clear own31X b31X row31X hle31X
    refine hK _ _ (US.out _ HB31.out) ?_
    clear hK K
    (try simp only [Act.put,gA,gS,gZ,sA,sZ,sS])
    refine any_run hd (L:=[8]) (by kernel_rfl) (by decide) (fun i hi hd2 => ?_)
    clear hd
    have hd:=hd2
    clear hd2
    obtain rfl:=List.mem_singleton.1 hi
    clear hi
    refine any_do rfl rfl (fun K hK => ?_)
    go_simp
    have kx32:=Blk.new V31 27 #[.slice B5 x2 d5,.slice B m2 d]
    have bx32:Below W1.heap.size W1 (V31.alloc (.cells #[.slice B5 x2 d5,.slice B m2 d] 27)):=HB31.out.alloc HB31.out.size _
    have hlt32:=kx32.lt
    have HX32:=Lib.hid (And.intro kx32 bx32)
    clear kx32 bx32
    have HS32:=Lib.hid (show Below V31.heap.size V31 (V31.alloc (.cells #[.slice B5 x2 d5,.slice B m2 d] 27)) from (Below.refl V31.heap.size V31).alloc (Nat.le_refl _) _)
    refine hK _ _ (US.out _ HX32.out.2) ?_
    clear hK K
    (try simp only [Act.put,gA,gS,gZ,sA,sZ,sS])
    generalize V31.alloc (.cells #[.slice B5 x2 d5,.slice B m2 d] 27) = V32 at HX32 HS32 hlt32 ⊢
    have HB32:=Lib.hid HX32.out.2
    refine any_run hd (L:=[9]) (by kernel_rfl) (by decide) (fun i hi hd2 => ?_)
    clear hd
    have hd:=hd2
    clear hd2
    obtain rfl:=List.mem_singleton.1 hi
    clear hi
    refine any_do rfl rfl (fun K hK => ?_)
    go_simp
    have hcon:=concat_ed V32 V31.heap.size B5 d5 B d (datE G) D (by rw [HN.out.2.1,HN.out.2.2.2];exact HX32.out.1.upd (Upd.of_below (Below.refl _ _) (fun _ => False)) id) (HR.out.2.1.below HB32.out) (HR.out.2.2.2.below HB32.out) HNL.out.2
    refine hcon.mono ?_
    clear hcon
    rintro e V33 ⟨v,rfl,own33X,b33X⟩
    rw [HQ.out.2] at own33X
    obtain ⟨A33X,c33X,rfl,hle33X,row33X⟩:=own_le2 own33X
    have HB33:=Lib.hid (HB32.out.trans (b33X.mono HB32.out.size))
    have HS33:=Lib.hid b33X
    have HR33X:=Lib.hid (And.intro row33X hle33X)
    clear own33X b33X row33X hle33X
    refine hK _ _ (US.out _ HB33.out) ?_
    clear hK K
    (try simp only [Act.put,gA,gS,gZ,sA,sZ,sS])
    refine any_run hd (L:=[10]) (by kernel_rfl) (by decide) (fun i hi hd2 => ?_)
    clear hd
    have hd:=hd2
    clear hd2
    obtain rfl:=List.mem_singleton.1 hi
    clear hi
    refine any_do rfl rfl (fun K hK => ?_)
    have rA:=HR31X.out.1.below ((HS32.out).trans ((HS33.out).mono (HS32.out).size))
    have rB:=HR33X.out.1.below (Below.refl _ _)
    have hmade:=of_any V33 A31X c31X A33X c33X (datN G ++ M) (datE G ++ D) ⟨rA,rB,by rw [HQ.out.1];exact HR31X.out.2,by rw [HQ.out.2];exact HR33X.out.2,HFT.out⟩ HBB.out
    clear rA rB
    rw [HQ.out.1,HQ.out.2] at hmade
    go_simp
    refine hmade.mono ?_
    clear hmade
    rintro e V34 ⟨AZ,cZ,BZ,dZ,rfl,-,-,bZ⟩
    have HB34:=Lib.hid (HB33.out.trans (bZ.mono HB33.out.size))
    have HS34:=Lib.hid bZ
    clear bZ
    unfold twoV
    refine hK _ _ (US.out _ HB34.out) ?_
    clear hK K
    (try simp only [Act.put,gA,gS,gZ,sA,sZ,sS])
    have hS:=US.out _ HB34.out
    (refine any_takeA (i:=11) rfl hd hS ?_;clear hd;intro hd;(try simp only [Act.put,gA,gS,gZ,sA,sZ,sS]))
    (refine any_takeA (i:=12) rfl hd hS ?_;clear hd;intro hd;(try simp only [Act.put,gA,gS,gZ,sA,sZ,sS]))
    (refine any_takeA (i:=13) rfl hd hS ?_;clear hd;intro hd;(try simp only [Act.put,gA,gS,gZ,sA,sZ,sS]))
    clear hS
    have kr:=HX30.out.1.upd (Upd.of_below ((((HS31.out).trans ((HS32.out).mono (HS31.out).size)).trans ((HS33.out).mono ((HS31.out).trans ((HS32.out).mono (HS31.out).size)).size)).trans ((HS34.out).mono (((HS31.out).trans ((HS32.out).mono (HS31.out).size)).trans ((HS33.out).mono ((HS31.out).trans ((HS32.out).mono (HS31.out).size)).size)).size)) (fun _ => False)) id
    have r0:V34.cell? ⟨V1.heap.size,0,none⟩ = some (.slice none 0 0):=kr.cell 0
    have r1:V34.cell? ⟨V1.heap.size,1,none⟩ = some (.slice none 0 0):=kr.cell 1
    have f0:=kr.frozen 0
    have f1:=kr.frozen 1
    generalize (ofN (datN G ++ M) (datE G ++ D)).length = l1
    generalize (ofE (datN G ++ M) (datE G ++ D)).length = l2
    have uF:=((Upd.refl (fun q => q = V1.heap.size) V34).setCell (p:=⟨V1.heap.size,0,none⟩) (.inl rfl) (.slice AZ l1 cZ)).setCell (p:=⟨V1.heap.size,1,none⟩) (.inl rfl) (.slice BZ l2 dZ)
    have bF:=uF.below (B:=W1.heap.size) (fun q _ e => by subst e;exact HB1.out.size) HB34.out.size
    have bZ:=HB34.out.trans bF
    have hS:=US.out _ bZ
    have FIN:=Lib.hid (HWT.out.trans (bZ.mono HWT.out.size))
    clear kr uF bF bZ
    refine any_run hd (L:=[15]) (by kernel_rfl) (by decide) (fun i hi hd2 => ?_)
    clear hd
    have hd:=hd2
    clear hd2
    obtain rfl:=List.mem_singleton.1 hi
    clear hi
    refine any_do rfl rfl (fun K hK => ?_)
    go_simp
    refine hK _ _ hS ?_
    clear hK K
    (try simp only [Act.put,gA,gS,gZ,sA,sZ,sS])
    (refine any_takeA (i:=16) rfl hd hS ?_;clear hd;intro hd;(try simp only [Act.put,gA,gS,gZ,sA,sZ,sS]))
    refine any_done (by kernel_rfl) ?_
    clear hS hd r0 r1 f0 f1
    go_wp2
    go_ret
    exact ⟨by rw [← HOI.out];rfl,FIN.out⟩
   ·refine any_do rfl rfl (fun K hK => ?_)
    go_simp
    have kx35:=Blk.new V30 27 #[.slice B5 x2 d5,.slice B m2 d]
    have bx35:Below W1.heap.size W1 (V30.alloc (.cells #[.slice B5 x2 d5,.slice B m2 d] 27)):=HB30.out.alloc HB30.out.size _
    have hlt35:=kx35.lt
    have HX35:=Lib.hid (And.intro kx35 bx35)
    clear kx35 bx35
    have HS35:=Lib.hid (show Below V30.heap.size V30 (V30.alloc (.cells #[.slice B5 x2 d5,.slice B m2 d] 27)) from (Below.refl V30.heap.size V30).alloc (Nat.le_refl _) _)
    refine hK _ _ (US.out _ HX35.out.2) ?_
    clear hK K
    (try simp only [Act.put,gA,gS,gZ,sA,sZ,sS])
    generalize V30.alloc (.cells #[.slice B5 x2 d5,.slice B m2 d] 27) = V35 at HX35 HS35 hlt35 ⊢
    have HB35:=Lib.hid HX35.out.2
    refine any_run hd (L:=[4]) (by kernel_rfl) (by decide) (fun i hi hd2 => ?_)
    clear hd
    have hd:=hd2
    clear hd2
    obtain rfl:=List.mem_singleton.1 hi
    clear hi
    refine any_do rfl rfl (fun K hK => ?_)
    go_simp
    have hcon:=concat_txt V35 V0.heap.size A5 c5 A c (datN G) M (by rw [HN.out.1,HN.out.2.2.1];exact HX1.out.1.upd (Upd.of_below ((HS30.out).trans ((HS35.out).mono (HS30.out).size)) (fun _ => False)) id) (HR.out.1.below HB35.out) (HR.out.2.2.1.below HB35.out) HNL.out.1
    refine hcon.mono ?_
    clear hcon
    rintro e V36 ⟨v,rfl,own36X,b36X⟩
    rw [HQ.out.1] at own36X
    obtain ⟨A36X,c36X,rfl,hle36X,row36X⟩:=own_le2 own36X
    have HB36:=Lib.hid (HB35.out.trans (b36X.mono HB35.out.size))
    have HS36:=Lib.hid b36X
    have HR36X:=Lib.hid (And.intro row36X hle36X)
    clear own36X b36X row36X hle36X
    refine hK _ _ (US.out _ HB36.out) ?_
    clear hK K
    (try simp only [Act.put,gA,gS,gZ,sA,sZ,sS])
    refine any_run hd (L:=[9]) (by kernel_rfl) (by decide) (fun i hi hd2 => ?_)
    clear hd
    have hd:=hd2
    clear hd2
    obtain rfl:=List.mem_singleton.1 hi
    clear hi
    refine any_do rfl rfl (fun K hK => ?_)
    go_simp
    have hcon:=concat_ed V36 V30.heap.size B5 d5 B d (datE G) D (by rw [HN.out.2.1,HN.out.2.2.2];exact HX35.out.1.upd (Upd.of_below (HS36.out) (fun _ => False)) id) (HR.out.2.1.below HB36.out) (HR.out.2.2.2.below HB36.out) HNL.out.2
    refine hcon.mono ?_
    clear hcon
    rintro e V37 ⟨v,rfl,own37X,b37X⟩
    rw [HQ.out.2] at own37X
    obtain ⟨A37X,c37X,rfl,hle37X,row37X⟩:=own_le2 own37X
    have HB37:=Lib.hid (HB36.out.trans (b37X.mono HB36.out.size))
    have HS37:=Lib.hid b37X
    have HR37X:=Lib.hid (And.intro row37X hle37X)
    clear own37X b37X row37X hle37X
    refine hK _ _ (US.out _ HB37.out) ?_
    clear hK K
    (try simp only [Act.put,gA,gS,gZ,sA,sZ,sS])
    refine any_run hd (L:=[10]) (by kernel_rfl) (by decide) (fun i hi hd2 => ?_)
    clear hd
    have hd:=hd2
    clear hd2
    obtain rfl:=List.mem_singleton.1 hi
    clear hi
    refine any_do rfl rfl (fun K hK => ?_)
    have rA:=HR36X.out.1.below (HS37.out)
    have rB:=HR37X.out.1.below (Below.refl _ _)
    have hmade:=of_any V37 A36X c36X A37X c37X (datN G ++ M) (datE G ++ D) ⟨rA,rB,by rw [HQ.out.1];exact HR36X.out.2,by rw [HQ.out.2];exact HR37X.out.2,HFT.out⟩ HBB.out
    clear rA rB
    rw [HQ.out.1,HQ.out.2] at hmade
    go_simp
    refine hmade.mono ?_
    clear hmade
    rintro e V38 ⟨AZ,cZ,BZ,dZ,rfl,-,-,bZ⟩
    have HB38:=Lib.hid (HB37.out.trans (bZ.mono HB37.out.size))
    have HS38:=Lib.hid bZ
    clear bZ
    unfold twoV
    refine hK _ _ (US.out _ HB38.out) ?_
    clear hK K
    (try simp only [Act.put,gA,gS,gZ,sA,sZ,sS])
    have hS:=US.out _ HB38.out
    (refine any_takeA (i:=11) rfl hd hS ?_;clear hd;intro hd;(try simp only [Act.put,gA,gS,gZ,sA,sZ,sS]))
    (refine any_takeA (i:=12) rfl hd hS ?_;clear hd;intro hd;(try simp only [Act.put,gA,gS,gZ,sA,sZ,sS]))
    (refine any_takeA (i:=13) rfl hd hS ?_;clear hd;intro hd;(try simp only [Act.put,gA,gS,gZ,sA,sZ,sS]))
    clear hS
    have kr:=HX30.out.1.upd (Upd.of_below ((((HS35.out).trans ((HS36.out).mono (HS35.out).size)).trans ((HS37.out).mono ((HS35.out).trans ((HS36.out).mono (HS35.out).size)).size)).trans ((HS38.out).mono (((HS35.out).trans ((HS36.out).mono (HS35.out).size)).trans ((HS37.out).mono ((HS35.out).trans ((HS36.out).mono (HS35.out).size)).size)).size)) (fun _ => False)) id
    have r0:V38.cell? ⟨V1.heap.size,0,none⟩ = some (.slice none 0 0):=kr.cell 0
    have r1:V38.cell? ⟨V1.heap.size,1,none⟩ = some (.slice none 0 0):=kr.cell 1
    have f0:=kr.frozen 0
    have f1:=kr.frozen 1
    generalize (ofN (datN G ++ M) (datE G ++ D)).length = l1
    generalize (ofE (datN G ++ M) (datE G ++ D)).length = l2
    have uF:=((Upd.refl (fun q => q = V1.heap.size) V38).setCell (p:=⟨V1.heap.size,0,none⟩) (.inl rfl) (.slice AZ l1 cZ)).setCell (p:=⟨V1.heap.size,1,none⟩) (.inl rfl) (.slice BZ l2 dZ)
    have bF:=uF.below (B:=W1.heap.size) (fun q _ e => by subst e;exact HB1.out.size) HB38.out.size
    have bZ:=HB38.out.trans bF
    have hS:=US.out _ bZ
    have FIN:=Lib.hid (HWT.out.trans (bZ.mono HWT.out.size))
    clear kr uF bF bZ
    refine any_run hd (L:=[15]) (by kernel_rfl) (by decide) (fun i hi hd2 => ?_)
    clear hd
    have hd:=hd2
    clear hd2
    obtain rfl:=List.mem_singleton.1 hi
    clear hi
    refine any_do rfl rfl (fun K hK => ?_)
    go_simp
    refine hK _ _ hS ?_
    clear hK K
    (try simp only [Act.put,gA,gS,gZ,sA,sZ,sS])
    (refine any_takeA (i:=16) rfl hd hS ?_;clear hd;intro hd;(try simp only [Act.put,gA,gS,gZ,sA,sZ,sS]))
    refine any_done (by kernel_rfl) ?_
    clear hS hd r0 r1 f0 f1
    go_wp2
    go_ret
    exact ⟨by rw [← HOI.out];rfl,FIN.out⟩
 ·refine any_do rfl rfl (fun K hK => ?_)
  go_simp
  have kx39:=Blk.new V0 27 #[.slice B5 x2 d5,.slice B m2 d]
  have bx39:Below W1.heap.size W1 (V0.alloc (.cells #[.slice B5 x2 d5,.slice B m2 d] 27)):=HB0.out.alloc HB0.out.size _
  have hlt39:=kx39.lt
  have HX39:=Lib.hid (And.intro kx39 bx39)
  clear kx39 bx39
  have HS39:=Lib.hid (show Below V0.heap.size V0 (V0.alloc (.cells #[.slice B5 x2 d5,.slice B m2 d] 27)) from (Below.refl V0.heap.size V0).alloc (Nat.le_refl _) _)
  refine hK _ _ (US.out _ HX39.out.2) ?_
  clear hK K
  (try simp only [Act.put,gA,gS,gZ,sA,sZ,sS])
  generalize V0.alloc (.cells #[.slice B5 x2 d5,.slice B m2 d] 27) = V39 at HX39 HS39 hlt39 ⊢
  have HB39:=Lib.hid HX39.out.2
  refine any_run hd (L:=[3,14]) (by kernel_rfl) (by decide) (fun i hi hd2 => ?_)
  clear hd
  have hd:=hd2
  clear hd2
  simp only [List.mem_cons,List.not_mem_nil,or_false] at hi
  rcases hi with rfl | rfl
  ·refine any_do rfl rfl (fun K hK => ?_)
   go_simp
   have kx40:=Blk.new V39 26 #[.slice A5 x1 c5,.slice A m1 c]
   have bx40:Below W1.heap.size W1 (V39.alloc (.cells #[.slice A5 x1 c5,.slice A m1 c] 26)):=HB39.out.alloc HB39.out.size _
   have hlt40:=kx40.lt
   have HX40:=Lib.hid (And.intro kx40 bx40)
   clear kx40 bx40
   have HS40:=Lib.hid (show Below V39.heap.size V39 (V39.alloc (.cells #[.slice A5 x1 c5,.slice A m1 c] 26)) from (Below.refl V39.heap.size V39).alloc (Nat.le_refl _) _)
   refine hK _ _ (US.out _ HX40.out.2) ?_
   clear hK K
   (try simp only [Act.put,gA,gS,gZ,sA,sZ,sS])
   generalize V39.alloc (.cells #[.slice A5 x1 c5,.slice A m1 c] 26) = V40 at HX40 HS40 hlt40 ⊢
   have HB40:=Lib.hid HX40.out.2
   refine any_run hd (L:=[4,14]) (by kernel_rfl) (by decide) (fun i hi hd2 => ?_)
   clear hd
   have hd:=hd2
   clear hd2
   simp only [List.mem_cons,List.not_mem_nil,or_false] at hi
   rcases hi with rfl | rfl
   ·refine any_do rfl rfl (fun K hK => ?_)
    go_simp
    have hcon:=concat_txt V40 V39.heap.size A5 c5 A c (datN G) M (by rw [HN.out.1,HN.out.2.2.1];exact HX40.out.1.upd (Upd.of_below (Below.refl _ _) (fun _ => False)) id) (HR.out.1.below HB40.out) (HR.out.2.2.1.below HB40.out) HNL.out.1
    refine hcon.mono ?_
    clear hcon
    rintro e V41 ⟨v,rfl,own41X,b41X⟩
    rw [HQ.out.1] at own41X
    obtain ⟨A41X,c41X,rfl,hle41X,row41X⟩:=own_le2 own41X
    have HB41:=Lib.hid (HB40.out.trans (b41X.mono HB40.out.size))
    have HS41:=Lib.hid b41X
    have HR41X:=Lib.hid (And.intro row41X hle41X)
    clear own41X b41X row41X hle41X
    refine hK _ _ (US.out _ HB41.out) ?_
    clear hK K
    (try simp only [Act.put,gA,gS,gZ,sA,sZ,sS])
    refine any_run hd (L:=[9,14]) (by kernel_rfl) (by decide) (fun i hi hd2 => ?_)
    clear hd
    have hd:=hd2
    clear hd2
    simp only [List.mem_cons,List.not_mem_nil,or_false] at hi
    rcases hi with rfl | rfl
    ·refine any_do rfl rfl (fun K hK => ?_)
     go_simp
     have hcon:=concat_ed V41 V0.heap.size B5 d5 B d (datE G) D (by rw [HN.out.2.1,HN.out.2.2.2];exact HX39.out.1.upd (Upd.of_below ((HS40.out).trans ((HS41.out).mono (HS40.out).size)) (fun _ => False)) id) (HR.out.2.1.below HB41.out) (HR.out.2.2.2.below HB41.out) HNL.out.2
     refine hcon.mono ?_
     clear hcon
     rintro e V42 ⟨v,rfl,own42X,b42X⟩
     rw [HQ.out.2] at own42X
     obtain ⟨A42X,c42X,rfl,hle42X,row42X⟩:=own_le2 own42X
     have HB42:=Lib.hid (HB41.out.trans (b42X.mono HB41.out.size))
     have HS42:=Lib.hid b42X
     have HR42X:=Lib.hid (And.intro row42X hle42X)
     clear own42X b42X row42X hle42X
     refine hK _ _ (US.out _ HB42.out) ?_
     clear hK K
     (try simp only [Act.put,gA,gS,gZ,sA,sZ,sS])
     refine any_run hd (L:=[10,14]) (by kernel_rfl) (by decide) (fun i hi hd2 => ?_)
     clear hd
     have hd:=hd2
     clear hd2
     simp only [List.mem_cons,List.not_mem_nil,or_false] at hi
     rcases hi with rfl | rfl
     ·refine any_do rfl rfl (fun K hK => ?_)
      have rA:=HR41X.out.1.below (HS42.out)
      have rB:=HR42X.out.1.below (Below.refl _ _)
      have hmade:=of_any V42 A41X c41X A42X c42X (datN G ++ M) (datE G ++ D) ⟨rA,rB,by rw [HQ.out.1];exact HR41X.out.2,by rw [HQ.out.2];exact HR42X.out.2,HFT.out⟩ HBB.out
      clear rA rB
      rw [HQ.out.1,HQ.out.2] at hmade
      go_simp
      refine hmade.mono ?_
      clear hmade
      rintro e V43 ⟨AZ,cZ,BZ,dZ,rfl,-,-,bZ⟩
      have HB43:=Lib.hid (HB42.out.trans (bZ.mono HB42.out.size))
      have HS43:=Lib.hid bZ
      clear bZ
      unfold twoV
      refine hK _ _ (US.out _ HB43.out) ?_
      clear hK K
      (try simp only [Act.put,gA,gS,gZ,sA,sZ,sS])
      have hS:=US.out _ HB43.out
      (refine any_takeA (i:=11) rfl hd hS ?_;clear hd;intro hd;(try simp only [Act.put,gA,gS,gZ,sA,sZ,sS]))
      (refine any_takeA (i:=12) rfl hd hS ?_;clear hd;intro hd;(try simp only [Act.put,gA,gS,gZ,sA,sZ,sS]))
      (refine any_takeA (i:=13) rfl hd hS ?_;clear hd;intro hd;(try simp only [Act.put,gA,gS,gZ,sA,sZ,sS]))
      clear hS
      refine any_run hd (L:=[14]) (by kernel_rfl) (by decide) (fun i hi hd2 => ?_)
      clear hd
      have hd:=hd2
      clear hd2
      obtain rfl:=List.mem_singleton.1 hi
      clear hi
      refine any_do rfl rfl (fun K hK => ?_)
      go_simp
      have kx44:=Blk.new V43 34 #[.slice none 0 0,.slice none 0 0]
      have bx44:Below W1.heap.size W1 (V43.alloc (.cells #[.slice none 0 0,.slice none 0 0] 34)):=HB43.out.alloc HB43.out.size _
      have hlt44:=kx44.lt
      have HX44:=Lib.hid (And.intro kx44 bx44)
      clear kx44 bx44
      have HS44:=Lib.hid (show Below V43.heap.size V43 (V43.alloc (.cells #[.slice none 0 0,.slice none 0 0] 34)) from (Below.refl V43.heap.size V43).alloc (Nat.le_refl _) _)
      refine hK _ _ (US.out _ HX44.out.2) ?_
      clear hK K
      (try simp only [Act.put,gA,gS,gZ,sA,sZ,sS])
      generalize V43.alloc (.cells #[.slice none 0 0,.slice none 0 0] 34) = V44 at HX44 HS44 hlt44 ⊢
      have HB44:=Lib.hid HX44.out.2
      have kr:=HX44.out.1.upd (Upd.of_below (Below.refl _ _) (fun _ => False)) id
      have r0:V44.cell? ⟨V43.heap.size,0,none⟩ = some (.slice none 0 0):=kr.cell 0
      have r1:V44.cell? ⟨V43.heap.size,1,none⟩ = some (.slice none 0 0):=kr.cell 1
      have f0:=kr.frozen 0
      have f1:=kr.frozen 1
      generalize (ofN (datN G ++ M) (datE G ++ D)).length = l1
      generalize (ofE (datN G ++ M) (datE G ++ D)).length = l2
      have uF:=((Upd.refl (fun q => q = V43.heap.size) V44).setCell (p:=⟨V43.heap.size,0,none⟩) (.inl rfl) (.slice AZ l1 cZ)).setCell (p:=⟨V43.heap.size,1,none⟩) (.inl rfl) (.slice BZ l2 dZ)
      have bF:=uF.below (B:=W1.heap.size) (fun q _ e => by subst e;exact HB43.out.size) HB44.out.size
      have bZ:=HB44.out.trans bF
      have hS:=US.out _ bZ
      have FIN:=Lib.hid (HWT.out.trans (bZ.mono HWT.out.size))
      clear kr uF bF bZ
      refine any_run hd (L:=[15]) (by kernel_rfl) (by decide) (fun i hi hd2 => ?_)
      clear hd
      have hd:=hd2
      clear hd2
      obtain rfl:=List.mem_singleton.1 hi
      clear hi
      refine any_do rfl rfl (fun K hK => ?_)
      go_simp
      refine hK _ _ hS ?_
      clear hK K
      (try simp only [Act.put,gA,gS,gZ,sA,sZ,sS])
      (refine any_takeA (i:=16) rfl hd hS ?_;clear hd;intro hd;(try simp only [Act.put,gA,gS,gZ,sA,sZ,sS]))
      refine any_done (by kernel_rfl) ?_
      clear hS hd r0 r1 f0 f1
      go_wp2
      go_ret
      exact ⟨by rw [← HOI.out];rfl,FIN.out⟩
     ·refine any_do rfl rfl (fun K hK => ?_)
      go_simp
      have kx45:=Blk.new V42 34 #[.slice none 0 0,.slice none 0 0]
      have bx45:Below W1.heap.size W1 (V42.alloc (.cells #[.slice none 0 0,.slice none 0 0] 34)):=HB42.out.alloc HB42.out.size _
      have hlt45:=kx45.lt
      have HX45:=Lib.hid (And.intro kx45 bx45)
      clear kx45 bx45
      have HS45:=Lib.hid (show Below V42.heap.size V42 (V42.alloc (.cells #[.slice none 0 0,.slice none 0 0] 34)) from (Below.refl V42.heap.size V42).alloc (Nat.le_refl _) _)
      refine hK _ _ (US.out _ HX45.out.2) ?_
      clear hK K
      (try simp only [Act.put,gA,gS,gZ,sA,sZ,sS])
      generalize V42.alloc (.cells #[.slice none 0 0,.slice none 0 0] 34) = V45 at HX45 HS45 hlt45 ⊢
      have HB45:=Lib.hid HX45.out.2
      refine any_run hd (L:=[10]) (by kernel_rfl) (by decide) (fun i hi hd2 => ?_)
      clear hd
      have hd:=hd2
      clear hd2
      obtain rfl:=List.mem_singleton.1 hi
      clear hi
      refine any_do rfl rfl (fun K hK => ?_)
      have rA:=HR41X.out.1.below ((HS42.out).trans ((HS45.out).mono (HS42.out).size))
      have rB:=HR42X.out.1.below (HS45.out)
      have hmade:=of_any V45 A41X c41X A42X c42X (datN G ++ M) (datE G ++ D) ⟨rA,rB,by rw [HQ.out.1];exact HR41X.out.2,by rw [HQ.out.2];exact HR42X.out.2,HFT.out⟩ HBB.out
      clear rA rB
      rw [HQ.out.1,HQ.out.2] at hmade
      go_simp
      refine hmade.mono ?_
      clear hmade
      rintro e V46 ⟨AZ,cZ,BZ,dZ,rfl,-,-,bZ⟩
      have HB46:=Lib.hid (HB45.out.trans (bZ.mono HB45.out.size))
      have HS46:=Lib.hid bZ
      clear bZ
      unfold twoV
      refine hK _ _ (US.out _ HB46.out) ?_
      clear hK K
      (try simp only [Act.put,gA,gS,gZ,sA,sZ,sS])
      have hS:=US.out _ HB46.out
      (refine any_takeA (i:=11) rfl hd hS ?_;clear hd;intro hd;(try simp only [Act.put,gA,gS,gZ,sA,sZ,sS]))
      (refine any_takeA (i:=12) rfl hd hS ?_;clear hd;intro hd;(try simp only [Act.put,gA,gS,gZ,sA,sZ,sS]))
      (refine any_takeA (i:=13) rfl hd hS ?_;clear hd;intro hd;(try simp only [Act.put,gA,gS,gZ,sA,sZ,sS]))
      clear hS
      have kr:=HX45.out.1.upd (Upd.of_below (HS46.out) (fun _ => False)) id
      have r0:V46.cell? ⟨V42.heap.size,0,none⟩ = some (.slice none 0 0):=kr.cell 0
      have r1:V46.cell? ⟨V42.heap.size,1,none⟩ = some (.slice none 0 0):=kr.cell 1
      have f0:=kr.frozen 0
      have f1:=kr.frozen 1
      generalize (ofN (datN G ++ M) (datE G ++ D)).length = l1
      generalize (ofE (datN G ++ M) (datE G ++ D)).length = l2
      have uF:=((Upd.refl (fun q => q = V42.heap.size) V46).setCell (p:=⟨V42.heap.size,0,none⟩) (.inl rfl) (.slice AZ l1 cZ)).setCell (p:=⟨V42.heap.size,1,none⟩) (.inl rfl) (.slice BZ l2 dZ)
      have bF:=uF.below (B:=W1.heap.size) (fun q _ e => by subst e;exact HB42.out.size) HB46.out.size
      have bZ:=HB46.out.trans bF
      have hS:=US.out _ bZ
      have FIN:=Lib.hid (HWT.out.trans (bZ.mono HWT.out.size))
      clear kr uF bF bZ
      refine any_run hd (L:=[15]) (by kernel_rfl) (by decide) (fun i hi hd2 => ?_)
      clear hd
      have hd:=hd2
      clear hd2
      obtain rfl:=List.mem_singleton.1 hi
      clear hi
      refine any_do rfl rfl (fun K hK => ?_)
      go_simp
      refine hK _ _ hS ?_
      clear hK K
      (try simp only [Act.put,gA,gS,gZ,sA,sZ,sS])
      (refine any_takeA (i:=16) rfl hd hS ?_;clear hd;intro hd;(try simp only [Act.put,gA,gS,gZ,sA,sZ,sS]))
      refine any_done (by kernel_rfl) ?_
      clear hS hd r0 r1 f0 f1
      go_wp2
      go_ret
      exact ⟨by rw [← HOI.out];rfl,FIN.out⟩
    ·refine any_do rfl rfl (fun K hK => ?_)
     go_simp
     have kx47:=Blk.new V41 34 #[.slice none 0 0,.slice none 0 0]
     have bx47:Below W1.heap.size W1 (V41.alloc (.cells #[.slice none 0 0,.slice none 0 0] 34)):=HB41.out.alloc HB41.out.size _
     have hlt47:=kx47.lt
     have HX47:=Lib.hid (And.intro kx47 bx47)
     clear kx47 bx47
     have HS47:=Lib.hid (show Below V41.heap.size V41 (V41.alloc (.cells #[.slice none 0 0,.slice none 0 0] 34)) from (Below.refl V41.heap.size V41).alloc (Nat.le_refl _) _)
     refine hK _ _ (US.out _ HX47.out.2) ?_
     clear hK K
     (try simp only [Act.put,gA,gS,gZ,sA,sZ,sS])
     generalize V41.alloc (.cells #[.slice none 0 0,.slice none 0 0] 34) = V47 at HX47 HS47 hlt47 ⊢
     have HB47:=Lib.hid HX47.out.2
     refine any_run hd (L:=[9]) (by kernel_rfl) (by decide) (fun i hi hd2 => ?_)
     clear hd
     have hd:=hd2
     clear hd2
     obtain rfl:=List.mem_singleton.1 hi
     clear hi
     refine any_do rfl rfl (fun K hK => ?_)
     go_simp
     have hcon:=concat_ed V47 V0.heap.size B5 d5 B d (datE G) D (by rw [HN.out.2.1,HN.out.2.2.2];exact HX39.out.1.upd (Upd.of_below (((HS40.out).trans ((HS41.out).mono (HS40.out).size)).trans ((HS47.out).mono ((HS40.out).trans ((HS41.out).mono (HS40.out).size)).size)) (fun _ => False)) id) (HR.out.2.1.below HB47.out) (HR.out.2.2.2.below HB47.out) HNL.out.2
     refine hcon.mono ?_
     clear hcon
     rintro e V48 ⟨v,rfl,own48X,b48X⟩
     rw [HQ.out.2] at own48X
     obtain ⟨A48X,c48X,rfl,hle48X,row48X⟩:=own_le2 own48X
     have HB48:=Lib.hid (HB47.out.trans (b48X.mono HB47.out.size))
     have HS48:=Lib.hid b48X
     have HR48X:=Lib.hid (And.intro row48X hle48X)
     clear own48X b48X row48X hle48X
     refine hK _ _ (US.out _ HB48.out) ?_
     clear hK K
     (try simp only [Act.put,gA,gS,gZ,sA,sZ,sS])
     refine any_run hd (L:=[10]) (by kernel_rfl) (by decide) (fun i hi hd2 => ?_)
     clear hd
     have hd:=hd2
     clear hd2
     obtain rfl:=List.mem_singleton.1 hi
     clear hi
     refine any_do rfl rfl (fun K hK => ?_)
     have rA:=HR41X.out.1.below ((HS47.out).trans ((HS48.out).mono (HS47.out).size))
     have rB:=HR48X.out.1.below (Below.refl _ _)
     have hmade:=of_any V48 A41X c41X A48X c48X (datN G ++ M) (datE G ++ D) ⟨rA,rB,by rw [HQ.out.1];exact HR41X.out.2,by rw [HQ.out.2];exact HR48X.out.2,HFT.out⟩ HBB.out
     clear rA rB
     rw [HQ.out.1,HQ.out.2] at hmade
     go_simp
     refine hmade.mono ?_
     clear hmade
     rintro e V49 ⟨AZ,cZ,BZ,dZ,rfl,-,-,bZ⟩
     have HB49:=Lib.hid (HB48.out.trans (bZ.mono HB48.out.size))
     have HS49:=Lib.hid bZ
     clear bZ
     unfold twoV
     refine hK _ _ (US.out _ HB49.out) ?_
     clear hK K
     (try simp only [Act.put,gA,gS,gZ,sA,sZ,sS])
     have hS:=US.out _ HB49.out
     (refine any_takeA (i:=11) rfl hd hS ?_;clear hd;intro hd;(try simp only [Act.put,gA,gS,gZ,sA,sZ,sS]))
     (refine any_takeA (i:=12) rfl hd hS ?_;clear hd;intro hd;(try simp only [Act.put,gA,gS,gZ,sA,sZ,sS]))
     (refine any_takeA (i:=13) rfl hd hS ?_;clear hd;intro hd;(try simp only [Act.put,gA,gS,gZ,sA,sZ,sS]))
     clear hS
     have kr:=HX47.out.1.upd (Upd.of_below ((HS48.out).trans ((HS49.out).mono (HS48.out).size)) (fun _ => False)) id
     have r0:V49.cell? ⟨V41.heap.size,0,none⟩ = some (.slice none 0 0):=kr.cell 0
     have r1:V49.cell? ⟨V41.heap.size,1,none⟩ = some (.slice none 0 0):=kr.cell 1
     have f0:=kr.frozen 0
     have f1:=kr.frozen 1
     generalize (ofN (datN G ++ M) (datE G ++ D)).length = l1
     generalize (ofE (datN G ++ M) (datE G ++ D)).length = l2
     have uF:=((Upd.refl (fun q => q = V41.heap.size) V49).setCell (p:=⟨V41.heap.size,0,none⟩) (.inl rfl) (.slice AZ l1 cZ)).setCell (p:=⟨V41.heap.size,1,none⟩) (.inl rfl) (.slice BZ l2 dZ)
     have bF:=uF.below (B:=W1.heap.size) (fun q _ e => by subst e;exact HB41.out.size) HB49.out.size
     have bZ:=HB49.out.trans bF
     have hS:=US.out _ bZ
     have FIN:=Lib.hid (HWT.out.trans (bZ.mono HWT.out.size))
     clear kr uF bF bZ
     refine any_run hd (L:=[15]) (by kernel_rfl) (by decide) (fun i hi hd2 => ?_)
     clear hd
     have hd:=hd2
     clear hd2
     obtain rfl:=List.mem_singleton.1 hi
     clear hi
     refine any_do rfl rfl (fun K hK => ?_)
     go_simp
     refine hK _ _ hS ?_
     clear hK K
     (try simp only [Act.put,gA,gS,gZ,sA,sZ,sS])
     (refine any_takeA (i:=16) rfl hd hS ?_;clear hd;intro hd;(try simp only [Act.put,gA,gS,gZ,sA,sZ,sS]))
     refine any_done (by kernel_rfl) ?_
     clear hS hd r0 r1 f0 f1
     go_wp2
     go_ret
     exact ⟨by rw [← HOI.out];rfl,FIN.out⟩
   ·refine any_do rfl rfl (fun K hK => ?_)
    go_simp
    have kx50:=Blk.new V40 34 #[.slice none 0 0,.slice none 0 0]
    have bx50:Below W1.heap.size W1 (V40.alloc (.cells #[.slice none 0 0,.slice none 0 0] 34)):=HB40.out.alloc HB40.out.size _
    have hlt50:=kx50.lt
    have HX50:=Lib.hid (And.intro kx50 bx50)
    clear kx50 bx50
    have HS50:=Lib.hid (show Below V40.heap.size V40 (V40.alloc (.cells #[.slice none 0 0,.slice none 0 0] 34)) from (Below.refl V40.heap.size V40).alloc (Nat.le_refl _) _)
    refine hK _ _ (US.out _ HX50.out.2) ?_
    clear hK K
    (try simp only [Act.put,gA,gS,gZ,sA,sZ,sS])
    generalize V40.alloc (.cells #[.slice none 0 0,.slice none 0 0] 34) = V50 at HX50 HS50 hlt50 ⊢
    have HB50:=Lib.hid HX50.out.2
    refine any_run hd (L:=[4]) (by kernel_rfl) (by decide) (fun i hi hd2 => ?_)
    clear hd
    have hd:=hd2
    clear hd2
    obtain rfl:=List.mem_singleton.1 hi
    clear hi
    refine any_do rfl rfl (fun K hK => ?_)
    go_simp
    have hcon:=concat_txt V50 V39.heap.size A5 c5 A c (datN G) M (by rw [HN.out.1,HN.out.2.2.1];exact HX40.out.1.upd (Upd.of_below (HS50.out) (fun _ => False)) id) (HR.out.1.below HB50.out) (HR.out.2.2.1.below HB50.out) HNL.out.1
    refine hcon.mono ?_
    clear hcon
    rintro e V51 ⟨v,rfl,own51X,b51X⟩
    rw [HQ.out.1] at own51X
    obtain ⟨A51X,c51X,rfl,hle51X,row51X⟩:=own_le2 own51X
    have HB51:=Lib.hid (HB50.out.trans (b51X.mono HB50.out.size))
    have HS51:=Lib.hid b51X
    have HR51X:=Lib.hid (And.intro row51X hle51X)
    clear own51X b51X row51X hle51X
    refine hK _ _ (US.out _ HB51.out) ?_
    clear hK K
    (try simp only [Act.put,gA,gS,gZ,sA,sZ,sS])
    refine any_run hd (L:=[9]) (by kernel_rfl) (by decide) (fun i hi hd2 => ?_)
    clear hd
    have hd:=hd2
    clear hd2
    obtain rfl:=List.mem_singleton.1 hi
    clear hi
    refine any_do rfl rfl (fun K hK => ?_)
    go_simp
    have hcon:=concat_ed V51 V0.heap.size B5 d5 B d (datE G) D (by rw [HN.out.2.1,HN.out.2.2.2];exact HX39.out.1.upd (Upd.of_below (((HS40.out).trans ((HS50.out).mono (HS40.out).size)).trans ((HS51.out).mono ((HS40.out).trans ((HS50.out).mono (HS40.out).size)).size)) (fun _ => False)) id) (HR.out.2.1.below HB51.out) (HR.out.2.2.2.below HB51.out) HNL.out.2
    refine hcon.mono ?_
    clear hcon
    rintro e V52 ⟨v,rfl,own52X,b52X⟩
    rw [HQ.out.2] at own52X
    obtain ⟨A52X,c52X,rfl,hle52X,row52X⟩:=own_le2 own52X
    have HB52:=Lib.hid (HB51.out.trans (b52X.mono HB51.out.size))
    have HS52:=Lib.hid b52X
    have HR52X:=Lib.hid (And.intro row52X hle52X)
    clear own52X b52X row52X hle52X
    refine hK _ _ (US.out _ HB52.out) ?_
    clear hK K
    (try simp only [Act.put,gA,gS,gZ,sA,sZ,sS])
    refine any_run hd (L:=[10]) (by kernel_rfl) (by decide) (fun i hi hd2 => ?_)
    clear hd
    have hd:=hd2
    clear hd2
    obtain rfl:=List.mem_singleton.1 hi
    clear hi
    refine any_do rfl rfl (fun K hK => ?_)
    have rA:=HR51X.out.1.below (HS52.out)
    have rB:=HR52X.out.1.below (Below.refl _ _)
    have hmade:=of_any V52 A51X c51X A52X c52X (datN G ++ M) (datE G ++ D) ⟨rA,rB,by rw [HQ.out.1];exact HR51X.out.2,by rw [HQ.out.2];exact HR52X.out.2,HFT.out⟩ HBB.out
    clear rA rB
    rw [HQ.out.1,HQ.out.2] at hmade
    go_simp
    refine hmade.mono ?_
    clear hmade
    rintro e V53 ⟨AZ,cZ,BZ,dZ,rfl,-,-,bZ⟩
    have HB53:=Lib.hid (HB52.out.trans (bZ.mono HB52.out.size))
    have HS53:=Lib.hid bZ
    clear bZ
    unfold twoV
    refine hK _ _ (US.out _ HB53.out) ?_
    clear hK K
    (try simp only [Act.put,gA,gS,gZ,sA,sZ,sS])
    have hS:=US.out _ HB53.out
    (refine any_takeA (i:=11) rfl hd hS ?_;clear hd;intro hd;(try simp only [Act.put,gA,gS,gZ,sA,sZ,sS]))
    (refine any_takeA (i:=12) rfl hd hS ?_;clear hd;intro hd;(try simp only [Act.put,gA,gS,gZ,sA,sZ,sS]))
    (refine any_takeA (i:=13) rfl hd hS ?_;clear hd;intro hd;(try simp only [Act.put,gA,gS,gZ,sA,sZ,sS]))
    clear hS
    have kr:=HX50.out.1.upd (Upd.of_below (((HS51.out).trans ((HS52.out).mono (HS51.out).size)).trans ((HS53.out).mono ((HS51.out).trans ((HS52.out).mono (HS51.out).size)).size)) (fun _ => False)) id
    have r0:V53.cell? ⟨V40.heap.size,0,none⟩ = some (.slice none 0 0):=kr.cell 0
    have r1:V53.cell? ⟨V40.heap.size,1,none⟩ = some (.slice none 0 0):=kr.cell 1
    have f0:=kr.frozen 0
    have f1:=kr.frozen 1
    generalize (ofN (datN G ++ M) (datE G ++ D)).length = l1
    generalize (ofE (datN G ++ M) (datE G ++ D)).length = l2
    have uF:=((Upd.refl (fun q => q = V40.heap.size) V53).setCell (p:=⟨V40.heap.size,0,none⟩) (.inl rfl) (.slice AZ l1 cZ)).setCell (p:=⟨V40.heap.size,1,none⟩) (.inl rfl) (.slice BZ l2 dZ)
    have bF:=uF.below (B:=W1.heap.size) (fun q _ e => by subst e;exact HB40.out.size) HB53.out.size
    have bZ:=HB53.out.trans bF
    have hS:=US.out _ bZ
    have FIN:=Lib.hid (HWT.out.trans (bZ.mono HWT.out.size))
    clear kr uF bF bZ
    refine any_run hd (L:=[15]) (by kernel_rfl) (by decide) (fun i hi hd2 => ?_)
    clear hd
    have hd:=hd2
    clear hd2
    obtain rfl:=List.mem_singleton.1 hi
    clear hi
    refine any_do rfl rfl (fun K hK => ?_)
    go_simp
    refine hK _ _ hS ?_
    clear hK K
    (try simp only [Act.put,gA,gS,gZ,sA,sZ,sS])
    (refine any_takeA (i:=16) rfl hd hS ?_;clear hd;intro hd;(try simp only [Act.put,gA,gS,gZ,sA,sZ,sS]))
    refine any_done (by kernel_rfl) ?_
    clear hS hd r0 r1 f0 f1
    go_wp2
    go_ret
    exact ⟨by rw [← HOI.out];rfl,FIN.out⟩
  ·refine any_do rfl rfl (fun K hK => ?_)
   go_simp
   have kx54:=Blk.new V39 34 #[.slice none 0 0,.slice none 0 0]
   have bx54:Below W1.heap.size W1 (V39.alloc (.cells #[.slice none 0 0,.slice none 0 0] 34)):=HB39.out.alloc HB39.out.size _
   have hlt54:=kx54.lt
   have HX54:=Lib.hid (And.intro kx54 bx54)
   clear kx54 bx54
   have HS54:=Lib.hid (show Below V39.heap.size V39 (V39.alloc (.cells #[.slice none 0 0,.slice none 0 0] 34)) from (Below.refl V39.heap.size V39).alloc (Nat.le_refl _) _)
   refine hK _ _ (US.out _ HX54.out.2) ?_
   clear hK K
   (try simp only [Act.put,gA,gS,gZ,sA,sZ,sS])
   generalize V39.alloc (.cells #[.slice none 0 0,.slice none 0 0] 34) = V54 at HX54 HS54 hlt54 ⊢
   have HB54:=Lib.hid HX54.out.2
   refine any_run hd (L:=[3]) (by kernel_rfl) (by decide) (fun i hi hd2 => ?_)
   clear hd
   have hd:=hd2
   clear hd2
   obtain rfl:=List.mem_singleton.1 hi
   clear hi
   refine any_do rfl rfl (fun K hK => ?_)
   go_simp
   have kx55:=Blk.new V54 26 #[.slice A5 x1 c5,.slice A m1 c]
   have bx55:Below W1.heap.size W1 (V54.alloc (.cells #[.slice A5 x1 c5,.slice A m1 c] 26)):=HB54.out.alloc HB54.out.size _
   have hlt55:=kx55.lt
   have HX55:=Lib.hid (And.intro kx55 bx55)
   clear kx55 bx55
   have HS55:=Lib.hid (show Below V54.heap.size V54 (V54.alloc (.cells #[.slice A5 x1 c5,.slice A m1 c] 26)) from (Below.refl V54.heap.size V54).alloc (Nat.le_refl _) _)
   refine hK _ _ (US.out _ HX55.out.2) ?_
   clear hK K
   (try simp only [Act.put,gA,gS,gZ,sA,sZ,sS])
   generalize V54.alloc (.cells #[.slice A5 x1 c5,.slice A m1 c] 26) = V55 at HX55 HS55 hlt55 ⊢
   have HB55:=Lib.hid HX55.out.2
   refine any_run hd (L:=[4]) (by kernel_rfl) (by decide) (fun i hi hd2 => ?_)
   clear hd
   have hd:=hd2
   clear hd2
   obtain rfl:=List.mem_singleton.1 hi
   clear hi
   refine any_do rfl rfl (fun K hK => ?_)
   go_simp
   have hcon:=concat_txt V55 V54.heap.size A5 c5 A c (datN G) M (by rw [HN.out.1,HN.out.2.2.1];exact HX55.out.1.upd (Upd.of_below (Below.refl _ _) (fun _ => False)) id) (HR.out.1.below HB55.out) (HR.out.2.2.1.below HB55.out) HNL.out.1
   refine hcon.mono ?_
   clear hcon
   rintro e V56 ⟨v,rfl,own56X,b56X⟩
   rw [HQ.out.1] at own56X
   obtain ⟨A56X,c56X,rfl,hle56X,row56X⟩:=own_le2 own56X
   have HB56:=Lib.hid (HB55.out.trans (b56X.mono HB55.out.size))
   have HS56:=Lib.hid b56X
   have HR56X:=Lib.hid (And.intro row56X hle56X)
   clear own56X b56X row56X hle56X
   refine hK _ _ (US.out _ HB56.out) ?_
   clear hK K
   (try simp only [Act.put,gA,gS,gZ,sA,sZ,sS])
   refine any_run hd (L:=[9]) (by kernel_rfl) (by decide) (fun i hi hd2 => ?_)
   clear hd
   have hd:=hd2
   clear hd2
   obtain rfl:=List.mem_singleton.1 hi
   clear hi
   refine any_do rfl rfl (fun K hK => ?_)
   go_simp
   have hcon:=concat_ed V56 V0.heap.size B5 d5 B d (datE G) D (by rw [HN.out.2.1,HN.out.2.2.2];exact HX39.out.1.upd (Upd.of_below (((HS54.out).trans ((HS55.out).mono (HS54.out).size)).trans ((HS56.out).mono ((HS54.out).trans ((HS55.out).mono (HS54.out).size)).size)) (fun _ => False)) id) (HR.out.2.1.below HB56.out) (HR.out.2.2.2.below HB56.out) HNL.out.2
   refine hcon.mono ?_
   clear hcon
   rintro e V57 ⟨v,rfl,own57X,b57X⟩
   rw [HQ.out.2] at own57X
   obtain ⟨A57X,c57X,rfl,hle57X,row57X⟩:=own_le2 own57X
   have HB57:=Lib.hid (HB56.out.trans (b57X.mono HB56.out.size))
   have HS57:=Lib.hid b57X
   have HR57X:=Lib.hid (And.intro row57X hle57X)
   clear own57X b57X row57X hle57X
   refine hK _ _ (US.out _ HB57.out) ?_
   clear hK K
   (try simp only [Act.put,gA,gS,gZ,sA,sZ,sS])
   refine any_run hd (L:=[10]) (by kernel_rfl) (by decide) (fun i hi hd2 => ?_)
   clear hd
   have hd:=hd2
   clear hd2
   obtain rfl:=List.mem_singleton.1 hi
   clear hi
   refine any_do rfl rfl (fun K hK => ?_)
   have rA:=HR56X.out.1.below (HS57.out)
   have rB:=HR57X.out.1.below (Below.refl _ _)
   have hmade:=of_any V57 A56X c56X A57X c57X (datN G ++ M) (datE G ++ D) ⟨rA,rB,by rw [HQ.out.1];exact HR56X.out.2,by rw [HQ.out.2];exact HR57X.out.2,HFT.out⟩ HBB.out
   clear rA rB
   rw [HQ.out.1,HQ.out.2] at hmade
   go_simp
   refine hmade.mono ?_
   clear hmade
   rintro e V58 ⟨AZ,cZ,BZ,dZ,rfl,-,-,bZ⟩
   have HB58:=Lib.hid (HB57.out.trans (bZ.mono HB57.out.size))
   have HS58:=Lib.hid bZ
   clear bZ
   unfold twoV
   refine hK _ _ (US.out _ HB58.out) ?_
   clear hK K
   (try simp only [Act.put,gA,gS,gZ,sA,sZ,sS])
   have hS:=US.out _ HB58.out
   (refine any_takeA (i:=11) rfl hd hS ?_;clear hd;intro hd;(try simp only [Act.put,gA,gS,gZ,sA,sZ,sS]))
   (refine any_takeA (i:=12) rfl hd hS ?_;clear hd;intro hd;(try simp only [Act.put,gA,gS,gZ,sA,sZ,sS]))
   (refine any_takeA (i:=13) rfl hd hS ?_;clear hd;intro hd;(try simp only [Act.put,gA,gS,gZ,sA,sZ,sS]))
   clear hS
   have kr:=HX54.out.1.upd (Upd.of_below ((((HS55.out).trans ((HS56.out).mono (HS55.out).size)).trans ((HS57.out).mono ((HS55.out).trans ((HS56.out).mono (HS55.out).size)).size)).trans ((HS58.out).mono (((HS55.out).trans ((HS56.out).mono (HS55.out).size)).trans ((HS57.out).mono ((HS55.out).trans ((HS56.out).mono (HS55.out).size)).size)).size)) (fun _ => False)) id
   have r0:V58.cell? ⟨V39.heap.size,0,none⟩ = some (.slice none 0 0):=kr.cell 0
   have r1:V58.cell? ⟨V39.heap.size,1,none⟩ = some (.slice none 0 0):=kr.cell 1
   have f0:=kr.frozen 0
   have f1:=kr.frozen 1
   generalize (ofN (datN G ++ M) (datE G ++ D)).length = l1
   generalize (ofE (datN G ++ M) (datE G ++ D)).length = l2
   have uF:=((Upd.refl (fun q => q = V39.heap.size) V58).setCell (p:=⟨V39.heap.size,0,none⟩) (.inl rfl) (.slice AZ l1 cZ)).setCell (p:=⟨V39.heap.size,1,none⟩) (.inl rfl) (.slice BZ l2 dZ)
   have bF:=uF.below (B:=W1.heap.size) (fun q _ e => by subst e;exact HB39.out.size) HB58.out.size
   have bZ:=HB58.out.trans bF
   have hS:=US.out _ bZ
   have FIN:=Lib.hid (HWT.out.trans (bZ.mono HWT.out.size))
   clear kr uF bF bZ
   refine any_run hd (L:=[15]) (by kernel_rfl) (by decide) (fun i hi hd2 => ?_)
   clear hd
   have hd:=hd2
   clear hd2
   obtain rfl:=List.mem_singleton.1 hi
   clear hi
   refine any_do rfl rfl (fun K hK => ?_)
   go_simp
   refine hK _ _ hS ?_
   clear hK K
   (try simp only [Act.put,gA,gS,gZ,sA,sZ,sS])
   (refine any_takeA (i:=16) rfl hd hS ?_;clear hd;intro hd;(try simp only [Act.put,gA,gS,gZ,sA,sZ,sS]))
   refine any_done (by kernel_rfl) ?_
   clear hS hd r0 r1 f0 f1
   go_wp2
   go_ret
   exact ⟨by rw [← HOI.out];rfl,FIN.out⟩
 ·refine any_do rfl rfl (fun K hK => ?_)
  go_simp
  have kx59:=Blk.new V0 34 #[.slice none 0 0,.slice none 0 0]
  have bx59:Below W1.heap.size W1 (V0.alloc (.cells #[.slice none 0 0,.slice none 0 0] 34)):=HB0.out.alloc HB0.out.size _
  have hlt59:=kx59.lt
  have HX59:=Lib.hid (And.intro kx59 bx59)
  clear kx59 bx59
  have HS59:=Lib.hid (show Below V0.heap.size V0 (V0.alloc (.cells #[.slice none 0 0,.slice none 0 0] 34)) from (Below.refl V0.heap.size V0).alloc (Nat.le_refl _) _)
  refine hK _ _ (US.out _ HX59.out.2) ?_
  clear hK K
  (try simp only [Act.put,gA,gS,gZ,sA,sZ,sS])
  generalize V0.alloc (.cells #[.slice none 0 0,.slice none 0 0] 34) = V59 at HX59 HS59 hlt59 ⊢
  have HB59:=Lib.hid HX59.out.2
  refine any_run hd (L:=[3,8]) (by kernel_rfl) (by decide) (fun i hi hd2 => ?_)
  clear hd
  have hd:=hd2
  clear hd2
  simp only [List.mem_cons,List.not_mem_nil,or_false] at hi
  rcases hi with rfl | rfl
  ·refine any_do rfl rfl (fun K hK => ?_)
   go_simp
   have kx60:=Blk.new V59 26 #[.slice A5 x1 c5,.slice A m1 c]
   have bx60:Below W1.heap.size W1 (V59.alloc (.cells #[.slice A5 x1 c5,.slice A m1 c] 26)):=HB59.out.alloc HB59.out.size _
   have hlt60:=kx60.lt
   have HX60:=Lib.hid (And.intro kx60 bx60)
   clear kx60 bx60
   have HS60:=Lib.hid (show Below V59.heap.size V59 (V59.alloc (.cells #[.slice A5 x1 c5,.slice A m1 c] 26)) from (Below.refl V59.heap.size V59).alloc (Nat.le_refl _) _)
   refine hK _ _ (US.out _ HX60.out.2) ?_
   clear hK K
   (try simp only [Act.put,gA,gS,gZ,sA,sZ,sS])
   generalize V59.alloc (.cells #[.slice A5 x1 c5,.slice A m1 c] 26) = V60 at HX60 HS60 hlt60 ⊢
   have HB60:=Lib.hid HX60.out.2
   refine any_run hd (L:=[4,8]) (by kernel_rfl) (by decide) (fun i hi hd2 => ?_)
   clear hd
   have hd:=hd2
   clear hd2
   simp only [List.mem_cons,List.not_mem_nil,or_false] at hi
   rcases hi with rfl | rfl
   ·refine any_do rfl rfl (fun K hK => ?_)
    go_simp
    have hcon:=concat_txt V60 V59.heap.size A5 c5 A c (datN G) M (by rw [HN.out.1,HN.out.2.2.1];exact HX60.out.1.upd (Upd.of_below (Below.refl _ _) (fun _ => False)) id) (HR.out.1.below HB60.out) (HR.out.2.2.1.below HB60.out) HNL.out.1
    refine hcon.mono ?_
    clear hcon
    rintro e V61 ⟨v,rfl,own61X,b61X⟩
    rw [HQ.out.1] at own61X
    obtain ⟨A61X,c61X,rfl,hle61X,row61X⟩:=own_le2 own61X
    have HB61:=Lib.hid (HB60.out.trans (b61X.mono HB60.out.size))
    have HS61:=Lib.hid b61X
    have HR61X:=Lib.hid (And.intro row61X hle61X)
    clear own61X b61X row61X hle61X
    refine hK _ _ (US.out _ HB61.out) ?_
    clear hK K
    (try simp only [Act.put,gA,gS,gZ,sA,sZ,sS])
    refine any_run hd (L:=[8]) (by kernel_rfl) (by decide) (fun i hi hd2 => ?_)
    clear hd
    have hd:=hd2
    clear hd2
    obtain rfl:=List.mem_singleton.1 hi
    clear hi
    refine any_do rfl rfl (fun K hK => ?_)
    go_simp
    have kx62:=Blk.new V61 27 #[.slice B5 x2 d5,.slice B m2 d]
    have bx62:Below W1.heap.size W1 (V61.alloc (.cells #[.slice B5 x2 d5,.slice B m2 d] 27)):=HB61.out.alloc HB61.out.size _
    have hlt62:=kx62.lt
    have HX62:=Lib.hid (And.intro kx62 bx62)
    clear kx62 bx62
    have HS62:=Lib.hid (show Below V61.heap.size V61 (V61.alloc (.cells #[.slice B5 x2 d5,.slice B m2 d] 27)) from (Below.refl V61.heap.size V61).alloc (Nat.le_refl _) _)
    refine hK _ _ (US.out _ HX62.out.2) ?_
    clear hK K
    (try simp only [Act.put,gA,gS,gZ,sA,sZ,sS])
    generalize V61.alloc (.cells #[.slice B5 x2 d5,.slice B m2 d] 27) = V62 at HX62 HS62 hlt62 ⊢
    have HB62:=Lib.hid HX62.out.2
    refine any_run hd (L:=[9]) (by kernel_rfl) (by decide) (fun i hi hd2 => ?_)
    clear hd
    have hd:=hd2
    clear hd2
    obtain rfl:=List.mem_singleton.1 hi
    clear hi
    refine any_do rfl rfl (fun K hK => ?_)
    go_simp
    have hcon:=concat_ed V62 V61.heap.size B5 d5 B d (datE G) D (by rw [HN.out.2.1,HN.out.2.2.2];exact HX62.out.1.upd (Upd.of_below (Below.refl _ _) (fun _ => False)) id) (HR.out.2.1.below HB62.out) (HR.out.2.2.2.below HB62.out) HNL.out.2
    refine hcon.mono ?_
    clear hcon
    rintro e V63 ⟨v,rfl,own63X,b63X⟩
    rw [HQ.out.2] at own63X
    obtain ⟨A63X,c63X,rfl,hle63X,row63X⟩:=own_le2 own63X
    have HB63:=Lib.hid (HB62.out.trans (b63X.mono HB62.out.size))
    have HS63:=Lib.hid b63X
    have HR63X:=Lib.hid (And.intro row63X hle63X)
    clear own63X b63X row63X hle63X
    refine hK _ _ (US.out _ HB63.out) ?_
    clear hK K
    (try simp only [Act.put,gA,gS,gZ,sA,sZ,sS])
    refine any_run hd (L:=[10]) (by kernel_rfl) (by decide) (fun i hi hd2 => ?_)
    clear hd
    have hd:=hd2
    clear hd2
    obtain rfl:=List.mem_singleton.1 hi
    clear hi
    refine any_do rfl rfl (fun K hK => ?_)
    have rA:=HR61X.out.1.below ((HS62.out).trans ((HS63.out).mono (HS62.out).size))
    have rB:=HR63X.out.1.below (Below.refl _ _)
    have hmade:=of_any V63 A61X c61X A63X c63X (datN G ++ M) (datE G ++ D) ⟨rA,rB,by rw [HQ.out.1];exact HR61X.out.2,by rw [HQ.out.2];exact HR63X.out.2,HFT.out⟩ HBB.out
    clear rA rB
    rw [HQ.out.1,HQ.out.2] at hmade
    go_simp
    refine hmade.mono ?_
    clear hmade
    rintro e V64 ⟨AZ,cZ,BZ,dZ,rfl,-,-,bZ⟩
    have HB64:=Lib.hid (HB63.out.trans (bZ.mono HB63.out.size))
    have HS64:=Lib.hid bZ
    clear bZ
    unfold twoV
    refine hK _ _ (US.out _ HB64.out) ?_
    clear hK K
    (try simp only [Act.put,gA,gS,gZ,sA,sZ,sS])
    have hS:=US.out _ HB64.out
    (refine any_takeA (i:=11) rfl hd hS ?_;clear hd;intro hd;(try simp only [Act.put,gA,gS,gZ,sA,sZ,sS]))
    (refine any_takeA (i:=12) rfl hd hS ?_;clear hd;intro hd;(try simp only [Act.put,gA,gS,gZ,sA,sZ,sS]))
    (refine any_takeA (i:=13) rfl hd hS ?_;clear hd;intro hd;(try simp only [Act.put,gA,gS,gZ,sA,sZ,sS]))
    clear hS
    have kr:=HX59.out.1.upd (Upd.of_below (((((HS60.out).trans ((HS61.out).mono (HS60.out).size)).trans ((HS62.out).mono ((HS60.out).trans ((HS61.out).mono (HS60.out).size)).size)).trans ((HS63.out).mono (((HS60.out).trans ((HS61.out).mono (HS60.out).size)).trans ((HS62.out).mono ((HS60.out).trans ((HS61.out).mono (HS60.out).size)).size)).size)).trans ((HS64.out).mono ((((HS60.out).trans ((HS61.out).mono (HS60.out).size)).trans ((HS62.out).mono ((HS60.out).trans ((HS61.out).mono (HS60.out).size)).size)).trans ((HS63.out).mono (((HS60.out).trans ((HS61.out).mono (HS60.out).size)).trans ((HS62.out).mono ((HS60.out).trans ((HS61.out).mono (HS60.out).size)).size)).size)).size)) (fun _ => False)) id
    have r0:V64.cell? ⟨V0.heap.size,0,none⟩ = some (.slice none 0 0):=kr.cell 0
    have r1:V64.cell? ⟨V0.heap.size,1,none⟩ = some (.slice none 0 0):=kr.cell 1
    have f0:=kr.frozen 0
    have f1:=kr.frozen 1
    generalize (ofN (datN G ++ M) (datE G ++ D)).length = l1
    generalize (ofE (datN G ++ M) (datE G ++ D)).length = l2
    have uF:=((Upd.refl (fun q => q = V0.heap.size) V64).setCell (p:=⟨V0.heap.size,0,none⟩) (.inl rfl) (.slice AZ l1 cZ)).setCell (p:=⟨V0.heap.size,1,none⟩) (.inl rfl) (.slice BZ l2 dZ)
    have bF:=uF.below (B:=W1.heap.size) (fun q _ e => by subst e;exact HB0.out.size) HB64.out.size
    have bZ:=HB64.out.trans bF
    have hS:=US.out _ bZ
    have FIN:=Lib.hid (HWT.out.trans (bZ.mono HWT.out.size))
    clear kr uF bF bZ
    refine any_run hd (L:=[15]) (by kernel_rfl) (by decide) (fun i hi hd2 => ?_)
    clear hd
    have hd:=hd2
    clear hd2
    obtain rfl:=List.mem_singleton.1 hi
    clear hi
    refine any_do rfl rfl (fun K hK => ?_)
    go_simp
    refine hK _ _ hS ?_
    clear hK K
    (try simp only [Act.put,gA,gS,gZ,sA,sZ,sS])
    (refine any_takeA (i:=16) rfl hd hS ?_;clear hd;intro hd;(try simp only [Act.put,gA,gS,gZ,sA,sZ,sS]))
    refine any_done (by kernel_rfl) ?_
    clear hS hd r0 r1 f0 f1
    go_wp2
    go_ret
    exact ⟨by rw [← HOI.out];rfl,FIN.out⟩
   ·refine any_do rfl rfl (fun K hK => ?_)
    go_simp
    have kx65:=Blk.new V60 27 #[.slice B5 x2 d5,.slice B m2 d]
    have bx65:Below W1.heap.size W1 (V60.alloc (.cells #[.slice B5 x2 d5,.slice B m2 d] 27)):=HB60.out.alloc HB60.out.size _
    have hlt65:=kx65.lt
    have HX65:=Lib.hid (And.intro kx65 bx65)
    clear kx65 bx65
    have HS65:=Lib.hid (show Below V60.heap.size V60 (V60.alloc (.cells #[.slice B5 x2 d5,.slice B m2 d] 27)) from (Below.refl V60.heap.size V60).alloc (Nat.le_refl _) _)
    refine hK _ _ (US.out _ HX65.out.2) ?_
    clear hK K
    (try simp only [Act.put,gA,gS,gZ,sA,sZ,sS])
    generalize V60.alloc (.cells #[.slice B5 x2 d5,.slice B m2 d] 27) = V65 at HX65 HS65 hlt65 ⊢
    have HB65:=Lib.hid HX65.out.2
    refine any_run hd (L:=[4]) (by kernel_rfl) (by decide) (fun i hi hd2 => ?_)
    clear hd
    have hd:=hd2
    clear hd2
    obtain rfl:=List.mem_singleton.1 hi
    clear hi
    refine any_do rfl rfl (fun K hK => ?_)
    go_simp
    have hcon:=concat_txt V65 V59.heap.size A5 c5 A c (datN G) M (by rw [HN.out.1,HN.out.2.2.1];exact HX60.out.1.upd (Upd.of_below (HS65.out) (fun _ => False)) id) (HR.out.1.below HB65.out) (HR.out.2.2.1.below HB65.out) HNL.out.1
    refine hcon.mono ?_
    clear hcon
    rintro e V66 ⟨v,rfl,own66X,b66X⟩
    rw [HQ.out.1] at own66X
    obtain ⟨A66X,c66X,rfl,hle66X,row66X⟩:=own_le2 own66X
    have HB66:=Lib.hid (HB65.out.trans (b66X.mono HB65.out.size))
    have HS66:=Lib.hid b66X
    have HR66X:=Lib.hid (And.intro row66X hle66X)
    clear own66X b66X row66X hle66X
    refine hK _ _ (US.out _ HB66.out) ?_
    clear hK K
    (try simp only [Act.put,gA,gS,gZ,sA,sZ,sS])
    refine any_run hd (L:=[9]) (by kernel_rfl) (by decide) (fun i hi hd2 => ?_)
    clear hd
    have hd:=hd2
    clear hd2
    obtain rfl:=List.mem_singleton.1 hi
    clear hi
    refine any_do rfl rfl (fun K hK => ?_)
    go_simp
    have hcon:=concat_ed V66 V60.heap.size B5 d5 B d (datE G) D (by rw [HN.out.2.1,HN.out.2.2.2];exact HX65.out.1.upd (Upd.of_below (HS66.out) (fun _ => False)) id) (HR.out.2.1.below HB66.out) (HR.out.2.2.2.below HB66.out) HNL.out.2
    refine hcon.mono ?_
    clear hcon
    rintro e V67 ⟨v,rfl,own67X,b67X⟩
    rw [HQ.out.2] at own67X
    obtain ⟨A67X,c67X,rfl,hle67X,row67X⟩:=own_le2 own67X
    have HB67:=Lib.hid (HB66.out.trans (b67X.mono HB66.out.size))
    have HS67:=Lib.hid b67X
    have HR67X:=Lib.hid (And.intro row67X hle67X)
    clear own67X b67X row67X hle67X
    refine hK _ _ (US.out _ HB67.out) ?_
    clear hK K
    (try simp only [Act.put,gA,gS,gZ,sA,sZ,sS])
    refine any_run hd (L:=[10]) (by kernel_rfl) (by decide) (fun i hi hd2 => ?_)
    clear hd
    have hd:=hd2
    clear hd2
    obtain rfl:=List.mem_singleton.1 hi
    clear hi
    refine any_do rfl rfl (fun K hK => ?_)
    have rA:=HR66X.out.1.below (HS67.out)
    have rB:=HR67X.out.1.below (Below.refl _ _)
    have hmade:=of_any V67 A66X c66X A67X c67X (datN G ++ M) (datE G ++ D) ⟨rA,rB,by rw [HQ.out.1];exact HR66X.out.2,by rw [HQ.out.2];exact HR67X.out.2,HFT.out⟩ HBB.out
    clear rA rB
    rw [HQ.out.1,HQ.out.2] at hmade
    go_simp
    refine hmade.mono ?_
    clear hmade
    rintro e V68 ⟨AZ,cZ,BZ,dZ,rfl,-,-,bZ⟩
    have HB68:=Lib.hid (HB67.out.trans (bZ.mono HB67.out.size))
    have HS68:=Lib.hid bZ
    clear bZ
    unfold twoV
    refine hK _ _ (US.out _ HB68.out) ?_
    clear hK K
    (try simp only [Act.put,gA,gS,gZ,sA,sZ,sS])
    have hS:=US.out _ HB68.out
    (refine any_takeA (i:=11) rfl hd hS ?_;clear hd;intro hd;(try simp only [Act.put,gA,gS,gZ,sA,sZ,sS]))
    (refine any_takeA (i:=12) rfl hd hS ?_;clear hd;intro hd;(try simp only [Act.put,gA,gS,gZ,sA,sZ,sS]))
    (refine any_takeA (i:=13) rfl hd hS ?_;clear hd;intro hd;(try simp only [Act.put,gA,gS,gZ,sA,sZ,sS]))
    clear hS
    have kr:=HX59.out.1.upd (Upd.of_below (((((HS60.out).trans ((HS65.out).mono (HS60.out).size)).trans ((HS66.out).mono ((HS60.out).trans ((HS65.out).mono (HS60.out).size)).size)).trans ((HS67.out).mono (((HS60.out).trans ((HS65.out).mono (HS60.out).size)).trans ((HS66.out).mono ((HS60.out).trans ((HS65.out).mono (HS60.out).size)).size)).size)).trans ((HS68.out).mono ((((HS60.out).trans ((HS65.out).mono (HS60.out).size)).trans ((HS66.out).mono ((HS60.out).trans ((HS65.out).mono (HS60.out).size)).size)).trans ((HS67.out).mono (((HS60.out).trans ((HS65.out).mono (HS60.out).size)).trans ((HS66.out).mono ((HS60.out).trans ((HS65.out).mono (HS60.out).size)).size)).size)).size)) (fun _ => False)) id
    have r0:V68.cell? ⟨V0.heap.size,0,none⟩ = some (.slice none 0 0):=kr.cell 0
    have r1:V68.cell? ⟨V0.heap.size,1,none⟩ = some (.slice none 0 0):=kr.cell 1
    have f0:=kr.frozen 0
    have f1:=kr.frozen 1
    generalize (ofN (datN G ++ M) (datE G ++ D)).length = l1
    generalize (ofE (datN G ++ M) (datE G ++ D)).length = l2
    have uF:=((Upd.refl (fun q => q = V0.heap.size) V68).setCell (p:=⟨V0.heap.size,0,none⟩) (.inl rfl) (.slice AZ l1 cZ)).setCell (p:=⟨V0.heap.size,1,none⟩) (.inl rfl) (.slice BZ l2 dZ)
    have bF:=uF.below (B:=W1.heap.size) (fun q _ e => by subst e;exact HB0.out.size) HB68.out.size
    have bZ:=HB68.out.trans bF
    have hS:=US.out _ bZ
    have FIN:=Lib.hid (HWT.out.trans (bZ.mono HWT.out.size))
    clear kr uF bF bZ
    refine any_run hd (L:=[15]) (by kernel_rfl) (by decide) (fun i hi hd2 => ?_)
    clear hd
    have hd:=hd2
    clear hd2
    obtain rfl:=List.mem_singleton.1 hi
    clear hi
    refine any_do rfl rfl (fun K hK => ?_)
    go_simp
    refine hK _ _ hS ?_
    clear hK K
    (try simp only [Act.put,gA,gS,gZ,sA,sZ,sS])
    (refine any_takeA (i:=16) rfl hd hS ?_;clear hd;intro hd;(try simp only [Act.put,gA,gS,gZ,sA,sZ,sS]))
    refine any_done (by kernel_rfl) ?_
    clear hS hd r0 r1 f0 f1
    go_wp2
    go_ret
    exact ⟨by rw [← HOI.out];rfl,FIN.out⟩
  ·refine any_do rfl rfl (fun K hK => ?_)
   go_simp
   have kx69:=Blk.new V59 27 #[.slice B5 x2 d5,.slice B m2 d]
   have bx69:Below W1.heap.size W1 (V59.alloc (.cells #[.slice B5 x2 d5,.slice B m2 d] 27)):=HB59.out.alloc HB59.out.size _
   have hlt69:=kx69.lt
   have HX69:=Lib.hid (And.intro kx69 bx69)
   clear kx69 bx69
   have HS69:=Lib.hid (show Below V59.heap.size V59 (V59.alloc (.cells #[.slice B5 x2 d5,.slice B m2 d] 27)) from (Below.refl V59.heap.size V59).alloc (Nat.le_refl _) _)
   refine hK _ _ (US.out _ HX69.out.2) ?_
   clear hK K
   (try simp only [Act.put,gA,gS,gZ,sA,sZ,sS])
   generalize V59.alloc (.cells #[.slice B5 x2 d5,.slice B m2 d] 27) = V69 at HX69 HS69 hlt69 ⊢
   have HB69:=Lib.hid HX69.out.2
   refine any_run hd (L:=[3]) (by kernel_rfl) (by decide) (fun i hi hd2 => ?_)
   clear hd
   have hd:=hd2
   clear hd2
   obtain rfl:=List.mem_singleton.1 hi
   clear hi
   refine any_do rfl rfl (fun K hK => ?_)
   go_simp
   have kx70:=Blk.new V69 26 #[.slice A5 x1 c5,.slice A m1 c]
   have bx70:Below W1.heap.size W1 (V69.alloc (.cells #[.slice A5 x1 c5,.slice A m1 c] 26)):=HB69.out.alloc HB69.out.size _
   have hlt70:=kx70.lt
   have HX70:=Lib.hid (And.intro kx70 bx70)
   clear kx70 bx70
   have HS70:=Lib.hid (show Below V69.heap.size V69 (V69.alloc (.cells #[.slice A5 x1 c5,.slice A m1 c] 26)) from (Below.refl V69.heap.size V69).alloc (Nat.le_refl _) _)
   refine hK _ _ (US.out _ HX70.out.2) ?_
   clear hK K
   (try simp only [Act.put,gA,gS,gZ,sA,sZ,sS])
   generalize V69.alloc (.cells #[.slice A5 x1 c5,.slice A m1 c] 26) = V70 at HX70 HS70 hlt70 ⊢
   have HB70:=Lib.hid HX70.out.2
   refine any_run hd (L:=[4]) (by kernel_rfl) (by decide) (fun i hi hd2 => ?_)
   clear hd
   have hd:=hd2
   clear hd2
   obtain rfl:=List.mem_singleton.1 hi
   clear hi
   refine any_do rfl rfl (fun K hK => ?_)
   go_simp
   have hcon:=concat_txt V70 V69.heap.size A5 c5 A c (datN G) M (by rw [HN.out.1,HN.out.2.2.1];exact HX70.out.1.upd (Upd.of_below (Below.refl _ _) (fun _ => False)) id) (HR.out.1.below HB70.out) (HR.out.2.2.1.below HB70.out) HNL.out.1
   refine hcon.mono ?_
   clear hcon
   rintro e V71 ⟨v,rfl,own71X,b71X⟩
   rw [HQ.out.1] at own71X
   obtain ⟨A71X,c71X,rfl,hle71X,row71X⟩:=own_le2 own71X
   have HB71:=Lib.hid (HB70.out.trans (b71X.mono HB70.out.size))
   have HS71:=Lib.hid b71X
   have HR71X:=Lib.hid (And.intro row71X hle71X)
   clear own71X b71X row71X hle71X
   refine hK _ _ (US.out _ HB71.out) ?_
   clear hK K
   (try simp only [Act.put,gA,gS,gZ,sA,sZ,sS])
   refine any_run hd (L:=[9]) (by kernel_rfl) (by decide) (fun i hi hd2 => ?_)
   clear hd
   have hd:=hd2
   clear hd2
   obtain rfl:=List.mem_singleton.1 hi
   clear hi
   refine any_do rfl rfl (fun K hK => ?_)
   go_simp
   have hcon:=concat_ed V71 V59.heap.size B5 d5 B d (datE G) D (by rw [HN.out.2.1,HN.out.2.2.2];exact HX69.out.1.upd (Upd.of_below ((HS70.out).trans ((HS71.out).mono (HS70.out).size)) (fun _ => False)) id) (HR.out.2.1.below HB71.out) (HR.out.2.2.2.below HB71.out) HNL.out.2
   refine hcon.mono ?_
   clear hcon
   rintro e V72 ⟨v,rfl,own72X,b72X⟩
   rw [HQ.out.2] at own72X
   obtain ⟨A72X,c72X,rfl,hle72X,row72X⟩:=own_le2 own72X
   have HB72:=Lib.hid (HB71.out.trans (b72X.mono HB71.out.size))
   have HS72:=Lib.hid b72X
   have HR72X:=Lib.hid (And.intro row72X hle72X)
   clear own72X b72X row72X hle72X
   refine hK _ _ (US.out _ HB72.out) ?_
   clear hK K
   (try simp only [Act.put,gA,gS,gZ,sA,sZ,sS])
   refine any_run hd (L:=[10]) (by kernel_rfl) (by decide) (fun i hi hd2 => ?_)
   clear hd
   have hd:=hd2
   clear hd2
   obtain rfl:=List.mem_singleton.1 hi
   clear hi
   refine any_do rfl rfl (fun K hK => ?_)
   have rA:=HR71X.out.1.below (HS72.out)
   have rB:=HR72X.out.1.below (Below.refl _ _)
   have hmade:=of_any V72 A71X c71X A72X c72X (datN G ++ M) (datE G ++ D) ⟨rA,rB,by rw [HQ.out.1];exact HR71X.out.2,by rw [HQ.out.2];exact HR72X.out.2,HFT.out⟩ HBB.out
   clear rA rB
   rw [HQ.out.1,HQ.out.2] at hmade
   go_simp
   refine hmade.mono ?_
   clear hmade
   rintro e V73 ⟨AZ,cZ,BZ,dZ,rfl,-,-,bZ⟩
   have HB73:=Lib.hid (HB72.out.trans (bZ.mono HB72.out.size))
   have HS73:=Lib.hid bZ
   clear bZ
   unfold twoV
   refine hK _ _ (US.out _ HB73.out) ?_
   clear hK K
   (try simp only [Act.put,gA,gS,gZ,sA,sZ,sS])
   have hS:=US.out _ HB73.out
   (refine any_takeA (i:=11) rfl hd hS ?_;clear hd;intro hd;(try simp only [Act.put,gA,gS,gZ,sA,sZ,sS]))
   (refine any_takeA (i:=12) rfl hd hS ?_;clear hd;intro hd;(try simp only [Act.put,gA,gS,gZ,sA,sZ,sS]))
   (refine any_takeA (i:=13) rfl hd hS ?_;clear hd;intro hd;(try simp only [Act.put,gA,gS,gZ,sA,sZ,sS]))
   clear hS
   have kr:=HX59.out.1.upd (Upd.of_below (((((HS69.out).trans ((HS70.out).mono (HS69.out).size)).trans ((HS71.out).mono ((HS69.out).trans ((HS70.out).mono (HS69.out).size)).size)).trans ((HS72.out).mono (((HS69.out).trans ((HS70.out).mono (HS69.out).size)).trans ((HS71.out).mono ((HS69.out).trans ((HS70.out).mono (HS69.out).size)).size)).size)).trans ((HS73.out).mono ((((HS69.out).trans ((HS70.out).mono (HS69.out).size)).trans ((HS71.out).mono ((HS69.out).trans ((HS70.out).mono (HS69.out).size)).size)).trans ((HS72.out).mono (((HS69.out).trans ((HS70.out).mono (HS69.out).size)).trans ((HS71.out).mono ((HS69.out).trans ((HS70.out).mono (HS69.out).size)).size)).size)).size)) (fun _ => False)) id
   have r0:V73.cell? ⟨V0.heap.size,0,none⟩ = some (.slice none 0 0):=kr.cell 0
   have r1:V73.cell? ⟨V0.heap.size,1,none⟩ = some (.slice none 0 0):=kr.cell 1
   have f0:=kr.frozen 0
   have f1:=kr.frozen 1
   generalize (ofN (datN G ++ M) (datE G ++ D)).length = l1
   generalize (ofE (datN G ++ M) (datE G ++ D)).length = l2
   have uF:=((Upd.refl (fun q => q = V0.heap.size) V73).setCell (p:=⟨V0.heap.size,0,none⟩) (.inl rfl) (.slice AZ l1 cZ)).setCell (p:=⟨V0.heap.size,1,none⟩) (.inl rfl) (.slice BZ l2 dZ)
   have bF:=uF.below (B:=W1.heap.size) (fun q _ e => by subst e;exact HB0.out.size) HB73.out.size
   have bZ:=HB73.out.trans bF
   have hS:=US.out _ bZ
   have FIN:=Lib.hid (HWT.out.trans (bZ.mono HWT.out.size))
   clear kr uF bF bZ
   refine any_run hd (L:=[15]) (by kernel_rfl) (by decide) (fun i hi hd2 => ?_)
   clear hd
   have hd:=hd2
   clear hd2
   obtain rfl:=List.mem_singleton.1 hi
   clear hi
   refine any_do rfl rfl (fun K hK => ?_)
   go_simp
   refine hK _ _ hS ?_
   clear hK K
   (try simp only [Act.put,gA,gS,gZ,sA,sZ,sS])
   (refine any_takeA (i:=16) rfl hd hS ?_;clear hd;intro hd;(try simp only [Act.put,gA,gS,gZ,sA,sZ,sS]))
   refine any_done (by kernel_rfl) ?_
   clear hS hd r0 r1 f0 f1
   go_wp2
   go_ret
   exact ⟨by rw [← HOI.out];rfl,FIN.out⟩
end Go.Proofs.YtddffnonlmfhdaaGreatDoor
