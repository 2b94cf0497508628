/- far: New: the walk; far: what the lengths answer: there, ask, Of, Far, Most; the law's known; far: the law's known; without a graph: New, Most, head; The document's answer on grammars: Weak, Check of layer 12, Is, Most; The document's answer on grammars: Is, Most; Check of layer 22: it says what azimov.Check says; Check of layer 22's document: it says what azimov.Check says; The document's answer of layer 16: two rising lists as one (plain). -/
import Derived.Test.YteffnejneoocgaaGreatDoorF14
import Derived.Test.YteffnejneoocgaaGreatDoorF01
set_option linter.unusedVariables false
set_option linter.unusedSimpArgs false
set_option maxHeartbeats 16000000
set_option maxRecDepth 100000
namespace Go.Proofs.YteffnejneoocgaaGreatDoor
open Go.RowKit Go.Shelf
theorem mN{α β:Type}{f:α→β}:∀{l:List α},(l.map f).Nodup→l.Nodup
 | [],_=>List.nodup_nil
 | a::l,h=>by
  rw[List.map_cons,List.nodup_cons] at h;exact List.nodup_cons.2 ⟨fun hm=>h.1 (List.mem_map.2 ⟨a,hm,rfl⟩),mN h.2⟩
theorem LP{nts:Int}{PV:List Pv}{l:Nat}(h1:1≤nts)(h:∀v∈PV,aZ v.pr nts l=true):∀v∈PV,KY nts.toNat l v:=fun v hv=>by
 refine FF ?_;rw[Int.toNat_of_nonneg (by omega)];exact h v hv
theorem sM{nts:Nat}{PV:List Pv}{l:Nat}(h:∀v∈PV,KY nts l v):∀p∈PV.map (·.pr),GZ nts p:=fun p hp=>by
 obtain⟨v,hv,rfl⟩:=List.mem_map.1 hp;exact(h v hv).g
theorem TU(x0 x1 x2 xn:Nat)(T:TypeId)(w:World):(Instr.typeAssert (.iface 97 (.agg #[.int .i64 (x0:Int),.int .i64 (x1:Int),.int .i64 (x2:Int),.int .i64 (xn:Int)])) T 97 false).run Tryz.prog w=.ok (.agg #[.int .i64 (x0:Int),.int .i64 (x1:Int),.int .i64 (x2:Int),.int .i64 (xn:Int)]) w:=by kernel_rfl
def NwL(W V:World)(p z r pc n:Nat)(nts:Int)(P:List Pr)(El:Int→Nat→Nat→Prop)(T:List Pv)(k:Nat):Prop:=∃K L lv rv tv b,NwS W V p z r pc n nts T K L lv rv tv∧BI P El n nts.toNat K L b∧HpM L L.length∧iE (nts.toNat*n*n) (2*(T.length*n)+1) K L≤k∧k≤900000000000
theorem FY{a n m:Nat}{K L:List Ln}(ha:a≤512)(hn:n≤32)(hm:m≤8192)(hL:L.length≤8192*8192):iE (a*n*n) (2*(m*n)+1) K L≤900000000000:=by
 unfold iE;have h1:a*n*n≤512*32*32:=Nat.mul_le_mul (Nat.mul_le_mul ha hn) hn;have h2:m*n≤8192*32:=Nat.mul_le_mul hm hn;have h3:(a*n*n-K.length)*(2*(m*n)+1)≤(512*32*32)*(2*(8192*32)+1):=Nat.mul_le_mul (by omega) (by omega);omega
theorem yY(w:World)(nts:Int)(PA:Option Addr)(pc:Nat)(PV:List Pv)(hP:PvR w PA PV)(LA:Option Addr)(cl:Nat)(labels:List Txt)(hlab:aX w LA (aE labels))
  (Fg:Nat→Prop) (pg:Nat) (G:Gr) (hG:GrS w Fg pg G) (ok:GOk G) (hT:qF w) (htab:1<w.heap.size) :
  Calls Tryz.prog 28 #[.agg #[.int .i64 nts,.slice PA PV.length pc],.slice LA labels.length cl,.pointer (some ⟨pg,0,none⟩)] w (PZ w nts PV labels G):=by
 have b1:Below w.heap.size w (w.alloc (.cells #[.int .i64 nts,.slice PA PV.length pc] 24)):=bR.alloc (Nat.le_refl _) _;have k1:=Blk.new w 24 #[.int .i64 nts,.slice PA PV.length pc];obtain⟨m,hmm⟩:∃m,PV.length=m:=⟨_,rfl⟩;obtain⟨ll,hll⟩:∃l,labels.length=l:=⟨_,rfl⟩;obtain⟨n,hn⟩:∃n,G.N.length=n:=⟨_,rfl⟩;have HO:=hIz (show ∀X,Below w.heap.size w X→PvR X PA PV∧aX X LA (aE labels)∧GrS X Fg pg G from fun X hX=>⟨hP.below hX,hlab.below3 hX,hG.below hX⟩);have hnew:=LL (w.alloc (.cells #[.int .i64 nts,.slice PA PV.length pc] 24)) nts PA pc PV (hP.below b1) LA cl labels (hlab.below3 b1) Fg pg G (hG.below b1) ok (hT.upd (upF b1) htab id) (Nat.lt_of_lt_of_le htab b1.size);have H:=aI3 b1 k1 ok;have HM:=aI3 hmm hll hn;have c0:(w.alloc (.cells #[.int .i64 nts,.slice PA PV.length pc] 24)).cell? ⟨w.heap.size,0,none⟩=some (.int .i64 nts):=k1.cell 0;have c1:(w.alloc (.cells #[.int .i64 nts,.slice PA PV.length pc] 24)).cell? ⟨w.heap.size,1,none⟩=some (.slice PA PV.length pc):=k1.cell 1;rw[hmm] at H c0 c1 hnew ⊢;rw[hll] at hnew ⊢;clear b1 k1 hP hlab hG ok hT htab hmm hll hn;go_enter Tryz.func28,Tryz.ntmps28;go_upto_region 1 with (fail);generalize w.alloc (.cells #[.int .i64 nts,.slice PA m pc] 24)=W1 at H c0 c1 hnew ⊢;go_wp2_with fail;refine hnew.mono ?_;clear hnew c0 c1;rintro e W2 hq;rcases hq with ⟨h2,rfl,hb⟩|⟨h0,pcl,Fc,B,rfl,hcl,hfr,hb,hbits,hwd⟩
 ·have FIN:=hIz (show PZ w nts PV labels G (.returned (.tuple #[.pointer none,.int .i64 2])) W2 from .inl ⟨h2,rfl,tHn H.out.1 hb⟩);clear h2 hb;go_wp2;refine bodyPost_ret (v:=.tuple #[.pointer none,.int .i64 2]) (by simp[results,Tryz.f28,go_sem]) rfl FIN.out
 ·obtain⟨-,hl16,hn1,hn5,hm8,-,hsh⟩:=(mD nts PV labels).resolve_left (by rw[h0];decide);have hB2:=tHn H.out.1 hb;have hlen:=MT W2 Fg pg G (HO.out W2 hB2).2.2;have HS:=hIz (LP hn1 hsh);have hm2:m≤8192:=by rw[← HM.out.1];exact hm8
  have hn32:n≤32:=by rw[← HM.out.2.2];exact H.out.2.2.few.1
  have HX:=aI8 h0 hcl hfr hbits hwd hB2 hb hl16;clear h0 hcl hfr hbits hwd hB2 hb hl16 hm8 hsh;rw[HM.out.2.2] at hlen;go_wp2_with fail;refine hlen.mono ?_;clear hlen;rintro e W3 ⟨rfl,hb3⟩;have hmm:=@run_makeMap Tryz.prog;have hk3:=(H.out.2.1.upd (Upd.of_below HX.out.2.2.2.2.2.2.1 (fun _=>False)) id).upd (upF hb3) id;have c0:W3.cell? ⟨w.heap.size,0,none⟩=some (.int .i64 nts):=hk3.cell 0;go_upto_region 6 with (fail);have m6:bW (((W3.alloc (.map #[] 0)).alloc (.cells #[.int .i64 nts,.int .i64 (n:Int),.pointer (some ⟨pcl,0,none⟩),.map (some W3.heap.size),.slice none 0 0] 95)).alloc (.cells #[.pointer (some ⟨W3.heap.size+1,0,none⟩),.slice none 0 0,.slice none 0 0] 125)) Tryz.prog 30 W3.heap.size []:=((bW.made W3 Tryz.prog 30).alloc _).alloc _;have z5:=Blk.new (W3.alloc (.map #[] 0)) 95 #[.int .i64 nts,.int .i64 (n:Int),.pointer (some ⟨pcl,0,none⟩),.map (some W3.heap.size),.slice none 0 0];have z6:=z5.alloc (.cells #[.pointer (some ⟨W3.heap.size+1,0,none⟩),.slice none 0 0,.slice none 0 0] 125);have p6:=Blk.new ((W3.alloc (.map #[] 0)).alloc (.cells #[.int .i64 nts,.int .i64 (n:Int),.pointer (some ⟨pcl,0,none⟩),.map (some W3.heap.size),.slice none 0 0] 95)) 125 #[.pointer (some ⟨W3.heap.size+1,0,none⟩),.slice none 0 0,.slice none 0 0];have b6:Below W3.heap.size W3 (((W3.alloc (.map #[] 0)).alloc (.cells #[.int .i64 nts,.int .i64 (n:Int),.pointer (some ⟨pcl,0,none⟩),.map (some W3.heap.size),.slice none 0 0] 95)).alloc (.cells #[.pointer (some ⟨W3.heap.size+1,0,none⟩),.slice none 0 0,.slice none 0 0] 125)):=((bR.alloc (Nat.le_refl _) _).alloc (by simp) _).alloc (by simp;omega) _
  simp only[World.size_alloc] at z6 p6
  clear z5;generalize ((W3.alloc (.map #[] 0)).alloc (.cells #[.int .i64 nts,.int .i64 (n:Int),.pointer (some ⟨pcl,0,none⟩),.map (some W3.heap.size),.slice none 0 0] 95)).alloc (.cells #[.pointer (some ⟨W3.heap.size+1,0,none⟩),.slice none 0 0,.slice none 0 0] 125)=W6 at m6 z6 p6 b6 ⊢;have k6:=hk3.upd (upF b6) id;have hb36:=HX.out.2.2.2.2.2.1.trans ((tHn hb3 b6).mono HX.out.2.2.2.2.2.1.size);have HB6:=hIz hb36;have hcl6:=((HX.out.2.1.below hb3).below b6);have hFc:=hIz (show ∀k,Fc k→w.heap.size≤k∧k<W3.heap.size from fun k hk=>⟨Nat.le_trans H.out.1.size (HX.out.2.2.1 k hk),Nat.lt_of_lt_of_le (HX.out.2.1.lt k hk) hb3.size⟩);have hrw:w.heap.size≤W3.heap.size:=Nat.le_trans HX.out.2.2.2.2.2.1.size hb3.size;obtain⟨r,hr⟩:∃r,W3.heap.size=r:=⟨_,rfl⟩;obtain⟨z,hz⟩:∃z,r+1=z:=⟨_,rfl⟩;obtain⟨p,hp⟩:∃p,z+1=p:=⟨_,rfl⟩;rw[hr] at m6 z6 p6 hFc hrw ⊢;rw[hz] at z6 p6 ⊢;rw[hp] at p6 ⊢;have hpl:=p6.lt;have hNB:NwB W6 p z r:=⟨hpl,by omega,by omega,by omega,by omega,by omega⟩;have hpw:w.heap.size≤p:=by omega
  have FK:FnK W6 p z r n [] (.slice none 0 0):=⟨z6.cell 1,z6.cell 3,m6,hNB.lz,fun e=>hNB.pz e.symm,fun e=>hNB.pr e.symm,fun e=>(by cases e),fun e=>(by cases e),by omega,fun _ h=>(by cases h)⟩;have hbeg:=AR W6 p z r n p6 FK hNB.lr nts PA pc PV LA cl labels Fg pg G H.out.2.2 HM.out.2.2 (fun X hX=>HO.out X (HB6.out.trans (hX.below (B:=w.heap.size) (fun i _ e=>by omega) HB6.out.size))) HX.out.2.2.2.2.2.2.2 HS.out (by rw[HM.out.1];exact hm2) hn5;clear c0;have c0:W6.cell? ⟨w.heap.size,0,none⟩=some (.int .i64 nts):=k6.cell 0;have c1:W6.cell? ⟨w.heap.size,1,none⟩=some (.slice PA m pc):=k6.cell 1;have HN:=aI4 hNB z6 m6 hcl6;have HR:=aI4 hr hz hp hrw;rw[HM.out.1] at hbeg;rw[HM.out.2.1] at hbeg;clear m6 z6 p6 b6 k6 hb36 hcl6 hrw hpl hNB hpw FK hk3 hb3 hmm hr hz hp;go_wp2_with fail;refine hbeg.mono ?_;clear hbeg c0 c1;rintro e W7 ⟨rfl,tv,lv,L,q7,o7,bI,lL,hp7,fl,ft,up7⟩;rw[← HM.out.1,List.take_length] at bI;rw[← HM.out.1] at o7;have hEl:∀k i j,ElG G labels k i j→i<n∧j<n:=fun k i j h=>by have:=h.lt;rw[HM.out.2.2] at this;exact this
  have hTm:(eQ PV PV.length).length≤8192:=Nat.le_trans (sK _ _) (by rw[HM.out.1];exact hm2);have hst:NwL W6 W7 p z r pcl n nts (PV.map (·.pr)) (ElG G labels) (eQ PV PV.length) (iE (nts.toNat*n*n) (2*((eQ PV PV.length).length*n)+1) [] L):=⟨[],L,lv,.slice none 0 0,tv,0,
   ⟨q7,HN.out.2.1.upd up7 (fun e=>HN.out.1.pz e.symm),HN.out.2.2.1.upd up7 (fun e=>HN.out.1.pr e.symm),World.ownsRow_nil _ _ _ _,o7,fl,fun _ h=>(by cases h),fun q hq=>⟨(ft q hq).1,(ft q hq).2,fun e=>(by cases e)⟩,up7.mono (fun _ _ e=>.inl e)⟩,
   bI.start (sM HS.out) hEl,hp7,Nat.le_refl _,FY (by omega) hn32 hTm (by have:m*8192≤8192*8192:=Nat.mul_le_mul_right _ hm2;omega)⟩
  have HL0:=hIz hst;have HE:=aI2 hEl hTm;clear q7 o7 bI lL hp7 fl ft up7 hEl hTm hst;generalize iE (nts.toNat*n*n) (2*((eQ PV PV.length).length*n)+1) [] L=N0 at HL0;go_wp2;go_loopg [] N0 (fun k wr=>Hid (NwL W6 wr p z r pcl n nts (PV.map (·.pr)) (ElG G labels) (eQ PV PV.length) k))
  case atStart=>exact HL0
  case round =>
   clear HL0;obtain⟨K,L,lv,rv,tv,b,S,hF,hpm,hle,hk9⟩:=hrel.out;obtain⟨A,c,e,-,-⟩:=aK S.q.2;obtain⟨l,hl⟩:∃l,L.length=l:=⟨_,rfl⟩;have hL9:L.length≤900000000000:=by
    have:L.length≤iE (nts.toNat*n*n) (2*((eQ PV PV.length).length*n)+1) K L:=Nat.le_add_left _ _;omega
   have c2:wr.cell? ⟨p,2,none⟩=some (.slice A l c):=by rw[← hl,← e];exact S.q.1.cell 2
   have hlen:=oX wr A l c;by_cases hl0:0<l
   ·have hpop:=FQ wr p (.pointer (some ⟨z,0,none⟩)) tv lv L S.q (S.np HN.out.1) (by omega) (by omega) hpm;unfold quV at hpop;have hlI:(0:Int)<(l:Int):=by omega
    have HW:=aI4 S hF hle hk9;clear S hF hpm hle hk9 hrel hL9 hl0 hl e;go_wp2_with fail;refine hlen.mono ?_;clear hlen;rintro e VL ⟨rfl,hw⟩;subst VL;clear c2;go_wp2_with fail;refine hpop.mono ?_;clear hpop;rintro e V1 ⟨⟨⟨x0,x1,x2⟩,xn⟩,rfl,ht⟩;obtain⟨lv1,L1,S1,hperm,hmin,hp1⟩:=HW.out.1.queue HN.out.1 ht;have hsx:=HW.out.2.1.sq _ (hperm.mem_iff.2 List.mem_cons_self);dsimp only [lnC]
    have b13:Below V1.heap.size V1 (V1.alloc (.cells #[.int .i64 (x0:Int),.int .i64 (x1:Int),.int .i64 (x2:Int),.int .i64 (xn:Int)] 97)):=bR.alloc (Nat.le_refl _) _;have k13:=Blk.new V1 97 #[.int .i64 (x0:Int),.int .i64 (x1:Int),.int .i64 (x2:Int),.int .i64 (xn:Int)];have S2:=S1.below b13;have hx:x0≤512∧x1≤32∧x2≤32∧xn≤64:=by
     obtain⟨-,h1,h2,h3,h4⟩:=hsx;dsimp only at h1 h2 h3 h4
     omega
    have HP:=aI6 hperm hmin hp1 hsx S2 k13;have HZ:=hIz (show(∀q,rv.ownBlock=some q→q<V1.heap.size)∧(∀q,lv1.ownBlock=some q→q<V1.heap.size)∧(∀q,tv.ownBlock=some q→q<V1.heap.size)∧p<V1.heap.size∧z<V1.heap.size∧r<V1.heap.size from⟨fun q hq=>(S1.rr.lt q hq).2,fun q hq=>(S1.q.2.lt q hq).2,fun q hq=>(S1.tt.lt q hq).2,S1.q.1.lt,S1.zb.lt,S1.mp.lt⟩);clear hperm hmin hp1 hsx S1 ht;clear S2 k13 b13;have hta:=fun T=>TU x0 x1 x2 xn T V1
    go_upto_region 9 with (fail);clear hta;generalize V1.alloc (.cells #[.int .i64 (x0:Int),.int .i64 (x1:Int),.int .i64 (x2:Int),.int .i64 (xn:Int)] 97)=V2 at HP ⊢;generalize V1.heap.size=s13 at HP HZ ⊢;have c0:V2.cell? ⟨p,0,none⟩=some (.pointer (some ⟨z,0,none⟩)):=HP.out.2.2.2.2.1.q.1.cell 0;have z3:V2.cell? ⟨z,3,none⟩=some (.map (some r)):=HP.out.2.2.2.2.1.zb.cell 3;have y0:V2.cell? ⟨s13,0,none⟩=some (.int .i64 (x0:Int)):=HP.out.2.2.2.2.2.cell 0;have y1:V2.cell? ⟨s13,1,none⟩=some (.int .i64 (x1:Int)):=HP.out.2.2.2.2.2.cell 1;have y2:V2.cell? ⟨s13,2,none⟩=some (.int .i64 (x2:Int)):=HP.out.2.2.2.2.2.cell 2;have hfb:FcB (x0,x1,x2):=⟨by show x0≤1000000;omega,by show x1≤1000000;omega,by show x2≤1000000;omega⟩;have hlk:∀n,(Instr.lookup 92 (.map (some r)) (.agg #[.int .i64 (x0:Int),.int .i64 (x1:Int),.int .i64 (x2:Int)]) true).run Tryz.prog (V2.drewN n)=.ok (.tuple #[.int .i64 (((look K (x0,x1,x2)).getD 0:Nat):Int),.bool (look K (x0,x1,x2)).isSome]) (V2.drewN n):=fun n=>jO (HP.out.2.2.2.2.1.mp.drewN n) hfb
    have HD:=hIz (show ∀n,Below V2.heap.size V2 (V2.drewN n) from fun n=>⟨rfl,rfl,rfl,Nat.le_refl _,fun _ _=>rfl⟩);have HF:=hIz hfb;clear hfb;cases hlook:look K (x0,x1,x2) with
    | some mm =>
     have FIN:=hIz (fun n0=>show NwL W6 (V2.drewN n0) p z r pcl n nts (PV.map (·.pr)) (ElG G labels) (eQ PV PV.length) (iE (nts.toNat*n*n) (2*((eQ PV PV.length).length*n)+1) K L1) from⟨K,L1,lv1,rv,tv,xn,HP.out.2.2.2.2.1.below (HD.out n0),HW.out.2.1.old HP.out.1 (fun y hy=>(HP.out.2.1 y hy).len) (by rw[hlook];simp),HP.out.2.2.1,Nat.le_refl _,by have:=yX (F:=nts.toNat*n*n) (C:=2*((eQ PV PV.length).length*n)+1) (K:=K) HP.out.1;have:=HW.out.2.2.1;have:=HW.out.2.2.2;omega⟩);have hms:iE (nts.toNat*n*n) (2*((eQ PV PV.length).length*n)+1) K L1+1≤iE (nts.toNat*n*n) (2*((eQ PV PV.length).length*n)+1) K L:=yX HP.out.1;have hmk:=HW.out.2.2.1;generalize iE (nts.toNat*n*n) (2*((eQ PV PV.length).length*n)+1) K L1=g1 at FIN hms;generalize iE (nts.toNat*n*n) (2*((eQ PV PV.length).length*n)+1) K L=g0 at hms hmk;rw[hlook] at hlk;clear hlook;go_quiet (fail)
     go_wp2;go_roundg g1
     case rel=>exact hIz (FIN.out _)
     case measure=>omega
    | none =>
     have HK:=hIz hlook;rw[hlook] at hlk;clear hlook;go_quiet (fail)
     go_upto_region 11 with (fail);have bD:Below V2.heap.size V2 (V2.drewN nq).drew:=HD.out (nq+1);have S3:=HP.out.2.2.2.2.1.below bD;have k3:=HP.out.2.2.2.2.2.upd (upF bD) id;obtain⟨V4,hput,u4,q4,zb4,mp4,rr4,tt4⟩:=S3.known HN.out.1 (x:=((x0,x1,x2),xn)) HK.out HF.out;have u4d:=u4.drew;have ud:=(Upd.refl (fun _=>False) V4).drew;have hKl:K.length≤1000000000:=by
      have h1:=pE HW.out.2.1.nd (fun y hy=>(HW.out.2.1.sk y hy).2.2);have h2:nts.toNat*n*n≤512*32*32:=Nat.mul_le_mul (Nat.mul_le_mul (by omega) hn32) hn32;omega
     have k4:=k3.upd u4d (by have:=HZ.out.2.2.2.2.2;omega);obtain⟨A2,c2,W9,happ,u9,hz9,S9⟩:=S3.row HN.out.1 u4d (q4.upd ud id (fun _ _=>id)) (zb4.upd ud id) (mp4.upd ud id) (aB rr4 ud (fun _ _=>id)) (aB tt4 ud (fun _ _=>id)) hKl;have k9:=k4.upd u9 (fun e=>by have:=HZ.out.1 _ e;omega);have p9:=(q4.upd ud id (fun _ _=>id)).1.upd u9 (fun e=>by have:=(S3.rw0 _ e).1;have:=HN.out.1.lp;omega);have k5:=k9.upd ((Upd.refl (fun q=>q=z) W9).setCell (p:=⟨z,4,none⟩) (.inl rfl) (.slice A2 (K.length+1) c2)) (by have:=HZ.out.2.2.2.2.1;omega);have hb45:Hid (V4.drew.heap.size≤W9.heap.size):=hIz u9.size;have H5:=aI2 S9 k5;have hS3:(V2.drewN nq).drew.cell? ⟨p,0,none⟩=some (.pointer (some ⟨z,0,none⟩))∧(V2.drewN nq).drew.cell? ⟨z,3,none⟩=some (.map (some r))∧(V2.drewN nq).drew.cell? ⟨s13,0,none⟩=some (.int .i64 (x0:Int))∧(V2.drewN nq).drew.cell? ⟨s13,1,none⟩=some (.int .i64 (x1:Int))∧(V2.drewN nq).drew.cell? ⟨s13,2,none⟩=some (.int .i64 (x2:Int))∧(V2.drewN nq).drew.cell? ⟨s13,3,none⟩=some (.int .i64 (xn:Int)):=⟨S3.q.1.cell 0,S3.zb.cell 3,k3.cell 0,k3.cell 1,k3.cell 2,k3.cell 3⟩;have hS4:V4.drew.cell? ⟨p,0,none⟩=some (.pointer (some ⟨z,0,none⟩))∧V4.drew.cell? ⟨z,4,none⟩=some rv∧V4.drew.cell? ⟨s13,0,none⟩=some (.int .i64 (x0:Int))∧V4.drew.cell? ⟨s13,1,none⟩=some (.int .i64 (x1:Int))∧V4.drew.cell? ⟨s13,2,none⟩=some (.int .i64 (x2:Int))∧V4.drew.cell? ⟨s13,3,none⟩=some (.int .i64 (xn:Int)):=⟨q4.1.cell 0,zb4.cell 4,k4.cell 0,k4.cell 1,k4.cell 2,k4.cell 3⟩;have hA4:(V4.drew.alloc (.cells (lnC ((x0,x1,x2),xn)).toArray 97)).cell? ⟨p,0,none⟩=some (.pointer (some ⟨z,0,none⟩))∧(V4.drew.alloc (.cells (lnC ((x0,x1,x2),xn)).toArray 97)).cell? ⟨z,4,none⟩=some rv∧(V4.drew.alloc (.cells (lnC ((x0,x1,x2),xn)).toArray 97)).cell? ⟨s13,0,none⟩=some (.int .i64 (x0:Int))∧(V4.drew.alloc (.cells (lnC ((x0,x1,x2),xn)).toArray 97)).cell? ⟨s13,1,none⟩=some (.int .i64 (x1:Int))∧(V4.drew.alloc (.cells (lnC ((x0,x1,x2),xn)).toArray 97)).cell? ⟨s13,2,none⟩=some (.int .i64 (x2:Int))∧(V4.drew.alloc (.cells (lnC ((x0,x1,x2),xn)).toArray 97)).cell? ⟨s13,3,none⟩=some (.int .i64 (xn:Int)):=⟨(q4.1.drew.alloc _).cell 0,(zb4.drew.alloc _).cell 4,(k4.alloc _).cell 0,(k4.alloc _).cell 1,(k4.alloc _).cell 2,(k4.alloc _).cell 3⟩
     have hS9:W9.cell? ⟨p,0,none⟩=some (.pointer (some ⟨z,0,none⟩))∧W9.cell? ⟨z,4,none⟩=some rv∧W9.cell? ⟨s13,0,none⟩=some (.int .i64 (x0:Int))∧W9.cell? ⟨s13,1,none⟩=some (.int .i64 (x1:Int))∧W9.cell? ⟨s13,2,none⟩=some (.int .i64 (x2:Int))∧W9.cell? ⟨s13,3,none⟩=some (.int .i64 (xn:Int)):=⟨p9.cell 0,hz9.cell 4,k9.cell 0,k9.cell 1,k9.cell 2,k9.cell 3⟩;have f9:W9.frozen? ⟨z,4,none⟩=false:=hz9.frozen 4;obtain⟨n1,hn1⟩:∃n1,K.length+1=n1:=⟨_,rfl⟩;rw[hn1] at H5 happ;have HN1:=hIz hn1;unfold fcV faC at hput;unfold lnC at happ hA4;dsimp only at hput happ hA4
     clear c0 z3 y0 y1 y2 hlk bD S3 k3 u4 q4 zb4 mp4 rr4 tt4 u4d ud hKl k4 u9 hz9 S9 k9 p9 k5 hn1;refine aT (fun V=>V.cell? ⟨p,0,none⟩=some (.pointer (some ⟨z,0,none⟩))∧V.cell? ⟨z,3,none⟩=some (.map (some r))∧V.cell? ⟨s13,0,none⟩=some (.int .i64 (x0:Int))∧V.cell? ⟨s13,1,none⟩=some (.int .i64 (x1:Int))∧V.cell? ⟨s13,2,none⟩=some (.int .i64 (x2:Int))∧V.cell? ⟨s13,3,none⟩=some (.int .i64 (xn:Int))) 11 [(0,true),(1,true),(2,true),(3,true),(4,true),(5,true),(6,true),(7,true),(8,true),(9,true),(10,true),(11,false)] (by kernel_rfl) (by kernel_rfl) (fun _ _ d _ _ h=>by cases d <;> exact h) hS3 ?_;generalize (V2.drewN nq).drew=V3 at hS3 hput ⊢;have hS:=hS3
     iterate 11 refine aC rfl ?_
     refine aM rfl rfl (fun K hK=>?_);go_simp;refine hK _ _ (fun h=>absurd rfl h) ?_;clear hK K hS hS3 hput;(try simp only[Act.put,gA,gS,gZ,sA,sZ,sS])
     refine aG ?_;go_wp2_with fail;refine aT (fun V=>V.cell? ⟨p,0,none⟩=some (.pointer (some ⟨z,0,none⟩))∧V.cell? ⟨z,4,none⟩=some rv∧V.cell? ⟨s13,0,none⟩=some (.int .i64 (x0:Int))∧V.cell? ⟨s13,1,none⟩=some (.int .i64 (x1:Int))∧V.cell? ⟨s13,2,none⟩=some (.int .i64 (x2:Int))∧V.cell? ⟨s13,3,none⟩=some (.int .i64 (xn:Int))) 16 [(0,true),(1,true),(2,true),(3,true),(4,true),(5,true),(6,true),(7,true),(8,true),(9,true),(10,true),(11,true),(12,false),(13,false),(14,true),(15,true),(16,false)] (by kernel_rfl) (by kernel_rfl) (fun _ _ d _ _ h=>by cases d <;> exact h) hS4 ?_;generalize V4.drew=V5 at hS4 happ hA4 hb45 ⊢;have hS:=hS4
     iterate 12 refine aC rfl ?_
     refine aM rfl rfl (fun K hK=>?_);go_simp;refine hK _ _ (fun _=>hA4) ?_;clear hK K;(try simp only[Act.put,gA,gS,gZ,sA,sZ,sS])
     refine aM rfl rfl (fun K hK=>?_);refine fE _ _ _ rfl rfl rfl happ ?_;refine hK _ _ (fun _=>hS9) ?_;clear hK K;(try simp only[Act.put,gA,gS,gZ,sA,sZ,sS])
     have hS:=hS9;obtain⟨hc0,hc4,-,-,-,-⟩:=hS9
     iterate 2 refine aC rfl ?_
     refine aM rfl rfl (fun K hK=>?_);go_simp;refine hK _ _ (fun h=>absurd rfl h) ?_;clear hK K;(try simp only[Act.put,gA,gS,gZ,sA,sZ,sS])
     refine aG ?_;clear hc0 hc4 hS hS4 hA4 happ f9;generalize W9.setCell ⟨z,4,none⟩ (.slice A2 n1 c2)=V6 at H5 ⊢;go_wp2_with fail;have k6:=Blk.new V6 128 #[.func (.func 56) #[.pointer (some ⟨p,0,none⟩)] #[],.func (.func 57) #[.pointer (some ⟨p,0,none⟩)] #[]];have b7:Below V6.heap.size V6 (V6.alloc (.cells #[.func (.func 56) #[.pointer (some ⟨p,0,none⟩)] #[],.func (.func 57) #[.pointer (some ⟨p,0,none⟩)] #[]] 128)):=bR.alloc (Nat.le_refl _) _;have S7:=H5.out.1.below b7;obtain⟨At,ct,etv,-,-⟩:=aK S7.tt;subst etv;have k7:=H5.out.2.upd (upF b7) id;have hg6:Hid ((∀q,lv1.ownBlock=some q→q<V6.heap.size)∧p<V6.heap.size∧s13<V6.heap.size):=hIz ⟨fun q hq=>(H5.out.1.q.2.lt q hq).2,H5.out.1.q.1.lt,H5.out.2.lt⟩;have FK7:FnK (V6.alloc (.cells #[.func (.func 56) #[.pointer (some ⟨p,0,none⟩)] #[],.func (.func 57) #[.pointer (some ⟨p,0,none⟩)] #[]] 128)) p z r n (K++[((x0,x1,x2),xn)]) lv1:=S7.fn HN.out.1 (by omega) (fun y hy=>by
      rcases List.mem_append.1 hy with h1|h1
      ·exact(HW.out.2.1.sk y h1).2.1
      ·rw[List.mem_singleton.1 h1];exact hx.2.2.2)
     have H7:=aI4 S7 k7 k6 FK7;clear k6 b7 S7 k7 FK7 H5 HN1;generalize V6.alloc (.cells #[.func (.func 56) #[.pointer (some ⟨p,0,none⟩)] #[],.func (.func 57) #[.pointer (some ⟨p,0,none⟩)] #[]] 128)=V7 at H7 ⊢;generalize V6.heap.size=g6 at H7 hg6 ⊢;obtain⟨tl,htl⟩:∃tl,(eQ PV PV.length).length=tl:=⟨_,rfl⟩;have HTL:=hIz htl;have htl8:tl≤8192:=by rw[← htl];exact HE.out.2
     clear htl;have HL1:Hid (L1.length≤900000000000):=hIz (by
      have h1:L1.length+1≤L.length:=by rw[HP.out.1.length_eq,List.length_cons];exact Nat.le_refl _
      have h2:L.length≤iE (nts.toNat*n*n) (2*((eQ PV PV.length).length*n)+1) K L:=Nat.le_add_left _ _;have:=HW.out.2.2.1;have:=HW.out.2.2.2;omega)
     go_loopw [108] (fun iv wr=>∃i:Nat,i≤2∧iv=.int .i64 (i:Int)∧Hid (QuT V7 p (.pointer (some ⟨z,0,none⟩)) (.slice At (eQ PV PV.length).length ct) lv1 (kH ((List.range i).flatMap (fun i=>(eQ PV PV.length).flatMap (fun v=>kI i (K++[((x0,x1,x2),xn)]) n v.pr ((x0,x1,x2),xn)))) L1) wr)) (fun iv _=>2-(intOf iv).toNat)
     case atStart=>exact⟨0,by omega,rfl,hIz ⟨lv1,L1,H7.out.1.q,⟨List.Perm.refl _,HP.out.2.2.1⟩,Upd.refl _ _,fun _ h=>.inl h,H7.out.1.np HN.out.1⟩⟩
     case round =>
      obtain⟨i,hi,rfl,hq⟩:=hrel;obtain⟨Wi,hWi⟩:∃Wq,Wq=wr:=⟨_,rfl⟩;subst hWi;by_cases hi2:i<2
      ·have hi2I:(i:Int)<2:=by omega
       have hiw:IntKind.i64.wrap ((i:Int)+1)=(i:Int)+1:=IntWalk.i64_in _ (by omega);obtain⟨lv2,L2,q2,c2,u2,o2,n2⟩:=hq.out;have nF:¬(g6=p∨lv1.ownBlock=some g6):=fun e=>e.elim (fun e=>by have:=hg6.out.2.1;omega) (fun e=>by have:=hg6.out.1 _ e;omega)
       have hk6:=H7.out.2.2.1.upd u2 nF;have yf:Wi.cell? ⟨g6,i,none⟩=some (.func (.func (stF i)) #[.pointer (some ⟨p,0,none⟩)] #[]):=by
        rw[hk6.cell i];rcases (by omega:i=0∨i=1) with e|e <;> subst e <;> rfl
       have c1:Wi.cell? ⟨p,1,none⟩=some (.slice At tl ct):=by rw[← HTL.out];exact q2.1.cell 1
       have HI:=aI5 q2 c2 u2 o2 n2;clear q2 c2 u2 o2 n2 nF hk6 hq;go_wp2_with fail;clear yf c1;go_loopw [117] (fun tv2 wr=>∃t:Nat,t≤tl∧tv2=.int .i64 (t:Int)∧Hid (QuT Wi p (.pointer (some ⟨z,0,none⟩)) (.slice At (eQ PV PV.length).length ct) lv2 (kH (((eQ PV PV.length).take t).flatMap (fun v=>kI i (K++[((x0,x1,x2),xn)]) n v.pr ((x0,x1,x2),xn))) L2) wr)) (fun tv2 _=>tl-(intOf tv2).toNat)
       case atStart=>exact⟨0,Nat.zero_le _,rfl,hIz ⟨lv2,L2,HI.out.1,⟨List.Perm.refl _,HI.out.2.1.2⟩,Upd.refl _ _,fun _ h=>.inl h,HI.out.2.2.2.2⟩⟩
       case round =>
        obtain⟨t,ht,rfl,hqt⟩:=hrel;obtain⟨Wt,hWt⟩:∃Wq,Wq=wr:=⟨_,rfl⟩;subst hWt;by_cases htt:t<tl
        ·have httI:(t:Int)<(tl:Int):=by omega
         have htw:IntKind.i64.wrap ((t:Int)+1)=(t:Int)+1:=IntWalk.i64_in _ (by omega);obtain⟨v,hv⟩:∃v,(eQ PV PV.length)[t]?=some v:=⟨_,gEz (by rw[HTL.out];exact htt)⟩;obtain⟨hvm,hv2⟩:=LJ (mG hv);obtain⟨a,b',c',la,lb,ha,hb',hc',hpr⟩:=SN (HS.out v hvm) hv2 (by omega);obtain⟨lv3,L3,q3,c3,u3,o3,n3⟩:=hqt.out;have u4:Upd (fun k=>k=p∨lv1.ownBlock=some k) V7 Wt:=HI.out.2.2.1.trans u3 (fun q hq=>hq.elim (fun e=>.inl (.inl e)) (fun e=>(HI.out.2.2.2.1 q e).imp .inr id));have tt4:=aB H7.out.1.tt u4 (fun q hq e=>e.elim (fun e=>by have:=(H7.out.1.tw q hq).1;have:=HN.out.1.lp;omega) (H7.out.1.tw q hq).2.1);obtain⟨tg,tc,et,-,-,-,-,hcell⟩:=aN tt4 (by rw[HTL.out];omega);injection et with et e2 e3;clear e2 e3;have y0:=(hcell _ _ (kC hv).1).1;have y1:=(hcell _ _ (kC hv).2).1;rw[hpr] at y0 y1;have hup6:Upd (fun q=>q=p∨q=z∨q=r) W6 Wt:=H7.out.1.up.trans u4 (fun q hq=>hq.elim (fun e=>.inl (.inl e)) (fun e=>.inr (H7.out.1.lw q e)));have hbw:Below w.heap.size w Wt:=HB6.out.trans (hup6.below (B:=w.heap.size) (fun i _ e=>by have:=HR.out;omega) HB6.out.size);have hrb:=(HO.out Wt hbw).1.2 v hvm;have hrb0:=(HO.out w bR).1.2 v hvm;rw[hpr] at hrb hrb0;obtain⟨gb,go,hA,hcl⟩:=hrb0 0 (.bool la) rfl;have hgb:=World.block_lt_of_cell? w _ hcl;dsimp only at hgb
         rw[hA] at hrb y1;have y1:Wt.cell? ⟨tg,t*2+1,none⟩=some (.slice (some ⟨gb,go,none⟩) 2 v.cap):=y1;have hl3:∀q,lv3.ownBlock=some q→W6.heap.size≤q:=fun q hq=>by
          have s1:=H7.out.1.up.size;have s2:=HI.out.2.2.1.size;rcases o3 q hq with e|e
          ·rcases HI.out.2.2.2.1 q e with e|e
           ·exact H7.out.1.lw q e
           ·omega
          ·omega
         have hlt6:=HN.out.1;have s13p:¬(s13=p∨lv1.ownBlock=some s13):=fun e=>e.elim (fun e=>by have:=HZ.out.2.2.2.1;omega) (fun e=>by have:=HZ.out.2.1 _ e;omega)
         have b19:Below Wt.heap.size Wt (Wt.alloc (.cells #[.int .i64 (a:Int),.slice (some ⟨gb,go,none⟩) 2 v.cap] 71)):=bR.alloc (Nat.le_refl _) _;have k19:=Blk.new Wt 71 #[.int .i64 (a:Int),.slice (some ⟨gb,go,none⟩) 2 v.cap];have k4:=(H7.out.2.1.upd u4 s13p).upd (upF b19) id;have FK4:=(((H7.out.2.2.2.upd u4).other (lv':=lv3) (fun e=>by have:=hl3 _ e;have:=hlt6.lz;omega) (fun e=>by have:=hl3 _ e;have:=hlt6.lr;omega)).below b19);have hlen:L3.length+n≤1000000000000:=by
          have e1:=c3.1.length_eq;have e2:=HI.out.2.1.1.length_eq;rw[List.length_append] at e1 e2;have e3:=dA (fun v=>kI i (K++[((x0,x1,x2),xn)]) n v.pr ((x0,x1,x2),xn)) n (fun v=>sL _ _ _ _ _) ((eQ PV PV.length).take t);have e4:=dA (fun i=>(eQ PV PV.length).flatMap (fun v=>kI i (K++[((x0,x1,x2),xn)]) n v.pr ((x0,x1,x2),xn))) ((eQ PV PV.length).length*n) (fun i=>dA _ n (fun v=>sL _ _ _ _ _) _) (List.range i);rw[List.length_range,HTL.out] at e4;have e5:((eQ PV PV.length).take t).length*n≤8192*32:=Nat.mul_le_mul (by rw[List.length_take,HTL.out];omega) hn32;have e6:i*(tl*n)≤2*(8192*32):=Nat.mul_le_mul hi (Nat.mul_le_mul htl8 hn32);have:=HL1.out;omega
         have hcall:=FX i (Wt.alloc (.cells #[.int .i64 (a:Int),.slice (some ⟨gb,go,none⟩) 2 v.cap] 71)) p z r n (.slice At (eQ PV PV.length).length ct) lv3 L3 (K++[((x0,x1,x2),xn)]) (q3.below b19) n3 hlen c3.2 FK4 a b' c' la lb gb go v.cap (hrb.below3 b19) ⟨fun e=>by have:=HR.out;omega,fun e=>by have:=hl3 _ e;have:=HR.out;have:=hlt6.lr;omega⟩ x0 x1 x2 xn ⟨ha,hb',hc',by omega,by omega,by omega,by omega⟩;have HT:=aI7 c3 (u3.trans (upF b19) (fun _ h=>h.elim)) o3 hv hpr k19 k4;have HA:=hIz et;clear q3 c3 u3 o3 n3 u4 tt4 hcell hup6 hbw hrb hrb0 hcl hgb hl3 hlt6 s13p b19 k19 k4 FK4 hlen hvm hv2 hpr hv hqt ha hb' hc' hA;subst et;have eg:=AT i;go_upto_region 19 with (fail);clear y0 y1;generalize Wt.alloc (.cells #[.int .i64 (a:Int),.slice (some ⟨gb,go,none⟩) 2 v.cap] 71)=V9 at HT hcall ⊢;have y0:V9.cell? ⟨Wt.heap.size,0,none⟩=some (.int .i64 (a:Int)):=HT.out.2.2.2.2.2.1.cell 0;have y1:V9.cell? ⟨Wt.heap.size,1,none⟩=some (.slice (some ⟨gb,go,none⟩) 2 v.cap):=HT.out.2.2.2.2.2.1.cell 1;have w0:V9.cell? ⟨s13,0,none⟩=some (.int .i64 (x0:Int)):=HT.out.2.2.2.2.2.2.cell 0;have w1:V9.cell? ⟨s13,1,none⟩=some (.int .i64 (x1:Int)):=HT.out.2.2.2.2.2.2.cell 1;have w2:V9.cell? ⟨s13,2,none⟩=some (.int .i64 (x2:Int)):=HT.out.2.2.2.2.2.2.cell 2;have w3:V9.cell? ⟨s13,3,none⟩=some (.int .i64 (xn:Int)):=HT.out.2.2.2.2.2.2.cell 3;go_wp2_with fail;refine hcall.mono ?_;clear hcall eg y0 y1 w0 w1 w2 w3;rintro e V8 ⟨rfl,ht⟩;have FIN:=hIz (show QuT Wi p (.pointer (some ⟨z,0,none⟩)) (.slice (some ⟨tg,0,none⟩) (eQ PV PV.length).length ct) lv2 (kH (((eQ PV PV.length).take (t+1)).flatMap (fun v=>kI i (K++[((x0,x1,x2),xn)]) n v.pr ((x0,x1,x2),xn))) L2) V8 from by
          rw[List.take_add_one,HT.out.2.2.2.1,Option.toList_some,List.flatMap_append,List.flatMap_singleton,HT.out.2.2.2.2.1];exact .trans HT.out.2.1 HT.out.2.2.1 (ht.imp (fun _ h=>HT.out.1.trans h)))
         clear ht;go_wp2;go_roundw
         case rel=>exact⟨t+1,by omega,by simp,FIN⟩
         case measure=>simp[intOf];omega
        ·obtain rfl:t=tl:=by omega
         have FIN:=hIz (show QuT V7 p (.pointer (some ⟨z,0,none⟩)) (.slice At (eQ PV PV.length).length ct) lv1 (kH ((List.range (i+1)).flatMap (fun i=>(eQ PV PV.length).flatMap (fun v=>kI i (K++[((x0,x1,x2),xn)]) n v.pr ((x0,x1,x2),xn)))) L1) Wt from by
          rw[fR];have hh:=hqt.out;rw[List.take_of_length_le (Nat.le_of_eq HTL.out)] at hh;exact .trans HI.out.2.2.1 HI.out.2.2.2.1 (hh.imp (fun _ h=>HI.out.2.1.trans h)))
         have hn0:¬((t:Int)<(t:Int)):=by omega
         clear hqt;go_wp2;go_roundw
         case rel=>exact⟨i+1,by omega,by simp,FIN⟩
         case measure=>simp[intOf];omega
      ·obtain rfl:i=2:=by omega
       have FIN:Hid (∃g1,NwL W6 Wi p z r pcl n nts (PV.map (·.pr)) (ElG G labels) (eQ PV PV.length) g1∧g1+1≤iE (nts.toNat*n*n) (2*((eQ PV PV.length).length*n)+1) K L):=hIz (by
        obtain⟨lv3,L3,S8,hC⟩:=H7.out.1.queue HN.out.1 hq.out;rw[← FV] at hC;have hF8:=HW.out.2.1.new (sM HS.out) HP.out.1 (fun y hy=>(HP.out.2.1 y hy).len) HK.out hC.1;have hfew:=pE hF8.nd (fun y hy=>(hF8.sk y hy).2.2);rw[List.length_append,List.length_singleton] at hfew;have hnl:(MW (K++[((x0,x1,x2),xn)]) n (PV.map (·.pr)) ((x0,x1,x2),xn)).length≤2*((eQ PV PV.length).length*n):=by
         rw[FV];have h1:=dA (fun i=>(eQ PV PV.length).flatMap (fun v=>kI i (K++[((x0,x1,x2),xn)]) n v.pr ((x0,x1,x2),xn))) ((eQ PV PV.length).length*n) (fun i=>dA _ n (fun v=>sL _ _ _ _ _) _) (List.range 2);rwa [List.length_range] at h1
        have hms:=LO (F:=nts.toNat*n*n) (C:=2*((eQ PV PV.length).length*n)+1) HP.out.1 hC.1 hfew (by omega);have:=HW.out.2.2.1;have:=HW.out.2.2.2;exact⟨_,⟨_,L3,lv3,_,_,xn,S8,hF8,hC.2,Nat.le_refl _,by omega⟩,hms⟩)
       have hmk:=HW.out.2.2.1;obtain⟨g1,hg1,hms⟩:=FIN.out;have HG:=hIz hg1;generalize iE (nts.toNat*n*n) (2*((eQ PV PV.length).length*n)+1) K L=g0 at hms hmk;clear hq hg1;go_wp2;go_roundg g1
       case rel=>exact HG
       case measure=>omega
   ·have hnil:L=[]:=List.eq_nil_of_length_eq_zero (by omega);obtain rfl:l=0:=by omega
    subst hnil;obtain⟨Ar,cr,er,-,-⟩:=aK S.rr;subst er;have hkl:K.length≤140737488355328:=by
     have h1:=pE hF.nd (fun y hy=>(hF.sk y hy).2.2);have h2:nts.toNat*n*n≤512*32*32:=Nat.mul_le_mul (Nat.mul_le_mul (by omega) hn32) hn32;omega
    have hnd:K.Nodup:=mN hF.nd;have hsort:=LN wr 0 Ar cr K S.rr hnd hkl;have hdone:=hF.done (sM HS.out);obtain⟨kl,hkl2⟩:∃kl,K.length=kl:=⟨_,rfl⟩;have q0:wr.cell? ⟨p,0,none⟩=some (.pointer (some ⟨z,0,none⟩)):=S.q.1.cell 0;have z4:wr.cell? ⟨z,4,none⟩=some (.slice Ar kl cr):=by rw[← hkl2];exact S.zb.cell 4
    have HQ:=aI3 S hdone hkl2;rw[hkl2] at hsort;clear S hF hpm hle hk9 hrel hL9 hl hl0 e hkl hnd hdone hkl2;go_wp2_with fail;refine hlen.mono ?_;clear hlen;rintro e VL ⟨rfl,hw⟩;subst VL;clear c2;go_wp2_with fail;refine hsort.mono ?_;clear hsort z4;rintro e V ⟨rfl,M,hMp,hMs,hMo,hMu⟩;have hup6:Upd (fun q=>q=p∨q=z∨q=r) W6 V:=HQ.out.1.up.trans hMu (fun q hq=>.inr (HQ.out.1.rw0 q (by rw[HQ.out.2.2];exact hq)).1);have hpV:=HQ.out.1.q.1.upd hMu (fun e=>by have:=(HQ.out.1.rw0 p (by rw[HQ.out.2.2];exact e)).1;have:=HN.out.1.lp;omega);have q0:V.cell? ⟨p,0,none⟩=some (.pointer (some ⟨z,0,none⟩)):=hpV.cell 0;have FIN:=hIz (show PZ w nts PV labels G (.returned (.tuple #[.pointer (some ⟨z,0,none⟩),.int .i64 0])) V from by
     have hml:M.length=kl:=by rw[hMp.length_eq];exact HQ.out.2.2
     refine .inr ⟨HX.out.1,z,_,B,M,rfl,⟨r,pcl,Fc,.slice Ar kl cr,K,?_,HQ.out.1.mp.upd hMu (fun e=>by have:=(HQ.out.1.rw0 r (by rw[HQ.out.2.2];exact e)).1;have:=HN.out.1.lr;omega),HQ.out.2.1.nd,fun x=>hMp.mem_iff.symm,by rw[hml];exact hMo,?_,rfl⟩,?_,?_,HX.out.2.2.2.1,HX.out.2.2.2.2.1,⟨(hMp.map _).nodup_iff.2 HQ.out.2.1.nd,fun x=>by rw[hMp.mem_iff,HM.out.2.2];exact HQ.out.2.1.iff x⟩,hMs⟩
     ·rw[Int.toNat_of_nonneg (by omega),HM.out.2.2];have:=HQ.out.1.zb.upd hMu (fun e=>by have:=(HQ.out.1.rw0 z (by rw[HQ.out.2.2];exact e)).1;have:=HN.out.1.lz;omega);rw[HQ.out.2.2] at this;exact this
     ·exact HN.out.2.2.2.upd hup6 (fun k hk e=>by have:=(hFc.out k hk).2;have:=HR.out;omega)
     ·intro k hk;have:=HR.out;rcases hk with e|e|e|e
      ·omega
      ·omega
      ·have:=(HQ.out.1.rw0 k (by rw[HQ.out.2.2];exact e)).1;have:=HB6.out.size;omega
      ·exact(hFc.out k e).1
     ·exact HB6.out.trans (hup6.below (B:=w.heap.size) (fun i _ e=>by have:=HR.out;omega) HB6.out.size))
    clear hMp hMs hMo hMu hup6 hpV;go_wp2;refine bodyPost_ret (v:=.tuple #[.pointer (some ⟨z,0,none⟩),.int .i64 0]) (by simp[results,Tryz.f28,go_sem]) rfl FIN.out
open Go.RowKit Go.Shelf
def inR(n nts:Nat)(k i j:Int):Prop:=0≤k∧k<(nts:Int)∧0≤i∧i<(n:Int)∧0≤j∧j<(n:Int)
instance (n nts:Nat) (k i j:Int):Decidable (inR n nts k i j):=by unfold inR;exact inferInstance
def yZ(n nts:Nat)(B:eG)(k i j:Int):Int:=if inR n nts k i j then (if dX (B k.toNat) i.toNat j.toNat=true then 0 else 350) else 4
theorem AU(w:World)(z r:Nat)(h:w.cell? ⟨z,3,none⟩=some (.map (some r))):Calls Tryz.prog 34 #[.pointer (some ⟨z,0,none⟩)] w (gB w (.bool true)):=by
 have hq:∀W,(binOp .neq 92 (.map (some r)) (.map none)).run Tryz.prog W=.ok (.bool true) W:=fun W=>by
  have:=run_neq_map_nil (P:=Tryz.prog) W 92 30 3 (some r) Tryz.underlying92;simpa using this
 go_enter Tryz.func34,Tryz.ntmps34;go_wp2;go_ret;exact⟨rfl,rfl⟩
theorem AV(w:World):Calls Tryz.prog 34 #[.pointer none] w (gB w (.bool false)):=by
 go_enter Tryz.func34,Tryz.ntmps34;go_wp2;go_ret;exact⟨rfl,rfl⟩
theorem LQ(w:World)(F:Nat→Prop)(z n nts:Nat)(B:eG)(K:List Ln)(h:FLS w F z n nts B K)(hn1:1≤nts)(hn:n≤32)(k i j:Int) :
  Calls Tryz.prog 47 #[.pointer (some ⟨z,0,none⟩),.agg #[.int .i64 k,.int .i64 i,.int .i64 j]] w (Sam w (.int .i64 (yZ n nts B k i j))):=by
 have b1:Below w.heap.size w (w.alloc (.cells #[.int .i64 k,.int .i64 i,.int .i64 j] 30)):=bR.alloc (Nat.le_refl _) _;have k1:=Blk.new w 30 #[.int .i64 k,.int .i64 i,.int .i64 j];obtain⟨r,pc,Fc,rv,K0,h1,h2,h3,h4,h5,h6,-⟩:=h.below b1;have hth:=AU _ z r (h1.cell 3);have hv:∃b e,BJ n nts B k i j=.tuple #[.bool b,.int .i64 e]∧(e=0∧yZ n nts B k i j=(if b=true then 0 else 350)∨e=4∧b=false∧yZ n nts B k i j=4):=by
  by_cases hr:inR n nts k i j
  ·have hr':=hr;unfold inR at hr';unfold BJ yZ;rw[if_pos hr',if_pos hr];exact⟨_,_,rfl,.inl ⟨rfl,rfl⟩⟩
  ·have hr':=hr;unfold inR at hr';unfold BJ yZ;rw[if_neg hr',if_neg hr];exact⟨_,_,rfl,.inr ⟨rfl,rfl,rfl⟩⟩
 obtain⟨b,e,hb,hc⟩:=hv;have hhas:=fun V (hV:Below (w.alloc (.cells #[.int .i64 k,.int .i64 i,.int .i64 j] 30)).heap.size (w.alloc (.cells #[.int .i64 k,.int .i64 i,.int .i64 j] 30)) V)=>LM V Fc pc (max 1 n) n nts B (h6.below hV) hn1 (Nat.le_max_right _ _) (by omega) k i j
 rw[hb] at hhas;have SR:=hIz (show ∀V,Below (w.alloc (.cells #[.int .i64 k,.int .i64 i,.int .i64 j] 30)).heap.size (w.alloc (.cells #[.int .i64 k,.int .i64 i,.int .i64 j] 30)) V→V.cell? ⟨z,2,none⟩=some (.pointer (some ⟨pc,0,none⟩))∧V.cell? ⟨w.heap.size,0,none⟩=some (.int .i64 k)∧V.cell? ⟨w.heap.size,1,none⟩=some (.int .i64 i)∧V.cell? ⟨w.heap.size,2,none⟩=some (.int .i64 j) from fun V hV=>by
  have u:=Upd.of_below hV (fun _=>False);exact⟨(h1.upd u id).cell 2,(k1.upd u id).cell 0,(k1.upd u id).cell 1,(k1.upd u id).cell 2⟩)
 have HH:=hIz hhas;have HB:=aI2 b1 hc;clear b1 k1 h h1 h2 h3 h4 h5 h6 hhas hb hc;go_enter Tryz.func47,Tryz.ntmps47;go_wp2_with fail;refine hth.mono ?_;clear hth;rintro e1 V ⟨rfl,hw⟩;subst V;go_upto_region 3 with (fail);generalize w.alloc (.cells #[.int .i64 k,.int .i64 i,.int .i64 j] 30)=W1 at SR HH HB ⊢;have B0:=hIz (show Below W1.heap.size W1 W1.drew from bR.drew);have hS:=SR.out _ B0.out;refine aF (fun V=>V.cell? ⟨z,2,none⟩=some (.pointer (some ⟨pc,0,none⟩))∧V.cell? ⟨w.heap.size,0,none⟩=some (.int .i64 k)∧V.cell? ⟨w.heap.size,1,none⟩=some (.int .i64 i)∧V.cell? ⟨w.heap.size,2,none⟩=some (.int .i64 j)) 11 [(0,true),(1,true),(2,true),(3,true),(4,true),(5,false),(6,true),(7,true),(8,true),(9,true),(10,true)] hS ?_;generalize W1.drew=V0 at B0 hS ⊢
 iterate 5 refine aC rfl ?_
 refine aM rfl rfl (fun K hK=>?_);have hcon:=HH.out V0 B0.out;go_simp;refine hcon.mono ?_;clear hcon;rintro e1 V ⟨rfl,hV⟩;have B1:=hIz (tHn B0.out hV);clear hV;refine hK _ _ (fun _=>SR.out _ B1.out) ?_;clear hK K hS;have hS:=SR.out _ B1.out;(try simp only[Act.put,gA,gS,gZ,sA,sZ,sS])
 iterate 5 refine aC rfl ?_
 refine aG ?_;clear hS;have HBB:=hIz (tHn HB.out.1 B1.out);rcases HB.out.2 with ⟨rfl,ha⟩|⟨rfl,rfl,ha⟩
 ·cases b with
  | true =>
   have HA:=hIz ha;clear ha;go_wp2;refine bodyPost_ret (v:=.int .i64 0) (by simp[results,Tryz.f47,go_sem]) rfl ⟨by rw[HA.out];rfl,HBB.out⟩
  | false =>
   have HA:=hIz ha;clear ha;go_wp2;refine bodyPost_ret (v:=.int .i64 350) (by simp[results,Tryz.f47,go_sem]) rfl ⟨by rw[HA.out];rfl,HBB.out⟩
 ·have HA:=hIz ha;clear ha;go_wp2;refine bodyPost_ret (v:=.int .i64 4) (by simp[results,Tryz.f47,go_sem]) rfl ⟨by rw[HA.out],HBB.out⟩
def LR(n nts:Nat)(B:eG)(K:List Ln)(k i j:Int):Value:=
 if yZ n nts B k i j=0 then (match look K (k.toNat,i.toNat,j.toNat) with | some m=>.tuple #[.int .i64 (m:Int),.int .i64 0] | none=>.tuple #[.int .i64 0,.int .i64 351]) else .tuple #[.int .i64 0,.int .i64 (yZ n nts B k i j)]
theorem QA(w:World)(F:Nat→Prop)(z n nts:Nat)(B:eG)(K:List Ln)(h:FLS w F z n nts B K)(hn1:1≤nts)(hn:n≤32)(h5:nts≤512)(hd:(K.map (·.1)).Nodup)(k i j:Int) :
  Calls Tryz.prog 23 #[.pointer (some ⟨z,0,none⟩),.agg #[.int .i64 k,.int .i64 i,.int .i64 j]] w (Sam w (LR n nts B K k i j)):=by
 have b1:Below w.heap.size w (w.alloc (.cells #[.int .i64 k,.int .i64 i,.int .i64 j] 30)):=bR.alloc (Nat.le_refl _) _;have k1:=Blk.new w 30 #[.int .i64 k,.int .i64 i,.int .i64 j];have hask:=LQ _ F z n nts B K (h.below b1) hn1 hn k i j;have H:=aI4 b1 k1 (h.below b1) hd;have c0:(w.alloc (.cells #[.int .i64 k,.int .i64 i,.int .i64 j] 30)).cell? ⟨w.heap.size,0,none⟩=some (.int .i64 k):=k1.cell 0;have c1:(w.alloc (.cells #[.int .i64 k,.int .i64 i,.int .i64 j] 30)).cell? ⟨w.heap.size,1,none⟩=some (.int .i64 i):=k1.cell 1;have c2:(w.alloc (.cells #[.int .i64 k,.int .i64 i,.int .i64 j] 30)).cell? ⟨w.heap.size,2,none⟩=some (.int .i64 j):=k1.cell 2;obtain⟨a,ha⟩:∃a,yZ n nts B k i j=a:=⟨_,rfl⟩;have HA:=hIz ha;rw[ha] at hask;clear b1 k1 h hd ha;go_enter Tryz.func23,Tryz.ntmps23;go_wp2_with fail;refine hask.mono ?_;clear hask c0 c1 c2;rintro e V ⟨rfl,hV⟩;by_cases h0:a=0
 ·subst h0;have hr:inR n nts k i j:=by
   have:=HA.out;unfold yZ at this;by_cases hr:inR n nts k i j
   ·exact hr
   ·rw[if_neg hr] at this;cases this
  obtain⟨x0,rfl⟩:∃x:Nat,k=(x:Int):=⟨k.toNat,(Int.toNat_of_nonneg hr.1).symm⟩;obtain⟨x1,rfl⟩:∃x:Nat,i=(x:Int):=⟨i.toNat,(Int.toNat_of_nonneg hr.2.2.1).symm⟩;obtain⟨x2,rfl⟩:∃x:Nat,j=(x:Int):=⟨j.toNat,(Int.toNat_of_nonneg hr.2.2.2.2.1).symm⟩;have hx:x0≤1000000∧x1≤1000000∧x2≤1000000:=by unfold inR at hr;omega
  obtain⟨r,pc,Fc,rv,K0,h1,h2,h3,h4,-,-,-⟩:=H.out.2.2.1.below hV;have z3:V.cell? ⟨z,3,none⟩=some (.map (some r)):=h1.cell 3;have k2:=H.out.2.1.upd (upF hV) id;have c0:V.cell? ⟨w.heap.size,0,none⟩=some (.int .i64 (x0:Int)):=k2.cell 0;have c1:V.cell? ⟨w.heap.size,1,none⟩=some (.int .i64 (x1:Int)):=k2.cell 1;have c2:V.cell? ⟨w.heap.size,2,none⟩=some (.int .i64 (x2:Int)):=k2.cell 2;have hlk:∀n,(Instr.lookup 92 (.map (some r)) (.agg #[.int .i64 (x0:Int),.int .i64 (x1:Int),.int .i64 (x2:Int)]) true).run Tryz.prog (V.drewN n)=.ok (.tuple #[.int .i64 (((look K (x0,x1,x2)).getD 0:Nat):Int),.bool (look K (x0,x1,x2)).isSome]) (V.drewN n):=fun n=>by
   have:=jO (f:=(x0,x1,x2)) (h2.drewN n) ⟨hx.1,hx.2.1,hx.2.2⟩;rw[FW h3 h4] at this;exact this
  have HB:=hIz (show ∀n,Below w.heap.size w (V.drewN n) from fun n=>(tHn H.out.1 hV).trans ((show Below V.heap.size V (V.drewN n) from⟨rfl,rfl,rfl,Nat.le_refl _,fun _ _=>rfl⟩).mono (Nat.le_trans H.out.1.size hV.size)));have HV:=hIz (show LR n nts B K (x0:Int) (x1:Int) (x2:Int)=match look K (x0,x1,x2) with | some m=>.tuple #[.int .i64 (m:Int),.int .i64 0] | none=>.tuple #[.int .i64 0,.int .i64 351] from by
   unfold LR;rw[if_pos HA.out];rfl)
  clear h1 h2 h3 h4 k2 hr hx hV;cases hk:look K (x0,x1,x2) with
  | some m =>
   have HV2:=hIz (HV.out.trans (by rw[hk]));rw[hk] at hlk;clear hk;go_upto_region 4 with (fail);go_quiet (fail)
   go_wp2;refine bodyPost_ret (v:=.tuple #[.int .i64 (m:Int),.int .i64 0]) (by simp[results,Tryz.f23,go_sem]) rfl ⟨by rw[HV2.out],HB.out _⟩
  | none =>
   have HV2:=hIz (HV.out.trans (by rw[hk]));rw[hk] at hlk;clear hk;go_upto_region 4 with (fail);go_quiet (fail)
   go_wp2;refine bodyPost_ret (v:=.tuple #[.int .i64 0,.int .i64 351]) (by simp[results,Tryz.f23,go_sem]) rfl ⟨by rw[HV2.out],HB.out _⟩
 ·have HV:=hIz (show LR n nts B K k i j=.tuple #[.int .i64 0,.int .i64 a] from by
   unfold LR;rw[if_neg (by rw[HA.out];exact h0),HA.out])
  have HB:=hIz (tHn H.out.1 hV);have hab:(a==0)=false:=by simpa using h0
  have hab2:(a != 0)=true:=by simpa using h0
  clear hV;go_wp2;refine bodyPost_ret (v:=.tuple #[.int .i64 0,.int .i64 a]) (by simp[results,Tryz.f23,go_sem]) rfl ⟨by rw[HV.out],HB.out⟩
open Go.RowKit Go.Shelf
def knV(n nts:Nat)(B:eG)(K:List Ln)(k i j:Int):Int:=
 if yZ n nts B k i j=0 then (match look K (k.toNat,i.toNat,j.toNat) with | some m=>(m:Int) | none=>65) else -1
theorem qP(w:World)(F:Nat→Prop)(z n nts:Nat)(B:eG)(K:List Ln)(h:FLS w F z n nts B K)(hn1:1≤nts)(hn:n≤32)(h5:nts≤512)(hd:(K.map (·.1)).Nodup)(hs:∀y∈K,y.2≤64)(k i j:Int) :
  Calls Tryz.prog 19 #[.pointer (some ⟨z,0,none⟩),.int .i64 k,.int .i64 i,.int .i64 j] w (Sam w (.int .i64 (knV n nts B K k i j))):=by
 have hof:=QA w F z n nts B K h hn1 hn h5 hd k i j;have hv:(∃m,m≤64∧LR n nts B K k i j=.tuple #[.int .i64 ((m:Nat):Int),.int .i64 0]∧knV n nts B K k i j=((m:Nat):Int))∨(LR n nts B K k i j=.tuple #[.int .i64 0,.int .i64 351]∧knV n nts B K k i j=65)∨∃a,(a=350∨a=4)∧LR n nts B K k i j=.tuple #[.int .i64 0,.int .i64 a]∧knV n nts B K k i j = -1:=by
  unfold LR knV;by_cases h0:yZ n nts B k i j=0
  ·rw[if_pos h0,if_pos h0];cases e:look K (k.toNat,i.toNat,j.toNat) with
   | some m=>exact .inl ⟨m,hs _ (dO e),rfl,rfl⟩
   | none=>exact .inr (.inl ⟨rfl,rfl⟩)
  ·rw[if_neg h0,if_neg h0];refine .inr (.inr ⟨_,?_,rfl,rfl⟩);unfold yZ at h0 ⊢;split
   ·rename_i hr
    rw[if_pos hr] at h0;split
    ·rename_i hb;rw[if_pos hb] at h0;exact absurd rfl h0
    ·exact .inl rfl
   ·exact .inr rfl
 clear h hs hd;go_enter Tryz.func19,Tryz.ntmps19;rcases hv with ⟨m,hm,e1,e2⟩|⟨e1,e2⟩|⟨a,ha,e1,e2⟩
 ·have HE:=hIz e2;rw[e1] at hof;clear e1 e2;go_wp2_with fail;refine hof.mono ?_;clear hof;rintro e V ⟨rfl,hV⟩;have HB:=hIz hV;clear hV;go_wp2;refine bodyPost_ret (v:=.int .i64 ((m:Nat):Int)) (by simp[results,Tryz.f19,go_sem]) rfl ⟨by rw[HE.out],HB.out⟩
 ·have HE:=hIz e2;rw[e1] at hof;clear e1 e2;go_wp2_with fail;refine hof.mono ?_;clear hof;rintro e V ⟨rfl,hV⟩;have HB:=hIz hV;clear hV;go_wp2;refine bodyPost_ret (v:=.int .i64 65) (by simp[results,Tryz.f19,go_sem]) rfl ⟨by rw[HE.out],HB.out⟩
 ·have HE:=hIz e2;rw[e1] at hof;clear e1 e2;rcases ha with rfl|rfl
  ·go_wp2_with fail;refine hof.mono ?_;clear hof;rintro e V ⟨rfl,hV⟩;have HB:=hIz hV;clear hV;go_wp2;refine bodyPost_ret (v:=.int .i64 (-1)) (by simp[results,Tryz.f19,go_sem]) rfl ⟨by rw[HE.out],HB.out⟩
  ·go_wp2_with fail;refine hof.mono ?_;clear hof;rintro e V ⟨rfl,hV⟩;have HB:=hIz hV;clear hV;go_wp2;refine bodyPost_ret (v:=.int .i64 (-1)) (by simp[results,Tryz.f19,go_sem]) rfl ⟨by rw[HE.out],HB.out⟩
theorem GA(w:World):Calls Tryz.prog 13 #[.pointer none] w (gB w (.int .i64 0)):=by
 have hcon:=AV w;go_enter Tryz.func13,Tryz.ntmps13;go_wp2_with fail;refine hcon.mono ?_;clear hcon;rintro e V ⟨rfl,hw⟩;subst V;go_wp2;go_ret;exact⟨rfl,rfl⟩
theorem QB(w:World):Calls Tryz.prog 50 #[.pointer none] w (gB w (.bool false)):=by
 go_enter Tryz.func50,Tryz.ntmps50;go_wp2;go_ret;exact⟨rfl,rfl⟩
theorem LS(w:World):Calls Tryz.prog 39 #[.pointer none] w (gB w (.tuple #[.int .i64 0,.int .i64 0])):=by
 have hcon:=QB w;go_enter Tryz.func39,Tryz.ntmps39;go_wp2_with fail;refine hcon.mono ?_;clear hcon;rintro e V ⟨rfl,hw⟩;subst V;go_wp2;refine bodyPost_ret (v:=.tuple #[.int .i64 0,.int .i64 0]) (by simp[results,Tryz.f39,go_sem]) rfl ⟨rfl,rfl⟩
theorem LT(w:World)(a b:Value)(lv:Value):Calls Tryz.prog 18 #[.agg #[a,b],lv,.pointer none] w (Sam w (.tuple #[.pointer none,.int .i64 1])):=by
 have b1:Below w.heap.size w (w.alloc (.cells #[a,b] 24)):=bR.alloc (Nat.le_refl _) _;have hcon:=LS (w.alloc (.cells #[a,b] 24));have H:=hIz b1;clear b1;go_enter Tryz.func18,Tryz.ntmps18;go_wp2_with fail;refine hcon.mono ?_;clear hcon;rintro e V ⟨rfl,hw⟩;subst V;go_wp2;refine bodyPost_ret (v:=.tuple #[.pointer none,.int .i64 1]) (by simp[results,Tryz.f18,go_sem]) rfl ⟨rfl,H.out⟩
theorem zA(w:World)(a b:Value)(lv:Value):Calls Tryz.prog 28 #[.agg #[a,b],lv,.pointer none] w (Sam w (.tuple #[.pointer none,.int .i64 1])):=by
 have b1:Below w.heap.size w (w.alloc (.cells #[a,b] 24)):=bR.alloc (Nat.le_refl _) _;have k1:=Blk.new w 24 #[a,b];have q0:(w.alloc (.cells #[a,b] 24)).cell? ⟨w.heap.size,0,none⟩=some a:=k1.cell 0;have q1:(w.alloc (.cells #[a,b] 24)).cell? ⟨w.heap.size,1,none⟩=some b:=k1.cell 1;have hcon:=LT (w.alloc (.cells #[a,b] 24)) a b lv;have H:=hIz b1;clear b1 k1;go_enter Tryz.func28,Tryz.ntmps28;go_wp2_with fail;refine hcon.mono ?_;clear hcon;rintro e V ⟨rfl,hb⟩;have FIN:=hIz (tHn H.out hb);clear hb q0 q1;go_wp2;refine bodyPost_ret (v:=.tuple #[.pointer none,.int .i64 1]) (by simp[results,Tryz.f28,go_sem]) rfl ⟨rfl,FIN.out⟩
theorem GB(w:World):Calls Tryz.prog 29 #[] w (Sam w (.bool true)):=by
 have hnew:=zA w (.int .i64 1) (.slice none 0 0) (.slice none 0 0);have hmost:=fun V=>GA V
 go_enter Tryz.func29,Tryz.ntmps29;go_wp2_with fail;refine hnew.mono ?_;clear hnew;rintro e V ⟨rfl,hV⟩;have HB:=hIz hV;clear hV;go_wp2_with fail;refine(hmost V).mono ?_;rintro e V2 ⟨rfl,hw⟩;subst V2;go_wp2;refine bodyPost_ret (v:=.bool true) (by simp[results,Tryz.f29,go_sem]) rfl ⟨rfl,HB.out⟩
open Go.RowKit Go.Shelf
def pP:List Sy→Bool
 | []=>true
 | [s]=>s.lab
 | [s,t]=>!s.lab&&!t.lab
 | _=>false
theorem aX.lab{w:World}{gb go:Nat}{body:List Sy}(hr:aX w (some ⟨gb,go,none⟩) (dU body)){k:Nat}{s:Sy}(hk:body[k]?=some s):w.cell? ⟨gb,go+k*2,none⟩=some (.bool s.lab)∧w.cell? ⟨gb,go+k*2+1,none⟩=some (.int .i64 s.at_):=by
 have g:=fun j hj=>cO Sy.cells 2 (fun _=>rfl) body k j s hk hj
 obtain⟨b',o',e,c1⟩:=hr (k*2+0) _ (g 0 (by decide));injection e with e;injection e with e1 e2;subst e1;subst e2;obtain⟨b',o',e,c3⟩:=hr (k*2+1) _ (g 1 (by decide));injection e with e;injection e with e1 e2;subst e1;subst e2;exact⟨c1,c3⟩
theorem aX.adr{w:World}{A:Option Addr}{body:List Sy}(hr:aX w A (dU body))(h:0<body.length):∃gb go,A=some ⟨gb,go,none⟩:=by
 obtain⟨s,l,rfl⟩:∃s l,body=s::l:=by
  cases body with
  | nil=>cases h
  | cons s l=>exact⟨s,l,rfl⟩
 obtain⟨b,o,e,-⟩:=hr 0 (.bool s.lab) rfl;exact⟨b,o,e⟩
theorem LU(w:World)(body:List Sy)(A:Option Addr)(c:Nat)(hr:aX w A (dU body)):Calls Tryz.prog 99 #[.slice A body.length c] w (gB w (.bool (pP body))):=by
 have hcase:body=[]∨(∃s,body=[s])∨(∃s t,body=[s,t])∨3≤body.length:=by
  match body with
  | []=>exact .inl rfl
  | [s]=>exact .inr (.inl ⟨s,rfl⟩)
  | [s,t]=>exact .inr (.inr (.inl ⟨s,t,rfl⟩))
  | _::_::_::_=>exact .inr (.inr (.inr (by simp)))
 rcases hcase with rfl|⟨s,rfl⟩|⟨s,t,rfl⟩|h3
 ·show Calls _ _ #[.slice A 0 c] w (gB w (.bool true))
  go_enter Tryz.func99,Tryz.ntmps99;go_wp2;go_ret;exact⟨rfl,rfl⟩
 ·obtain⟨gb,go,rfl⟩:=hr.adr (by simp);have d0:w.cell? ⟨gb,go,none⟩=some (.bool s.lab):=(hr.lab (k:=0) rfl).1;obtain⟨sl,sx⟩:=s;dsimp only at d0
  show Calls _ _ #[.slice (some ⟨gb,go,none⟩) 1 c] w (gB w (.bool sl))
  cases sl <;>
  ·go_enter Tryz.func99,Tryz.ntmps99;go_wp2;go_ret;exact⟨rfl,rfl⟩
 ·obtain⟨gb,go,rfl⟩:=hr.adr (by simp);have d0:w.cell? ⟨gb,go,none⟩=some (.bool s.lab):=(hr.lab (k:=0) rfl).1;have d2:w.cell? ⟨gb,go+2,none⟩=some (.bool t.lab):=(hr.lab (k:=1) rfl).1;obtain⟨sl,sx⟩:=s;obtain⟨tl,tx⟩:=t;dsimp only at d0 d2
  show Calls _ _ #[.slice (some ⟨gb,go,none⟩) 2 c] w (gB w (.bool (!sl&&!tl)))
  cases sl <;> cases tl <;>
  ·go_enter Tryz.func99,Tryz.ntmps99;go_wp2;go_ret;exact⟨rfl,rfl⟩
 ·have hw:pP body=false:=by
   match body,h3 with
   | _::_::_::_,_=>rfl
   | [],h=>simp at h
   | [_],h=>simp at h
   | [_,_],h=>simp at h
  rw[hw];obtain⟨l,hl⟩:∃l,body.length=l:=⟨_,rfl⟩;rw[hl] at h3 ⊢;have e0:((l:Int)==0)=false:=by simp only[beq_eq_false_iff_ne,ne_eq];omega
  have e1:((l:Int)==1)=false:=by simp only[beq_eq_false_iff_ne,ne_eq];omega
  have e2:((l:Int)==2)=false:=by simp only[beq_eq_false_iff_ne,ne_eq];omega
  clear hl hw hr;go_enter Tryz.func99,Tryz.ntmps99;go_wp2;go_ret;exact⟨rfl,rfl⟩
def wX(nts:Int)(s:Sy):Bool:=decide (0≤s.at_)&&(if s.lab=true then decide (s.at_<16) else decide (s.at_<nts))
def prB(nts:Int)(p:Pr):Bool:=decide (0≤p.head)&&decide (p.head<nts)&&p.body.all (wX nts)
def pQ(nts:Int)(PV:List Pv):Int:=if 1≤nts∧nts≤1024∧∀v∈PV,prB nts v.pr=true then 0 else 220
theorem GC(w:World)(nts:Int)(PA:Option Addr)(pc:Nat)(PV:List Pv)(hP:PvR w PA PV)(hm8:PV.length≤100000)(hb8:∀v∈PV,v.pr.body.length≤1000000000000000):Calls Tryz.prog 98 #[.agg #[.int .i64 nts,.slice PA PV.length pc]] w (Sam w (.int .i64 (pQ nts PV))):=by
 have b1:Below w.heap.size w (w.alloc (.cells #[.int .i64 nts,.slice PA PV.length pc] 24)):=bR.alloc (Nat.le_refl _) _;have k1:=Blk.new w 24 #[.int .i64 nts,.slice PA PV.length pc];obtain⟨m,hm⟩:∃m,PV.length=m:=⟨_,rfl⟩;have HP:=hIz hP;have HM:=hIz hm;have HB8:=hIz hb8;rw[hm] at b1 k1 hm8 ⊢;have c0:(w.alloc (.cells #[.int .i64 nts,.slice PA m pc] 24)).cell? ⟨w.heap.size,0,none⟩=some (.int .i64 nts):=k1.cell 0;have H:=hIz k1;have HBW:=hIz b1;clear hm hP b1 k1 hb8;obtain⟨z,hz⟩:∃z,pQ nts PV=z:=⟨_,rfl⟩;have HZ:=hIz hz;rw[hz];clear hz;go_enter Tryz.func98,Tryz.ntmps98;go_upto_region 1 with (fail);generalize w.alloc (.cells #[.int .i64 nts,.slice PA m pc] 24)=W1 at H HBW c0 ⊢;have HS0:=hIz (show w.heap.size≤W1.heap.size from HBW.out.size);obtain⟨s0,hs0⟩:∃s,w.heap.size=s:=⟨_,rfl⟩;rw[hs0] at H c0 ⊢;clear hs0;by_cases h1:nts<1
 ·have FIN:=hIz (show(220:Int)=z from by rw[← HZ.out];unfold pQ;rw[if_neg (by omega)]);go_wp2;refine bodyPost_ret (v:=.int .i64 220) (by simp[results,Tryz.f98,go_sem]) rfl ⟨by rw[FIN.out],HBW.out⟩
 ·by_cases h2:1024<nts
  ·have FIN:=hIz (show(220:Int)=z from by rw[← HZ.out];unfold pQ;rw[if_neg (by omega)]);go_wp2;refine bodyPost_ret (v:=.int .i64 220) (by simp[results,Tryz.f98,go_sem]) rfl ⟨by rw[FIN.out],HBW.out⟩
  ·have hr1:1≤nts:=by omega
   have hr2:nts≤1024:=by omega
   clear h1 h2;go_wp2_with fail;clear c0;go_loopw [3] (fun kv wr=>∃k:Nat,k≤m∧kv=.int .i64 (k:Int)∧Hid (Below W1.heap.size W1 wr∧∀v∈PV.take k,prB nts v.pr=true)) (fun kv _=>m-(intOf kv).toNat)
   case atStart=>exact⟨0,Nat.zero_le _,rfl,hIz ⟨Below.refl _ _,fun _ h=>(by simp at h)⟩⟩
   case round =>
    obtain⟨k,hkm,rfl,hq⟩:=hrel;obtain⟨Wk,hWk⟩:∃Wq,Wq=wr:=⟨_,rfl⟩;subst hWk;have hkb:=H.out.upd (Upd.of_below hq.out.1 (fun _=>False)) id;have c1:Wk.cell? ⟨s0,1,none⟩=some (.slice PA m pc):=hkb.cell 1;have c0:Wk.cell? ⟨s0,0,none⟩=some (.int .i64 nts):=hkb.cell 0;by_cases hlt:k<m
    ·have hltI:(k:Int)<(m:Int):=by omega
     have hkw:IntKind.i64.wrap ((k:Int)+1)=(k:Int)+1:=IntWalk.i64_in _ (by omega);obtain⟨pv,hv⟩:∃pv,PV[k]?=some pv:=⟨_,gEz (by rw[HM.out];exact hlt)⟩;have hBk:Below w.heap.size w Wk:=HBW.out.trans (hq.out.1.mono HS0.out);have hPk:=HP.out.below hBk;obtain⟨gb,go,hPA,y0,y1⟩:=hPk.1.pv hv;subst hPA;have hvm:=mG hv;have hrb:=hPk.2 pv hvm;have hb8:=HB8.out pv hvm;obtain⟨⟨hd,bd⟩,A,c⟩:=pv;dsimp only at y0 y1 hrb hb8
     obtain⟨l,hl⟩:∃l,bd.length=l:=⟨_,rfl⟩;rw[hl] at y1 hb8;have HV:=aI5 hv hvm hl hrb hBk;have b9:Below Wk.heap.size Wk (Wk.alloc (.cells #[.int .i64 hd,.slice A l c] 71)):=bR.alloc (Nat.le_refl _) _;have k9:=Blk.new Wk 71 #[.int .i64 hd,.slice A l c];have H9:=aI3 b9 k9 (hkb.upd (upF b9) id);clear hv hvm hl hrb hBk hPk b9 k9 hkb c0;go_upto_region 7 with (fail);clear y0 y1 c1;generalize Wk.alloc (.cells #[.int .i64 hd,.slice A l c] 71)=W9 at H9 ⊢;have HW9:=hIz (show Below W1.heap.size W1 W9 from tHn hq.out.1 H9.out.1);have HB9:=hIz (show Below w.heap.size w W9 from HBW.out.trans (HW9.out.mono HS0.out));obtain⟨s9,hs9⟩:∃s,Wk.heap.size=s:=⟨_,rfl⟩;have HK9:=hIz (show Blk W9 s9 71 #[.int .i64 hd,.slice A l c] from by rw[← hs9];exact H9.out.2.1);rw[hs9];clear hs9;have p0:W9.cell? ⟨s9,0,none⟩=some (.int .i64 hd):=HK9.out.cell 0;have c0:W9.cell? ⟨s0,0,none⟩=some (.int .i64 nts):=H9.out.2.2.cell 0;have bad:prB nts ⟨hd,bd⟩=false→(220:Int)=z:=fun h=>by
      rw[← HZ.out];unfold pQ;rw[if_neg (fun e=>by have:=e.2.2 _ HV.out.2.1;rw[show(⟨⟨hd,bd⟩,A,c⟩:Pv).pr=⟨hd,bd⟩ from rfl,h] at this;cases this)]
     have BAD:=hIz bad;clear bad;by_cases h3:hd<0
     ·have FIN:=hIz (BAD.out (by unfold prB;rw[decide_eq_false (show ¬(0≤hd) by omega)];rfl));go_wp2;refine bodyPost_ret (v:=.int .i64 220) (by simp[results,Tryz.f98,go_sem]) rfl ⟨by rw[FIN.out],HB9.out⟩
     ·by_cases h4:nts≤hd
      ·have FIN:=hIz (BAD.out (by unfold prB;rw[decide_eq_false (show ¬(hd<nts) by omega),Bool.and_false];rfl));go_wp2;refine bodyPost_ret (v:=.int .i64 220) (by simp[results,Tryz.f98,go_sem]) rfl ⟨by rw[FIN.out],HB9.out⟩
      ·have HHD:=hIz (show(decide (0≤hd)&&decide (hd<nts))=true from by simp;omega);go_wp2_with fail;clear p0 c0;go_loopw [5] (fun jv wr=>∃j:Nat,j≤l∧jv=.int .i64 (j:Int)∧Hid (Below W9.heap.size W9 wr∧∀s∈bd.take j,wX nts s=true)) (fun jv _=>l-(intOf jv).toNat)
       case atStart=>exact⟨0,Nat.zero_le _,rfl,hIz ⟨Below.refl _ _,fun _ h=>(by simp at h)⟩⟩
       case round =>
        obtain⟨j,hjl,rfl,hqj⟩:=hrel;obtain⟨Wj,hWj⟩:∃Wq,Wq=wr:=⟨_,rfl⟩;subst hWj;have q1:Wj.cell? ⟨s9,1,none⟩=some (.slice A l c):=(HK9.out.upd (Upd.of_below hqj.out.1 (fun _=>False)) id).cell 1;by_cases hjt:j<l
        ·have hjtI:(j:Int)<(l:Int):=by omega
         have hjw:IntKind.i64.wrap ((j:Int)+1)=(j:Int)+1:=IntWalk.i64_in _ (by omega);obtain⟨s,hs⟩:∃s,bd[j]?=some s:=⟨_,gEz (by rw[HV.out.2.2.1];exact hjt)⟩;obtain⟨bb,bo,hA⟩:=HV.out.2.2.2.1.adr (by rw[HV.out.2.2.1];omega);subst hA;have hrj:=((HV.out.2.2.2.1.below3 H9.out.1).below3 hqj.out.1).lab hs;obtain⟨sl,sx⟩:=s;dsimp only at hrj
         obtain⟨d0,d1⟩:=hrj;have b6:Below Wj.heap.size Wj (Wj.alloc (.cells #[.bool sl,.int .i64 sx] 117)):=bR.alloc (Nat.le_refl _) _;have k6:=Blk.new Wj 117 #[.bool sl,.int .i64 sx];have H6:=aI4 b6 k6 ((H9.out.2.2.upd (Upd.of_below hqj.out.1 (fun _=>False)) id).upd (upF b6) id) hs;clear b6 k6 hs;go_upto_region 13 with (fail);clear q1 d0 d1;generalize Wj.alloc (.cells #[.bool sl,.int .i64 sx] 117)=W6 at H6 ⊢;have HB6:=hIz (show Below W9.heap.size W9 W6 from tHn hqj.out.1 H6.out.1);have HBw6:=hIz (show Below w.heap.size w W6 from tHn HB9.out HB6.out);generalize Wj.heap.size=s6 at H6 ⊢;have v0:W6.cell? ⟨s6,0,none⟩=some (.bool sl):=H6.out.2.1.cell 0;have v1:W6.cell? ⟨s6,1,none⟩=some (.int .i64 sx):=H6.out.2.1.cell 1;have v2:W6.cell? ⟨s0,0,none⟩=some (.int .i64 nts):=H6.out.2.2.1.cell 0;have badS:wX nts ⟨sl,sx⟩=false→(220:Int)=z:=fun h=>BAD.out (by
          unfold prB;rw[show(⟨hd,bd⟩:Pr).body=bd from rfl];have:bd.all (wX nts)=false:=by
           rw[Bool.eq_false_iff];intro e;have:=List.all_eq_true.1 e _ (mG H6.out.2.2.2);rw[h] at this;cases this
          rw[this,Bool.and_false])
         have BADS:=hIz badS;clear badS;have goodS:wX nts ⟨sl,sx⟩=true→∀s∈bd.take (j+1),wX nts s=true:=fun h s hs=>by
          rw[List.take_add_one,H6.out.2.2.2,Option.toList_some,List.mem_append,List.mem_singleton] at hs;rcases hs with hs|hs
          ·exact hqj.out.2 s hs
          ·rw[hs];exact h
         have GOODS:=hIz goodS;clear goodS;by_cases h5:sx<0
         ·have FIN:=hIz (BADS.out (by unfold wX;rw[decide_eq_false (show ¬(0≤sx) by omega)];rfl));go_wp2;refine bodyPost_ret (v:=.int .i64 220) (by simp[results,Tryz.f98,go_sem]) rfl ⟨by rw[FIN.out],HBw6.out⟩
         ·cases sl with
          | true =>
           by_cases h6:16≤sx
           ·have FIN:=hIz (BADS.out (by unfold wX;simp;omega));go_wp2;refine bodyPost_ret (v:=.int .i64 220) (by simp[results,Tryz.f98,go_sem]) rfl ⟨by rw[FIN.out],HBw6.out⟩
           ·have FIN:=aI2 HB6.out (GOODS.out (by unfold wX;simp;omega));go_wp2;go_roundw
            case rel=>exact⟨j+1,by omega,by simp,FIN⟩
            case measure=>simp[intOf];omega
          | false =>
           by_cases h6:nts≤sx
           ·have FIN:=hIz (BADS.out (by unfold wX;simp;omega));go_wp2;refine bodyPost_ret (v:=.int .i64 220) (by simp[results,Tryz.f98,go_sem]) rfl ⟨by rw[FIN.out],HBw6.out⟩
           ·have FIN:=aI2 HB6.out (GOODS.out (by unfold wX;simp;omega));go_wp2;go_roundw
            case rel=>exact⟨j+1,by omega,by simp,FIN⟩
            case measure=>simp[intOf];omega
        ·obtain rfl:j=l:=by omega
         have FIN:=hIz (show Below W1.heap.size W1 Wj∧∀v∈PV.take (k+1),prB nts v.pr=true from⟨tHn HW9.out hqj.out.1,fun v hv=>by
          rw[List.take_add_one,HV.out.1,Option.toList_some,List.mem_append,List.mem_singleton] at hv;rcases hv with hv|hv
          ·exact hq.out.2 v hv
          ·subst hv;unfold prB;rw[HHD.out,Bool.true_and];have:=hqj.out.2;rw[List.take_of_length_le (Nat.le_of_eq HV.out.2.2.1)] at this;exact List.all_eq_true.2 this⟩)
         have hn0:¬((j:Int)<(j:Int)):=by omega
         clear hqj;go_wp2;go_roundw
         case rel=>exact⟨k+1,by omega,by simp,FIN⟩
         case measure=>simp[intOf];omega
    ·obtain rfl:k=m:=by omega
     have FIN:=hIz (show(0:Int)=z from by
      rw[← HZ.out];unfold pQ;have:=hq.out.2;rw[List.take_of_length_le (Nat.le_of_eq HM.out)] at this;rw[if_pos ⟨hr1,hr2,this⟩])
     have FB:=hIz (show Below w.heap.size w Wk from HBW.out.trans (hq.out.1.mono HS0.out));have hn0:¬((k:Int)<(k:Int)):=by omega
     clear hq hkb c0;go_wp2;refine bodyPost_ret (v:=.int .i64 0) (by simp[results,Tryz.f98,go_sem]) rfl ⟨by rw[FIN.out],FB.out⟩
open Go.RowKit Go.Shelf
def isB(nts:Int)(PV:List Pv):Bool:=(pQ nts PV==0)&&PV.all (fun v=>pP v.pr.body)
theorem QC(w:World)(nts:Int)(PA:Option Addr)(pc:Nat)(PV:List Pv)(hP:PvR w PA PV)(hm8:PV.length≤100000)(hb8:∀v∈PV,v.pr.body.length≤1000000000000000):Calls Tryz.prog 63 #[.agg #[.int .i64 nts,.slice PA PV.length pc]] w (Sam w (.bool (isB nts PV))):=by
 have b1:Below w.heap.size w (w.alloc (.cells #[.int .i64 nts,.slice PA PV.length pc] 24)):=bR.alloc (Nat.le_refl _) _;have k1:=Blk.new w 24 #[.int .i64 nts,.slice PA PV.length pc];have hchk:=GC _ nts PA pc PV (hP.below b1) hm8 hb8;obtain⟨m,hm⟩:∃m,PV.length=m:=⟨_,rfl⟩;have HP:=hIz hP;have HM:=hIz hm;rw[hm] at b1 k1 hm8 hchk ⊢;have c0:(w.alloc (.cells #[.int .i64 nts,.slice PA m pc] 24)).cell? ⟨w.heap.size,0,none⟩=some (.int .i64 nts):=k1.cell 0;have c1:(w.alloc (.cells #[.int .i64 nts,.slice PA m pc] 24)).cell? ⟨w.heap.size,1,none⟩=some (.slice PA m pc):=k1.cell 1;have H:=hIz k1;have HBW:=hIz b1;clear hm hP b1 k1 hb8;obtain⟨z,hz⟩:∃z,isB nts PV=z:=⟨_,rfl⟩;obtain⟨a,ha⟩:∃a,pQ nts PV=a:=⟨_,rfl⟩;have HZ:=hIz hz;have HA:=hIz ha;rw[hz];rw[ha] at hchk;clear hz ha;go_enter Tryz.func63,Tryz.ntmps63;go_wp2_with fail;refine hchk.mono ?_;clear hchk c0 c1;generalize w.alloc (.cells #[.int .i64 nts,.slice PA m pc] 24)=W0 at H HBW ⊢;rintro e W1 ⟨rfl,hb1⟩;have HB1:=hIz (show Below w.heap.size w W1 from tHn HBW.out hb1);have H1:=hIz (H.out.upd (upF hb1) id);clear hb1;generalize w.heap.size=s0 at H1 ⊢;by_cases h0:a=0
 ·subst h0;have hZ:Hid (z=PV.all (fun v=>pP v.pr.body)):=hIz (by rw[← HZ.out];unfold isB;rw[HA.out];rfl);go_wp2;go_loopw [3] (fun kv wr=>∃k:Nat,k≤m∧kv=.int .i64 (k:Int)∧Hid (Below W1.heap.size W1 wr∧∀v∈PV.take k,pP v.pr.body=true)) (fun kv _=>m-(intOf kv).toNat)
  case atStart=>exact⟨0,Nat.zero_le _,rfl,hIz ⟨Below.refl _ _,fun _ h=>(by simp at h)⟩⟩
  case round =>
   obtain⟨k,hkm,rfl,hq⟩:=hrel;obtain⟨Wk,hWk⟩:∃Wq,Wq=wr:=⟨_,rfl⟩;subst hWk;have c1:Wk.cell? ⟨s0,1,none⟩=some (.slice PA m pc):=(H1.out.upd (Upd.of_below hq.out.1 (fun _=>False)) id).cell 1;have HBk:=hIz (show Below w.heap.size w Wk from tHn HB1.out hq.out.1);by_cases hlt:k<m
   ·have hltI:(k:Int)<(m:Int):=by omega
    have hkw:IntKind.i64.wrap ((k:Int)+1)=(k:Int)+1:=IntWalk.i64_in _ (by omega);obtain⟨pv,hv⟩:∃pv,PV[k]?=some pv:=⟨_,gEz (by rw[HM.out];exact hlt)⟩;have hPk:=HP.out.below HBk.out;obtain⟨gb,go,hPA,y0,y1⟩:=hPk.1.pv hv;subst hPA;have hwk:=LU Wk pv.pr.body pv.adr pv.cap (hPk.2 pv (mG hv));obtain⟨l,hl⟩:∃l,pv.pr.body.length=l:=⟨_,rfl⟩;rw[hl] at y1 hwk;obtain⟨b,hb⟩:∃b,pP pv.pr.body=b:=⟨_,rfl⟩;rw[hb] at hwk;have HV:=aI2 hv hb;clear hv hb hl y0 hPk;go_wp2_with fail;refine hwk.mono ?_;clear hwk y1 c1;rintro e V ⟨rfl,hV⟩;subst V;cases b with
    | true =>
     have FIN:=hIz (show Below W1.heap.size W1 Wk∧∀v∈PV.take (k+1),pP v.pr.body=true from⟨hq.out.1,fun v hv=>by
      rw[List.take_add_one,HV.out.1,Option.toList_some,List.mem_append,List.mem_singleton] at hv;rcases hv with hv|hv
      ·exact hq.out.2 v hv
      ·rw[hv];exact HV.out.2⟩)
     go_wp2;go_roundw
     case rel=>exact⟨k+1,by omega,by simp,FIN⟩
     case measure=>simp[intOf];omega
    | false =>
     have FIN:=hIz (show z=false from by
      rw[hZ.out,Bool.eq_false_iff];intro e;have:=List.all_eq_true.1 e _ (mG HV.out.1);rw[HV.out.2] at this;cases this)
     go_wp2;refine bodyPost_ret (v:=.bool false) (by simp[results,Tryz.f63,go_sem]) rfl ⟨by rw[FIN.out],HBk.out⟩
   ·obtain rfl:k=m:=by omega
    have FIN:=hIz (show z=true from by
     rw[hZ.out];have:=hq.out.2;rw[List.take_of_length_le (Nat.le_of_eq HM.out)] at this;exact List.all_eq_true.2 this)
    have hn0:¬((k:Int)<(k:Int)):=by omega
    clear hq;go_wp2;refine bodyPost_ret (v:=.bool true) (by simp[results,Tryz.f63,go_sem]) rfl ⟨by rw[FIN.out],HBk.out⟩
 ·have FIN:=hIz (show z=false from by
   rw[← HZ.out];unfold isB;rw[HA.out,show(a==0)=false by simpa using h0];rfl)
  have hab:(a==0)=false:=by simpa using h0
  have hab2:(a != 0)=true:=by simpa using h0
  go_wp2;refine bodyPost_ret (v:=.bool false) (by simp[results,Tryz.f63,go_sem]) rfl ⟨by rw[FIN.out],HB1.out⟩
def qQ(PV:List Pv)(mo:Int):Prop:=0≤mo∧mo≤16∧(∀v∈PV,∀s∈v.pr.body,s.lab=true→s.at_+1≤mo)∧(mo=0∨∃v∈PV,∃s∈v.pr.body,s.lab=true∧s.at_+1=mo)
theorem GD{nts:Int}{PV:List Pv}(h:isB nts PV=true):1≤nts∧∀v∈PV,prB nts v.pr=true∧pP v.pr.body=true:=by
 unfold isB at h;rw[Bool.and_eq_true,beq_iff_eq] at h;obtain⟨h1,h2⟩:=h;unfold pQ at h1;split at h1
 ·rename_i hh
  exact⟨hh.1,fun v hv=>⟨hh.2.2 v hv,List.all_eq_true.1 h2 v hv⟩⟩
 ·cases h1
theorem vE{nts:Int}{PV:List Pv}(h:isB nts PV=true):∀v∈PV,∀s∈v.pr.body,s.lab=true→0≤s.at_∧s.at_<16:=fun v hv s hs hl=>by
 have h1:=((GD h).2 v hv).1;unfold prB at h1;rw[Bool.and_eq_true] at h1;have h2:=List.all_eq_true.1 h1.2 s hs;unfold wX at h2;rw[if_pos hl] at h2;simpa using h2
theorem wY{nts:Int}{PV:List Pv}{mo:Int}{l:Nat}(h:isB nts PV=true)(hm:qQ PV mo)(hl:mo≤(l:Int)):∀v∈PV,aZ v.pr nts l=true:=fun v hv=>by
 obtain⟨h1,h2⟩:=(GD h).2 v hv;have hlab:=vE h v hv;have hmo:=hm.2.2.1 v hv;obtain⟨⟨hd,bd⟩,A,c⟩:=v;unfold prB at h1;simp only[Bool.and_eq_true,decide_eq_true_eq] at h1
 obtain⟨⟨h3,h4⟩,h5⟩:=h1;unfold aZ;have hs:=fun s hs=>List.all_eq_true.1 h5 s hs
 dsimp only at h2 hlab hmo hs ⊢
 match bd,h2,hlab,hmo,hs with
 | [],_,_,_,_=>simp;omega
 | [s],h2,hlab,hmo,_ =>
  have h6:s.lab=true:=h2;have h7:=hlab s (by simp) h6;have h8:=hmo s (by simp) h6;simp[fO,h6]
  omega
 | [s,t],h2,_,_,hs =>
  have h6:(!s.lab&&!t.lab)=true:=h2;simp at h6
  have h7:=hs s (by simp);have h8:=hs t (by simp);unfold wX at h7 h8;rw[h6.1] at h7;rw[h6.2] at h8;simp at h7 h8
  simp[fO,h6.1,h6.2]
  omega
 | _::_::_::_,h2,_,_,_=>cases h2
theorem wZ{nts:Int}{PV:List Pv}{l:Nat}(hn1:1≤nts)(hn2:nts≤1024)(hl:l≤16)(h:∀v∈PV,aZ v.pr nts l=true):isB nts PV=true:=by
 have key:∀v∈PV,prB nts v.pr=true∧pP v.pr.body=true:=fun v hv=>by
  have h1:=h v hv;obtain⟨⟨hd,bd⟩,A,c⟩:=v;unfold aZ at h1;unfold prB;dsimp only at h1 ⊢
  match bd,h1 with
  | [],h1=>simp at h1;refine⟨by simp;omega,rfl⟩
  | [s],h1 =>
   simp[fO] at h1
   obtain⟨h2,h3,h4,h5⟩:=h1;refine⟨?_,h3⟩;simp[wX,h3]
   omega
  | [s,t],h1 =>
   simp[fO] at h1
   obtain⟨h2,⟨h3,h4,h5⟩,h6,h7,h8⟩:=h1;refine⟨?_,by simp[pP,h3,h6]⟩;simp[wX,h3,h6]
   omega
  | _::_::_::_,h1=>simp at h1
 unfold isB pQ;rw[if_pos ⟨hn1,hn2,fun v hv=>(key v hv).1⟩,Bool.and_eq_true];exact⟨rfl,List.all_eq_true.2 (fun v hv=>(key v hv).2)⟩
theorem sO{nts:Int}{PV:List Pv}{mo:Int}{l:Nat}(h:∀v∈PV,aZ v.pr nts l=true)(hm:qQ PV mo):mo≤(l:Int):=by
 rcases hm.2.2.2 with e|⟨v,hv,s,hs,hsl,e⟩
 ·omega
 ·have h1:=h v hv;obtain⟨⟨hd,bd⟩,A,c⟩:=v;unfold aZ at h1;dsimp only at h1 hs
  match bd,h1,hs with
  | [],_,hs=>cases hs
  | [u],h1,hs =>
   obtain rfl:=List.mem_singleton.1 hs;simp[fO] at h1
   omega
  | [u,t],h1,hs =>
   simp[fO] at h1
   rcases List.mem_cons.1 hs with e2|hs
   ·rw[e2,h1.2.1.1] at hsl;cases hsl
   ·obtain rfl:=List.mem_singleton.1 hs;rw[h1.2.2.1] at hsl;cases hsl
  | _::_::_::_,h1,_=>simp at h1
theorem LV(w:World)(nts:Int)(PA:Option Addr)(pc:Nat)(PV:List Pv)(hP:PvR w PA PV)(hm8:PV.length≤100000)(hb8:∀v∈PV,v.pr.body.length≤1000000000000000)(hlab:∀v∈PV,∀s∈v.pr.body,s.lab=true→0≤s.at_∧s.at_<16) :
  Calls Tryz.prog 64 #[.agg #[.int .i64 nts,.slice PA PV.length pc]] w (fun e w'=>∃mo,qQ PV mo∧e=.returned (.int .i64 mo)∧Below w.heap.size w w'):=by
 have b1:Below w.heap.size w (w.alloc (.cells #[.int .i64 nts,.slice PA PV.length pc] 24)):=bR.alloc (Nat.le_refl _) _;have k1:=Blk.new w 24 #[.int .i64 nts,.slice PA PV.length pc];obtain⟨m,hm⟩:∃m,PV.length=m:=⟨_,rfl⟩;have HP:=hIz hP;have HM:=hIz hm;rw[hm] at b1 k1 hm8 ⊢;have H:=hIz k1;have HBW:=hIz b1;have HL:=aI2 hlab hb8;clear hm hP b1 k1 hlab hb8;go_enter Tryz.func64,Tryz.ntmps64;go_wp2_with fail;generalize w.alloc (.cells #[.int .i64 nts,.slice PA m pc] 24)=W1 at H HBW ⊢;obtain⟨s0,hs0⟩:∃s,w.heap.size=s:=⟨_,rfl⟩;have HS0:=hIz (show w.heap.size≤W1.heap.size from HBW.out.size);rw[hs0] at H ⊢;clear hs0;go_loopw [3,4] (fun mv kv wr=>∃(k:Nat) (mo:Int),k≤m∧mv=.int .i64 mo∧kv=.int .i64 (k:Int)∧Hid (Below W1.heap.size W1 wr∧qQ (PV.take k) mo)) (fun _ kv _=>m-(intOf kv).toNat)
 case atStart=>exact⟨0,0,Nat.zero_le _,rfl,rfl,hIz ⟨Below.refl _ _,Int.le_refl _,by decide,fun _ h=>(by simp at h),.inl rfl⟩⟩
 case round =>
  obtain⟨k,mo,hkm,rfl,rfl,hq⟩:=hrel;obtain⟨Wk,hWk⟩:∃Wq,Wq=wr:=⟨_,rfl⟩;subst hWk;have c1:Wk.cell? ⟨s0,1,none⟩=some (.slice PA m pc):=(H.out.upd (Upd.of_below hq.out.1 (fun _=>False)) id).cell 1;have HBk:=hIz (show Below w.heap.size w Wk from HBW.out.trans (hq.out.1.mono HS0.out));by_cases hlt:k<m
  ·have hltI:(k:Int)<(m:Int):=by omega
   have hkw:IntKind.i64.wrap ((k:Int)+1)=(k:Int)+1:=IntWalk.i64_in _ (by omega);obtain⟨pv,hv⟩:∃pv,PV[k]?=some pv:=⟨_,gEz (by rw[HM.out];exact hlt)⟩;have hvm:=mG hv;have hb8:=HL.out.2 pv hvm;obtain⟨l,hl⟩:∃l,pv.pr.body.length=l:=⟨_,rfl⟩;rw[hl] at hb8;have HV:=aI3 hv hvm hl;clear hv hvm hl;go_wp2;clear c1;go_loopw [3,5] (fun mv jv wr=>∃(j:Nat) (mo2:Int),j≤l∧mv=.int .i64 mo2∧jv=.int .i64 (j:Int)∧Hid (Below Wk.heap.size Wk wr∧0≤mo2∧mo2≤16∧mo≤mo2∧(∀s∈pv.pr.body.take j,s.lab=true→s.at_+1≤mo2)∧(mo2=mo∨∃s∈pv.pr.body,s.lab=true∧s.at_+1=mo2))) (fun _ jv _=>l-(intOf jv).toNat)
   case atStart=>exact⟨0,mo,Nat.zero_le _,rfl,rfl,hIz ⟨Below.refl _ _,hq.out.2.1,hq.out.2.2.1,Int.le_refl _,fun _ h=>(by simp at h),.inl rfl⟩⟩
   case round =>
    obtain⟨j,mo2,hjl,rfl,rfl,hqj⟩:=hrel;obtain⟨Wj,hWj⟩:∃Wq,Wq=wr:=⟨_,rfl⟩;subst hWj;have HBj:=hIz (show Below w.heap.size w Wj from tHn HBk.out hqj.out.1);have c1:Wj.cell? ⟨s0,1,none⟩=some (.slice PA m pc):=((H.out.upd (Upd.of_below hq.out.1 (fun _=>False)) id).upd (Upd.of_below hqj.out.1 (fun _=>False)) id).cell 1;have hPj:=HP.out.below HBj.out;obtain⟨gb,go,hPA,y0,y1⟩:=hPj.1.pv HV.out.1;subst hPA;rw[HV.out.2.2] at y1;have hrj:=hPj.2 pv HV.out.2.1;clear y0 hPj;by_cases hjt:j<l
    ·have hjtI:(j:Int)<(l:Int):=by omega
     have hjw:IntKind.i64.wrap ((j:Int)+1)=(j:Int)+1:=IntWalk.i64_in _ (by omega);obtain⟨s,hs⟩:∃s,pv.pr.body[j]?=some s:=⟨_,gEz (by rw[HV.out.2.2];exact hjt)⟩;obtain⟨bb,bo,hA⟩:=hrj.adr (by rw[HV.out.2.2];omega);rw[hA] at hrj y1;obtain⟨d0,d1⟩:=hrj.lab hs;have hlb:=HL.out.1 pv HV.out.2.1 s (mG hs);obtain⟨sl,sx⟩:=s;dsimp only at d0 d1 hlb
     have b6:Below Wj.heap.size Wj (Wj.alloc (.cells #[.bool sl,.int .i64 sx] 117)):=bR.alloc (Nat.le_refl _) _;have k6:=Blk.new Wj 117 #[.bool sl,.int .i64 sx];have H6:=aI3 b6 k6 hs;clear b6 k6 hs hrj hA;go_upto_region 9 with (fail);clear c1 y1 d0 d1;generalize Wj.alloc (.cells #[.bool sl,.int .i64 sx] 117)=W6 at H6 ⊢;have HB6:=hIz (show Below Wk.heap.size Wk W6 from tHn hqj.out.1 H6.out.1);generalize Wj.heap.size=s6 at H6 ⊢;have v0:W6.cell? ⟨s6,0,none⟩=some (.bool sl):=H6.out.2.1.cell 0;have v1:W6.cell? ⟨s6,1,none⟩=some (.int .i64 sx):=H6.out.2.1.cell 1;have htk:Hid (∀s∈pv.pr.body.take (j+1),s∈pv.pr.body.take j∨s=⟨sl,sx⟩):=hIz (fun s hs=>by
      rw[List.take_add_one,H6.out.2.2,Option.toList_some,List.mem_append,List.mem_singleton] at hs;exact hs)
     cases sl with
     | true =>
      have hlb2:=hlb rfl;have hsw:IntKind.i64.wrap (sx+1)=sx+1:=IntWalk.i64_in _ (by omega);by_cases h6:mo2≤sx
      ·have FIN:=hIz (show Below Wk.heap.size Wk W6∧0≤sx+1∧sx+1≤16∧mo≤sx+1∧(∀s∈pv.pr.body.take (j+1),s.lab=true→s.at_+1≤sx+1)∧(sx+1=mo∨∃s∈pv.pr.body,s.lab=true∧s.at_+1=sx+1) from
        ⟨HB6.out,by omega,by omega,by have:=hqj.out.2.2.2.1;omega,fun s hs h=>by
         rcases htk.out s hs with e|e
         ·have:=hqj.out.2.2.2.2.1 s e h;omega
         ·rw[e];exact Int.le_refl _,.inr ⟨_,mG H6.out.2.2,rfl,rfl⟩⟩)
       clear hlb hlb2;go_wp2;go_roundw
       case rel=>exact⟨j+1,sx+1,by omega,rfl,by simp,FIN⟩
       case measure=>simp[intOf];omega
      ·have FIN:=hIz (show Below Wk.heap.size Wk W6∧0≤mo2∧mo2≤16∧mo≤mo2∧(∀s∈pv.pr.body.take (j+1),s.lab=true→s.at_+1≤mo2)∧(mo2=mo∨∃s∈pv.pr.body,s.lab=true∧s.at_+1=mo2) from
        ⟨HB6.out,hqj.out.2.1,hqj.out.2.2.1,hqj.out.2.2.2.1,fun s hs h=>by
         rcases htk.out s hs with e|e
         ·exact hqj.out.2.2.2.2.1 s e h
         ·rw[e];show sx+1≤mo2;omega,hqj.out.2.2.2.2.2⟩)
       clear hlb hlb2;go_wp2;go_roundw
       case rel=>exact⟨j+1,mo2,by omega,rfl,by simp,FIN⟩
       case measure=>simp[intOf];omega
     | false =>
      have FIN:=hIz (show Below Wk.heap.size Wk W6∧0≤mo2∧mo2≤16∧mo≤mo2∧(∀s∈pv.pr.body.take (j+1),s.lab=true→s.at_+1≤mo2)∧(mo2=mo∨∃s∈pv.pr.body,s.lab=true∧s.at_+1=mo2) from
       ⟨HB6.out,hqj.out.2.1,hqj.out.2.2.1,hqj.out.2.2.2.1,fun s hs h=>by
        rcases htk.out s hs with e|e
        ·exact hqj.out.2.2.2.2.1 s e h
        ·rw[e] at h;exact absurd h Bool.false_ne_true,hqj.out.2.2.2.2.2⟩)
      clear hlb;go_wp2;go_roundw
      case rel=>exact⟨j+1,mo2,by omega,rfl,by simp,FIN⟩
      case measure=>simp[intOf];omega
    ·obtain rfl:j=l:=by omega
     have FIN:=hIz (show Below W1.heap.size W1 Wj∧qQ (PV.take (k+1)) mo2 from⟨tHn hq.out.1 hqj.out.1,hqj.out.2.1,hqj.out.2.2.1,fun v hv s hs h=>by
      rw[List.take_add_one,HV.out.1,Option.toList_some,List.mem_append,List.mem_singleton] at hv;rcases hv with hv|hv
      ·have:=hq.out.2.2.2.1 v hv s hs h;have:=hqj.out.2.2.2.1;omega
      ·subst hv;exact hqj.out.2.2.2.2.1 s (by rw[List.take_of_length_le (Nat.le_of_eq HV.out.2.2)];exact hs) h,by
      rw[List.take_add_one,HV.out.1,Option.toList_some];rcases hqj.out.2.2.2.2.2 with e|⟨s,hs,h1,h2⟩
      ·rw[e];rcases hq.out.2.2.2.2 with e|⟨v,hv,h⟩
       ·exact .inl e
       ·exact .inr ⟨v,List.mem_append_left _ hv,h⟩
      ·exact .inr ⟨pv,List.mem_append_right _ (List.mem_singleton.2 rfl),s,hs,h1,h2⟩⟩)
     have hn0:¬((j:Int)<(j:Int)):=by omega
     clear hqj hrj;go_wp2;go_roundw
     case rel=>exact⟨k+1,mo2,by omega,rfl,by simp,FIN⟩
     case measure=>simp[intOf];omega
  ·obtain rfl:k=m:=by omega
   have FIN:=hIz (show qQ PV mo from by
    have:=hq.out.2;rwa [List.take_of_length_le (Nat.le_of_eq HM.out)] at this)
   have hn0:¬((k:Int)<(k:Int)):=by omega
   clear hq;go_wp2;refine bodyPost_ret (v:=.int .i64 mo) (by simp[results,Tryz.f64,go_sem]) rfl ⟨mo,FIN.out,rfl,HBk.out⟩
open Go.RowKit Go.Shelf
theorem GE(w:World)(nts:Int)(PA:Option Addr)(pc:Nat)(PV:List Pv)(hP:PvR w PA PV)(hm8:PV.length≤1000000000000000)(hb8:∀v∈PV,v.pr.body.length≤1000000000000000)(LA:Option Addr)(cl:Nat)(labels:List Txt)(hlab:aX w LA (aE labels))(hl9:labels.length≤1000000000000000) :
  Calls Tryz.prog 31 #[.agg #[.int .i64 nts,.slice PA PV.length pc],.slice LA labels.length cl] w (Sam w (.int .i64 (eW nts PV labels))):=by
 have b1:Below w.heap.size w (w.alloc (.cells #[.int .i64 nts,.slice PA PV.length pc] 24)):=bR.alloc (Nat.le_refl _) _;have k1:=Blk.new w 24 #[.int .i64 nts,.slice PA PV.length pc];obtain⟨m,hm⟩:∃m,PV.length=m:=⟨_,rfl⟩;obtain⟨l,hl⟩:∃l,labels.length=l:=⟨_,rfl⟩;have hv:eW nts PV labels=if 16<l∨nts<1∨512<nts∨8192<m then 2 else if upB ltT labels=true∧∀v∈PV,aZ v.pr nts l=true then 0 else 2:=by
  unfold eW;rw[hm,hl]
 have HV:=hIz hv;have HM:=aI2 hm hl;have HP:=aI3 hP hlab hb8;rw[hm] at b1 k1 hm8 ⊢;rw[hl] at hl9 ⊢;have H:=hIz k1;have HBW:=hIz b1;clear hm hl hP hlab b1 k1 hv hb8;obtain⟨z,hz⟩:∃z,eW nts PV labels=z:=⟨_,rfl⟩;have HZ:=hIz hz;rw[hz];clear hz;go_enter Tryz.func31,Tryz.ntmps31;by_cases h1:16<l
 ·have FIN:=hIz (show z=2 from by rw[← HZ.out,HV.out,if_pos (.inl h1)]);have h1I:(16:Int)<(l:Int):=by omega
  go_wp2;refine bodyPost_ret (v:=.int .i64 2) (by simp[results,Tryz.f31,go_sem]) rfl ⟨by rw[FIN.out],HBW.out⟩
 ·have h1I:¬((16:Int)<(l:Int)):=by omega
  go_wp2_with fail;generalize w.alloc (.cells #[.int .i64 nts,.slice PA m pc] 24)=W1 at H HBW ⊢;obtain⟨s0,hs0⟩:∃s,w.heap.size=s:=⟨_,rfl⟩;have HS0:=hIz (show w.heap.size≤W1.heap.size from HBW.out.size);rw[hs0] at H ⊢;clear hs0;go_loopw [5] (fun i wr=>∃k:Nat,(k≤l∧i=.int .i64 ((k:Int)+1))∧Hid (Below W1.heap.size W1 wr)∧Hid (∀j,j<k→∀a b,labels[j]?=some a→labels[j+1]?=some b→ltT a b=true)) (fun i _=>l+1-(intOf i).toNat)
  case atStart=>exact⟨0,⟨Nat.zero_le _,rfl⟩,hIz bR,hIz (fun j hj=>by omega)⟩
  case round =>
   obtain⟨k,⟨hk,rfl⟩,hb,hall⟩:=hrel;have HBk:=hIz (show Below w.heap.size w wr from HBW.out.trans (hb.out.mono HS0.out));by_cases hlt:k+1<l
   ·have hkw:IntKind.i64.wrap (k:Int)=(k:Int):=IntWalk.i64_in _ (by omega);have hkw1:IntKind.i64.wrap ((k:Int)+1-1)=(k:Int):=by rw[IntWalk.i64_in _ (by omega)];omega
    have hkw2:IntKind.i64.wrap ((k:Int)+1+1)=(k:Int)+1+1:=IntWalk.i64_in _ (by omega);have hltI:(k:Int)+1<(l:Int):=by omega
    have hltI2:(k:Int)<(l:Int):=by omega
    have ht:((k:Int)+1).toNat=k+1:=by omega
    have hn0:(0:Int)≤(k:Int)+1:=by omega
    have h0:=HP.out.2.1.below3 HBk.out;obtain⟨x,hx⟩:∃x,labels[k]?=some x:=⟨_,gEz (by rw[HM.out.2];omega)⟩;obtain⟨y,hy⟩:∃y,labels[k+1]?=some y:=⟨_,gEz (by rw[HM.out.2];omega)⟩;obtain⟨ab,ao,rfl,x0⟩:=h0.txt hx;obtain⟨_,_,e1,y0⟩:=h0.txt hy;injection e1 with e1;injection e1 with e1 e2;subst e1;subst e2;have HXY:=aI2 hx hy;clear h0 hx hy;have hS:(fun w':World=>w'.cell? ⟨ab,ao+k,none⟩=some (.string x)∧w'.cell? ⟨ab,ao+(k+1),none⟩=some (.string y)) wr.drew:=⟨x0,y0⟩;have hBd:=hIz (show Below w.heap.size w wr.drew from HBk.out.drew);cases hlx:ltT x y with
    | true =>
     have hl2:Op.bytesLess (ByteArray.toList x) (ByteArray.toList y)=true:=hlx;have HLT:=hIz hlx;clear hlx;go_upto_region 6 with (fail);refine aF (fun w'=>w'.cell? ⟨ab,ao+k,none⟩=some (.string x)∧w'.cell? ⟨ab,ao+(k+1),none⟩=some (.string y)) 10 [(0,true),(1,true),(2,true),(3,true),(4,true),(5,true),(6,true),(7,true),(8,true),(9,true)] hS ?_;clear hS
     iterate 10 refine aC rfl ?_
     refine aG ?_;go_wp2;go_roundw
     case rel=>exact⟨k+1,⟨by omega,by go_num⟩,hIz hb.out.drew,hIz (fun j hj a b ha hb=>by
      rcases Nat.lt_succ_iff_lt_or_eq.1 hj with h|rfl
      ·exact hall.out j h a b ha hb
      ·rw[HXY.out.1] at ha;rw[HXY.out.2] at hb;injection ha with ha;injection hb with hb;subst ha;subst hb;exact HLT.out)⟩
     case measure=>simp[intOf];omega
    | false =>
     have hl2:Op.bytesLess (ByteArray.toList x) (ByteArray.toList y)=false:=hlx;have FIN:=hIz (show z=2 from by
      rw[← HZ.out,HV.out];split
      ·rfl
      ·rw[if_neg];intro h;rw[jT HXY.out.1 HXY.out.2 hlx] at h;cases h.1)
     clear hlx;go_upto_region 6 with (fail);refine aF (fun w'=>w'.cell? ⟨ab,ao+k,none⟩=some (.string x)∧w'.cell? ⟨ab,ao+(k+1),none⟩=some (.string y)) 10 [(0,true),(1,true),(2,true),(3,true),(4,true),(5,true),(6,true),(7,true),(8,true),(9,true)] hS ?_;clear hS
     iterate 10 refine aC rfl ?_
     refine aG ?_;go_wp2;refine bodyPost_ret (v:=.int .i64 2) (by simp[results,Tryz.f31,go_sem]) rfl ⟨by rw[FIN.out],hBd.out⟩
   ·have hgeI:¬(k:Int)+1<(l:Int):=by omega
    have HUP:=hIz (show upB ltT labels=true from(iZ labels).2 (fun i a b ha hb'=>by
     have:=(gO.1 hb').1;have:=HM.out.2;exact hall.out i (by omega) a b ha hb'))
    have k2:=H.out.upd (upF hb.out) id;have q0:wr.cell? ⟨s0,0,none⟩=some (.int .i64 nts):=k2.cell 0;have q1:wr.cell? ⟨s0,1,none⟩=some (.slice PA m pc):=k2.cell 1;clear k2 hall hb;by_cases g1:nts<1
    ·have FIN:=hIz (show z=2 from by rw[← HZ.out,HV.out,if_pos (.inr (.inl g1))]);go_wp2;refine bodyPost_ret (v:=.int .i64 2) (by simp[results,Tryz.f31,go_sem]) rfl ⟨by rw[FIN.out],HBk.out⟩
    ·by_cases g2:512<nts
     ·have FIN:=hIz (show z=2 from by rw[← HZ.out,HV.out,if_pos (.inr (.inr (.inl g2)))]);go_wp2;refine bodyPost_ret (v:=.int .i64 2) (by simp[results,Tryz.f31,go_sem]) rfl ⟨by rw[FIN.out],HBk.out⟩
     ·by_cases g3:8192<m
      ·have FIN:=hIz (show z=2 from by rw[← HZ.out,HV.out,if_pos (.inr (.inr (.inr g3)))]);have g3I:(8192:Int)<(m:Int):=by omega
       go_wp2;refine bodyPost_ret (v:=.int .i64 2) (by simp[results,Tryz.f31,go_sem]) rfl ⟨by rw[FIN.out],HBk.out⟩
      ·have g3I:¬((8192:Int)<(m:Int)):=by omega
       have HV2:=hIz (show z=if ∀v∈PV,aZ v.pr nts l=true then 0 else 2 from by
        rw[← HZ.out,HV.out,if_neg (by omega)];by_cases h:∀v∈PV,aZ v.pr nts l=true
        ·rw[if_pos ⟨HUP.out,h⟩,if_pos h]
        ·rw[if_neg (fun e=>h e.2),if_neg h])
       have his:=QC wr nts PA pc PV (HP.out.1.below HBk.out) (by rw[HM.out.1];omega) HP.out.2.2;rw[HM.out.1] at his;obtain⟨b,hb⟩:∃b,isB nts PV=b:=⟨_,rfl⟩;rw[hb] at his;cases b with
       | false =>
        have FIN:=hIz (show z=2 from by
         rw[HV2.out,if_neg];intro h;rw[wZ (by omega) (by omega) (by omega) h] at hb;cases hb)
        clear hb;go_wp2_with fail;refine his.mono ?_;clear his q0 q1;rintro e V ⟨rfl,hV⟩;have FB:=hIz (show Below w.heap.size w V from tHn HBk.out hV);clear hV;go_wp2;refine bodyPost_ret (v:=.int .i64 2) (by simp[results,Tryz.f31,go_sem]) rfl ⟨by rw[FIN.out],FB.out⟩
       | true =>
        have HI:=hIz hb;clear hb;have hmo:=fun V (hV:Below w.heap.size w V)=>LV V nts PA pc PV (HP.out.1.below hV) (by rw[HM.out.1];omega) HP.out.2.2 (vE HI.out)
        rw[HM.out.1] at hmo;have HMO:=hIz hmo;have hk2:=aI2 q0 q1;clear hmo;go_wp2_with fail;refine his.mono ?_;clear his;rintro e V ⟨rfl,hV⟩;have FB:=hIz (show Below w.heap.size w V from tHn HBk.out hV);have q0:V.cell? ⟨s0,0,none⟩=some (.int .i64 nts):=by rw[hV.cell (World.block_lt_of_cell? wr _ hk2.out.1)];exact hk2.out.1
        have q1:V.cell? ⟨s0,1,none⟩=some (.slice PA m pc):=by rw[hV.cell (World.block_lt_of_cell? wr _ hk2.out.2)];exact hk2.out.2
        clear hV;go_wp2_with fail;refine(HMO.out V FB.out).mono ?_;clear q0 q1;rintro e V2 ⟨mo,hM,rfl,hV2⟩;have FB2:=hIz (show Below w.heap.size w V2 from tHn FB.out hV2);clear hV2;by_cases g4:(l:Int)<mo
        ·have FIN:=hIz (show z=2 from by
          rw[HV2.out,if_neg];intro h;have:=sO h hM;omega)
         clear hM;go_wp2;refine bodyPost_ret (v:=.int .i64 2) (by simp[results,Tryz.f31,go_sem]) rfl ⟨by rw[FIN.out],FB2.out⟩
        ·have FIN:=hIz (show z=0 from by
          rw[HV2.out,if_pos (wY HI.out hM (by omega))])
         clear hM;go_wp2;refine bodyPost_ret (v:=.int .i64 0) (by simp[results,Tryz.f31,go_sem]) rfl ⟨by rw[FIN.out],FB2.out⟩
open Go.RowKit
section
variable {α:Type} [DecidableEq α] {lt:α→α→Bool}
def mrg(lt:α→α→Bool)(A B:List α):List α:=
 match A,B with
 | [],B=>B
 | A,[]=>A
 | x::a,y::b=>if lt x y=true then x::mrg lt a (y::b) else if x=y then y::mrg lt a b else y::mrg lt (x::a) b
termination_by A.length+B.length
theorem nE(B:List α):mrg lt [] B=B:=by rw[mrg]
theorem sP(A:List α):mrg lt A []=A:=by
 cases A with
 | nil=>rw[mrg]
 | cons x a=>rw[mrg];simp
theorem nG(x:α)(a:List α)(y:α)(b:List α):mrg lt (x::a) (y::b)=if lt x y=true then x::mrg lt a (y::b) else if x=y then y::mrg lt a b else y::mrg lt (x::a) b:=by rw[mrg]
theorem nH(hs:Sto lt):∀(n:Nat) (A B:List α),A.length+B.length≤n→cT lt A→cT lt B→cT lt (mrg lt A B)∧(∀z,z∈mrg lt A B↔z∈A∨z∈B)∧(mrg lt A B).length≤A.length+B.length
 | n,[],B,_,_,hB=>by rw[nE];exact⟨hB,by simp,by simp⟩
 | n,x::a,[],_,hA,_=>by rw[sP];exact⟨hA,by simp,by simp⟩
 | 0,x::a,y::b,h,_,_=>by simp at h
 | n+1,x::a,y::b,h,hA,hB=>by
  obtain⟨hA1,hA2⟩:=List.pairwise_cons.1 hA;obtain⟨hB1,hB2⟩:=List.pairwise_cons.1 hB;rw[nG];simp only[List.length_cons] at h
  by_cases hxy:lt x y=true
  ·rw[if_pos hxy];obtain⟨r,m,l⟩:=nH hs n a (y::b) (by simp;omega) hA2 hB;refine⟨List.pairwise_cons.2 ⟨fun z hz=>?_,r⟩,fun z=>by rw[List.mem_cons,m,List.mem_cons (a:=z) (b:=x)];simp only[or_assoc],by simp only[List.length_cons] at l ⊢;omega⟩;rcases (m z).1 hz with hz|hz
   ·exact hA1 z hz
   ·rcases List.mem_cons.1 hz with rfl|hz
    ·exact hxy
    ·exact hs.tr _ _ _ hxy (hB1 z hz)
  ·rw[if_neg hxy];by_cases he:x=y
   ·subst he;rw[if_pos rfl];obtain⟨r,m,l⟩:=nH hs n a b (by omega) hA2 hB2;refine⟨List.pairwise_cons.2 ⟨fun z hz=>?_,r⟩,fun z=>?_,by simp only[List.length_cons] at l ⊢;omega⟩
    ·rcases (m z).1 hz with hz|hz
     ·exact hA1 z hz
     ·exact hB1 z hz
    ·rw[List.mem_cons,m,List.mem_cons,List.mem_cons];constructor
     ·rintro (h|h|h)
      ·exact .inl (.inl h)
      ·exact .inl (.inr h)
      ·exact .inr (.inr h)
     ·rintro ((h|h)|(h|h))
      ·exact .inl h
      ·exact .inr (.inl h)
      ·exact .inl h
      ·exact .inr (.inr h)
   ·rw[if_neg he];obtain⟨r,m,l⟩:=nH hs n (x::a) b (by simp;omega) hA hB2;have hyx:lt y x=true:=by
     cases e:lt y x
     ·exact(he (hs.tri _ _ (by simpa using hxy) e)).elim
     ·rfl
    refine⟨List.pairwise_cons.2 ⟨fun z hz=>?_,r⟩,fun z=>?_,by simp only[List.length_cons] at l ⊢;omega⟩
    ·rcases (m z).1 hz with hz|hz
     ·rcases List.mem_cons.1 hz with rfl|hz
      ·exact hyx
      ·exact hs.tr _ _ _ hyx (hA1 z hz)
     ·exact hB1 z hz
    ·rw[List.mem_cons,m,List.mem_cons (a:=z) (b:=y)];constructor
     ·rintro (h|h|h)
      ·exact .inr (.inl h)
      ·exact .inl h
      ·exact .inr (.inr h)
     ·rintro (h|h|h)
      ·exact .inr (.inl h)
      ·exact .inl h
      ·exact .inr (.inr h)
omit [DecidableEq α] in
theorem eB{l:List α}{k:Nat}{x:α}(h:l[k]?=some x):l.drop k=x::l.drop (k+1):=by
 obtain⟨hk,rfl⟩:=gO.1 h;exact List.drop_eq_getElem_cons hk
theorem vF{A B:List α}{i j:Nat}{x:α}(hx:A[i]?=some x)(h:B.length≤j∨∃y,B[j]?=some y∧lt x y=true):mrg lt (A.drop i) (B.drop j)=x::mrg lt (A.drop (i+1)) (B.drop j):=by
 rw[eB hx];rcases h with h|⟨y,hy,hl⟩
 ·rw[List.drop_of_length_le h,sP,sP]
 ·rw[eB hy,nG,if_pos hl]
theorem vG{A B:List α}{i j:Nat}{y:α}(hy:B[j]?=some y)(h:A.length≤i∨∃x,A[i]?=some x∧lt x y=false∧x≠y):mrg lt (A.drop i) (B.drop j)=y::mrg lt (A.drop i) (B.drop (j+1)):=by
 rw[eB hy];rcases h with h|⟨x,hx,hl,hne⟩
 ·rw[List.drop_of_length_le h,nE,nE]
 ·rw[eB hx,nG,if_neg (by rw[hl];simp),if_neg hne]
theorem LW(hs:Sto lt){A B:List α}{i j:Nat}{y:α}(hx:A[i]?=some y)(hy:B[j]?=some y):mrg lt (A.drop i) (B.drop j)=y::mrg lt (A.drop (i+1)) (B.drop (j+1)):=by
 rw[eB hy,eB hx,nG,if_neg (by rw[hs.irr];simp),if_pos rfl]
theorem QD{A B:List α}{i j:Nat}(h1:A.length≤i)(h2:B.length≤j):mrg lt (A.drop i) (B.drop j)=[]:=by
 rw[List.drop_of_length_le h1,List.drop_of_length_le h2,nE]
end
end Go.Proofs.YteffnejneoocgaaGreatDoor
