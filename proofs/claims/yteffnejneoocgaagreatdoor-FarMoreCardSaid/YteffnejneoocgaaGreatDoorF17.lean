/- The law FarMore of layer 25: the walk; A graph, a list of texts, a list of edges that come in, read: the slices lie in memory, and none is too great; A grammar in weak normal form, a fact, a production that come in, read; An ask that comes in, read. -/
import Derived.Test.YteffnejneoocgaaGreatDoorF16
import Derived.Test.YteffnejneoocgaaGreatDoorF09
import Derived.ProofKit
import Derived.OpenShut
import Derived.ShutString
import Derived.ChangeOld
import Derived.ChangeSame
import Derived.Below
import Derived.Deep.Slices
import Derived.MapViews
import Derived.SizedLaws
import Derived.Test.YteffnejneoocgaaGreatDoorF01
import Derived.Test.YteffnejneoocgaaGreatDoorF12
set_option linter.unusedVariables false
set_option linter.unusedSimpArgs false
set_option maxHeartbeats 16000000
set_option maxRecDepth 100000
namespace Go.Proofs.YteffnejneoocgaaGreatDoor
open Go.RowKit Go.Shelf
theorem xF(w:World)(nts:Int)(PA:Option Addr)(pc:Nat)(PV:List Pv)(LA:Option Addr)(cl:Nat)(labels:List Txt)(A:Option Addr)(c:Nat)(B:Option Addr)(d:Nat)(N:List Txt)(E:List Ed)(h:LZ w PA PV LA labels A c B d N E)(f0 f1 f2 fr lb tx:Int) :
  Calls Tryz.prog 7 #[.agg (BK nts PA PV.length pc LA labels.length cl A N.length c B E.length d f0 f1 f2),.int .i64 fr,.int .i64 lb,.int .i64 tx] w (Sam w (.bool true)):=by
 have b1:Below w.heap.size w (w.alloc (.cells (BK nts PA PV.length pc LA labels.length cl A N.length c B E.length d f0 f1 f2) 32)):=bR.alloc (Nat.le_refl _) _;have k1:=Blk.new w 32 (BK nts PA PV.length pc LA labels.length cl A N.length c B E.length d f0 f1 f2);have HR:=hIz (show ∀X,Below w.heap.size w X→LZ X PA PV LA labels A c B d N E from fun X hX=>h.below hX);have hlen:=vL _ nts PA pc PV LA cl labels A c B d N E (h.below b1) f0 f1 f2;obtain⟨m,hm⟩:∃m,PV.length=m:=⟨_,rfl⟩;obtain⟨l,hl⟩:∃l,labels.length=l:=⟨_,rfl⟩;obtain⟨n,hn⟩:∃n,N.length=n:=⟨_,rfl⟩;obtain⟨ne,hne⟩:∃n,E.length=n:=⟨_,rfl⟩;have HM:=aI4 hm hl hn hne;rw[hm,hl,hn,hne] at b1 k1 hlen ⊢;have HB:=hIz b1;have HK:=hIz k1;clear b1 k1 hm hl hn hne h;unfold BK at hlen HB HK ⊢;have a0:=HK.out.cell 0;have a1:=HK.out.cell 1;have a2:=HK.out.cell 2;have a3:=HK.out.cell 3;have a4:=HK.out.cell 4;have a5:=HK.out.cell 5;have a6:=HK.out.cell 6;have a7:=HK.out.cell 7;simp only[List.getElem?_toArray,List.getElem?_cons_zero,List.getElem?_cons_succ] at a0 a1 a2 a3 a4 a5 a6 a7
 go_enter Tryz.func7,Tryz.ntmps7;go_wp2_with fail;refine hlen.mono ?_;clear hlen a0 a1 a2 a3 a4 a5 a6 a7;generalize w.alloc (.cells #[.int .i64 nts,.slice PA m pc,.slice LA l cl,.slice A n c,.slice B ne d,.int .i64 f0,.int .i64 f1,.int .i64 f2] 32)=W1 at HB HK ⊢;rintro e W2 hq;have hb2:Below W1.heap.size W1 W2:=by
  rcases hq with ⟨-,-,hb⟩|⟨-,-,_,_,_,_,-,-,-,hb,-⟩ <;> exact hb
 have HB2:=hIz (show Below w.heap.size w W2 from tHn HB.out hb2);have hs12:=hb2.size;have hk2:=HK.out.upd (upF hb2) id;obtain⟨s0,hs0⟩:∃s,w.heap.size=s:=⟨_,rfl⟩;have HK2:=hIz (show ∀V,Below W2.heap.size W2 V→Blk V s0 32 #[.int .i64 nts,.slice PA m pc,.slice LA l cl,.slice A n c,.slice B ne d,.int .i64 f0,.int .i64 f1,.int .i64 f2] from fun V hV=>by rw[← hs0];exact hk2.upd (upF hV) id);rw[hs0];clear hs0 hk2 HK hb2;rcases hq with ⟨-,rfl,-⟩|⟨hci,hac,z,F,Bm,K,rfl,hF,hfr,-,hbits,hwd,hls,hpw⟩
 ·go_wp2;refine bodyPost_ret (v:=.bool true) (by simp[results,Tryz.f7,go_sem]) rfl ⟨rfl,HB2.out⟩
 ·have HF:=aI7 hF hfr hbits hls hci hac hwd;have hcs:=(mD nts PV labels).resolve_left (by rw[hac];decide);have hokG:=LY hci;have hn32:n≤32:=by rw[← HM.out.2.2.1];exact hokG.few.1
  obtain⟨nt,rfl⟩:∃nt:Nat,nts=(nt:Int):=⟨nts.toNat,(Int.toNat_of_nonneg (by have:=hcs.2.2.1;omega)).symm⟩;have hnt:1≤nt∧nt≤512:=by have:=hcs.2.2.1;have:=hcs.2.2.2.1;omega
  clear hF hfr hbits hls hci hac hwd hpw hcs hokG;have hk2:=HK2.out W2 bR;have c2:W2.cell? ⟨s0,2,none⟩=some (.slice LA l cl):=hk2.cell 2;have c3:W2.cell? ⟨s0,3,none⟩=some (.slice A n c):=hk2.cell 3;have c4:W2.cell? ⟨s0,4,none⟩=some (.slice B ne d):=hk2.cell 4;clear hk2;by_cases g1:fr<0
  ·go_wp2;refine bodyPost_ret (v:=.bool true) (by simp[results,Tryz.f7,go_sem]) rfl ⟨rfl,HB2.out⟩
  ·by_cases g2:(n:Int)≤fr
   ·go_wp2;refine bodyPost_ret (v:=.bool true) (by simp[results,Tryz.f7,go_sem]) rfl ⟨rfl,HB2.out⟩
   ·by_cases g3:tx<0
    ·go_wp2;refine bodyPost_ret (v:=.bool true) (by simp[results,Tryz.f7,go_sem]) rfl ⟨rfl,HB2.out⟩
    ·by_cases g4:(n:Int)≤tx
     ·go_wp2;refine bodyPost_ret (v:=.bool true) (by simp[results,Tryz.f7,go_sem]) rfl ⟨rfl,HB2.out⟩
     ·by_cases g5:lb<0
      ·go_wp2;refine bodyPost_ret (v:=.bool true) (by simp[results,Tryz.f7,go_sem]) rfl ⟨rfl,HB2.out⟩
      ·by_cases g6:(l:Int)≤lb
       ·go_wp2;refine bodyPost_ret (v:=.bool true) (by simp[results,Tryz.f7,go_sem]) rfl ⟨rfl,HB2.out⟩
       ·obtain⟨fn,rfl⟩:∃x:Nat,fr=(x:Int):=⟨fr.toNat,by omega⟩;obtain⟨tn,rfl⟩:∃x:Nat,tx=(x:Int):=⟨tx.toNat,by omega⟩;obtain⟨ln,rfl⟩:∃x:Nat,lb=(x:Int):=⟨lb.toNat,by omega⟩;have x1:fn<n:=by omega
        have x2:tn<n:=by omega
        have x3:ln<l:=by omega
        have y1:(fn:Int)<(n:Int):=by omega
        have y2:(tn:Int)<(n:Int):=by omega
        have y3:(ln:Int)<(l:Int):=by omega
        obtain⟨tf,htf⟩:∃t,N[fn]?=some t:=⟨_,gEz (by rw[HM.out.2.2.1];exact x1)⟩;obtain⟨tt,htt⟩:∃t,N[tn]?=some t:=⟨_,gEz (by rw[HM.out.2.2.1];exact x2)⟩;obtain⟨tl,htl⟩:∃t,labels[ln]?=some t:=⟨_,gEz (by rw[HM.out.2.1];exact x3)⟩;have hA2:=HR.out W2 HB2.out;obtain⟨lb2,lo,hLA,q0⟩:=hA2.lab.txt htl;obtain⟨nb,no,hNA,-⟩:=hA2.ed.rn.txt htf;have htlo:=hA2.lt tl (mG htl);have HT:=aI6 htf htt htl htlo (hA2.ed.fit.tn tf (mG htf)) (hA2.ed.fit.tn tt (mG htt));subst hLA;subst hNA;have hlab:=fun V=>mP tl V htlo
        clear hA2 htf htt htl htlo g1 g2 g3 g4 g5 g6;obtain⟨bl,hbl⟩:∃b,fS tl=b:=⟨_,rfl⟩;rw[hbl] at hlab;have HLB:=hIz hlab;clear hlab hbl;go_wp2_with fail;refine(HLB.out W2).mono ?_;rintro e V ⟨rfl,hw⟩;subst V;clear q0 c2;cases bl with
        | false =>
         go_wp2;refine bodyPost_ret (v:=.bool true) (by simp[results,Tryz.f7,go_sem]) rfl ⟨rfl,HB2.out⟩
        | true =>
         have hof:=EF W2 (some ⟨nb,no,none⟩) c B d N E (HR.out W2 HB2.out).ed;rw[HM.out.2.2.1,HM.out.2.2.2] at hof;unfold cP at hof;go_wp2_with fail;refine hof.mono ?_;clear hof c3 c4;rintro e W3 hg;rcases hg with ⟨h0,-,-⟩|⟨-,pg,rfl,⟨Fg,hG,hGf⟩,hb3⟩
         ·exact absurd HF.out.2.2.2.2.1 h0
         ·have HB3:=hIz (show Below w.heap.size w W3 from tHn HB2.out hb3);have HG:=aI3 hG hGf hb3;have HAE:=hIz (fun V (hV:Below W3.heap.size W3 V)=>AD V Fg pg ⟨N,E⟩ (hG.below hV) (LY HF.out.2.2.2.2.1) ⟨tf,tl,tt⟩ ⟨HT.out.2.2.2.2.1,HT.out.2.2.2.1,HT.out.2.2.2.2.2⟩);clear hG hGf hb3;obtain⟨r,hr⟩:∃r,aU ⟨N,E⟩ ⟨tf,tl,tt⟩=r:=⟨_,rfl⟩;have hre:=HAE.out;rw[hr] at hre;have HRE:=aI2 hre hr;clear hre;have SR:=hIz (show ∀V,Below W2.heap.size W2 V→V.cell? ⟨s0,3,none⟩=some (.slice (some ⟨nb,no,none⟩) n c)∧V.cell? ⟨s0,2,none⟩=some (.slice (some ⟨lb2,lo,none⟩) l cl)∧V.cell? ⟨nb,no+fn,none⟩=some (.string tf)∧V.cell? ⟨nb,no+tn,none⟩=some (.string tt)∧V.cell? ⟨lb2,lo+ln,none⟩=some (.string tl) from fun V hV=>by
           have hAV:=HR.out V (tHn HB2.out hV);have hkV:=HK2.out V hV;obtain⟨_,_,e1,q1⟩:=hAV.ed.rn.txt HT.out.1;injection e1 with e1;injection e1 with e1 e2;subst e1;subst e2;obtain⟨_,_,e1,q2⟩:=hAV.ed.rn.txt HT.out.2.1;injection e1 with e1;injection e1 with e1 e2;subst e1;subst e2;obtain⟨_,_,e1,q3⟩:=hAV.lab.txt HT.out.2.2.1;injection e1 with e1;injection e1 with e1 e2;subst e1;subst e2;exact⟨hkV.cell 3,hkV.cell 2,q1,q2,q3⟩)
          have B3:=hIz (show Below W2.heap.size W2 W3.drew from HG.out.2.2.drew);have hS:=SR.out _ B3.out;have B33:=hIz (show Below W3.heap.size W3 W3.drew from bR.drew);clear hr;go_wp2_with fail;refine aF (fun V=>V.cell? ⟨s0,3,none⟩=some (.slice (some ⟨nb,no,none⟩) n c)∧V.cell? ⟨s0,2,none⟩=some (.slice (some ⟨lb2,lo,none⟩) l cl)∧V.cell? ⟨nb,no+fn,none⟩=some (.string tf)∧V.cell? ⟨nb,no+tn,none⟩=some (.string tt)∧V.cell? ⟨lb2,lo+ln,none⟩=some (.string tl)) 24 [(0,true),(1,true),(2,true),(3,true),(4,true),(5,true),(6,true),(7,true),(8,true),(9,true),(10,true),(11,true),(12,true),(13,true),(14,true),(15,true),(16,true),(17,true),(18,false),(19,true),(20,true),(21,true),(22,true),(23,true)] hS ?_;generalize W3.drew=V0 at B3 B33 hS ⊢
          iterate 18 refine aC rfl ?_
          refine aM rfl rfl (fun K hK=>?_);have hcon:=HRE.out.1 V0 B33.out;go_simp;refine hcon.mono ?_;clear hcon;rintro e W4 ⟨rfl,F4,hG4,hu4,hn4⟩;have B4:=hIz (show Below W2.heap.size W2 W4 from B3.out.trans (hu4.below (B:=W2.heap.size) (fun i _ e=>HG.out.2.1 i e) B3.out.size));have HG4:=hIz hG4;clear hG4 hu4 hn4;refine hK _ _ (fun _=>SR.out _ B4.out) ?_;clear hK K hS;have hS:=SR.out _ B4.out;(try simp only[Act.put,gA,gS,gZ,sA,sZ,sS])
          iterate 5 refine aC rfl ?_
          refine aG ?_;clear hS;have HB4:=hIz (show Below w.heap.size w W4 from tHn HB2.out B4.out);obtain⟨G4,rb,re⟩:=r;dsimp only at HG4 HRE ⊢
          by_cases h0:re=0
          ·subst h0;have hmore:=vM (G:=⟨N,E⟩) (x:=⟨tf,tl,tt⟩) (mG HT.out.1) (mG HT.out.2.1);have hok4:=(LY HF.out.2.2.2.2.1).edge ⟨tf,tl,tt⟩;rw[HRE.out.2] at hmore hok4;dsimp only at hmore hok4
           have hA4:=HR.out W4 HB4.out;have hnew:=yY W4 (nt:Int) PA pc PV hA4.pv (some ⟨lb2,lo,none⟩) cl labels hA4.lab F4 pg G4 HG4.out hok4 hA4.tab hA4.tlt;rw[HM.out.1,HM.out.2.1] at hnew;have HMO:=hIz hmore;have hk4:=HK2.out W4 B4.out;have c0:W4.cell? ⟨s0,0,none⟩=some (.int .i64 (nt:Int)):=hk4.cell 0;have c1:W4.cell? ⟨s0,1,none⟩=some (.slice PA m pc):=hk4.cell 1;have c2:W4.cell? ⟨s0,2,none⟩=some (.slice (some ⟨lb2,lo,none⟩) l cl):=hk4.cell 2;clear hmore hok4 hA4 hk4;go_wp2_with fail;refine hnew.mono ?_;clear hnew c0 c1 c2;rintro e W5 hq5;rcases hq5 with ⟨h2,-,-⟩|⟨-,z2,F2,B2,K2,rfl,hF2,hfr2,hb5,hbits2,-,hls2,-⟩
           ·rw[HF.out.2.2.2.2.2.1] at h2;cases h2
           ·have B5:=hIz (show Below W2.heap.size W2 W5 from tHn B4.out hb5);rw[HMO.out.1] at hF2 hbits2 hls2;have HKN:=hIz (show ∀a i j,a<nt→i<n→j<n→0≤knV n nt Bm K (a:Int) (i:Int) (j:Int)→0≤knV n nt B2 K2 (a:Int) (i:Int) (j:Int)∧knV n nt B2 K2 (a:Int) (i:Int) (j:Int)≤knV n nt Bm K (a:Int) (i:Int) (j:Int) from fun a i j ha hi hj h0=>by
             have e1:N.length=n:=HM.out.2.2.1;have l1:=MZ (B:=Bm) (K:=K) (by have:=HF.out.2.2.1;rw[e1,Int.toNat_natCast] at this;exact this) (by have:=HF.out.2.2.2.1;rw[e1,Int.toNat_natCast] at this;exact this) ha hi hj;have l2:=MZ (B:=B2) (K:=K2) (by have:=hbits2;rw[e1,Int.toNat_natCast] at this;exact this) (by have:=hls2;rw[e1,Int.toNat_natCast] at this;exact this) ha hi hj;exact l1.more (fun k i j h=>h.more HMO.out.1 HMO.out.2 k i j) l2 h0)
            have hkn1:=hIz (show ∀V,Below W5.heap.size W5 V→∀a i j:Int,Calls Tryz.prog 19 #[.pointer (some ⟨z,0,none⟩),.int .i64 a,.int .i64 i,.int .i64 j] V (Sam V (.int .i64 (knV n nt Bm K a i j))) from fun V hV a i j=>by
             have hB:=tHn B5.out hV;have hF1:=HF.out.1.below hB;rw[HM.out.2.2.1,Int.toNat_natCast] at hF1;exact qP V F z n nt Bm K hF1 hnt.1 hn32 hnt.2 HF.out.2.2.2.1.nd (fun y hy=>((HF.out.2.2.2.1.iff y).1 hy).2.2.2.2) a i j)
            have hkn2:=hIz (show ∀V,Below W5.heap.size W5 V→∀a i j:Int,Calls Tryz.prog 19 #[.pointer (some ⟨z2,0,none⟩),.int .i64 a,.int .i64 i,.int .i64 j] V (Sam V (.int .i64 (knV n nt B2 K2 a i j))) from fun V hV a i j=>by
             have hF1:=hF2.below hV;rw[HM.out.2.2.1,Int.toNat_natCast] at hF1;exact qP V F2 z2 n nt B2 K2 hF1 hnt.1 hn32 hnt.2 hls2.nd (fun y hy=>((hls2.iff y).1 hy).2.2.2.2) a i j)
            have HB5:=hIz (show Below w.heap.size w W5 from tHn HB2.out B5.out);have hc5:=hIz (show ∀V,Below W5.heap.size W5 V→V.cell? ⟨s0,0,none⟩=some (.int .i64 (nt:Int)) from fun V hV=>(HK2.out V (tHn B5.out hV)).cell 0);clear hF2 hfr2 hb5 hbits2 hls2;go_wp2;go_loopw [19] (fun kv wr=>∃k:Nat,k≤nt∧kv=.int .i64 (k:Int)∧Hid (Below W5.heap.size W5 wr)) (fun kv _=>nt-(intOf kv).toNat)
            case atStart=>exact⟨0,Nat.zero_le _,rfl,hIz bR⟩
            case round =>
             obtain⟨k,hk,rfl,hbk⟩:=hrel;have c0:=hc5.out wr hbk.out;by_cases hkl:k<nt
             ·have hklI:(k:Int)<(nt:Int):=by omega
              have hkw:IntKind.i64.wrap ((k:Int)+1)=(k:Int)+1:=IntWalk.i64_in _ (by omega);go_wp2;clear c0;go_loopw [20] (fun uv wr=>∃u:Nat,u≤n∧uv=.int .i64 (u:Int)∧Hid (Below W5.heap.size W5 wr)) (fun uv _=>n-(intOf uv).toNat)
              case atStart=>exact⟨0,Nat.zero_le _,rfl,hbk⟩
              case round =>
               obtain⟨u,hu,rfl,hbu⟩:=hrel;by_cases hul:u<n
               ·have hulI:(u:Int)<(n:Int):=by omega
                have huw:IntKind.i64.wrap ((u:Int)+1)=(u:Int)+1:=IntWalk.i64_in _ (by omega);go_wp2;go_loopw [21] (fun vv wr=>∃v:Nat,v≤n∧vv=.int .i64 (v:Int)∧Hid (Below W5.heap.size W5 wr)) (fun vv _=>n-(intOf vv).toNat)
                case atStart=>exact⟨0,Nat.zero_le _,rfl,hbu⟩
                case round =>
                 obtain⟨v,hv,rfl,hbv⟩:=hrel;by_cases hvl:v<n
                 ·have hvlI:(v:Int)<(n:Int):=by omega
                  have hvw:IntKind.i64.wrap ((v:Int)+1)=(v:Int)+1:=IntWalk.i64_in _ (by omega);have hq1:=hkn1.out wr hbv.out (k:Int) (u:Int) (v:Int);have hxy:=HKN.out k u v hkl hul hvl;obtain⟨x,hx⟩:∃x,knV n nt Bm K (k:Int) (u:Int) (v:Int)=x:=⟨_,rfl⟩;obtain⟨y,hy⟩:∃y,knV n nt B2 K2 (k:Int) (u:Int) (v:Int)=y:=⟨_,rfl⟩;have HY:=hIz hy;rw[hx,hy] at hxy;rw[hx] at hq1;clear hx hy;have HXY:=hIz hxy;clear hxy;go_wp2_with fail;refine hq1.mono ?_;clear hq1;rintro e V ⟨rfl,hV⟩;have HBV:=hIz (show Below W5.heap.size W5 V from tHn hbv.out hV);clear hV;have hq2:=hkn2.out V HBV.out (k:Int) (u:Int) (v:Int);rw[HY.out] at hq2;go_wp2_with fail;refine hq2.mono ?_;clear hq2;rintro e V6 ⟨rfl,hV⟩;have HB6:=hIz (show Below W5.heap.size W5 V6 from tHn HBV.out hV);clear hV;by_cases hx0:x<0
                  ·go_wp2;go_roundw
                   case rel=>exact⟨v+1,by omega,by simp,HB6⟩
                   case measure=>simp[intOf];omega
                  ·have hy0:¬y<0:=by have:=HXY.out (by omega);omega
                   have hyx:¬x<y:=by have:=HXY.out (by omega);omega
                   go_wp2;go_roundw
                   case rel=>exact⟨v+1,by omega,by simp,HB6⟩
                   case measure=>simp[intOf];omega
                 ·obtain rfl:v=n:=by omega
                  have hn0:¬((v:Int)<(v:Int)):=by omega
                  go_wp2;go_roundw
                  case rel=>exact⟨u+1,by omega,by simp,hbv⟩
                  case measure=>simp[intOf];omega
               ·obtain rfl:u=n:=by omega
                have hn0:¬((u:Int)<(u:Int)):=by omega
                go_wp2;go_roundw
                case rel=>exact⟨k+1,by omega,by simp,hbu⟩
                case measure=>simp[intOf];omega
             ·obtain rfl:k=nt:=by omega
              have hn0:¬((k:Int)<(k:Int)):=by omega
              have FIN:=hIz (show Below w.heap.size w wr from tHn HB5.out hbk.out);go_wp2;refine bodyPost_ret (v:=.bool true) (by simp[results,Tryz.f7,go_sem]) rfl ⟨rfl,FIN.out⟩
          ·have hre:(re==0)=false:=by simpa using h0
           have hre2:(re != 0)=true:=by simpa using h0
           go_wp2;refine bodyPost_ret (v:=.bool true) (by simp[results,Tryz.f7,go_sem]) rfl ⟨rfl,HB4.out⟩
end Go.Proofs.YteffnejneoocgaaGreatDoor
namespace Go.Proofs.YteffnejneoocgaaGreatDoor.edRead
open Go.ChangeShapes Go.WideShapes Go.ChangeAt Go.RowKit
set_option linter.unusedVariables false
theorem own:ownKnob Tryz.prog.godebug=none:=by kernel_rfl
theorem QG:laidOutB Tryz.prog=true:=by kernel_rfl

section
variable {H:Type} {enc:TypeId × Value→H} {P:Program} {w:World}
theorem mF{t e m fuel:Nat}{v:Value}{x:DataW H × List MemPlace}(ht:P.underlying t=some (.slice e))(hk:P.keyTypeAt m e=true)
  (h:DataW.trod enc P w 0 (fun _=>true) true fuel t [v]=some x) (hz:∀n∈x.1.weights P t,n≤reachBytes) :
  v=.slice none 0 0∨∃a n c,v=.slice (some a) n c∧n≤c∧c*P.bytesOf e≤reachBytes∧∀i,i<c→∃cs L,cs.length=P.cellsOf e∧(∀j,j<P.cellsOf e→w.cell? (a.add (i*P.cellsOf e+j))=cs[j]?)∧P.keyLits m e cs=some L:=by
 rcases Deep.open_slice ht h with ⟨hcs,_⟩|⟨a,len,cap,m',n',D,Pl,hcs,_,hl,hm,hmm,hx,hi⟩
 ·injection hcs with hcs;exact .inl hcs
 ·injection hcs with hcs;subst hcs;obtain rfl:m'=cap:=by rw[hmm];exact if_pos rfl
  refine .inr ⟨a,len,m',rfl,hl,?_,fun i hic=>?_⟩
  ·subst hx;exact hz (m'*P.bytesOf e) (by
    simp only[DataW.weights,ht,List.length_map,List.length_range,show len+(m'-len)=m' by omega]
    simp)
  ·obtain⟨cs',hc,ht'⟩:=hi i (by simpa using hic);obtain⟨_,hlen,hat⟩:=World.cells?_some hc;exact⟨cs',_,hlen,fun j hj=>by rw[← Deep.add_add];exact hat j hj,(keyLits_of_trod m e hk n' cs' _ ht').1⟩
end
theorem vN:Tryz.prog.cellsOf 9=1:=by kernel_rfl
theorem nI{n:Nat}{c:Value}{l:List Lit}(h:Tryz.prog.keyLits n 9 [c]=some l):∃s:Txt,c=.string s∧fH s:=by
 cases n with
 | zero=>simp[Program.keyLits] at h
 | succ n =>
  unfold Program.keyLits at h;simp only[Tryz.underlying9] at h
  cases c <;> simp at h;obtain⟨hw,_⟩:=h;refine⟨_,rfl,?_⟩;unfold fH;unfold maxLen at hw;omega
theorem QH{α:Type}:∀{l:List α},l.length=1→∃a,l=[a]
 | [a],_=>⟨a,rfl⟩
theorem GI{α:Type}:∀{l:List α},l.length=2→∃a b,l=[a,b]
 | [a,b],_=>⟨a,b,rfl⟩
theorem GJ{α:Type}:∀{l:List α},l.length=3→∃a b c,l=[a,b,c]
 | [a,b,c],_=>⟨a,b,c,rfl⟩
theorem AY:Tryz.prog.cellsOf 88=3:=by kernel_rfl
theorem GK:Tryz.prog.bytesOf 9=16:=by kernel_rfl
theorem BA:Tryz.prog.bytesOf 88=48:=by kernel_rfl
theorem QI{cs:List Value}{L:List Lit}(hl:cs.length=3)(h:Tryz.prog.keyLits 2 88 cs=some L):∃x:Ed,cs=x.cells∧BS x:=by
 obtain⟨c0,c1,c2,rfl⟩:=GJ hl;rw[show(2:Nat)=1+1 from rfl] at h;unfold Program.keyLits at h;simp only[Tryz.underlying88] at h
 split at h
 ·obtain⟨l,hl',_⟩:=Option.map_eq_some_iff.1 h;simp only[vN,List.mapM_cons,List.mapM_nil,bind,Option.bind_eq_some_iff] at hl'
  obtain⟨l0,h0,q0,⟨l1,h1,q1,⟨l2,h2,-⟩,-⟩,-⟩:=hl';simp at h0 h1 h2
  obtain⟨x,rfl,hx⟩:=nI h0;obtain⟨y,rfl,hy⟩:=nI h1;obtain⟨z,rfl,hz⟩:=nI h2;exact⟨⟨x,y,z⟩,rfl,hx,hy,hz⟩
 ·cases h

theorem zB{α:Type}[Inhabited α](cells:α→List Value)(k:Nat)(hlen:∀x,(cells x).length=k)(h0:0<k){W:World}{a:Addr}{n:Nat}(Q:α→Prop)(hg:∀i,i<n→∃x:α,Q x∧∀j,j<k→W.cell? (a.add (i*k+j))=(cells x)[j]?) :
  ∃l:List α,l.length=n∧(∀x∈l,Q x)∧aX W (some a) (l.flatMap cells):=by
 obtain⟨f,hf⟩:=Deep.choose_lt hg;refine⟨(List.range n).map f,by simp,?_,?_⟩
 ·intro x hx;obtain⟨i,hi,rfl⟩:=List.mem_map.1 hx;exact(hf i (List.mem_range.1 hi)).1
 ·intro j u hj;have hlt:=(gO.1 hj).1;rw[dL cells k hlen] at hlt;simp only[List.length_map,List.length_range] at hlt
  have hi:j / k<n:=Nat.div_lt_of_lt_mul (by rw[Nat.mul_comm];exact hlt);have hjm:j % k<k:=Nat.mod_lt _ h0;have hjd:j / k*k+j % k=j:=by rw[Nat.mul_comm];exact Nat.div_add_mod j k
  have h1:=cO cells k hlen ((List.range n).map f) (j / k) (j % k) (f (j / k)) (by rw[List.getElem?_map,List.getElem?_range hi];rfl) hjm;rw[hjd,hj] at h1;have h2:=(hf (j / k) hi).2 (j % k) hjm;rw[hjd,← h1] at h2;have h3:=(hf 0 (Nat.lt_of_le_of_lt (Nat.zero_le _) hi)).2 0 h0;have hlen0:=hlen (f 0);rw[gEz (by omega)] at h3;have hs:=World.cell?_spot h3;obtain⟨b,o,s⟩:=a;obtain rfl:s=none:=by simpa[Addr.add] using hs
  rw[Addr.add_lit] at h2;exact⟨b,o,rfl,h2⟩
instance:Inhabited Txt:=⟨ByteArray.empty⟩
instance:Inhabited Ed:=⟨⟨default,default,default⟩⟩
theorem MB(l:List Txt):(l.flatMap fun s=>[Value.string s])=aE l:=by
 induction l with
 | nil=>rfl
 | cons x l ih=>rw[List.flatMap_cons,ih];rfl

theorem vO{H:Type}{enc:TypeId × Value→H}{W:World}{fuel:Nat}{v:Value}{y:DataW H × List MemPlace}(t0:DataW.trod enc Tryz.prog W 0 (fun _=>true) true fuel 25 [v]=some y)
  (w0:∀n∈y.1.weights Tryz.prog 25,n≤reachBytes):∃A c N,v=.slice A (List.length N) c∧aX W A (aE N)∧N.length≤c∧N.length*16≤140737488355328∧∀s∈N,fH s:=by
 rcases mF Tryz.underlying25 (m:=2) (by kernel_rfl) t0 w0 with rfl|⟨a,n,c,rfl,hnc,hb,hi⟩
 ·exact⟨none,0,[],rfl,fun j u hj=>by simp[aE] at hj,Nat.le_refl _,by simp,by simp⟩
 ·obtain⟨l,hl,hq,hr⟩:=zB (fun s:Txt=>[Value.string s]) 1 (fun _=>rfl) (by decide) (W:=W) (a:=a) (n:=n) fH (fun i hin=>by
   obtain⟨cs,L,hlen,hat,hL⟩:=hi i (by omega);rw[vN] at hat hlen;obtain⟨c0,rfl⟩:=QH hlen;obtain⟨s,rfl,hs⟩:=nI hL;exact⟨s,hs,hat⟩)
  subst hl;rw[GK] at hb;simp only[reachBytes] at hb
  rw[MB] at hr;exact⟨_,c,l,rfl,hr,hnc,by omega,hq⟩
theorem MC{H:Type}{enc:TypeId × Value→H}{W:World}{fuel:Nat}{v:Value}{y:DataW H × List MemPlace}(t0:DataW.trod enc Tryz.prog W 0 (fun _=>true) true fuel 26 [v]=some y)
  (w0:∀n∈y.1.weights Tryz.prog 26,n≤reachBytes):∃A c E,v=.slice A (List.length E) c∧aX W A (aR E)∧E.length≤c∧E.length*48≤140737488355328∧∀x∈E,BS x:=by
 rcases mF Tryz.underlying26 (m:=2) (by kernel_rfl) t0 w0 with rfl|⟨a,n,c,rfl,hnc,hb,hi⟩
 ·exact⟨none,0,[],rfl,fun j u hj=>by simp[aR] at hj,Nat.le_refl _,by simp,by simp⟩
 ·obtain⟨l,hl,hq,hr⟩:=zB Ed.cells 3 (fun _=>rfl) (by decide) (W:=W) (a:=a) (n:=n) BS (fun i hin=>by
   obtain⟨cs,L,hlen,hat,hL⟩:=hi i (by omega);rw[AY] at hat hlen;obtain⟨f,rfl,hw⟩:=QI hlen hL;exact⟨f,hw,hat⟩)
  subst hl;rw[BA] at hb;simp only[reachBytes] at hb
  exact⟨_,c,l,rfl,hr,hnc,by omega,hq⟩
theorem xG:Tryz.prog.cellsOf 28=2:=by kernel_rfl
theorem qR:Tryz.prog.cellsOf 25=1:=by kernel_rfl
theorem GL:Tryz.prog.cellsOf 26=1:=by kernel_rfl

end Go.Proofs.YteffnejneoocgaaGreatDoor.edRead
namespace Go.Proofs.YteffnejneoocgaaGreatDoor.edRead
open Go.ChangeShapes Go.WideShapes Go.ChangeAt Go.RowKit
set_option linter.unusedVariables false
theorem nJ{n:Nat}{c:Value}{l:List Lit}(h:Tryz.prog.keyLits n 3 [c]=some l):∃x,c=.int .i64 x∧Wf x:=by
 cases n with
 | zero=>simp[Program.keyLits] at h
 | succ n =>
  unfold Program.keyLits at h;simp only[Tryz.underlying3] at h
  cases c <;> simp at h;rename_i k v
  obtain⟨⟨rfl,hw⟩,_⟩:=h;exact⟨v,rfl,hw⟩
theorem GM{n:Nat}{c:Value}{l:List Lit}(h:Tryz.prog.keyLits n 4 [c]=some l):∃x,c=.bool x:=by
 cases n with
 | zero=>simp[Program.keyLits] at h
 | succ n =>
  unfold Program.keyLits at h;simp only[Tryz.underlying4] at h
  cases c <;> simp at h;exact⟨_,rfl⟩
theorem lM:Tryz.prog.cellsOf 3=1:=by kernel_rfl
theorem BB:Tryz.prog.cellsOf 4=1:=by kernel_rfl
theorem GN:Tryz.prog.cellsOf 117=2:=by kernel_rfl
theorem BC:Tryz.prog.cellsOf 69=1:=by kernel_rfl
theorem BD:Tryz.prog.cellsOf 71=2:=by kernel_rfl
theorem xH:Tryz.prog.cellsOf 22=1:=by kernel_rfl
theorem GO:Tryz.prog.cellsOf 24=2:=by kernel_rfl
theorem BE:Tryz.prog.cellsOf 30=3:=by kernel_rfl
theorem GP:Tryz.prog.bytesOf 117=16:=by kernel_rfl
theorem BF:Tryz.prog.bytesOf 71=32:=by kernel_rfl
instance:Inhabited Sy:=⟨⟨false,0⟩⟩
instance:Inhabited Pv:=⟨⟨⟨0,[]⟩,none,0⟩⟩
theorem MD{cs:List Value}{L:List Lit}(hl:cs.length=2)(h:Tryz.prog.keyLits 2 117 cs=some L):∃s:Sy,cs=s.cells∧Wf s.at_:=by
 obtain⟨c0,c1,rfl⟩:=GI hl;rw[show(2:Nat)=1+1 from rfl] at h;unfold Program.keyLits at h;simp only[Tryz.underlying117] at h
 split at h
 ·obtain⟨l,hl',_⟩:=Option.map_eq_some_iff.1 h;simp only[BB,lM,List.mapM_cons,List.mapM_nil,bind,Option.bind_eq_some_iff] at hl'
  obtain⟨l0,h0,q0,⟨l1,h1,-⟩,-⟩:=hl';simp at h0 h1
  obtain⟨x,rfl⟩:=GM h0;obtain⟨y,rfl,hy⟩:=nJ h1;exact⟨⟨x,y⟩,rfl,hy⟩
 ·cases h
theorem GQ{H:Type}{enc:TypeId × Value→H}{W:World}{fuel:Nat}{v:Value}{y:DataW H × List MemPlace}(t0:DataW.trod enc Tryz.prog W 0 (fun _=>true) true fuel 69 [v]=some y)
  (w0:∀n∈y.1.weights Tryz.prog 69,n≤reachBytes):∃A c S,v=.slice A (List.length S) c∧aX W A (dU S)∧S.length≤c∧S.length*16≤140737488355328∧∀s∈S,Wf s.at_:=by
 rcases mF Tryz.underlying69 (m:=2) (by kernel_rfl) t0 w0 with rfl|⟨a,n,c,rfl,hnc,hb,hi⟩
 ·exact⟨none,0,[],rfl,fun j u hj=>by simp[dU] at hj,Nat.le_refl _,by simp,by simp⟩
 ·obtain⟨l,hl,hq,hr⟩:=zB Sy.cells 2 (fun _=>rfl) (by decide) (W:=W) (a:=a) (n:=n) (fun s=>Wf s.at_) (fun i hin=>by
   obtain⟨cs,L,hlen,hat,hL⟩:=hi i (by omega);rw[GN] at hat hlen;obtain⟨f,rfl,hw⟩:=MD hlen hL;exact⟨f,hw,hat⟩)
  subst hl;rw[GP] at hb;simp only[reachBytes] at hb
  exact⟨_,c,l,rfl,hr,hnc,by omega,hq⟩
def ME(v:Pv):Prop:=Wf v.pr.head∧v.pr.body.length≤v.cap∧v.pr.body.length*16≤140737488355328∧∀s∈v.pr.body,Wf s.at_
theorem pI{H:Type}{P:Program}{e:TypeId}{d:DataW H}:∀{l:List (DataW H)},d∈l→∀n∈d.weights P e,n∈DataW.weightsAll P e l
 | x::l,h,n,hn=>by
  rw[DataW.weightsAll,List.mem_append];rcases List.mem_cons.1 h with rfl|h
  ·exact .inl hn
  ·exact .inr (pI h n hn)
theorem GR{H:Type}{enc:TypeId × Value→H}{W:World}{fuel:Nat}{cs:List Value}{y:DataW H × List MemPlace}(hl:cs.length=2)(t:DataW.trod enc Tryz.prog W 0 (fun _=>true) true fuel 71 cs=some y)
  (hz:∀n∈y.1.weights Tryz.prog 71,n≤reachBytes):∃v:Pv,cs=v.cells∧aX W v.adr (dU v.pr.body)∧ME v:=by
 obtain⟨c0,c1,rfl⟩:=GI hl;obtain⟨y0,y1,n,hx,-,t0,t1⟩:=trod_struct2 Tryz.underlying71 t;simp only[lM,BC,List.drop_zero,List.take_succ_cons,List.take_zero,List.drop_succ_cons] at t0 t1
 subst hx;have w1:∀n∈y1.1.weights Tryz.prog 69,n≤reachBytes:=fun n hn=>hz n (by
  simp only[DataW.weights,Tryz.underlying71,DataW.weightsEach,List.map_cons,List.map_nil,List.mem_append]
  exact .inr (.inl hn))
 obtain⟨h,e,-,hw⟩:=DataW.trod_int Tryz.underlying3 t0;injection e with e _;subst e;obtain⟨A,c,S,rfl,hr,h1,h2,h3⟩:=GQ t1 w1;exact⟨⟨⟨h,S⟩,A,c⟩,rfl,hr,hw,h1,h2,h3⟩
theorem BG{H:Type}{enc:TypeId × Value→H}{W:World}{fuel:Nat}{v:Value}{y:DataW H × List MemPlace}(t0:DataW.trod enc Tryz.prog W 0 (fun _=>true) true fuel 22 [v]=some y)
  (w0:∀n∈y.1.weights Tryz.prog 22,n≤reachBytes):∃A c PV,v=.slice A (List.length PV) c∧PvR W A PV∧PV.length≤c∧PV.length*32≤140737488355328∧∀x∈PV,ME x:=by
 rcases Deep.open_slice Tryz.underlying22 t0 with ⟨hcs,_⟩|⟨a,len,cap,m',n',D,Pl,hcs,_,hl,hm,hmm,hx,hi⟩
 ·injection hcs with hcs;subst hcs;exact⟨none,0,[],rfl,⟨fun j u hj=>by simp[cY] at hj,by simp⟩,Nat.le_refl _,by simp,by simp⟩
 ·injection hcs with hcs;subst hcs;obtain rfl:m'=cap:=by rw[hmm];exact if_pos rfl
  subst hx;have hb:=w0 (m'*Tryz.prog.bytesOf 71) (by
   simp only[DataW.weights,Tryz.underlying22,List.length_map,List.length_range,show len+(m'-len)=m' by omega]
   simp)
  have hd:∀i,i<len→∀n∈(D i).weights Tryz.prog 71,n≤reachBytes:=fun i hi' n hn=>w0 n (by
   simp only[DataW.weights,Tryz.underlying22,List.mem_cons,List.mem_append]
   exact .inr (.inl (pI (List.mem_map.2 ⟨i,List.mem_range.2 hi',rfl⟩) n hn)))
  obtain⟨l,hll,hq,hr⟩:=zB Pv.cells 2 (fun _=>rfl) (by decide) (W:=W) (a:=a) (n:=len) (fun v=>aX W v.adr (dU v.pr.body)∧ME v) (fun i hin=>by
   obtain⟨cs',hc,ht'⟩:=hi i (by omega);obtain⟨_,hlen,hat⟩:=World.cells?_some hc;rw[BD] at hlen hat;obtain⟨v,rfl,h1,h2⟩:=GR hlen ht' (hd i hin);exact⟨v,⟨h1,h2⟩,fun j hj=>by
    have:=hat j hj;rw[Deep.add_add] at this;exact this⟩)
  subst hll;rw[BF] at hb;simp only[reachBytes] at hb
  exact⟨_,m',l,rfl,⟨hr,fun v hv=>(hq v hv).1⟩,hl,by omega,fun v hv=>(hq v hv).2⟩
end Go.Proofs.YteffnejneoocgaaGreatDoor.edRead
namespace Go.Proofs.YteffnejneoocgaaGreatDoor.edRead
open Go.ChangeShapes Go.WideShapes Go.ChangeAt Go.RowKit
set_option linter.unusedVariables false
theorem GS:Tryz.prog.cellsOf 32=8:=by kernel_rfl
theorem GT{α:Type}:∀{l:List α},l.length=8→∃a b c d e f g h,l=[a,b,c,d,e,f,g,h]
 | [a,b,c,d,e,f,g,h],_=>⟨a,b,c,d,e,f,g,h,rfl⟩
theorem SP{H:Type}{enc:TypeId × Value→H}{W:World}{fuel:Nat}{c0 c1:Value}{y:DataW H × List MemPlace}(hf:DataW.trod enc Tryz.prog W 0 (fun _=>true) true fuel 24 [c0,c1]=some y)
  (hz:∀n∈y.1.weights Tryz.prog 24,n≤reachBytes):∃(nts:Int) (A:Option Addr) (c:Nat) (PV:List Pv),c0=.int .i64 nts∧c1=.slice A PV.length c∧Wf nts∧PvR W A PV∧PV.length≤c∧PV.length*32≤140737488355328∧∀x∈PV,ME x:=by
 obtain⟨y0,y1,n,rfl,-,t0,t1⟩:=trod_struct2 Tryz.underlying24 hf;simp only[lM,xH,List.drop_zero,List.take_succ_cons,List.take_zero,List.drop_succ_cons] at t0 t1
 have w1:∀n∈y1.1.weights Tryz.prog 22,n≤reachBytes:=fun n hn=>hz n (by
  simp only[DataW.weights,Tryz.underlying24,DataW.weightsEach,List.map_cons,List.map_nil,List.mem_append]
  exact .inr (.inl hn))
 obtain⟨nts,e,-,hw⟩:=DataW.trod_int Tryz.underlying3 t0;injection e with e _;obtain⟨A,c,PV,e2,h1⟩:=BG t1 w1;exact⟨nts,A,c,PV,e,e2,hw,h1⟩
theorem MF{H:Type}{enc:TypeId × Value→H}{W:World}{fuel:Nat}{c0 c1:Value}{y:DataW H × List MemPlace}(hf:DataW.trod enc Tryz.prog W 0 (fun _=>true) true fuel 28 [c0,c1]=some y)
  (hz:∀n∈y.1.weights Tryz.prog 28,n≤reachBytes):∃A c B d N E,c0=.slice A (List.length N) c∧c1=.slice B (List.length E) d∧lN W A c B d N E:=by
 obtain⟨y0,y1,n,rfl,-,t0,t1⟩:=trod_struct2 Tryz.underlying28 hf;simp only[qR,GL,List.drop_zero,List.take_succ_cons,List.take_zero,List.drop_succ_cons] at t0 t1
 have w0:∀n∈y0.1.weights Tryz.prog 25,n≤reachBytes:=fun n hn=>hz n (by
  simp only[DataW.weights,Tryz.underlying28,DataW.weightsEach,List.map_cons,List.map_nil,List.mem_append]
  exact .inl hn)
 have w1:∀n∈y1.1.weights Tryz.prog 26,n≤reachBytes:=fun n hn=>hz n (by
  simp only[DataW.weights,Tryz.underlying28,DataW.weightsEach,List.map_cons,List.map_nil,List.mem_append]
  exact .inr (.inl hn))
 obtain⟨A,c,N,e0,hr0,hc0,hb0,hq0⟩:=vO t0 w0;obtain⟨B,d,E,e1,hr1,hc1,hb1,hq1⟩:=MC t1 w1;exact⟨A,c,B,d,N,E,e0,e1,hr0,hr1,hc0,hc1,hb0,hb1,hq0,hq1⟩
theorem QJ{H:Type}{enc:TypeId × Value→H}{W:World}{fuel:Nat}{c0 c1 c2:Value}{y:DataW H × List MemPlace}(hf:DataW.trod enc Tryz.prog W 0 (fun _=>true) true fuel 30 [c0,c1,c2]=some y) :
  ∃k i j:Int,c0=.int .i64 k∧c1=.int .i64 i∧c2=.int .i64 j∧Wf k∧Wf i∧Wf j:=by
 have hk:=(keyLits_of_trod 2 30 (by kernel_rfl) fuel _ _ hf).1;rw[show(2:Nat)=1+1 from rfl] at hk;unfold Program.keyLits at hk;simp only[Tryz.underlying30] at hk
 split at hk
 ·obtain⟨l,hl',_⟩:=Option.map_eq_some_iff.1 hk;simp only[lM,List.mapM_cons,List.mapM_nil,bind,Option.bind_eq_some_iff] at hl'
  obtain⟨l0,h0,q0,⟨l1,h1,q1,⟨l2,h2,-⟩,-⟩,-⟩:=hl';simp at h0 h1 h2
  obtain⟨x,e0,hx⟩:=nJ h0;obtain⟨y,e1,hy⟩:=nJ h1;obtain⟨z,e2,hz⟩:=nJ h2;exact⟨x,y,z,e0,e1,e2,hx,hy,hz⟩
 ·cases hk
theorem QK{H:Type}{enc:TypeId × Value→H}{W:World}{base:Nat}{v:Value}{d0:DataW H}{p0:List MemPlace}(hv:Value.okWide Tryz.prog W .any base 32 v)(h:DataW.Trod enc Tryz.prog W 0 (fun _=>true) true 32 v d0 p0)
  (hz:∀n∈d0.weights Tryz.prog 32,n≤reachBytes):∃(nts:Int) (PA:Option Addr) (pc:Nat) (PV:List Pv) (LA:Option Addr) (cl:Nat) (M:List Txt) (A:Option Addr) (c:Nat) (B:Option Addr) (d:Nat) (N:List Txt) (E:List Ed) (f0 f1 f2:Int),
   v=.agg (BK nts PA PV.length pc LA M.length cl A N.length c B E.length d f0 f1 f2)∧Wf nts∧(Wf f0∧Wf f1∧Wf f2)∧(qF W→LZ W PA PV LA M A c B d N E):=by
 obtain⟨cs,rfl,hcs⟩:=okWide_struct Tryz.underlying32 hv;rw[GS] at hcs;obtain⟨v0,v1,v2,v3,v4,v5,v6,v7,hc⟩:=GT (l:=cs.toList) (by simpa using hcs);obtain rfl:cs=#[v0,v1,v2,v3,v4,v5,v6,v7]:=by cases cs;simp_all
 obtain⟨fuel,hf⟩:=h;obtain⟨xs,n,-,hx,-,hlen,hF⟩:=DataW.trod_struct Tryz.underlying32 hf;match xs,hlen with
 | [y0,y1,y2,y3],_ =>
  have t0:=hF 0 _ rfl;have t1:=hF 1 _ rfl;have t2:=hF 2 _ rfl;have t3:=hF 3 _ rfl;simp only[Value.cells,GO,qR,xG,BE,List.drop_zero,List.take_succ_cons,List.take_zero,List.drop_succ_cons,List.getElem?_cons_zero,List.getElem?_cons_succ,Option.some.injEq,exists_eq_left'] at t0 t1 t2 t3
  injection hx with hx1 hx2;subst hx1;have w0:∀n∈y0.1.weights Tryz.prog 24,n≤reachBytes:=fun n hn=>hz n (by
   simp only[DataW.weights,Tryz.underlying32,DataW.weightsEach,List.map_cons,List.map_nil,List.mem_append]
   exact .inl hn)
  have w1:∀n∈y1.1.weights Tryz.prog 25,n≤reachBytes:=fun n hn=>hz n (by
   simp only[DataW.weights,Tryz.underlying32,DataW.weightsEach,List.map_cons,List.map_nil,List.mem_append]
   exact .inr (.inl hn))
  have w2:∀n∈y2.1.weights Tryz.prog 28,n≤reachBytes:=fun n hn=>hz n (by
   simp only[DataW.weights,Tryz.underlying32,DataW.weightsEach,List.map_cons,List.map_nil,List.mem_append]
   exact .inr (.inr (.inl hn)))
  obtain⟨nts,PA,pc,PV,rfl,rfl,wn,hp1,hp2,hp3,hp4⟩:=SP t0 w0;obtain⟨LA,cl,M,rfl,hl1,hl2,hl3,hl4⟩:=vO t1 w1;obtain⟨A,c,B,d,N,E,rfl,rfl,hE⟩:=MF t2 w2;obtain⟨f0,f1,f2,rfl,rfl,rfl,hfs⟩:=QJ t3;exact⟨nts,PA,pc,PV,LA,cl,M,A,c,B,d,N,E,f0,f1,f2,rfl,wn,hfs,fun hT=>⟨hp1,hl1,hE,hT,World.block_lt_of_cell? W _ (hT 0 (by decide)),by omega,fun v hv=>by have:=(hp4 v hv).2.2.1;omega,by omega,hl4⟩⟩
end Go.Proofs.YteffnejneoocgaaGreatDoor.edRead
