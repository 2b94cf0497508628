/- The law DeltaKept of layer 23 returns true for every grammar, every list of labels, every graph and every list of edges, and leaves its arguments as they were: the tied cards Rows.DeltaKeptCardSaid and Rows.DeltaKeptUptoCardSaid, without conditions. -/
import Derived.Test.YtnokckdkaifibaaGreatDoorRows
import Derived.Test.YtnokckdkaifibaaGreatDoorTie
import Derived.Test.YtnokckdkaifibaaGreatDoorCards
import Derived.Deep.DeepHandedRow
import Derived.Lib.LaidTab
import Derived.LaidMore
import Derived.Stop.Joined
import Derived.SevenTiedAt
import Derived.Test.YtnokckdkaifibaaGreatDoorS17
import Derived.Test.YtnokckdkaifibaaGreatDoorS18
set_option linter.unusedVariables false
set_option linter.unusedSimpArgs false
set_option maxHeartbeats 16000000
set_option maxRecDepth 100000
namespace Go.Proofs.YtnokckdkaifibaaGreatDoor.deltaKept
open Go.ChangeShapes Go.WideShapes Go.ChangeAt Go.RowKit edRead
set_option linter.unusedVariables false
theorem VG : Tryz.prog.globalNamed "math/bits.deBruijn64tab" = some 1 := by kernel_rfl
theorem MR:(Tryz.prog.globals[1]?).map (·.type)=some 303:=by kernel_rfl
theorem MS:Tryz.prog.cellsOf 303=64:=by kernel_rfl
theorem QR:Tryz.prog.cellsOf 5=1:=by kernel_rfl
theorem UV{W:World}(h:laidMetH Tryz.prog Rows.deltaKeptRow.laid W):gG W:=by
 have ht : Lib.TabIs Tryz.prog W "math/bits.deBruijn64tab" .u8 (Lib.deBruijn64tab.map fun (k : Nat) => (k : Int)) :=
  Lib.tabIs_of_head (rest:=[]) VG MR Tryz.underlying303 Tryz.underlying5 QR MS h
 intro j hj;have:=ht.cell VG j (by rw[List.length_map];exact hj);rw[this];simp[List.getD,hj]

theorem VO(w:World)(hT:gG w)(n:Int)(A:Option Addr)(c:Nat)(PV:List Pv)(hP:Wf n∧PvR w A PV∧PV.length≤c∧PV.length*32≤140737488355328∧∀x∈PV,IP x)(LA:Option Addr)(cl:Nat)(M:List Txt)(hM:bJ w LA (aE M)∧M.length≤cl∧M.length*16≤140737488355328∧∀s∈M,dR s)(A2:Option Addr)(c2:Nat)(B2:Option Addr)(e2:Nat)(N:List Txt)(E:List Ed)(hE:qI w A2 c2 B2 e2 N E)(EA:Option Addr)(ec:Nat)(EL:List Ed)(hL:bJ w EA (aU EL)∧EL.length≤ec∧EL.length*48≤140737488355328∧∀x∈EL,nI x) :
  Calls Tryz.prog 5 #[.agg #[.int .i64 n,.slice A PV.length c],.slice LA M.length cl,dS A2 N.length c2 B2 E.length e2,.slice EA EL.length ec] w (Sam w (.bool true)):=
 MM w n A c PV LA cl M A2 c2 B2 e2 N E EA ec EL ⟨hP.2.1,hM.1,hE,hL.1,hL.2.2.2,hT⟩

theorem MT(H:Type)(enc:TypeId × Value→H)(W:World)(base:Nat)(args:Array Value)(ds gs:List (DataW H))(before:List MemPlace)
  (hval0:∀(j:Nat) t v,Tryz.f5.params[j]?=some t→args[j]?=some v→Value.okWide Tryz.prog W .any base t v)
  (hW:DataW.Whole enc Tryz.prog Tryz.f5.params.toList Rows.deltaKeptSpec.vars false W args.toList ds gs before)
  (hsz:(DataW.weightsEach Tryz.prog (Tryz.f5.params.toList++Rows.deltaKeptSpec.plain.varTypes Tryz.prog) (ds++gs)).all (·≤reachBytes)=true) (hL:laidMetH Tryz.prog Rows.deltaKeptRow.laid W) :
  Calls Tryz.prog 5 args W fun e W'=>∃v,e=.returned v∧Rows.deltaKeptSpec.post enc Tryz.prog Tryz.f5 false true false false W args v W':=by
 have hval:∀(j:Nat) t v,Tryz.f5.params[j]?=some t→args[j]?=some v→Value.okWide Tryz.prog W .any base t v:=hval0;have hW':=hW;obtain⟨p,q,hA0,hV,rfl,hfz,hnd⟩:=hW;have hA:DataW.TrodAll enc Tryz.prog W 0 (fun _=>true) true Tryz.f5.params.toList args.toList ds p:=hA0;rw[Tryz.params5] at hA hval hsz;obtain⟨v0,vs0,d0,ds0,p0,q0,hargs,rfl,rfl,h0,r0⟩:=trodAll_cons hA;obtain⟨v1,vs1,d1,ds1,p1,q1,rfl,rfl,rfl,h1,r1⟩:=trodAll_cons r0;obtain⟨v2,vs2,d2,ds2,p2,q2,rfl,rfl,rfl,h2,r2⟩:=trodAll_cons r1;obtain⟨v3,vs3,d3,ds3,p3,q3,rfl,rfl,rfl,h3,r3⟩:=trodAll_cons r2;obtain⟨rfl,rfl,rfl⟩:=trodAll_nil r3;obtain rfl:args=#[v0,v1,v2,v3]:=by cases args;simp_all
 obtain⟨rfl,rfl⟩:=trodVars_none hV;have hw0:∀n∈d0.weights Tryz.prog 32,n≤reachBytes:=fun n hn=>by
  have:=List.all_eq_true.1 hsz n (DataW.weights_mem_each (j:=0) (t:=32) (d:=d0) rfl rfl n hn);simpa using this
 have k0:=h0;have lt0:∀x∈p0,x.block<W.heap.size:=by obtain⟨m,hm⟩:=k0;exact DataW.trod_lt m _ _ _ hm
 obtain⟨n0,A0,c0,P0,rfl,hF0⟩:=QQ (hval 0 32 v0 rfl rfl) h0 hw0;have hw1:∀n∈d1.weights Tryz.prog 34,n≤reachBytes:=fun n hn=>by
  have:=List.all_eq_true.1 hsz n (DataW.weights_mem_each (j:=1) (t:=34) (d:=d1) rfl rfl n hn);simpa using this
 have k1:=h1;have lt1:∀x∈p1,x.block<W.heap.size:=by obtain⟨m,hm⟩:=k1;exact DataW.trod_lt m _ _ _ hm
 obtain⟨A1,c1,N1,rfl,hR1,hc1,hb1,hq1⟩:=MO (hval 1 34 v1 rfl rfl) h1 hw1;have hw2:∀n∈d2.weights Tryz.prog 52,n≤reachBytes:=fun n hn=>by
  have:=List.all_eq_true.1 hsz n (DataW.weights_mem_each (j:=2) (t:=52) (d:=d2) rfl rfl n hn);simpa using this
 have k2:=h2;have lt2:∀x∈p2,x.block<W.heap.size:=by obtain⟨m,hm⟩:=k2;exact DataW.trod_lt m _ _ _ hm
 obtain⟨A2,c2,B2,e2,N2,E2,rfl,hF2⟩:=CB (hval 2 52 v2 rfl rfl) h2 hw2;have hw3:∀n∈d3.weights Tryz.prog 40,n≤reachBytes:=fun n hn=>by
  have:=List.all_eq_true.1 hsz n (DataW.weights_mem_each (j:=3) (t:=40) (d:=d3) rfl rfl n hn);simpa using this
 have k3:=h3;have lt3:∀x∈p3,x.block<W.heap.size:=by obtain⟨m,hm⟩:=k3;exact DataW.trod_lt m _ _ _ hm
 obtain⟨A3,c3,N3,rfl,hR3,hc3,hb3,hq3⟩:=QP (hval 3 40 v3 rfl rfl) h3 hw3;clear hA0 hval0;refine(VO W (UV hL) n0 A0 c0 P0 hF0 A1 c1 N1 ⟨hR1,hc1,hb1,hq1⟩ A2 c2 B2 e2 N2 E2 hF2 A3 c3 N3 ⟨hR3,hc3,hb3,hq3⟩).mono fun e W' ⟨he,bel⟩=>?_
 subst he;exact⟨_,rfl,_,_,_,[],_,[],hW',trodAll_mk1 (shut_bool Tryz.underlying4 _),(trodAll_cons_mk (Below.trod tP (by kernel_rfl) (of_decide_eq_true (by kernel_rfl)) k0 bel lt0) (trodAll_cons_mk (Below.trod tP (by kernel_rfl) (of_decide_eq_true (by kernel_rfl)) k1 bel lt1) (trodAll_cons_mk (Below.trod tP (by kernel_rfl) (of_decide_eq_true (by kernel_rfl)) k2 bel lt2) (trodAll_cons_mk (Below.trod tP (by kernel_rfl) (of_decide_eq_true (by kernel_rfl)) k3 bel lt3) trodAll_mk0)))),rfl,bel.frame _,fun h=>by cases h⟩

noncomputable def pW(os:Os):World:=World.doorLaid Tryz.prog 14 os
theorem MU(os:Os):laidMetH Tryz.prog Rows.deltaKeptRow.laid ((pW os).forCall (fun _ _=>0) ⟨#[],#[.agg #[.int .i64 0,.slice none 0 0],.slice none 0 0,.agg #[.slice none 0 0,.slice none 0 0],.slice none 0 0],[]⟩).memory:=
 laidMetH_of_parts3 (fuel:=8) (laidMet_of_run' 8 (by kernel_rfl) (by kernel_rfl)) (by kernel_rfl) (by kernel_rfl)
theorem reads(os:Os){H:Type}(enc:TypeId × Value→H):∃places,DataW.whole enc Tryz.prog ((pW os).forCall (fun _ _=>0) ⟨#[],#[.agg #[.int .i64 0,.slice none 0 0],.slice none 0 0,.agg #[.slice none 0 0,.slice none 0 0],.slice none 0 0],[]⟩).memory Tryz.f5.params.toList Rows.deltaKeptSpec.vars false (#[.agg #[.int .i64 0,.slice none 0 0],.slice none 0 0,.agg #[.slice none 0 0,.slice none 0 0],.slice none 0 0]:Array Value).toList 8=some ([.agg [.lit (.int .i64 0),.nil],.nil,.agg [.nil,.nil],.nil],[],places):=
 ⟨[],by kernel_rfl⟩
theorem plain(f : FuncId)(fn : Func)(hf : Tryz.pinned.checked.prog.funcNamed "byway/bywaylaw23.DeltaKept" = some f)(hfn : Tryz.pinned.checked.prog.funcs[f]? = some fn) :
  true=Tryz.pinned.checked.prog.looks []∧∀(j:Nat) t,fn.params[j]?=some t→Tryz.pinned.checked.prog.wantsStandIn t=false:=by
 obtain rfl : f = 5 := Option.some.inj ((show Tryz.prog.funcNamed "byway/bywaylaw23.DeltaKept" = some 5 by kernel_rfl).symm.trans hf) |>.symm;obtain rfl:fn=Tryz.f5:=(Option.some.inj (Tryz.func5.symm.trans hfn)).symm;exact⟨by kernel_rfl,fun j t ht=>by
  rw[Tryz.params5] at ht;have hm:t∈[32,34,52,40]:=by simpa using Array.mem_of_getElem? ht
  have hall:([32,34,52,40].all fun u=>!Tryz.prog.wantsStandIn u)=true:=by kernel_rfl
  exact(show Tryz.prog.wantsStandIn t=false by simpa using List.all_eq_true.1 hall t hm)⟩
theorem TF(os:Os)(started:os.Started)(H:Type)(enc:TypeId × Value→H)(F:Stop.Interp) :
  ReturnsInHanded {} Tryz.checked os 5 .any ((OpenSpec.ofChange Rows.deltaKeptSpec).preRow enc Tryz.prog Tryz.f5 Rows.deltaKeptRow.domain false Rows.deltaKeptRow.laid) (((OpenSpec.ofChange Rows.deltaKeptSpec).at F).post enc Tryz.prog Tryz.f5 false true false false):=by
 obtain⟨places,hx⟩:=reads os enc;refine returnsInHanded_of_row (C:=Tryz.checked) (s:=OpenSpec.ofChange Rows.deltaKeptSpec) own started (by kernel_rfl) Tryz.func5
  (witness_row_at (enc:=enc) (C:=Tryz.checked) false (pW os) #[.agg #[.int .i64 0,.slice none 0 0],.slice none 0 0,.agg #[.slice none 0 0,.slice none 0 0],.slice none 0 0] rfl (by kernel_rfl) (by kernel_rfl) (by kernel_rfl)
   (OpenSpec.preRow_of_cond 8 hx (by kernel_rfl) (fun k hk=>by cases hk) (by kernel_rfl) (MU os))) ?_
 intro W base args ds gs before hval hW _ _ hsz hL _ _;exact MT H enc W base args ds gs before hval hW hsz hL
theorem VP:Rows.DeltaKeptSaid:=
 OpenClaim.holds_of_cond 5 Tryz.f5 rfl rfl rfl rfl rfl rfl rfl ⟨rfl,rfl,rfl,rfl,rfl⟩ rfl rfl rfl rfl rfl (by kernel_rfl) Tryz.func5 (by kernel_rfl)
  (of_decide_eq_true (by kernel_rfl)) (by unfold Func.isWrapper;first | (rw[if_pos (by decide +kernel)];kernel_rfl) | (rw[if_neg (by decide +kernel)];exact⟨rfl,rfl⟩))
  (fun os started H enc _ F=>by rw[OpenClaim.pre_eq_preRow];exact TF os started H enc F)
theorem proved:Rows.DeltaKeptCardSaid:=
 Claim7.holds_tied_plain_at .later [] _ _ _ _ VP (fun _ h=>by cases h) (by kernel_rfl) (fun _ h=>by cases h) deltaKept_row_tie rfl ⟨rfl,rfl⟩ (by kernel_rfl) rfl plain (by kernel_rfl)
#print axioms proved
end Go.Proofs.YtnokckdkaifibaaGreatDoor.deltaKept
