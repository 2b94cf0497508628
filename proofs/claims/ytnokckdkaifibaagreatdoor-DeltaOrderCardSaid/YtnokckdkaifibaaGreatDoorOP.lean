/- The law DeltaOrder of layer 23 returns true for every grammar, every list of labels and every graph, and leaves its arguments as they were: the tied cards Rows.DeltaOrderCardSaid and Rows.DeltaOrderUptoCardSaid, without conditions. -/
import Derived.Test.YtnokckdkaifibaaGreatDoorRows
import Derived.Test.YtnokckdkaifibaaGreatDoorTie
import Derived.Test.YtnokckdkaifibaaGreatDoorCards
import Derived.Deep.DeepHandedRow
import Derived.Lib.LaidTab
import Derived.LaidMore
import Derived.Stop.Joined
import Derived.SevenTiedAt
import Derived.Test.YtnokckdkaifibaaGreatDoorO18
import Derived.Test.YtnokckdkaifibaaGreatDoorO19
set_option linter.unusedVariables false
set_option linter.unusedSimpArgs false
set_option maxHeartbeats 16000000
set_option maxRecDepth 100000
namespace Go.Proofs.YtnokckdkaifibaaGreatDoor.deltaOrder
open Go.ChangeShapes Go.WideShapes Go.ChangeAt Go.RowKit edRead
set_option linter.unusedVariables false
theorem VN : Tryz.prog.globalNamed "math/bits.deBruijn64tab" = some 1 := by kernel_rfl
theorem MZ:(Tryz.prog.globals[1]?).map (·.type)=some 303:=by kernel_rfl
theorem NB:Tryz.prog.cellsOf 303=64:=by kernel_rfl
theorem QS:Tryz.prog.cellsOf 5=1:=by kernel_rfl
theorem VB{W:World}(h:laidMetH Tryz.prog Rows.deltaOrderRow.laid W):gI W:=by
 have ht : Lib.TabIs Tryz.prog W "math/bits.deBruijn64tab" .u8 (Lib.deBruijn64tab.map fun (k : Nat) => (k : Int)) :=
  Lib.tabIs_of_head (rest:=[]) VN MZ Tryz.underlying303 Tryz.underlying5 QS NB h
 intro j hj;have:=ht.cell VN j (by rw[List.length_map];exact hj);rw[this];simp[List.getD,hj]

theorem VU(w:World)(hT:gI w)(n:Int)(A:Option Addr)(c:Nat)(PV:List Pv)(hP:Wf n∧PvR w A PV∧PV.length≤c∧PV.length*32≤140737488355328∧∀x∈PV,IZ x)(LA:Option Addr)(cl:Nat)(M:List Txt)(hM:bO w LA (aG M)∧M.length≤cl∧M.length*16≤140737488355328∧∀s∈M,dA s)(A2:Option Addr)(c2:Nat)(B2:Option Addr)(e2:Nat)(N:List Txt)(E:List Ed)(hE:qL w A2 c2 B2 e2 N E) :
  Calls Tryz.prog 4 #[.agg #[.int .i64 n,.slice A PV.length c],.slice LA M.length cl,dX A2 N.length c2 B2 E.length e2] w (Sam w (.bool true)):=
 CD w n A c PV LA cl M A2 c2 B2 e2 N E ⟨hP.2.1,hM.1,hE,hT⟩

theorem NC(H:Type)(enc:TypeId × Value→H)(W:World)(base:Nat)(args:Array Value)(ds gs:List (DataW H))(before:List MemPlace)
  (hval0:∀(j:Nat) t v,Tryz.f4.params[j]?=some t→args[j]?=some v→Value.okWide Tryz.prog W .any base t v)
  (hW:DataW.Whole enc Tryz.prog Tryz.f4.params.toList Rows.deltaOrderSpec.vars false W args.toList ds gs before)
  (hsz:(DataW.weightsEach Tryz.prog (Tryz.f4.params.toList++Rows.deltaOrderSpec.plain.varTypes Tryz.prog) (ds++gs)).all (·≤reachBytes)=true) (hL:laidMetH Tryz.prog Rows.deltaOrderRow.laid W) :
  Calls Tryz.prog 4 args W fun e W'=>∃v,e=.returned v∧Rows.deltaOrderSpec.post enc Tryz.prog Tryz.f4 false true false false W args v W':=by
 have hval:∀(j:Nat) t v,Tryz.f4.params[j]?=some t→args[j]?=some v→Value.okWide Tryz.prog W .any base t v:=hval0;have hW':=hW;obtain⟨p,q,hA0,hV,rfl,hfz,hnd⟩:=hW;have hA:DataW.TrodAll enc Tryz.prog W 0 (fun _=>true) true Tryz.f4.params.toList args.toList ds p:=hA0;rw[Tryz.params4] at hA hval hsz;obtain⟨v0,vs0,d0,ds0,p0,q0,hargs,rfl,rfl,h0,r0⟩:=trodAll_cons hA;obtain⟨v1,vs1,d1,ds1,p1,q1,rfl,rfl,rfl,h1,r1⟩:=trodAll_cons r0;obtain⟨v2,vs2,d2,ds2,p2,q2,rfl,rfl,rfl,h2,r2⟩:=trodAll_cons r1;obtain⟨rfl,rfl,rfl⟩:=trodAll_nil r2;obtain rfl:args=#[v0,v1,v2]:=by cases args;simp_all
 obtain⟨rfl,rfl⟩:=trodVars_none hV;have hw0:∀n∈d0.weights Tryz.prog 32,n≤reachBytes:=fun n hn=>by
  have:=List.all_eq_true.1 hsz n (DataW.weights_mem_each (j:=0) (t:=32) (d:=d0) rfl rfl n hn);simpa using this
 have k0:=h0;have lt0:∀x∈p0,x.block<W.heap.size:=by obtain⟨m,hm⟩:=k0;exact DataW.trod_lt m _ _ _ hm
 obtain⟨n0,A0,c0,P0,rfl,hF0⟩:=QR (hval 0 32 v0 rfl rfl) h0 hw0;have hw1:∀n∈d1.weights Tryz.prog 34,n≤reachBytes:=fun n hn=>by
  have:=List.all_eq_true.1 hsz n (DataW.weights_mem_each (j:=1) (t:=34) (d:=d1) rfl rfl n hn);simpa using this
 have k1:=h1;have lt1:∀x∈p1,x.block<W.heap.size:=by obtain⟨m,hm⟩:=k1;exact DataW.trod_lt m _ _ _ hm
 obtain⟨A1,c1,N1,rfl,hR1,hc1,hb1,hq1⟩:=MW (hval 1 34 v1 rfl rfl) h1 hw1;have hw2:∀n∈d2.weights Tryz.prog 52,n≤reachBytes:=fun n hn=>by
  have:=List.all_eq_true.1 hsz n (DataW.weights_mem_each (j:=2) (t:=52) (d:=d2) rfl rfl n hn);simpa using this
 have k2:=h2;have lt2:∀x∈p2,x.block<W.heap.size:=by obtain⟨m,hm⟩:=k2;exact DataW.trod_lt m _ _ _ hm
 obtain⟨A2,c2,B2,e2,N2,E2,rfl,hF2⟩:=CI (hval 2 52 v2 rfl rfl) h2 hw2;clear hA0 hval0;refine(VU W (VB hL) n0 A0 c0 P0 hF0 A1 c1 N1 ⟨hR1,hc1,hb1,hq1⟩ A2 c2 B2 e2 N2 E2 hF2).mono fun e W' ⟨he,bel⟩=>?_
 subst he;exact⟨_,rfl,_,_,_,[],_,[],hW',trodAll_mk1 (shut_bool Tryz.underlying4 _),(trodAll_cons_mk (Below.trod xV (by kernel_rfl) (of_decide_eq_true (by kernel_rfl)) k0 bel lt0) (trodAll_cons_mk (Below.trod xV (by kernel_rfl) (of_decide_eq_true (by kernel_rfl)) k1 bel lt1) (trodAll_cons_mk (Below.trod xV (by kernel_rfl) (of_decide_eq_true (by kernel_rfl)) k2 bel lt2) trodAll_mk0))),rfl,bel.frame _,fun h=>by cases h⟩

noncomputable def qA(os:Os):World:=World.doorLaid Tryz.prog 14 os
theorem ND(os:Os):laidMetH Tryz.prog Rows.deltaOrderRow.laid ((qA os).forCall (fun _ _=>0) ⟨#[],#[.agg #[.int .i64 0,.slice none 0 0],.slice none 0 0,.agg #[.slice none 0 0,.slice none 0 0]],[]⟩).memory:=
 laidMetH_of_parts3 (fuel:=8) (laidMet_of_run' 8 (by kernel_rfl) (by kernel_rfl)) (by kernel_rfl) (by kernel_rfl)
theorem reads(os:Os){H:Type}(enc:TypeId × Value→H):∃places,DataW.whole enc Tryz.prog ((qA os).forCall (fun _ _=>0) ⟨#[],#[.agg #[.int .i64 0,.slice none 0 0],.slice none 0 0,.agg #[.slice none 0 0,.slice none 0 0]],[]⟩).memory Tryz.f4.params.toList Rows.deltaOrderSpec.vars false (#[.agg #[.int .i64 0,.slice none 0 0],.slice none 0 0,.agg #[.slice none 0 0,.slice none 0 0]]:Array Value).toList 8=some ([.agg [.lit (.int .i64 0),.nil],.nil,.agg [.nil,.nil]],[],places):=
 ⟨[],by kernel_rfl⟩
theorem plain(f : FuncId)(fn : Func)(hf : Tryz.pinned.checked.prog.funcNamed "byway/bywaylaw23.DeltaOrder" = some f)(hfn : Tryz.pinned.checked.prog.funcs[f]? = some fn) :
  true=Tryz.pinned.checked.prog.looks []∧∀(j:Nat) t,fn.params[j]?=some t→Tryz.pinned.checked.prog.wantsStandIn t=false:=by
 obtain rfl : f = 4 := Option.some.inj ((show Tryz.prog.funcNamed "byway/bywaylaw23.DeltaOrder" = some 4 by kernel_rfl).symm.trans hf) |>.symm;obtain rfl:fn=Tryz.f4:=(Option.some.inj (Tryz.func4.symm.trans hfn)).symm;exact⟨by kernel_rfl,fun j t ht=>by
  rw[Tryz.params4] at ht;have hm:t∈[32,34,52]:=by simpa using Array.mem_of_getElem? ht
  have hall:([32,34,52].all fun u=>!Tryz.prog.wantsStandIn u)=true:=by kernel_rfl
  exact(show Tryz.prog.wantsStandIn t=false by simpa using List.all_eq_true.1 hall t hm)⟩
theorem TK(os:Os)(started:os.Started)(H:Type)(enc:TypeId × Value→H)(F:Stop.Interp) :
  ReturnsInHanded {} Tryz.checked os 4 .any ((OpenSpec.ofChange Rows.deltaOrderSpec).preRow enc Tryz.prog Tryz.f4 Rows.deltaOrderRow.domain false Rows.deltaOrderRow.laid) (((OpenSpec.ofChange Rows.deltaOrderSpec).at F).post enc Tryz.prog Tryz.f4 false true false false):=by
 obtain⟨places,hx⟩:=reads os enc;refine returnsInHanded_of_row (C:=Tryz.checked) (s:=OpenSpec.ofChange Rows.deltaOrderSpec) own started (by kernel_rfl) Tryz.func4
  (witness_row_at (enc:=enc) (C:=Tryz.checked) false (qA os) #[.agg #[.int .i64 0,.slice none 0 0],.slice none 0 0,.agg #[.slice none 0 0,.slice none 0 0]] rfl (by kernel_rfl) (by kernel_rfl) (by kernel_rfl)
   (OpenSpec.preRow_of_cond 8 hx (by kernel_rfl) (fun k hk=>by cases hk) (by kernel_rfl) (ND os))) ?_
 intro W base args ds gs before hval hW _ _ hsz hL _ _;exact NC H enc W base args ds gs before hval hW hsz hL
theorem VV:Rows.DeltaOrderSaid:=
 OpenClaim.holds_of_cond 4 Tryz.f4 rfl rfl rfl rfl rfl rfl rfl ⟨rfl,rfl,rfl,rfl,rfl⟩ rfl rfl rfl rfl rfl (by kernel_rfl) Tryz.func4 (by kernel_rfl)
  (of_decide_eq_true (by kernel_rfl)) (by unfold Func.isWrapper;first | (rw[if_pos (by decide +kernel)];kernel_rfl) | (rw[if_neg (by decide +kernel)];exact⟨rfl,rfl⟩))
  (fun os started H enc _ F=>by rw[OpenClaim.pre_eq_preRow];exact TK os started H enc F)
theorem proved:Rows.DeltaOrderCardSaid:=
 Claim7.holds_tied_plain_at .later [] _ _ _ _ VV (fun _ h=>by cases h) (by kernel_rfl) (fun _ h=>by cases h) deltaOrder_row_tie rfl ⟨rfl,rfl⟩ (by kernel_rfl) rfl plain (by kernel_rfl)
#print axioms proved
end Go.Proofs.YtnokckdkaifibaaGreatDoor.deltaOrder
