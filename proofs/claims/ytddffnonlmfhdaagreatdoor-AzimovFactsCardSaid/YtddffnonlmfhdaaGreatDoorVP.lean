/- The law AzimovFacts of layer 18 returns true for every grammar, every list of labels, every graph, every fact and every number, and leaves its arguments as they were: the tied cards Rows.AzimovFactsCardSaid and Rows.AzimovFactsUptoCardSaid, without conditions. -/
import Derived.Test.YtddffnonlmfhdaaGreatDoorRows
import Derived.Test.YtddffnonlmfhdaaGreatDoorTie
import Derived.Test.YtddffnonlmfhdaaGreatDoorCards
import Derived.Deep.DeepHandedRow
import Derived.Lib.LaidTab
import Derived.LaidMore
import Derived.Stop.Joined
import Derived.SevenTiedAt
import Derived.Test.YtddffnonlmfhdaaGreatDoorV17
import Derived.Test.YtddffnonlmfhdaaGreatDoorV18
set_option linter.unusedVariables false
set_option linter.unusedSimpArgs false
set_option maxHeartbeats 16000000
set_option maxRecDepth 100000
namespace Go.Proofs.YtddffnonlmfhdaaGreatDoor.azimovFacts
open Go.ChangeShapes Go.WideShapes Go.ChangeAt Go.RowKit edRead
set_option linter.unusedVariables false
theorem XL : Tryz.prog.globalNamed "math/bits.deBruijn64tab" = some 1 := by kernel_rfl
theorem OH:(Tryz.prog.globals[1]?).map (·.type)=some 285:=by kernel_rfl
theorem OI:Tryz.prog.cellsOf 285=64:=by kernel_rfl
theorem SP:Tryz.prog.cellsOf 5=1:=by kernel_rfl
theorem XB{W:World}(h:laidMetH Tryz.prog Rows.azimovFactsRow.laid W):jC W:=by
 have ht : Lib.TabIs Tryz.prog W "math/bits.deBruijn64tab" .u8 (Lib.deBruijn64tab.map fun (k : Nat) => (k : Int)) :=
  Lib.tabIs_of_head (rest:=[]) XL OH Tryz.underlying285 Tryz.underlying5 SP OI h
 intro j hj;have:=ht.cell XL j (by rw[List.length_map];exact hj);rw[this];simp[List.getD,hj]

theorem XV(w:World)(hT:jC w)(n:Int)(A:Option Addr)(c:Nat)(PV:List Pv)(hP:Wf n∧PvR w A PV∧PV.length≤c∧PV.length*32≤140737488355328∧∀x∈PV,KA x)(LA:Option Addr)(cl:Nat)(M:List Txt)(hM:aU w LA (aE M)∧M.length≤cl∧M.length*16≤140737488355328∧∀s∈M,eP s)(A2:Option Addr)(c2:Nat)(B2:Option Addr)(e2:Nat)(N:List Txt)(E:List Ed)(hE:lB w A2 c2 B2 e2 N E)(k i j:Int)(_hf:Wf k∧Wf i∧Wf j)(early:Int)(_he:Wf early) :
  Calls Tryz.prog 5 #[.agg #[.int .i64 n,.slice A PV.length c],.slice LA M.length cl,cP A2 N.length c2 B2 E.length e2,.agg #[.int .i64 k,.int .i64 i,.int .i64 j],.int .i64 early] w (Sam w (.bool true)):=
 DI w hT n A c PV hP.2.1 (fun v hv=>(hP.2.2.2.2 v hv).2.2.1) hP.2.2.2.1 LA cl M hM.1 hM.2.2.1 A2 c2 B2 e2 N E hE k i j early

theorem OJ(H:Type)(enc:TypeId × Value→H)(W:World)(base:Nat)(args:Array Value)(ds gs:List (DataW H))(before:List MemPlace)
  (hval0:∀(j:Nat) t v,Tryz.f5.params[j]?=some t→args[j]?=some v→Value.okWide Tryz.prog W .any base t v)
  (hW:DataW.Whole enc Tryz.prog Tryz.f5.params.toList Rows.azimovFactsSpec.vars false W args.toList ds gs before)
  (hsz:(DataW.weightsEach Tryz.prog (Tryz.f5.params.toList++Rows.azimovFactsSpec.plain.varTypes Tryz.prog) (ds++gs)).all (·≤reachBytes)=true) (hL:laidMetH Tryz.prog Rows.azimovFactsRow.laid W) :
  Calls Tryz.prog 5 args W fun e W'=>∃v,e=.returned v∧Rows.azimovFactsSpec.post enc Tryz.prog Tryz.f5 false true false false W args v W':=by
 have hval:∀(j:Nat) t v,Tryz.f5.params[j]?=some t→args[j]?=some v→Value.okWide Tryz.prog W .any base t v:=hval0;have hW':=hW;obtain⟨p,q,hA0,hV,rfl,hfz,hnd⟩:=hW;have hA:DataW.TrodAll enc Tryz.prog W 0 (fun _=>true) true Tryz.f5.params.toList args.toList ds p:=hA0;rw[Tryz.params5] at hA hval hsz;obtain⟨v0,vs0,d0,ds0,p0,q0,hargs,rfl,rfl,h0,r0⟩:=trodAll_cons hA;obtain⟨v1,vs1,d1,ds1,p1,q1,rfl,rfl,rfl,h1,r1⟩:=trodAll_cons r0;obtain⟨v2,vs2,d2,ds2,p2,q2,rfl,rfl,rfl,h2,r2⟩:=trodAll_cons r1;obtain⟨v3,vs3,d3,ds3,p3,q3,rfl,rfl,rfl,h3,r3⟩:=trodAll_cons r2;obtain⟨v4,vs4,d4,ds4,p4,q4,rfl,rfl,rfl,h4,r4⟩:=trodAll_cons r3;obtain⟨rfl,rfl,rfl⟩:=trodAll_nil r4;obtain rfl:args=#[v0,v1,v2,v3,v4]:=by cases args;simp_all
 obtain⟨rfl,rfl⟩:=trodVars_none hV;have hw0:∀n∈d0.weights Tryz.prog 50,n≤reachBytes:=fun n hn=>by
  have:=List.all_eq_true.1 hsz n (DataW.weights_mem_each (j:=0) (t:=50) (d:=d0) rfl rfl n hn);simpa using this
 have k0:=h0;have lt0:∀x∈p0,x.block<W.heap.size:=by obtain⟨m,hm⟩:=k0;exact DataW.trod_lt m _ _ _ hm
 obtain⟨n0,A0,c0,P0,rfl,hF0⟩:=SO (hval 0 50 v0 rfl rfl) h0 hw0;have hw1:∀n∈d1.weights Tryz.prog 26,n≤reachBytes:=fun n hn=>by
  have:=List.all_eq_true.1 hsz n (DataW.weights_mem_each (j:=1) (t:=26) (d:=d1) rfl rfl n hn);simpa using this
 have k1:=h1;have lt1:∀x∈p1,x.block<W.heap.size:=by obtain⟨m,hm⟩:=k1;exact DataW.trod_lt m _ _ _ hm
 obtain⟨A1,c1,N1,rfl,hR1,hc1,hb1,hq1⟩:=OE (hval 1 26 v1 rfl rfl) h1 hw1;have hw2:∀n∈d2.weights Tryz.prog 34,n≤reachBytes:=fun n hn=>by
  have:=List.all_eq_true.1 hsz n (DataW.weights_mem_each (j:=2) (t:=34) (d:=d2) rfl rfl n hn);simpa using this
 have k2:=h2;have lt2:∀x∈p2,x.block<W.heap.size:=by obtain⟨m,hm⟩:=k2;exact DataW.trod_lt m _ _ _ hm
 obtain⟨A2,c2,B2,e2,N2,E2,rfl,hF2⟩:=DM (hval 2 34 v2 rfl rfl) h2 hw2;have k3:=h3;have lt3:∀x∈p3,x.block<W.heap.size:=by obtain⟨m,hm⟩:=k3;exact DataW.trod_lt m _ _ _ hm
 obtain⟨x3,y3,z3,rfl,hF3⟩:=OG (hval 3 52 v3 rfl rfl) h3;obtain⟨x4,rfl,rfl,rfl,wf4⟩:=Go.ChangeShapes.open_int Tryz.underlying3 (hval 4 3 v4 rfl rfl) h4;clear hA0 hval0;refine(XV W (XB hL) n0 A0 c0 P0 hF0 A1 c1 N1 ⟨hR1,hc1,hb1,hq1⟩ A2 c2 B2 e2 N2 E2 hF2 x3 y3 z3 hF3 x4 wf4).mono fun e W' ⟨he,bel⟩=>?_
 subst he;exact⟨_,rfl,_,_,_,[],_,[],hW',trodAll_mk1 (shut_bool Tryz.underlying4 _),(trodAll_cons_mk (Below.trod uA (by kernel_rfl) (of_decide_eq_true (by kernel_rfl)) k0 bel lt0) (trodAll_cons_mk (Below.trod uA (by kernel_rfl) (of_decide_eq_true (by kernel_rfl)) k1 bel lt1) (trodAll_cons_mk (Below.trod uA (by kernel_rfl) (of_decide_eq_true (by kernel_rfl)) k2 bel lt2) (trodAll_cons_mk (Below.trod uA (by kernel_rfl) (of_decide_eq_true (by kernel_rfl)) k3 bel lt3) (trodAll_cons_mk (Go.ChangeShapes.shut_int Tryz.underlying3 wf4) trodAll_mk0))))),rfl,bel.frame _,fun h=>by cases h⟩

noncomputable def pY(os:Os):World:=World.doorLaid Tryz.prog 14 os
theorem OK(os:Os):laidMetH Tryz.prog Rows.azimovFactsRow.laid ((pY os).forCall (fun _ _=>0) ⟨#[],#[.agg #[.int .i64 0,.slice none 0 0],.slice none 0 0,.agg #[.slice none 0 0,.slice none 0 0],.agg #[.int .i64 0,.int .i64 0,.int .i64 0],.int .i64 0],[]⟩).memory:=
 laidMetH_of_parts3 (fuel:=8) (laidMet_of_run' 8 (by kernel_rfl) (by kernel_rfl)) (by kernel_rfl) (by kernel_rfl)
theorem reads(os:Os){H:Type}(enc:TypeId × Value→H):∃places,DataW.whole enc Tryz.prog ((pY os).forCall (fun _ _=>0) ⟨#[],#[.agg #[.int .i64 0,.slice none 0 0],.slice none 0 0,.agg #[.slice none 0 0,.slice none 0 0],.agg #[.int .i64 0,.int .i64 0,.int .i64 0],.int .i64 0],[]⟩).memory Tryz.f5.params.toList Rows.azimovFactsSpec.vars false (#[.agg #[.int .i64 0,.slice none 0 0],.slice none 0 0,.agg #[.slice none 0 0,.slice none 0 0],.agg #[.int .i64 0,.int .i64 0,.int .i64 0],.int .i64 0]:Array Value).toList 8=some ([.agg [.lit (.int .i64 0),.nil],.nil,.agg [.nil,.nil],.agg [.lit (.int .i64 0),.lit (.int .i64 0),.lit (.int .i64 0)],.lit (.int .i64 0)],[],places):=
 ⟨[],by kernel_rfl⟩
theorem plain(f : FuncId)(fn : Func)(hf : Tryz.pinned.checked.prog.funcNamed "byway/bywaylaw18.AzimovFacts" = some f)(hfn : Tryz.pinned.checked.prog.funcs[f]? = some fn) :
  true=Tryz.pinned.checked.prog.looks []∧∀(j:Nat) t,fn.params[j]?=some t→Tryz.pinned.checked.prog.wantsStandIn t=false:=by
 obtain rfl : f = 5 := Option.some.inj ((show Tryz.prog.funcNamed "byway/bywaylaw18.AzimovFacts" = some 5 by kernel_rfl).symm.trans hf) |>.symm;obtain rfl:fn=Tryz.f5:=(Option.some.inj (Tryz.func5.symm.trans hfn)).symm;exact⟨by kernel_rfl,fun j t ht=>by
  rw[Tryz.params5] at ht;have hm:t∈[50,26,34,52,3]:=by simpa using Array.mem_of_getElem? ht
  have hall:([50,26,34,52,3].all fun u=>!Tryz.prog.wantsStandIn u)=true:=by kernel_rfl
  exact(show Tryz.prog.wantsStandIn t=false by simpa using List.all_eq_true.1 hall t hm)⟩
theorem VK(os:Os)(started:os.Started)(H:Type)(enc:TypeId × Value→H)(F:Stop.Interp) :
  ReturnsInHanded {} Tryz.checked os 5 .any ((OpenSpec.ofChange Rows.azimovFactsSpec).preRow enc Tryz.prog Tryz.f5 Rows.azimovFactsRow.domain false Rows.azimovFactsRow.laid) (((OpenSpec.ofChange Rows.azimovFactsSpec).at F).post enc Tryz.prog Tryz.f5 false true false false):=by
 obtain⟨places,hx⟩:=reads os enc;refine returnsInHanded_of_row (C:=Tryz.checked) (s:=OpenSpec.ofChange Rows.azimovFactsSpec) own started (by kernel_rfl) Tryz.func5
  (witness_row_at (enc:=enc) (C:=Tryz.checked) false (pY os) #[.agg #[.int .i64 0,.slice none 0 0],.slice none 0 0,.agg #[.slice none 0 0,.slice none 0 0],.agg #[.int .i64 0,.int .i64 0,.int .i64 0],.int .i64 0] rfl (by kernel_rfl) (by kernel_rfl) (by kernel_rfl)
   (OpenSpec.preRow_of_cond 8 hx (by kernel_rfl) (fun k hk=>by cases hk) (by kernel_rfl) (OK os))) ?_
 intro W base args ds gs before hval hW _ _ hsz hL _ _;exact OJ H enc W base args ds gs before hval hW hsz hL
theorem XW:Rows.AzimovFactsSaid:=
 OpenClaim.holds_of_cond 5 Tryz.f5 rfl rfl rfl rfl rfl rfl rfl ⟨rfl,rfl,rfl,rfl,rfl⟩ rfl rfl rfl rfl rfl (by kernel_rfl) Tryz.func5 (by kernel_rfl)
  (of_decide_eq_true (by kernel_rfl)) (by unfold Func.isWrapper;first | (rw[if_pos (by decide +kernel)];kernel_rfl) | (rw[if_neg (by decide +kernel)];exact⟨rfl,rfl⟩))
  (fun os started H enc _ F=>by rw[OpenClaim.pre_eq_preRow];exact VK os started H enc F)
theorem proved:Rows.AzimovFactsCardSaid:=
 Claim7.holds_tied_plain_at .later [] _ _ _ _ XW (fun _ h=>by cases h) (by kernel_rfl) (fun _ h=>by cases h) azimovFacts_row_tie rfl ⟨rfl,rfl⟩ (by kernel_rfl) rfl plain (by kernel_rfl)
#print axioms proved
end Go.Proofs.YtddffnonlmfhdaaGreatDoor.azimovFacts
