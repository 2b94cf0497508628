/- The law FarMore of layer 25 returns true for every ask and every edge, and leaves its arguments as they were: the tied cards Rows.FarMoreCardSaid and Rows.FarMoreUptoCardSaid, without conditions. -/
import Derived.Test.YteffnejneoocgaaGreatDoorRows
import Derived.Test.YteffnejneoocgaaGreatDoorTie
import Derived.Test.YteffnejneoocgaaGreatDoorCards
import Derived.Deep.DeepHandedRow
import Derived.Lib.LaidTab
import Derived.LaidMore
import Derived.Stop.Joined
import Derived.SevenTiedAt
import Derived.Test.YteffnejneoocgaaGreatDoorF17
set_option linter.unusedVariables false
set_option linter.unusedSimpArgs false
set_option maxHeartbeats 16000000
set_option maxRecDepth 100000
namespace Go.Proofs.YteffnejneoocgaaGreatDoor.farMore
open Go.ChangeShapes Go.WideShapes Go.ChangeAt Go.RowKit edRead
set_option linter.unusedVariables false
theorem UE : Tryz.prog.globalNamed "math/bits.deBruijn64tab" = some 1 := by kernel_rfl
theorem MG:(Tryz.prog.globals[1]?).map (·.type)=some 296:=by kernel_rfl
theorem MH:Tryz.prog.cellsOf 296=64:=by kernel_rfl
theorem QL:Tryz.prog.cellsOf 5=1:=by kernel_rfl
theorem TV{W:World}(h:laidMetH Tryz.prog Rows.farMoreRow.laid W):qF W:=by
 have ht : Lib.TabIs Tryz.prog W "math/bits.deBruijn64tab" .u8 (Lib.deBruijn64tab.map fun (k : Nat) => (k : Int)) :=
  Lib.tabIs_of_head (rest:=[]) UE MG Tryz.underlying296 Tryz.underlying5 QL MH h
 intro j hj;have:=ht.cell UE j (by rw[List.length_map];exact hj);rw[this];simp[List.getD,hj]

theorem UJ(w:World)(hT:qF w)(n:Int)(PA:Option Addr)(pc:Nat)(PV:List Pv)(LA:Option Addr)(cl:Nat)(M:List Txt)(A:Option Addr)(c:Nat)(B:Option Addr)(d:Nat)(N:List Txt)(E:List Ed)(f0 f1 f2:Int)(_hn:Wf n)(_hf:Wf f0∧Wf f1∧Wf f2)(hA:qF w→LZ w PA PV LA M A c B d N E)(x:Int)(_hx:Wf x)(y:Int)(_hy:Wf y)(z:Int)(_hz:Wf z) :
  Calls Tryz.prog 7 #[.agg (BK n PA PV.length pc LA M.length cl A N.length c B E.length d f0 f1 f2),.int .i64 x,.int .i64 y,.int .i64 z] w (Sam w (.bool true)):=
 xF w n PA pc PV LA cl M A c B d N E (hA hT) f0 f1 f2 x y z

theorem MI(H:Type)(enc:TypeId × Value→H)(W:World)(base:Nat)(args:Array Value)(ds gs:List (DataW H))(before:List MemPlace)
  (hval0:∀(j:Nat) t v,Tryz.f7.params[j]?=some t→args[j]?=some v→Value.okWide Tryz.prog W .any base t v)
  (hW:DataW.Whole enc Tryz.prog Tryz.f7.params.toList Rows.farMoreSpec.vars false W args.toList ds gs before)
  (hsz:(DataW.weightsEach Tryz.prog (Tryz.f7.params.toList++Rows.farMoreSpec.plain.varTypes Tryz.prog) (ds++gs)).all (·≤reachBytes)=true) (hL:laidMetH Tryz.prog Rows.farMoreRow.laid W) :
  Calls Tryz.prog 7 args W fun e W'=>∃v,e=.returned v∧Rows.farMoreSpec.post enc Tryz.prog Tryz.f7 false true false false W args v W':=by
 have hval:∀(j:Nat) t v,Tryz.f7.params[j]?=some t→args[j]?=some v→Value.okWide Tryz.prog W .any base t v:=hval0;have hW':=hW;obtain⟨p,q,hA0,hV,rfl,hfz,hnd⟩:=hW;have hA:DataW.TrodAll enc Tryz.prog W 0 (fun _=>true) true Tryz.f7.params.toList args.toList ds p:=hA0;rw[Tryz.params7] at hA hval hsz;obtain⟨v0,vs0,d0,ds0,p0,q0,hargs,rfl,rfl,h0,r0⟩:=trodAll_cons hA;obtain⟨v1,vs1,d1,ds1,p1,q1,rfl,rfl,rfl,h1,r1⟩:=trodAll_cons r0;obtain⟨v2,vs2,d2,ds2,p2,q2,rfl,rfl,rfl,h2,r2⟩:=trodAll_cons r1;obtain⟨v3,vs3,d3,ds3,p3,q3,rfl,rfl,rfl,h3,r3⟩:=trodAll_cons r2;obtain⟨rfl,rfl,rfl⟩:=trodAll_nil r3;obtain rfl:args=#[v0,v1,v2,v3]:=by cases args;simp_all
 obtain⟨rfl,rfl⟩:=trodVars_none hV;have hw0:∀n∈d0.weights Tryz.prog 32,n≤reachBytes:=fun n hn=>by
  have:=List.all_eq_true.1 hsz n (DataW.weights_mem_each (j:=0) (t:=32) (d:=d0) rfl rfl n hn);simpa using this
 have k0:=h0;have lt0:∀x∈p0,x.block<W.heap.size:=by obtain⟨m,hm⟩:=k0;exact DataW.trod_lt m _ _ _ hm
 obtain⟨n0,PA0,pc0,PV0,LA0,cl0,M0,A0,c0,B0,b0,N0,E0,f0,g0,j0,rfl,wn0,wf0,hF0⟩:=QK (hval 0 32 v0 rfl rfl) h0 hw0;obtain⟨x1,rfl,rfl,rfl,wf1⟩:=Go.ChangeShapes.open_int Tryz.underlying3 (hval 1 3 v1 rfl rfl) h1;obtain⟨x2,rfl,rfl,rfl,wf2⟩:=Go.ChangeShapes.open_int Tryz.underlying3 (hval 2 3 v2 rfl rfl) h2;obtain⟨x3,rfl,rfl,rfl,wf3⟩:=Go.ChangeShapes.open_int Tryz.underlying3 (hval 3 3 v3 rfl rfl) h3;clear hA0 hval0;refine(UJ W (TV hL) n0 PA0 pc0 PV0 LA0 cl0 M0 A0 c0 B0 b0 N0 E0 f0 g0 j0 wn0 wf0 hF0 x1 wf1 x2 wf2 x3 wf3).mono fun e W' ⟨he,bel⟩=>?_
 subst he;exact⟨_,rfl,_,_,_,[],_,[],hW',trodAll_mk1 (shut_bool Tryz.underlying4 _),(trodAll_cons_mk (Below.trod QG (by kernel_rfl) (of_decide_eq_true (by kernel_rfl)) k0 bel lt0) (trodAll_cons_mk (Go.ChangeShapes.shut_int Tryz.underlying3 wf1) (trodAll_cons_mk (Go.ChangeShapes.shut_int Tryz.underlying3 wf2) (trodAll_cons_mk (Go.ChangeShapes.shut_int Tryz.underlying3 wf3) trodAll_mk0)))),rfl,bel.frame _,fun h=>by cases h⟩

noncomputable def pJ(os:Os):World:=World.doorLaid Tryz.prog 14 os
theorem MJ(os:Os):laidMetH Tryz.prog Rows.farMoreRow.laid ((pJ os).forCall (fun _ _=>0) ⟨#[],#[.agg #[.int .i64 0,.slice none 0 0,.slice none 0 0,.slice none 0 0,.slice none 0 0,.int .i64 0,.int .i64 0,.int .i64 0],.int .i64 0,.int .i64 0,.int .i64 0],[]⟩).memory:=
 laidMetH_of_parts3 (fuel:=8) (laidMet_of_run' 8 (by kernel_rfl) (by kernel_rfl)) (by kernel_rfl) (by kernel_rfl)
theorem reads(os:Os){H:Type}(enc:TypeId × Value→H):∃places,DataW.whole enc Tryz.prog ((pJ os).forCall (fun _ _=>0) ⟨#[],#[.agg #[.int .i64 0,.slice none 0 0,.slice none 0 0,.slice none 0 0,.slice none 0 0,.int .i64 0,.int .i64 0,.int .i64 0],.int .i64 0,.int .i64 0,.int .i64 0],[]⟩).memory Tryz.f7.params.toList Rows.farMoreSpec.vars false (#[.agg #[.int .i64 0,.slice none 0 0,.slice none 0 0,.slice none 0 0,.slice none 0 0,.int .i64 0,.int .i64 0,.int .i64 0],.int .i64 0,.int .i64 0,.int .i64 0]:Array Value).toList 8=some ([.agg [.agg [.lit (.int .i64 0),.nil],.nil,.agg [.nil,.nil],.agg [.lit (.int .i64 0),.lit (.int .i64 0),.lit (.int .i64 0)]],.lit (.int .i64 0),.lit (.int .i64 0),.lit (.int .i64 0)],[],places):=
 ⟨[],by kernel_rfl⟩
theorem plain(f : FuncId)(fn : Func)(hf : Tryz.pinned.checked.prog.funcNamed "byway/bywaylaw25.FarMore" = some f)(hfn : Tryz.pinned.checked.prog.funcs[f]? = some fn) :
  true=Tryz.pinned.checked.prog.looks []∧∀(j:Nat) t,fn.params[j]?=some t→Tryz.pinned.checked.prog.wantsStandIn t=false:=by
 obtain rfl : f = 7 := Option.some.inj ((show Tryz.prog.funcNamed "byway/bywaylaw25.FarMore" = some 7 by kernel_rfl).symm.trans hf) |>.symm;obtain rfl:fn=Tryz.f7:=(Option.some.inj (Tryz.func7.symm.trans hfn)).symm;exact⟨by kernel_rfl,fun j t ht=>by
  rw[Tryz.params7] at ht;have hm:t∈[32,3]:=by simpa using Array.mem_of_getElem? ht
  have hall:([32,3].all fun u=>!Tryz.prog.wantsStandIn u)=true:=by kernel_rfl
  exact(show Tryz.prog.wantsStandIn t=false by simpa using List.all_eq_true.1 hall t hm)⟩
theorem SQ(os:Os)(started:os.Started)(H:Type)(enc:TypeId × Value→H)(F:Stop.Interp) :
  ReturnsInHanded {} Tryz.checked os 7 .any ((OpenSpec.ofChange Rows.farMoreSpec).preRow enc Tryz.prog Tryz.f7 Rows.farMoreRow.domain false Rows.farMoreRow.laid) (((OpenSpec.ofChange Rows.farMoreSpec).at F).post enc Tryz.prog Tryz.f7 false true false false):=by
 obtain⟨places,hx⟩:=reads os enc;refine returnsInHanded_of_row (C:=Tryz.checked) (s:=OpenSpec.ofChange Rows.farMoreSpec) own started (by kernel_rfl) Tryz.func7
  (witness_row_at (enc:=enc) (C:=Tryz.checked) false (pJ os) #[.agg #[.int .i64 0,.slice none 0 0,.slice none 0 0,.slice none 0 0,.slice none 0 0,.int .i64 0,.int .i64 0,.int .i64 0],.int .i64 0,.int .i64 0,.int .i64 0] rfl (by kernel_rfl) (by kernel_rfl) (by kernel_rfl)
   (OpenSpec.preRow_of_cond 8 hx (by kernel_rfl) (fun k hk=>by cases hk) (by kernel_rfl) (MJ os))) ?_
 intro W base args ds gs before hval hW _ _ hsz hL _ _;exact MI H enc W base args ds gs before hval hW hsz hL
theorem UK:Rows.FarMoreSaid:=
 OpenClaim.holds_of_cond 7 Tryz.f7 rfl rfl rfl rfl rfl rfl rfl ⟨rfl,rfl,rfl,rfl,rfl⟩ rfl rfl rfl rfl rfl (by kernel_rfl) Tryz.func7 (by kernel_rfl)
  (of_decide_eq_true (by kernel_rfl)) (by unfold Func.isWrapper;first | (rw[if_pos (by decide +kernel)];kernel_rfl) | (rw[if_neg (by decide +kernel)];exact⟨rfl,rfl⟩))
  (fun os started H enc _ F=>by rw[OpenClaim.pre_eq_preRow];exact SQ os started H enc F)
theorem proved:Rows.FarMoreCardSaid:=
 Claim7.holds_tied_plain_at .later [] _ _ _ _ UK (fun _ h=>by cases h) (by kernel_rfl) (fun _ h=>by cases h) farMore_row_tie rfl ⟨rfl,rfl⟩ (by kernel_rfl) rfl plain (by kernel_rfl)
#print axioms proved
end Go.Proofs.YteffnejneoocgaaGreatDoor.farMore
