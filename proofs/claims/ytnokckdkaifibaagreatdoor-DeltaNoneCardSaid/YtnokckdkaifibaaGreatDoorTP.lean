/- The law DeltaNone of layer 23 returns true for every edge and every fact, and leaves its arguments as they were: the tied cards Rows.DeltaNoneCardSaid and Rows.DeltaNoneUptoCardSaid, without conditions. -/
import Derived.Test.YtnokckdkaifibaaGreatDoorRows
import Derived.Test.YtnokckdkaifibaaGreatDoorTie
import Derived.Test.YtnokckdkaifibaaGreatDoorCards
import Derived.Deep.DeepHandedRow
import Derived.Lib.LaidTab
import Derived.LaidMore
import Derived.Stop.Joined
import Derived.SevenTiedAt
import Derived.Test.YtnokckdkaifibaaGreatDoorT16
set_option linter.unusedVariables false
set_option linter.unusedSimpArgs false
set_option maxHeartbeats 16000000
set_option maxRecDepth 100000
namespace Go.Proofs.YtnokckdkaifibaaGreatDoor.deltaNone
open Go.ChangeShapes Go.WideShapes Go.ChangeAt Go.RowKit edRead
set_option linter.unusedVariables false
theorem TA : Tryz.prog.globalNamed "math/bits.deBruijn64tab" = some 1 := by kernel_rfl
theorem KJ:(Tryz.prog.globals[1]?).map (·.type)=some 303:=by kernel_rfl
theorem KL:Tryz.prog.cellsOf 303=64:=by kernel_rfl
theorem OE:Tryz.prog.cellsOf 5=1:=by kernel_rfl
theorem SM{W:World}(h:laidMetH Tryz.prog Rows.deltaNoneRow.laid W):fW W:=by
 have ht : Lib.TabIs Tryz.prog W "math/bits.deBruijn64tab" .u8 (Lib.deBruijn64tab.map fun (k : Nat) => (k : Int)) :=
  Lib.tabIs_of_head (rest:=[]) TA KJ Tryz.underlying303 Tryz.underlying5 OE KL h
 intro j hj;have:=ht.cell TA j (by rw[List.length_map];exact hj);rw[this];simp[List.getD,hj]

theorem TH(w:World)(hT:fW w)(x:Ed)(_hx:oR x)(k i j:Int)(_hf:Wf k∧Wf i∧Wf j) :
  Calls Tryz.prog 3 #[.agg #[.string x.fr,.string x.lb,.string x.to],.agg #[.int .i64 k,.int .i64 i,.int .i64 j]] w (Sam w (.bool true)):=
 EW w hT x k i j

theorem KM(H:Type)(enc:TypeId × Value→H)(W:World)(base:Nat)(args:Array Value)(ds gs:List (DataW H))(before:List MemPlace)
  (hval0:∀(j:Nat) t v,Tryz.f3.params[j]?=some t→args[j]?=some v→Value.okWide Tryz.prog W .any base t v)
  (hW:DataW.Whole enc Tryz.prog Tryz.f3.params.toList Rows.deltaNoneSpec.vars false W args.toList ds gs before)
  (hsz:(DataW.weightsEach Tryz.prog (Tryz.f3.params.toList++Rows.deltaNoneSpec.plain.varTypes Tryz.prog) (ds++gs)).all (·≤reachBytes)=true) (hL:laidMetH Tryz.prog Rows.deltaNoneRow.laid W) :
  Calls Tryz.prog 3 args W fun e W'=>∃v,e=.returned v∧Rows.deltaNoneSpec.post enc Tryz.prog Tryz.f3 false true false false W args v W':=by
 have hval:∀(j:Nat) t v,Tryz.f3.params[j]?=some t→args[j]?=some v→Value.okWide Tryz.prog W .any base t v:=hval0;have hW':=hW;obtain⟨p,q,hA0,hV,rfl,hfz,hnd⟩:=hW;have hA:DataW.TrodAll enc Tryz.prog W 0 (fun _=>true) true Tryz.f3.params.toList args.toList ds p:=hA0;rw[Tryz.params3] at hA hval hsz;obtain⟨v0,vs0,d0,ds0,p0,q0,hargs,rfl,rfl,h0,r0⟩:=trodAll_cons hA;obtain⟨v1,vs1,d1,ds1,p1,q1,rfl,rfl,rfl,h1,r1⟩:=trodAll_cons r0;obtain⟨rfl,rfl,rfl⟩:=trodAll_nil r1;obtain rfl:args=#[v0,v1]:=by cases args;simp_all
 obtain⟨rfl,rfl⟩:=trodVars_none hV;have k0:=h0;have lt0:∀x∈p0,x.block<W.heap.size:=by obtain⟨m,hm⟩:=k0;exact DataW.trod_lt m _ _ _ hm
 obtain⟨x0,rfl,ok0⟩:=EZ (hval 0 23 v0 rfl rfl) h0;have k1:=h1;have lt1:∀x∈p1,x.block<W.heap.size:=by obtain⟨m,hm⟩:=k1;exact DataW.trod_lt m _ _ _ hm
 obtain⟨x1,y1,z1,rfl,hF1⟩:=KI (hval 1 25 v1 rfl rfl) h1;clear hA0 hval0;refine(TH W (SM hL) x0 ok0 x1 y1 z1 hF1).mono fun e W' ⟨he,bel⟩=>?_
 subst he;exact⟨_,rfl,_,_,_,[],_,[],hW',trodAll_mk1 (shut_bool Tryz.underlying4 _),(trodAll_cons_mk (Below.trod EX (by kernel_rfl) (of_decide_eq_true (by kernel_rfl)) k0 bel lt0) (trodAll_cons_mk (Below.trod EX (by kernel_rfl) (of_decide_eq_true (by kernel_rfl)) k1 bel lt1) trodAll_mk0)),rfl,bel.frame _,fun h=>by cases h⟩

noncomputable def oI(os:Os):World:=World.doorLaid Tryz.prog 14 os
theorem KN(os:Os):laidMetH Tryz.prog Rows.deltaNoneRow.laid ((oI os).forCall (fun _ _=>0) ⟨#[],#[.agg #[.string ByteArray.empty,.string ByteArray.empty,.string ByteArray.empty],.agg #[.int .i64 0,.int .i64 0,.int .i64 0]],[]⟩).memory:=
 laidMetH_of_parts3 (fuel:=8) (laidMet_of_run' 8 (by kernel_rfl) (by kernel_rfl)) (by kernel_rfl) (by kernel_rfl)
theorem reads(os:Os){H:Type}(enc:TypeId × Value→H):∃places,DataW.whole enc Tryz.prog ((oI os).forCall (fun _ _=>0) ⟨#[],#[.agg #[.string ByteArray.empty,.string ByteArray.empty,.string ByteArray.empty],.agg #[.int .i64 0,.int .i64 0,.int .i64 0]],[]⟩).memory Tryz.f3.params.toList Rows.deltaNoneSpec.vars false (#[.agg #[.string ByteArray.empty,.string ByteArray.empty,.string ByteArray.empty],.agg #[.int .i64 0,.int .i64 0,.int .i64 0]]:Array Value).toList 8=some ([.agg [.lit (.string []),.lit (.string []),.lit (.string [])],.agg [.lit (.int .i64 0),.lit (.int .i64 0),.lit (.int .i64 0)]],[],places):=
 ⟨[],by kernel_rfl⟩
theorem plain(f : FuncId)(fn : Func)(hf : Tryz.pinned.checked.prog.funcNamed "byway/bywaylaw23.DeltaNone" = some f)(hfn : Tryz.pinned.checked.prog.funcs[f]? = some fn) :
  true=Tryz.pinned.checked.prog.looks []∧∀(j:Nat) t,fn.params[j]?=some t→Tryz.pinned.checked.prog.wantsStandIn t=false:=by
 obtain rfl : f = 3 := Option.some.inj ((show Tryz.prog.funcNamed "byway/bywaylaw23.DeltaNone" = some 3 by kernel_rfl).symm.trans hf) |>.symm;obtain rfl:fn=Tryz.f3:=(Option.some.inj (Tryz.func3.symm.trans hfn)).symm;exact⟨by kernel_rfl,fun j t ht=>by
  rw[Tryz.params3] at ht;have hm:t∈[23,25]:=by simpa using Array.mem_of_getElem? ht
  have hall:([23,25].all fun u=>!Tryz.prog.wantsStandIn u)=true:=by kernel_rfl
  exact(show Tryz.prog.wantsStandIn t=false by simpa using List.all_eq_true.1 hall t hm)⟩
theorem QW(os:Os)(started:os.Started)(H:Type)(enc:TypeId × Value→H)(F:Stop.Interp) :
  ReturnsInHanded {} Tryz.checked os 3 .any ((OpenSpec.ofChange Rows.deltaNoneSpec).preRow enc Tryz.prog Tryz.f3 Rows.deltaNoneRow.domain false Rows.deltaNoneRow.laid) (((OpenSpec.ofChange Rows.deltaNoneSpec).at F).post enc Tryz.prog Tryz.f3 false true false false):=by
 obtain⟨places,hx⟩:=reads os enc;refine returnsInHanded_of_row (C:=Tryz.checked) (s:=OpenSpec.ofChange Rows.deltaNoneSpec) own started (by kernel_rfl) Tryz.func3
  (witness_row_at (enc:=enc) (C:=Tryz.checked) false (oI os) #[.agg #[.string ByteArray.empty,.string ByteArray.empty,.string ByteArray.empty],.agg #[.int .i64 0,.int .i64 0,.int .i64 0]] rfl (by kernel_rfl) (by kernel_rfl) (by kernel_rfl)
   (OpenSpec.preRow_of_cond 8 hx (by kernel_rfl) (fun k hk=>by cases hk) (by kernel_rfl) (KN os))) ?_
 intro W base args ds gs before hval hW _ _ hsz hL _ _;exact KM H enc W base args ds gs before hval hW hsz hL
theorem TI:Rows.DeltaNoneSaid:=
 OpenClaim.holds_of_cond 3 Tryz.f3 rfl rfl rfl rfl rfl rfl rfl ⟨rfl,rfl,rfl,rfl,rfl⟩ rfl rfl rfl rfl rfl (by kernel_rfl) Tryz.func3 (by kernel_rfl)
  (of_decide_eq_true (by kernel_rfl)) (by unfold Func.isWrapper;first | (rw[if_pos (by decide +kernel)];kernel_rfl) | (rw[if_neg (by decide +kernel)];exact⟨rfl,rfl⟩))
  (fun os started H enc _ F=>by rw[OpenClaim.pre_eq_preRow];exact QW os started H enc F)
theorem proved:Rows.DeltaNoneCardSaid:=
 Claim7.holds_tied_plain_at .later [] _ _ _ _ TI (fun _ h=>by cases h) (by kernel_rfl) (fun _ h=>by cases h) deltaNone_row_tie rfl ⟨rfl,rfl⟩ (by kernel_rfl) rfl plain (by kernel_rfl)
#print axioms proved
end Go.Proofs.YtnokckdkaifibaaGreatDoor.deltaNone
