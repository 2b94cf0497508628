/- The law GraphPlays of layer 17 returns true for every script of calls, and leaves it as it was: the tied cards Rows.GraphPlaysCardSaid and Rows.GraphPlaysUptoCardSaid, without conditions. -/
import Derived.Test.YtddffnonlmfhdaaGreatDoorRows
import Derived.Test.YtddffnonlmfhdaaGreatDoorTie
import Derived.Test.YtddffnonlmfhdaaGreatDoorCards
import Derived.Deep.DeepHandedRow
import Derived.Lib.LaidTab
import Derived.LaidMore
import Derived.Stop.Joined
import Derived.SevenTiedAt
import Derived.Test.YtddffnonlmfhdaaGreatDoorU16
set_option linter.unusedVariables false
set_option linter.unusedSimpArgs false
set_option maxHeartbeats 16000000
set_option maxRecDepth 100000
namespace Go.Proofs.YtddffnonlmfhdaaGreatDoor.graphPlays
open Go.ChangeShapes Go.WideShapes Go.ChangeAt Go.RowKit edRead
set_option linter.unusedVariables false
theorem QF : Tryz.prog.globalNamed "math/bits.deBruijn64tab" = some 1 := by kernel_rfl
theorem JM:(Tryz.prog.globals[1]?).map (·.type)=some 285:=by kernel_rfl
theorem JN:Tryz.prog.cellsOf 285=64:=by kernel_rfl
theorem MX:Tryz.prog.cellsOf 5=1:=by kernel_rfl
theorem PX{W:World}(h:laidMetH Tryz.prog Rows.graphPlaysRow.laid W):iN W:=by
 have ht : Lib.TabIs Tryz.prog W "math/bits.deBruijn64tab" .u8 (Lib.deBruijn64tab.map fun (k : Nat) => (k : Int)) :=
  Lib.tabIs_of_head (rest:=[]) QF JM Tryz.underlying285 Tryz.underlying5 MX JN h
 intro j hj;have:=ht.cell QF j (by rw[List.length_map];exact hj);rw[this];simp[List.getD,hj]

theorem QL(w:World)(hT:iN w)(A:Option Addr)(c:Nat)(S:List OpC)(hS:aV w A (mF S)∧S.length≤10000000000000∧∀x∈S,zR w x) :
  Calls Tryz.prog 3 #[.slice A S.length c] w (Sam w (.bool true)):=
 zS w A c S hS.1 hS.2.2 hT hS.2.1

theorem JO(H:Type)(enc:TypeId × Value→H)(W:World)(base:Nat)(args:Array Value)(ds gs:List (DataW H))(before:List MemPlace)
  (hval0:∀(j:Nat) t v,Tryz.f3.params[j]?=some t→args[j]?=some v→Value.okWide Tryz.prog W .any base t v)
  (hW:DataW.Whole enc Tryz.prog Tryz.f3.params.toList Rows.graphPlaysSpec.vars false W args.toList ds gs before)
  (hsz:(DataW.weightsEach Tryz.prog (Tryz.f3.params.toList++Rows.graphPlaysSpec.plain.varTypes Tryz.prog) (ds++gs)).all (·≤reachBytes)=true) (hL:laidMetH Tryz.prog Rows.graphPlaysRow.laid W) :
  Calls Tryz.prog 3 args W fun e W'=>∃v,e=.returned v∧Rows.graphPlaysSpec.post enc Tryz.prog Tryz.f3 false true false false W args v W':=by
 have hval:∀(j:Nat) t v,Tryz.f3.params[j]?=some t→args[j]?=some v→Value.okWide Tryz.prog W .any base t v:=hval0;have hW':=hW;obtain⟨p,q,hA0,hV,rfl,hfz,hnd⟩:=hW;have hA:DataW.TrodAll enc Tryz.prog W 0 (fun _=>true) true Tryz.f3.params.toList args.toList ds p:=hA0;rw[Tryz.params3] at hA hval hsz;obtain⟨v0,vs0,d0,ds0,p0,q0,hargs,rfl,rfl,h0,r0⟩:=trodAll_cons hA;obtain⟨rfl,rfl,rfl⟩:=trodAll_nil r0;obtain rfl:args=#[v0]:=by cases args;simp_all
 obtain⟨rfl,rfl⟩:=trodVars_none hV;have hw0:∀n∈d0.weights Tryz.prog 22,n≤reachBytes:=fun n hn=>by
  have:=List.all_eq_true.1 hsz n (DataW.weights_mem_each (j:=0) (t:=22) (d:=d0) rfl rfl n hn);simpa using this
 have k0:=h0;have lt0:∀x∈p0,x.block<W.heap.size:=by obtain⟨m,hm⟩:=k0;exact DataW.trod_lt m _ _ _ hm
 obtain⟨A0,c0,N0,rfl,hR0,hc0,hq0⟩:=MW (hval 0 22 v0 rfl rfl) h0 hw0;clear hA0 hval0;refine(QL W (PX hL) A0 c0 N0 ⟨hR0,hc0,hq0⟩).mono fun e W' ⟨he,bel⟩=>?_
 subst he;exact⟨_,rfl,_,_,_,[],_,[],hW',trodAll_mk1 (shut_bool Tryz.underlying4 _),(trodAll_cons_mk (Below.trod MT (by kernel_rfl) (of_decide_eq_true (by kernel_rfl)) k0 bel lt0) trodAll_mk0),rfl,bel.frame _,fun h=>by cases h⟩

noncomputable def pC(os:Os):World:=World.doorLaid Tryz.prog 14 os
theorem JP(os:Os):laidMetH Tryz.prog Rows.graphPlaysRow.laid ((pC os).forCall (fun _ _=>0) ⟨#[],#[.slice none 0 0],[]⟩).memory:=
 laidMetH_of_parts3 (fuel:=8) (laidMet_of_run' 8 (by kernel_rfl) (by kernel_rfl)) (by kernel_rfl) (by kernel_rfl)
theorem reads(os:Os){H:Type}(enc:TypeId × Value→H):∃places,DataW.whole enc Tryz.prog ((pC os).forCall (fun _ _=>0) ⟨#[],#[.slice none 0 0],[]⟩).memory Tryz.f3.params.toList Rows.graphPlaysSpec.vars false (#[.slice none 0 0]:Array Value).toList 8=some ([.nil],[],places):=
 ⟨[],by kernel_rfl⟩
theorem plain(f : FuncId)(fn : Func)(hf : Tryz.pinned.checked.prog.funcNamed "byway/bywaylaw17.GraphPlays" = some f)(hfn : Tryz.pinned.checked.prog.funcs[f]? = some fn) :
  true=Tryz.pinned.checked.prog.looks []∧∀(j:Nat) t,fn.params[j]?=some t→Tryz.pinned.checked.prog.wantsStandIn t=false:=by
 obtain rfl : f = 3 := Option.some.inj ((show Tryz.prog.funcNamed "byway/bywaylaw17.GraphPlays" = some 3 by kernel_rfl).symm.trans hf) |>.symm;obtain rfl:fn=Tryz.f3:=(Option.some.inj (Tryz.func3.symm.trans hfn)).symm;exact⟨by kernel_rfl,fun j t ht=>by
  rw[Tryz.params3] at ht;have hm:t∈[22]:=by simpa using Array.mem_of_getElem? ht
  have hall:([22].all fun u=>!Tryz.prog.wantsStandIn u)=true:=by kernel_rfl
  exact(show Tryz.prog.wantsStandIn t=false by simpa using List.all_eq_true.1 hall t hm)⟩
theorem OR(os:Os)(started:os.Started)(H:Type)(enc:TypeId × Value→H)(F:Stop.Interp) :
  ReturnsInHanded {} Tryz.checked os 3 .any ((OpenSpec.ofChange Rows.graphPlaysSpec).preRow enc Tryz.prog Tryz.f3 Rows.graphPlaysRow.domain false Rows.graphPlaysRow.laid) (((OpenSpec.ofChange Rows.graphPlaysSpec).at F).post enc Tryz.prog Tryz.f3 false true false false):=by
 obtain⟨places,hx⟩:=reads os enc;refine returnsInHanded_of_row (C:=Tryz.checked) (s:=OpenSpec.ofChange Rows.graphPlaysSpec) own started (by kernel_rfl) Tryz.func3
  (witness_row_at (enc:=enc) (C:=Tryz.checked) false (pC os) #[.slice none 0 0] rfl (by kernel_rfl) (by kernel_rfl) (by kernel_rfl)
   (OpenSpec.preRow_of_cond 8 hx (by kernel_rfl) (fun k hk=>by cases hk) (by kernel_rfl) (JP os))) ?_
 intro W base args ds gs before hval hW _ _ hsz hL _ _;exact JO H enc W base args ds gs before hval hW hsz hL
theorem QN:Rows.GraphPlaysSaid:=
 OpenClaim.holds_of_cond 3 Tryz.f3 rfl rfl rfl rfl rfl rfl rfl ⟨rfl,rfl,rfl,rfl,rfl⟩ rfl rfl rfl rfl rfl (by kernel_rfl) Tryz.func3 (by kernel_rfl)
  (of_decide_eq_true (by kernel_rfl)) (by unfold Func.isWrapper;first | (rw[if_pos (by decide +kernel)];kernel_rfl) | (rw[if_neg (by decide +kernel)];exact⟨rfl,rfl⟩))
  (fun os started H enc _ F=>by rw[OpenClaim.pre_eq_preRow];exact OR os started H enc F)
theorem proved:Rows.GraphPlaysCardSaid:=
 Claim7.holds_tied_plain_at .later [] _ _ _ _ QN (fun _ h=>by cases h) (by kernel_rfl) (fun _ h=>by cases h) graphPlays_row_tie rfl ⟨rfl,rfl⟩ (by kernel_rfl) rfl plain (by kernel_rfl)
#print axioms proved
end Go.Proofs.YtddffnonlmfhdaaGreatDoor.graphPlays
