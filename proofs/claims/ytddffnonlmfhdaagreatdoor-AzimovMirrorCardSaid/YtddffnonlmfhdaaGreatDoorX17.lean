/- A grammar in weak normal form, a fact, a production that come in, read. -/
import Derived.Test.YtddffnonlmfhdaaGreatDoorX14
import Derived.Test.YtddffnonlmfhdaaGreatDoorX16
set_option linter.unusedVariables false
set_option linter.unusedSimpArgs false
set_option maxHeartbeats 16000000
set_option maxRecDepth 100000
namespace Go.Proofs.YtddffnonlmfhdaaGreatDoor.edRead
open Go.ChangeShapes Go.WideShapes Go.ChangeAt Go.RowKit
set_option linter.unusedVariables false
theorem lits_int {n:Nat} {c:Value} {l:List Lit} (h:Tryz.prog.keyLits n 3 [c] = some l):∃ x,c = .int .i64 x∧Wf x:=by
 cases n with
 | zero => simp [Program.keyLits] at h
 | succ n =>
  unfold Program.keyLits at h
  simp only [Tryz.underlying3] at h
  cases c <;> simp at h
  rename_i k v
  obtain ⟨⟨rfl,hw⟩,_⟩:=h
  exact ⟨v,rfl,hw⟩
theorem lits_bool {n:Nat} {c:Value} {l:List Lit} (h:Tryz.prog.keyLits n 4 [c] = some l):∃ x,c = .bool x:=by
 cases n with
 | zero => simp [Program.keyLits] at h
 | succ n =>
  unfold Program.keyLits at h
  simp only [Tryz.underlying4] at h
  cases c <;> simp at h
  exact ⟨_,rfl⟩
theorem cells_int:Tryz.prog.cellsOf 3 = 1:=by kernel_rfl
theorem cells_bool:Tryz.prog.cellsOf 4 = 1:=by kernel_rfl
theorem cells_sym:Tryz.prog.cellsOf 96 = 2:=by kernel_rfl
theorem cells_syms:Tryz.prog.cellsOf 69 = 1:=by kernel_rfl
theorem cells_prod:Tryz.prog.cellsOf 71 = 2:=by kernel_rfl
theorem cells_prods:Tryz.prog.cellsOf 48 = 1:=by kernel_rfl
theorem cells_cnf:Tryz.prog.cellsOf 50 = 2:=by kernel_rfl
theorem bytes_sym:Tryz.prog.bytesOf 96 = 16:=by kernel_rfl
theorem bytes_prod:Tryz.prog.bytesOf 71 = 32:=by kernel_rfl
instance:Inhabited Sy:=⟨⟨false,0⟩⟩
instance:Inhabited Pv:=⟨⟨⟨0,[]⟩,none,0⟩⟩
theorem lits_sym {cs:List Value} {L:List Lit} (hl:cs.length = 2) (h:Tryz.prog.keyLits 2 96 cs = some L):∃ s:Sy,cs = s.cells∧Wf s.at_:=by
 obtain ⟨c0,c1,rfl⟩:=len_two hl
 rw [show (2:Nat) = 1 + 1 from rfl] at h
 unfold Program.keyLits at h
 simp only [Tryz.underlying96] at h
 split at h
 ·obtain ⟨l,hl',_⟩:=Option.map_eq_some_iff.1 h
  simp only [cells_bool,cells_int,List.mapM_cons,List.mapM_nil,bind,Option.bind_eq_some_iff] at hl'
  obtain ⟨l0,h0,q0,⟨l1,h1,-⟩,-⟩:=hl'
  simp at h0 h1
  obtain ⟨x,rfl⟩:=lits_bool h0
  obtain ⟨y,rfl,hy⟩:=lits_int h1
  exact ⟨⟨x,y⟩,rfl,hy⟩
 ·cases h
theorem read_syms {H:Type} {enc:TypeId × Value→H} {W:World} {fuel:Nat} {v:Value} {y:DataW H × List MemPlace} (t0:DataW.trod enc Tryz.prog W 0 (fun _ => true) true fuel 69 [v] = some y)
  (w0:∀ n ∈ y.1.weights Tryz.prog 69,n ≤ reachBytes):∃ A c S,v = .slice A (List.length S) c∧RowR W A (syCells S)∧S.length ≤ c∧S.length * 16 ≤ 140737488355328∧∀ s ∈ S,Wf s.at_:=by
 rcases open_plain Tryz.underlying69 (m:=2) (by kernel_rfl) t0 w0 with rfl | ⟨a,n,c,rfl,hnc,hb,hi⟩
 ·exact ⟨none,0,[],rfl,fun j u hj => by simp [syCells] at hj,Nat.le_refl _,by simp,by simp⟩
 ·obtain ⟨l,hl,hq,hr⟩:=row_of Sy.cells 2 (fun _ => rfl) (by decide) (W:=W) (a:=a) (n:=n) (fun s => Wf s.at_) (fun i hin => by
   obtain ⟨cs,L,hlen,hat,hL⟩:=hi i (by omega)
   rw [cells_sym] at hat hlen
   obtain ⟨f,rfl,hw⟩:=lits_sym hlen hL
   exact ⟨f,hw,hat⟩)
  subst hl
  rw [bytes_sym] at hb
  simp only [reachBytes] at hb
  exact ⟨_,c,l,rfl,hr,hnc,by omega,hq⟩
def PvFit (v:Pv):Prop:=Wf v.pr.head∧v.pr.body.length ≤ v.cap∧v.pr.body.length * 16 ≤ 140737488355328∧∀ s ∈ v.pr.body,Wf s.at_
theorem weights_all {H:Type} {P:Program} {e:TypeId} {d:DataW H}:∀ {l:List (DataW H)},d ∈ l→∀ n ∈ d.weights P e,n ∈ DataW.weightsAll P e l
 | x :: l,h,n,hn => by
  rw [DataW.weightsAll,List.mem_append]
  rcases List.mem_cons.1 h with rfl | h
  ·exact .inl hn
  ·exact .inr (weights_all h n hn)
theorem read_prod {H:Type} {enc:TypeId × Value→H} {W:World} {fuel:Nat} {cs:List Value} {y:DataW H × List MemPlace} (hl:cs.length = 2) (t:DataW.trod enc Tryz.prog W 0 (fun _ => true) true fuel 71 cs = some y)
  (hz:∀ n ∈ y.1.weights Tryz.prog 71,n ≤ reachBytes):∃ v:Pv,cs = v.cells∧RowR W v.adr (syCells v.pr.body)∧PvFit v:=by
 obtain ⟨c0,c1,rfl⟩:=len_two hl
 obtain ⟨y0,y1,n,hx,-,t0,t1⟩:=trod_struct2 Tryz.underlying71 t
 simp only [cells_int,cells_syms,List.drop_zero,List.take_succ_cons,List.take_zero,List.drop_succ_cons] at t0 t1
 subst hx
 have w1:∀ n ∈ y1.1.weights Tryz.prog 69,n ≤ reachBytes:=fun n hn => hz n (by
  simp only [DataW.weights,Tryz.underlying71,DataW.weightsEach,List.map_cons,List.map_nil,List.mem_append]
  exact .inr (.inl hn))
 obtain ⟨h,e,-,hw⟩:=DataW.trod_int Tryz.underlying3 t0
 injection e with e _
 subst e
 obtain ⟨A,c,S,rfl,hr,h1,h2,h3⟩:=read_syms t1 w1
 exact ⟨⟨⟨h,S⟩,A,c⟩,rfl,hr,hw,h1,h2,h3⟩
theorem read_prods {H:Type} {enc:TypeId × Value→H} {W:World} {fuel:Nat} {v:Value} {y:DataW H × List MemPlace} (t0:DataW.trod enc Tryz.prog W 0 (fun _ => true) true fuel 48 [v] = some y)
  (w0:∀ n ∈ y.1.weights Tryz.prog 48,n ≤ reachBytes):∃ A c PV,v = .slice A (List.length PV) c∧PvR W A PV∧PV.length ≤ c∧PV.length * 32 ≤ 140737488355328∧∀ x ∈ PV,PvFit x:=by
 rcases Deep.open_slice Tryz.underlying48 t0 with ⟨hcs,_⟩ | ⟨a,len,cap,m',n',D,Pl,hcs,_,hl,hm,hmm,hx,hi⟩
 ·injection hcs with hcs
  subst hcs
  exact ⟨none,0,[],rfl,⟨fun j u hj => by simp [pvCells] at hj,by simp⟩,Nat.le_refl _,by simp,by simp⟩
 ·injection hcs with hcs
  subst hcs
  obtain rfl:m' = cap:=by rw [hmm];exact if_pos rfl
  subst hx
  have hb:=w0 (m' * Tryz.prog.bytesOf 71) (by
   simp only [DataW.weights,Tryz.underlying48,List.length_map,List.length_range,show len + (m' - len) = m' by omega]
   simp)
  have hd:∀ i,i < len→∀ n ∈ (D i).weights Tryz.prog 71,n ≤ reachBytes:=fun i hi' n hn => w0 n (by
   simp only [DataW.weights,Tryz.underlying48,List.mem_cons,List.mem_append]
   exact .inr (.inl (weights_all (List.mem_map.2 ⟨i,List.mem_range.2 hi',rfl⟩) n hn)))
  obtain ⟨l,hll,hq,hr⟩:=row_of Pv.cells 2 (fun _ => rfl) (by decide) (W:=W) (a:=a) (n:=len) (fun v => RowR W v.adr (syCells v.pr.body)∧PvFit v) (fun i hin => by
   obtain ⟨cs',hc,ht'⟩:=hi i (by omega)
   obtain ⟨_,hlen,hat⟩:=World.cells?_some hc
   rw [cells_prod] at hlen hat
   obtain ⟨v,rfl,h1,h2⟩:=read_prod hlen ht' (hd i hin)
   exact ⟨v,⟨h1,h2⟩,fun j hj => by
    have:=hat j hj
    rw [Deep.add_add] at this
    exact this⟩)
  subst hll
  rw [bytes_prod] at hb
  simp only [reachBytes] at hb
  exact ⟨_,m',l,rfl,⟨hr,fun v hv => (hq v hv).1⟩,hl,by omega,fun v hv => (hq v hv).2⟩
theorem top_cnf {H:Type} {enc:TypeId × Value→H} {W:World} {base:Nat} {v:Value} {d0:DataW H} {p0:List MemPlace} (hv:Value.okWide Tryz.prog W .any base 50 v) (h:DataW.Trod enc Tryz.prog W 0 (fun _ => true) true 50 v d0 p0)
  (hz:∀ n ∈ d0.weights Tryz.prog 50,n ≤ reachBytes):∃ (nts:Int) (A:Option Addr) (c:Nat) (PV:List Pv),v = .agg #[.int .i64 nts,.slice A PV.length c]∧Wf nts∧PvR W A PV∧PV.length ≤ c∧PV.length * 32 ≤ 140737488355328∧∀ x ∈ PV,PvFit x:=by
 obtain ⟨cs,rfl,hcs⟩:=okWide_struct Tryz.underlying50 hv
 rw [cells_cnf] at hcs
 obtain ⟨c0,c1,hc⟩:=len_two (l:=cs.toList) (by simpa using hcs)
 obtain rfl:cs = #[c0,c1]:=by cases cs;simp_all
 obtain ⟨fuel,hf⟩:=h
 obtain ⟨y0,y1,n,hx,-,t0,t1⟩:=trod_struct2 Tryz.underlying50 hf
 simp only [Value.cells,cells_int,cells_prods,List.drop_zero,List.take_succ_cons,List.take_zero,List.drop_succ_cons] at t0 t1
 injection hx with hx1 hx2
 subst hx1
 have w1:∀ n ∈ y1.1.weights Tryz.prog 48,n ≤ reachBytes:=fun n hn => hz n (by
  simp only [DataW.weights,Tryz.underlying50,DataW.weightsEach,List.map_cons,List.map_nil,List.mem_append]
  exact .inr (.inl hn))
 obtain ⟨nts,e,-,hw⟩:=DataW.trod_int Tryz.underlying3 t0
 injection e with e _
 subst e
 obtain ⟨A,c,PV,rfl,h1⟩:=read_prods t1 w1
 exact ⟨nts,A,c,PV,rfl,hw,h1⟩
end Go.Proofs.YtddffnonlmfhdaaGreatDoor.edRead
