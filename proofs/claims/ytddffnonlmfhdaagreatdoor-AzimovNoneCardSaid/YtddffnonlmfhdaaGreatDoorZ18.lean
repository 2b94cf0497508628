/- AzimovNone: the walk; AzimovNone: the walk; A graph, a list of texts, a list of edges that come in, read: the slices lie in memory, and none is too great; An edge, a row of texts, a row of edges that come in, read; A grammar in weak normal form, a fact, a production that come in, read. -/
import Derived.RangeFuncNested
import Derived.RangeFuncBound
import Derived.RangeFuncCalls
import Derived.RangeFuncLeaves
import Derived.RangeFuncBox
import Derived.Shelf.Abstract
import Derived.Shelf.RegionOpen
import Derived.OwnWalkIn
import Derived.TacticsInMore
import Derived.LoopNIn
import Derived.LoopIn
import Derived.Test.YtddffnonlmfhdaaGreatDoorZ17
import Derived.ProofKit
import Derived.OpenShut
import Derived.ShutString
import Derived.ChangeOld
import Derived.ChangeSame
import Derived.Below
import Derived.Deep.Slices
import Derived.MapViews
import Derived.SizedLaws
import Derived.Test.YtddffnonlmfhdaaGreatDoorZ01
import Derived.Test.YtddffnonlmfhdaaGreatDoorZ15
set_option linter.unusedVariables false
set_option linter.unusedSimpArgs false
namespace Go.Proofs.YtddffnonlmfhdaaGreatDoor
open Go.RowKit Go.Shelf
attribute [local go_sem] Oper.semAt_some
theorem gis_nil (w : World) : Calls Tryz.prog 48 #[.pointer none] w (Only w (.bool false)) := by
  go_enter Tryz.func48, Tryz.ntmps48
  go_wp2
  go_ret
  exact ⟨rfl, rfl⟩
theorem glen_nil (w : World) : Calls Tryz.prog 40 #[.pointer none] w (Only w (.tuple #[.int .i64 0, .int .i64 0])) := by
  have hcon := gis_nil w
  go_enter Tryz.func40, Tryz.ntmps40
  go_wp2_with fail
  refine hcon.mono ?_
  clear hcon
  rintro e V ⟨rfl, hw⟩
  subst V
  go_wp2
  refine bodyPost_ret (v := .tuple #[.int .i64 0, .int .i64 0]) (by simp [results, Tryz.f40, go_sem]) rfl ⟨rfl, rfl⟩
theorem anew_nil (w : World) (a b : Value) (lv : Value) : Calls Tryz.prog 17 #[.agg #[a, b], lv, .pointer none] w (Sam w (.tuple #[.pointer none, .int .i64 1])) := by
  have b1 : Below w.heap.size w (w.alloc (.cells #[a, b] 50)) := (Below.refl _ _).alloc (Nat.le_refl _) _
  have hcon := glen_nil (w.alloc (.cells #[a, b] 50))
  have H := Lib.hid b1
  clear b1
  go_enter Tryz.func17, Tryz.ntmps17
  go_wp2_with fail
  refine hcon.mono ?_
  clear hcon
  rintro e V ⟨rfl, hw⟩
  subst V
  go_wp2
  refine bodyPost_ret (v := .tuple #[.pointer none, .int .i64 1]) (by simp [results, Tryz.f17, go_sem]) rfl ⟨rfl, H.out⟩
def encFa (x : Int × Int × Int) : Array Value := #[.agg #[.int .i64 x.1, .int .i64 x.2.1, .int .i64 x.2.2]]
set_option maxRecDepth 100000 in
set_option maxHeartbeats 1000000 in
theorem afeach_nil (F : Fence) (n : Nat) (h8 : F.fn 76) (hro : F.round = none) (l Bs : Nat) (J : List (Int × Int × Int) → World → Prop) (W : World) (hBs : W.cell? ⟨Bs, 0, none⟩ = some (.slice none 0 0))
    (hb : ∀ W', Below W.heap.size W W' → J [] W') :
    CallsIn F n Tryz.prog 76 #[.func (.yield l) #[] #[], .pointer (some ⟨Bs, 0, none⟩)] W fun e W' => (∃ v, e = .returned v) ∧ J [] W' := by
  have b1 : Below W.heap.size W (W.alloc (.cells #[.func (.yield l) #[] #[]] 79)) := (Below.refl _ _).alloc (Nat.le_refl _) _
  have hBs1 := cell_keep b1 hBs
  have h0 := hb _ b1
  have H := Lib.hid h0
  clear b1 hb h0
  refine callsIn_of_wp_marks Tryz.func76 rfl h8 ?_ hro
  simp only [Tryz.ntmps76, List.size_toArray, List.length_cons, List.length_nil, Nat.reduceAdd, Nat.reduceSub, Array.replicate_succ, Array.replicate_zero, List.push_toArray, List.append_toArray, List.nil_append, List.cons_append]
  gi_wp2
  generalize W.alloc (.cells #[.func (.yield l) #[] #[]] 79) = W1 at H hBs1 ⊢
  gi_loopw [9] (fun i wr => i = .int .i64 0 ∧ wr = W1) (fun _ _ => 0)
  case atStart => exact ⟨rfl, rfl⟩
  case round =>
    obtain ⟨rfl, hwr⟩ := hrel
    subst wr
    gi_wp2
    exact ⟨_, results_none rfl _ _ _, ⟨_, rfl⟩, H.out⟩
theorem afnil_stops (F : Fence) (n : Nat) (h8 : F.fn 76) (hro : F.round = none) (Bs : Nat) (w : World) (hBs : Bs < w.heap.size) (hc : w.cell? ⟨Bs, 0, none⟩ = some (.slice none 0 0)) :
    SeqStopsK F n Tryz.prog 76 #[.pointer (some ⟨Bs, 0, none⟩)] encFa (fun _ _ => True) (fun ys => ys = []) (fun _ => False) 0 w := fun l J _ W hW hA _ _ h0 => by
  have hc' := (hW.cell (p := ⟨Bs, 0, none⟩) hBs).trans hc
  exact (afeach_nil F n h8 hro l Bs J W hc' (fun W' hb => hA [] W W' none h0 ((Upd.of_below hb (fun _ => False)).to_grown (fun _ _ e => e.elim)) (fun r e => by cases e))).mono fun e W' ⟨he, hj⟩ => ⟨he, .inl ⟨_, rfl, hj⟩⟩
theorem eql_seq_nil (W : World) (f : Fn) (x y : Array Value) : (binOp .eql 62 (.func f x y) .nilFunc).run Tryz.prog W = .ok (.bool false) W := by
  have h : Tryz.prog.underlying 62 = some (.func #[79] #[] false) := by kernel_rfl
  have e9 : ∀ d, (Op.equalIn (d + 1) 62 (.func f x y) .nilFunc).run Tryz.prog W = .ok false W := fun d => by simp [Op.equalIn, run_underlying h]
  have e : (Op.equal 62 (.func f x y) .nilFunc).run Tryz.prog W = .ok false W := e9 9999
  simp only [binOp]
  simp [e]
end Go.Proofs.YtddffnonlmfhdaaGreatDoor
namespace Go.Proofs.YtddffnonlmfhdaaGreatDoor
open Go.RowKit Go.Shelf
attribute [local go_sem] Oper.semAt_some
theorem tab_lt {w : World} (hT : TabW w) : 1 < w.heap.size := World.block_lt_of_cell? w _ (hT 0 (by decide))
def NoI (w : World) (z : Nat) (V : World) : Prop := Below w.heap.size w V ∧ Blk V z 4 #[.bool false]
theorem NoI.own {β : Type} {w : World} {z B : Nat} (hB : w.heap.size ≤ B) : OwnFrom B (fun (_ : β) V => NoI w z V) := by
  rintro s X Y row ⟨h1, h2⟩ hg hr
  exact ⟨h1.trans ((Upd.of_grown hg).below (fun i _ e => by have := (hr i e).1; omega) h1.size), h2.keep hg hr⟩
set_option maxRecDepth 20000 in
set_option maxHeartbeats 4000000 in
theorem anone_any (w : World) (hT : TabW w) (htab : 1 < w.heap.size) (a b lv : Value) (k i j : Int) :
    Calls Tryz.prog 4 #[.agg #[a, b], lv, .agg #[.int .i64 k, .int .i64 i, .int .i64 j]] w (Sam w (.bool true)) := by
  have heq := eql_seq_nil
  have b0 : Below w.heap.size w (((w.alloc (.cells #[a, b] 50)).alloc (.cells #[.int .i64 k, .int .i64 i, .int .i64 j] 52)).alloc (.cells #[.bool false] 4)) := by (repeat (first | exact Below.refl _ _ | apply Below.drew | refine Below.alloc ?_ (by first | exact Nat.le_refl _ | (simp; done) | (simp; omega)) _ | refine Below.setCell ?_ (by first | exact Nat.le_refl _ | (simp; done) | (simp; omega)) _))
  have k3 := ((Blk.new w 50 #[a, b]).alloc (.cells #[.int .i64 k, .int .i64 i, .int .i64 j] 52)).alloc (.cells #[.bool false] 4)
  have k5 := (Blk.new (w.alloc (.cells #[a, b] 50)) 52 #[.int .i64 k, .int .i64 i, .int .i64 j]).alloc (.cells #[.bool false] 4)
  have k6 := Blk.new ((w.alloc (.cells #[a, b] 50)).alloc (.cells #[.int .i64 k, .int .i64 i, .int .i64 j] 52)) 4 #[.bool false]
  simp only [World.size_alloc] at k5 k6
  have c30 := k3.cell 0
  have c31 := k3.cell 1
  simp only [List.getElem?_toArray, List.getElem?_cons_zero, List.getElem?_cons_succ] at c30 c31
  have H := Lib.hid (And.intro b0 (And.intro k5 (And.intro k6 (And.intro hT htab))))
  clear b0 k3 k5 k6 hT htab
  refine (callsIn_wide (n := 2)).1 ?_
  refine callsIn_of_wp_marks Tryz.func4 rfl trivial ?_ rfl
  simp only [Tryz.ntmps4, List.size_toArray, List.length_cons, List.length_nil, Nat.reduceAdd, Nat.reduceSub, Array.replicate_succ, Array.replicate_zero, List.push_toArray, List.append_toArray, List.nil_append, List.cons_append]
  refine wpIn_wide.2 ?_
  go_upto_region 1 with (fail)
  generalize ((w.alloc (.cells #[a, b] 50)).alloc (.cells #[.int .i64 k, .int .i64 i, .int .i64 j] 52)).alloc (.cells #[.bool false] 4) = W0 at H c30 c31 ⊢
  have hnew := anew_nil W0 a b lv
  go_wp2_with fail
  refine hnew.mono ?_
  clear hnew c30 c31
  rintro e W1 ⟨rfl, b1⟩
  have k5 := H.out.2.1.upd (Upd.of_below b1 (fun _ => False)) id
  have c0 : W1.cell? ⟨w.heap.size + 1, 0, none⟩ = some (.int .i64 k) := k5.cell 0
  have c1 : W1.cell? ⟨w.heap.size + 1, 1, none⟩ = some (.int .i64 i) := k5.cell 1
  have c2 : W1.cell? ⟨w.heap.size + 1, 2, none⟩ = some (.int .i64 j) := k5.cell 2
  have HB1 := Lib.hid b1
  have K5 := Lib.hid k5
  clear b1 k5
  have hhas := ahas_nil W1 k i j
  go_wp2_with fail
  refine hhas.mono ?_
  clear hhas c0 c1 c2
  rintro e W2 ⟨rfl, b2⟩
  have k5 := K5.out.upd (Upd.of_below b2 (fun _ => False)) id
  have c0 : W2.cell? ⟨w.heap.size + 1, 0, none⟩ = some (.int .i64 k) := k5.cell 0
  have HB2 := Lib.hid (HB1.out.trans (b2.mono HB1.out.size))
  clear b2 k5
  have hpr := apairs_nil W2 k
  go_wp2_with fail
  refine hpr.mono ?_
  clear hpr c0
  rintro e W3 ⟨rfl, b3⟩
  have HB3 := Lib.hid (HB2.out.trans (b3.mono HB2.out.size))
  clear b3
  have hfa := afacts_nil W3
  go_wp2_with fail
  refine hfa.mono ?_
  clear hfa
  rintro e W4 ⟨g, hge, rfl, kg, b4⟩
  have HB4 := Lib.hid (HB3.out.trans (b4.mono HB3.out.size))
  have HI := Lib.hid (show NoI w (w.heap.size + 1 + 1) W4 from ⟨H.out.1.trans (HB4.out.mono H.out.1.size), H.out.2.2.1.upd (Upd.of_below HB4.out (fun _ => False)) id⟩)
  have HST := Lib.hid (afnil_stops Fence.wide 1 trivial rfl g W4 kg.lt (kg.cell 0))
  clear b4 kg
  go_wp2
  refine wp_range 2 (by decide) (gf := 76) (lb := #[.pointer (some ⟨g, 0, none⟩)]) rfl (enters_of Tryz.func76 (by kernel_rfl) rfl) HST.out (fun _ _ => trivial) (fun _ _ _ _ _ _ _ _ => trivial) (Below.refl _ _) (fun _ => rfl)
    (fun _ V => NoI w (w.heap.size + 1 + 1) V) (fun _ _ _ => False) (NoI.own HI.out.1.size) (fun c s X Y row h _ _ => h) HI.out
    (fun T x _ => ((#[41] : Array Tmp).zip (encFa x)).foldl (fun t (p, v) => t.setIfInBounds p v) T) (fun _ _ _ => True)
    ?hBx ?assign ?body ?done ?stop
  case hBx => exact fun _ _ _ _ _ _ _ _ _ => trivial
  case assign =>
    intro l pre x V Kc hi hK
    exact wpIn_skip (hK 0 V (KeepsFrom.refl _ _) trivial hi trivial)
  case body => exact fun _ _ _ _ _ _ _ _ _ hlt => absurd hlt (Nat.not_lt_zero _)
  case done =>
    rintro D xs V hD hxs hi hd
    have HIV := Lib.hid hi
    have HD := Lib.hid hd
    have hln := alen_nil V
    clear hi hd
    go_wp2_with fail
    refine hln.mono ?_
    clear hln
    rintro e V2 ⟨rfl, hb2⟩
    have hbw := HIV.out.1.trans (hb2.mono HIV.out.1.size)
    have haw := aawake_any V2 (H.out.2.2.2.1.upd (Upd.of_below hbw (fun _ => False)) H.out.2.2.2.2 id) (Nat.lt_of_lt_of_le H.out.2.2.2.2 hbw.size)
    have HB5 := Lib.hid (And.intro hb2 hbw)
    clear hb2 hbw
    go_wp2_with fail
    refine haw.mono ?_
    clear haw
    rintro e V3 ⟨rfl, hb3⟩
    have k6 := (HIV.out.2.upd (Upd.of_below HB5.out.1 (fun _ => False)) id).upd (Upd.of_below hb3 (fun _ => False)) id
    have q0 : V3.cell? ⟨w.heap.size + 1 + 1, 0, none⟩ = some (.bool false) := k6.cell 0
    have q1 := k6.frozen 0
    have hd3 : V3.heap[D]? = some (.deferred (some [])) := (hb3.block D (by
      have := (Array.getElem?_eq_some_iff.1 HD.out).1
      have := HB5.out.1.size
      omega)).trans ((HB5.out.1.block D (Array.getElem?_eq_some_iff.1 HD.out).1).trans HD.out)
    have k7 : Blk (V3.setCell ⟨w.heap.size + 1 + 1, 0, none⟩ (.bool true)) (w.heap.size + 1 + 1) 4 #[.bool true] := k6.set 0 (.bool true)
    have hd4 := (KeepsOthers.setCell V3 ⟨w.heap.size + 1 + 1, 0, none⟩ (.bool true)).same D _ hd3 rfl
    have hb9 : Below w.heap.size w (V3.setCell ⟨w.heap.size + 1 + 1, 0, none⟩ (.bool true)) := (HB5.out.2.trans (hb3.mono HB5.out.2.size)).setCell (p := ⟨w.heap.size + 1 + 1, 0, none⟩) (by show w.heap.size ≤ w.heap.size + 1 + 1; omega) _
    have FIN := Lib.hid (And.intro hd4 (And.intro k7 hb9))
    clear k6 hb3 hd3 k7 hd4 hb9
    go_wp2
    generalize V3.setCell ⟨w.heap.size + 1 + 1, 0, none⟩ (.bool true) = V4 at FIN ⊢
    refine leaves_one2 FIN.out.1 ?_
    have hk : Blk (V4.putObj D (.deferred none)) (w.heap.size + 1 + 1) 4 #[.bool true] := FIN.out.2.1.grown (grownBy_putObj' V4 D (.deferred none)) (fun e => by
      have h1 := FIN.out.2.1
      injection e with e
      rw [e] at h1
      have h2 : V4.heap[D]? = _ := h1
      rw [FIN.out.1] at h2
      cases h2)
    have hc5 : (V4.putObj D (.deferred none)).cell? ⟨w.heap.size + 1 + 1, 0, none⟩ = some (.bool true) := hk.cell 0
    have hDw : w.heap.size ≤ D := Nat.le_trans HI.out.1.size hD
    exact ⟨_, by simp [results, Tryz.f4, go_sem, hc5], rfl, FIN.out.2.2.grown (grownBy_putObj' V4 D (.deferred none)) FIN.out.2.2.size (fun k e => by injection e with e; omega)⟩
  case stop => exact fun D c pre V _ _ h => h.elim
end Go.Proofs.YtddffnonlmfhdaaGreatDoor
namespace Go.Proofs.YtddffnonlmfhdaaGreatDoor.edRead
open Go.ChangeShapes Go.WideShapes Go.ChangeAt Go.RowKit
set_option linter.unusedVariables false
theorem own : ownKnob Tryz.prog.godebug = none := by kernel_rfl
theorem laidOut : laidOutB Tryz.prog = true := by kernel_rfl

section
variable {H : Type} {enc : TypeId × Value → H} {P : Program} {w : World}
/-- A slice of plain elements, opened to cells; its capacity within the reach. -/
theorem open_plain {t e m fuel : Nat} {v : Value} {x : DataW H × List MemPlace} (ht : P.underlying t = some (.slice e)) (hk : P.keyTypeAt m e = true)
    (h : DataW.trod enc P w 0 (fun _ => true) true fuel t [v] = some x) (hz : ∀ n ∈ x.1.weights P t, n ≤ reachBytes) :
    v = .slice none 0 0 ∨ ∃ a n c, v = .slice (some a) n c ∧ n ≤ c ∧ c * P.bytesOf e ≤ reachBytes ∧ ∀ i, i < c → ∃ cs L, cs.length = P.cellsOf e ∧ (∀ j, j < P.cellsOf e → w.cell? (a.add (i * P.cellsOf e + j)) = cs[j]?) ∧ P.keyLits m e cs = some L := by
  rcases Deep.open_slice ht h with ⟨hcs, _⟩ | ⟨a, len, cap, m', n', D, Pl, hcs, _, hl, hm, hmm, hx, hi⟩
  · injection hcs with hcs
    exact .inl hcs
  · injection hcs with hcs
    subst hcs
    obtain rfl : m' = cap := by rw [hmm]; exact if_pos rfl
    refine .inr ⟨a, len, m', rfl, hl, ?_, fun i hic => ?_⟩
    · subst hx
      exact hz (m' * P.bytesOf e) (by
        simp only [DataW.weights, ht, List.length_map, List.length_range, show len + (m' - len) = m' by omega]
        simp)
    · obtain ⟨cs', hc, ht'⟩ := hi i (by simpa using hic)
      obtain ⟨_, hlen, hat⟩ := World.cells?_some hc
      exact ⟨cs', _, hlen, fun j hj => by rw [← Deep.add_add]; exact hat j hj, (keyLits_of_trod m e hk n' cs' _ ht').1⟩
end
theorem cells_txt : Tryz.prog.cellsOf 9 = 1 := by kernel_rfl
theorem lits_txt {n : Nat} {c : Value} {l : List Lit} (h : Tryz.prog.keyLits n 9 [c] = some l) : ∃ s : Txt, c = .string s ∧ TxtOk s := by
  cases n with
  | zero => simp [Program.keyLits] at h
  | succ n =>
    unfold Program.keyLits at h
    simp only [Tryz.underlying9] at h
    cases c <;> simp at h
    obtain ⟨hw, _⟩ := h
    refine ⟨_, rfl, ?_⟩
    unfold TxtOk
    unfold maxLen at hw
    omega
theorem len_one {α : Type} : ∀ {l : List α}, l.length = 1 → ∃ a, l = [a]
  | [a], _ => ⟨a, rfl⟩
theorem len_two {α : Type} : ∀ {l : List α}, l.length = 2 → ∃ a b, l = [a, b]
  | [a, b], _ => ⟨a, b, rfl⟩
theorem len_three {α : Type} : ∀ {l : List α}, l.length = 3 → ∃ a b c, l = [a, b, c]
  | [a, b, c], _ => ⟨a, b, c, rfl⟩
theorem bytes_txt : Tryz.prog.bytesOf 9 = 16 := by kernel_rfl
/-- Cells by index make a row. -/
theorem row_of {α : Type} [Inhabited α] (cells : α → List Value) (k : Nat) (hlen : ∀ x, (cells x).length = k) (h0 : 0 < k) {W : World} {a : Addr} {n : Nat} (Q : α → Prop) (hg : ∀ i, i < n → ∃ x : α, Q x ∧ ∀ j, j < k → W.cell? (a.add (i * k + j)) = (cells x)[j]?) :
    ∃ l : List α, l.length = n ∧ (∀ x ∈ l, Q x) ∧ RowR W (some a) (l.flatMap cells) := by
  obtain ⟨f, hf⟩ := Deep.choose_lt hg
  refine ⟨(List.range n).map f, by simp, ?_, ?_⟩
  · intro x hx
    obtain ⟨i, hi, rfl⟩ := List.mem_map.1 hx
    exact (hf i (List.mem_range.1 hi)).1
  · intro j u hj
    have hlt := (List.getElem?_eq_some_iff.1 hj).1
    rw [flat_len cells k hlen] at hlt
    simp only [List.length_map, List.length_range] at hlt
    have hi : j / k < n := Nat.div_lt_of_lt_mul (by rw [Nat.mul_comm]; exact hlt)
    have hjm : j % k < k := Nat.mod_lt _ h0
    have hjd : j / k * k + j % k = j := by rw [Nat.mul_comm]; exact Nat.div_add_mod j k
    have h1 := flat_get cells k hlen ((List.range n).map f) (j / k) (j % k) (f (j / k)) (by rw [List.getElem?_map, List.getElem?_range hi]; rfl) hjm
    rw [hjd, hj] at h1
    have h2 := (hf (j / k) hi).2 (j % k) hjm
    rw [hjd, ← h1] at h2
    have h3 := (hf 0 (Nat.lt_of_le_of_lt (Nat.zero_le _) hi)).2 0 h0
    have hlen0 := hlen (f 0)
    rw [List.getElem?_eq_getElem (by omega)] at h3
    have hs := World.cell?_spot h3
    obtain ⟨b, o, s⟩ := a
    obtain rfl : s = none := by simpa [Addr.add] using hs
    rw [Addr.add_lit] at h2
    exact ⟨b, o, rfl, h2⟩
instance : Inhabited Txt := ⟨ByteArray.empty⟩
instance : Inhabited Ed := ⟨⟨default, default, default⟩⟩
theorem flat_txt (l : List Txt) : (l.flatMap fun s => [Value.string s]) = txtCells l := by
  induction l with
  | nil => rfl
  | cons x l ih => rw [List.flatMap_cons, ih]; rfl

theorem read_txts {H : Type} {enc : TypeId × Value → H} {W : World} {fuel : Nat} {v : Value} {y : DataW H × List MemPlace} (t0 : DataW.trod enc Tryz.prog W 0 (fun _ => true) true fuel 26 [v] = some y)
    (w0 : ∀ n ∈ y.1.weights Tryz.prog 26, n ≤ reachBytes) : ∃ A c N, v = .slice A (List.length N) c ∧ RowR W A (txtCells N) ∧ N.length ≤ c ∧ N.length * 16 ≤ 140737488355328 ∧ ∀ s ∈ N, TxtOk s := by
  rcases open_plain Tryz.underlying26 (m := 2) (by kernel_rfl) t0 w0 with rfl | ⟨a, n, c, rfl, hnc, hb, hi⟩
  · exact ⟨none, 0, [], rfl, fun j u hj => by simp [txtCells] at hj, Nat.le_refl _, by simp, by simp⟩
  · obtain ⟨l, hl, hq, hr⟩ := row_of (fun s : Txt => [Value.string s]) 1 (fun _ => rfl) (by decide) (W := W) (a := a) (n := n) TxtOk (fun i hin => by
      obtain ⟨cs, L, hlen, hat, hL⟩ := hi i (by omega)
      rw [cells_txt] at hat hlen
      obtain ⟨c0, rfl⟩ := len_one hlen
      obtain ⟨s, rfl, hs⟩ := lits_txt hL
      exact ⟨s, hs, hat⟩)
    subst hl
    rw [bytes_txt] at hb
    simp only [reachBytes] at hb
    rw [flat_txt] at hr
    exact ⟨_, c, l, rfl, hr, hnc, by omega, hq⟩
end Go.Proofs.YtddffnonlmfhdaaGreatDoor.edRead
namespace Go.Proofs.YtddffnonlmfhdaaGreatDoor.edRead
open Go.ChangeShapes Go.WideShapes Go.ChangeAt Go.RowKit
set_option maxRecDepth 20000 in
theorem top_txts {H : Type} {enc : TypeId × Value → H} {W : World} {base : Nat} {v : Value} {d0 : DataW H} {p0 : List MemPlace} (hv : Value.okWide Tryz.prog W .any base 26 v) (h : DataW.Trod enc Tryz.prog W 0 (fun _ => true) true 26 v d0 p0)
    (hz : ∀ n ∈ d0.weights Tryz.prog 26, n ≤ reachBytes) : ∃ A c N, v = .slice A (List.length N) c ∧ RowR W A (txtCells N) ∧ N.length ≤ c ∧ N.length * 16 ≤ 140737488355328 ∧ ∀ s ∈ N, TxtOk s := by
  obtain ⟨a, len, cap, rfl⟩ := okWide_slice Tryz.underlying26 hv
  obtain ⟨fuel, hf⟩ := h
  exact read_txts (y := (d0, p0)) hf hz
end Go.Proofs.YtddffnonlmfhdaaGreatDoor.edRead
namespace Go.Proofs.YtddffnonlmfhdaaGreatDoor.edRead
open Go.ChangeShapes Go.WideShapes Go.ChangeAt Go.RowKit
set_option linter.unusedVariables false
theorem lits_int {n : Nat} {c : Value} {l : List Lit} (h : Tryz.prog.keyLits n 3 [c] = some l) : ∃ x, c = .int .i64 x ∧ Wf x := by
  cases n with
  | zero => simp [Program.keyLits] at h
  | succ n =>
    unfold Program.keyLits at h
    simp only [Tryz.underlying3] at h
    cases c <;> simp at h
    rename_i k v
    obtain ⟨⟨rfl, hw⟩, _⟩ := h
    exact ⟨v, rfl, hw⟩
theorem lits_bool {n : Nat} {c : Value} {l : List Lit} (h : Tryz.prog.keyLits n 4 [c] = some l) : ∃ x, c = .bool x := by
  cases n with
  | zero => simp [Program.keyLits] at h
  | succ n =>
    unfold Program.keyLits at h
    simp only [Tryz.underlying4] at h
    cases c <;> simp at h
    exact ⟨_, rfl⟩
theorem cells_int : Tryz.prog.cellsOf 3 = 1 := by kernel_rfl
theorem cells_bool : Tryz.prog.cellsOf 4 = 1 := by kernel_rfl
theorem cells_sym : Tryz.prog.cellsOf 96 = 2 := by kernel_rfl
theorem cells_syms : Tryz.prog.cellsOf 69 = 1 := by kernel_rfl
theorem cells_prod : Tryz.prog.cellsOf 71 = 2 := by kernel_rfl
theorem cells_prods : Tryz.prog.cellsOf 48 = 1 := by kernel_rfl
theorem cells_cnf : Tryz.prog.cellsOf 50 = 2 := by kernel_rfl
theorem cells_fact : Tryz.prog.cellsOf 52 = 3 := by kernel_rfl
theorem bytes_sym : Tryz.prog.bytesOf 96 = 16 := by kernel_rfl
theorem bytes_prod : Tryz.prog.bytesOf 71 = 32 := by kernel_rfl
instance : Inhabited Sy := ⟨⟨false, 0⟩⟩
instance : Inhabited Pv := ⟨⟨⟨0, []⟩, none, 0⟩⟩
theorem lits_sym {cs : List Value} {L : List Lit} (hl : cs.length = 2) (h : Tryz.prog.keyLits 2 96 cs = some L) : ∃ s : Sy, cs = s.cells ∧ Wf s.at_ := by
  obtain ⟨c0, c1, rfl⟩ := len_two hl
  rw [show (2 : Nat) = 1 + 1 from rfl] at h
  unfold Program.keyLits at h
  simp only [Tryz.underlying96] at h
  split at h
  · obtain ⟨l, hl', _⟩ := Option.map_eq_some_iff.1 h
    simp only [cells_bool, cells_int, List.mapM_cons, List.mapM_nil, bind, Option.bind_eq_some_iff] at hl'
    obtain ⟨l0, h0, q0, ⟨l1, h1, -⟩, -⟩ := hl'
    simp at h0 h1
    obtain ⟨x, rfl⟩ := lits_bool h0
    obtain ⟨y, rfl, hy⟩ := lits_int h1
    exact ⟨⟨x, y⟩, rfl, hy⟩
  · cases h
theorem read_syms {H : Type} {enc : TypeId × Value → H} {W : World} {fuel : Nat} {v : Value} {y : DataW H × List MemPlace} (t0 : DataW.trod enc Tryz.prog W 0 (fun _ => true) true fuel 69 [v] = some y)
    (w0 : ∀ n ∈ y.1.weights Tryz.prog 69, n ≤ reachBytes) : ∃ A c S, v = .slice A (List.length S) c ∧ RowR W A (syCells S) ∧ S.length ≤ c ∧ S.length * 16 ≤ 140737488355328 ∧ ∀ s ∈ S, Wf s.at_ := by
  rcases open_plain Tryz.underlying69 (m := 2) (by kernel_rfl) t0 w0 with rfl | ⟨a, n, c, rfl, hnc, hb, hi⟩
  · exact ⟨none, 0, [], rfl, fun j u hj => by simp [syCells] at hj, Nat.le_refl _, by simp, by simp⟩
  · obtain ⟨l, hl, hq, hr⟩ := row_of Sy.cells 2 (fun _ => rfl) (by decide) (W := W) (a := a) (n := n) (fun s => Wf s.at_) (fun i hin => by
      obtain ⟨cs, L, hlen, hat, hL⟩ := hi i (by omega)
      rw [cells_sym] at hat hlen
      obtain ⟨f, rfl, hw⟩ := lits_sym hlen hL
      exact ⟨f, hw, hat⟩)
    subst hl
    rw [bytes_sym] at hb
    simp only [reachBytes] at hb
    exact ⟨_, c, l, rfl, hr, hnc, by omega, hq⟩
/-- A production none too great. -/
def PvFit (v : Pv) : Prop := Wf v.pr.head ∧ v.pr.body.length ≤ v.cap ∧ v.pr.body.length * 16 ≤ 140737488355328 ∧ ∀ s ∈ v.pr.body, Wf s.at_
theorem weights_all {H : Type} {P : Program} {e : TypeId} {d : DataW H} : ∀ {l : List (DataW H)}, d ∈ l → ∀ n ∈ d.weights P e, n ∈ DataW.weightsAll P e l
  | x :: l, h, n, hn => by
    rw [DataW.weightsAll, List.mem_append]
    rcases List.mem_cons.1 h with rfl | h
    · exact .inl hn
    · exact .inr (weights_all h n hn)
set_option maxRecDepth 20000 in
/-- One production's cells read. -/
theorem read_prod {H : Type} {enc : TypeId × Value → H} {W : World} {fuel : Nat} {cs : List Value} {y : DataW H × List MemPlace} (hl : cs.length = 2) (t : DataW.trod enc Tryz.prog W 0 (fun _ => true) true fuel 71 cs = some y)
    (hz : ∀ n ∈ y.1.weights Tryz.prog 71, n ≤ reachBytes) : ∃ v : Pv, cs = v.cells ∧ RowR W v.adr (syCells v.pr.body) ∧ PvFit v := by
  obtain ⟨c0, c1, rfl⟩ := len_two hl
  obtain ⟨y0, y1, n, hx, -, t0, t1⟩ := trod_struct2 Tryz.underlying71 t
  simp only [cells_int, cells_syms, List.drop_zero, List.take_succ_cons, List.take_zero, List.drop_succ_cons] at t0 t1
  subst hx
  have w1 : ∀ n ∈ y1.1.weights Tryz.prog 69, n ≤ reachBytes := fun n hn => hz n (by
    simp only [DataW.weights, Tryz.underlying71, DataW.weightsEach, List.map_cons, List.map_nil, List.mem_append]
    exact .inr (.inl hn))
  obtain ⟨h, e, -, hw⟩ := DataW.trod_int Tryz.underlying3 t0
  injection e with e _
  subst e
  obtain ⟨A, c, S, rfl, hr, h1, h2, h3⟩ := read_syms t1 w1
  exact ⟨⟨⟨h, S⟩, A, c⟩, rfl, hr, hw, h1, h2, h3⟩
theorem read_prods {H : Type} {enc : TypeId × Value → H} {W : World} {fuel : Nat} {v : Value} {y : DataW H × List MemPlace} (t0 : DataW.trod enc Tryz.prog W 0 (fun _ => true) true fuel 48 [v] = some y)
    (w0 : ∀ n ∈ y.1.weights Tryz.prog 48, n ≤ reachBytes) : ∃ A c PV, v = .slice A (List.length PV) c ∧ PvR W A PV ∧ PV.length ≤ c ∧ PV.length * 32 ≤ 140737488355328 ∧ ∀ x ∈ PV, PvFit x := by
  rcases Deep.open_slice Tryz.underlying48 t0 with ⟨hcs, _⟩ | ⟨a, len, cap, m', n', D, Pl, hcs, _, hl, hm, hmm, hx, hi⟩
  · injection hcs with hcs
    subst hcs
    exact ⟨none, 0, [], rfl, ⟨fun j u hj => by simp [pvCells] at hj, by simp⟩, Nat.le_refl _, by simp, by simp⟩
  · injection hcs with hcs
    subst hcs
    obtain rfl : m' = cap := by rw [hmm]; exact if_pos rfl
    subst hx
    have hb := w0 (m' * Tryz.prog.bytesOf 71) (by
      simp only [DataW.weights, Tryz.underlying48, List.length_map, List.length_range, show len + (m' - len) = m' by omega]
      simp)
    have hd : ∀ i, i < len → ∀ n ∈ (D i).weights Tryz.prog 71, n ≤ reachBytes := fun i hi' n hn => w0 n (by
      simp only [DataW.weights, Tryz.underlying48, List.mem_cons, List.mem_append]
      exact .inr (.inl (weights_all (List.mem_map.2 ⟨i, List.mem_range.2 hi', rfl⟩) n hn)))
    obtain ⟨l, hll, hq, hr⟩ := row_of Pv.cells 2 (fun _ => rfl) (by decide) (W := W) (a := a) (n := len) (fun v => RowR W v.adr (syCells v.pr.body) ∧ PvFit v) (fun i hin => by
      obtain ⟨cs', hc, ht'⟩ := hi i (by omega)
      obtain ⟨_, hlen, hat⟩ := World.cells?_some hc
      rw [cells_prod] at hlen hat
      obtain ⟨v, rfl, h1, h2⟩ := read_prod hlen ht' (hd i hin)
      exact ⟨v, ⟨h1, h2⟩, fun j hj => by
        have := hat j hj
        rw [Deep.add_add] at this
        exact this⟩)
    subst hll
    rw [bytes_prod] at hb
    simp only [reachBytes] at hb
    exact ⟨_, m', l, rfl, ⟨hr, fun v hv => (hq v hv).1⟩, hl, by omega, fun v hv => (hq v hv).2⟩
set_option maxRecDepth 20000 in
/-- A grammar that comes in. -/
theorem top_cnf {H : Type} {enc : TypeId × Value → H} {W : World} {base : Nat} {v : Value} {d0 : DataW H} {p0 : List MemPlace} (hv : Value.okWide Tryz.prog W .any base 50 v) (h : DataW.Trod enc Tryz.prog W 0 (fun _ => true) true 50 v d0 p0)
    (hz : ∀ n ∈ d0.weights Tryz.prog 50, n ≤ reachBytes) : ∃ (nts : Int) (A : Option Addr) (c : Nat) (PV : List Pv), v = .agg #[.int .i64 nts, .slice A PV.length c] ∧ Wf nts ∧ PvR W A PV ∧ PV.length ≤ c ∧ PV.length * 32 ≤ 140737488355328 ∧ ∀ x ∈ PV, PvFit x := by
  obtain ⟨cs, rfl, hcs⟩ := okWide_struct Tryz.underlying50 hv
  rw [cells_cnf] at hcs
  obtain ⟨c0, c1, hc⟩ := len_two (l := cs.toList) (by simpa using hcs)
  obtain rfl : cs = #[c0, c1] := by cases cs; simp_all
  obtain ⟨fuel, hf⟩ := h
  obtain ⟨y0, y1, n, hx, -, t0, t1⟩ := trod_struct2 Tryz.underlying50 hf
  simp only [Value.cells, cells_int, cells_prods, List.drop_zero, List.take_succ_cons, List.take_zero, List.drop_succ_cons] at t0 t1
  injection hx with hx1 hx2
  subst hx1
  have w1 : ∀ n ∈ y1.1.weights Tryz.prog 48, n ≤ reachBytes := fun n hn => hz n (by
    simp only [DataW.weights, Tryz.underlying50, DataW.weightsEach, List.map_cons, List.map_nil, List.mem_append]
    exact .inr (.inl hn))
  obtain ⟨nts, e, -, hw⟩ := DataW.trod_int Tryz.underlying3 t0
  injection e with e _
  subst e
  obtain ⟨A, c, PV, rfl, h1⟩ := read_prods t1 w1
  exact ⟨nts, A, c, PV, rfl, hw, h1⟩
set_option maxRecDepth 20000 in
/-- A fact that comes in. -/
theorem top_fact {H : Type} {enc : TypeId × Value → H} {W : World} {base : Nat} {v : Value} {d0 : DataW H} {p0 : List MemPlace} (hv : Value.okWide Tryz.prog W .any base 52 v) (h : DataW.Trod enc Tryz.prog W 0 (fun _ => true) true 52 v d0 p0) :
    ∃ k i j : Int, v = .agg #[.int .i64 k, .int .i64 i, .int .i64 j] ∧ Wf k ∧ Wf i ∧ Wf j := by
  obtain ⟨cs, rfl, hcs⟩ := okWide_struct Tryz.underlying52 hv
  rw [cells_fact] at hcs
  obtain ⟨fuel, hf⟩ := h
  have hk := (keyLits_of_trod 2 52 (by kernel_rfl) fuel _ _ hf).1
  obtain ⟨c0, c1, c2, hc⟩ := len_three (l := cs.toList) (by simpa using hcs)
  obtain rfl : cs = #[c0, c1, c2] := by cases cs; simp_all
  simp only [Value.cells] at hk
  rw [show (2 : Nat) = 1 + 1 from rfl] at hk
  unfold Program.keyLits at hk
  simp only [Tryz.underlying52] at hk
  split at hk
  · obtain ⟨l, hl', _⟩ := Option.map_eq_some_iff.1 hk
    simp only [cells_int, List.mapM_cons, List.mapM_nil, bind, Option.bind_eq_some_iff] at hl'
    obtain ⟨l0, h0, q0, ⟨l1, h1, q1, ⟨l2, h2, -⟩, -⟩, -⟩ := hl'
    simp at h0 h1 h2
    obtain ⟨x, rfl, hx⟩ := lits_int h0
    obtain ⟨y, rfl, hy⟩ := lits_int h1
    obtain ⟨z, rfl, hz⟩ := lits_int h2
    exact ⟨x, y, z, rfl, hx, hy, hz⟩
  · cases hk
end Go.Proofs.YtddffnonlmfhdaaGreatDoor.edRead
