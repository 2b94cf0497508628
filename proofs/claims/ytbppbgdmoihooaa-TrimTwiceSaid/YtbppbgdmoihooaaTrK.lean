/- Forests: until nothing changes (trim.settle). -/
import Derived.Test.YtbppbgdmoihooaaTrJ
import Derived.Deep.LoopGhost
namespace Go.Proofs.Ytbppbgdmoihooaa
open Go.RowKit

set_option maxHeartbeats 2000000 in
set_option maxRecDepth 20000 in
/-- settle, whatever the closure does at a state: it goes on until no round changes anything. -/
theorem settle_better {σ : Type} (w : World) (n : Nat) (v : Value) (St : World → σ → Prop) (ok : σ → Nat → Bool) (next : σ → Nat → σ) (weight : σ → Nat) (hn : n ≤ 100000000000000)
    (hstep : ∀ (w : World) (x : σ) (i : Nat), i < n → St w x → Calls Try.prog 84 #[v, .int .i64 (i : Int)] w fun e w' => e = .returned (.bool (ok x i)) ∧ (ok x i = true → St w' (next x i)) ∧ (ok x i = false → St w' x))
    (hwt : ∀ (w : World) (x : σ) (i : Nat), St w x → i < n → ok x i = true → weight (next x i) < weight x) (x0 : σ) (h0 : St w x0) :
    Calls Try.prog 83 #[.int .i64 (n : Int), .func (.func 84) #[v] #[]] w fun e w' => (∃ v, e = .returned v) ∧ ∃ x, St w' x ∧ ∀ i, i < n → ok x i = false := by
  have H := Lib.hid (And.intro hstep (And.intro hwt h0))
  clear hstep hwt h0
  go_enter Try.func83, Try.ntmps83
  go_wp2
  go_loopg [4] (weight x0 + 1) (fun g av wr => ∃ (b : Bool) (x : σ), av = .bool b ∧ St wr x ∧ (b = false → ∀ i, i < n → ok x i = false) ∧ (b = true → weight x < g))
  case atStart => exact ⟨true, x0, rfl, H.out.2.2, fun h => (by cases h), fun _ => Nat.lt_succ_self _⟩
  case round =>
    obtain ⟨b, x, rfl, hst, hf, ht⟩ := hrel
    have HR := Lib.hid (And.intro hst (And.intro hf ht))
    clear hst hf ht
    cases b with
    | false =>
      go_wp2
      go_end0
      exact ⟨⟨_, rfl⟩, x, HR.out.1, HR.out.2.1 (by first | rfl | trivial)⟩
    | true =>
      have hgk := HR.out.2.2 rfl
      have HG := Lib.hid hgk
      clear hgk
      obtain ⟨wo, rfl⟩ : ∃ wo : World, wo = wr := ⟨_, rfl⟩
      go_wp2
      go_loopw [4, 8] (fun av iv wr => ∃ (b : Bool) (k : Nat) (y : σ), k ≤ n ∧ av = .bool b ∧ iv = .int .i64 k ∧ St wr y ∧ (b = false → y = x ∧ ∀ i, i < k → ok x i = false) ∧ (b = true → weight y < weight x)) (fun _ iv _ => n - (intOf iv).toNat)
      case atStart => exact ⟨false, 0, x, Nat.zero_le _, rfl, rfl, HR.out.1, fun _ => ⟨rfl, fun i hi => by omega⟩, fun h => (by cases h)⟩
      case round =>
        obtain ⟨b, k, y, hk, rfl, rfl, hst, hf, ht⟩ := hrel
        have HS := Lib.hid (And.intro hst (And.intro hf ht))
        clear hst hf ht
        by_cases hlt : k < n
        · have hltI : (k : Int) < (n : Int) := by omega
          go_wp2_with fail
          refine (H.out.1 wr y k hlt HS.out.1).mono ?_
          rintro e w' ⟨rfl, h1, h2⟩
          have HC := Lib.hid (And.intro h1 h2)
          clear h1 h2
          cases hok : ok y k with
          | true =>
            have HK := Lib.hid hok
            clear hok
            go_wp2
            go_roundw
            case rel =>
              refine ⟨true, k + 1, next y k, by omega, rfl, by go_num, HC.out.1 HK.out, fun h => (by cases h), fun _ => ?_⟩
              have h1 := H.out.2.1 wr y k HS.out.1 hlt HK.out
              cases b with
              | true => exact Nat.lt_trans h1 (HS.out.2.2 rfl)
              | false => have := (HS.out.2.1 rfl).1; rw [this] at h1 ⊢; exact h1
            case measure => simp [intOf]; omega
          | false =>
            have HK := Lib.hid hok
            clear hok
            go_wp2
            go_roundw
            case rel =>
              refine ⟨b, k + 1, y, by omega, rfl, by go_num, HC.out.2 HK.out, fun hb => ?_, HS.out.2.2⟩
              obtain ⟨e, h1⟩ := HS.out.2.1 hb
              refine ⟨e, fun i hi => ?_⟩
              by_cases e2 : i < k
              · exact h1 i e2
              · obtain rfl : i = k := by omega
                rw [← e]
                exact HK.out
            case measure => simp [intOf]; omega
        · obtain rfl : k = n := by omega
          clear hlt
          go_wp2
          go_roundg (weight x)
          case measure => exact HG.out
          case rel => exact ⟨b, y, rfl, HS.out.1, fun hb => (by obtain ⟨e, h1⟩ := HS.out.2.1 hb; rw [e]; exact h1), HS.out.2.2⟩

set_option maxHeartbeats 2000000 in
set_option maxRecDepth 20000 in
/-- settle, whatever the closure does at a state: it goes on until no round changes anything. -/
theorem settle_spread {σ : Type} (w : World) (n : Nat) (u v : Value) (St : World → σ → Prop) (ok : σ → Nat → Bool) (next : σ → Nat → σ) (weight : σ → Nat) (hn : n ≤ 100000000000000)
    (hstep : ∀ (w : World) (x : σ) (i : Nat), i < n → St w x → Calls Try.prog 90 #[.int .i64 (i : Int), u, v] w fun e w' => e = .returned (.bool (ok x i)) ∧ (ok x i = true → St w' (next x i)) ∧ (ok x i = false → St w' x))
    (hwt : ∀ (w : World) (x : σ) (i : Nat), St w x → i < n → ok x i = true → weight (next x i) < weight x) (x0 : σ) (h0 : St w x0) :
    Calls Try.prog 83 #[.int .i64 (n : Int), .func (.func 90) #[] #[u, v]] w fun e w' => (∃ v, e = .returned v) ∧ ∃ x, St w' x ∧ ∀ i, i < n → ok x i = false := by
  have H := Lib.hid (And.intro hstep (And.intro hwt h0))
  clear hstep hwt h0
  go_enter Try.func83, Try.ntmps83
  go_wp2
  go_loopg [4] (weight x0 + 1) (fun g av wr => ∃ (b : Bool) (x : σ), av = .bool b ∧ St wr x ∧ (b = false → ∀ i, i < n → ok x i = false) ∧ (b = true → weight x < g))
  case atStart => exact ⟨true, x0, rfl, H.out.2.2, fun h => (by cases h), fun _ => Nat.lt_succ_self _⟩
  case round =>
    obtain ⟨b, x, rfl, hst, hf, ht⟩ := hrel
    have HR := Lib.hid (And.intro hst (And.intro hf ht))
    clear hst hf ht
    cases b with
    | false =>
      go_wp2
      go_end0
      exact ⟨⟨_, rfl⟩, x, HR.out.1, HR.out.2.1 (by first | rfl | trivial)⟩
    | true =>
      have hgk := HR.out.2.2 rfl
      have HG := Lib.hid hgk
      clear hgk
      obtain ⟨wo, rfl⟩ : ∃ wo : World, wo = wr := ⟨_, rfl⟩
      go_wp2
      go_loopw [4, 8] (fun av iv wr => ∃ (b : Bool) (k : Nat) (y : σ), k ≤ n ∧ av = .bool b ∧ iv = .int .i64 k ∧ St wr y ∧ (b = false → y = x ∧ ∀ i, i < k → ok x i = false) ∧ (b = true → weight y < weight x)) (fun _ iv _ => n - (intOf iv).toNat)
      case atStart => exact ⟨false, 0, x, Nat.zero_le _, rfl, rfl, HR.out.1, fun _ => ⟨rfl, fun i hi => by omega⟩, fun h => (by cases h)⟩
      case round =>
        obtain ⟨b, k, y, hk, rfl, rfl, hst, hf, ht⟩ := hrel
        have HS := Lib.hid (And.intro hst (And.intro hf ht))
        clear hst hf ht
        by_cases hlt : k < n
        · have hltI : (k : Int) < (n : Int) := by omega
          go_wp2_with fail
          refine (H.out.1 wr y k hlt HS.out.1).mono ?_
          rintro e w' ⟨rfl, h1, h2⟩
          have HC := Lib.hid (And.intro h1 h2)
          clear h1 h2
          cases hok : ok y k with
          | true =>
            have HK := Lib.hid hok
            clear hok
            go_wp2
            go_roundw
            case rel =>
              refine ⟨true, k + 1, next y k, by omega, rfl, by go_num, HC.out.1 HK.out, fun h => (by cases h), fun _ => ?_⟩
              have h1 := H.out.2.1 wr y k HS.out.1 hlt HK.out
              cases b with
              | true => exact Nat.lt_trans h1 (HS.out.2.2 rfl)
              | false => have := (HS.out.2.1 rfl).1; rw [this] at h1 ⊢; exact h1
            case measure => simp [intOf]; omega
          | false =>
            have HK := Lib.hid hok
            clear hok
            go_wp2
            go_roundw
            case rel =>
              refine ⟨b, k + 1, y, by omega, rfl, by go_num, HC.out.2 HK.out, fun hb => ?_, HS.out.2.2⟩
              obtain ⟨e, h1⟩ := HS.out.2.1 hb
              refine ⟨e, fun i hi => ?_⟩
              by_cases e2 : i < k
              · exact h1 i e2
              · obtain rfl : i = k := by omega
                rw [← e]
                exact HK.out
            case measure => simp [intOf]; omega
        · obtain rfl : k = n := by omega
          clear hlt
          go_wp2
          go_roundg (weight x)
          case measure => exact HG.out
          case rel => exact ⟨b, y, rfl, HS.out.1, fun hb => (by obtain ⟨e, h1⟩ := HS.out.2.1 hb; rw [e]; exact h1), HS.out.2.2⟩

end Go.Proofs.Ytbppbgdmoihooaa
