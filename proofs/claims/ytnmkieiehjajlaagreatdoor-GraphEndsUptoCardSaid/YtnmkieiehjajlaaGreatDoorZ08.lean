/- The bits of a word, counted by halves (plain arithmetic). Nothing here names the program. -/
import Derived.WalkKit
set_option linter.unusedVariables false
set_option linter.unusedSimpArgs false
namespace Go.Proofs.YtnmkieiehjajlaaGreatDoor

/-- How many of the lowest k bits are set. -/
def pcN : Nat → Nat → Nat
  | 0, _ => 0
  | k + 1, x => x % 2 + pcN k (x / 2)
theorem pcN_le : ∀ (k x : Nat), pcN k x ≤ k
  | 0, _ => Nat.le_refl _
  | k + 1, x => by
    have := pcN_le k (x / 2)
    unfold pcN
    omega
theorem pcN_split : ∀ (k m x : Nat), pcN (k + m) x = pcN k x + pcN m (x / 2 ^ k)
  | 0, m, x => by simp [pcN]
  | k + 1, m, x => by
    rw [show k + 1 + m = (k + m) + 1 by omega, pcN, pcN, pcN_split k m (x / 2), Nat.div_div_eq_div_mul, Nat.pow_succ, Nat.mul_comm 2]
    omega
theorem pcN_mod : ∀ (k x : Nat), pcN k (x % 2 ^ k) = pcN k x
  | 0, _ => rfl
  | k + 1, x => by
    have h : x % 2 ^ (k + 1) / 2 = x / 2 % 2 ^ k := by
      rw [Nat.pow_succ, Nat.mul_comm, Nat.mod_mul_right_div_self]
    have h2 : x % 2 ^ (k + 1) % 2 = x % 2 := by
      rw [Nat.pow_succ]
      exact Nat.mod_mul_left_mod _ _ _
    rw [pcN, pcN, h, h2, pcN_mod k]
/-- A mask of n bytes that are all c. -/
def msk (c : Nat) : Nat → Nat
  | 0 => 0
  | n + 1 => c + 256 * msk c n
theorem and_split (a b c d : Nat) (ha : a < 256) (hc : c < 256) : (a + 256 * b) &&& (c + 256 * d) = (a &&& c) + 256 * (b &&& d) := by
  apply Nat.eq_of_testBit_eq
  intro i
  have hac : a &&& c < 2 ^ 8 := Nat.lt_of_le_of_lt Nat.and_le_left ha
  rw [Nat.testBit_and, show a + 256 * b = 2 ^ 8 * b + a by omega, show c + 256 * d = 2 ^ 8 * d + c by omega, show (a &&& c) + 256 * (b &&& d) = 2 ^ 8 * (b &&& d) + (a &&& c) by omega,
    Nat.testBit_two_pow_mul_add _ ha, Nat.testBit_two_pow_mul_add _ hc, Nat.testBit_two_pow_mul_add _ hac]
  split <;> simp
def s1 (n x : Nat) : Nat := (x / 2 &&& msk 85 n) + (x &&& msk 85 n)
def s2 (n x : Nat) : Nat := (x / 4 &&& msk 51 n) + (x &&& msk 51 n)
def s3 (n x : Nat) : Nat := (x / 16 + x) &&& msk 15 n
theorem s1_byte : ∀ a, a < 256 → ∀ t, t < 2 → ((a / 2 + 128 * t) &&& 85) + (a &&& 85) = s1 1 a ∧ s1 1 a < 256 := by decide +kernel
theorem s2_byte : ∀ a, a < 256 → ∀ t, t < 4 → ((a / 4 + 64 * t) &&& 51) + (a &&& 51) = s2 1 a ∧ s2 1 a < 256 := by decide +kernel
theorem s1_split (n a b : Nat) (ha : a < 256) : s1 (n + 1) (a + 256 * b) = s1 1 a + 256 * s1 n b := by
  have h := (s1_byte a ha (b % 2) (by omega)).1
  have e : (a + 256 * b) / 2 = (a / 2 + 128 * (b % 2)) + 256 * (b / 2) := by omega
  have hm : msk 85 (n + 1) = 85 + 256 * msk 85 n := rfl
  have : s1 (n + 1) (a + 256 * b) = ((a + 256 * b) / 2 &&& msk 85 (n + 1)) + ((a + 256 * b) &&& msk 85 (n + 1)) := rfl
  rw [this, hm, e, and_split _ _ _ _ (by omega) (by decide), and_split _ _ _ _ ha (by decide), ← h]
  have : s1 n b = (b / 2 &&& msk 85 n) + (b &&& msk 85 n) := rfl
  rw [this]
  omega
theorem s2_split (n a b : Nat) (ha : a < 256) : s2 (n + 1) (a + 256 * b) = s2 1 a + 256 * s2 n b := by
  have h := (s2_byte a ha (b % 4) (by omega)).1
  have e : (a + 256 * b) / 4 = (a / 4 + 64 * (b % 4)) + 256 * (b / 4) := by omega
  have hm : msk 51 (n + 1) = 51 + 256 * msk 51 n := rfl
  have : s2 (n + 1) (a + 256 * b) = ((a + 256 * b) / 4 &&& msk 51 (n + 1)) + ((a + 256 * b) &&& msk 51 (n + 1)) := rfl
  rw [this, hm, e, and_split _ _ _ _ (by omega) (by decide), and_split _ _ _ _ ha (by decide), ← h]
  have : s2 n b = (b / 4 &&& msk 51 n) + (b &&& msk 51 n) := rfl
  rw [this]
  omega
theorem s3_split (n a b : Nat) (ha : a ≤ 68) (hb : b % 16 ≤ 4) : s3 (n + 1) (a + 256 * b) = s3 1 a + 256 * s3 n b := by
  have e : (a + 256 * b) / 16 + (a + 256 * b) = (a / 16 + a + 16 * (b % 16)) + 256 * (b / 16 + b) := by omega
  have hm : msk 15 (n + 1) = 15 + 256 * msk 15 n := rfl
  have : s3 (n + 1) (a + 256 * b) = ((a + 256 * b) / 16 + (a + 256 * b)) &&& msk 15 (n + 1) := rfl
  rw [this, hm, e, and_split _ _ _ _ (by omega) (by decide)]
  have e1 : s3 1 a = (a / 16 + a) &&& 15 := rfl
  have e2 : ∀ x, x &&& 15 = x % 16 := fun x => Nat.and_two_pow_sub_one_eq_mod x 4
  rw [e1, e2, e2]
  have : s3 n b = (b / 16 + b) &&& msk 15 n := rfl
  rw [this]
  omega
/-- One byte: three steps count its bits. -/
theorem byte_pc : ∀ a, a < 256 → s3 1 (s2 1 (s1 1 a)) = pcN 8 a ∧ s2 1 (s1 1 a) ≤ 68 ∧ s2 1 (s1 1 a) % 16 ≤ 4 := by decide +kernel
/-- n bytes' counts, each in its byte. -/
def pcs : Nat → Nat → Nat
  | 0, _ => 0
  | n + 1, x => pcN 8 x + 256 * pcs n (x / 256)
theorem low16 (n b : Nat) (hb : b < 256 ^ n) : s2 n (s1 n b) % 16 ≤ 4 := by
  cases n with
  | zero =>
    have : s2 0 (s1 0 b) = 0 := by
      have h : s1 0 b = 0 := by unfold s1 msk; simp
      rw [h]
      rfl
    rw [this]
    decide
  | succ n =>
    have e : b = b % 256 + 256 * (b / 256) := by omega
    have h1 := (byte_pc (b % 256) (by omega)).2.2
    have hs := (s1_byte (b % 256) (by omega) 0 (by omega)).2
    rw [e, s1_split _ _ _ (by omega), s2_split _ _ _ hs]
    omega
theorem steps_pc : ∀ (n x : Nat), x < 256 ^ n → s3 n (s2 n (s1 n x)) = pcs n x
  | 0, x, _ => by unfold s3 msk pcs; simp
  | n + 1, x, hx => by
    have e : x = x % 256 + 256 * (x / 256) := by omega
    have hb : x / 256 < 256 ^ n := by rw [Nat.pow_succ] at hx; omega
    have h1 := byte_pc (x % 256) (by omega)
    have hs := (s1_byte (x % 256) (by omega) 0 (by omega)).2
    have hp : pcN 8 (x % 256) = pcN 8 x := pcN_mod 8 x
    have : s3 (n + 1) (s2 (n + 1) (s1 (n + 1) x)) = s3 1 (s2 1 (s1 1 (x % 256))) + 256 * s3 n (s2 n (s1 n (x / 256))) := by
      conv => lhs; rw [e]
      rw [s1_split _ _ _ (by omega), s2_split _ _ _ hs, s3_split _ _ _ h1.2.1 (low16 n _ hb)]
    rw [this, steps_pc n _ hb, h1.1, hp]
    rfl
theorem sum8 {p0 p1 p2 p3 p4 p5 p6 p7 y y1 y2 y3 y4 y5 y6 : Nat} (h : y = p0 + 256 * y1) (h1 : y1 = p1 + 256 * y2) (h2 : y2 = p2 + 256 * y3) (h3 : y3 = p3 + 256 * y4) (h4 : y4 = p4 + 256 * y5) (h5 : y5 = p5 + 256 * y6) (h6 : y6 = p6 + 256 * p7)
    (b0 : p0 ≤ 8) (b1 : p1 ≤ 8) (b2 : p2 ≤ 8) (b3 : p3 ≤ 8) (b4 : p4 ≤ 8) (b5 : p5 ≤ 8) (b6 : p6 ≤ 8) (b7 : p7 ≤ 8) :
    ((y + y / 256) + (y + y / 256) / 65536 + ((y + y / 256) + (y + y / 256) / 65536) / 4294967296) % 128 = p0 + p1 + p2 + p3 + p4 + p5 + p6 + p7 := by
  have e1 : y / 256 = y1 := by omega
  rw [e1]
  have e2 : (y + y1) / 65536 = y2 + y3 := by
    have : y + y1 = (p0 + p1) + 256 * (p1 + p2) + 65536 * (y2 + y3) := by omega
    rw [this]
    clear this e1 h h1 h2 h3 h4 h5 h6
    omega
  rw [e2]
  have e3 : (y + y1 + (y2 + y3)) / 4294967296 = y4 + y5 + y6 + p7 := by
    have : y + y1 + (y2 + y3) = (p0 + p1 + p2 + p3) + 256 * (p1 + p2 + p3 + p4) + 65536 * (p2 + p3 + p4 + p5) + 16777216 * (p3 + p4 + p5 + p6) + 4294967296 * (y4 + y5 + y6 + p7) := by omega
    rw [this]
    clear this e1 e2 h h1 h2 h3 h4 h5 h6
    omega
  rw [e3]
  have : y + y1 + (y2 + y3) + (y4 + y5 + y6 + p7) = (p0 + p1 + p2 + p3 + p4 + p5 + p6 + p7) + 256 * (y1 + y2 + y3 + y4 + y5 + y6 + p7) := by omega
  rw [this]
  clear this e1 e2 e3 h h1 h2 h3 h4 h5 h6
  omega
/-- The bytes' counts, added. -/
theorem pcs_sum (x : Nat) : ((pcs 8 x + pcs 8 x / 256) + (pcs 8 x + pcs 8 x / 256) / 65536 + ((pcs 8 x + pcs 8 x / 256) + (pcs 8 x + pcs 8 x / 256) / 65536) / 4294967296) % 128 = pcN 64 x := by
  have e : pcN 64 x = pcN 8 x + pcN 8 (x / 256) + pcN 8 (x / 256 / 256) + pcN 8 (x / 256 / 256 / 256) + pcN 8 (x / 256 / 256 / 256 / 256) + pcN 8 (x / 256 / 256 / 256 / 256 / 256) + pcN 8 (x / 256 / 256 / 256 / 256 / 256 / 256) + pcN 8 (x / 256 / 256 / 256 / 256 / 256 / 256 / 256) := by
    have s : ∀ m y, pcN (8 + m) y = pcN 8 y + pcN m (y / 256) := fun m y => pcN_split 8 m y
    have e1 := s 56 x
    have e2 := s 48 (x / 256)
    have e3 := s 40 (x / 256 / 256)
    have e4 := s 32 (x / 256 / 256 / 256)
    have e5 := s 24 (x / 256 / 256 / 256 / 256)
    have e6 := s 16 (x / 256 / 256 / 256 / 256 / 256)
    have e7 := s 8 (x / 256 / 256 / 256 / 256 / 256 / 256)
    show pcN (8 + 56) x = _
    rw [e1]
    show _ + pcN (8 + 48) _ = _
    rw [e2]
    show _ + (_ + pcN (8 + 40) _) = _
    rw [e3]
    show _ + (_ + (_ + pcN (8 + 32) _)) = _
    rw [e4]
    show _ + (_ + (_ + (_ + pcN (8 + 24) _))) = _
    rw [e5]
    show _ + (_ + (_ + (_ + (_ + pcN (8 + 16) _)))) = _
    rw [e6]
    show _ + (_ + (_ + (_ + (_ + (_ + pcN (8 + 8) _))))) = _
    rw [e7]
    simp only [Nat.add_assoc]
  rw [e]
  have z : ∀ y, pcs 1 y = pcN 8 y := fun y => by simp [pcs]
  exact sum8 (y := pcs 8 x) (y1 := pcs 7 (x / 256)) (y2 := pcs 6 (x / 256 / 256)) (y3 := pcs 5 (x / 256 / 256 / 256)) (y4 := pcs 4 (x / 256 / 256 / 256 / 256)) (y5 := pcs 3 (x / 256 / 256 / 256 / 256 / 256)) (y6 := pcs 2 (x / 256 / 256 / 256 / 256 / 256 / 256)) rfl rfl rfl rfl rfl rfl (by rw [← z]; rfl) (pcN_le 8 _) (pcN_le 8 _) (pcN_le 8 _) (pcN_le 8 _) (pcN_le 8 _) (pcN_le 8 _) (pcN_le 8 _) (pcN_le 8 _)
end Go.Proofs.YtnmkieiehjajlaaGreatDoor
