/- Plain lemmas on the sum of bytes, bit by bit. -/
import Derived.Test.YtigbhndidohgbaaPBits
set_option linter.unusedVariables false
set_option linter.unusedSimpArgs false
namespace Go.Bn
/-- A turn of a number. -/
def turnN (n : Nat) : Nat := if n % 2 = 1 then n / 2 ^^^ 3988292384 else n / 2
def turnsN : Nat → Nat → Nat
  | 0, n => n
  | k + 1, n => turnsN k (turnN n)
/-- A number gone on by bytes. -/
def goN (n : Nat) (l : List UInt8) : Nat := l.foldl (fun n b => turnsN 8 (n ^^^ b.toNat)) n
theorem goN_nil (n : Nat) : goN n [] = n := rfl
theorem goN_cons (n : Nat) (b : UInt8) (r : List UInt8) : goN n (b :: r) = goN (turnsN 8 (n ^^^ b.toNat)) r := rfl
theorem turnN_lt {n : Nat} (h : n < 4294967296) : turnN n < 4294967296 := by
  unfold turnN
  split
  · exact Nat.xor_lt_two_pow (n := 32) (by omega) (by decide)
  · omega
theorem turnsN_lt : ∀ (k : Nat) {n : Nat}, n < 4294967296 → turnsN k n < 4294967296
  | 0, _, h => h
  | k + 1, _, h => turnsN_lt k (turnN_lt h)
theorem turnsN_succ : ∀ (k n : Nat), turnsN (k + 1) n = turnN (turnsN k n)
  | 0, _ => rfl
  | k + 1, n => by rw [turnsN, turnsN_succ k, turnsN]
theorem turnsN_add : ∀ (j k n : Nat), turnsN (j + k) n = turnsN k (turnsN j n)
  | 0, k, n => by rw [Nat.zero_add]; rfl
  | j + 1, k, n => by rw [show j + 1 + k = (j + k) + 1 by omega, turnsN, turnsN_add j k, turnsN]
theorem xor_mod2 (x y : Nat) : (x ^^^ y) % 2 = (x % 2 + y % 2) % 2 := by
  have := Nat.xor_mod_two_pow (a := x) (b := y) (n := 1)
  rw [Nat.pow_one] at this
  rw [this]
  rcases Nat.mod_two_eq_zero_or_one x with h | h <;> rcases Nat.mod_two_eq_zero_or_one y with h' | h' <;> rw [h, h'] <;> rfl
theorem xor_div2 (x y : Nat) : (x ^^^ y) / 2 = x / 2 ^^^ y / 2 := by
  have := Nat.xor_div_two_pow (a := x) (b := y) (n := 1)
  rwa [Nat.pow_one] at this
theorem turnN_xor (x y : Nat) : turnN (x ^^^ y) = turnN x ^^^ turnN y := by
  have h := xor_mod2 x y
  have h2 := xor_div2 x y
  unfold turnN
  rcases Nat.mod_two_eq_zero_or_one x with hx | hx <;> rcases Nat.mod_two_eq_zero_or_one y with hy | hy <;> rw [hx, hy] at h <;> rw [hx, hy, h, h2] <;> simp only [Nat.reduceAdd, Nat.reduceMod, if_true, if_false, Nat.zero_ne_one, reduceIte]
  · rw [Nat.xor_assoc]
  · rw [Nat.xor_assoc, Nat.xor_assoc]; congr 1; exact Nat.xor_comm _ _
  · rw [show x / 2 ^^^ 3988292384 ^^^ (y / 2 ^^^ 3988292384) = x / 2 ^^^ y / 2 ^^^ (3988292384 ^^^ 3988292384) by ac_rfl, Nat.xor_self, Nat.xor_zero]
theorem turnN_two (y : Nat) : turnN (2 * y) = y := by
  unfold turnN
  rw [if_neg (by omega)]; omega
theorem turnsN_xor : ∀ (k x y : Nat), turnsN k (x ^^^ y) = turnsN k x ^^^ turnsN k y
  | 0, _, _ => rfl
  | k + 1, x, y => by rw [turnsN, turnN_xor, turnsN_xor k]; rfl
theorem turnsN_pow : ∀ (k y : Nat), turnsN k (2 ^ k * y) = y
  | 0, y => by simp [turnsN]
  | k + 1, y => by rw [turnsN, Nat.pow_succ, Nat.mul_comm (2 ^ k) 2, Nat.mul_assoc, turnN_two, turnsN_pow k]
theorem turnsN_zero (k : Nat) : turnsN k 0 = 0 := by
  have := turnsN_pow k 0
  rwa [Nat.mul_zero] at this
theorem xor_eq {x y : Nat} (h : x ^^^ y = 0) : x = y := by
  have e : x = (x ^^^ y) ^^^ y := by rw [Nat.xor_assoc, Nat.xor_self, Nat.xor_zero]
  rw [h, Nat.zero_xor] at e
  exact e
theorem turnN_inj {x : Nat} (h : x < 4294967296) (h0 : turnN x = 0) : x = 0 := by
  unfold turnN at h0
  split at h0
  · have := xor_eq h0; omega
  · omega
theorem turnsN_inj : ∀ (k : Nat) {x : Nat}, x < 4294967296 → turnsN k x = 0 → x = 0
  | 0, _, _, h => h
  | k + 1, _, hx, h => turnN_inj hx (turnsN_inj k (turnN_lt hx) h)
theorem split_low (k n : Nat) : n = n % 2 ^ k ^^^ 2 ^ k * (n / 2 ^ k) := by
  apply Nat.eq_of_testBit_eq
  intro i
  rw [Nat.testBit_xor, Nat.testBit_mod_two_pow, Nat.testBit_two_pow_mul, Nat.testBit_div_two_pow]
  by_cases h : i < k
  · simp [h, Nat.not_le.2 h]
  · simp [h, Nat.not_lt.1 h]
/-- A byte more, by the table. -/
theorem turns_byte (n b : Nat) (hb : b < 256) : turnsN 8 (n ^^^ b) = turnsN 8 (n % 256 ^^^ b) ^^^ n / 256 := by
  have e : n ^^^ b = (n % 256 ^^^ b) ^^^ 2 ^ 8 * (n / 256) := by
    have h := split_low 8 n
    rw [show (2 : Nat) ^ 8 = 256 by rfl] at h ⊢
    calc n ^^^ b = (n % 256 ^^^ 256 * (n / 256)) ^^^ b := by rw [← h]
      _ = _ := by ac_rfl
  rw [e, turnsN_xor, turnsN_pow]
theorem goN_lt (l : List UInt8) {n : Nat} (h : n < 4294967296) : goN n l < 4294967296 := by
  induction l generalizing n with
  | nil => exact h
  | cons b r ih =>
    have hb := b.toNat_lt
    rw [goN_cons]
    exact ih (turnsN_lt 8 (Nat.xor_lt_two_pow (n := 32) h (by omega)))
theorem goN_append (l m : List UInt8) (n : Nat) : goN n (l ++ m) = goN (goN n l) m := by simp [goN]
theorem goN_snoc (l : List UInt8) (b : UInt8) (n : Nat) : goN n (l ++ [b]) = turnsN 8 (goN n l ^^^ b.toNat) := by simp [goN]
/-- The sum is a division of the whole number. -/
theorem goN_turns (l : List UInt8) (n : Nat) : goN n l = turnsN (8 * l.length) (n ^^^ valB (bitsB l)) := by
  induction l generalizing n with
  | nil => simp [goN, bitsB, valB, turnsN]
  | cons b r ih =>
    have e : bitsB (b :: r) = bitsN 8 b.toNat ++ bitsB r := by simp [bitsB]
    have hb := b.toNat_lt
    rw [goN_cons, ih, e, valB_append, bitsN_length, valB_bitsN, Nat.mod_eq_of_lt (by omega), List.length_cons, show 8 * (r.length + 1) = 8 + 8 * r.length by omega, turnsN_add 8]
    congr 1
    have h2 : b.toNat + 2 ^ 8 * valB (bitsB r) = b.toNat ^^^ 2 ^ 8 * valB (bitsB r) := by
      have h := split_low 8 (b.toNat + 2 ^ 8 * valB (bitsB r))
      rw [Nat.add_mul_mod_self_left, Nat.mod_eq_of_lt (by omega), Nat.add_mul_div_left _ _ (by decide), Nat.div_eq_of_lt (by omega), Nat.zero_add] at h
      exact h
    rw [h2, ← Nat.xor_assoc, turnsN_xor 8 (n ^^^ b.toNat), turnsN_pow]
/-- The table. -/
def crcT : List Nat := (List.range 256).map (turnsN 8)
theorem crcT_get (i : Nat) (h : i < 256) : crcT[i]? = some (turnsN 8 i) := by simp [crcT, h]
theorem crcT_length : crcT.length = 256 := by simp [crcT]
end Go.Bn
