/- Plain lemmas on changed bits, and what they do to the sum. -/
import Derived.Test.YtigbhndidohgbaaPCrc
set_option linter.unusedVariables false
set_option linter.unusedSimpArgs false
namespace Go.Bn
theorem sub_xor32 {x : Nat} (h : x < 4294967296) : 4294967295 - x = x ^^^ 4294967295 := by
  apply Nat.eq_of_testBit_eq
  intro i
  have h1 := Nat.testBit_two_pow_sub_succ (n := 32) (x := x) (by omega) i
  have h2 := Nat.testBit_two_pow_sub_one 32 i
  rw [show (2 : Nat) ^ 32 - (x + 1) = 4294967295 - x by omega] at h1
  rw [show (2 : Nat) ^ 32 - 1 = 4294967295 by decide] at h2
  rw [h1, Nat.testBit_xor, h2]
  by_cases hi : i < 32
  · simp [hi]
  · have : x.testBit i = false := Nat.testBit_lt_two_pow (Nat.lt_of_lt_of_le (show x < 2 ^ 32 by omega) (Nat.pow_le_pow_right (by omega) (by omega)))
    simp [hi, this]
/-- The sum of bytes. -/
def sumN (l : List UInt8) : Nat := goN 4294967295 l ^^^ 4294967295
theorem sumN_lt (l : List UInt8) : sumN l < 4294967296 := Nat.xor_lt_two_pow (n := 32) (goN_lt l (by omega)) (by decide)
theorem xor_all (x : Nat) : x ^^^ 4294967295 ^^^ 4294967295 = x := by rw [Nat.xor_assoc, Nat.xor_self, Nat.xor_zero]

/-- What k bits' change does to the byte i. -/
def fmask (at_ bits : Nat) : Nat → Nat → UInt8
  | 0, _ => 0
  | k + 1, i => if bits / 2 ^ k % 2 = 1 ∧ (at_ + k) / 8 = i then fmask at_ bits k i ^^^ UInt8.ofNat (2 ^ ((at_ + k) % 8)) else fmask at_ bits k i
def flipK (l : List UInt8) (at_ bits k : Nat) : List UInt8 := l.mapIdx fun i b => b ^^^ fmask at_ bits k i
theorem flipK_length (l : List UInt8) (at_ bits k : Nat) : (flipK l at_ bits k).length = l.length := by simp [flipK]
theorem flipK_zero (l : List UInt8) (at_ bits : Nat) : flipK l at_ bits 0 = l := by
  apply List.ext_getElem
  · simp [flipK]
  · intro i h1 h2; simp [flipK, fmask]
theorem flipK_yes (l : List UInt8) (at_ bits k : Nat) (hb : bits / 2 ^ k % 2 = 1) (h : (at_ + k) / 8 < (flipK l at_ bits k).length) :
    flipK l at_ bits (k + 1) = (flipK l at_ bits k).set ((at_ + k) / 8) ((flipK l at_ bits k)[(at_ + k) / 8] ^^^ UInt8.ofNat (2 ^ ((at_ + k) % 8))) := by
  apply List.ext_getElem
  · simp [flipK]
  · intro i h1 h2
    simp only [flipK, List.getElem_mapIdx, List.getElem_set, fmask]
    by_cases e : (at_ + k) / 8 = i
    · subst e
      rw [if_pos ⟨hb, rfl⟩, if_pos rfl, UInt8.xor_assoc]
    · rw [if_neg (fun hh => e hh.2), if_neg e]
theorem flipK_no (l : List UInt8) (at_ bits k : Nat) (h : ¬ (bits / 2 ^ k % 2 = 1 ∧ (at_ + k) / 8 < l.length)) : flipK l at_ bits (k + 1) = flipK l at_ bits k := by
  apply List.ext_getElem
  · simp [flipK]
  · intro i h1 h2
    simp only [flipK, List.getElem_mapIdx, fmask]
    rw [if_neg]
    rintro ⟨hb, rfl⟩
    exact h ⟨hb, by simpa [flipK] using h1⟩
theorem flipK_twice (l : List UInt8) (at_ bits k : Nat) : flipK (flipK l at_ bits k) at_ bits k = l := by
  apply List.ext_getElem
  · simp [flipK]
  · intro i h1 h2
    simp only [flipK, List.getElem_mapIdx]
    rw [UInt8.xor_assoc, UInt8.xor_self, UInt8.xor_zero]

theorem valB_cons (b : UInt8) (r : List UInt8) : valB (bitsB (b :: r)) = b.toNat ^^^ 2 ^ 8 * valB (bitsB r) := by
  have e : bitsB (b :: r) = bitsN 8 b.toNat ++ bitsB r := by simp [bitsB]
  have hb := b.toNat_lt
  rw [e, valB_append, bitsN_length, valB_bitsN, Nat.mod_eq_of_lt (by omega)]
  have h := split_low 8 (b.toNat + 2 ^ 8 * valB (bitsB r))
  rw [Nat.add_mul_mod_self_left, Nat.mod_eq_of_lt (by omega), Nat.add_mul_div_left _ _ (by decide), Nat.div_eq_of_lt (by omega), Nat.zero_add] at h
  exact h
theorem mul_xor (k x y : Nat) : 2 ^ k * (x ^^^ y) = 2 ^ k * x ^^^ 2 ^ k * y := by
  apply Nat.eq_of_testBit_eq
  intro i
  simp only [Nat.testBit_xor, Nat.testBit_two_pow_mul]
  by_cases h : k ≤ i <;> simp [h]
theorem byte_pow (j : Nat) (hj : j < 8) : (UInt8.ofNat (2 ^ j)).toNat = 2 ^ j := by
  have : 2 ^ j ≤ 128 := Nat.le_trans (Nat.pow_le_pow_right (by omega) (show j ≤ 7 by omega)) (by decide)
  simp; omega
theorem valB_set (l : List UInt8) (i j : Nat) (hj : j < 8) (h : i < l.length) : valB (bitsB (l.set i (l[i] ^^^ UInt8.ofNat (2 ^ j)))) = valB (bitsB l) ^^^ 2 ^ (8 * i + j) := by
  induction l generalizing i with
  | nil => simp at h
  | cons b r ih =>
    cases i with
    | zero =>
      simp only [List.set_cons_zero, List.getElem_cons_zero, valB_cons, UInt8.toNat_xor, byte_pow j hj, Nat.mul_zero, Nat.zero_add]
      ac_rfl
    | succ i =>
      simp only [List.set_cons_succ, List.getElem_cons_succ, valB_cons]
      rw [ih i (by simpa using h), mul_xor, ← Nat.pow_add, show 8 + (8 * i + j) = 8 * (i + 1) + j by omega, Nat.xor_assoc]
theorem valB_flip (l : List UInt8) (at_ bits k : Nat) : valB (bitsB (flipK l at_ bits k)) = valB (bitsB l) ^^^ (2 ^ at_ * (bits % 2 ^ k)) % 2 ^ (8 * l.length) := by
  induction k with
  | zero => rw [flipK_zero, Nat.pow_zero, Nat.mod_one, Nat.mul_zero, Nat.zero_mod, Nat.xor_zero]
  | succ k ih =>
    have hs : bits % 2 ^ (k + 1) = bits % 2 ^ k ^^^ 2 ^ k * (bits / 2 ^ k % 2) := by
      apply Nat.eq_of_testBit_eq
      intro i
      rw [Nat.testBit_xor, Nat.testBit_mod_two_pow, Nat.testBit_mod_two_pow, Nat.testBit_two_pow_mul]
      have e2 : (bits / 2 ^ k % 2) = (bits / 2 ^ k) % 2 ^ 1 := by rw [Nat.pow_one]
      rw [e2, Nat.testBit_mod_two_pow, Nat.testBit_div_two_pow]
      by_cases h1 : i < k
      · simp [h1, show i < k + 1 by omega, Nat.not_le.2 h1]
      · by_cases h2 : i = k
        · subst h2; simp
        · simp [h1, show ¬ i < k + 1 by omega, show k ≤ i by omega, show ¬ i - k < 1 by omega]
    by_cases hb : bits / 2 ^ k % 2 = 1
    · by_cases hl : (at_ + k) / 8 < l.length
      · rw [flipK_yes l at_ bits k hb (by rw [flipK_length]; exact hl), valB_set _ _ _ (by omega) (by rw [flipK_length]; exact hl), ih, hs, hb, Nat.mul_one, mul_xor, Nat.xor_mod_two_pow, ← Nat.pow_add, Nat.xor_assoc]
        congr 2
        rw [show 8 * ((at_ + k) / 8) + (at_ + k) % 8 = at_ + k by omega]
        exact (Nat.mod_eq_of_lt (Nat.pow_lt_pow_right (by omega) (by omega))).symm
      · rw [flipK_no l at_ bits k (fun h => hl h.2), ih, hs, hb, Nat.mul_one, mul_xor, Nat.xor_mod_two_pow, ← Nat.pow_add]
        rw [show 2 ^ (at_ + k) = 2 ^ (8 * l.length) * 2 ^ (at_ + k - 8 * l.length) by rw [← Nat.pow_add]; congr 1; omega, Nat.mul_mod_right, Nat.xor_zero]
    · rw [flipK_no l at_ bits k (fun h => hb h.1), ih, hs, show bits / 2 ^ k % 2 = 0 by omega, Nat.mul_zero, Nat.xor_zero]
theorem bitsB_inj {a b : List UInt8} (h : bitsB a = bitsB b) : a = b := by
  have h1 := pack_bits a []
  have h2 := pack_bits b []
  rw [h, h2] at h1
  simpa [pack] using h1.symm
/-- A burst is seen by the sum. -/
theorem burst (l : List UInt8) (at_ bits : Nat) (hat : at_ < 8 * l.length) (hb : bits < 4294967296) : sumN (flipK l at_ bits 32) = sumN l ↔ flipK l at_ bits 32 = l := by
  constructor
  · intro h
    have hg : goN 4294967295 (flipK l at_ bits 32) = goN 4294967295 l := by
      have := congrArg (· ^^^ 4294967295) h
      simp only [sumN, xor_all] at this
      exact this
    rw [goN_turns, goN_turns, flipK_length, valB_flip, ← Nat.xor_assoc, turnsN_xor _ (4294967295 ^^^ _)] at hg
    have h0 : turnsN (8 * l.length) (2 ^ at_ * (bits % 2 ^ 32) % 2 ^ (8 * l.length)) = 0 := by
      have := congrArg (turnsN (8 * l.length) (4294967295 ^^^ valB (bitsB l)) ^^^ ·) hg
      simp only [← Nat.xor_assoc, Nat.xor_self, Nat.zero_xor] at this
      exact this
    rw [show 8 * l.length = at_ + (8 * l.length - at_) by omega, Nat.pow_add, Nat.mul_mod_mul_left, turnsN_add, turnsN_pow] at h0
    have hz := turnsN_inj _ (Nat.lt_of_le_of_lt (Nat.mod_le _ _) (Nat.lt_of_le_of_lt (Nat.mod_le _ _) hb)) h0
    have hv := valB_flip l at_ bits 32
    have hd : 2 ^ at_ * (bits % 2 ^ 32) % 2 ^ (8 * l.length) = 0 := by
      rw [show 8 * l.length = at_ + (8 * l.length - at_) by omega, Nat.pow_add, Nat.mul_mod_mul_left, hz, Nat.mul_zero]
    rw [hd, Nat.xor_zero] at hv
    apply bitsB_inj
    have e1 := bitsN_valB (bitsB (flipK l at_ bits 32))
    have e2 := bitsN_valB (bitsB l)
    rw [bitsB_length, flipK_length, hv] at e1
    rw [bitsB_length] at e2
    exact e1.symm.trans e2
  · intro h; rw [h]
/-- A byte's bit, changed by adding or taking away. -/
theorem byte_sub : ∀ j, j < 8 → ∀ b, b < 256 → b / 2 ^ j % 2 = 1 → 2 ^ j ≤ b ∧ b - 2 ^ j = b ^^^ 2 ^ j := by decide +kernel
theorem byte_add : ∀ j, j < 8 → ∀ b, b < 256 → ¬ b / 2 ^ j % 2 = 1 → b + 2 ^ j = b ^^^ 2 ^ j := by decide +kernel
def flipR (l : List UInt8) (at_ : Int) (bits : Nat) : List UInt8 := if 0 ≤ at_ ∧ at_ ≤ 1099511627776 then flipK l at_.toNat bits 32 else l
theorem flipR_length (l : List UInt8) (at_ : Int) (bits : Nat) : (flipR l at_ bits).length = l.length := by
  unfold flipR; split
  · exact flipK_length _ _ _ _
  · rfl
end Go.Bn
