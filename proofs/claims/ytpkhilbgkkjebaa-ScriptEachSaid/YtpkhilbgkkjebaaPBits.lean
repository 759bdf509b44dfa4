/- Plain lemmas on bits, the least first. -/
namespace Go.Bn

/-- The k lowest bits of x, the least first. -/
def bitsN : Nat → Nat → List Bool
  | 0, _ => []
  | k + 1, x => (x % 2 == 1) :: bitsN k (x / 2)
/-- The bits of bytes. -/
def bitsB (l : List UInt8) : List Bool := l.flatMap fun b => bitsN 8 b.toNat
/-- A width that may be, at most m. -/
def wd (m : Nat) (k : Int) : Nat := (max 0 (min (m : Int) k)).toNat
theorem wd_le (m : Nat) (k : Int) : wd m k ≤ m := by unfold wd; omega
theorem wd_int (m : Nat) (k : Int) : ((wd m k : Nat) : Int) = max 0 (min (m : Int) k) := by unfold wd; omega

theorem bitsN_length : ∀ (k x : Nat), (bitsN k x).length = k
  | 0, _ => rfl
  | k + 1, x => by simp [bitsN, bitsN_length k]
theorem bitsB_length (l : List UInt8) : (bitsB l).length = 8 * l.length := by
  induction l with
  | nil => rfl
  | cons b l ih =>
    simp only [bitsB, List.flatMap_cons, List.length_append, bitsN_length, List.length_cons] at ih ⊢
    omega
theorem bitsB_append (l m : List UInt8) : bitsB (l ++ m) = bitsB l ++ bitsB m := by simp [bitsB]
theorem bitsN_add : ∀ (a b x : Nat), bitsN (a + b) x = bitsN a x ++ bitsN b (x / 2 ^ a)
  | 0, b, x => by simp [bitsN]
  | a + 1, b, x => by
    rw [show a + 1 + b = (a + b) + 1 by omega]
    simp only [bitsN, List.cons_append]
    rw [bitsN_add a b (x / 2), Nat.div_div_eq_div_mul, show 2 * 2 ^ a = 2 ^ (a + 1) by rw [Nat.pow_succ]; omega]
theorem bitsN_congr : ∀ (k x y : Nat), x % 2 ^ k = y % 2 ^ k → bitsN k x = bitsN k y
  | 0, _, _, _ => rfl
  | k + 1, x, y, h => by
    have h1 : x % 2 = y % 2 := by
      have := congrArg (· % 2) h
      simpa [Nat.pow_succ, Nat.mod_mul_left_mod] using this
    have h2 : x / 2 % 2 ^ k = y / 2 % 2 ^ k := by
      have e : ∀ z, z / 2 % 2 ^ k = z % 2 ^ (k + 1) / 2 := by
        intro z
        rw [Nat.pow_succ, Nat.mul_comm, Nat.mod_mul_right_div_self]
      rw [e, e, h]
    simp only [bitsN, h1, bitsN_congr k _ _ h2]
theorem bitsN_mod (k x : Nat) : bitsN k (x % 2 ^ k) = bitsN k x := bitsN_congr k _ _ (Nat.mod_mod _ _)
/-- Bits put behind others. -/
theorem bitsN_put {m k x n : Nat} (hx : x < 2 ^ m) : bitsN (m + k) (x + n % 2 ^ k * 2 ^ m) = bitsN m x ++ bitsN k n := by
  rw [bitsN_add]
  congr 1
  · exact bitsN_congr m _ _ (by rw [Nat.add_mul_mod_self_right])
  · rw [Nat.add_mul_div_right _ _ (Nat.two_pow_pos m), Nat.div_eq_of_lt hx, Nat.zero_add, bitsN_mod]
theorem or_put {m x y : Nat} (hx : x < 2 ^ m) : x ||| (y * 2 ^ m) = x + y * 2 ^ m := by
  rw [Nat.mul_comm y, Nat.or_comm, ← Nat.two_pow_add_eq_or_of_lt hx, Nat.add_comm]
theorem put_lt {m k x n : Nat} (hx : x < 2 ^ m) : x + n % 2 ^ k * 2 ^ m < 2 ^ (m + k) := by
  have h1 : n % 2 ^ k < 2 ^ k := Nat.mod_lt _ (Nat.two_pow_pos k)
  have h2 : (n % 2 ^ k + 1) * 2 ^ m ≤ 2 ^ k * 2 ^ m := Nat.mul_le_mul_right _ h1
  rw [Nat.add_mul, Nat.one_mul] at h2
  rw [Nat.pow_add, Nat.mul_comm (2 ^ m)]
  omega
/-- One byte more. -/
theorem bitsB_snoc (l : List UInt8) (x m : Nat) : bitsB (l ++ [UInt8.ofNat x]) ++ bitsN m (x / 256) = bitsB l ++ bitsN (8 + m) x := by
  rw [bitsB_append, bitsN_add 8 m x, List.append_assoc]
  congr 1
  simp only [bitsB, List.flatMap_cons, List.flatMap_nil, List.append_nil]
  congr 1
  exact bitsN_congr 8 _ _ (by simp)
/-- Bits as a number. -/
def valB : List Bool → Nat
  | [] => 0
  | b :: r => b.toNat + 2 * valB r
theorem valB_lt : ∀ l : List Bool, valB l < 2 ^ l.length
  | [] => by simp [valB]
  | b :: r => by
    have := valB_lt r
    have hb := Bool.toNat_le b
    simp only [valB, List.length_cons, Nat.pow_succ]
    omega
theorem mod2_toNat (x : Nat) : (x % 2 == 1).toNat = x % 2 := by
  rcases Nat.mod_two_eq_zero_or_one x with h | h <;> rw [h] <;> rfl
theorem valB_bitsN : ∀ (k x : Nat), valB (bitsN k x) = x % 2 ^ k
  | 0, x => by simp [bitsN, valB, Nat.mod_one]
  | k + 1, x => by
    rw [bitsN, valB, valB_bitsN k, mod2_toNat, Nat.pow_succ, Nat.mul_comm (2 ^ k), Nat.mod_mul]
theorem bitsN_valB : ∀ (l : List Bool), bitsN l.length (valB l) = l
  | [] => rfl
  | b :: r => by
    have h1 : ((b.toNat + 2 * valB r) % 2 == 1) = b := by cases b <;> simp [Bool.toNat]
    have h2 : (b.toNat + 2 * valB r) / 2 = valB r := by have := Bool.toNat_le b; omega
    rw [List.length_cons, bitsN, valB, h1, h2, bitsN_valB r]
theorem valB_append : ∀ (l m : List Bool), valB (l ++ m) = valB l + 2 ^ l.length * valB m
  | [], m => by simp [valB]
  | b :: r, m => by
    simp only [List.cons_append, valB, valB_append r m, List.length_cons, Nat.pow_succ]
    rw [Nat.mul_add, ← Nat.mul_assoc, Nat.mul_comm 2 (2 ^ r.length)]; omega
theorem valB_drop (l : List Bool) (j : Nat) : valB (l.drop j) = valB l / 2 ^ j := by
  induction j generalizing l with
  | zero => simp
  | succ j ih =>
    cases l with
    | nil => simp [valB]
    | cons b r =>
      rw [List.drop_succ_cons, ih, valB, Nat.pow_succ, Nat.mul_comm (2 ^ j) 2, ← Nat.div_div_eq_div_mul]
      congr 1
      have := Bool.toNat_le b
      omega
theorem valB_take (l : List Bool) (k : Nat) : valB (l.take k) = valB l % 2 ^ k := by
  induction k generalizing l with
  | zero => simp [valB, Nat.mod_one]
  | succ k ih =>
    cases l with
    | nil => simp [valB]
    | cons b r =>
      rw [List.take_succ_cons, valB, ih, valB, Nat.pow_succ, Nat.mul_comm (2 ^ k), Nat.mod_mul]
      have := Bool.toNat_le b
      rw [show (b.toNat + 2 * valB r) % 2 = b.toNat by omega, show (b.toNat + 2 * valB r) / 2 = valB r by omega]
theorem valB_zeros (l : List Bool) (k : Nat) : valB (l ++ List.replicate k false) = valB l := by
  rw [valB_append]
  have : valB (List.replicate k false) = 0 := by
    induction k with
    | zero => rfl
    | succ k ih => rw [List.replicate_succ, valB, ih]; rfl
  rw [this]; simp
theorem bitsN_zero (k : Nat) : bitsN k 0 = List.replicate k false := by
  induction k with
  | zero => rfl
  | succ k ih => rw [bitsN, List.replicate_succ, Nat.zero_div, ih]; rfl

/-- Bits as bytes, the last one filled by 0. -/
def pack (bs : List Bool) : List UInt8 := (List.range ((bs.length + 7) / 8)).map fun i => UInt8.ofNat (valB ((bs.drop (8 * i)).take 8))
theorem pack_length (bs : List Bool) : (pack bs).length = (bs.length + 7) / 8 := by simp [pack]
theorem pack_step (b : UInt8) (r : List Bool) : pack (bitsN 8 b.toNat ++ r) = b :: pack r := by
  unfold pack
  rw [List.length_append, bitsN_length, show (8 + r.length + 7) / 8 = (r.length + 7) / 8 + 1 by omega, List.range_succ_eq_map, List.map_cons, List.map_map]
  refine List.cons_eq_cons.2 ⟨?_, ?_⟩
  · rw [Nat.mul_zero, List.drop_zero, List.take_append_of_le_length (by rw [bitsN_length]; omega), List.take_of_length_le (by rw [bitsN_length]; omega), valB_bitsN]
    simp
  · apply List.map_congr_left
    intro i _
    simp only [Function.comp]
    rw [show 8 * (i + 1) = 8 + 8 * i by omega, ← List.drop_drop, List.drop_append_of_le_length (by rw [bitsN_length]; omega), show List.drop 8 (bitsN 8 b.toNat) = [] from List.drop_of_length_le (by rw [bitsN_length]; omega), List.nil_append]
theorem pack_bits (l : List UInt8) (r : List Bool) : pack (bitsB l ++ r) = l ++ pack r := by
  induction l with
  | nil => rfl
  | cons b l ih =>
    have : bitsB (b :: l) = bitsN 8 b.toNat ++ bitsB l := by simp [bitsB]
    rw [this, List.append_assoc, pack_step, ih]; rfl
theorem pack_rest (m x : Nat) (hm : m < 8) (hx : x < 2 ^ m) : pack (bitsN m x) = if m = 0 then [] else [UInt8.ofNat x] := by
  unfold pack
  rw [bitsN_length]
  by_cases h : m = 0
  · subst h; simp
  · rw [if_neg h, show (m + 7) / 8 = 1 by omega]
    have e : List.range 1 = [0] := rfl
    rw [e, List.map_singleton, Nat.mul_zero, List.drop_zero, List.take_of_length_le (by rw [bitsN_length]; omega), valB_bitsN, Nat.mod_eq_of_lt hx]
/-- Bits as bytes of 0 and 1. -/
def b01 (bs : List Bool) : List UInt8 := bs.map fun b => if b then 1 else 0
theorem b01_append (a b : List Bool) : b01 (a ++ b) = b01 a ++ b01 b := by simp [b01]
theorem b01_length (a : List Bool) : (b01 a).length = a.length := by simp [b01]
theorem b01_get (a : List Bool) (i : Nat) (h : i < a.length) : (b01 a)[i]? = some (UInt8.ofNat (a[i]).toNat) := by
  simp only [b01, List.getElem?_map, List.getElem?_eq_getElem h, Option.map_some]
  cases a[i] <;> rfl
theorem b01_mod (x : Nat) : UInt8.ofNat (x % 2) = if (x % 2 == 1) = true then 1 else 0 := by
  rcases Nat.mod_two_eq_zero_or_one x with h | h <;> rw [h] <;> rfl
theorem bitsN_snoc (k x : Nat) : bitsN (k + 1) x = bitsN k x ++ [x / 2 ^ k % 2 == 1] := by
  rw [bitsN_add]; rfl
theorem fill_mod (bs : List Bool) : (bs ++ List.replicate ((8 - bs.length % 8) % 8) false).length % 8 = 0 := by
  rw [List.length_append, List.length_replicate]; omega
end Go.Bn
