/- Plain lemmas on numbers as bytes, the least first. -/
namespace Go.Bn
/-- The w lowest bytes of n, the least first. -/
def leB : Nat → Nat → List UInt8
  | 0, _ => []
  | w + 1, n => UInt8.ofNat n :: leB w (n / 256)
/-- The number of bytes. -/
def leV : List UInt8 → Nat
  | [] => 0
  | b :: r => b.toNat + 256 * leV r
/-- A number's width. -/
def wid (k : Int) : Nat := (max 1 (min 4 k)).toNat
theorem wid_int (k : Int) : ((wid k : Nat) : Int) = max 1 (min 4 k) := by unfold wid; omega
theorem wid_pos (k : Int) : 1 ≤ wid k := by unfold wid; omega
theorem wid_le (k : Int) : wid k ≤ 4 := by unfold wid; omega
theorem leB_length : ∀ (w n : Nat), (leB w n).length = w
  | 0, _ => rfl
  | w + 1, n => by simp [leB, leB_length w]
theorem leB_snoc : ∀ (w n : Nat), leB (w + 1) n = leB w n ++ [UInt8.ofNat (n / 256 ^ w)]
  | 0, n => by simp [leB]
  | w + 1, n => by
    rw [leB, leB_snoc w (n / 256), leB, List.cons_append, Nat.div_div_eq_div_mul, Nat.pow_succ, Nat.mul_comm 256]
theorem leV_lt : ∀ (l : List UInt8), leV l < 256 ^ l.length
  | [] => by simp [leV]
  | b :: r => by
    have := leV_lt r
    have hb := b.toNat_lt
    simp only [leV, List.length_cons, Nat.pow_succ]
    omega
theorem leV_snoc : ∀ (l : List UInt8) (b : UInt8), leV (l ++ [b]) = leV l + 256 ^ l.length * b.toNat
  | [], b => by simp [leV]
  | c :: r, b => by
    simp only [List.cons_append, leV, leV_snoc r b, List.length_cons, Nat.pow_succ]
    rw [Nat.mul_add, ← Nat.mul_assoc, Nat.mul_comm 256 (256 ^ r.length)]; omega
theorem leV_leB : ∀ (w n : Nat), leV (leB w n) = n % 256 ^ w
  | 0, n => by simp [leB, leV, Nat.mod_one]
  | w + 1, n => by
    rw [leB, leV, leV_leB w (n / 256), Nat.pow_succ, Nat.mul_comm (256 ^ w)]
    rw [Nat.mod_mul]
    simp
/-- The number at a place, if it stands there. -/
def getF (l : List UInt8) (at_ : Int) (k : Int) : Option Nat :=
  if 0 ≤ at_ ∧ at_ + (wid k : Int) ≤ (l.length : Int) then some (leV ((l.drop at_.toNat).take (wid k))) else none
theorem getF_lt {l : List UInt8} {at_ k : Int} {n : Nat} (h : getF l at_ k = some n) : n < 4294967296 := by
  unfold getF at h
  split at h
  · cases h
    refine Nat.lt_of_lt_of_le (leV_lt _) ?_
    refine Nat.le_trans (Nat.pow_le_pow_right (by omega) (?_ : _ ≤ 4)) (by decide)
    have := wid_le k
    rw [List.length_take]; omega
  · cases h
end Go.Bn
