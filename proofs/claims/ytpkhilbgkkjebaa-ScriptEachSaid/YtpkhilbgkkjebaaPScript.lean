/- Plain: the steps that bytes tell. -/
import Derived.Test.YtpkhilbgkkjebaaScript2
set_option linter.unusedVariables false
set_option linter.unusedSimpArgs false
namespace Go.Bn
/-- The number of w bytes at a place. -/
def lv (l : List UInt8) (a w : Nat) : Nat := leV ((l.drop a).take w)
theorem lv_lt (l : List UInt8) (a w : Nat) : lv l a w < 256 ^ w := by
  unfold lv
  have h1 := leV_lt ((l.drop a).take w)
  exact Nat.lt_of_lt_of_le h1 (Nat.pow_le_pow_right (by omega) (by rw [List.length_take]; omega))
theorem lv1 (l : List UInt8) (a : Nat) : lv l a 1 < 256 := lv_lt l a 1
theorem lv2 (l : List UInt8) (a : Nat) : lv l a 2 < 65536 := lv_lt l a 2
theorem lv4 (l : List UInt8) (a : Nat) : lv l a 4 < 4294967296 := lv_lt l a 4
theorem lv_byte {l : List UInt8} {a : Nat} (h : a < l.length) : lv l a 1 = l[a].toNat := by
  unfold lv
  rw [List.drop_eq_getElem_cons h, List.take_succ_cons, List.take_zero]
  show l[a].toNat + 256 * 0 = _
  omega
def nmS (l : List UInt8) (a : Nat) : Nat := lv l (a + 1) 1
def kS (l : List UInt8) (a : Nat) : Nat := a + 2 + nmS l a
def szS (l : List UInt8) (a : Nat) : Nat := lv l (kS l a + 2) 4
def dS (l : List UInt8) (a : Nat) : Nat := kS l a + 6 + szS l a
def cnS (l : List UInt8) (a : Nat) : Nat := lv l (dS l a) 1
def eS (l : List UInt8) (a : Nat) : Nat := dS l a + 1 + (cnS l a + 7) / 8 + 2
theorem kS_eq (l : List UInt8) (a : Nat) : kS l a = a + 2 + nmS l a := rfl
theorem dS_eq (l : List UInt8) (a : Nat) : dS l a = kS l a + 6 + szS l a := rfl
theorem eS_eq (l : List UInt8) (a : Nat) : eS l a = dS l a + 1 + (cnS l a + 7) / 8 + 2 := rfl
theorem nmS_lt (l : List UInt8) (a : Nat) : nmS l a < 256 := lv1 _ _
theorem szS_lt (l : List UInt8) (a : Nat) : szS l a < 4294967296 := lv4 _ _
theorem cnS_lt (l : List UInt8) (a : Nat) : cnS l a < 256 := lv1 _ _
/-- The entries' bytes. -/
def kbS (l : List UInt8) (a : Nat) : List UInt8 := (l.drop (dS l a + 1)).take ((cnS l a + 7) / 8)
/-- The step at a place. -/
def stepAt (l : List UInt8) (a : Nat) : Stp :=
  ⟨(lv l a 1 : Nat), (l.drop (a + 2)).take (nmS l a), (l.drop (kS l a + 6)).take (szS l a), (lv l (kS l a) 2 : Int) - 1, (bitsB (kbS l a)).take (cnS l a), (lv l (eS l a - 2) 1 : Nat), UInt8.ofNat (lv l (eS l a - 1) 1)⟩
def okT31 (l : List UInt8) (a : Nat) : Prop := (stepAt l a).right ∧ numB (bitsB (kbS l a)) (cnS l a) 8 = 0
instance (l : List UInt8) (a : Nat) : Decidable (okT31 l a) := by unfold okT31; infer_instance
/-- Why there is no step at a place; 0: there is one. -/
def oneE (l : List UInt8) (a : Nat) : Nat := if l.length < eS l a then 2 else if okT31 l a then 0 else 3
theorem oneE_short {l : List UInt8} {a : Nat} (h : l.length < eS l a) : oneE l a = 2 := by unfold oneE; rw [if_pos h]
/-- The steps of bytes, so many from a place on, or why there are none. -/
def goS (l : List UInt8) : Nat → Nat → List Stp → List Stp × Nat
  | 0, a, acc => if a < l.length then ([], 3) else (acc, 0)
  | r + 1, a, acc => if oneE l a ≠ 0 then ([], oneE l a) else goS l r (eS l a) (acc ++ [stepAt l a])
def takeS31 (l : List UInt8) : List Stp × Nat := if l.length < 2 then ([], 2) else if 200 < lv l 0 2 then ([], 14) else goS l (lv l 0 2) 2 []
end Go.Bn
