/- Plain lemmas on bits that are read. -/
import Derived.Test.YtpkhilbgkkjebaaPBits
set_option linter.unusedVariables false
set_option linter.unusedSimpArgs false
namespace Go.Bn
/-- The bits at a place, as a number; those that aren't there are 0. -/
def numB (bs : List Bool) (at_ k : Nat) : Nat := valB ((bs.drop at_).take k)
theorem numB_lt (bs : List Bool) (at_ k : Nat) : numB bs at_ k < 2 ^ k :=
  Nat.lt_of_lt_of_le (valB_lt _) (Nat.pow_le_pow_right (by omega) (by rw [List.length_take]; omega))
theorem bitsB_take (l : List UInt8) (i : Nat) : bitsB (l.take i) = (bitsB l).take (8 * i) := by
  induction l generalizing i with
  | nil => simp [bitsB]
  | cons b r ih =>
    cases i with
    | zero => simp [bitsB]
    | succ i =>
      have e : ∀ r, bitsB (b :: r) = bitsN 8 b.toNat ++ bitsB r := by intro r; simp [bitsB]
      rw [List.take_succ_cons, e, e, ih, List.take_append, bitsN_length, List.take_of_length_le (l := bitsN 8 b.toNat) (by rw [bitsN_length]; omega), show 8 * (i + 1) - 8 = 8 * i by omega]
theorem bitsB_drop (l : List UInt8) (i : Nat) : bitsB (l.drop i) = (bitsB l).drop (8 * i) := by
  induction l generalizing i with
  | nil => simp [bitsB]
  | cons b r ih =>
    cases i with
    | zero => simp [bitsB]
    | succ i =>
      have e : ∀ r, bitsB (b :: r) = bitsN 8 b.toNat ++ bitsB r := by intro r; simp [bitsB]
      rw [List.drop_succ_cons, e, ih, List.drop_append, bitsN_length, List.drop_of_length_le (l := bitsN 8 b.toNat) (by rw [bitsN_length]; omega), show 8 * (i + 1) - 8 = 8 * i by omega, List.nil_append]
/-- The number that five bytes make, and the bits of it. -/
theorem peekV (l : List UInt8) (at_ k : Nat) (hk : k ≤ 32) : valB (bitsB ((l.drop (at_ / 8)).take 5)) / 2 ^ (at_ % 8) % 2 ^ k = numB (bitsB l) at_ k := by
  rw [← valB_drop, ← valB_take, bitsB_take, bitsB_drop, List.drop_take, List.take_take, List.drop_drop, numB]
  congr 2
  · omega
  · congr 1; omega
theorem valB_snoc8 (l : List UInt8) (b : UInt8) : valB (bitsB (l ++ [b])) = valB (bitsB l) + b.toNat * 2 ^ (8 * l.length) := by
  have hb := b.toNat_lt
  rw [bitsB_append, valB_append, bitsB_length, Nat.mul_comm]
  congr 1
  simp only [bitsB, List.flatMap_cons, List.flatMap_nil, List.append_nil, valB_bitsN]
  rw [Nat.mod_eq_of_lt (by omega)]
theorem valB_bytes_lt (l : List UInt8) : valB (bitsB l) < 2 ^ (8 * l.length) := by
  have := valB_lt (bitsB l)
  rwa [bitsB_length] at this
theorem numB_succ (bs : List Bool) (at_ i : Nat) (h : at_ + i < bs.length) : numB bs at_ (i + 1) = numB bs at_ i + 2 ^ i * (bs[at_ + i]).toNat := by
  unfold numB
  have hl : i < (bs.drop at_).length := by rw [List.length_drop]; omega
  rw [List.take_succ_eq_append_getElem hl, valB_append, List.length_take, Nat.min_eq_left (by omega)]
  simp [valB]
theorem numB_succ_out (bs : List Bool) (at_ i : Nat) (h : ¬ at_ + i < bs.length) : numB bs at_ (i + 1) = numB bs at_ i := by
  unfold numB
  rw [List.take_of_length_le (by rw [List.length_drop]; omega), List.take_of_length_le (by rw [List.length_drop]; omega)]
theorem wd_pos (m : Nat) (k : Int) : wd m k = 0 ∨ (wd m k : Int) = min (m : Int) k := by unfold wd; omega
theorem pack_short (bs : List Bool) (h : bs.length < 8) : bitsB (pack bs) = bs ++ List.replicate ((8 - bs.length % 8) % 8) false := by
  have h1 := pack_rest bs.length (valB bs) h (valB_lt bs)
  rw [bitsN_valB] at h1
  rw [h1]
  split
  · rename_i h0
    rw [List.length_eq_zero_iff.1 h0]; rfl
  · rename_i h0
    have hv := valB_lt bs
    have hp : 2 ^ bs.length ≤ 128 := Nat.le_trans (Nat.pow_le_pow_right (by omega) (show bs.length ≤ 7 by omega)) (by decide)
    have e : bitsB [UInt8.ofNat (valB bs)] = bitsN 8 (valB bs) := by
      simp only [bitsB, List.flatMap_cons, List.flatMap_nil, List.append_nil]
      exact bitsN_congr 8 _ _ (by simp)
    have e3 := bitsN_add bs.length (8 - bs.length) (valB bs)
    rw [show bs.length + (8 - bs.length) = 8 by omega, bitsN_valB, Nat.div_eq_of_lt hv, bitsN_zero] at e3
    rw [e, e3]
    congr 2; omega
theorem bitsB_pack (bs : List Bool) : bitsB (pack bs) = bs ++ List.replicate ((8 - bs.length % 8) % 8) false := by
  induction hn : bs.length using Nat.strongRecOn generalizing bs with
  | _ n ih =>
    subst hn
    by_cases h : bs.length < 8
    · exact pack_short bs h
    · have e : bs = bitsN 8 (UInt8.ofNat (valB (bs.take 8))).toNat ++ bs.drop 8 := by
        have h8 : (bs.take 8).length = 8 := by rw [List.length_take]; omega
        have hv := valB_lt (bs.take 8)
        have h1 := bitsN_valB (bs.take 8)
        rw [h8] at h1 hv
        rw [show (UInt8.ofNat (valB (bs.take 8))).toNat = valB (bs.take 8) by simp; omega, h1, List.take_append_drop]
      have hd : (bs.drop 8).length = bs.length - 8 := by rw [List.length_drop]
      have hih := ih (bs.drop 8).length (by omega) (bs.drop 8) rfl
      generalize UInt8.ofNat (valB (bs.take 8)) = b at e
      have hlen : bs.length = 8 + (bs.drop 8).length := by omega
      generalize bs.drop 8 = r at *
      subst e
      rw [pack_step]
      have e2 : bitsB (b :: pack r) = bitsN 8 b.toNat ++ bitsB (pack r) := by simp [bitsB]
      rw [e2, hih, List.append_assoc]
      congr 3
      rw [hlen]; omega
theorem pack_get (bs : List Bool) (i : Nat) (h : i < (pack bs).length) : (pack bs)[i] = UInt8.ofNat (numB bs (8 * i) 8) := by
  simp [pack, numB]
theorem numB_zero (bs : List Bool) (a : Nat) : numB bs a 0 = 0 := by simp [numB, valB]
theorem numB_cut (bs : List Bool) (a k j : Nat) (h : bs.length ≤ a + k) (hj : k ≤ j) : numB bs a j = numB bs a k := by
  unfold numB
  rw [List.take_of_length_le (by rw [List.length_drop]; omega), List.take_of_length_le (by rw [List.length_drop]; omega)]
/-- The bits of numbers, one behind the other. -/
def pbits (ps : List (Nat × Int)) : List Bool := ps.flatMap fun q => bitsN (wd 32 q.2) q.1
theorem pbits_snoc (ps : List (Nat × Int)) (i : Nat) (h : i < ps.length) : pbits (ps.take (i + 1)) = pbits (ps.take i) ++ bitsN (wd 32 ps[i].2) ps[i].1 := by
  rw [List.take_succ_eq_append_getElem h]; simp only [pbits, List.flatMap_append, List.flatMap_cons, List.flatMap_nil, List.append_nil]
theorem pbits_len (ps : List (Nat × Int)) : (pbits ps).length ≤ 32 * ps.length := by
  induction ps with
  | nil => simp [pbits]
  | cons q r ih =>
    have := wd_le 32 q.2
    simp only [pbits, List.flatMap_cons, List.length_append, bitsN_length, List.length_cons] at ih ⊢
    omega
/-- What stands at a number's place. -/
theorem pbits_at (ps : List (Nat × Int)) (z : List Bool) (i : Nat) (h : i < ps.length) : numB (pbits ps ++ z) (pbits (ps.take i)).length (wd 32 ps[i].2) = ps[i].1 % 2 ^ wd 32 ps[i].2 ∧ (pbits (ps.take i)).length + wd 32 ps[i].2 ≤ (pbits ps).length := by
  have e : pbits ps = pbits (ps.take i) ++ (bitsN (wd 32 ps[i].2) ps[i].1 ++ pbits (ps.drop (i + 1))) := by
    conv => lhs; rw [← List.take_append_drop i ps, List.drop_eq_getElem_cons h]
    simp only [pbits, List.flatMap_append, List.flatMap_cons]
  constructor
  · unfold numB
    rw [e, List.append_assoc, List.append_assoc, List.drop_left, List.take_append_of_le_length (by rw [bitsN_length]; omega), List.take_of_length_le (by rw [bitsN_length]; omega), valB_bitsN]
  · have := congrArg List.length e
    rw [List.length_append, List.length_append, bitsN_length] at this
    omega
theorem numB_tail (bs : List Bool) (j k : Nat) : numB (bs ++ List.replicate j false) bs.length k = 0 := by
  unfold numB
  rw [List.drop_left, List.take_replicate]
  have := valB_zeros [] (min k j)
  simpa [valB] using this
end Go.Bn
