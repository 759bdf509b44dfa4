/- Plain: the bits of bytes, one by one. -/
import Derived.Test.YtpkhilbgkkjebaaPScript2
set_option linter.unusedVariables false
set_option linter.unusedSimpArgs false
namespace Go.Bn
theorem valB_bit : ∀ (l : List Bool) (j : Nat) (h : j < l.length), valB l / 2 ^ j % 2 = (l[j]).toNat
  | [], j, h => by simp at h
  | b :: r, 0, h => by cases b <;> simp [valB] <;> omega
  | b :: r, j + 1, h => by
    have ih := valB_bit r j (by simpa using h)
    rw [List.getElem_cons_succ, ← ih, Nat.pow_succ, Nat.mul_comm, ← Nat.div_div_eq_div_mul]
    congr 2
    cases b <;> simp [valB] <;> omega
/-- A bit of bytes is one of its byte. -/
theorem bitsB_bit {kb : List UInt8} {i : Nat} (h : i < (bitsB kb).length) : (lv kb (i / 8) 1 / 2 ^ (i % 8)) % 2 = ((bitsB kb)[i]).toNat := by
  have hl := bitsB_length kb
  have hi8 : i / 8 < kb.length := by omega
  have h1 := pack_get (bitsB kb) (i / 8) (by rw [pack_bitsB]; exact hi8)
  have h2 : kb[i / 8] = UInt8.ofNat (numB (bitsB kb) (8 * (i / 8)) 8) := by
    rw [← h1]; congr 1; exact (pack_bitsB kb).symm
  have h3 := numB_lt (bitsB kb) (8 * (i / 8)) 8
  rw [lv_byte hi8, h2, UInt8.toNat_ofNat', Nat.mod_eq_of_lt h3]
  unfold numB
  have hlen : (((bitsB kb).drop (8 * (i / 8))).take 8).length = 8 := by rw [List.length_take, List.length_drop]; omega
  rw [valB_bit _ (i % 8) (by omega), List.getElem_take, List.getElem_drop]
  congr 2
  omega
end Go.Bn
