/- Plain: entries' bytes are those of the entries, if nothing but 0 is behind them. -/
import Derived.Test.YtpkhilbgkkjebaaPScript
set_option linter.unusedVariables false
set_option linter.unusedSimpArgs false
namespace Go.Bn
theorem pack_bitsB (l : List UInt8) : pack (bitsB l) = l := by
  have := pack_bits l []
  simpa [pack] using this
theorem pack_take {kb : List UInt8} {cn : Nat} (h : kb.length = (cn + 7) / 8) : pack ((bitsB kb).take cn) = kb ↔ numB (bitsB kb) cn 8 = 0 := by
  have hbl := bitsB_length kb
  have hlen : ((bitsB kb).take cn).length = cn := by rw [List.length_take]; omega
  have hbp := bitsB_pack ((bitsB kb).take cn)
  rw [hlen] at hbp
  have hrl : ((bitsB kb).drop cn).length = (8 - cn % 8) % 8 := by rw [List.length_drop]; omega
  constructor
  · intro hp
    rw [hp] at hbp
    rw [hbp]
    have := numB_tail ((bitsB kb).take cn) ((8 - cn % 8) % 8) 8
    rwa [hlen] at this
  · intro hz
    have hz2 : valB ((bitsB kb).drop cn) = 0 := by
      unfold numB at hz
      rwa [List.take_of_length_le (by omega)] at hz
    have hr := bitsN_valB ((bitsB kb).drop cn)
    rw [hz2, hrl, bitsN_zero] at hr
    have he : bitsB (pack ((bitsB kb).take cn)) = bitsB kb := by
      rw [hbp, hr, List.take_append_drop]
    rw [← pack_bitsB kb, ← he, pack_bitsB, he]
end Go.Bn
