/- Plain lemmas on descriptors. -/
import Derived.Test.YtigbhndidohgbaaPCode
import Derived.Test.YtigbhndidohgbaaPPieces
set_option linter.unusedVariables false
set_option linter.unusedSimpArgs false
namespace Go.Bn
/-- A descriptor: the data's size, the payload's, and its sum. -/
structure Dsc where
  size : Int
  area : Int
  sum : Int
  deriving DecidableEq
def Dsc.nil : Dsc := ⟨0, 0, 0⟩
def Dsc.right (d : Dsc) : Prop := 0 ≤ d.size ∧ d.size ≤ 65536 ∧ 2 ≤ d.area ∧ d.area ≤ 262144
instance (d : Dsc) : Decidable d.right := by unfold Dsc.right; infer_instance
def Dsc.head (d : Dsc) : List UInt8 := [68, 69, 83, 67] ++ leB 4 d.size.toNat ++ leB 4 d.area.toNat ++ leB 4 d.sum.toNat
def Dsc.bytes (d : Dsc) : List UInt8 := d.head ++ leB 4 (sumN d.head)
theorem Dsc.head_length (d : Dsc) : d.head.length = 16 := by simp [Dsc.head, leB_length]
theorem Dsc.bytes_length (d : Dsc) : d.bytes.length = 20 := by simp [Dsc.bytes, Dsc.head_length, leB_length]
/-- The descriptor that stands in bytes' numbers. -/
def dscAt (l : List UInt8) : Dsc := ⟨leV ((l.drop 4).take 4), leV ((l.drop 8).take 4), leV ((l.drop 12).take 4)⟩
/-- The descriptor that bytes begin with, and the error's number. -/
def dscTake (l : List UInt8) : Dsc × Int :=
  if l.length < 20 then (Dsc.nil, 2)
  else if l.take 4 ≠ [68, 69, 83, 67] then (Dsc.nil, 3)
  else if leV ((l.drop 16).take 4) ≠ sumN (l.take 16) then (Dsc.nil, 4)
  else if ¬ (dscAt l).right then (Dsc.nil, 3)
  else (dscAt l, 0)
/-- The descriptor at a place of bytes. -/
def dscTakeAt (l : List UInt8) (a : Int) : Dsc × Int :=
  if a < 0 ∨ (l.length : Int) < a then (Dsc.nil, 1) else dscTake (l.drop a.toNat)
/-- The descriptor of a payload. -/
def dscOf (l : List UInt8) : Dsc × Int :=
  if (pieces l).2 ≠ 0 then (Dsc.nil, (pieces l).2)
  else if ¬ (Dsc.mk (pieces l).1.length l.length (sumN l)).right then (Dsc.nil, 5)
  else (Dsc.mk (pieces l).1.length l.length (sumN l), 0)
/-- Where pieces end. -/
def endF : Nat → List UInt8 → Nat → Option Nat
  | 0, _, _ => none
  | f + 1, l, a =>
    if l.length < 2 then none
    else if l.length < 2 + leV (l.take 2) then none
    else if leV (l.take 2) = 0 then some (a + 2)
    else endF f (l.drop (2 + leV (l.take 2))) (a + 2 + leV (l.take 2))
theorem endF_fuel : ∀ (f f' : Nat) (l : List UInt8) (a : Nat), l.length < f → l.length < f' → endF f l a = endF f' l a
  | 0, _, _, _, h, _ => by omega
  | _, 0, _, _, _, h => by omega
  | f + 1, f' + 1, l, a, h, h' => by
    simp only [endF]
    split
    · rfl
    · split
      · rfl
      · split
        · rfl
        · exact endF_fuel f f' _ _ (by rw [List.length_drop]; omega) (by rw [List.length_drop]; omega)
theorem endF_step {m : Nat} {l : List UInt8} {a n : Nat} (hl : l.length = m) (h2 : a + 2 ≤ m) (hn : leV ((l.drop a).take 2) = n) (hle : a + 2 + n ≤ m) (h0 : n ≠ 0) :
    endF (m - a + 1) (l.drop a) a = endF (m - (a + 2 + n) + 1) (l.drop (a + 2 + n)) (a + 2 + n) := by
  rw [endF, hn, if_neg (by rw [List.length_drop]; omega), if_neg (by rw [List.length_drop]; omega), if_neg h0, List.drop_drop, ← Nat.add_assoc]
  exact endF_fuel _ _ _ _ (by rw [List.length_drop]; omega) (by rw [List.length_drop]; omega)
theorem endF_short {m : Nat} {l : List UInt8} {a : Nat} (hl : l.length = m) (h2 : m < a + 2) : endF (m - a + 1) (l.drop a) a = none := by
  rw [endF, if_pos (by rw [List.length_drop]; omega)]
theorem endF_long {m : Nat} {l : List UInt8} {a n : Nat} (hl : l.length = m) (h2 : a + 2 ≤ m) (hn : leV ((l.drop a).take 2) = n) (hle : m < a + 2 + n) : endF (m - a + 1) (l.drop a) a = none := by
  rw [endF, hn, if_neg (by rw [List.length_drop]; omega), if_pos (by rw [List.length_drop]; omega)]
theorem endF_done {m : Nat} {l : List UInt8} {a : Nat} (hl : l.length = m) (h2 : a + 2 ≤ m) (hn : leV ((l.drop a).take 2) = 0) : endF (m - a + 1) (l.drop a) a = some (a + 2) := by
  rw [endF, hn, if_neg (by rw [List.length_drop]; omega), if_neg (by rw [List.length_drop]; omega), if_pos rfl]
def endV : Option Nat → Int × Int
  | some n => ((n : Int), 0)
  | none => (0, 2)
/-- Where pieces from a place on end, and the error's number. -/
def dscEnd (l : List UInt8) (a : Int) : Int × Int :=
  if a < 0 ∨ (l.length : Int) < a then (0, 1)
  else endV (endF (l.length - a.toNat + 1) (l.drop a.toNat) a.toNat)
theorem dscTake_bytes (d : Dsc) (h : d.right) (hs : 0 ≤ d.sum ∧ d.sum < 4294967296) (z : List UInt8) : dscTake (d.bytes ++ z) = (d, 0) := by
  have hl := d.bytes_length
  have hh := d.head_length
  obtain ⟨h1, h2, h3, h4⟩ := h
  have hsum : sumN d.head < 4294967296 := sumN_lt _
  have e16 : (d.bytes ++ z).take 16 = d.head := by rw [Dsc.bytes, List.append_assoc, List.take_left' hh]
  have e164 : ((d.bytes ++ z).drop 16).take 4 = leB 4 (sumN d.head) := by
    rw [Dsc.bytes, List.append_assoc, List.drop_left' hh, List.take_left' (leB_length 4 _)]
  have e4 : (d.bytes ++ z).take 4 = [68, 69, 83, 67] := by simp [Dsc.bytes, Dsc.head]
  have d4 : ((d.bytes ++ z).drop 4).take 4 = leB 4 d.size.toNat := by simp [Dsc.bytes, Dsc.head, leB]
  have d8 : ((d.bytes ++ z).drop 8).take 4 = leB 4 d.area.toNat := by simp [Dsc.bytes, Dsc.head, leB]
  have d12 : ((d.bytes ++ z).drop 12).take 4 = leB 4 d.sum.toNat := by simp [Dsc.bytes, Dsc.head, leB]
  have hat : dscAt (d.bytes ++ z) = d := by
    unfold dscAt
    rw [d4, d8, d12, leV_leB4 _ h1 (by omega), leV_leB4 _ (by omega) (by omega), leV_leB4 _ hs.1 hs.2]
  unfold dscTake
  rw [if_neg (by rw [List.length_append, hl]; omega), if_neg (by rw [e4]; simp), if_neg (by rw [e164, e16, leV_leB, Nat.mod_eq_of_lt (by omega)]; simp), hat, if_neg (fun hh => hh ⟨h1, h2, h3, h4⟩)]
theorem dscTake_nil (l : List UInt8) (h : (dscTake l).2 ≠ 0) : (dscTake l).1 = Dsc.nil := by
  unfold dscTake at *
  split
  · rfl
  · split
    · rfl
    · split
      · rfl
      · split
        · rfl
        · rename_i h1 h2 h3 h4
          exact absurd (by rw [if_neg h1, if_neg h2, if_neg h3, if_neg h4]) h
/-- A descriptor that is changed within 32 bits is refused. -/
theorem desc_spoilt (d : Dsc) (at_ bits : Nat) (hb : bits < 4294967296) (hne : flipK d.bytes at_ bits 32 ≠ d.bytes) : (dscTake (flipK d.bytes at_ bits 32)).2 ≠ 0 := by
  intro h0
  apply hne
  have hl := d.bytes_length
  have hh := d.head_length
  generalize hc : flipK d.bytes at_ bits 32 = c at h0
  have hcl : c.length = 20 := by rw [← hc, flipK_length, hl]
  unfold dscTake at h0
  split at h0
  · cases h0
  · split at h0
    · cases h0
    · split at h0
      · cases h0
      · rename_i k1 k2 k3
        have k3' : leV ((c.drop 16).take 4) = sumN (c.take 16) := Decidable.not_not.1 k3
        rw [List.take_of_length_le (by rw [List.length_drop]; omega)] at k3'
        have hw : leV (d.bytes.drop 16) = sumN (d.bytes.take 16) := by
          have hs := sumN_lt d.head
          rw [Dsc.bytes, List.drop_left' hh, List.take_left' hh, leV_leB, Nat.mod_eq_of_lt (by omega)]
        have key := burst_code d.bytes 16 at_ bits hl hb hw (by rw [hc]; exact k3')
        rw [← hc, key]
end Go.Bn
