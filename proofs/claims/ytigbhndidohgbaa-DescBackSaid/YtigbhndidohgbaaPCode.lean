/- Plain lemmas: bytes with their sum behind them, and what a change within 32 bits does to them. -/
import Derived.Test.YtigbhndidohgbaaPFlip
import Derived.Test.YtigbhndidohgbaaPField
set_option linter.unusedVariables false
set_option linter.unusedSimpArgs false
namespace Go.Bn
theorem valB_leV (l : List UInt8) : valB (bitsB l) = leV l := by
  induction l with
  | nil => rfl
  | cons b r ih =>
    have e : bitsB (b :: r) = bitsN 8 b.toNat ++ bitsB r := by simp [bitsB]
    have hb := b.toNat_lt
    rw [e, valB_append, bitsN_length, valB_bitsN, Nat.mod_eq_of_lt (by omega), ih, leV]
theorem goN_code (n : Nat) (p q : List UInt8) (hq : q.length = 4) : goN n (p ++ q) = turnsN 32 (goN n p ^^^ leV q) := by
  rw [goN_append, goN_turns q, hq, valB_leV]
theorem flipK_take (l : List UInt8) (at_ bits k n : Nat) : (flipK l at_ bits k).take n = flipK (l.take n) at_ bits k := by
  apply List.ext_getElem
  · simp [flipK]
  · intro i h1 h2; simp [flipK]
theorem flipK_out (l : List UInt8) (at_ bits k : Nat) (h : 8 * l.length ≤ at_) : flipK l at_ bits k = l := by
  induction k with
  | zero => exact flipK_zero _ _ _
  | succ k ih => rw [flipK_no _ _ _ _ (by rintro ⟨_, h2⟩; omega), ih]
/-- Bytes whose last four are the sum of the ones ahead: changed within 32 bits they aren't such ones. -/
theorem burst_code (w : List UInt8) (k at_ bits : Nat) (hk : w.length = k + 4) (hb : bits < 4294967296) (hw : leV (w.drop k) = sumN (w.take k)) (hc : leV ((flipK w at_ bits 32).drop k) = sumN ((flipK w at_ bits 32).take k)) : flipK w at_ bits 32 = w := by
  by_cases hat : 8 * w.length ≤ at_
  · exact flipK_out _ _ _ _ hat
  · refine (burst w at_ bits (by omega) hb).1 ?_
    have key : ∀ v : List UInt8, v.length = k + 4 → leV (v.drop k) = sumN (v.take k) → goN 4294967295 v = turnsN 32 4294967295 := by
      intro v hv he
      rw [← List.take_append_drop k v, goN_code _ _ _ (by rw [List.length_drop]; omega), he, sumN, ← Nat.xor_assoc, Nat.xor_self, Nat.zero_xor]
    unfold sumN
    rw [key w hk hw, key _ (by rw [flipK_length]; exact hk) hc]

/-- A slot: its number, the end, the directory's length, and whether it is clean. -/
structure Slt where
  seq : Int
  en : Int
  dir : Int
  cl : Bool
  deriving DecidableEq
def Slt.nil : Slt := ⟨0, 0, 0, false⟩
def Slt.right (s : Slt) : Prop := 0 ≤ s.seq ∧ s.seq ≤ 2147483647 ∧ 1024 ≤ s.en ∧ s.en ≤ 2097152 ∧ (if s.cl = true then 20 ≤ s.dir ∧ s.dir ≤ 16420 ∧ s.en + s.dir ≤ 2097152 else s.dir = 0)
instance (s : Slt) : Decidable s.right := by unfold Slt.right; infer_instance
def Slt.head (s : Slt) : List UInt8 := [83, 76, 79, 84] ++ leB 4 s.seq.toNat ++ leB 4 s.en.toNat ++ leB 4 s.dir.toNat ++ [if s.cl = true then 1 else 0]
def Slt.bytes (s : Slt) : List UInt8 := s.head ++ leB 4 (sumN s.head) ++ List.replicate 491 0
theorem Slt.head_length (s : Slt) : s.head.length = 17 := by simp [Slt.head, leB_length]
theorem Slt.bytes_length (s : Slt) : s.bytes.length = 512 := by simp [Slt.bytes, Slt.head_length, leB_length, -List.reduceReplicate]
/-- The slot of 512 bytes, and the error's number. -/
def slotTake (l : List UInt8) : Slt × Int :=
  if l.length ≠ 512 then (Slt.nil, 2)
  else if l.take 4 ≠ [83, 76, 79, 84] then (Slt.nil, 3)
  else if leV ((l.drop 17).take 4) ≠ sumN (l.take 17) then (Slt.nil, 4)
  else if 1 < (l.getD 16 0).toNat ∨ l.drop 21 ≠ List.replicate 491 0 ∨ ¬ (Slt.mk (leV ((l.drop 4).take 4)) (leV ((l.drop 8).take 4)) (leV ((l.drop 12).take 4)) ((l.getD 16 0).toNat == 1)).right then (Slt.nil, 3)
  else (Slt.mk (leV ((l.drop 4).take 4)) (leV ((l.drop 8).take 4)) (leV ((l.drop 12).take 4)) ((l.getD 16 0).toNat == 1), 0)
theorem slotTake_nil (l : List UInt8) (h : (slotTake l).2 ≠ 0) : (slotTake l).1 = Slt.nil := by
  unfold slotTake at *
  split
  · rfl
  · split
    · rfl
    · split
      · rfl
      · split
        · rfl
        · rename_i h1 h2 h3 h4
          exact absurd (by rw [if_neg h1, if_neg h2, if_neg h3, if_neg h4]) h
theorem leV_leB4 (n : Int) (h0 : 0 ≤ n) (h : n < 4294967296) : ((leV (leB 4 n.toNat) : Nat) : Int) = n := by
  rw [leV_leB, Nat.mod_eq_of_lt (by omega)]; omega
theorem slotTake_bytes (s : Slt) (h : s.right) : slotTake s.bytes = (s, 0) := by
  have hl := s.bytes_length
  have hh := s.head_length
  obtain ⟨h1, h2, h3, h4, h5⟩ := h
  have hd : 0 ≤ s.dir ∧ s.dir < 4294967296 := by split at h5 <;> omega
  have hsum : sumN s.head < 4294967296 := sumN_lt _
  have e17 : s.bytes.take 17 = s.head := by rw [Slt.bytes, List.append_assoc, List.take_left' hh]
  have e174 : (s.bytes.drop 17).take 4 = leB 4 (sumN s.head) := by
    rw [Slt.bytes, List.append_assoc, List.drop_left' hh, List.take_left' (leB_length 4 _)]
  have e21 : s.bytes.drop 21 = List.replicate 491 0 := by
    rw [Slt.bytes, List.drop_left' (by rw [List.length_append, hh, leB_length])]
  have e4 : s.bytes.take 4 = [83, 76, 79, 84] := by simp [Slt.bytes, Slt.head, -List.reduceReplicate]
  have d4 : (s.bytes.drop 4).take 4 = leB 4 s.seq.toNat := by simp [Slt.bytes, Slt.head, leB, -List.reduceReplicate]
  have d8 : (s.bytes.drop 8).take 4 = leB 4 s.en.toNat := by simp [Slt.bytes, Slt.head, leB, -List.reduceReplicate]
  have d12 : (s.bytes.drop 12).take 4 = leB 4 s.dir.toNat := by simp [Slt.bytes, Slt.head, leB, -List.reduceReplicate]
  have d16 : s.bytes.getD 16 0 = if s.cl = true then 1 else 0 := by simp [Slt.bytes, Slt.head, leB, -List.reduceReplicate]
  have hc : ((s.bytes.getD 16 0).toNat == 1) = s.cl := by rw [d16]; cases s.cl <;> rfl
  have hc1 : ¬ 1 < (s.bytes.getD 16 0).toNat := by rw [d16]; cases s.cl <;> decide
  unfold slotTake
  rw [if_neg (by rw [hl]; simp), if_neg (by rw [e4]; simp), if_neg (by rw [e174, e17, leV_leB, Nat.mod_eq_of_lt (by omega)]; simp), d4, d8, d12, hc, leV_leB4 _ h1 (by omega), leV_leB4 _ (by omega) (by omega), leV_leB4 _ hd.1 hd.2]
  rw [if_neg]
  rintro (h | h | h)
  · exact hc1 h
  · exact h e21
  · exact h ⟨h1, h2, h3, h4, h5⟩
/-- A slot that is changed within 32 bits is refused. -/
theorem slot_spoilt (s : Slt) (h : s.right) (at_ bits : Nat) (hb : bits < 4294967296) (hne : flipK s.bytes at_ bits 32 ≠ s.bytes) : (slotTake (flipK s.bytes at_ bits 32)).2 ≠ 0 := by
  intro h0
  apply hne
  have hl := s.bytes_length
  have hh := s.head_length
  generalize hc : flipK s.bytes at_ bits 32 = c at h0
  have hcl : c.length = 512 := by rw [← hc, flipK_length, hl]
  unfold slotTake at h0
  split at h0
  · cases h0
  · split at h0
    · cases h0
    · split at h0
      · cases h0
      · split at h0
        · cases h0
        · rename_i k1 k2 k3 k4
          have k3' : leV ((c.drop 17).take 4) = sumN (c.take 17) := Decidable.not_not.1 k3
          have ht : c.drop 21 = List.replicate 491 0 := by
            by_cases hz : c.drop 21 = List.replicate 491 0
            · exact hz
            · exact absurd (.inr (.inl hz)) k4
          have e21 : s.bytes.drop 21 = List.replicate 491 0 := by
            rw [Slt.bytes, List.drop_left' (by rw [List.length_append, hh, leB_length])]
          have ec : c.take 21 = flipK (s.bytes.take 21) at_ bits 32 := by rw [← hc, flipK_take]
          have hw : leV ((s.bytes.take 21).drop 17) = sumN ((s.bytes.take 21).take 17) := by
            have e1 : s.bytes.take 21 = s.head ++ leB 4 (sumN s.head) := by
              rw [Slt.bytes, List.take_left' (by rw [List.length_append, hh, leB_length])]
            have hs := sumN_lt s.head
            rw [e1, List.drop_left' hh, List.take_left' hh, leV_leB, Nat.mod_eq_of_lt (by omega)]
          have key := burst_code (s.bytes.take 21) 17 at_ bits (by rw [List.length_take, hl]; rfl) hb hw (by
            rw [← ec, List.drop_take, List.take_take]; exact k3')
          rw [← ec] at key
          rw [← List.take_append_drop 21 c, ← List.take_append_drop 21 s.bytes, key, ht, e21]
end Go.Bn
