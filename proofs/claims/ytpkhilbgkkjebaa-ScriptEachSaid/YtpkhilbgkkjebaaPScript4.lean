/- Plain: the bytes of steps. -/
import Derived.Test.YtpkhilbgkkjebaaPScript3
set_option linter.unusedVariables false
set_option linter.unusedSimpArgs false
namespace Go.Bn
/-- A step's bytes. -/
def oneB (s : Stp) : List UInt8 :=
  [UInt8.ofNat s.kind.toNat, UInt8.ofNat s.name.length] ++ s.name ++ leB 2 (s.n + 1).toNat ++ leB 4 s.data.length ++ s.data ++ [UInt8.ofNat s.keep.length] ++ pack s.keep ++ [UInt8.ofNat s.names.toNat, s.fill]
theorem oneB_length (s : Stp) : (oneB s).length = 11 + s.name.length + s.data.length + (s.keep.length + 7) / 8 := by
  simp only [oneB, List.length_append, leB_length, pack_length, List.length_cons, List.length_nil]
  omega
/-- The bytes of steps, or why there are none. -/
def putS31 (l : List Stp) : List UInt8 × Nat := if 200 < l.length then ([], 14) else if ∃ s ∈ l, ¬ s.right then ([], 1) else (leB 2 l.length ++ l.flatMap oneB, 0)
theorem putS31_long {l : List Stp} (h : 200 < l.length) : putS31 l = ([], 14) := by unfold putS31; rw [if_pos h]
theorem putS31_bad {l : List Stp} (h : ¬ 200 < l.length) {s : Stp} (hs : s ∈ l) (hr : ¬ s.right) : putS31 l = ([], 1) := by unfold putS31; rw [if_neg h, if_pos ⟨s, hs, hr⟩]
theorem putS31_ok {l : List Stp} (h : ¬ 200 < l.length) (hs : ∀ s ∈ l, s.right) : putS31 l = (leB 2 l.length ++ l.flatMap oneB, 0) := by
  unfold putS31; rw [if_neg h, if_neg]
  rintro ⟨s, h1, h2⟩; exact h2 (hs s h1)
theorem flat_oneB_len : ∀ (l : List Stp), (∀ s ∈ l, s.right) → (l.flatMap oneB).length ≤ l.length * 100000
  | [], _ => by simp
  | s :: r, h => by
    have ih := flat_oneB_len r fun x hx => h x (List.mem_cons_of_mem _ hx)
    obtain ⟨_, _, _, h1, h2, h3⟩ := h s List.mem_cons_self
    have := oneB_length s
    rw [List.flatMap_cons, List.length_append, List.length_cons, Nat.add_mul]
    omega
theorem oneE_zero {l : List UInt8} {a : Nat} (h : oneE l a = 0) : eS l a ≤ l.length ∧ okT31 l a := by
  unfold oneE at h
  split at h
  · cases h
  · split at h
    · exact ⟨by omega, by assumption⟩
    · cases h
theorem goS_inv (l : List UInt8) : ∀ (r a : Nat) (acc : List Stp), (∀ s ∈ acc, s.right) → (∀ s ∈ (goS l r a acc).1, s.right) ∧ (goS l r a acc).1.length ≤ acc.length + r
  | 0, a, acc, h => by
    rw [goS]
    split
    · exact ⟨by simp, by simp⟩
    · exact ⟨h, by simp⟩
  | r + 1, a, acc, h => by
    rw [goS]
    split
    · exact ⟨by simp, by simp⟩
    · rename_i h0
      have ih := goS_inv l r (eS l a) (acc ++ [stepAt l a]) (by
        intro s hs
        rcases List.mem_append.1 hs with h1 | h1
        · exact h s h1
        · rw [List.mem_singleton.1 h1]
          exact (oneE_zero (Classical.not_not.1 h0)).2.1)
      rw [List.length_append] at ih
      simp only [List.length_cons, List.length_nil] at ih
      exact ⟨ih.1, by omega⟩
theorem takeS31_right (l : List UInt8) : ∀ s ∈ (takeS31 l).1, s.right := by
  unfold takeS31
  split
  · simp
  · split
    · simp
    · exact (goS_inv l _ _ [] (by simp)).1
theorem takeS31_len (l : List UInt8) : (takeS31 l).1.length ≤ 200 := by
  unfold takeS31
  split
  · simp
  · split
    · simp
    · have := (goS_inv l (lv l 0 2) 2 [] (by simp)).2
      simp only [List.length_nil] at this
      omega
theorem byteV_nat {y : Nat} (h : y < 256) : byteV (UInt8.ofNat y) = .int .u8 (y : Int) := by
  unfold byteV; congr 1; rw [UInt8.toNat_ofNat']; omega
end Go.Bn
