/- Plain: streams and their descriptors. -/
import Derived.Test.YtigbhndidohgbaaPCodec
import Derived.Test.YtigbhndidohgbaaPDesc
set_option linter.unusedVariables false
set_option linter.unusedSimpArgs false
namespace Go.Bn
theorem endF_S : ∀ (s : List (List UInt8)), (∀ x ∈ s, 0 < x.length ∧ x.length ≤ 65535) → ∀ (z : List UInt8) (a f : Nat), (pieceS s ++ leB 2 0 ++ z).length < f → endF f (pieceS s ++ leB 2 0 ++ z) a = some (a + (pieceS s ++ leB 2 0).length)
  | [], _, z, a, 0, h => by omega
  | [], _, z, a, f + 1, _ => by
    have e : pieceS [] ++ leB 2 0 ++ z = 0 :: 0 :: z := rfl
    rw [e]; simp [endF, leV, pieceS, leB_length]
  | x :: r, hs, z, a, 0, h => by omega
  | x :: r, hs, z, a, f + 1, h => by
    obtain ⟨h0, h1⟩ := hs x List.mem_cons_self
    have e : pieceS (x :: r) ++ leB 2 0 ++ z = leB 2 x.length ++ x ++ (pieceS r ++ leB 2 0 ++ z) := by simp [pieceS]
    rw [e] at h ⊢
    obtain ⟨e1, e2, e3⟩ := pieces_head (x := x) (z := pieceS r ++ leB 2 0 ++ z) (by omega)
    rw [endF, e1, if_neg (by simp only [List.length_append, leB_length]; omega), if_neg (by simp only [List.length_append, leB_length]; omega), if_neg (by omega), e2]
    rw [endF_S r (fun y hy => hs y (List.mem_cons_of_mem _ hy)) _ _ f (by simp only [List.length_append, leB_length] at h ⊢; omega)]
    congr 1
    simp only [pieceS, List.flatMap_cons, List.length_append, leB_length]; omega
theorem dscEnd_stream (ls : List (List UInt8)) (z : List UInt8) : dscEnd (streamB ls ++ z) 0 = (((streamB ls).length : Int), 0) := by
  obtain ⟨h1, h2⟩ := chunksL_ok ls
  unfold dscEnd
  rw [if_neg (by omega)]
  have := endF_S _ h2 z 0 ((streamB ls ++ z).length - 0 + 1) (by unfold streamB; omega)
  simp only [Int.toNat_zero, List.drop_zero]
  show endV (endF ((streamB ls ++ z).length - 0 + 1) (streamB ls ++ z) 0) = _
  unfold streamB at this ⊢
  rw [this, Nat.zero_add]; rfl
theorem dscOf_stream (ls : List (List UInt8)) (h : ls.flatten.length ≤ 65536) : dscOf (streamB ls) = (⟨ls.flatten.length, (streamB ls).length, (sumN (streamB ls) : Nat)⟩, 0) ∧ (Dsc.mk ls.flatten.length (streamB ls).length (sumN (streamB ls) : Nat)).right := by
  have hl := streamB_len ls
  have h2 : 2 ≤ (streamB ls).length := by simp only [streamB, List.length_append, leB_length]; omega
  have hr : (Dsc.mk ls.flatten.length (streamB ls).length (sumN (streamB ls) : Nat)).right := by
    simp only [Dsc.right]; omega
  refine ⟨?_, hr⟩
  unfold dscOf
  rw [pieces_stream]
  simp only
  rw [if_neg (by simp), if_neg (fun hh => hh hr)]
theorem dscTakeAt_behind (x : List UInt8) (d : Dsc) (z : List UInt8) (h : d.right) (hs : 0 ≤ d.sum ∧ d.sum < 4294967296) : dscTakeAt (x ++ d.bytes ++ z) x.length = (d, 0) := by
  unfold dscTakeAt
  rw [if_neg (by simp only [List.length_append]; omega), Int.toNat_natCast, List.append_assoc, List.drop_left' rfl]
  exact dscTake_bytes d h hs z
theorem dscTakeAt_zero (l : List UInt8) : dscTakeAt l 0 = dscTake l := by
  unfold dscTakeAt
  rw [if_neg (by omega)]; simp
/-- What fits a payload fits none that is changed within 32 bits. -/
theorem fits_flip (l : List UInt8) (n : Nat) (at_ bits : Nat) (hb : bits < 4294967296) (h : dscOf l = (⟨n, l.length, (sumN l : Nat)⟩, 0)) : (dscOf (flipK l at_ bits 32) = (⟨n, l.length, (sumN l : Nat)⟩, 0)) ↔ l = flipK l at_ bits 32 := by
  constructor
  · intro hc
    by_cases hat : 8 * l.length ≤ at_
    · exact (flipK_out _ _ _ _ hat).symm
    · refine ((burst l at_ bits (by omega) hb).1 ?_).symm
      unfold dscOf at hc
      split at hc
      · simp only [Prod.mk.injEq] at hc; rename_i h1; exact absurd hc.2 h1
      · split at hc
        · simp at hc
        · simp only [Prod.mk.injEq, Dsc.mk.injEq, and_true] at hc
          exact Int.ofNat.inj hc.2.2
  · intro e
    rw [← e]; exact h
end Go.Bn
