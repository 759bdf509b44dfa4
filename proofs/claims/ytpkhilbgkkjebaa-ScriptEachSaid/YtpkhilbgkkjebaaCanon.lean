/- The contracts of canon's functions on lengths, and of what they lean on. -/
import Derived.Test.YtpkhilbgkkjebaaProg
import Derived.Test.YtpkhilbgkkjebaaRng
import Derived.Test.YtpkhilbgkkjebaaPCanon
set_option linter.unusedVariables false
set_option linter.unusedSimpArgs false
set_option maxHeartbeats 4000000
set_option maxRecDepth 20000
namespace Go.Bn
open Go Proofs

@[reducible] def iV (x : Int) : Value := .int .i64 x
@[reducible] def nV (x : Nat) : Value := .int .i64 (x : Int)
theorem one_iV (l : List Int) : ∀ u ∈ l.map iV, Value.one u = true := one_ints .i64 l
theorem one_nV (l : List Nat) : ∀ u ∈ l.map nV, Value.one u = true := by
  intro u hu; obtain ⟨x, _, rfl⟩ := List.mem_map.1 hu; rfl
theorem nV_iV (l : List Nat) : l.map nV = (l.map fun n : Nat => (n : Int)).map iV := by
  rw [List.map_map]; rfl

def boundedB (most : Int) (li : List Int) : Prop := li.length ≤ 320 ∧ ∀ x ∈ li, 0 ≤ x ∧ x ≤ most
instance (most : Int) (li : List Int) : Decidable (boundedB most li) := by unfold boundedB; infer_instance
theorem any_out (most : Int) (li : List Int) : (!li.any fun x => decide (x < 0 ∨ most < x)) = decide (∀ x ∈ li, 0 ≤ x ∧ x ≤ most) := by
  rw [Bool.eq_iff_iff]
  simp only [Bool.not_eq_true', List.any_eq_false, decide_eq_true_iff]
  exact ⟨fun h x hx => by have := h x hx; omega, fun h x hx => by have := h x hx; omega⟩

theorem toNat_map {li : List Int} (h : ∀ x ∈ li, 0 ≤ x) : (li.map Int.toNat).map (fun n : Nat => (n : Int)) = li := by
  rw [List.map_map]
  conv => rhs; rw [← List.map_id li]
  refine List.map_congr_left fun x hx => ?_
  have := h x hx
  simp only [Function.comp, id]; omega

/-- Whether numbers may be a code's lengths. -/
def rightC (li : List Int) : Prop := 1 ≤ li.length ∧ boundedB 15 li ∧ (kraft (li.map Int.toNat) = 32768 ∨ (li.map Int.toNat).sum = 1)
instance (li : List Int) : Decidable (rightC li) := by unfold rightC; infer_instance
theorem rightC.ok {li : List Int} (h : rightC li) : lensOK (li.map Int.toNat) := by
  refine ⟨by rw [List.length_map]; exact h.1, by rw [List.length_map]; exact h.2.1.1, fun x hx => ?_, h.2.2⟩
  obtain ⟨y, hy, rfl⟩ := List.mem_map.1 hx
  have := h.2.1.2 y hy; omega
end Go.Bn
