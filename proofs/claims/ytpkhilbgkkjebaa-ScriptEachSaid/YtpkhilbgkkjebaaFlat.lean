/- Slices whose elements have several cells. -/
import Derived.Test.YtpkhilbgkkjebaaOps5
set_option linter.unusedVariables false
namespace Go.Bn
open Go
theorem flat_get {α : Type} (f : α → List Value) (s : Nat) (hf : ∀ x, (f x).length = s) : ∀ (l : List α) (i j : Nat) (hi : i < l.length), j < s → (l.flatMap f)[i * s + j]? = (f l[i])[j]?
  | x :: r, 0, j, _, hj => by
    rw [List.flatMap_cons, Nat.zero_mul, Nat.zero_add, List.getElem?_append_left (by rw [hf]; exact hj)]; rfl
  | x :: r, i + 1, j, hi, hj => by
    rw [List.flatMap_cons, List.getElem?_append_right (by rw [hf, Nat.add_mul, Nat.one_mul]; omega), hf, show (i + 1) * s + j - s = i * s + j by rw [Nat.add_mul, Nat.one_mul]; omega]
    exact flat_get f s hf r i j (by simpa using hi) hj
theorem flat_length {α : Type} (f : α → List Value) (s : Nat) (hf : ∀ x, (f x).length = s) (l : List α) : (l.flatMap f).length = l.length * s := by
  induction l with
  | nil => simp
  | cons x r ih => rw [List.flatMap_cons, List.length_append, hf, ih, List.length_cons, Nat.add_mul, Nat.one_mul]; omega
/-- The cells of an element of a slice that is read. -/
theorem Rd.flat {α : Type} {hp : Heap} {A : Option Addr} {l : List α} (f : α → List Value) (s : Nat) (h : Rd hp A (l.flatMap f)) (hf : ∀ x, (f x).length = s) (hs : 0 < s) (hl : 0 < l.length) :
    ∃ b o, A = some ⟨b, o, none⟩ ∧ ∀ i (hi : i < l.length) j v, (f l[i])[j]? = some v → cellH hp ⟨b, o + i * s + j, none⟩ = some v := by
  obtain ⟨b, o, e, hc⟩ := h.at_ (by rw [flat_length f s hf]; exact Nat.mul_pos hl hs)
  refine ⟨b, o, e, fun i hi j v hv => ?_⟩
  have hj : j < s := by
    have := (List.getElem?_eq_some_iff.1 hv).1
    rwa [hf] at this
  have := hc (i * s + j) v (by rw [flat_get f s hf l i j hi hj]; exact hv)
  rwa [← Nat.add_assoc] at this
/-- A struct of a number of 32 bits and one of 64; one of two of 64. -/
@[reducible] def pairUI (q : Nat × Int) : List Value := [.int .u32 (q.1 : Int), .int .i64 q.2]
@[reducible] def pairII (q : Int × Int) : List Value := [.int .i64 q.1, .int .i64 q.2]
end Go.Bn
