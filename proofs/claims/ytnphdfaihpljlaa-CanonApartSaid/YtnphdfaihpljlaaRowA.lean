/- Arrays as arguments. -/
import Derived.Test.YtnphdfaihpljlaaRowS
import Derived.OpenShut
set_option linter.unusedVariables false
namespace Go.Bn
open Go
section
variable {H : Type} {enc : TypeId × Value → H} {P : Program} {W : World} {base : Nat} {spare : Nat → Bool} {held : Bool}
theorem okL_cells {k : IntKind} : ∀ (n : Nat) (l : List Value), l.length = n → (∀ i, i < n → ∃ m : Int, (l.drop i).take 1 = [.int k m] ∧ inK k m) → okL (List.replicate n (.i k)) l
  | 0, l, hl, _ => by
    obtain rfl := List.length_eq_zero_iff.1 hl
    exact trivial
  | n + 1, l, hl, h => by
    cases l with
    | nil => simp at hl
    | cons v r =>
      obtain ⟨m, hm, hk⟩ := h 0 (by omega)
      have hm : v = .int k m := by simpa using hm
      refine ⟨⟨m, hm, hk⟩, okL_cells n r (by simpa using hl) fun i hi => ?_⟩
      have := h (i + 1) (by omega)
      rwa [List.drop_succ_cons] at this
theorem arg_arr {base' n : Nat} {t e : TypeId} {k : IntKind} {v : Value} {d : DataW H} {ps : List MemPlace} (hu : P.underlying t = some (.array n e)) (he : P.underlying e = some (.int k)) (hce : P.cellsOf e = 1) (hc : P.cellsOf t = n)
    (hv : Value.okWide P W .any base' t v) (h : DataW.Trod enc P W base spare held t v d ps) : ∃ cs, v = .agg cs ∧ okL (List.replicate n (.i k)) cs.toList := by
  simp only [Value.okWide, hu] at hv
  obtain ⟨cs, rfl, hs, _⟩ := hv
  obtain ⟨f, hn⟩ := h
  simp only [Value.cells] at hn
  obtain ⟨xs, m, _, _, hlen, hxl, hf⟩ := DataW.trod_array hu hn
  refine ⟨cs, rfl, okL_cells n _ (by rw [Array.length_toList, hs, hc]) fun i hi => ?_⟩
  have h1 := hf i hi
  rw [hce, Nat.mul_one, List.getElem?_eq_getElem (by omega)] at h1
  obtain ⟨a, hx, _, hw⟩ := DataW.trod_int he h1
  exact ⟨a, hx, wf_in hw⟩
end
end Go.Bn
