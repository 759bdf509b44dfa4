/- From a row's arguments to the walk's: slices that came in. -/
import Derived.Test.YtpkhilbgkkjebaaOps4
import Derived.ProofKit
import Derived.OpenShut
import Derived.ShutString
import Derived.ChangeOld
import Derived.SizedLaws
import Derived.ChangeSlices
namespace Go.Bn
open Go Go.ChangeShapes Go.WideShapes

theorem addr_of_cell {w : World} {x : Addr} {v : Value} (h : w.cell? (x.add 0) = some v) : x = ⟨x.block, x.off, none⟩ := by
  rw [addr_zero] at h
  unfold World.cell? at h
  split at h
  · cases hs : x.spot with
    | none => cases x; simp_all
    | some s => rw [hs] at h; simp at h
  · cases h
theorem rd_of_cells {W : World} {x : Addr} {vs : List Value} (hc : ∀ i u, vs[i]? = some u → W.cell? (x.add i) = some u) : Rd W.heap (some x) vs := by
  cases vs with
  | nil => exact .inl rfl
  | cons v r =>
    have h0 := addr_of_cell (hc 0 v rfl)
    refine .inr ⟨x.block, x.off, by rw [← h0], fun i u hu => ?_⟩
    have := hc i u hu
    rw [h0, addr_add] at this
    exact this

section
variable {H : Type} {enc : TypeId × Value → H} {P : Program} {W : World} {base : Nat} {spare : Nat → Bool} {held : Bool} {t e : TypeId} {a : Option Addr} {len cap : Nat} {d : DataW H} {ps : List MemPlace}

/-- A slice of whole numbers that came in, as the walk has it. -/
theorem arg_ints {k : IntKind} (hu : P.underlying t = some (.slice e)) (he : P.underlying e = some (.int k)) (hc : P.cellsOf e = 1) (h : DataW.Trod enc P W base spare held t (.slice a len cap) d ps) :
    ∃ l : List Int, l.length = len ∧ len ≤ cap ∧ cap ≤ maxLen ∧ Rd W.heap a (l.map (Value.int k)) ∧ ∀ n ∈ l, (Lit.int k n).wf = true := by
  obtain ⟨fuel, hf⟩ := h
  rcases open_ints hu he hc hf with ⟨hcs, _⟩ | ⟨x, l, c, zs, hcs, _, hl, hm, hz, _, hcell, hwz⟩
  · simp [Value.cells] at hcs
    obtain ⟨rfl, rfl, rfl⟩ := hcs
    exact ⟨[], rfl, Nat.le_refl _, by simp [maxLen], .inl rfl, by simp⟩
  · simp [Value.cells] at hcs
    obtain ⟨rfl, rfl, rfl⟩ := hcs
    have hl2 : len ≤ zs.length := by rw [hz]; split <;> omega
    refine ⟨zs.take len, by simp; omega, hl, hm, rd_of_cells fun i u hu => ?_, fun n hn => hwz n (List.mem_of_mem_take hn)⟩
    have hi : i < len := by
      have := (List.getElem?_eq_some_iff.1 hu).1
      simp at this; omega
    rw [hcell i (by omega)]
    rw [List.getElem?_map, List.getElem?_take, if_pos hi] at hu
    simp only [List.getD_eq_getElem?_getD]
    rw [List.getElem?_eq_getElem (show i < zs.length by omega)] at hu ⊢
    simpa using hu
theorem arg_bytes (hu : P.underlying t = some (.slice e)) (he : P.underlying e = some (.int .u8)) (hc : P.cellsOf e = 1) (h : DataW.Trod enc P W base spare held t (.slice a len cap) d ps) :
    ∃ l : List UInt8, l.length = len ∧ len ≤ cap ∧ cap ≤ maxLen ∧ Rd W.heap a (l.map byteV) := by
  obtain ⟨l, h1, h2, h3, h4, h5⟩ := arg_ints hu he hc h
  refine ⟨l.map fun z => UInt8.ofNat z.toNat, by simpa using h1, h2, h3, ?_⟩
  have e : (l.map fun z => UInt8.ofNat z.toNat).map byteV = l.map (Value.int .u8) := by
    rw [List.map_map]
    refine List.map_congr_left fun z hz => ?_
    have hw := h5 z hz
    have hb : 0 ≤ z ∧ z ≤ 255 := bounds_u8 hw
    simp only [Function.comp, byteV]
    congr 1
    have : (UInt8.ofNat z.toNat).toNat = z.toNat := by simp; omega
    rw [this]; omega
  rw [e]; exact h4
/-- It is no longer than its weight allows. -/
theorem arg_size {k : IntKind} {ts : List TypeId} {ds : List (DataW H)} {j : Nat} (hsz : (DataW.weightsEach P ts ds).all (· ≤ reachBytes) = true) (ht : ts[j]? = some t) (hd : ds[j]? = some d) (hu : P.underlying t = some (.slice e)) (he : P.underlying e = some (.int k))
    (hc : P.cellsOf e = 1) {B : Nat} (hB : P.bytesOf e = B) (h : DataW.Trod enc P W base spare held t (.slice a len cap) d ps) : len * B ≤ 140737488351232 := by
  obtain ⟨fuel, hf⟩ := h
  rcases open_ints hu he hc hf with ⟨hcs, _⟩ | ⟨x, l, c, zs, hcs, _, hl, _, hz, hx, _, _⟩
  · simp [Value.cells] at hcs
    obtain ⟨rfl, rfl, rfl⟩ := hcs
    simp
  · simp [Value.cells] at hcs
    obtain ⟨rfl, rfl, rfl⟩ := hcs
    obtain ⟨hx, _⟩ := Prod.mk.inj hx
    subst hx
    have z := sized_slice hsz ht hd hu
    rw [hB] at z
    have hl2 : len ≤ zs.length := by rw [hz]; split <;> omega
    have h1 : (lits (H := H) k (zs.take len)).length + (lits (H := H) k (zs.drop len)).length = zs.length := by
      simp [lits]; omega
    rw [h1] at z
    exact Nat.le_trans (Nat.mul_le_mul_right _ hl2) z
theorem wf_in {k : IntKind} {n : Int} (h : (Lit.int k n).wf = true) : inK k n := by
  cases k
  · exact bounds_i8 h
  · exact bounds_i16 h
  · exact bounds_i32 h
  · exact bounds_i64 h
  · exact bounds_u8 h
  · exact bounds_u16 h
  · exact bounds_u32 h
  · exact bounds_u64 h
end
end Go.Bn
