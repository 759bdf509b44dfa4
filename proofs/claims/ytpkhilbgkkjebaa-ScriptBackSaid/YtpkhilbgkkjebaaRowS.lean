/- From a row's arguments to the walk's: slices of structs that came in. -/
import Derived.Test.YtpkhilbgkkjebaaRow
import Derived.Test.YtpkhilbgkkjebaaFlat
import Derived.Deep.Slices
set_option linter.unusedVariables false
namespace Go.Bn
open Go Go.ChangeShapes Go.WideShapes Go.Deep

section
variable {H : Type} {enc : TypeId × Value → H} {P : Program} {W : World} {base : Nat} {spare : Nat → Bool} {held : Bool} {t e : TypeId} {a : Option Addr} {len cap : Nat} {d : DataW H} {ps : List MemPlace}

theorem arg_each {α : Type} [Inhabited α] (f : α → List Value) (ok : α → Prop) {s : Nat} (hs : 0 < s) (hf : ∀ x, (f x).length = s) (hu : P.underlying t = some (.slice e)) (hc : P.cellsOf e = s)
    (hel : ∀ n cs y, DataW.trod enc P W base spare held n e cs = some y → ∃ x, cs = f x ∧ ok x) (h : DataW.Trod enc P W base spare held t (.slice a len cap) d ps) :
    ∃ l : List α, l.length = len ∧ len ≤ cap ∧ cap ≤ maxLen ∧ Rd W.heap a (l.flatMap f) ∧ ∀ x ∈ l, ok x := by
  obtain ⟨fuel, h⟩ := h
  rcases open_slice hu h with ⟨hcs, _⟩ | ⟨x, l, c, m, n, D, Pl, hcs, _, hl, hm, hmm, _, hx⟩
  · simp [Value.cells] at hcs
    obtain ⟨rfl, rfl, rfl⟩ := hcs
    exact ⟨[], rfl, Nat.le_refl _, by simp [maxLen], .inl rfl, by simp⟩
  · simp [Value.cells] at hcs
    obtain ⟨rfl, rfl, rfl⟩ := hcs
    have hlm : len ≤ m := by rw [hmm]; split <;> omega
    have each : ∀ i, i < len → ∃ y : α, (∀ j, j < s → W.cell? (x.add (i * s + j)) = (f y)[j]?) ∧ ok y := by
      intro i hi
      obtain ⟨cs, h1, h2⟩ := hx i (by omega)
      obtain ⟨y, rfl, hy⟩ := hel n cs _ h2
      rw [hc] at h1
      obtain ⟨_, _, hcell⟩ := World.cells?_some h1
      refine ⟨y, fun j hj => ?_, hy⟩
      rw [← hcell j hj, Deep.add_add]
    obtain ⟨X, hX⟩ := Deep.choose_lt each
    refine ⟨(List.range len).map X, by simp, hl, hm, rd_of_cells fun k u hk => ?_, ?_⟩
    · have hk2 : k < len * s := by
        have := (List.getElem?_eq_some_iff.1 hk).1
        rwa [flat_length f s hf, List.length_map, List.length_range] at this
      have hi : k / s < len := Nat.div_lt_of_lt_mul (by rwa [Nat.mul_comm] at hk2)
      have hj : k % s < s := Nat.mod_lt _ hs
      have hkk : k / s * s + k % s = k := by rw [Nat.mul_comm]; exact Nat.div_add_mod k s
      have h3 := flat_get f s hf ((List.range len).map X) (k / s) (k % s) (by simpa using hi) hj
      rw [hkk, hk] at h3
      have h4 := (hX (k / s) hi).1 (k % s) hj
      rw [hkk] at h4
      rw [h4, h3]
      simp
    · intro y hy
      obtain ⟨i, hi, rfl⟩ := List.mem_map.1 hy
      exact (hX i (List.mem_range.1 hi)).2
theorem el_pair {f0 f1 : Field} {k0 k1 : IntKind} (he : P.underlying e = some (.struct #[f0, f1])) (ce : P.cellsOf e = 2) (o0 : f0.offset = 0) (o1 : f1.offset = 1) (c0 : P.cellsOf f0.type = 1) (c1 : P.cellsOf f1.type = 1)
    (u0 : P.underlying f0.type = some (.int k0)) (u1 : P.underlying f1.type = some (.int k1)) {n : Nat} {cs : List Value} {y : DataW H × List MemPlace} (h : DataW.trod enc P W base spare held n e cs = some y) :
    ∃ a b : Int, cs = [.int k0 a, .int k1 b] ∧ inK k0 a ∧ inK k1 b := by
  obtain ⟨y0, y1, k, _, hl, h0, h1⟩ := trod_struct2 he h
  rw [ce] at hl
  match cs, hl with
  | [v0, v1], _ =>
    rw [o0, c0] at h0
    rw [o1, c1] at h1
    obtain ⟨a, ha, _, wa⟩ := DataW.trod_int u0 h0
    obtain ⟨b, hb, _, wb⟩ := DataW.trod_int u1 h1
    simp at ha hb
    exact ⟨a, b, by rw [ha, hb], wf_in wa, wf_in wb⟩
theorem el_UI {f0 f1 : Field} (he : P.underlying e = some (.struct #[f0, f1])) (ce : P.cellsOf e = 2) (o0 : f0.offset = 0) (o1 : f1.offset = 1) (c0 : P.cellsOf f0.type = 1) (c1 : P.cellsOf f1.type = 1)
    (u0 : P.underlying f0.type = some (.int .u32)) (u1 : P.underlying f1.type = some (.int .i64)) (n : Nat) (cs : List Value) (y : DataW H × List MemPlace) (h : DataW.trod enc P W base spare held n e cs = some y) :
    ∃ x : Nat × Int, cs = pairUI x ∧ x.1 < 4294967296 ∧ inK .i64 x.2 := by
  obtain ⟨a, b, rfl, ha, hb⟩ := el_pair he ce o0 o1 c0 c1 u0 u1 h
  simp only [inK] at ha
  refine ⟨(a.toNat, b), ?_, by simp only; omega, hb⟩
  simp only [pairUI]
  rw [show ((a.toNat : Nat) : Int) = a by omega]
theorem el_II {f0 f1 : Field} (he : P.underlying e = some (.struct #[f0, f1])) (ce : P.cellsOf e = 2) (o0 : f0.offset = 0) (o1 : f1.offset = 1) (c0 : P.cellsOf f0.type = 1) (c1 : P.cellsOf f1.type = 1)
    (u0 : P.underlying f0.type = some (.int .i64)) (u1 : P.underlying f1.type = some (.int .i64)) (n : Nat) (cs : List Value) (y : DataW H × List MemPlace) (h : DataW.trod enc P W base spare held n e cs = some y) :
    ∃ x : Int × Int, cs = pairII x ∧ inK .i64 x.1 ∧ inK .i64 x.2 := by
  obtain ⟨a, b, rfl, ha, hb⟩ := el_pair he ce o0 o1 c0 c1 u0 u1 h
  exact ⟨(a, b), rfl, ha, hb⟩
end
theorem nats_rd {hp : Heap} {a : Option Addr} {l : List Int} (r : Rd hp a (l.map (Value.int .u32))) (wf : ∀ n ∈ l, (Lit.int .u32 n).wf = true) : Rd hp a ((l.map Int.toNat).map fun n : Nat => Value.int .u32 (n : Int)) := by
  have e : (l.map Int.toNat).map (fun n : Nat => Value.int .u32 (n : Int)) = l.map (Value.int .u32) := by
    rw [List.map_map]
    refine List.map_congr_left fun z hz => ?_
    have hw := wf_in (wf z hz)
    simp only [inK] at hw
    simp only [Function.comp]
    rw [show ((z.toNat : Nat) : Int) = z by omega]
  rw [e]; exact r
theorem nats_lt {l : List Int} (wf : ∀ n ∈ l, (Lit.int .u32 n).wf = true) : ∀ n ∈ l.map Int.toNat, n < 4294967296 := by
  intro n hn
  obtain ⟨z, hz, rfl⟩ := List.mem_map.1 hn
  have hw := wf_in (wf z hz)
  simp only [inK] at hw
  omega
/-! Values of many cells, all numbers or bools. -/
inductive Kd where
  | i (k : IntKind)
  | b
def Kd.ok : Kd → Value → Prop
  | .i k, v => ∃ n, v = .int k n ∧ inK k n
  | .b, v => ∃ x, v = .bool x
def okL : List Kd → List Value → Prop
  | [], [] => True
  | k :: ks, v :: vs => k.ok v ∧ okL ks vs
  | _, _ => False
theorem okL_append : ∀ {ks ks' : List Kd} {vs vs' : List Value}, okL ks vs → okL ks' vs' → okL (ks ++ ks') (vs ++ vs')
  | [], _, [], _, _, h => h
  | _ :: ks, _, _ :: vs, _, h, h' => ⟨h.1, okL_append (ks := ks) h.2 h'⟩
  | [], _, _ :: _, _, h, _ => h.elim
  | _ :: _, _, [], _, h, _ => h.elim
theorem okL_cons {k : Kd} {ks : List Kd} {l : List Value} (h : okL (k :: ks) l) : ∃ v r, l = v :: r ∧ k.ok v ∧ okL ks r := by
  cases l with
  | nil => exact h.elim
  | cons v r => exact ⟨v, r, rfl, h.1, h.2⟩
theorem okL_nil {l : List Value} (h : okL [] l) : l = [] := by
  cases l with
  | nil => rfl
  | cons v r => exact h.elim
def flatF (P : Program) (rec : TypeId → Option (List Kd)) : Nat → List Field → Option (List Kd)
  | _, [] => some []
  | o, f :: r => match Nat.beq f.offset o, rec f.type with
    | true, some ks => match Nat.beq (P.cellsOf f.type) ks.length, flatF P rec (o + ks.length) r with
      | true, some rest => some (ks ++ rest)
      | _, _ => none
    | _, _ => none
def flatK (P : Program) : Nat → TypeId → Option (List Kd)
  | 0, _ => none
  | d + 1, t => match P.underlying t with
    | some (.int k) => some [.i k]
    | some .bool => some [.b]
    | some (.struct fs) => flatF P (flatK P d) 0 fs.toList
    | _ => none
section
variable {H : Type} {enc : TypeId × Value → H} {P : Program} {W : World} {base : Nat} {spare : Nat → Bool} {held : Bool}
theorem trod_flat : ∀ (dd : Nat) {t : TypeId} {ks : List Kd} {n : Nat} {cs : List Value} {y : DataW H × List MemPlace}, flatK P dd t = some ks → cs.length = ks.length → DataW.trod enc P W base spare held n t cs = some y → okL ks cs
  | 0, _, _, _, _, _, h, _, _ => by simp [flatK] at h
  | dd + 1, t, ks, n, cs, y, h, hl, ht => by
    unfold flatK at h
    split at h
    · rename_i k hu
      cases h
      obtain ⟨m, rfl, _, hw⟩ := DataW.trod_int hu ht
      exact ⟨⟨m, rfl, wf_in hw⟩, trivial⟩
    · rename_i hu
      cases h
      obtain ⟨b, rfl, _⟩ := DataW.trod_bool hu ht
      exact ⟨⟨b, rfl⟩, trivial⟩
    · rename_i fs hu
      obtain ⟨xs, m, _, _, hlen, hxl, hf⟩ := DataW.trod_struct hu ht
      have hf' : ∀ (i : Nat) (f : Field), fs.toList[i]? = some f → ∃ z, DataW.trod enc P W base spare held m f.type ((cs.drop f.offset).take (P.cellsOf f.type)) = some z := by
        intro i f hi
        have hlt := (List.getElem?_eq_some_iff.1 hi).1
        have h1 := hf i f (by simpa using hi)
        rw [List.getElem?_eq_getElem (show i < xs.length by rw [hxl]; simpa using hlt)] at h1
        exact ⟨_, h1⟩
      clear hf hxl ht hu
      generalize fs.toList = l at h hf'
      suffices key : ∀ (l : List Field) (o : Nat) (ks : List Kd), flatF P (flatK P dd) o l = some ks → (∀ (i : Nat) (f : Field), l[i]? = some f → ∃ z, DataW.trod enc P W base spare held m f.type ((cs.drop f.offset).take (P.cellsOf f.type)) = some z) → cs.length = o + ks.length → okL ks (cs.drop o) by
        have := key l 0 ks h hf' (by omega)
        simpa using this
      intro l
      induction l with
      | nil =>
        intro o ks h _ hl
        simp only [flatF] at h
        cases h
        rw [List.drop_of_length_le (by simp at hl; omega)]
        exact trivial
      | cons f r ih =>
        intro o ks h hf hl
        simp only [flatF] at h
        split at h
        · rename_i k1 ho hk
          split at h
          · rename_i rest hc hr
            cases h
            have ho := Nat.eq_of_beq_eq_true ho
            have hc := Nat.eq_of_beq_eq_true hc
            obtain ⟨z, hz⟩ := hf 0 f rfl
            rw [ho, hc] at hz
            rw [List.length_append] at hl
            have g1 := trod_flat dd hk (by rw [List.length_take, List.length_drop]; omega) hz
            have g2 := ih (o + k1.length) rest hr (fun i f hi => hf (i + 1) f hi) (by omega)
            have := okL_append g1 g2
            rwa [← List.drop_drop, List.take_append_drop] at this
          · cases h
        · cases h
    · cases h
/-- An argument of many cells. -/
theorem arg_flat {base' : Nat} {t : TypeId} {ks : List Kd} {v : Value} {d : DataW H} {ps : List MemPlace} {fs : Array Field} (dd : Nat) (hu : P.underlying t = some (.struct fs)) (hk : flatK P dd t = some ks) (hc : P.cellsOf t = ks.length) (hv : Value.okWide P W .any base' t v) (h : DataW.Trod enc P W base spare held t v d ps) :
    ∃ cs, v = .agg cs ∧ okL ks cs.toList := by
  obtain ⟨cs, rfl, hs⟩ := okWide_struct hu hv
  obtain ⟨n, hn⟩ := h
  refine ⟨cs, rfl, trod_flat dd hk (by rw [Array.length_toList, hs, hc]) (by simpa [Value.cells] using hn)⟩
end
end Go.Bn
