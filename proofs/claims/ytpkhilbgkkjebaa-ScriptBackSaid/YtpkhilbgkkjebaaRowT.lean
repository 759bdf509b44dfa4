/- From a row's arguments to the walk's: whatever is made of numbers, bools, strings, structs and slices. -/
import Derived.Test.YtpkhilbgkkjebaaRowS
set_option linter.unusedVariables false
namespace Go.Bn
open Go Go.ChangeShapes Go.WideShapes Go.Deep

inductive Sh where
  | i (k : IntKind)
  | b
  | str
  | sl (ks : List Sh)
def all2 (p : Sh → Value → Prop) : List Sh → List Value → Prop
  | [], [] => True
  | k :: ks, v :: vs => p k v ∧ all2 p ks vs
  | _, _ => False
theorem all2_append {p : Sh → Value → Prop} : ∀ {ks ks' : List Sh} {vs vs' : List Value}, all2 p ks vs → all2 p ks' vs' → all2 p (ks ++ ks') (vs ++ vs')
  | [], _, [], _, _, h => h
  | _ :: ks, _, _ :: vs, _, h, h' => ⟨h.1, all2_append (ks := ks) h.2 h'⟩
  | [], _, _ :: _, _, h, _ => h.elim
  | _ :: _, _, [], _, h, _ => h.elim
theorem all2_cons {p : Sh → Value → Prop} {k : Sh} {ks : List Sh} {l : List Value} (h : all2 p (k :: ks) l) : ∃ v r, l = v :: r ∧ p k v ∧ all2 p ks r := by
  cases l with
  | nil => exact h.elim
  | cons v r => exact ⟨v, r, rfl, h.1, h.2⟩
theorem all2_nil {p : Sh → Value → Prop} {l : List Value} (h : all2 p [] l) : l = [] := by
  cases l with
  | nil => rfl
  | cons v r => exact h.elim
def okS (hp : Heap) : Nat → Sh → Value → Prop
  | 0, _, _ => False
  | _ + 1, .i k, v => ∃ n, v = .int k n ∧ inK k n
  | _ + 1, .b, v => ∃ x, v = .bool x
  | _ + 1, .str, v => ∃ s : ByteArray, v = .string s ∧ s.size ≤ maxLen
  | d + 1, .sl ks, v => ∃ A n c, v = .slice A n c ∧ n ≤ c ∧ c ≤ maxLen ∧ ∃ ll : List (List Value), ll.length = n ∧ Rd hp A ll.flatten ∧ ∀ x ∈ ll, all2 (okS hp d) ks x
def shF (P : Program) (rec : TypeId → Option (List Sh)) : Nat → List Field → Option (List Sh)
  | _, [] => some []
  | o, f :: r => match Nat.beq f.offset o, rec f.type with
    | true, some ks => match Nat.beq (P.cellsOf f.type) ks.length, shF P rec (o + ks.length) r with
      | true, some rest => some (ks ++ rest)
      | _, _ => none
    | _, _ => none
def shK (P : Program) : Nat → TypeId → Option (List Sh)
  | 0, _ => none
  | d + 1, t => match P.underlying t with
    | some (.int k) => some [.i k]
    | some .bool => some [.b]
    | some .string => some [.str]
    | some (.slice e) => match shK P d e with
      | some ks => match Nat.beq (P.cellsOf e) ks.length && Nat.blt 0 ks.length with
        | true => some [.sl ks]
        | false => none
      | none => none
    | some (.struct fs) => shF P (shK P d) 0 fs.toList
    | _ => none
theorem okS_more {hp : Heap} : ∀ (d d' : Nat) {s : Sh} {v : Value}, d ≤ d' → okS hp d s v → okS hp d' s v
  | 0, _, _, _, _, h => h.elim
  | d + 1, 0, _, _, h, _ => by omega
  | d + 1, d' + 1, .i _, _, _, h => h
  | d + 1, d' + 1, .b, _, _, h => h
  | d + 1, d' + 1, .str, _, _, h => h
  | d + 1, d' + 1, .sl ks, v, hd, h => by
    obtain ⟨A, n, c, rfl, h1, h2, ll, h3, h4, h5⟩ := h
    refine ⟨A, n, c, rfl, h1, h2, ll, h3, h4, fun x hx => ?_⟩
    have := h5 x hx
    clear h5 h4 h3
    have key : ∀ (ks : List Sh) (x : List Value), all2 (okS hp d) ks x → all2 (okS hp d') ks x := by
      intro ks
      induction ks with
      | nil =>
        intro x hx
        cases x with
        | nil => trivial
        | cons _ _ => exact hx.elim
      | cons k r ih =>
        intro x hx
        cases x with
        | nil => exact hx
        | cons v vs => exact ⟨okS_more d d' (by omega) hx.1, ih vs hx.2⟩
    exact key ks x this
theorem all2_more {hp : Heap} {d d' : Nat} (h : d ≤ d') : ∀ {ks : List Sh} {x : List Value}, all2 (okS hp d) ks x → all2 (okS hp d') ks x
  | [], [], _ => trivial
  | [], _ :: _, hx => hx.elim
  | _ :: _, [], hx => hx.elim
  | _ :: _, _ :: _, hx => ⟨okS_more d d' h hx.1, all2_more h hx.2⟩
theorem flatten_get {s : Nat} (hs : 0 < s) : ∀ (ll : List (List Value)), (∀ x ∈ ll, x.length = s) → ll.flatten.length = ll.length * s ∧ ∀ k, k < ll.length * s → ll.flatten[k]? = (ll.getD (k / s) [])[k % s]?
  | [], _ => ⟨by simp, fun k hk => by simp at hk⟩
  | x :: r, h => by
    have hx := h x List.mem_cons_self
    obtain ⟨h1, h2⟩ := flatten_get hs r fun y hy => h y (List.mem_cons_of_mem _ hy)
    refine ⟨by simp only [List.flatten_cons, List.length_append, h1, hx, List.length_cons, Nat.add_mul]; omega, fun k hk => ?_⟩
    rw [List.flatten_cons]
    by_cases hk2 : k < s
    · rw [List.getElem?_append_left (by omega), Nat.div_eq_of_lt hk2, Nat.mod_eq_of_lt hk2]; rfl
    · rw [List.getElem?_append_right (by omega), hx]
      have hk3 : k - s < r.length * s := by
        rw [List.length_cons, Nat.add_mul] at hk; omega
      rw [h2 _ hk3]
      have e1 : k / s = (k - s) / s + 1 := by rw [Nat.div_eq_sub_div hs (by omega)]
      have e2 : k % s = (k - s) % s := Nat.mod_eq_sub_mod (by omega)
      rw [e1, e2]; rfl
section
variable {H : Type} {enc : TypeId × Value → H} {P : Program} {W : World} {base : Nat} {spare : Nat → Bool} {held : Bool}
theorem trod_sh : ∀ (dd : Nat) {t : TypeId} {ks : List Sh} {n : Nat} {cs : List Value} {y : DataW H × List MemPlace}, shK P dd t = some ks → cs.length = ks.length → DataW.trod enc P W base spare held n t cs = some y → all2 (okS W.heap dd) ks cs
  | 0, _, _, _, _, _, h, _, _ => by simp [shK] at h
  | dd + 1, t, ks, n, cs, y, h, hl, ht => by
    unfold shK at h
    split at h
    · rename_i k hu
      cases h
      obtain ⟨m, rfl, _, hw⟩ := DataW.trod_int hu ht
      exact ⟨⟨m, rfl, wf_in hw⟩, trivial⟩
    · rename_i hu
      cases h
      obtain ⟨b, rfl, _⟩ := DataW.trod_bool hu ht
      exact ⟨⟨b, rfl⟩, trivial⟩
    · rename_i hu
      cases h
      obtain ⟨b, rfl, _, hm⟩ := DataW.trod_string hu ht
      exact ⟨⟨b, rfl, hm⟩, trivial⟩
    · rename_i e hu
      split at h
      · rename_i ks' hk
        split at h
        · rename_i hb
          cases h
          have hb1 : P.cellsOf e = ks'.length := Nat.eq_of_beq_eq_true (by simp only [Bool.and_eq_true] at hb; exact hb.1)
          have hb2 : 0 < ks'.length := by simp only [Bool.and_eq_true, Nat.blt_eq] at hb; exact hb.2
          rcases open_slice hu ht with ⟨hcs, _⟩ | ⟨x, len, cap, m, n', D, Pl, hcs, _, hle, hm, hmm, _, hx⟩
          · subst hcs
            exact ⟨⟨none, 0, 0, rfl, Nat.le_refl _, by simp [maxLen], [], rfl, .inl rfl, by simp⟩, trivial⟩
          · subst hcs
            refine ⟨?_, trivial⟩
            have hlm : len ≤ m := by rw [hmm]; split <;> omega
            have each : ∀ i, i < len → ∃ z : List Value, z.length = ks'.length ∧ (∀ j, j < ks'.length → W.cell? (x.add (i * ks'.length + j)) = z[j]?) ∧ all2 (okS W.heap dd) ks' z := by
              intro i hi
              obtain ⟨cs', h1, h2⟩ := hx i (by omega)
              rw [hb1] at h1
              obtain ⟨_, hlen, hcell⟩ := World.cells?_some h1
              exact ⟨cs', hlen, fun j hj => by rw [← hcell j hj, Deep.add_add], trod_sh dd hk hlen h2⟩
            obtain ⟨X, hX⟩ := Deep.choose_lt each
            refine ⟨some x, len, cap, rfl, hle, hm, (List.range len).map X, by simp, rd_of_cells fun k u hk => ?_, ?_⟩
            · obtain ⟨f1, f2⟩ := flatten_get hb2 ((List.range len).map X) (by
                intro z hz; obtain ⟨i, hi, rfl⟩ := List.mem_map.1 hz; exact (hX i (List.mem_range.1 hi)).1)
              have hk2 : k < len * ks'.length := by
                have := (List.getElem?_eq_some_iff.1 hk).1
                rwa [f1, List.length_map, List.length_range] at this
              have hi : k / ks'.length < len := Nat.div_lt_of_lt_mul (by rwa [Nat.mul_comm] at hk2)
              have hj : k % ks'.length < ks'.length := Nat.mod_lt _ hb2
              have hkk : k / ks'.length * ks'.length + k % ks'.length = k := by rw [Nat.mul_comm]; exact Nat.div_add_mod k _
              have h3 := f2 k (by simpa using hk2)
              have h4 := (hX (k / ks'.length) hi).2.1 (k % ks'.length) hj
              rw [hkk] at h4
              rw [h4, ← hk, h3]
              simp [List.getD, hi]
            · intro z hz
              obtain ⟨i, hi, rfl⟩ := List.mem_map.1 hz
              exact (hX i (List.mem_range.1 hi)).2.2
        · cases h
      · cases h
    · rename_i fs hu
      obtain ⟨xs, m, _, _, hlen, hxl, hf⟩ := DataW.trod_struct hu ht
      have hf' : ∀ (i : Nat) (f : Field), fs.toList[i]? = some f → ∃ z, DataW.trod enc P W base spare held m f.type ((cs.drop f.offset).take (P.cellsOf f.type)) = some z := by
        intro i f hi
        have hlt := (List.getElem?_eq_some_iff.1 hi).1
        have h1 := hf i f (by simpa using hi)
        rw [List.getElem?_eq_getElem (show i < xs.length by rw [hxl]; simpa using hlt)] at h1
        exact ⟨_, h1⟩
      clear hf hxl ht hu
      generalize fs.toList = l at h hf'
      suffices key : ∀ (l : List Field) (o : Nat) (ks : List Sh), shF P (shK P dd) o l = some ks → (∀ (i : Nat) (f : Field), l[i]? = some f → ∃ z, DataW.trod enc P W base spare held m f.type ((cs.drop f.offset).take (P.cellsOf f.type)) = some z) → cs.length = o + ks.length → all2 (okS W.heap (dd + 1)) ks (cs.drop o) by
        have := key l 0 ks h hf' (by omega)
        simpa using this
      intro l
      induction l with
      | nil =>
        intro o ks h _ hl
        simp only [shF] at h
        cases h
        rw [List.drop_of_length_le (by simp at hl; omega)]
        exact trivial
      | cons f r ih =>
        intro o ks h hf hl
        simp only [shF] at h
        split at h
        · rename_i k1 ho hk
          split at h
          · rename_i rest hc hr
            cases h
            have ho := Nat.eq_of_beq_eq_true ho
            have hc := Nat.eq_of_beq_eq_true hc
            obtain ⟨z, hz⟩ := hf 0 f rfl
            rw [ho, hc] at hz
            rw [List.length_append] at hl
            have g1 := all2_more (Nat.le_succ dd) (trod_sh dd hk (by rw [List.length_take, List.length_drop]; omega) hz)
            have g2 := ih (o + k1.length) rest hr (fun i f hi => hf (i + 1) f hi) (by omega)
            have := all2_append g1 g2
            rwa [← List.drop_drop, List.take_append_drop] at this
          · cases h
        · cases h
    · cases h
/-- An argument of many cells. -/
theorem arg_agg {base' : Nat} {t : TypeId} {ks : List Sh} {v : Value} {d : DataW H} {ps : List MemPlace} {fs : Array Field} (dd : Nat) (hu : P.underlying t = some (.struct fs)) (hk : shK P dd t = some ks) (hc : P.cellsOf t = ks.length) (hv : Value.okWide P W .any base' t v) (h : DataW.Trod enc P W base spare held t v d ps) :
    ∃ cs, v = .agg cs ∧ all2 (okS W.heap dd) ks cs.toList := by
  obtain ⟨cs, rfl, hs⟩ := okWide_struct hu hv
  obtain ⟨n, hn⟩ := h
  refine ⟨cs, rfl, trod_sh dd hk (by rw [Array.length_toList, hs, hc]) (by simpa [Value.cells] using hn)⟩
/-- An argument that is a slice. -/
theorem arg_sl {t : TypeId} {ks : List Sh} {a : Option Addr} {len cap : Nat} {d : DataW H} {ps : List MemPlace} (dd : Nat) (hk : shK P dd t = some [.sl ks]) (h : DataW.Trod enc P W base spare held t (.slice a len cap) d ps) :
    okS W.heap dd (.sl ks) (.slice a len cap) := by
  obtain ⟨n, hn⟩ := h
  have := trod_sh (cs := [.slice a len cap]) dd hk rfl (by simpa [Value.cells] using hn)
  exact this.1
end
/-- A slice of whole numbers. -/
theorem okS_ints {hp : Heap} {d : Nat} {k : IntKind} {v : Value} (h : okS hp d (.sl [.i k]) v) : ∃ (A : Option Addr) (n c : Nat) (l : List Int), v = .slice A n c ∧ n ≤ c ∧ c ≤ maxLen ∧ l.length = n ∧ Rd hp A (l.map (Value.int k)) ∧ ∀ x ∈ l, inK k x := by
  cases d with
  | zero => exact h.elim
  | succ d =>
    obtain ⟨A, n, c, rfl, h1, h2, ll, h3, h4, h5⟩ := h
    have key : ∀ ll : List (List Value), (∀ x ∈ ll, all2 (okS hp d) [.i k] x) → ∃ l : List Int, l.length = ll.length ∧ ll.flatten = l.map (Value.int k) ∧ ∀ x ∈ l, inK k x := by
      intro ll
      induction ll with
      | nil => intro _; exact ⟨[], rfl, rfl, by simp⟩
      | cons x r ih =>
        intro hx
        obtain ⟨l, e1, e2, e3⟩ := ih fun y hy => hx y (List.mem_cons_of_mem _ hy)
        obtain ⟨v, rr, rfl, hv, hn⟩ := all2_cons (hx x List.mem_cons_self)
        obtain rfl := all2_nil hn
        cases d with
        | zero => exact hv.elim
        | succ d =>
          obtain ⟨z, rfl, hz⟩ := hv
          exact ⟨z :: l, by simp [e1], by simp [e2], by intro y hy; rcases List.mem_cons.1 hy with rfl | hy; exact hz; exact e3 y hy⟩
    obtain ⟨l, e1, e2, e3⟩ := key ll h5
    exact ⟨A, n, c, l, rfl, h1, h2, by omega, by rw [← e2]; exact h4, e3⟩
theorem okS_bytes {hp : Heap} {d : Nat} {v : Value} (h : okS hp d (.sl [.i .u8]) v) : ∃ (A : Option Addr) (n c : Nat) (l : List UInt8), v = .slice A n c ∧ n ≤ c ∧ c ≤ maxLen ∧ l.length = n ∧ Rd hp A (l.map byteV) := by
  obtain ⟨A, n, c, l, rfl, h1, h2, h3, h4, h5⟩ := okS_ints h
  refine ⟨A, n, c, l.map fun z => UInt8.ofNat z.toNat, rfl, h1, h2, by simpa using h3, ?_⟩
  have e : (l.map fun z => UInt8.ofNat z.toNat).map byteV = l.map (Value.int .u8) := by
    rw [List.map_map]
    refine List.map_congr_left fun z hz => ?_
    have hb := h5 z hz
    simp only [inK] at hb
    simp only [Function.comp, byteV]
    congr 1
    have : (UInt8.ofNat z.toNat).toNat = z.toNat := by simp; omega
    rw [this]; omega
  rw [e]; exact h4
/-- A row of bytes among others. -/
structure BR where
  a : Option Addr
  n : Nat
  c : Nat
  l : List UInt8
@[reducible] def BR.v (b : BR) : Value := .slice b.a b.n b.c
structure BR.ok (hp : Heap) (b : BR) : Prop where
  rd : Rd hp b.a (b.l.map byteV)
  len : b.l.length = b.n
  le : b.n ≤ b.c
  cap : b.c ≤ maxLen
theorem BR.ok.ext {h0 hp : Heap} {b : BR} (h : b.ok h0) (hx : Ext h0 hp) : b.ok hp := ⟨h.rd.ext hx, h.len, h.le, h.cap⟩
theorem okS_rows {hp : Heap} {d : Nat} {v : Value} (h : okS hp d (.sl [.sl [.i .u8]]) v) : ∃ (A : Option Addr) (n c : Nat) (l : List BR), v = .slice A n c ∧ n ≤ c ∧ c ≤ maxLen ∧ l.length = n ∧ Rd hp A (l.map BR.v) ∧ ∀ x ∈ l, x.ok hp := by
  cases d with
  | zero => exact h.elim
  | succ d =>
    obtain ⟨A, n, c, rfl, h1, h2, ll, h3, h4, h5⟩ := h
    have key : ∀ ll : List (List Value), (∀ x ∈ ll, all2 (okS hp d) [.sl [.i .u8]] x) → ∃ l : List BR, l.length = ll.length ∧ ll.flatten = l.map BR.v ∧ ∀ x ∈ l, x.ok hp := by
      intro ll
      induction ll with
      | nil => intro _; exact ⟨[], rfl, rfl, by simp⟩
      | cons x r ih =>
        intro hx
        obtain ⟨l, e1, e2, e3⟩ := ih fun y hy => hx y (List.mem_cons_of_mem _ hy)
        obtain ⟨v, rr, rfl, hv, hn⟩ := all2_cons (hx x List.mem_cons_self)
        obtain rfl := all2_nil hn
        obtain ⟨A, n, c, bl, rfl, g1, g2, g3, g4⟩ := okS_bytes hv
        refine ⟨⟨A, n, c, bl⟩ :: l, by simp [e1], by simp [e2], ?_⟩
        intro y hy
        rcases List.mem_cons.1 hy with rfl | hy
        · exact ⟨g4, g3, g1, g2⟩
        · exact e3 y hy
    obtain ⟨l, e1, e2, e3⟩ := key ll h5
    exact ⟨A, n, c, l, rfl, h1, h2, by omega, by rw [← e2]; exact h4, e3⟩
theorem okS_i {hp : Heap} {d : Nat} {k : IntKind} {v : Value} (h : okS hp d (.i k) v) : ∃ x, v = .int k x ∧ inK k x := by
  cases d with
  | zero => exact h.elim
  | succ d => exact h
theorem okS_b {hp : Heap} {d : Nat} {v : Value} (h : okS hp d .b v) : ∃ x, v = .bool x := by
  cases d with
  | zero => exact h.elim
  | succ d => exact h
theorem okS_str {hp : Heap} {d : Nat} {v : Value} (h : okS hp d .str v) : ∃ s : ByteArray, v = .string s ∧ s.size ≤ maxLen := by
  cases d with
  | zero => exact h.elim
  | succ d => exact h
end Go.Bn
