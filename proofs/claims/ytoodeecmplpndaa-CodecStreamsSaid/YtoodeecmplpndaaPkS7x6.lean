/- Packed texts of a claim: what its theorem uses, joined. -/
import Derived.Test.YtoodeecmplpndaaPkS7x5
section
set_option linter.unusedVariables false
namespace Go.Bn
open Go Go.ChangeShapes Go.WideShapes Go.Deep
inductive Sh where
  | i (k : IntKind)
  | b
  | str
  | sl (ks : List Sh)
def all2 (p : Sh → Value → Prop) : List Sh → List Value → Prop
  | [], [] => True
  | k :: ks, v :: vs => p k v ∧ all2 p ks vs
  | _, _ => False
theorem all2_append {p : Sh → Value → Prop} : ∀ {ks ks' : List Sh} {vs vs' : List Value}, all2 p ks vs → all2 p ks' vs' → all2 p (ks ++ ks') (vs ++ vs')
 | [], _, [], _, _, h => h
 | _ :: ks, _, _ :: vs, _, h, h' => ⟨h.1, all2_append (ks := ks) h.2 h'⟩
 | [], _, _ :: _, _, h, _ => h.elim
 | _ :: _, _, [], _, h, _ => h.elim
theorem all2_cons {p : Sh → Value → Prop} {k : Sh} {ks : List Sh} {l : List Value} (h : all2 p (k :: ks) l) : ∃ v r, l = v :: r ∧ p k v ∧ all2 p ks r := by
 cases l with
 | nil => exact h.elim
 | cons v r => exact ⟨v, r, rfl, h.1, h.2⟩
theorem all2_nil {p : Sh → Value → Prop} {l : List Value} (h : all2 p [] l) : l = [] := by
 cases l with
 | nil => rfl
 | cons v r => exact h.elim
def okS (hp : Heap) : Nat → Sh → Value → Prop
  | 0, _, _ => False
  | _ + 1, .i k, v => ∃ n, v = .int k n ∧ inK k n
  | _ + 1, .b, v => ∃ x, v = .bool x
  | _ + 1, .str, v => ∃ s : ByteArray, v = .string s ∧ s.size ≤ maxLen
  | d + 1, .sl ks, v => ∃ A n c, v = .slice A n c ∧ n ≤ c ∧ c ≤ maxLen ∧ ∃ ll : List (List Value), ll.length = n ∧ Rd hp A ll.flatten ∧ ∀ x ∈ ll, all2 (okS hp d) ks x
def shF (P : Program) (rec : TypeId → Option (List Sh)) : Nat → List Field → Option (List Sh)
  | _, [] => some []
  | o, f :: r => match Nat.beq f.offset o, rec f.type with
    | true, some ks => match Nat.beq (P.cellsOf f.type) ks.length, shF P rec (o + ks.length) r with
      | true, some rest => some (ks ++ rest)
      | _, _ => none
    | _, _ => none
def shK (P : Program) : Nat → TypeId → Option (List Sh)
  | 0, _ => none
  | d + 1, t => match P.underlying t with
    | some (.int k) => some [.i k]
    | some .bool => some [.b]
    | some .string => some [.str]
    | some (.slice e) => match shK P d e with
      | some ks => match Nat.beq (P.cellsOf e) ks.length && Nat.blt 0 ks.length with
        | true => some [.sl ks]
        | false => none
      | none => none
    | some (.struct fs) => shF P (shK P d) 0 fs.toList
    | _ => none
theorem okS_more {hp : Heap} : ∀ (d d' : Nat) {s : Sh} {v : Value}, d ≤ d' → okS hp d s v → okS hp d' s v
 | 0, _, _, _, _, h => h.elim
 | d + 1, 0, _, _, h, _ => by omega
 | d + 1, d' + 1, .i _, _, _, h => h
 | d + 1, d' + 1, .b, _, _, h => h
 | d + 1, d' + 1, .str, _, _, h => h
 | d + 1, d' + 1, .sl ks, v, hd, h => by
  obtain ⟨A, n, c, rfl, h1, h2, ll, h3, h4, h5⟩ := h
  refine ⟨A, n, c, rfl, h1, h2, ll, h3, h4, fun x hx => ?_⟩
  have := h5 x hx
  clear h5 h4 h3
  have key : ∀ (ks : List Sh) (x : List Value), all2 (okS hp d) ks x → all2 (okS hp d') ks x := by
   intro ks
   induction ks with
   | nil =>
    intro x hx
    cases x with
    | nil => trivial
    | cons _ _ => exact hx.elim
   | cons k r ih =>
    intro x hx
    cases x with
    | nil => exact hx
    | cons v vs => exact ⟨okS_more d d' (by omega) hx.1, ih vs hx.2⟩
  exact key ks x this
theorem all2_more {hp : Heap} {d d' : Nat} (h : d ≤ d') : ∀ {ks : List Sh} {x : List Value}, all2 (okS hp d) ks x → all2 (okS hp d') ks x
 | [], [], _ => trivial
 | [], _ :: _, hx => hx.elim
 | _ :: _, [], hx => hx.elim
 | _ :: _, _ :: _, hx => ⟨okS_more d d' h hx.1, all2_more h hx.2⟩
theorem flatten_get {s : Nat} (hs : 0 < s) : ∀ (ll : List (List Value)), (∀ x ∈ ll, x.length = s) → ll.flatten.length = ll.length * s ∧ ∀ k, k < ll.length * s → ll.flatten[k]? = (ll.getD (k / s) [])[k % s]?
 | [], _ => ⟨by simp, fun k hk => by simp at hk⟩
 | x :: r, h => by
  have hx := h x List.mem_cons_self
  obtain ⟨h1, h2⟩ := flatten_get hs r fun y hy => h y (List.mem_cons_of_mem _ hy)
  refine ⟨by simp only [List.flatten_cons, List.length_append, h1, hx, List.length_cons, Nat.add_mul]; omega, fun k hk => ?_⟩
  rw [List.flatten_cons]
  by_cases hk2 : k < s
  ·rw [List.getElem?_append_left (by omega), Nat.div_eq_of_lt hk2, Nat.mod_eq_of_lt hk2]; rfl
  ·rw [List.getElem?_append_right (by omega), hx]
   have hk3 : k - s < r.length * s := by
    rw [List.length_cons, Nat.add_mul] at hk; omega
   rw [h2 _ hk3]
   have e1 : k / s = (k - s) / s + 1 := by rw [Nat.div_eq_sub_div hs (by omega)]
   have e2 : k % s = (k - s) % s := Nat.mod_eq_sub_mod (by omega)
   rw [e1, e2]; rfl
section
variable {H : Type} {enc : TypeId × Value → H} {P : Program} {W : World} {base : Nat} {spare : Nat → Bool} {held : Bool}
theorem trod_sh : ∀ (dd : Nat) {t : TypeId} {ks : List Sh} {n : Nat} {cs : List Value} {y : DataW H × List MemPlace}, shK P dd t = some ks → cs.length = ks.length → DataW.trod enc P W base spare held n t cs = some y → all2 (okS W.heap dd) ks cs
 | 0, _, _, _, _, _, h, _, _ => by simp [shK] at h
 | dd + 1, t, ks, n, cs, y, h, hl, ht => by
  unfold shK at h
  split at h
  ·rename_i k hu
   cases h
   obtain ⟨m, rfl, _, hw⟩ := DataW.trod_int hu ht
   exact ⟨⟨m, rfl, wf_in hw⟩, trivial⟩
  ·rename_i hu
   cases h
   obtain ⟨b, rfl, _⟩ := DataW.trod_bool hu ht
   exact ⟨⟨b, rfl⟩, trivial⟩
  ·rename_i hu
   cases h
   obtain ⟨b, rfl, _, hm⟩ := DataW.trod_string hu ht
   exact ⟨⟨b, rfl, hm⟩, trivial⟩
  ·rename_i e hu
   split at h
   ·rename_i ks' hk
    split at h
    ·rename_i hb
     cases h
     have hb1 : P.cellsOf e = ks'.length := Nat.eq_of_beq_eq_true (by simp only [Bool.and_eq_true] at hb; exact hb.1)
     have hb2 : 0 < ks'.length := by simp only [Bool.and_eq_true, Nat.blt_eq] at hb; exact hb.2
     rcases open_slice hu ht with ⟨hcs, _⟩ | ⟨x, len, cap, m, n', D, Pl, hcs, _, hle, hm, hmm, _, hx⟩
     ·subst hcs
      exact ⟨⟨none, 0, 0, rfl, Nat.le_refl _, by simp [maxLen], [], rfl, .inl rfl, by simp⟩, trivial⟩
     ·subst hcs
      refine ⟨?_, trivial⟩
      have hlm : len ≤ m := by rw [hmm]; split <;> omega
      have each : ∀ i, i < len → ∃ z : List Value, z.length = ks'.length ∧ (∀ j, j < ks'.length → W.cell? (x.add (i * ks'.length + j)) = z[j]?) ∧ all2 (okS W.heap dd) ks' z := by
       intro i hi
       obtain ⟨cs', h1, h2⟩ := hx i (by omega)
       rw [hb1] at h1
       obtain ⟨_, hlen, hcell⟩ := World.cells?_some h1
       exact ⟨cs', hlen, fun j hj => by rw [← hcell j hj, Deep.add_add], trod_sh dd hk hlen h2⟩
      obtain ⟨X, hX⟩ := Deep.choose_lt each
      refine ⟨some x, len, cap, rfl, hle, hm, (List.range len).map X, by simp, rd_of_cells fun k u hk => ?_, ?_⟩
      ·obtain ⟨f1, f2⟩ := flatten_get hb2 ((List.range len).map X) (by
        intro z hz; obtain ⟨i, hi, rfl⟩ := List.mem_map.1 hz; exact (hX i (List.mem_range.1 hi)).1)
       have hk2 : k < len * ks'.length := by
        have := (List.getElem?_eq_some_iff.1 hk).1
        rwa [f1, List.length_map, List.length_range] at this
       have hi : k / ks'.length < len := Nat.div_lt_of_lt_mul (by rwa [Nat.mul_comm] at hk2)
       have hj : k % ks'.length < ks'.length := Nat.mod_lt _ hb2
       have hkk : k / ks'.length * ks'.length + k % ks'.length = k := by rw [Nat.mul_comm]; exact Nat.div_add_mod k _
       have h3 := f2 k (by simpa using hk2)
       have h4 := (hX (k / ks'.length) hi).2.1 (k % ks'.length) hj
       rw [hkk] at h4
       rw [h4, ← hk, h3]
       simp [List.getD, hi]
      ·intro z hz
       obtain ⟨i, hi, rfl⟩ := List.mem_map.1 hz
       exact (hX i (List.mem_range.1 hi)).2.2
    ·cases h
   ·cases h
  ·rename_i fs hu
   obtain ⟨xs, m, _, _, hlen, hxl, hf⟩ := DataW.trod_struct hu ht
   have hf' : ∀ (i : Nat) (f : Field), fs.toList[i]? = some f → ∃ z, DataW.trod enc P W base spare held m f.type ((cs.drop f.offset).take (P.cellsOf f.type)) = some z := by
    intro i f hi
    have hlt := (List.getElem?_eq_some_iff.1 hi).1
    have h1 := hf i f (by simpa using hi)
    rw [List.getElem?_eq_getElem (show i < xs.length by rw [hxl]; simpa using hlt)] at h1
    exact ⟨_, h1⟩
   clear hf hxl ht hu
   generalize fs.toList = l at h hf'
   suffices key : ∀ (l : List Field) (o : Nat) (ks : List Sh), shF P (shK P dd) o l = some ks → (∀ (i : Nat) (f : Field), l[i]? = some f → ∃ z, DataW.trod enc P W base spare held m f.type ((cs.drop f.offset).take (P.cellsOf f.type)) = some z) → cs.length = o + ks.length → all2 (okS W.heap (dd + 1)) ks (cs.drop o) by
    have := key l 0 ks h hf' (by omega)
    simpa using this
   intro l
   induction l with
   | nil =>
    intro o ks h _ hl
    simp only [shF] at h
    cases h
    rw [List.drop_of_length_le (by simp at hl; omega)]
    exact trivial
   | cons f r ih =>
    intro o ks h hf hl
    simp only [shF] at h
    split at h
    ·rename_i k1 ho hk
     split at h
     ·rename_i rest hc hr
      cases h
      have ho := Nat.eq_of_beq_eq_true ho
      have hc := Nat.eq_of_beq_eq_true hc
      obtain ⟨z, hz⟩ := hf 0 f rfl
      rw [ho, hc] at hz
      rw [List.length_append] at hl
      have g1 := all2_more (Nat.le_succ dd) (trod_sh dd hk (by rw [List.length_take, List.length_drop]; omega) hz)
      have g2 := ih (o + k1.length) rest hr (fun i f hi => hf (i + 1) f hi) (by omega)
      have := all2_append g1 g2
      rwa [← List.drop_drop, List.take_append_drop] at this
     ·cases h
    ·cases h
  ·cases h
theorem arg_sl {t : TypeId} {ks : List Sh} {a : Option Addr} {len cap : Nat} {d : DataW H} {ps : List MemPlace} (dd : Nat) (hk : shK P dd t = some [.sl ks]) (h : DataW.Trod enc P W base spare held t (.slice a len cap) d ps) :
  okS W.heap dd (.sl ks) (.slice a len cap) := by
 obtain ⟨n, hn⟩ := h
 have := trod_sh (cs := [.slice a len cap]) dd hk rfl (by simpa [Value.cells] using hn)
 exact this.1
end
theorem okS_ints {hp : Heap} {d : Nat} {k : IntKind} {v : Value} (h : okS hp d (.sl [.i k]) v) : ∃ (A : Option Addr) (n c : Nat) (l : List Int), v = .slice A n c ∧ n ≤ c ∧ c ≤ maxLen ∧ l.length = n ∧ Rd hp A (l.map (Value.int k)) ∧ ∀ x ∈ l, inK k x := by
 cases d with
 | zero => exact h.elim
 | succ d =>
  obtain ⟨A, n, c, rfl, h1, h2, ll, h3, h4, h5⟩ := h
  have key : ∀ ll : List (List Value), (∀ x ∈ ll, all2 (okS hp d) [.i k] x) → ∃ l : List Int, l.length = ll.length ∧ ll.flatten = l.map (Value.int k) ∧ ∀ x ∈ l, inK k x := by
   intro ll
   induction ll with
   | nil => intro _; exact ⟨[], rfl, rfl, by simp⟩
   | cons x r ih =>
    intro hx
    obtain ⟨l, e1, e2, e3⟩ := ih fun y hy => hx y (List.mem_cons_of_mem _ hy)
    obtain ⟨v, rr, rfl, hv, hn⟩ := all2_cons (hx x List.mem_cons_self)
    obtain rfl := all2_nil hn
    cases d with
    | zero => exact hv.elim
    | succ d =>
     obtain ⟨z, rfl, hz⟩ := hv
     exact ⟨z :: l, by simp [e1], by simp [e2], by intro y hy; rcases List.mem_cons.1 hy with rfl | hy; exact hz; exact e3 y hy⟩
  obtain ⟨l, e1, e2, e3⟩ := key ll h5
  exact ⟨A, n, c, l, rfl, h1, h2, by omega, by rw [← e2]; exact h4, e3⟩
theorem okS_bytes {hp : Heap} {d : Nat} {v : Value} (h : okS hp d (.sl [.i .u8]) v) : ∃ (A : Option Addr) (n c : Nat) (l : List UInt8), v = .slice A n c ∧ n ≤ c ∧ c ≤ maxLen ∧ l.length = n ∧ Rd hp A (l.map byteV) := by
 obtain ⟨A, n, c, l, rfl, h1, h2, h3, h4, h5⟩ := okS_ints h
 refine ⟨A, n, c, l.map fun z => UInt8.ofNat z.toNat, rfl, h1, h2, by simpa using h3, ?_⟩
 have e : (l.map fun z => UInt8.ofNat z.toNat).map byteV = l.map (Value.int .u8) := by
  rw [List.map_map]
  refine List.map_congr_left fun z hz => ?_
  have hb := h5 z hz
  simp only [inK] at hb
  simp only [Function.comp, byteV]
  congr 1
  have : (UInt8.ofNat z.toNat).toNat = z.toNat := by simp; omega
  rw [this]; omega
 rw [e]; exact h4
structure BR where
  a : Option Addr
  n : Nat
  c : Nat
  l : List UInt8
@[reducible] def BR.v (b : BR) : Value := .slice b.a b.n b.c
structure BR.ok (hp : Heap) (b : BR) : Prop where
  rd : Rd hp b.a (b.l.map byteV)
  len : b.l.length = b.n
  le : b.n ≤ b.c
  cap : b.c ≤ maxLen
theorem BR.ok.ext {h0 hp : Heap} {b : BR} (h : b.ok h0) (hx : Ext h0 hp) : b.ok hp := ⟨h.rd.ext hx, h.len, h.le, h.cap⟩
theorem okS_rows {hp : Heap} {d : Nat} {v : Value} (h : okS hp d (.sl [.sl [.i .u8]]) v) : ∃ (A : Option Addr) (n c : Nat) (l : List BR), v = .slice A n c ∧ n ≤ c ∧ c ≤ maxLen ∧ l.length = n ∧ Rd hp A (l.map BR.v) ∧ ∀ x ∈ l, x.ok hp := by
 cases d with
 | zero => exact h.elim
 | succ d =>
  obtain ⟨A, n, c, rfl, h1, h2, ll, h3, h4, h5⟩ := h
  have key : ∀ ll : List (List Value), (∀ x ∈ ll, all2 (okS hp d) [.sl [.i .u8]] x) → ∃ l : List BR, l.length = ll.length ∧ ll.flatten = l.map BR.v ∧ ∀ x ∈ l, x.ok hp := by
   intro ll
   induction ll with
   | nil => intro _; exact ⟨[], rfl, rfl, by simp⟩
   | cons x r ih =>
    intro hx
    obtain ⟨l, e1, e2, e3⟩ := ih fun y hy => hx y (List.mem_cons_of_mem _ hy)
    obtain ⟨v, rr, rfl, hv, hn⟩ := all2_cons (hx x List.mem_cons_self)
    obtain rfl := all2_nil hn
    obtain ⟨A, n, c, bl, rfl, g1, g2, g3, g4⟩ := okS_bytes hv
    refine ⟨⟨A, n, c, bl⟩ :: l, by simp [e1], by simp [e2], ?_⟩
    intro y hy
    rcases List.mem_cons.1 hy with rfl | hy
    ·exact ⟨g4, g3, g1, g2⟩
    ·exact e3 y hy
  obtain ⟨l, e1, e2, e3⟩ := key ll h5
  exact ⟨A, n, c, l, rfl, h1, h2, by omega, by rw [← e2]; exact h4, e3⟩
end Go.Bn
end

section
set_option linter.unusedSimpArgs false
set_option linter.unusedVariables false
namespace Go.Bn
open Go
def fitsV : Sh → Value → Bool
  | .i k, .int k' _ => decide (k = k')
  | .b, .bool _ => true
  | .str, .string _ => true
  | _, _ => false
def fitsL : List Sh → List Value → Bool
  | [], [] => true
  | k :: ks, v :: vs => fitsV k v && fitsL ks vs
  | _, _ => false
def eqv : Value → Value → Bool
  | .int _ a, .int _ b => a == b
  | .bool a, .bool b => a == b
  | .string a, .string b => a.toList == b.toList
  | _, _ => false
def eqL : List Value → List Value → Bool
  | [], [] => true
  | a :: l, b :: m => eqv a b && eqL l m
  | _, _ => false
def isSome? {α : Type} : Option α → Bool
  | some _ => true
  | none => false
def eqKF (P : Program) (rec : TypeId → Option (List Sh)) : Nat → List Field → Option (List Sh)
  | _, [] => some []
  | o, f :: r => match Nat.beq f.offset o && (f.name != "_"), rec f.type with
    | true, some ks => match (match single P f.type with | true => Nat.beq ks.length 1 | false => (match aggN P f.type with | some n => Nat.beq n ks.length | none => false)), eqKF P rec (o + ks.length) r with
      | true, some rest => some (ks ++ rest)
      | _, _ => none
    | _, _ => none
def eqK (P : Program) : Nat → TypeId → Option (List Sh)
  | 0, _ => none
  | d + 1, t => match P.underlying t with
    | some (.int k) => some [.i k]
    | some .bool => some [.b]
    | some .string => some [.str]
    | some (.struct fs) => match P.stoodInHeld t with
      | true => none
      | false => eqKF P (eqK P d) 0 fs.toList
    | _ => none
theorem fitsL_split : ∀ {ks ks' : List Sh} {l : List Value}, fitsL (ks ++ ks') l = true → fitsL ks (l.take ks.length) = true ∧ fitsL ks' (l.drop ks.length) = true
 | [], ks', l, h => ⟨by simp [fitsL], by simpa using h⟩
 | k :: ks, ks', [], h => by simp [fitsL] at h
 | k :: ks, ks', v :: l, h => by
  simp only [List.cons_append, fitsL, Bool.and_eq_true] at h
  obtain ⟨h1, h2⟩ := fitsL_split h.2
  simp [fitsL, h.1, h1, h2]
theorem fitsL_len : ∀ {ks : List Sh} {l : List Value}, fitsL ks l = true → l.length = ks.length
 | [], [], _ => rfl
 | [], _ :: _, h => by simp [fitsL] at h
 | _ :: _, [], h => by simp [fitsL] at h
 | _ :: ks, _ :: l, h => by
  simp only [fitsL, Bool.and_eq_true] at h
  simp [fitsL_len h.2]
theorem eqL_split : ∀ (n : Nat) {l m : List Value}, l.length = m.length → eqL l m = (eqL (l.take n) (m.take n) && eqL (l.drop n) (m.drop n))
 | 0, l, m, _ => by simp [eqL]
 | n + 1, [], [], _ => by simp [eqL]
 | n + 1, [], _ :: _, h => by simp at h
 | n + 1, _ :: _, [], h => by simp at h
 | n + 1, a :: l, b :: m, h => by
  simp only [List.take_succ_cons, List.drop_succ_cons, eqL]
  rw [eqL_split n (by simpa using h), Bool.and_assoc]
theorem part_one {P : Program} {t : TypeId} {xs : List Value} {o : Nat} {v : Value} {r : List Value} (h : single P t = true) (hx : xs.drop o = v :: r) (w : World) : (part t xs.toArray o).run P w = .ok v w := by
 have e : xs[o]? = some v := by
  have := congrArg (·[0]?) hx
  simpa using this
 simp [part, run_isAgg_single h, e]
theorem part_agg {P : Program} {t : TypeId} {xs : List Value} {o n : Nat} (h : aggN P t = some n) (w : World) : (part t xs.toArray o).run P w = .ok (.agg ((xs.drop o).take n).toArray) w := by
 have e : xs.toArray.extract o (o + n) = ((xs.drop o).take n).toArray := by
  apply Array.ext'
  simp [List.take_drop]
 simp [part, run_isAgg_agg h, run_sizeOf_agg h, e]
theorem run_eq_flat {P : Program} : ∀ (dd d : Nat) {t : TypeId} {ks : List Sh}, eqK P dd t = some ks → dd ≤ d →
  (∀ (x y : Value) (w : World), single P t = true → fitsL ks [x] = true → fitsL ks [y] = true → (Op.equalIn d t x y).run P w = .ok (eqv x y) w) ∧
  (∀ (xs ys : List Value) (w : World), isSome? (aggN P t) = true → fitsL ks xs = true → fitsL ks ys = true → (Op.equalIn d t (.agg xs.toArray) (.agg ys.toArray)).run P w = .ok (eqL xs ys) w)
 | 0, _, _, _, h, _ => by simp [eqK] at h
 | dd + 1, 0, _, _, _, h => by omega
 | dd + 1, d + 1, t, ks, h, hd => by
  unfold eqK at h
  split at h
  ·rename_i k hu
   cases h
   refine ⟨fun x y w _ hx hy => ?_, fun xs ys w ha => ?_⟩
   ·cases x <;> simp [fitsL, fitsV] at hx
    cases y <;> simp [fitsL, fitsV] at hy
    subst hx hy
    rw [run_equalIn_int w d t _ _ _ _ hu]; rfl
   ·rw [aggN, hu] at ha; cases ha
  ·rename_i hu
   cases h
   refine ⟨fun x y w _ hx hy => ?_, fun xs ys w ha => ?_⟩
   ·cases x <;> simp [fitsL, fitsV] at hx
    cases y <;> simp [fitsL, fitsV] at hy
    rw [run_equalIn_bool' w d t _ _ hu]; rfl
   ·rw [aggN, hu] at ha; cases ha
  ·rename_i hu
   cases h
   refine ⟨fun x y w _ hx hy => ?_, fun xs ys w ha => ?_⟩
   ·cases x <;> simp [fitsL, fitsV] at hx
    cases y <;> simp [fitsL, fitsV] at hy
    rw [run_equalIn_string w d t _ _ hu]; rfl
   ·rw [aggN, hu] at ha; cases ha
  ·rename_i fs hu
   split at h
   ·cases h
   ·rename_i hst
    have hfo : P.fieldsOf t = fs := by simp [Program.fieldsOf, hu]
    have hu' : P.underlying t = some (.struct (P.fieldsOf t)) := by rw [hfo]; exact hu
    refine ⟨fun x y w hs => ?_, fun xs ys w _ hx hy => ?_⟩
    ·rw [single, hu] at hs; cases hs
    ·rw [run_equalIn_agg w d t _ _ hu' hst, hfo]
     have hlen : xs.length = ys.length := by rw [fitsL_len hx, fitsL_len hy]
     suffices key : ∀ (l : List Field) (o : Nat) (ks : List Sh), eqKF P (eqK P dd) o l = some ks → fitsL ks (xs.drop o) = true → fitsL ks (ys.drop o) = true → (Op.eqFields d xs.toArray ys.toArray l).run P w = .ok (eqL (xs.drop o) (ys.drop o)) w by
      have := key fs.toList 0 ks h (by simpa using hx) (by simpa using hy)
      simpa using this
     intro l
     induction l with
     | nil =>
      intro o ks h hx hy
      simp only [eqKF, Option.some.injEq] at h
      subst h
      have e1 := List.eq_nil_of_length_eq_zero (fitsL_len hx)
      have e2 := List.eq_nil_of_length_eq_zero (fitsL_len hy)
      rw [e1, e2]; simp [Op.eqFields, eqL]
     | cons f r ih =>
      intro o ks h hx hy
      simp only [eqKF] at h
      split at h
      ·rename_i k1 hon hk
       simp only [Bool.and_eq_true, bne_iff_ne] at hon
       have ho := Nat.eq_of_beq_eq_true hon.1
       split at h
       ·rename_i rest hc hr
        cases h
        obtain ⟨x1, x2⟩ := fitsL_split hx
        obtain ⟨y1, y2⟩ := fitsL_split hy
        rw [List.drop_drop] at x2 y2
        have ihh := ih (o + k1.length) rest hr x2 y2
        obtain ⟨g1, g2⟩ := run_eq_flat dd d hk (by omega)
        simp only [Op.eqFields, hon.2, ne_eq, not_false_eq_true, if_true, Sem.run_bind, ho]
        have hrec : ∃ a b, (part f.type xs.toArray o).run P w = .ok a w ∧ (part f.type ys.toArray o).run P w = .ok b w ∧ (Op.equalIn d f.type a b).run P w = .ok (eqL ((xs.drop o).take k1.length) ((ys.drop o).take k1.length)) w := by
         cases hsg : single P f.type with
         | true =>
          rw [hsg] at hc
          have h1 : k1.length = 1 := Nat.eq_of_beq_eq_true hc
          obtain ⟨x, rx, ex⟩ : ∃ x rx, xs.drop o = x :: rx := by
           cases he : xs.drop o with
           | nil => rw [he] at x1; have := fitsL_len x1; simp at this; omega
           | cons x rx => exact ⟨x, rx, rfl⟩
          obtain ⟨y, ry, ey⟩ : ∃ y ry, ys.drop o = y :: ry := by
           cases he : ys.drop o with
           | nil => rw [he] at y1; have := fitsL_len y1; simp at this; omega
           | cons y ry => exact ⟨y, ry, rfl⟩
          rw [ex, h1] at x1
          rw [ey, h1] at y1
          refine ⟨x, y, part_one hsg ex w, part_one hsg ey w, ?_⟩
          rw [ex, ey, h1, g1 x y w hsg (by simpa using x1) (by simpa using y1)]
          simp [eqL]
         | false =>
          rw [hsg] at hc
          cases hag : aggN P f.type with
          | none => rw [hag] at hc; simp at hc
          | some n =>
           rw [hag] at hc
           have hn : n = k1.length := Nat.eq_of_beq_eq_true hc
           subst hn
           exact ⟨_, _, part_agg hag w, part_agg hag w, g2 _ _ w (by rw [hag]; rfl) x1 y1⟩
        obtain ⟨a, b, ha, hb, hab⟩ := hrec
        rw [ha]
        simp only [Result.andThen_ok, hb, hab]
        rw [eqL_split k1.length (l := xs.drop o) (m := ys.drop o) (by rw [List.length_drop, List.length_drop, hlen]), List.drop_drop, List.drop_drop]
        cases eqL ((xs.drop o).take k1.length) ((ys.drop o).take k1.length) with
        | true => simpa using ihh
        | false => simp
       ·cases h
      ·cases h
  ·cases h
theorem eq_flat {P : Program} {t : TypeId} {ks : List Sh} {xs ys : List Value} (hk : eqK P 9 t = some ks) (ha : isSome? (aggN P t) = true) (hx : fitsL ks xs = true) (hy : fitsL ks ys = true) (w : World) :
  (binOp .eql t (.agg xs.toArray) (.agg ys.toArray)).run P w = .ok (.bool (eqL xs ys)) w := by
 rw [run_eql_struct, (run_eq_flat 9 10000 hk (by omega)).2 xs ys w ha hx hy]; rfl
theorem neq_flat {P : Program} {t : TypeId} {ks : List Sh} {xs ys : List Value} (hk : eqK P 9 t = some ks) (ha : isSome? (aggN P t) = true) (hx : fitsL ks xs = true) (hy : fitsL ks ys = true) (w : World) :
  (binOp .neq t (.agg xs.toArray) (.agg ys.toArray)).run P w = .ok (.bool (!eqL xs ys)) w := run_neq_of_eql (eq_flat hk ha hx hy w)
end Go.Bn
end

section
set_option linter.unusedVariables false
set_option linter.unusedSimpArgs false
set_option maxHeartbeats 4000000
set_option maxRecDepth 20000
namespace Go.Bn
open Go Proofs
theorem bounds_spec (s : Nat) (h0 : Heap) : Ret Try.prog 89 [nV s] h0 fun v h' => v = retVal [nV (rL s), nV (rH s), nV (rW s)] ∧ h0 = h' := by
 refine ret_of_X Try.func89 rfl rfl fun w0 hw0 => ?_
 simp only [argE, Nat.zero_add, Nat.reduceAdd]
 refine X_seq (X_reg (XA rfl rfl rfl (XA rfl rfl rfl (XA rfl rfl rfl (XR_nil (X_seq (X_seq (X_reg (XV rfl rfl rfl ?_)))))))))
 refine XR_nil (X_block (X_seq (X_reg ?_)))
 refine XR_a (op_eql rfl rfl) rfl rfl ?_
 refine XA rfl rfl rfl (XR_nil ?_)
 refine X_if rfl (fun h => ?_) (fun h => ?_)
 ·refine X_seq (X_reg (XA rfl rfl rfl (XA rfl rfl rfl (XA rfl rfl rfl (XR_nil ?_)))))
  refine X_ret (.cons (.tmp rfl) (.cons (.tmp rfl) (.cons (.tmp rfl) .nil))) ?_
  obtain rfl : s = 16 := by omega
  exact ⟨rfl, rfl⟩
 ·refine X_seq (X_reg ?_)
  refine XR_a (op_eql rfl rfl) rfl rfl ?_
  refine XA rfl rfl rfl (XR_nil ?_)
  refine X_if rfl (fun h => ?_) (fun h => ?_)
  ·refine X_seq (X_reg (XA rfl rfl rfl (XA rfl rfl rfl (XA rfl rfl rfl (XR_nil ?_)))))
   refine X_ret (.cons (.tmp rfl) (.cons (.tmp rfl) (.cons (.tmp rfl) .nil))) ?_
   obtain rfl : s = 17 := by omega
   exact ⟨rfl, rfl⟩
  ·refine X_seq (X_reg ?_)
   refine XR_a (op_eql rfl rfl) rfl rfl ?_
   refine XA rfl rfl rfl (XR_nil ?_)
   refine X_if rfl (fun h => ?_) (fun h => ?_)
   ·refine X_seq (X_reg (XA rfl rfl rfl (XA rfl rfl rfl (XA rfl rfl rfl (XR_nil ?_)))))
    refine X_ret (.cons (.tmp rfl) (.cons (.tmp rfl) (.cons (.tmp rfl) .nil))) ?_
    obtain rfl : s = 18 := by omega
    exact ⟨rfl, rfl⟩
   ·refine X_skip (X_blk (X_seq (X_reg (XA rfl rfl rfl (XA rfl rfl rfl (XA rfl rfl rfl (XR_nil ?_)))))))
    refine X_ret (.cons (.tmp rfl) (.cons (.tmp rfl) (.cons (.tmp rfl) .nil))) ?_
    unfold rL rH rW
    simp only [if_neg (show ¬ s = 16 by omega), if_neg (show ¬ s = 17 by omega), if_neg (show ¬ s = 18 by omega)]
    exact ⟨rfl, trivial⟩
theorem extra_ref (s : Nat) (h0 : Heap) : Ret Try.prog 74 [nV s] h0 fun v h' => v = retVal [nV (rW s), nV (rL s)] ∧ h0 = h' := by
 refine ret_of_X Try.func74 rfl rfl fun w0 hw0 => ?_
 simp only [argE, Nat.zero_add, Nat.reduceAdd]
 refine X_seq (X_reg (XA rfl rfl rfl (XA rfl rfl rfl (XR_nil (X_seq (X_seq (X_reg (XV rfl rfl rfl (XR_nil ?_)))))))))
 refine X_block (X_seq (X_reg ?_))
 refine XR_a (op_eql rfl rfl) rfl rfl ?_
 refine XA rfl rfl rfl (XR_nil ?_)
 refine X_if rfl (fun h => ?_) (fun h => ?_)
 ·refine X_seq (X_reg (XA rfl rfl rfl (XA rfl rfl rfl (XR_nil ?_))))
  refine X_ret (.cons (.tmp rfl) (.cons (.tmp rfl) .nil)) ?_
  obtain rfl : s = 16 := by omega
  exact ⟨rfl, rfl⟩
 ·refine X_seq (X_reg ?_)
  refine XR_a (op_eql rfl rfl) rfl rfl ?_
  refine XA rfl rfl rfl (XR_nil ?_)
  refine X_if rfl (fun h => ?_) (fun h => ?_)
  ·refine X_seq (X_reg (XA rfl rfl rfl (XA rfl rfl rfl (XR_nil ?_))))
   refine X_ret (.cons (.tmp rfl) (.cons (.tmp rfl) .nil)) ?_
   obtain rfl : s = 17 := by omega
   exact ⟨rfl, rfl⟩
  ·refine X_seq (X_reg ?_)
   refine XR_a (op_eql rfl rfl) rfl rfl ?_
   refine XA rfl rfl rfl (XR_nil ?_)
   refine X_if rfl (fun h => ?_) (fun h => ?_)
   ·refine X_seq (X_reg (XA rfl rfl rfl (XA rfl rfl rfl (XR_nil ?_))))
    refine X_ret (.cons (.tmp rfl) (.cons (.tmp rfl) .nil)) ?_
    obtain rfl : s = 18 := by omega
    exact ⟨rfl, rfl⟩
   ·refine X_skip (X_blk (X_seq (X_reg (XA rfl rfl rfl (XA rfl rfl rfl (XR_nil ?_))))))
    refine X_ret (.cons (.tmp rfl) (.cons (.tmp rfl) .nil)) ?_
    unfold rL rW
    simp only [if_neg (show ¬ s = 16 by omega), if_neg (show ¬ s = 17 by omega), if_neg (show ¬ s = 18 by omega)]
    exact ⟨rfl, trivial⟩
@[reducible] def uV (x : Nat) : Value := .int .u64 (x : Int)
theorem uV_eq {x y : Nat} (h : x = y) : uV x = uV y := by rw [h]
theorem mul64_spec (m : Nat) (h0 : Heap) (hm : m < 4294967296) : Ret Try.prog 140 [uV 1, uV m] h0 fun v h' => v = retVal [uV 0, uV m] ∧ h0 = h' := by
 refine ret_of_X Try.func140 rfl rfl fun w0 hw0 => ?_
 simp only [argE, Nat.zero_add, Nat.reduceAdd]
 refine X_seq (X_reg (XA rfl rfl rfl (XA rfl rfl rfl (XR_nil (X_seq (X_reg (XV rfl rfl rfl ?_)))))))
 first | refine XR_a (op_andN (n := 4294967295) rfl rfl rfl (by simp only [IntKind.bits]; omega) (by simp only [IntKind.bits]; omega)) rfl rfl ?_ | refine XR_a (op_and rfl rfl) rfl rfl ?_
 refine XR_as (uV 1) rfl ?_
 refine XA rfl rfl rfl (XR_nil (X_seq (X_reg (XV rfl rfl rfl ?_))))
 first | refine XR_a (op_shrC 32 rfl rfl (by decide)) rfl rfl ?_ | refine XR_a (op_shrN 32 rfl rfl (by decide)) rfl rfl ?_
 refine XR_as (uV 0) rfl ?_
 refine XA rfl rfl rfl (XR_nil (X_seq (X_reg (XV rfl rfl rfl ?_))))
 refine XR_a (op_andN (m := m) (n := 4294967295) rfl rfl rfl (by simp only [IntKind.bits]; omega) (by simp only [IntKind.bits]; omega)) rfl rfl ?_
 refine XR_as (uV m) (uV_eq (by rw [show 4294967295 = 2 ^ 32 - 1 from rfl, Nat.and_two_pow_sub_one_eq_mod]; omega)) ?_
 refine XA rfl rfl rfl (XR_nil (X_seq (X_reg (XV rfl rfl rfl ?_))))
 first | refine XR_a (op_shrC 32 rfl rfl (by decide)) rfl rfl ?_ | refine XR_a (op_shrN 32 rfl rfl (by decide)) rfl rfl ?_
 refine XR_as (uV 0) (uV_eq (Nat.div_eq_of_lt (by omega))) ?_
 refine XA rfl rfl rfl (XR_nil (X_seq (X_reg (XV rfl rfl rfl (XV rfl rfl rfl ?_)))))
 first | refine XR_a (op_mulN rfl rfl (by simp only [inK]; omega)) rfl rfl ?_ | refine XR_a (op_mulI rfl rfl (by simp only [inK]; omega)) rfl rfl ?_ | refine XR_a (op_mul rfl rfl) rfl rfl ?_
 refine XR_as (uV m) (uV_eq (by omega)) ?_
 refine XA rfl rfl rfl (XR_nil (X_seq (X_reg (XV rfl rfl rfl (XV rfl rfl rfl ?_)))))
 first | refine XR_a (op_mulN rfl rfl (by simp only [inK]; omega)) rfl rfl ?_ | refine XR_a (op_mulI rfl rfl (by simp only [inK]; omega)) rfl rfl ?_ | refine XR_a (op_mul rfl rfl) rfl rfl ?_
 refine XR_as (uV 0) (uV_eq (by omega)) ?_
 refine XV rfl rfl rfl ?_
 first | refine XR_a (op_shrC 32 rfl rfl (by decide)) rfl rfl ?_ | refine XR_a (op_shrN 32 rfl rfl (by decide)) rfl rfl ?_
 refine XR_as (uV 0) (uV_eq (Nat.div_eq_of_lt (by omega))) ?_
 first | refine XR_a (op_addN rfl rfl (by simp only [inK]; omega)) rfl rfl ?_ | refine XR_a (op_addI rfl rfl (by simp only [inK]; omega)) rfl rfl ?_ | refine XR_a (op_add rfl rfl) rfl rfl ?_
 refine XR_as (uV 0) rfl ?_
 refine XA rfl rfl rfl (XR_nil (X_seq (X_reg (XV rfl rfl rfl ?_))))
 first | refine XR_a (op_andN (n := 4294967295) rfl rfl rfl (by simp only [IntKind.bits]; omega) (by simp only [IntKind.bits]; omega)) rfl rfl ?_ | refine XR_a (op_and rfl rfl) rfl rfl ?_
 refine XR_as (uV 0) rfl ?_
 refine XA rfl rfl rfl (XR_nil (X_seq (X_reg (XV rfl rfl rfl ?_))))
 first | refine XR_a (op_shrC 32 rfl rfl (by decide)) rfl rfl ?_ | refine XR_a (op_shrN 32 rfl rfl (by decide)) rfl rfl ?_
 refine XR_as (uV 0) rfl ?_
 refine XA rfl rfl rfl (XR_nil (X_seq (X_reg (XV rfl rfl rfl (XV rfl rfl rfl (XV rfl rfl rfl ?_))))))
 first | refine XR_a (op_mulN rfl rfl (by simp only [inK]; omega)) rfl rfl ?_ | refine XR_a (op_mulI rfl rfl (by simp only [inK]; omega)) rfl rfl ?_ | refine XR_a (op_mul rfl rfl) rfl rfl ?_
 refine XR_as (uV 0) rfl ?_
 first | refine XR_a (op_addN rfl rfl (by simp only [inK]; omega)) rfl rfl ?_ | refine XR_a (op_addI rfl rfl (by simp only [inK]; omega)) rfl rfl ?_ | refine XR_a (op_add rfl rfl) rfl rfl ?_
 refine XR_as (uV 0) rfl ?_
 refine XA rfl rfl rfl (XR_nil (X_seq (X_reg (XV rfl rfl rfl (XV rfl rfl rfl ?_)))))
 first | refine XR_a (op_mulN rfl rfl (by simp only [inK]; omega)) rfl rfl ?_ | refine XR_a (op_mulI rfl rfl (by simp only [inK]; omega)) rfl rfl ?_ | refine XR_a (op_mul rfl rfl) rfl rfl ?_
 refine XR_as (uV 0) rfl ?_
 refine XV rfl rfl rfl ?_
 first | refine XR_a (op_addN rfl rfl (by simp only [inK]; omega)) rfl rfl ?_ | refine XR_a (op_addI rfl rfl (by simp only [inK]; omega)) rfl rfl ?_ | refine XR_a (op_add rfl rfl) rfl rfl ?_
 refine XR_as (uV 0) rfl ?_
 refine XV rfl rfl rfl ?_
 first | refine XR_a (op_shrC 32 rfl rfl (by decide)) rfl rfl ?_ | refine XR_a (op_shrN 32 rfl rfl (by decide)) rfl rfl ?_
 refine XR_as (uV 0) rfl ?_
 first | refine XR_a (op_addN rfl rfl (by simp only [inK]; omega)) rfl rfl ?_ | refine XR_a (op_addI rfl rfl (by simp only [inK]; omega)) rfl rfl ?_ | refine XR_a (op_add rfl rfl) rfl rfl ?_
 refine XR_as (uV 0) rfl ?_
 refine XA rfl rfl rfl (XR_nil (X_seq (X_reg (XV rfl rfl rfl (XV rfl rfl rfl ?_)))))
 first | refine XR_a (op_mulN rfl rfl (by simp only [inK]; omega)) rfl rfl ?_ | refine XR_a (op_mulI rfl rfl (by simp only [inK]; omega)) rfl rfl ?_ | refine XR_a (op_mul rfl rfl) rfl rfl ?_
 refine XR_as (uV m) (uV_eq (by omega)) ?_
 refine XA rfl rfl rfl (XR_nil ?_)
 refine X_ret (.cons (.tmp rfl) (.cons (.tmp rfl) .nil)) ?_
 exact ⟨rfl, rfl⟩
theorem mul_spec (m : Nat) (h0 : Heap) (hm : m < 4294967296) : Ret Try.prog 135 [uV 1, uV m] h0 fun v h' => v = retVal [uV 0, uV m] ∧ h0 = h' := by
 refine ret_of_X Try.func135 rfl rfl fun w0 hw0 => ?_
 simp only [argE, Nat.zero_add, Nat.reduceAdd]
 refine X_seq (X_reg (XA rfl rfl rfl (XA rfl rfl rfl (XR_nil (X_seq (X_else rfl (X_skip (X_seq (X_reg ?_)))))))))
 refine XV rfl rfl rfl (XV rfl rfl rfl ?_)
 refine XR_wa (opl_call (mul64_spec m _ hm) rfl (by kernel_rfl)) rfl rfl rfl ?_
 rintro _ _ ⟨rfl, rfl⟩
 refine XV rfl rfl rfl (XR_a (op_extract rfl rfl) rfl rfl (XR_a (op_extract rfl rfl) rfl rfl (XA rfl rfl rfl (XA rfl rfl rfl (XR_nil (X_seq (X_reg (XV rfl rfl rfl (XV rfl rfl rfl ?_)))))))))
 refine XA rfl rfl rfl (XA rfl rfl rfl (XR_nil ?_))
 refine X_ret (.cons (.tmp rfl) (.cons (.tmp rfl) .nil)) ?_
 exact ⟨rfl, rfl⟩
theorem rep_copy {x k m : Nat} (h1 : k ≤ m) : (((List.replicate k x ++ List.replicate (m - k) 0).map nV).take k ++ ((List.replicate k x).map nV).take (min k (m - k) * 1) ++ ((List.replicate k x ++ List.replicate (m - k) 0).map nV).drop (k + min k (m - k) * 1)) = (List.replicate (k + min k (m - k)) x ++ List.replicate (m - (k + min k (m - k))) 0).map nV := by
 rw [Nat.mul_one, ← List.map_take, ← List.map_take, ← List.map_drop, ← List.map_append, ← List.map_append]
 congr 1
 rw [List.take_append_of_le_length (by simp), List.take_of_length_le (by simp), List.take_replicate, List.drop_append, List.drop_of_length_le (by rw [List.length_replicate]; omega), List.nil_append, List.drop_replicate, List.length_replicate]
 rw [Nat.min_eq_left (Nat.min_le_left _ _), ← List.replicate_append_replicate]
 congr 2
 omega
theorem repeat_spec {c x m : Nat} {A : Option Addr} {h0 : Heap} (hr : Rd h0 A [nV x]) (hm1 : 1 ≤ m) (hm : m ≤ 65536) :
  Ret Try.prog 120 [.slice A 1 c, nV m] h0 fun v h' => St h0.size h0 h' [row 3 1 v ((List.replicate m x).map nV)] := by
 refine ret_of_X Try.func120 rfl rfl fun w0 hw0 => ?_
 simp only [argE, Nat.zero_add, Nat.reduceAdd]
 have st := St.start h0
 refine X_seq (X_reg (XA rfl rfl rfl (XR_nil (X_seq (X_seq (X_reg (XV rfl rfl rfl ?_)))))))
 refine XR_a (op_lss rfl rfl) rfl rfl ?_
 refine XR_nil ?_
 refine X_if rfl (fun h => ?_) (fun h => ?_)
 ·exact absurd h (by omega)
 ·refine X_skip (X_seq (X_reg (XV rfl rfl rfl ?_)))
  refine XR_a (op_len rfl rfl rfl) rfl rfl ?_
  first | refine XR_a (op_convI rfl rfl (by simp only [inK]; omega)) rfl rfl ?_ | refine XR_a (op_convU rfl rfl rfl) rfl rfl ?_ | refine XR_a (op_conv rfl rfl) rfl rfl ?_
  refine XV rfl rfl rfl ?_
  first | refine XR_a (op_convI rfl rfl (by simp only [inK]; omega)) rfl rfl ?_ | refine XR_a (op_convU rfl rfl rfl) rfl rfl ?_ | refine XR_a (op_conv rfl rfl) rfl rfl ?_
  refine XR_wa (opl_call (mul_spec m _ (by omega)) rfl (by kernel_rfl)) rfl rfl rfl ?_
  rintro _ _ ⟨rfl, rfl⟩
  refine XV rfl rfl rfl (XR_a (op_extract rfl rfl) rfl rfl (XR_a (op_extract rfl rfl) rfl rfl (XA rfl rfl rfl (XA rfl rfl rfl (XR_nil (X_seq (X_seq (X_reg (XV rfl rfl rfl ?_)))))))))
  refine XR_a (op_gtr rfl rfl) rfl rfl ?_
  refine XV rfl rfl rfl (XV rfl rfl rfl ?_)
  refine XR_a (op_gtr rfl rfl) rfl rfl ?_
  refine XR_a (op_pick_f rfl rfl) rfl rfl (XR_nil ?_)
  refine X_if rfl (fun h => ?_) (fun h => ?_)
  ·exact absurd h (by omega)
  ·refine X_skip (X_seq (X_reg (XV rfl rfl rfl ?_)))
   refine XR_a (op_convI (k' := .i64) rfl rfl (by simp only [inK]; omega)) rfl rfl ?_
   refine XR_wa (opl_mk (by omega) rfl rfl rfl) rfl rfl rfl ?_
   rintro v hp hnew
   have st := st.new hnew
   obtain ⟨g, n9, c9, rfl, hl9, hnc9, _⟩ := st.row0 0 rfl (by rw [List.length_replicate]; omega)
   rw [List.length_replicate, Nat.mul_one] at hl9
   obtain rfl : m = n9 := hl9
   refine XA rfl rfl rfl (XR_nil (X_seq (X_reg (XV rfl rfl rfl (XV rfl rfl rfl ?_)))))
   refine XR_wa (opl_copy (n' := m) (c' := c9) (m := 1) st 0 rfl (hr.ext st.low) rfl (by intro u hu; rw [List.mem_singleton.1 hu]; rfl) (by rw [List.length_replicate]; omega) rfl rfl rfl rfl) rfl rfl rfl ?_
   rintro _ hp ⟨rfl, st⟩
   simp only [List.set_cons_zero] at st
   have e0 : (List.replicate m (Value.int .i64 0)).take 0 ++ [nV x].take (min 1 m * 1) ++ (List.replicate m (Value.int .i64 0)).drop (0 + min 1 m * 1) = (List.replicate 1 x ++ List.replicate (m - 1) 0).map nV := by
    rw [Nat.min_eq_left hm1]
    simp [List.drop_replicate]
   rw [e0] at st
   rw [Nat.min_eq_left hm1]
   refine XA rfl rfl rfl (XR_nil (X_seq (X_block ?_)))
   refine X_loop (fun k => m - k) (fun k => [(7, .slice (some ⟨g, 0, none⟩) m c9), (8, nV k)])
    (fun (k : Nat) hp => 1 ≤ k ∧ k ≤ m ∧ St h0.size h0 hp [row 3 1 (.slice (some ⟨g, 0, none⟩) m c9) ((List.replicate k x ++ List.replicate (m - k) 0).map nV)])
    1 (.cons rfl (.cons rfl (.nil _))) ⟨Nat.le_refl _, hm1, st⟩ ?_
   clear st
   rintro k hp ⟨hk1, hk, st⟩
   refine X_seq (X_seq (X_reg (XV rfl rfl rfl (XV rfl rfl rfl ?_))))
   refine XR_a (op_len rfl rfl rfl) rfl rfl ?_
   refine XR_a (op_lss rfl rfl) rfl rfl ?_
   refine XR_nil ?_
   refine X_if rfl (fun h => ?_) (fun h => ?_)
   ·refine X_skip (X_block ?_)
    refine X_draw byKind (by kernel_rfl) (by kernel_rfl) ?_
    refine XV rfl rfl rfl (XV rfl rfl rfl (XV rfl rfl rfl ?_))
    refine XR_a (op_slice_l rfl rfl rfl (by omega) (by omega)) rfl rfl ?_
    rw [cutA_some (by omega), Nat.mul_one]
    refine XV rfl rfl rfl (XV rfl rfl rfl ?_)
    refine XR_a (op_slice_h rfl rfl rfl (by omega)) rfl rfl ?_
    rw [cutA_zero]
    refine XR_wa (opl_copy (o := k) (n' := m - k) (m := k) (news := (List.replicate k x).map nV) st 0 rfl (by have := (st.rdS 0 rfl).2.take k; rwa [← List.map_take, List.take_append_of_le_length (by simp), List.take_of_length_le (by simp)] at this) (by simp) (one_nV _) (by simp; omega) rfl rfl rfl rfl) rfl rfl rfl ?_
    rintro _ hp ⟨rfl, st⟩
    simp only [List.set_cons_zero] at st
    rw [rep_copy hk] at st
    first | refine XR_a (op_addN rfl rfl (by simp only [inK]; omega)) rfl rfl ?_ | refine XR_a (op_addI rfl rfl (by simp only [inK]; omega)) rfl rfl ?_ | refine XR_a (op_add rfl rfl) rfl rfl ?_
    refine XA rfl rfl rfl (XR_nil (X_blk ?_))
    exact X_again (k + min k (m - k)) (.cons rfl (.cons rfl (.nil _))) ⟨by omega, by omega, st⟩ (by omega)
   ·refine X_exit rfl (X_seq (X_reg (XV rfl rfl rfl (XA rfl rfl rfl (XR_nil ?_)))))
    refine X_ret (.cons (.tmp rfl) .nil) ?_
    obtain rfl : k = m := by omega
    rw [Nat.sub_self, List.replicate_zero, List.append_nil] at st
    exact st
theorem add_spec {B s m : Nat} {v : Value} {l : List Nat} {F : List Res} {h0 : Heap} (st : St B h0 h0 (Bn.row 3 1 v (l.map nV) :: F)) (hs : s < 19) (hm1 : rL s ≤ m) (hm2 : m ≤ rH s) (hl : l.length ≤ 65536) :
  Ret Try.prog 92 [v, .agg #[nV s, nV m]] h0 fun u h' => (s = 16 ∧ l.length = 0 ∧ u = retVal [.slice none 0 0, nV 3] ∧ St B h0 h' F) ∨ (¬ (s = 16 ∧ l.length = 0) ∧ ∃ w, u = retVal [w, nV 0] ∧ St B h0 h' (Bn.row 3 1 w ((rAdd l s m).map nV) :: F)) := by
 have hrh := rH_le s
 have hrp := rL_pos s
 obtain ⟨A, n, c, rfl, hln, _, _, hrd⟩ := st.row 0 rfl
 rw [List.length_map, Nat.mul_one] at hln
 refine ret_of_X Try.func92 rfl rfl fun w0 hw0 => ?_
 simp only [argE, Nat.zero_add, Nat.reduceAdd]
 refine X_seq (X_reg ?_)
 refine XR_wa (opl_bx (cs := [nV s, nV m]) rfl rfl) rfl rfl rfl ?_
 rintro _ hp ⟨p, rfl, hnew⟩
 replace st := st.new hnew
 refine XA rfl rfl rfl (XA rfl rfl rfl (XR_nil (X_seq (X_reg ?_))))
 first | refine XR_a (op_field0 rfl rfl) rfl rfl ?_ | refine XR_a (op_fieldn rfl rfl) rfl rfl ?_
 refine XR_a (op_ld (st.cell 0 (i := 0) rfl rfl) rfl rfl rfl) rfl rfl ?_
 refine XR_wa (opl_call (bounds_spec s _) rfl (by kernel_rfl)) rfl rfl rfl ?_
 rintro _ _ ⟨rfl, rfl⟩
 refine XV rfl rfl rfl (XR_a (op_extract rfl rfl) rfl rfl (XR_a (op_extract rfl rfl) rfl rfl (XR_a (op_extract rfl rfl) rfl rfl (XA rfl rfl rfl (XA rfl rfl rfl (XA rfl rfl rfl (XR_nil (X_seq (X_seq ?_)))))))))
 refine X_reg ?_
 first | refine XR_a (op_field0 rfl rfl) rfl rfl ?_ | refine XR_a (op_fieldn rfl rfl) rfl rfl ?_
 refine XR_a (op_ld (st.cell 0 (i := 0) rfl rfl) rfl rfl rfl) rfl rfl ?_
 refine XR_a (op_lss rfl rfl) rfl rfl ?_
 refine XR_as (.bool false) (congrArg Value.bool (decide_eq_false (by omega))) ?_
 refine XV rfl rfl rfl ?_
 first | refine XR_a (op_field0 rfl rfl) rfl rfl ?_ | refine XR_a (op_fieldn rfl rfl) rfl rfl ?_
 refine XR_a (op_ld (st.cell 0 (i := 0) rfl rfl) rfl rfl rfl) rfl rfl ?_
 refine XR_a (op_geq rfl rfl) rfl rfl ?_
 refine XR_as (.bool false) (congrArg Value.bool (decide_eq_false (by omega))) ?_
 refine XR_a (op_pick_f rfl rfl) rfl rfl (XV rfl rfl rfl ?_)
 first | refine XR_a (op_field0 rfl rfl) rfl rfl ?_ | refine XR_a (op_fieldn rfl rfl) rfl rfl ?_
 refine XR_a (op_ld (st.cell 0 (i := 1) rfl rfl) rfl rfl rfl) rfl rfl ?_
 refine XV rfl rfl rfl ?_
 refine XR_a (op_lss rfl rfl) rfl rfl ?_
 refine XR_as (.bool false) (congrArg Value.bool (decide_eq_false (by omega))) ?_
 refine XR_a (op_pick_f rfl rfl) rfl rfl (XV rfl rfl rfl ?_)
 first | refine XR_a (op_field0 rfl rfl) rfl rfl ?_ | refine XR_a (op_fieldn rfl rfl) rfl rfl ?_
 refine XR_a (op_ld (st.cell 0 (i := 1) rfl rfl) rfl rfl rfl) rfl rfl ?_
 refine XV rfl rfl rfl ?_
 refine XR_a (op_gtr rfl rfl) rfl rfl ?_
 refine XR_as (.bool false) (congrArg Value.bool (decide_eq_false (by omega))) ?_
 refine XR_a (op_pick_f rfl rfl) rfl rfl (XV rfl rfl rfl ?_)
 first | refine XR_a (op_field0 rfl rfl) rfl rfl ?_ | refine XR_a (op_fieldn rfl rfl) rfl rfl ?_
 refine XR_a (op_ld (st.cell 0 (i := 0) rfl rfl) rfl rfl rfl) rfl rfl ?_
 refine XR_a (op_eql rfl rfl) rfl rfl ?_
 refine XV rfl rfl rfl ?_
 refine XR_if 41 rfl (fun h => ?_) (fun h => ?_)
 ·have h41 := h
  refine XV rfl rfl rfl ?_
  refine XR_a (op_len rfl rfl rfl) rfl rfl ?_
  refine XR_a (op_eql rfl rfl) rfl rfl ?_
  refine XR_a (op_pick_t rfl rfl) rfl rfl (XR_a (op_pick_f rfl rfl) rfl rfl (XR_nil ?_))
  refine X_if rfl (fun h => ?_) (fun h => ?_)
  ·refine X_seq (X_reg (XA rfl rfl rfl (XA rfl rfl rfl (XR_nil ?_))))
   refine X_ret (.cons (.tmp rfl) (.cons (.tmp rfl) .nil)) ?_
   exact .inl ⟨by omega, by omega, rfl, st.tail.tail⟩
  ·refine X_skip (X_seq (X_reg ?_))
   first | refine XR_a (op_field0 rfl rfl) rfl rfl ?_ | refine XR_a (op_fieldn rfl rfl) rfl rfl ?_
   refine XR_a (op_ld (st.cell 0 (i := 0) rfl rfl) rfl rfl rfl) rfl rfl ?_
   refine XA rfl rfl rfl (XR_nil (X_seq (X_block (X_seq (X_reg (XV rfl rfl rfl ?_))))))
   refine XR_a (op_eql rfl rfl) rfl rfl ?_
   refine XA rfl rfl rfl (XR_nil ?_)
   refine X_if rfl (fun h => ?_) (fun h => ?_)
   ·have hv : rV l s = l.getD (n - 1) 0 := by unfold rV; rw [if_pos (by omega), hln]
    have hn1 : 1 ≤ n := by omega
    obtain ⟨g, o, rfl, hc⟩ := (st.rdS 1 rfl).2.at_ (by rw [List.length_map]; omega)
    have hlast := hc (n - 1) (nV (rV l s)) (by rw [hv, List.getElem?_map, List.getElem?_eq_getElem (by omega), getD_get (by omega)]; rfl)
    refine X_reg (XV rfl rfl rfl (XV rfl rfl rfl ?_))
    refine XR_a (op_len rfl rfl rfl) rfl rfl ?_
    first | refine XR_a (op_subN (n := 1) rfl rfl (by omega) (by simp only [inK]; omega)) rfl rfl ?_ | refine XR_a (op_subI rfl rfl (by simp only [inK]; omega)) rfl rfl ?_ | refine XR_a (op_sub rfl rfl) rfl rfl ?_
    refine XR_a (op_index1 (i := n - 1) rfl rfl rfl (by omega)) rfl rfl ?_
    refine XR_a (op_ld (hlast) rfl rfl rfl) rfl rfl ?_
    refine XA rfl rfl rfl (XR_nil (X_blk (X_seq (X_reg (XV rfl rfl rfl (XV rfl rfl rfl ?_))))))
    refine XR_wa (opl_lit1 rfl rfl rfl) rfl rfl rfl ?_
    rintro v7 hp hnew
    replace st := st.new hnew
    obtain ⟨A7, n7, c7, rfl, hl7, _, _, hrd7⟩ := st.row 0 rfl
    obtain rfl : n7 = 1 := by simpa using hl7.symm
    first | refine XR_a (op_field0 rfl rfl) rfl rfl ?_ | refine XR_a (op_fieldn rfl rfl) rfl rfl ?_
    refine XR_a (op_ld (st.cell 1 (i := 1) rfl rfl) rfl rfl rfl) rfl rfl ?_
    refine XR_wa (opl_call (repeat_spec (x := rV l s) hrd7 (by omega) (by omega)) rfl (by kernel_rfl)) rfl rfl rfl ?_
    rintro v8 hp8 st8
    obtain ⟨A8, n8, c8, rfl, hl8, _, _, hrd8⟩ := st8.row 0 rfl
    rw [List.length_map, List.length_replicate, Nat.mul_one] at hl8
    replace st := st.join st8
    simp only [List.cons_append, List.nil_append] at st
    refine XR_wa (opl_append st 3 rfl (hrd8) (by rw [List.length_map, List.length_replicate]; omega) (one_nV _) (by simp; omega) rfl rfl rfl rfl rfl rfl rfl) rfl rfl rfl fun v hp st => ?_
    simp only [List.set_cons_zero, List.set_cons_succ] at st
    rw [← List.map_append] at st
    refine XA rfl rfl rfl (XA rfl rfl rfl (XR_nil ?_))
    refine X_ret (.cons (.tmp rfl) (.cons (.tmp rfl) .nil)) ?_
    exact .inr ⟨by omega, _, rfl, st.tail.tail.tail⟩
   ·refine X_seq (X_reg (XV rfl rfl rfl ?_))
    refine XR_a (op_gtr rfl rfl) rfl rfl ?_
    refine XA rfl rfl rfl (XR_nil ?_)
    refine X_if rfl (fun h => ?_) (fun h => ?_)
    ·have hv : rV l s = 0 := by unfold rV; rw [if_neg (by omega), if_pos (by omega)]
     refine X_reg (XA rfl rfl rfl (XR_nil (X_blk (X_seq (X_reg (XV rfl rfl rfl (XV rfl rfl rfl ?_)))))))
     refine XR_wa (opl_lit1 rfl rfl rfl) rfl rfl rfl ?_
     rintro v7 hp hnew
     replace st := st.new hnew
     obtain ⟨A7, n7, c7, rfl, hl7, _, _, hrd7⟩ := st.row 0 rfl
     obtain rfl : n7 = 1 := by simpa using hl7.symm
     first | refine XR_a (op_field0 rfl rfl) rfl rfl ?_ | refine XR_a (op_fieldn rfl rfl) rfl rfl ?_
     refine XR_a (op_ld (st.cell 1 (i := 1) rfl rfl) rfl rfl rfl) rfl rfl ?_
     refine XR_wa (opl_call (repeat_spec (x := 0) hrd7 (by omega) (by omega)) rfl (by kernel_rfl)) rfl rfl rfl ?_
     rintro v8 hp8 st8
     rw [← hv] at st8
     obtain ⟨A8, n8, c8, rfl, hl8, _, _, hrd8⟩ := st8.row 0 rfl
     rw [List.length_map, List.length_replicate, Nat.mul_one] at hl8
     replace st := st.join st8
     simp only [List.cons_append, List.nil_append] at st
     refine XR_wa (opl_append st 3 rfl (hrd8) (by rw [List.length_map, List.length_replicate]; omega) (one_nV _) (by simp; omega) rfl rfl rfl rfl rfl rfl rfl) rfl rfl rfl fun v hp st => ?_
     simp only [List.set_cons_zero, List.set_cons_succ] at st
     rw [← List.map_append] at st
     refine XA rfl rfl rfl (XA rfl rfl rfl (XR_nil ?_))
     refine X_ret (.cons (.tmp rfl) (.cons (.tmp rfl) .nil)) ?_
     exact .inr ⟨by omega, _, rfl, st.tail.tail.tail⟩
    ·have hv : rV l s = s := by unfold rV; rw [if_neg (by omega), if_neg (by omega)]
     refine X_skip (X_blk (X_seq (X_reg (XV rfl rfl rfl (XV rfl rfl rfl ?_)))))
     refine XR_wa (opl_lit1 rfl rfl rfl) rfl rfl rfl ?_
     rintro v7 hp hnew
     replace st := st.new hnew
     obtain ⟨A7, n7, c7, rfl, hl7, _, _, hrd7⟩ := st.row 0 rfl
     obtain rfl : n7 = 1 := by simpa using hl7.symm
     first | refine XR_a (op_field0 rfl rfl) rfl rfl ?_ | refine XR_a (op_fieldn rfl rfl) rfl rfl ?_
     refine XR_a (op_ld (st.cell 1 (i := 1) rfl rfl) rfl rfl rfl) rfl rfl ?_
     refine XR_wa (opl_call (repeat_spec (x := s) hrd7 (by omega) (by omega)) rfl (by kernel_rfl)) rfl rfl rfl ?_
     rintro v8 hp8 st8
     have hv2 : List.replicate m s = List.replicate m (rV l s) := by rw [hv]
     rw [hv2] at st8
     have st8' := st8
     obtain ⟨A8, n8, c8, rfl, hl8, _, _, hrd8⟩ := st8'.row 0 rfl
     rw [List.length_map, List.length_replicate, Nat.mul_one] at hl8
     replace st := st.join st8'
     simp only [List.cons_append, List.nil_append] at st
     refine XR_wa (opl_append st 3 rfl (hrd8) (by rw [List.length_map, List.length_replicate]; omega) (one_nV _) (by simp; omega) rfl rfl rfl rfl rfl rfl rfl) rfl rfl rfl fun v hp st => ?_
     simp only [List.set_cons_zero, List.set_cons_succ] at st
     rw [← List.map_append] at st
     refine XA rfl rfl rfl (XA rfl rfl rfl (XR_nil ?_))
     refine X_ret (.cons (.tmp rfl) (.cons (.tmp rfl) .nil)) ?_
     exact .inr ⟨by omega, _, rfl, st.tail.tail.tail⟩
 ·have h41 := h
  refine XR_no rfl rfl (XR_no rfl rfl (XR_no rfl rfl (XR_a (op_pick_f rfl rfl) rfl rfl (XR_a (op_pick_f rfl rfl) rfl rfl (XR_nil (X_else rfl (X_skip (X_seq (X_reg ?_)))))))))
  first | refine XR_a (op_field0 rfl rfl) rfl rfl ?_ | refine XR_a (op_fieldn rfl rfl) rfl rfl ?_
  refine XR_a (op_ld (st.cell 0 (i := 0) rfl rfl) rfl rfl rfl) rfl rfl ?_
  refine XA rfl rfl rfl (XR_nil (X_seq (X_block (X_seq (X_reg (XV rfl rfl rfl ?_))))))
  refine XR_a (op_eql rfl rfl) rfl rfl ?_
  refine XA rfl rfl rfl (XR_nil ?_)
  refine X_if rfl (fun h => ?_) (fun h => ?_)
  ·have hv : rV l s = l.getD (n - 1) 0 := by unfold rV; rw [if_pos (by omega), hln]
   have hn1 : 1 ≤ n := by omega
   obtain ⟨g, o, rfl, hc⟩ := (st.rdS 1 rfl).2.at_ (by rw [List.length_map]; omega)
   have hlast := hc (n - 1) (nV (rV l s)) (by rw [hv, List.getElem?_map, List.getElem?_eq_getElem (by omega), getD_get (by omega)]; rfl)
   refine X_reg (XV rfl rfl rfl (XV rfl rfl rfl ?_))
   refine XR_a (op_len rfl rfl rfl) rfl rfl ?_
   first | refine XR_a (op_subN (n := 1) rfl rfl (by omega) (by simp only [inK]; omega)) rfl rfl ?_ | refine XR_a (op_subI rfl rfl (by simp only [inK]; omega)) rfl rfl ?_ | refine XR_a (op_sub rfl rfl) rfl rfl ?_
   refine XR_a (op_index1 (i := n - 1) rfl rfl rfl (by omega)) rfl rfl ?_
   refine XR_a (op_ld (hlast) rfl rfl rfl) rfl rfl ?_
   refine XA rfl rfl rfl (XR_nil (X_blk (X_seq (X_reg (XV rfl rfl rfl (XV rfl rfl rfl ?_))))))
   refine XR_wa (opl_lit1 rfl rfl rfl) rfl rfl rfl ?_
   rintro v7 hp hnew
   replace st := st.new hnew
   obtain ⟨A7, n7, c7, rfl, hl7, _, _, hrd7⟩ := st.row 0 rfl
   obtain rfl : n7 = 1 := by simpa using hl7.symm
   first | refine XR_a (op_field0 rfl rfl) rfl rfl ?_ | refine XR_a (op_fieldn rfl rfl) rfl rfl ?_
   refine XR_a (op_ld (st.cell 1 (i := 1) rfl rfl) rfl rfl rfl) rfl rfl ?_
   refine XR_wa (opl_call (repeat_spec (x := rV l s) hrd7 (by omega) (by omega)) rfl (by kernel_rfl)) rfl rfl rfl ?_
   rintro v8 hp8 st8
   obtain ⟨A8, n8, c8, rfl, hl8, _, _, hrd8⟩ := st8.row 0 rfl
   rw [List.length_map, List.length_replicate, Nat.mul_one] at hl8
   replace st := st.join st8
   simp only [List.cons_append, List.nil_append] at st
   refine XR_wa (opl_append st 3 rfl (hrd8) (by rw [List.length_map, List.length_replicate]; omega) (one_nV _) (by simp; omega) rfl rfl rfl rfl rfl rfl rfl) rfl rfl rfl fun v hp st => ?_
   simp only [List.set_cons_zero, List.set_cons_succ] at st
   rw [← List.map_append] at st
   refine XA rfl rfl rfl (XA rfl rfl rfl (XR_nil ?_))
   refine X_ret (.cons (.tmp rfl) (.cons (.tmp rfl) .nil)) ?_
   exact .inr ⟨by omega, _, rfl, st.tail.tail.tail⟩
  ·refine X_seq (X_reg (XV rfl rfl rfl ?_))
   refine XR_a (op_gtr rfl rfl) rfl rfl ?_
   refine XA rfl rfl rfl (XR_nil ?_)
   refine X_if rfl (fun h => ?_) (fun h => ?_)
   ·have hv : rV l s = 0 := by unfold rV; rw [if_neg (by omega), if_pos (by omega)]
    refine X_reg (XA rfl rfl rfl (XR_nil (X_blk (X_seq (X_reg (XV rfl rfl rfl (XV rfl rfl rfl ?_)))))))
    refine XR_wa (opl_lit1 rfl rfl rfl) rfl rfl rfl ?_
    rintro v7 hp hnew
    replace st := st.new hnew
    obtain ⟨A7, n7, c7, rfl, hl7, _, _, hrd7⟩ := st.row 0 rfl
    obtain rfl : n7 = 1 := by simpa using hl7.symm
    first | refine XR_a (op_field0 rfl rfl) rfl rfl ?_ | refine XR_a (op_fieldn rfl rfl) rfl rfl ?_
    refine XR_a (op_ld (st.cell 1 (i := 1) rfl rfl) rfl rfl rfl) rfl rfl ?_
    refine XR_wa (opl_call (repeat_spec (x := 0) hrd7 (by omega) (by omega)) rfl (by kernel_rfl)) rfl rfl rfl ?_
    rintro v8 hp8 st8
    rw [← hv] at st8
    obtain ⟨A8, n8, c8, rfl, hl8, _, _, hrd8⟩ := st8.row 0 rfl
    rw [List.length_map, List.length_replicate, Nat.mul_one] at hl8
    replace st := st.join st8
    simp only [List.cons_append, List.nil_append] at st
    refine XR_wa (opl_append st 3 rfl (hrd8) (by rw [List.length_map, List.length_replicate]; omega) (one_nV _) (by simp; omega) rfl rfl rfl rfl rfl rfl rfl) rfl rfl rfl fun v hp st => ?_
    simp only [List.set_cons_zero, List.set_cons_succ] at st
    rw [← List.map_append] at st
    refine XA rfl rfl rfl (XA rfl rfl rfl (XR_nil ?_))
    refine X_ret (.cons (.tmp rfl) (.cons (.tmp rfl) .nil)) ?_
    exact .inr ⟨by omega, _, rfl, st.tail.tail.tail⟩
   ·have hv : rV l s = s := by unfold rV; rw [if_neg (by omega), if_neg (by omega)]
    refine X_skip (X_blk (X_seq (X_reg (XV rfl rfl rfl (XV rfl rfl rfl ?_)))))
    refine XR_wa (opl_lit1 rfl rfl rfl) rfl rfl rfl ?_
    rintro v7 hp hnew
    replace st := st.new hnew
    obtain ⟨A7, n7, c7, rfl, hl7, _, _, hrd7⟩ := st.row 0 rfl
    obtain rfl : n7 = 1 := by simpa using hl7.symm
    first | refine XR_a (op_field0 rfl rfl) rfl rfl ?_ | refine XR_a (op_fieldn rfl rfl) rfl rfl ?_
    refine XR_a (op_ld (st.cell 1 (i := 1) rfl rfl) rfl rfl rfl) rfl rfl ?_
    refine XR_wa (opl_call (repeat_spec (x := s) hrd7 (by omega) (by omega)) rfl (by kernel_rfl)) rfl rfl rfl ?_
    rintro v8 hp8 st8
    have hv2 : List.replicate m s = List.replicate m (rV l s) := by rw [hv]
    rw [hv2] at st8
    have st8' := st8
    obtain ⟨A8, n8, c8, rfl, hl8, _, _, hrd8⟩ := st8'.row 0 rfl
    rw [List.length_map, List.length_replicate, Nat.mul_one] at hl8
    replace st := st.join st8'
    simp only [List.cons_append, List.nil_append] at st
    refine XR_wa (opl_append st 3 rfl (hrd8) (by rw [List.length_map, List.length_replicate]; omega) (one_nV _) (by simp; omega) rfl rfl rfl rfl rfl rfl rfl) rfl rfl rfl fun v hp st => ?_
    simp only [List.set_cons_zero, List.set_cons_succ] at st
    rw [← List.map_append] at st
    refine XA rfl rfl rfl (XA rfl rfl rfl (XR_nil ?_))
    refine X_ret (.cons (.tmp rfl) (.cons (.tmp rfl) .nil)) ?_
    exact .inr ⟨by omega, _, rfl, st.tail.tail.tail⟩
end Go.Bn
end

section
set_option linter.unusedVariables false
set_option linter.unusedSimpArgs false
set_option maxHeartbeats 4000000
set_option maxRecDepth 20000
namespace Go.Bn
open Go Proofs
theorem wd_nat {n : Nat} (h : n ≤ 32) : wd 32 ((n : Nat) : Int) = n := by unfold wd; omega
theorem St.re3 {B : Nat} {h0 hp : Heap} {a b c : Res} {F : List Res} (s : St B h0 hp (a :: b :: c :: F)) : St B h0 hp (b :: c :: a :: F) := s.perm ((List.Perm.swap _ _ _).trans ((List.Perm.swap _ _ _).cons _))
theorem St.re3' {B : Nat} {h0 hp : Heap} {a b c : Res} {F : List Res} (s : St B h0 hp (b :: c :: a :: F)) : St B h0 hp (b :: c :: F) := (s.perm (((List.Perm.swap _ _ _).cons _).trans (List.Perm.swap _ _ _))).tail
def okR (bs : List Bool) (a : Nat) : Bool := decide (rightC ((lens19 bs (a + 9) 19).map fun n : Nat => (n : Int)))
theorem cast_toNat (ls : List Nat) : (ls.map fun n : Nat => (n : Int)).map Int.toNat = ls := by
 rw [List.map_map]
 conv => rhs; rw [← List.map_id ls]
 exact List.map_congr_left fun x _ => by simp
theorem head_spec {B q m c a : Nat} {A : Option Addr} {l : List UInt8} {F : List Res} {h0 : Heap} (st : St B h0 h0 (rdG q A m c a :: F)) (hrB : ∀ h', Low B h0 h' → Rd h' A (l.map byteV)) (hl : l.length = m) (hm : m ≤ 1073741824) (ha : a ≤ 8 * m) :
  Ret Try.prog 90 [.pointer (some ⟨q, 0, none⟩)] h0 fun v h' => ∃ n' w a', v = retVal [n', w, nV (headE (bitsB l) a (okR (bitsB l) a))] ∧ a' ≤ 8 * m ∧
   (headE (bitsB l) a (okR (bitsB l) a) = 0 → n' = nV (numB (bitsB l) a 9) ∧ a + 85 ≤ 8 * m ∧ lensOK (lens19 (bitsB l) (a + 9) 19) ∧ ∃ p, w = .pointer (some ⟨p, 0, none⟩) ∧ St B h0 h' (codeR p (lens19 (bitsB l) (a + 9) 19) :: rdG q A m c (a + 85) :: F)) ∧
   (headE (bitsB l) a (okR (bitsB l) a) ≠ 0 → St B h0 h' (rdG q A m c a' :: F)) := by
 have hbl : (bitsB l).length = 8 * m := by rw [bitsB_length, hl]
 have hH : headE (bitsB l) a (okR (bitsB l) a) = if (bitsB l).length < a + 9 then 2 else if numB (bitsB l) a 9 < 1 ∨ 320 < numB (bitsB l) a 9 then 5 else if (bitsB l).length < a + 85 then 2 else if okR (bitsB l) a = true then 0 else 13 := rfl
 have hn9 := numB_lt (bitsB l) a 9
 have hn4 := fun i => numB_lt (bitsB l) (a + 9 + 4 * i) 4
 have hok : okR (bitsB l) a = decide (rightC ((lens19 (bitsB l) (a + 9) 19).map fun n : Nat => (n : Int))) := rfl
 obtain ⟨bs, hbs⟩ : ∃ bs, bitsB l = bs := ⟨_, rfl⟩
 simp only [hbs] at hbl hH hn9 hn4 hok ⊢
 obtain ⟨e, he⟩ : ∃ e, headE bs a (okR bs a) = e := ⟨_, rfl⟩
 rw [he] at hH ⊢
 refine ret_of_X Try.func90 rfl rfl fun w0 hw0 => ?_
 simp only [argE, Nat.zero_add, Nat.reduceAdd]
 refine X_seq (X_reg (XA rfl rfl rfl ?_))
 by_cases h9 : 9 ≤ 8 * m - a
 ·refine XA rfl rfl rfl (XA rfl rfl rfl (XR_nil (X_seq (X_reg (XV rfl rfl rfl ?_)))))
  refine XR_wa (opl_call (rtake_spec (k := 9) st (hrB _ st.low) hl (by omega) ha) rfl (by kernel_rfl)) rfl rfl rfl ?_
  rintro _ hp ⟨rfl, st1⟩
  rw [show wd 32 9 = 9 from rfl, if_pos h9] at st1
  rw [show wd 32 9 = 9 from rfl, hbs, if_pos h9, decide_eq_true h9]
  refine XV rfl rfl rfl (XR_a (op_extract rfl rfl) rfl rfl (XR_a (op_extract rfl rfl) rfl rfl (XA rfl rfl rfl (XA rfl rfl rfl (XR_nil (X_seq (X_seq (X_reg (XV rfl rfl rfl ?_)))))))))
  refine XR_a (op_not rfl) rfl rfl ?_
  refine XR_nil (X_else rfl (X_skip (X_seq (X_seq (X_reg (XV rfl rfl rfl ?_))))))
  refine XR_a (op_lss rfl rfl) rfl rfl ?_
  refine XV rfl rfl rfl ?_
  refine XR_if 22 rfl (fun h => ?_) (fun h => ?_)
  ·have h22 := h
   refine XR_no rfl rfl (XR_no rfl rfl (XR_a (op_pick_t rfl rfl) rfl rfl (XR_nil (X_then rfl (X_seq (X_reg (XA rfl rfl rfl (XA rfl rfl rfl (XA rfl rfl rfl ?_)))))))))
   refine XR_nil ?_
   refine X_ret (.cons (.tmp rfl) (.cons (.tmp rfl) (.cons (.tmp rfl) .nil))) ?_
   have he5 : e = 5 := by rw [hH, if_neg (by omega), if_pos (by omega)]
   rw [he5]
   exact ⟨_, _, a + 9, rfl, by omega, fun hh => absurd hh (by omega), fun _ => st1⟩
  ·have h22 := h
   refine XV rfl rfl rfl ?_
   refine XR_a (op_gtr rfl rfl) rfl rfl ?_
   refine XR_a (op_pick_f rfl rfl) rfl rfl (XR_nil ?_)
   refine X_if rfl (fun h => ?_) (fun h => ?_)
   ·have hbad : numB bs a 9 < 1 ∨ 320 < numB bs a 9 := by omega
    refine X_seq (X_reg (XA rfl rfl rfl (XA rfl rfl rfl (XA rfl rfl rfl (XR_nil ?_)))))
    refine X_ret (.cons (.tmp rfl) (.cons (.tmp rfl) (.cons (.tmp rfl) .nil))) ?_
    have he5 : e = 5 := by rw [hH, if_neg (by omega), if_pos hbad]
    rw [he5]
    exact ⟨_, _, a + 9, rfl, by omega, fun hh => absurd hh (by omega), fun _ => st1⟩
   ·refine X_skip (X_seq (X_reg ?_))
    refine XR_wa (opl_mk (n := 19) (by omega) rfl rfl rfl) rfl rfl rfl ?_
    rintro v hp hnew
    have st := st1.new hnew
    obtain ⟨go, no, co, rfl, hno, _⟩ := st.row0 0 rfl (by rw [List.length_replicate]; omega)
    obtain rfl : no = 19 := by simpa using hno.symm
    refine XA rfl rfl rfl (XR_nil (X_seq (X_seq (X_reg (XV rfl rfl rfl ?_)))))
    refine XR_a (op_len rfl rfl rfl) rfl rfl ?_
    refine XV rfl rfl rfl (XR_nil (X_block ?_))
    have hz : List.replicate 19 (Value.int .i64 0) = (lens19 bs (a + 9) 0).map nV := by rw [lens19_zero, List.map_replicate]; rfl
    rw [hz] at st
    refine X_loop (fun i => 19 - i) (fun i => [(0, .pointer (some ⟨q, 0, none⟩)), (5, .int .u32 (numB bs a 9 : Nat)), (7, .slice (some ⟨go, 0, none⟩) 19 co), (28, nV 19), (29, nV i)])
     (fun (i : Nat) hp => i ≤ 19 ∧ a + 9 + 4 * i ≤ 8 * m ∧ St B h0 hp (Bn.row 3 1 (.slice (some ⟨go, 0, none⟩) 19 co) ((lens19 bs (a + 9) i).map nV) :: rdG q A m c (a + 9 + 4 * i) :: F))
     0 (.cons rfl (.cons rfl (.cons rfl (.cons rfl (.cons rfl (.nil _)))))) ⟨by omega, by omega, st⟩ ?_
    clear st st1
    rintro i hp ⟨hi, hia, st⟩
    refine X_seq (X_reg ?_)
    refine XR_a (op_lss rfl rfl) rfl rfl ?_
    refine XR_nil (X_seq ?_)
    refine X_if rfl (fun h => ?_) (fun h => ?_)
    ·refine X_skip (X_seq (X_block (X_seq (X_reg (XV rfl rfl rfl (XA rfl rfl rfl ?_))))))
     by_cases h4 : 4 ≤ 8 * m - (a + 9 + 4 * i)
     ·refine XR_nil (X_seq (X_reg (XV rfl rfl rfl ?_)))
      refine XR_wa (opl_call (rtake_spec (k := 4) (st.here.perm (List.Perm.swap _ _ _)) (hrB _ st.low) hl (by omega) hia) rfl (by kernel_rfl)) rfl rfl rfl ?_
      rintro _ hp2 ⟨rfl, st2⟩
      rw [show wd 32 4 = 4 from rfl, if_pos h4] at st2
      rw [show wd 32 4 = 4 from rfl, hbs, if_pos h4, decide_eq_true h4]
      have hlt4 := hn4 i
      replace st := st.trans (st2.perm (List.Perm.swap _ _ _))
      refine XV rfl rfl rfl (XR_a (op_extract rfl rfl) rfl rfl (XR_a (op_extract rfl rfl) rfl rfl (XA rfl rfl rfl (XA rfl rfl rfl (XR_nil (X_seq (X_seq (X_reg (XV rfl rfl rfl ?_)))))))))
      refine XR_a (op_not rfl) rfl rfl ?_
      refine XR_nil (X_else rfl (X_skip (X_reg (XV rfl rfl rfl (XV rfl rfl rfl (XV rfl rfl rfl ?_))))))
      refine XR_a (op_convI (k' := .i64) rfl rfl (by simp only [inK]; omega)) rfl rfl ?_
      first | refine XR_a (op_index1 rfl rfl rfl (by omega)) rfl rfl ?_ | refine XR_a (op_index rfl rfl rfl (by omega)) rfl rfl ?_
      refine XR_wn (opl_store_row (o := 0) (i := i) (v := nV (numB bs (a + 9 + 4 * i) 4)) st 0 rfl (congrArg (fun x => some (Value.pointer (some ⟨go, x, none⟩))) (by omega)) rfl (by rw [List.length_map, lens19_len]; omega) rfl rfl) rfl rfl fun _ hp st => ?_
      simp only [List.set_cons_zero] at st
      rw [map_set_nV, lens19_set (by omega)] at st
      refine XR_nil (X_blk (X_reg ?_))
      first | refine XR_a (op_addN (n := 1) rfl rfl (by simp only [inK]; omega)) rfl rfl ?_ | refine XR_a (op_addI rfl rfl (by simp only [inK]; omega)) rfl rfl ?_ | refine XR_a (op_add rfl rfl) rfl rfl ?_
      refine XV rfl rfl rfl (XR_nil ?_)
      exact X_again (i + 1) (.cons rfl (.cons rfl (.cons rfl (.cons rfl (.cons rfl (.nil _)))))) ⟨by omega, by omega, st⟩ (by omega)
     ·refine XR_nil (X_seq (X_reg (XV rfl rfl rfl ?_)))
      refine XR_wa (opl_call (rtake_spec (k := 4) (st.here.perm (List.Perm.swap _ _ _)) (hrB _ st.low) hl (by omega) hia) rfl (by kernel_rfl)) rfl rfl rfl ?_
      rintro _ hp2 ⟨rfl, st2⟩
      rw [show wd 32 4 = 4 from rfl, if_neg h4] at st2
      rw [show wd 32 4 = 4 from rfl, hbs, if_neg h4, decide_eq_false h4]
      replace st := st.trans (st2.perm (List.Perm.swap _ _ _))
      refine XV rfl rfl rfl (XR_a (op_extract rfl rfl) rfl rfl (XR_a (op_extract rfl rfl) rfl rfl (XA rfl rfl rfl (XA rfl rfl rfl (XR_nil (X_seq (X_seq (X_reg (XV rfl rfl rfl ?_)))))))))
      refine XR_a (op_not rfl) rfl rfl ?_
      refine XR_nil (X_then rfl (X_seq (X_reg (XA rfl rfl rfl (XA rfl rfl rfl (XA rfl rfl rfl (XR_nil ?_)))))))
      refine X_ret (.cons (.tmp rfl) (.cons (.tmp rfl) (.cons (.tmp rfl) .nil))) ?_
      have he2 : e = 2 := by rw [hH, if_neg (by omega), if_neg (by omega), if_pos (by omega)]
      rw [he2]
      exact ⟨_, _, _, rfl, hia, fun hh => absurd hh (by omega), fun _ => st.tail⟩
    ·refine X_exit rfl (X_seq ?_)
     obtain rfl : i = 19 := by omega
     have hrdL := (st.rdS 0 rfl).2
     rw [nV_iV] at hrdL
     refine X_reg (XV rfl rfl rfl ?_)
     by_cases hR : rightC ((lens19 bs (a + 9) 19).map fun n : Nat => (n : Int))
     ·refine XR_wa (opl_call (cnew_spec hrdL (by rw [List.length_map, lens19_len]) (by omega)) rfl (by kernel_rfl)) rfl rfl rfl ?_
      rintro _ hp5 ⟨w, rfl, hx5, hy5, hz5⟩
      refine XV rfl rfl rfl (XR_a (op_extract rfl rfl) rfl rfl (XR_a (op_extract rfl rfl) rfl rfl (XA rfl rfl rfl (XA rfl rfl rfl (XR_nil (X_seq (X_reg (XV rfl rfl rfl ?_))))))))
      refine XR_a (op_convI (k' := .i64) rfl rfl (by simp only [inK]; omega)) rfl rfl ?_
      refine XV rfl rfl rfl (XV rfl rfl rfl (XA rfl rfl rfl (XA rfl rfl rfl (XA rfl rfl rfl (XR_nil ?_)))))
      refine X_ret (.cons (.tmp rfl) (.cons (.tmp rfl) (.cons (.tmp rfl) .nil))) ?_
      have he0 : e = 0 := by rw [hH, if_neg (by omega), if_neg (by omega), if_neg (by omega), hok, decide_eq_true hR]; rfl
      obtain ⟨p, rfl, sc⟩ := hy5 hR
      rw [cast_toNat] at sc
      have hlok := hR.ok
      rw [cast_toNat] at hlok
      rw [he0, errC_zero.2 hR]
      refine ⟨_, _, 0, rfl, by omega, fun _ => ⟨rfl, by omega, hlok, p, rfl, ?_⟩, fun hh => absurd rfl hh⟩
      have := st.join sc
      simp only [List.cons_append, List.nil_append] at this
      exact (this.perm (List.Perm.swap _ _ _)).tail
     ·refine XR_wa (opl_call (cnew_spec hrdL (by rw [List.length_map, lens19_len]) (by omega)) rfl (by kernel_rfl)) rfl rfl rfl ?_
      rintro _ hp5 ⟨w, rfl, hx5, hy5, hz5⟩
      refine XV rfl rfl rfl (XR_a (op_extract rfl rfl) rfl rfl (XR_a (op_extract rfl rfl) rfl rfl (XA rfl rfl rfl (XA rfl rfl rfl (XR_nil (X_seq (X_reg (XV rfl rfl rfl ?_))))))))
      refine XR_a (op_convI (k' := .i64) rfl rfl (by simp only [inK]; omega)) rfl rfl ?_
      refine XV rfl rfl rfl (XV rfl rfl rfl (XA rfl rfl rfl (XA rfl rfl rfl (XA rfl rfl rfl (XR_nil ?_)))))
      refine X_ret (.cons (.tmp rfl) (.cons (.tmp rfl) (.cons (.tmp rfl) .nil))) ?_
      have he13 : e = 13 := by rw [hH, if_neg (by omega), if_neg (by omega), if_neg (by omega), hok, decide_eq_false hR]; rfl
      have hec : errC ((lens19 bs (a + 9) 19).map fun n : Nat => (n : Int)) = 13 := by unfold errC; rw [if_neg hR]
      rw [he13, hec]
      exact ⟨_, _, _, rfl, hia, fun hh => absurd hh (by omega), fun _ => (st.ext hx5).tail⟩
 ·refine XA rfl rfl rfl (XA rfl rfl rfl (XR_nil (X_seq (X_reg (XV rfl rfl rfl ?_)))))
  refine XR_wa (opl_call (rtake_spec (k := 9) st (hrB _ st.low) hl (by omega) ha) rfl (by kernel_rfl)) rfl rfl rfl ?_
  rintro _ hp ⟨rfl, st1⟩
  rw [show wd 32 9 = 9 from rfl, if_neg h9] at st1
  rw [show wd 32 9 = 9 from rfl, hbs, if_neg h9, decide_eq_false h9]
  refine XV rfl rfl rfl (XR_a (op_extract rfl rfl) rfl rfl (XR_a (op_extract rfl rfl) rfl rfl (XA rfl rfl rfl (XA rfl rfl rfl (XR_nil (X_seq (X_seq (X_reg (XV rfl rfl rfl ?_)))))))))
  refine XR_a (op_not rfl) rfl rfl ?_
  refine XR_nil (X_then rfl (X_seq (X_reg (XA rfl rfl rfl (XA rfl rfl rfl (XA rfl rfl rfl (XR_nil ?_)))))))
  refine X_ret (.cons (.tmp rfl) (.cons (.tmp rfl) (.cons (.tmp rfl) .nil))) ?_
  have he2 : e = 2 := by rw [hH, if_pos (by omega)]
  rw [he2]
  exact ⟨_, _, a, rfl, ha, fun hh => absurd hh (by omega), fun _ => st1⟩
noncomputable def oneR (ls : List Nat) (bs : List Bool) (a : Nat) : Nat × Nat × Nat × Nat :=
  if (takeC ls (bs.drop a)).2.2 ≠ 0 then (0, 0, (takeC ls (bs.drop a)).2.2, a + (takeC ls (bs.drop a)).2.1) else if bs.length < a + (takeC ls (bs.drop a)).2.1 + rW (takeC ls (bs.drop a)).1 then (0, 0, 2, a + (takeC ls (bs.drop a)).2.1) else
    ((takeC ls (bs.drop a)).1, rL (takeC ls (bs.drop a)).1 + numB bs (a + (takeC ls (bs.drop a)).2.1) (rW (takeC ls (bs.drop a)).1), 0, a + (takeC ls (bs.drop a)).2.1 + rW (takeC ls (bs.drop a)).1)
theorem one_spec {B p q m c a : Nat} {A : Option Addr} {l : List UInt8} {ls : List Nat} {F : List Res} {h0 : Heap} (st0 : St B h0 h0 (rdG q A m c a :: codeR p ls :: F)) (hok : lensOK ls) (hrB : ∀ h', Low B h0 h' → Rd h' A (l.map byteV)) (hl : l.length = m) (hm : m ≤ 1073741824) (ha : a ≤ 8 * m) :
  Ret Try.prog 91 [.pointer (some ⟨q, 0, none⟩), .pointer (some ⟨p, 0, none⟩)] h0
   fun v h' => v = retVal [.agg #[nV (oneR ls (bitsB l) a).1, nV (oneR ls (bitsB l) a).2.1], nV (oneR ls (bitsB l) a).2.2.1] ∧ (oneR ls (bitsB l) a).2.2.2 ≤ 8 * m ∧ St B h0 h' (rdG q A m c (oneR ls (bitsB l) a).2.2.2 :: codeR p ls :: F) := by
 have hbl : (bitsB l).length = 8 * m := by rw [bitsB_length, hl]
 have hle := takeC_le ls ((bitsB l).drop a)
 rw [List.length_drop, hbl] at hle
 have hO : oneR ls (bitsB l) a = if (takeC ls ((bitsB l).drop a)).2.2 ≠ 0 then (0, 0, (takeC ls ((bitsB l).drop a)).2.2, a + (takeC ls ((bitsB l).drop a)).2.1) else if (bitsB l).length < a + (takeC ls ((bitsB l).drop a)).2.1 + rW (takeC ls ((bitsB l).drop a)).1 then (0, 0, 2, a + (takeC ls ((bitsB l).drop a)).2.1) else
  ((takeC ls ((bitsB l).drop a)).1, rL (takeC ls ((bitsB l).drop a)).1 + numB (bitsB l) (a + (takeC ls ((bitsB l).drop a)).2.1) (rW (takeC ls ((bitsB l).drop a)).1), 0, a + (takeC ls ((bitsB l).drop a)).2.1 + rW (takeC ls ((bitsB l).drop a)).1) := rfl
 have hct := fun {B F h0} (st : St B h0 h0 (rdG q A m c a :: codeR p ls :: F)) hr => ctake_spec (l := l) st hok hr hl (by omega) ha
 obtain ⟨O, hOe⟩ : ∃ O, oneR ls (bitsB l) a = O := ⟨_, rfl⟩
 rw [hOe] at hO ⊢
 obtain ⟨⟨s, k, e⟩, hT⟩ : ∃ T, takeC ls ((bitsB l).drop a) = T := ⟨_, rfl⟩
 simp only [hT] at hO hle hct
 have hw7 := rW_le s
 have hnw := numB_lt (bitsB l) (a + k) (rW s)
 have hp7 : 2 ^ rW s ≤ 128 := Nat.le_trans (Nat.pow_le_pow_right (n := 2) (by omega) hw7) (by decide)
 have hrp : rL s ≤ 138 := by unfold rL; split <;> (try split) <;> (try split) <;> omega
 refine ret_of_X Try.func91 rfl rfl fun w0 hw0 => ?_
 simp only [argE, Nat.zero_add, Nat.reduceAdd]
 refine X_seq (X_reg ?_)
 refine XR_wa (opl_new rfl) rfl rfl rfl ?_
 rintro _ hp ⟨p4, rfl, hnew⟩
 have st := st0.new hnew
 replace st := st.re3
 refine XA rfl rfl rfl ?_
 by_cases he : e = 0
 ·refine XR_nil (X_seq (X_reg (XV rfl rfl rfl (XV rfl rfl rfl ?_))))
  refine XR_wa (opl_call (hct st.here (hrB _ st.low)) rfl (by kernel_rfl)) rfl rfl rfl ?_
  rintro _ hp2 ⟨rfl, st2⟩
  replace st := st.trans st2
  refine XV rfl rfl rfl (XR_a (op_extract rfl rfl) rfl rfl (XR_a (op_extract rfl rfl) rfl rfl (XA rfl rfl rfl (XA rfl rfl rfl (XR_nil (X_seq (X_seq (X_reg (XV rfl rfl rfl ?_)))))))))
  refine XR_a (op_neq rfl rfl) rfl rfl ?_
  refine XR_as (.bool false) (congrArg Value.bool (decide_eq_false (by omega))) ?_
  refine XR_nil (X_else rfl (X_skip (X_seq (X_reg (XV rfl rfl rfl ?_)))))
  refine XR_wa (opl_call (bounds_spec s _) rfl (by kernel_rfl)) rfl rfl rfl ?_
  rintro _ _ ⟨rfl, rfl⟩
  refine XV rfl rfl rfl (XR_a (op_extract rfl rfl) rfl rfl (XR_a (op_extract rfl rfl) rfl rfl (XR_a (op_extract rfl rfl) rfl rfl (XA rfl rfl rfl (XA rfl rfl rfl (XA rfl rfl rfl ?_))))))
  by_cases hw : rW s ≤ 8 * m - (a + k)
  ·refine XR_nil (X_seq (X_reg (XV rfl rfl rfl (XV rfl rfl rfl ?_))))
   refine XR_wa (opl_call (rtake_spec (k := ((rW s : Nat) : Int)) st.here (hrB _ st.low) hl (by omega) (by omega)) rfl (by kernel_rfl)) rfl rfl rfl ?_
   rintro _ hp3 ⟨rfl, st3⟩
   rw [wd_nat (by omega), if_pos hw] at st3
   rw [wd_nat (by omega), if_pos hw, decide_eq_true hw]
   replace st := st.trans st3
   refine XV rfl rfl rfl (XR_a (op_extract rfl rfl) rfl rfl (XR_a (op_extract rfl rfl) rfl rfl (XA rfl rfl rfl (XA rfl rfl rfl (XR_nil (X_seq (X_seq (X_reg (XV rfl rfl rfl ?_)))))))))
   refine XR_a (op_not rfl) rfl rfl ?_
   refine XR_nil (X_else rfl (X_skip (X_seq (X_reg (XV rfl rfl rfl (XV rfl rfl rfl (XV rfl rfl rfl ?_)))))))
   refine XR_a (op_convI (k' := .i64) rfl rfl (by simp only [inK]; omega)) rfl rfl ?_
   first | refine XR_a (op_addN rfl rfl (by simp only [inK]; omega)) rfl rfl ?_ | refine XR_a (op_addI rfl rfl (by simp only [inK]; omega)) rfl rfl ?_ | refine XR_a (op_add rfl rfl) rfl rfl ?_
   refine XR_a (op_build (ps := [(0, nV s), (1, nV (rL s + numB (bitsB l) (a + k) (rW s)))]) (cs := #[nV s, nV (rL s + numB (bitsB l) (a + k) (rW s))]) rfl rfl) rfl rfl ?_
   refine XR_wn (opl_store_whole (us := [nV s, nV (rL s + numB (bitsB l) (a + k) (rW s))]) st 2 rfl rfl rfl rfl rfl (one_nV [s, _]) rfl) rfl rfl fun _ hp st => ?_
   simp only [List.set_cons_zero, List.set_cons_succ] at st
   refine XA rfl rfl rfl (XR_nil ?_)
   refine X_ret (.cons (RV_agg (vs := [nV s, nV (rL s + numB (bitsB l) (a + k) (rW s))]) rfl rfl rfl (st.cells 2 rfl)) (.cons (.tmp rfl) .nil)) ?_
   rw [if_neg (by omega), if_neg (by omega)] at hO
   rw [hO]
   exact ⟨rfl, by simp only; omega, st.re3'⟩
  ·refine XR_nil (X_seq (X_reg (XV rfl rfl rfl (XV rfl rfl rfl ?_))))
   refine XR_wa (opl_call (rtake_spec (k := ((rW s : Nat) : Int)) st.here (hrB _ st.low) hl (by omega) (by omega)) rfl (by kernel_rfl)) rfl rfl rfl ?_
   rintro _ hp3 ⟨rfl, st3⟩
   rw [wd_nat (by omega), if_neg hw] at st3
   rw [wd_nat (by omega), if_neg hw, decide_eq_false hw]
   replace st := st.trans st3
   refine XV rfl rfl rfl (XR_a (op_extract rfl rfl) rfl rfl (XR_a (op_extract rfl rfl) rfl rfl (XA rfl rfl rfl (XA rfl rfl rfl (XR_nil (X_seq (X_seq (X_reg (XV rfl rfl rfl ?_)))))))))
   refine XR_a (op_not rfl) rfl rfl ?_
   refine XR_nil (X_then rfl (X_seq (X_reg ?_)))
   refine XR_a (op_build (ps := []) (cs := #[nV 0, nV 0]) rfl rfl) rfl rfl ?_
   refine XR_wn (opl_store_whole (us := [nV 0, nV 0]) st 2 rfl rfl rfl rfl rfl (one_nV [0, 0]) rfl) rfl rfl fun _ hp st => ?_
   simp only [List.set_cons_zero, List.set_cons_succ] at st
   refine XA rfl rfl rfl (XR_nil ?_)
   refine X_ret (.cons (RV_agg (vs := [nV 0, nV 0]) rfl rfl rfl (st.cells 2 rfl)) (.cons (.tmp rfl) .nil)) ?_
   rw [if_neg (by omega), if_pos (by omega)] at hO
   rw [hO]
   exact ⟨rfl, by simp only; omega, st.re3'⟩
 ·refine XR_nil (X_seq (X_reg (XV rfl rfl rfl (XV rfl rfl rfl ?_))))
  refine XR_wa (opl_call (hct st.here (hrB _ st.low)) rfl (by kernel_rfl)) rfl rfl rfl ?_
  rintro _ hp2 ⟨rfl, st2⟩
  replace st := st.trans st2
  refine XV rfl rfl rfl (XR_a (op_extract rfl rfl) rfl rfl (XR_a (op_extract rfl rfl) rfl rfl (XA rfl rfl rfl (XA rfl rfl rfl (XR_nil (X_seq (X_seq (X_reg (XV rfl rfl rfl ?_)))))))))
  refine XR_a (op_neq rfl rfl) rfl rfl ?_
  refine XR_as (.bool true) (congrArg Value.bool (decide_eq_true (by omega))) ?_
  refine XR_nil (X_then rfl (X_seq (X_reg ?_)))
  refine XR_a (op_build (ps := []) (cs := #[nV 0, nV 0]) rfl rfl) rfl rfl ?_
  refine XV rfl rfl rfl ?_
  refine XR_wn (opl_store_whole (us := [nV 0, nV 0]) st 2 rfl rfl rfl rfl rfl (one_nV [0, 0]) rfl) rfl rfl fun _ hp st => ?_
  simp only [List.set_cons_zero, List.set_cons_succ] at st
  refine XA rfl rfl rfl (XR_nil ?_)
  refine X_ret (.cons (RV_agg (vs := [nV 0, nV 0]) rfl rfl rfl (st.cells 2 rfl)) (.cons (.tmp rfl) .nil)) ?_
  rw [if_pos he] at hO
  rw [hO]
  exact ⟨rfl, by simp only; omega, st.re3'⟩
end Go.Bn
end

section
set_option linter.unusedVariables false
set_option linter.unusedSimpArgs false
set_option maxHeartbeats 4000000
set_option maxRecDepth 20000
namespace Go.Bn
open Go Proofs
theorem add_bad {B s m : Nat} {v : Value} {l : List Nat} {F : List Res} {h0 : Heap} (st : St B h0 h0 (Bn.row 3 1 v (l.map nV) :: F)) (hs : s < 19) (hm1 : rL s ≤ m) (hm2 : m ≤ rH s) (hl : l.length ≤ 65536) (hz : s = 16 ∧ l.length = 0) :
  Ret Try.prog 92 [v, .agg #[nV s, nV m]] h0 fun u h' => u = retVal [.slice none 0 0, nV 3] ∧ St B h0 h' F := by
 refine (add_spec st hs hm1 hm2 hl).mono ?_
 rintro u h' (⟨_, _, h⟩ | ⟨h, _⟩)
 ·exact h
 ·exact absurd hz h
theorem add_ok {B s m : Nat} {v : Value} {l : List Nat} {F : List Res} {h0 : Heap} (st : St B h0 h0 (Bn.row 3 1 v (l.map nV) :: F)) (hs : s < 19) (hm1 : rL s ≤ m) (hm2 : m ≤ rH s) (hl : l.length ≤ 65536) (hz : ¬ (s = 16 ∧ l.length = 0)) :
  Ret Try.prog 92 [v, .agg #[nV s, nV m]] h0 fun u h' => ∃ w, u = retVal [w, nV 0] ∧ St B h0 h' (Bn.row 3 1 w ((rAdd l s m).map nV) :: F) := by
 refine (add_spec st hs hm1 hm2 hl).mono ?_
 rintro u h' (⟨h1, h2, _⟩ | ⟨_, h⟩)
 ·exact absurd ⟨h1, h2⟩ hz
 ·exact h
theorem goT_step {ls : List Nat} {bs : List Bool} {n f a : Nat} {l : List Nat} (h : l.length < n) {x y e a2 : Nat} (hO : oneR ls bs a = (x, y, e, a2)) :
  goT ls bs n (f + 1) a l = if e ≠ 0 then ([], 0, e) else if x = 16 ∧ l.length = 0 then ([], 0, 3) else if n < l.length + y then ([], 0, 3) else goT ls bs n f a2 (rAdd l x y) := by
 rw [goT, if_neg (by omega)]
 unfold oneR at hO
 by_cases h1 : (takeC ls (bs.drop a)).2.2 ≠ 0
 ·rw [if_pos h1] at hO ⊢
  cases hO
  rw [if_pos h1]
 ·rw [if_neg h1] at hO ⊢
  by_cases h2 : bs.length < a + (takeC ls (bs.drop a)).2.1 + rW (takeC ls (bs.drop a)).1
  ·rw [if_pos h2] at hO ⊢
   cases hO
   rw [if_pos (by omega)]
  ·rw [if_neg h2] at hO ⊢
   cases hO
   rw [if_neg (show ¬ (0 : Nat) ≠ 0 by omega)]
theorem oneR_ok {ls : List Nat} {bs : List Bool} {a x y a2 : Nat} (hok : lensOK ls) (hO : oneR ls bs a = (x, y, 0, a2)) : x < ls.length ∧ rL x ≤ y ∧ y ≤ rH x := by
 unfold oneR at hO
 split at hO
 ·rename_i h
  have := congrArg (fun z => z.2.2.1) hO
  simp only at this
  omega
 ·rename_i h
  split at hO
  ·have := congrArg (fun z => z.2.2.1) hO
   simp at this
  ·have hs := takeC_sym hok (Decidable.not_not.1 h)
   obtain ⟨hs1, _⟩ := hs
   cases hO
   exact ⟨hs1, Nat.le_add_right _ _, rL_num (numB_lt _ _ _)⟩
theorem headE_num {bs : List Bool} {a : Nat} {ok : Bool} (h : headE bs a ok = 0) : 1 ≤ numB bs a 9 ∧ numB bs a 9 ≤ 320 := by
 unfold headE at h
 split at h
 ·omega
 ·split at h
  ·omega
  ·omega
theorem perm_cba {a b c : Res} {F : List Res} : (a :: b :: c :: F).Perm (c :: b :: a :: F) :=
 ((List.Perm.swap _ _ _).trans ((List.Perm.swap _ _ _).cons _)).trans (List.Perm.swap _ _ _)
theorem rtake_runs {B q m c a : Nat} {A : Option Addr} {l : List UInt8} {F : List Res} {h0 : Heap} (st0 : St B h0 h0 (rdG q A m c a :: F)) (hrB : ∀ h', Low B h0 h' → Rd h' A (l.map byteV)) (hl : l.length = m) (hm : m ≤ 1073741824) (ha : a ≤ 8 * m) :
  Ret Try.prog 66 [.pointer (some ⟨q, 0, none⟩)] h0 fun v h' => ∃ w a', v = retVal [w, nV (takeR (bitsB l) a (okR (bitsB l) a)).2.2] ∧ a' ≤ 8 * m ∧ ((takeR (bitsB l) a (okR (bitsB l) a)).2.2 = 0 → a' = (takeR (bitsB l) a (okR (bitsB l) a)).2.1) ∧
   St B h0 h' (Bn.row 3 1 w ((takeR (bitsB l) a (okR (bitsB l) a)).1.map nV) :: rdG q A m c a' :: F) := by
 have hR : takeR (bitsB l) a (okR (bitsB l) a) = if headE (bitsB l) a (okR (bitsB l) a) ≠ 0 then ([], 0, headE (bitsB l) a (okR (bitsB l) a)) else goT (lens19 (bitsB l) (a + 9) 19) (bitsB l) (numB (bitsB l) a 9) 321 (a + 85) [] := rfl
 obtain ⟨R, hRe⟩ : ∃ R, takeR (bitsB l) a (okR (bitsB l) a) = R := ⟨_, rfl⟩
 rw [hRe] at hR ⊢
 refine ret_of_X Try.func66 rfl rfl fun w0 hw0 => ?_
 simp only [argE, Nat.zero_add, Nat.reduceAdd]
 refine X_seq (X_reg (XA rfl rfl rfl ?_))
 by_cases he : headE (bitsB l) a (okR (bitsB l) a) = 0
 ·refine XA rfl rfl rfl (XR_nil (X_seq (X_seq (X_reg (XV rfl rfl rfl ?_)))))
  refine XR_a (op_ptr_nil rfl rfl rfl) rfl rfl ?_
  refine XR_nil (X_else rfl (X_skip (X_seq (X_reg (XV rfl rfl rfl ?_)))))
  refine XR_wa (opl_call (head_spec st0 hrB hl hm ha) rfl (by kernel_rfl)) rfl rfl rfl ?_
  rintro _ hp ⟨n', w', a1, rfl, ha1, hok1, hbad1⟩
  refine XV rfl rfl rfl (XR_a (op_extract rfl rfl) rfl rfl (XR_a (op_extract rfl rfl) rfl rfl (XR_a (op_extract rfl rfl) rfl rfl (XA rfl rfl rfl (XA rfl rfl rfl (XA rfl rfl rfl (XR_nil (X_seq (X_seq ?_)))))))))
  refine X_reg (XV rfl rfl rfl ?_)
  refine XR_a (op_neq rfl rfl) rfl rfl ?_
  refine XR_as (.bool false) (congrArg Value.bool (decide_eq_false (by omega))) ?_
  refine XR_nil (X_else rfl (X_skip (X_seq (X_reg (XA rfl rfl rfl (XR_nil (X_seq (X_block ?_))))))))
  obtain ⟨rfl, ha85, hlok, p, rfl, st⟩ := hok1 he
  obtain ⟨hn1, hn320⟩ := headE_num he
  rw [if_neg (by omega)] at hR
  have h19 := lens19_len (bitsB l) (a + 9) 19
  obtain ⟨ls, hls⟩ : ∃ ls, lens19 (bitsB l) (a + 9) 19 = ls := ⟨_, rfl⟩
  obtain ⟨n, hn⟩ : ∃ n, numB (bitsB l) a 9 = n := ⟨_, rfl⟩
  rw [hls] at st hlok hR h19
  rw [hn] at hR hn1 hn320 ⊢
  clear hok1 hbad1
  replace st := st.nilrow 3 1
  refine X_loop (fun s => n - s.2.2.1.length) (fun s => [(0, .pointer (some ⟨q, 0, none⟩)), (4, nV n), (5, .pointer (some ⟨p, 0, none⟩)), (7, s.2.2.2)])
   (fun (s : Nat × Nat × List Nat × Value) hp => goT ls (bitsB l) n s.1 s.2.1 s.2.2.1 = R ∧ n < s.1 + s.2.2.1.length ∧ s.2.2.1.length ≤ n ∧ s.2.1 ≤ 8 * m ∧ St B h0 hp (Bn.row 3 1 s.2.2.2 (s.2.2.1.map nV) :: codeR p ls :: rdG q A m c s.2.1 :: F))
   (321, a + 85, [], _) (.cons rfl (.cons rfl (.cons rfl (.cons rfl (.nil _))))) ⟨hR.symm, by simp only [List.length_nil]; omega, by simp, ha85, st⟩ ?_
  clear st hR
  rintro ⟨f, a1, L, v⟩ hp ⟨hg, hf, hLn, ha1, st⟩
  simp only at hg hf hLn ha1 st ⊢
  obtain ⟨A9, n9, c9, rfl, hl9, _, _, _⟩ := st.row 0 rfl
  rw [List.length_map, Nat.mul_one] at hl9
  refine X_seq (X_seq (X_reg (XV rfl rfl rfl ?_)))
  refine XR_a (op_len rfl rfl rfl) rfl rfl ?_
  refine XV rfl rfl rfl ?_
  refine XR_a (op_lss rfl rfl) rfl rfl ?_
  refine XR_nil ?_
  refine X_if rfl (fun h => ?_) (fun h => ?_)
  ·obtain ⟨f', rfl⟩ : ∃ f', f = f' + 1 := ⟨f - 1, by omega⟩
   obtain ⟨⟨x, y, e, a2⟩, hO⟩ : ∃ O, oneR ls (bitsB l) a1 = O := ⟨_, rfl⟩
   rw [goT_step (by omega) hO] at hg
   have h1 := one_spec (st.here.perm perm_cba) hlok (fun h' hx => hrB h' (st.low.trans hx)) hl hm ha1
   rw [hO] at h1
   simp only at h1
   refine X_skip (X_block (X_seq (X_reg (XV rfl rfl rfl (XV rfl rfl rfl ?_)))))
   refine XR_wa (opl_call (h1) rfl (by kernel_rfl)) rfl rfl rfl ?_
   rintro _ hp2 ⟨rfl, ha2, st2⟩
   replace st := st.trans (st2.perm perm_cba)
   refine XV rfl rfl rfl (XR_a (op_extract rfl rfl) rfl rfl (XR_a (op_extract rfl rfl) rfl rfl ?_))
   refine XR_wa (opl_new rfl) rfl rfl rfl ?_
   rintro _ hp ⟨p8, rfl, hnew⟩
   replace st := st.new hnew
   refine XR_wn (opl_store_whole (us := [nV x, nV y]) st 0 rfl rfl rfl rfl rfl (one_nV [x, y]) rfl) rfl rfl fun _ hp st => ?_
   simp only [List.set_cons_zero] at st
   refine XA rfl rfl rfl (XR_nil (X_seq (X_seq (X_reg (XV rfl rfl rfl ?_)))))
   refine XR_a (op_eql rfl rfl) rfl rfl ?_
   refine XR_nil ?_
   refine X_if rfl (fun h => ?_) (fun h => ?_)
   ·obtain rfl : e = 0 := by omega
    obtain ⟨hx19, hy1, hy2⟩ := oneR_ok hlok hO
    have hrh := rH_le x
    rw [if_neg (show ¬ (0 : Nat) ≠ 0 by omega)] at hg
    refine X_reg (XV rfl rfl rfl ?_)
    refine XR_a (op_ldA (st.cells 0 rfl) rfl rfl rfl rfl) rfl rfl ?_
    by_cases hz : x = 16 ∧ L.length = 0
    ·refine XR_wa (opl_call (add_bad (st.here.perm (List.Perm.swap _ _ _)) (by omega) hy1 hy2 (by omega) hz) rfl (by kernel_rfl)) rfl rfl rfl ?_
     rintro _ hp3 ⟨rfl, st3⟩
     replace st := st.trans st3
     rw [if_pos hz] at hg
     refine XV rfl rfl rfl (XR_a (op_extract rfl rfl) rfl rfl (XR_a (op_extract rfl rfl) rfl rfl (XA rfl rfl rfl (XA rfl rfl rfl (XR_nil (X_block (X_seq (X_reg (XV rfl rfl rfl ?_)))))))))
     refine XR_a (op_neq rfl rfl) rfl rfl ?_
     refine XA rfl rfl rfl (XR_nil (X_then rfl (X_seq (X_reg (XV rfl rfl rfl (XA rfl rfl rfl (XA rfl rfl rfl (XR_nil ?_))))))))
     refine X_ret (.cons (.tmp rfl) (.cons (.tmp rfl) .nil)) ?_
     rw [← hg]
     exact ⟨_, a2, rfl, ha2, fun hh => absurd hh (by decide), (st.tail.tail.nilrow 3 1)⟩
    ·refine XR_wa (opl_call (add_ok (st.here.perm (List.Perm.swap _ _ _)) (by omega) hy1 hy2 (by omega) hz) rfl (by kernel_rfl)) rfl rfl rfl ?_
     rintro _ hp3 ⟨w3, rfl, st3⟩
     replace st := st.trans st3
     rw [if_neg hz] at hg
     obtain ⟨A8, n8, c8, rfl, hl8, _, _, _⟩ := st.row 0 rfl
     rw [List.length_map, Nat.mul_one, rAdd_len] at hl8
     refine XV rfl rfl rfl (XR_a (op_extract rfl rfl) rfl rfl (XR_a (op_extract rfl rfl) rfl rfl (XA rfl rfl rfl (XA rfl rfl rfl (XR_nil (X_block (X_seq (X_reg (XV rfl rfl rfl ?_)))))))))
     refine XR_a (op_neq rfl rfl) rfl rfl ?_
     refine XA rfl rfl rfl (XR_nil (X_else rfl (X_seq (X_reg (XV rfl rfl rfl ?_)))))
     refine XR_a (op_len rfl rfl rfl) rfl rfl ?_
     refine XV rfl rfl rfl ?_
     refine XR_a (op_gtr rfl rfl) rfl rfl ?_
     refine XA rfl rfl rfl (XR_nil ?_)
     refine X_if rfl (fun h => ?_) (fun h => ?_)
     ·refine X_seq (X_reg (XA rfl rfl rfl (XA rfl rfl rfl (XR_nil ?_))))
      refine X_ret (.cons (.tmp rfl) (.cons (.tmp rfl) .nil)) ?_
      rw [if_pos (show n < L.length + y by omega)] at hg
      rw [← hg]
      exact ⟨_, a2, rfl, ha2, fun hh => absurd hh (by decide), (st.tail.tail.tail.nilrow 3 1)⟩
     ·refine X_skip (X_blk (X_blk ?_))
      rw [if_neg (show ¬ n < L.length + y by omega)] at hg
      have st9 := (st.perm ((List.Perm.swap _ _ _))).tail
      have hrp := rL_pos x
      exact X_again (f', a2, rAdd L x y, _) (.cons rfl (.cons rfl (.cons rfl (.cons rfl (.nil _))))) ⟨hg, by simp only [rAdd_len]; omega, by simp only [rAdd_len]; omega, ha2, st9⟩ (by simp only [rAdd_len]; have := rL_pos x; omega)
   ·refine X_skip (X_block (X_seq (X_reg (XV rfl rfl rfl ?_))))
    refine XR_a (op_neq rfl rfl) rfl rfl ?_
    refine XA rfl rfl rfl (XR_nil ?_)
    refine X_if rfl (fun h => ?_) (fun h => ?_)
    ·refine X_seq (X_reg (XV rfl rfl rfl (XA rfl rfl rfl (XA rfl rfl rfl (XR_nil ?_)))))
     refine X_ret (.cons (.tmp rfl) (.cons (.tmp rfl) .nil)) ?_
     rw [if_pos (show e ≠ 0 by omega)] at hg
     rw [← hg]
     exact ⟨_, a2, rfl, ha2, fun hh => absurd hh (by simp only; omega), (st.tail.tail.tail.nilrow 3 1)⟩
    ·exact absurd h (by omega)
  ·refine X_exit rfl (X_seq (X_reg (XV rfl rfl rfl (XA rfl rfl rfl (XA rfl rfl rfl (XR_nil ?_))))))
   refine X_ret (.cons (.tmp rfl) (.cons (.tmp rfl) .nil)) ?_
   obtain ⟨f', rfl⟩ : ∃ f', f = f' + 1 := ⟨f - 1, by omega⟩
   rw [goT, if_pos (by omega)] at hg
   rw [← hg]
   exact ⟨_, a1, rfl, ha1, fun _ => rfl, (st.perm ((List.Perm.swap _ _ _))).tail⟩
 ·refine XA rfl rfl rfl (XR_nil (X_seq (X_seq (X_reg (XV rfl rfl rfl ?_)))))
  refine XR_a (op_ptr_nil rfl rfl rfl) rfl rfl ?_
  refine XR_nil (X_else rfl (X_skip (X_seq (X_reg (XV rfl rfl rfl ?_)))))
  refine XR_wa (opl_call (head_spec st0 hrB hl hm ha) rfl (by kernel_rfl)) rfl rfl rfl ?_
  rintro _ hp ⟨n', w', a1, rfl, ha1, hok1, hbad1⟩
  refine XV rfl rfl rfl (XR_a (op_extract rfl rfl) rfl rfl (XR_a (op_extract rfl rfl) rfl rfl (XR_a (op_extract rfl rfl) rfl rfl (XA rfl rfl rfl (XA rfl rfl rfl (XA rfl rfl rfl (XR_nil (X_seq (X_seq ?_)))))))))
  refine X_reg (XV rfl rfl rfl ?_)
  refine XR_a (op_neq rfl rfl) rfl rfl ?_
  refine XR_as (.bool true) (congrArg Value.bool (decide_eq_true (by omega))) ?_
  refine XR_nil (X_then rfl (X_seq (X_reg (XV rfl rfl rfl (XA rfl rfl rfl (XA rfl rfl rfl (XR_nil ?_)))))))
  refine X_ret (.cons (.tmp rfl) (.cons (.tmp rfl) .nil)) ?_
  rw [if_pos he] at hR
  rw [hR]
  exact ⟨_, a1, rfl, ha1, fun hh => absurd hh he, (hbad1 he).nilrow 3 1⟩
end Go.Bn
end
