/- Plain: tables of codes. -/
import Derived.Test.YtdiglnhhmbhhjaaPCanon2
set_option linter.unusedVariables false
set_option linter.unusedSimpArgs false
namespace Go.Bn
/-! Bits the other way round. -/
def lowB (x : Int) : Nat → List Bool
  | 0 => []
  | k + 1 => lowB x k ++ [x / 2 ^ k % 2 == 1]
def turnI (x : Int) (k : Nat) : Nat := tval (lowB x k)
def turnV (v n : Nat) : Nat := turnI (v : Int) n
theorem lowB_length (x : Int) : ∀ k, (lowB x k).length = k
  | 0 => rfl
  | k + 1 => by simp [lowB, lowB_length x k]
theorem lowB_nat (v : Nat) : ∀ k, lowB (v : Int) k = bitsN k v
  | 0 => rfl
  | k + 1 => by
    rw [lowB, lowB_nat v k, bitsN_snoc]
    congr 2
    have : ((v : Int) / 2 ^ k % 2) = ((v / 2 ^ k % 2 : Nat) : Int) := by
      rw [Int.natCast_emod, Int.natCast_ediv, Int.natCast_pow]; rfl
    rw [this]
    generalize v / 2 ^ k % 2 = y
    by_cases h : y = 1
    · subst h; rfl
    · rw [beq_eq_false_iff_ne.2 h, beq_eq_false_iff_ne.2 (by omega)]
theorem tval_reverse : ∀ l : List Bool, tval l.reverse = valB l
  | [] => rfl
  | b :: r => by rw [List.reverse_cons, tval_snoc, tval_reverse r, valB]; omega
theorem bitsN_rev : ∀ (n v : Nat), (codeBits v n).reverse = bitsN n v
  | 0, _ => rfl
  | n + 1, v => by rw [codeBits, List.reverse_append, bitsN_rev n]; rfl
theorem turnV_eq (v n : Nat) : turnV v n = valB (codeBits v n) := by
  unfold turnV turnI
  rw [lowB_nat, ← bitsN_rev, tval_reverse]
theorem turnV_lt (v n : Nat) : turnV v n < 2 ^ n := by
  have := valB_lt (codeBits v n)
  rwa [codeBits_length, ← turnV_eq] at this
theorem turnI_lt (x : Int) (k : Nat) : turnI x k < 2 ^ k := by
  have := tval_lt (lowB x k) k
  rwa [List.take_of_length_le (by rw [lowB_length]; omega)] at this
theorem bits_turnV (v n : Nat) : bitsN n (turnV v n) = codeBits v n := by
  have := bitsN_valB (codeBits v n)
  rwa [codeBits_length, ← turnV_eq] at this
theorem valB_lowB (x : Int) : ∀ k, (valB (lowB x k) : Int) = x % 2 ^ k
  | 0 => by simp [lowB, valB, Int.emod_one]
  | k + 1 => by
    rw [lowB, valB_append, lowB_length, Int.natCast_add, valB_lowB x k]
    have hp : (0 : Int) < 2 ^ k := Int.pow_pos (by omega)
    have h2 : x / 2 ^ k % 2 = 0 ∨ x / 2 ^ k % 2 = 1 := by omega
    have e : x % 2 ^ (k + 1) = x % 2 ^ k + 2 ^ k * (x / 2 ^ k % 2) := by
      rw [Int.pow_succ, Int.emod_def x (2 ^ k * 2), ← Int.ediv_ediv_of_nonneg (Int.le_of_lt hp), Int.emod_def x (2 ^ k), Int.emod_def (x / 2 ^ k) 2, Int.mul_sub, Int.mul_assoc]; omega
    rw [e]
    rcases h2 with h2 | h2 <;> rw [h2] <;> simp [valB]
/-- Turned twice. -/
theorem turn_twice (x : Int) (k : Nat) : (turnI (turnI x k : Nat) k : Int) = x % 2 ^ k := by
  have h : ((turnI x k : Nat) : Int) = ((tval (lowB x k) : Nat) : Int) := rfl
  unfold turnI
  rw [lowB_nat, ← valB_lowB x k]
  have e : bitsN k (tval (lowB x k)) = (lowB x k).reverse := by
    have h1 := tval_reverse (lowB x k).reverse
    rw [List.reverse_reverse] at h1
    have h2 := bitsN_valB (lowB x k).reverse
    rw [List.length_reverse, lowB_length] at h2
    rw [h1, h2]
  rw [e, tval_reverse]

/-! Codes, turned round: the symbol, the bits, the length. -/
abbrev QC := Nat × Nat × Nat
abbrev QR := Nat × Nat × Bool
def zeroQ : QR := (0, 0, false)
def codeOf (ls : List Nat) (s : Nat) : List QC := if ls.getD s 0 = 0 then [] else [(s, turnV (val ls s) (ls.getD s 0), ls.getD s 0)]
def codesTo (ls : List Nat) (i : Nat) : List QC := (List.range i).flatMap (codeOf ls)
def qcodes (ls : List Nat) : List QC := codesTo ls ls.length
theorem codesTo_succ (ls : List Nat) (i : Nat) : codesTo ls (i + 1) = codesTo ls i ++ codeOf ls i := by
  unfold codesTo; rw [List.range_succ, List.flatMap_append]; simp
theorem codesTo_len (ls : List Nat) : ∀ i, (codesTo ls i).length ≤ i
  | 0 => by simp [codesTo]
  | i + 1 => by
    rw [codesTo_succ, List.length_append]
    have := codesTo_len ls i
    have : (codeOf ls i).length ≤ 1 := by unfold codeOf; split <;> simp
    omega
/-- What holds of codes. -/
structure QOk (Q : List QC) : Prop where
  len : ∀ c ∈ Q, 1 ≤ c.2.2 ∧ c.2.2 ≤ 15
  bits : ∀ c ∈ Q, c.2.1 < 2 ^ c.2.2
  apart : ∀ c ∈ Q, ∀ c' ∈ Q, c.2.2 ≤ c'.2.2 → c'.2.1 % 2 ^ c.2.2 = c.2.1 → c = c'
theorem mem_qcodes {ls : List Nat} {c : QC} : c ∈ qcodes ls ↔ ∃ s, ∃ h : s < ls.length, ls[s] ≠ 0 ∧ c = (s, turnV (val ls s) ls[s], ls[s]) := by
  unfold qcodes codesTo
  rw [List.mem_flatMap]
  constructor
  · rintro ⟨s, hs, hc⟩
    have hs : s < ls.length := List.mem_range.1 hs
    unfold codeOf at hc
    rw [getD_get hs] at hc
    split at hc
    · cases hc
    · rename_i h0
      exact ⟨s, hs, h0, by simpa using hc⟩
  · rintro ⟨s, hs, h0, rfl⟩
    refine ⟨s, List.mem_range.2 hs, ?_⟩
    unfold codeOf
    rw [getD_get hs, if_neg h0]; simp
theorem bitsN_take : ∀ (n m x : Nat), n ≤ m → (bitsN m x).take n = bitsN n x := by
  intro n m x h
  obtain ⟨d, rfl⟩ : ∃ d, m = n + d := ⟨m - n, by omega⟩
  rw [bitsN_add, List.take_append_of_le_length (by rw [bitsN_length]; omega), List.take_of_length_le (by rw [bitsN_length]; omega)]
theorem bitsN_inj {n x y : Nat} (hx : x < 2 ^ n) (hy : y < 2 ^ n) (h : bitsN n x = bitsN n y) : x = y := by
  have := congrArg valB h
  rwa [valB_bitsN, valB_bitsN, Nat.mod_eq_of_lt hx, Nat.mod_eq_of_lt hy] at this
/-- A number's lowest bits are a code's. -/
theorem match_iff {v n x : Nat} : x % 2 ^ n = turnV v n ↔ bitsN n x = codeBits v n := by
  constructor
  · intro h
    rw [← bits_turnV, ← h, bitsN_mod]
  · intro h
    refine bitsN_inj (n := n) (Nat.mod_lt _ (Nat.pow_pos (by omega))) (turnV_lt v n) ?_
    rw [bitsN_mod, bits_turnV, h]
theorem qcodes_ok {ls : List Nat} (hok : lensOK ls) : QOk (qcodes ls) := by
  constructor
  · intro c hc
    obtain ⟨s, hs, h0, rfl⟩ := mem_qcodes.1 hc
    have := hok.2.2.1 ls[s] (List.getElem_mem hs)
    simp only; omega
  · intro c hc
    obtain ⟨s, hs, h0, rfl⟩ := mem_qcodes.1 hc
    exact turnV_lt _ _
  · intro c hc c' hc' hle hm
    obtain ⟨s, hs, h0, rfl⟩ := mem_qcodes.1 hc
    obtain ⟨s', hs', h0', rfl⟩ := mem_qcodes.1 hc'
    simp only at hle hm ⊢
    by_cases he : s = s'
    · subst he; rfl
    · exfalso
      rw [match_iff, ← bitsN_take _ _ _ hle, bits_turnV, codeBits_take _ _ _ hle] at hm
      have h15 := hok.2.2.1 ls[s] (List.getElem_mem hs)
      have h15' := hok.2.2.1 ls[s'] (List.getElem_mem hs')
      have h1 := val_lt hok hs h0
      have h2 := val_lt hok hs' h0'
      have hb1 := fst_le hok h15
      have hb2 := fst_le hok h15'
      have e := congrArg tval hm
      rw [tval_codeBits, tval_codeBits, Nat.mod_eq_of_lt (by omega : val ls s < 2 ^ ls[s])] at e
      rw [Nat.mod_eq_of_lt] at e
      · exact val_apart hok hs hs' he h0 h0' hle e.symm
      · refine (Nat.div_lt_iff_lt_mul (Nat.pow_pos (by omega))).2 ?_
        rw [← Nat.pow_add, show ls[s] + (ls[s'] - ls[s]) = ls[s'] by omega]; omega
theorem QOk.sub {Q Q' : List QC} (h : QOk Q) (hs : ∀ c ∈ Q', c ∈ Q) : QOk Q' := ⟨fun c hc => h.len c (hs c hc), fun c hc => h.bits c (hs c hc), fun c hc c' hc' => h.apart c (hs c hc) c' (hs c' hc')⟩
def hitQ (x : Nat) (c : QC) : Bool := x % 2 ^ c.2.2 == c.2.1
theorem hitQ_iff {x : Nat} {c : QC} : hitQ x c = true ↔ x % 2 ^ c.2.2 = c.2.1 := by unfold hitQ; simp
theorem mod_mod_pow (x : Nat) {n m : Nat} (h : n ≤ m) : x % 2 ^ m % 2 ^ n = x % 2 ^ n := Nat.mod_mod_of_dvd x (Nat.pow_dvd_pow 2 h)
/-- No two codes lie in one number. -/
theorem hitQ_one {Q : List QC} (h : QOk Q) {x : Nat} {c c' : QC} (hc : c ∈ Q) (hc' : c' ∈ Q) (h1 : hitQ x c = true) (h2 : hitQ x c' = true) : c = c' := by
  rw [hitQ_iff] at h1 h2
  rcases Nat.le_total c.2.2 c'.2.2 with hle | hle
  · exact h.apart c hc c' hc' hle (by rw [← h2, mod_mod_pow x hle, h1])
  · exact (h.apart c' hc' c hc hle (by rw [← h1, mod_mod_pow x hle, h2])).symm

/-! The rows. -/
def longQ (w m : Nat) (c : QC) : Bool := decide (w < c.2.2) && (c.2.1 % 2 ^ w == m)
def shortQ (w m : Nat) (c : QC) : Bool := decide (c.2.2 ≤ w) && hitQ m c
def longest (Q : List QC) (w m : Nat) : Nat := (Q.filter (longQ w m)).foldl (fun a c => max a c.2.2) 0
def symQ (c : QC) : QR := (c.1, c.2.2, false)
def rowQ (Q : List QC) (w m : Nat) : QR := match Q.find? (shortQ w m) with
  | some c => symQ c
  | none => (0, longest Q w m, decide (0 < longest Q w m))
theorem longest_snoc (Q : List QC) (w m : Nat) (c : QC) : longest (Q ++ [c]) w m = if longQ w m c = true then max (longest Q w m) c.2.2 else longest Q w m := by
  unfold longest
  rw [List.filter_append, List.foldl_append]
  by_cases h : longQ w m c = true
  · rw [if_pos h]; simp [h]
  · rw [if_neg h]; simp [h]
theorem find_none_of {α : Type} {p : α → Bool} {l : List α} (h : ∀ c ∈ l, p c = false) : l.find? p = none := List.find?_eq_none.2 fun c hc => by rw [h c hc]; simp
theorem find_some_of {α : Type} {p : α → Bool} {l : List α} {c : α} (hc : c ∈ l) (hp : p c = true) (hu : ∀ d ∈ l, p d = true → d = c) : l.find? p = some c := by
  cases h : l.find? p with
  | none => exact absurd hp (by have := List.find?_eq_none.1 h c hc; simpa using this)
  | some d => rw [hu d (List.mem_of_find?_eq_some h) (List.find?_some h)]
theorem shortQ_iff {w m : Nat} {c : QC} : shortQ w m c = true ↔ c.2.2 ≤ w ∧ m % 2 ^ c.2.2 = c.2.1 := by unfold shortQ; rw [Bool.and_eq_true, decide_eq_true_eq, hitQ_iff]
theorem longQ_iff {w m : Nat} {c : QC} : longQ w m c = true ↔ w < c.2.2 ∧ c.2.1 % 2 ^ w = m := by unfold longQ; simp
/-- A short code into all rows that begin with it. -/
theorem rowQ_short {Q : List QC} {c : QC} (h : QOk (Q ++ [c])) {w : Nat} (hc : c.2.2 ≤ w) (m : Nat) : rowQ (Q ++ [c]) w m = if m % 2 ^ c.2.2 = c.2.1 then symQ c else rowQ Q w m := by
  have hl : longQ w m c = false := by
    cases hh : longQ w m c with
    | false => rfl
    | true => have := (longQ_iff.1 hh).1; omega
  unfold rowQ
  rw [List.find?_append, longest_snoc, hl]
  by_cases hm : m % 2 ^ c.2.2 = c.2.1
  · rw [if_pos hm]
    cases hq : Q.find? (shortQ w m) with
    | some d =>
      have e := hitQ_one h (List.mem_append_left _ (List.mem_of_find?_eq_some hq)) (List.mem_append_right _ List.mem_cons_self) (hitQ_iff.2 (shortQ_iff.1 (List.find?_some hq)).2) (hitQ_iff.2 hm)
      rw [e]; rfl
    | none => simp [shortQ_iff.2 ⟨hc, hm⟩]
  · rw [if_neg hm]
    have : shortQ w m c = false := by
      cases hh : shortQ w m c with
      | false => rfl
      | true => exact absurd (shortQ_iff.1 hh).2 hm
    cases hq : Q.find? (shortQ w m) with
    | some d => rfl
    | none => simp [this]
/-- A long code into the row of its first bits. -/
theorem rowQ_long {Q : List QC} {c : QC} (h : QOk (Q ++ [c])) {w : Nat} (hc : w < c.2.2) (m : Nat) : rowQ (Q ++ [c]) w m = if m = c.2.1 % 2 ^ w then (0, max (rowQ Q w m).2.1 c.2.2, true) else rowQ Q w m := by
  have hs : shortQ w m c = false := by
    cases hh : shortQ w m c with
    | false => rfl
    | true => have := (shortQ_iff.1 hh).1; omega
  have hlen := h.len c (List.mem_append_right _ List.mem_cons_self)
  unfold rowQ
  rw [List.find?_append, longest_snoc]
  by_cases hm : m = c.2.1 % 2 ^ w
  · rw [if_pos hm]
    have hn : Q.find? (shortQ w m) = none := by
      refine find_none_of fun d hd => ?_
      cases hh : shortQ w m d with
      | false => rfl
      | true =>
        obtain ⟨h1, h2⟩ := shortQ_iff.1 hh
        have e := h.apart d (List.mem_append_left _ hd) c (List.mem_append_right _ List.mem_cons_self) (by omega) (by rw [← h2, hm, mod_mod_pow _ h1])
        rw [e] at h1; omega
    rw [hn, if_pos (longQ_iff.2 ⟨hc, hm.symm⟩)]
    simp [hs]; omega
  · rw [if_neg hm, if_neg (fun hh => hm (longQ_iff.1 hh).2.symm)]
    cases hq : Q.find? (shortQ w m) with
    | some d => rfl
    | none => simp [hs]
theorem rowQ_nil (w m : Nat) : rowQ [] w m = zeroQ := rfl

theorem foldl_max_le : ∀ (l : List QC) (a : Nat), a ≤ l.foldl (fun a c => max a c.2.2) a
  | [], _ => Nat.le_refl _
  | c :: l, a => Nat.le_trans (Nat.le_max_left _ _) (foldl_max_le l _)
theorem foldl_max_mem : ∀ (l : List QC) (a : Nat) (c : QC), c ∈ l → c.2.2 ≤ l.foldl (fun a c => max a c.2.2) a
  | d :: l, a, c, h => by
    rcases List.mem_cons.1 h with rfl | h1
    · exact Nat.le_trans (Nat.le_max_right _ _) (foldl_max_le l _)
    · exact foldl_max_mem l _ c h1
theorem foldl_max_or : ∀ (l : List QC) (a : Nat), l.foldl (fun a c => max a c.2.2) a = a ∨ ∃ c ∈ l, l.foldl (fun a c => max a c.2.2) a = c.2.2
  | [], _ => .inl rfl
  | d :: l, a => by
    simp only [List.foldl_cons]
    rcases foldl_max_or l (max a d.2.2) with h | ⟨c, hc, h⟩
    · rw [h]
      rcases Nat.le_total a d.2.2 with h1 | h1
      · exact .inr ⟨d, List.mem_cons_self, Nat.max_eq_right h1⟩
      · exact .inl (Nat.max_eq_left h1)
    · exact .inr ⟨c, List.mem_cons_of_mem _ hc, h⟩
theorem longest_ge {Q : List QC} {w m : Nat} {c : QC} (hc : c ∈ Q) (h : longQ w m c = true) : c.2.2 ≤ longest Q w m := foldl_max_mem _ _ _ (List.mem_filter.2 ⟨hc, h⟩)
theorem longest_in {Q : List QC} {w m : Nat} (h : 0 < longest Q w m) : ∃ c ∈ Q, longQ w m c = true ∧ longest Q w m = c.2.2 := by
  rcases foldl_max_or (Q.filter (longQ w m)) 0 with h1 | ⟨c, hc, h1⟩
  · have h2 : longest Q w m = 0 := h1
    omega
  · obtain ⟨hc, hl⟩ := List.mem_filter.1 hc
    exact ⟨c, hc, hl, h1⟩
theorem longest_le {Q : List QC} (h : QOk Q) (w m : Nat) : longest Q w m ≤ 15 := by
  rcases Nat.eq_zero_or_pos (longest Q w m) with h0 | h0
  · omega
  · obtain ⟨c, hc, _, e⟩ := longest_in h0
    have := (h.len c hc).2; omega

/-! The rows behind a deep one. -/
def deepQ (w m j : Nat) (c : QC) : Bool := longQ w m c && (j % 2 ^ (c.2.2 - w) == c.2.1 / 2 ^ w)
def moreQ (Q : List QC) (w m j : Nat) : QR := match Q.find? (deepQ w m j) with
  | some c => symQ c
  | none => zeroQ
theorem deepQ_iff {w m j : Nat} {c : QC} : deepQ w m j c = true ↔ (w < c.2.2 ∧ c.2.1 % 2 ^ w = m) ∧ j % 2 ^ (c.2.2 - w) = c.2.1 / 2 ^ w := by unfold deepQ; rw [Bool.and_eq_true, longQ_iff, beq_iff_eq]
theorem join_mod {w m j n : Nat} (hm : m < 2 ^ w) (hn : w ≤ n) : (m + 2 ^ w * j) % 2 ^ n = m + 2 ^ w * (j % 2 ^ (n - w)) := by
  obtain ⟨d, rfl⟩ : ∃ d, n = w + d := ⟨n - w, by omega⟩
  rw [Nat.pow_add, Nat.mod_mul, Nat.add_mul_mod_self_left, Nat.mod_eq_of_lt hm, Nat.add_mul_div_left _ _ (Nat.pow_pos (by omega)), Nat.div_eq_of_lt hm, Nat.zero_add, Nat.add_sub_cancel_left]
theorem deepQ_hit {w m j : Nat} {c : QC} (hm : m < 2 ^ w) (h : deepQ w m j c = true) : hitQ (m + 2 ^ w * j) c = true := by
  obtain ⟨⟨h1, h2⟩, h3⟩ := deepQ_iff.1 h
  rw [hitQ_iff, join_mod hm (by omega), h3, ← h2]
  exact Nat.mod_add_div _ _
theorem moreQ_long {Q : List QC} {c : QC} (h : QOk (Q ++ [c])) {w m : Nat} (hm : m < 2 ^ w) (hc : longQ w m c = true) (j : Nat) : moreQ (Q ++ [c]) w m j = if j % 2 ^ (c.2.2 - w) = c.2.1 / 2 ^ w then symQ c else moreQ Q w m j := by
  unfold moreQ
  rw [List.find?_append]
  by_cases hj : j % 2 ^ (c.2.2 - w) = c.2.1 / 2 ^ w
  · rw [if_pos hj]
    have hd := deepQ_iff.2 ⟨longQ_iff.1 hc, hj⟩
    cases hq : Q.find? (deepQ w m j) with
    | some d =>
      have e := hitQ_one h (List.mem_append_left _ (List.mem_of_find?_eq_some hq)) (List.mem_append_right _ List.mem_cons_self) (deepQ_hit hm (List.find?_some hq)) (deepQ_hit hm hd)
      rw [e]; rfl
    | none => simp [hd]
  · rw [if_neg hj]
    have : deepQ w m j c = false := by
      cases hh : deepQ w m j c with
      | false => rfl
      | true => exact absurd (deepQ_iff.1 hh).2 hj
    cases hq : Q.find? (deepQ w m j) with
    | some d => rfl
    | none => simp [this]
theorem moreQ_skip {Q : List QC} {c : QC} {w m : Nat} (hc : longQ w m c = false) (j : Nat) : moreQ (Q ++ [c]) w m j = moreQ Q w m j := by
  unfold moreQ
  rw [List.find?_append]
  have : deepQ w m j c = false := by unfold deepQ; rw [hc]; rfl
  cases hq : Q.find? (deepQ w m j) with
  | some d => rfl
  | none => simp [this]
theorem moreQ_nil (w m j : Nat) : moreQ [] w m j = zeroQ := rfl

/-! The row of the bits that come. -/
def findQ (Q : List QC) (w x : Nat) : QR := if (rowQ Q w (x % 2 ^ w)).2.2 = true then moreQ Q w (x % 2 ^ w) (x / 2 ^ w % 2 ^ ((rowQ Q w (x % 2 ^ w)).2.1 - w)) else rowQ Q w (x % 2 ^ w)
theorem findQ_eq {Q : List QC} (h : QOk Q) (w x : Nat) : findQ Q w x = match Q.find? (hitQ x) with
    | some c => symQ c
    | none => zeroQ := by
  have hm : x % 2 ^ w < 2 ^ w := Nat.mod_lt _ (Nat.pow_pos (by omega))
  have hsx : ∀ d ∈ Q, shortQ w (x % 2 ^ w) d = true → hitQ x d = true := by
    intro d hd hh
    obtain ⟨h1, h2⟩ := shortQ_iff.1 hh
    rw [hitQ_iff, ← h2, mod_mod_pow _ h1]
  have hdx : ∀ d ∈ Q, deepQ w (x % 2 ^ w) (x / 2 ^ w % 2 ^ (longest Q w (x % 2 ^ w) - w)) d = true → hitQ x d = true := by
    intro d hd hh
    have h0 := deepQ_hit hm hh
    have hl := (deepQ_iff.1 hh).1
    have hge := longest_ge hd (longQ_iff.2 hl)
    rw [hitQ_iff, join_mod hm (by omega), mod_mod_pow _ (by omega)] at h0
    rw [hitQ_iff, ← h0]
    have := join_mod (j := x / 2 ^ w) hm (show w ≤ d.2.2 by omega)
    rw [Nat.mod_add_div] at this
    exact this
  unfold findQ
  cases hq : Q.find? (hitQ x) with
  | some c =>
    have hc := List.mem_of_find?_eq_some hq
    have hcx := List.find?_some hq
    by_cases hn : c.2.2 ≤ w
    · have : rowQ Q w (x % 2 ^ w) = symQ c := by
        unfold rowQ
        rw [find_some_of hc (shortQ_iff.2 ⟨hn, by rw [mod_mod_pow _ hn]; exact hitQ_iff.1 hcx⟩) fun d hd hh => hitQ_one h hd hc (hsx d hd hh) hcx]
      rw [this]; rfl
    · have hcl : longQ w (x % 2 ^ w) c = true := longQ_iff.2 ⟨by omega, by rw [← hitQ_iff.1 hcx, mod_mod_pow _ (by omega)]⟩
      have hge := longest_ge hc hcl
      have : rowQ Q w (x % 2 ^ w) = (0, longest Q w (x % 2 ^ w), true) := by
        unfold rowQ
        rw [find_none_of fun d hd => ?_]
        · simp only; rw [decide_eq_true (by omega)]
        · cases hh : shortQ w (x % 2 ^ w) d with
          | false => rfl
          | true =>
            have e := hitQ_one h hd hc (hsx d hd hh) hcx
            have := (shortQ_iff.1 hh).1
            rw [e] at this; omega
      rw [this]
      simp only [if_true]
      unfold moreQ
      rw [find_some_of hc (deepQ_iff.2 ⟨longQ_iff.1 hcl, ?_⟩) fun d hd hh => hitQ_one h hd hc (hdx d hd hh) hcx]
      rw [mod_mod_pow _ (by omega), ← hitQ_iff.1 hcx]
      obtain ⟨e, he⟩ : ∃ e, c.2.2 = w + e := ⟨c.2.2 - w, by omega⟩
      rw [he, Nat.add_sub_cancel_left, Nat.pow_add, Nat.mod_mul_right_div_self]
  | none =>
    have hnone := List.find?_eq_none.1 hq
    have hs : Q.find? (shortQ w (x % 2 ^ w)) = none := find_none_of fun d hd => by
      cases hh : shortQ w (x % 2 ^ w) d with
      | false => rfl
      | true => exact absurd (hsx d hd hh) (hnone d hd)
    have hr : rowQ Q w (x % 2 ^ w) = (0, longest Q w (x % 2 ^ w), decide (0 < longest Q w (x % 2 ^ w))) := by unfold rowQ; rw [hs]
    rw [hr]
    simp only [decide_eq_true_eq]
    by_cases h0 : 0 < longest Q w (x % 2 ^ w)
    · rw [if_pos h0]
      unfold moreQ
      rw [find_none_of fun d hd => ?_]
      cases hh : deepQ w (x % 2 ^ w) (x / 2 ^ w % 2 ^ (longest Q w (x % 2 ^ w) - w)) d with
      | false => rfl
      | true => exact absurd (hdx d hd hh) (hnone d hd)
    · rw [if_neg h0, decide_eq_false h0, show longest Q w (x % 2 ^ w) = 0 by omega]; rfl
end Go.Bn
