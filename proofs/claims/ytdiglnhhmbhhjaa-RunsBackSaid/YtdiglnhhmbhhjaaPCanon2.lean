/- Plain: bits of codes, and how a symbol is taken of bits. -/
import Derived.Test.YtdiglnhhmbhhjaaPCanon
set_option linter.unusedVariables false
set_option linter.unusedSimpArgs false
namespace Go.Bn
/-- A number's lowest bits, the highest one of them first. -/
def codeBits : Nat → Nat → List Bool
  | _, 0 => []
  | v, n + 1 => codeBits (v / 2) n ++ [v % 2 == 1]
theorem codeBits_length : ∀ (n v : Nat), (codeBits v n).length = n
  | 0, _ => rfl
  | n + 1, v => by simp [codeBits, codeBits_length n]
theorem codeBits_cons : ∀ (n v : Nat), codeBits v (n + 1) = (v / 2 ^ n % 2 == 1) :: codeBits v n
  | 0, v => by simp [codeBits]
  | n + 1, v => by
    rw [codeBits, codeBits_cons n (v / 2), codeBits, List.cons_append, Nat.div_div_eq_div_mul, ← Nat.pow_add_one', ]
theorem codeBits_take : ∀ (n k v : Nat), k ≤ n → (codeBits v n).take k = codeBits (v / 2 ^ (n - k)) k
  | 0, k, v, h => by obtain rfl : k = 0 := by omega
                     rfl
  | n + 1, k, v, h => by
    rcases Nat.lt_or_ge n k with h1 | h1
    · obtain rfl : k = n + 1 := by omega
      rw [Nat.sub_self, Nat.pow_zero, Nat.div_one, List.take_of_length_le (by rw [codeBits_length]; omega)]
    · rw [codeBits, List.take_append_of_le_length (by rw [codeBits_length]; omega), codeBits_take n k _ h1, Nat.div_div_eq_div_mul, ← Nat.pow_add_one', show n - k + 1 = n + 1 - k by omega]
/-- The number of bits, the highest one first. -/
def tval (bs : List Bool) : Nat := bs.foldl (fun v b => v * 2 + b.toNat) 0
theorem tval_nil : tval [] = 0 := rfl
theorem tval_snoc (bs : List Bool) (b : Bool) : tval (bs ++ [b]) = tval bs * 2 + b.toNat := by simp [tval]
theorem tval_codeBits : ∀ (n v : Nat), tval (codeBits v n) = v % 2 ^ n
  | 0, v => by simp [codeBits, tval, Nat.mod_one]
  | n + 1, v => by
    rw [codeBits, tval_snoc, tval_codeBits n, mod2_toNat, Nat.pow_succ, Nat.mul_comm (2 ^ n) 2, Nat.mod_mul]; omega
theorem tval_take_succ (bs : List Bool) {n : Nat} (h : n < bs.length) : tval (bs.take (n + 1)) = tval (bs.take n) * 2 + (bs[n]).toNat := by
  rw [List.take_succ_eq_append_getElem h, tval_snoc]
theorem tval_lt (bs : List Bool) : ∀ n, tval (bs.take n) < 2 ^ n
  | 0 => by simp [tval]
  | n + 1 => by
    have ih := tval_lt bs n
    rw [Nat.pow_succ]
    rcases Nat.lt_or_ge n bs.length with h | h
    · rw [tval_take_succ bs h]
      have : (bs[n]).toNat ≤ 1 := Bool.toNat_le _
      omega
    · rw [show bs.take (n + 1) = bs.take n by rw [List.take_of_length_le (by omega), List.take_of_length_le h]]; omega
def hitC (ls : List Nat) (v n : Nat) : Prop := fst ls n ≤ v ∧ v < fst ls n + cn ls n
instance (ls : List Nat) (v n : Nat) : Decidable (hitC ls v n) := by unfold hitC; infer_instance
/-- Bits that begin a code that is longer. -/
def beginC (ls : List Nat) (v n k : Nat) : Prop := 0 < cn ls k ∧ fst ls k < (v + 1) * 2 ^ (k - n) ∧ v * 2 ^ (k - n) < fst ls k + cn ls k
instance (ls : List Nat) (v n k : Nat) : Decidable (beginC ls v n k) := by unfold beginC; infer_instance
def overC (ls : List Nat) (v n : Nat) : Prop := ∀ k, n < k → k < 16 → ¬ beginC ls v n k
open Classical in
noncomputable def overB (ls : List Nat) (v n : Nat) : Bool := decide (overC ls v n)
theorem overB_iff {ls : List Nat} {v n : Nat} : overB ls v n = true ↔ overC ls v n := by unfold overB; exact @decide_eq_true_iff _ (Classical.propDecidable _)
def symAt (ls : List Nat) (n j : Nat) : Nat := (ofLen ls n ls.length).getD j 0
/-- What Take tells: the symbol, its code's length, the error. -/
noncomputable def takeGo (ls : List Nat) (bs : List Bool) (left : Nat) : Nat → Nat → Nat × Nat × Nat
  | 0, _ => (0, 0, 2)
  | f + 1, n =>
    if left < n then (0, 0, 2)
    else if hitC ls (tval (bs.take n)) n then (symAt ls n (tval (bs.take n) - fst ls n), n, 0)
    else if overB ls (tval (bs.take n)) n = true then (0, 0, 13)
    else takeGo ls bs left f (n + 1)
noncomputable def takeC (ls : List Nat) (bs : List Bool) : Nat × Nat × Nat := takeGo ls bs (min bs.length 15) 16 1
theorem takeGo_end {ls : List Nat} {bs : List Bool} {left n : Nat} (h : left < n) : ∀ f, takeGo ls bs left f n = (0, 0, 2)
  | 0 => rfl
  | f + 1 => by rw [takeGo, if_pos h]
theorem takeGo_le (ls : List Nat) (bs : List Bool) (left : Nat) : ∀ f n, (takeGo ls bs left f n).2.1 ≤ left
  | 0, _ => Nat.zero_le _
  | f + 1, n => by
    rw [takeGo]
    split
    · exact Nat.zero_le _
    · split
      · simp only; omega
      · split
        · exact Nat.zero_le _
        · exact takeGo_le ls bs left f (n + 1)
theorem takeC_le (ls : List Nat) (bs : List Bool) : (takeC ls bs).2.1 ≤ bs.length := Nat.le_trans (takeGo_le ls bs _ _ _) (Nat.min_le_left _ _)

/-! What is put is taken. -/
theorem fst_next {ls : List Nat} {n : Nat} : ∀ {m : Nat}, n ≤ m → (fst ls n + cn ls n) * 2 ^ (m + 1 - n) ≤ fst ls (m + 1)
  | m, h => by
    rcases Nat.eq_or_lt_of_le h with rfl | h1
    · rw [show n + 1 - n = 1 by omega, fst]; omega
    · obtain ⟨k, rfl⟩ : ∃ k, m = k + 1 := ⟨m - 1, by omega⟩
      have ih := fst_next (ls := ls) (n := n) (m := k) (by omega)
      rw [fst, show k + 1 + 1 - n = (k + 1 - n) + 1 by omega, Nat.pow_succ, ← Nat.mul_assoc]
      omega
theorem ofLen_split {ls : List Nat} {s : Nat} (hs : s < ls.length) : ∀ t, s < t → t ≤ ls.length → ∃ r, ofLen ls ls[s] t = ofLen ls ls[s] s ++ s :: r
  | 0, h, _ => by omega
  | t + 1, h, ht => by
    rw [ofLen_succ (by omega)]
    rcases Nat.eq_or_lt_of_le (show s ≤ t by omega) with rfl | h1
    · rw [if_pos rfl]; exact ⟨[], rfl⟩
    · obtain ⟨r, hr⟩ := ofLen_split hs t h1 (by omega)
      rw [hr]
      exact ⟨r ++ _, by rw [List.append_assoc]; rfl⟩
theorem symAt_val {ls : List Nat} {s : Nat} (hs : s < ls.length) : symAt ls ls[s] ((ls.take s).count ls[s]) = s := by
  obtain ⟨r, hr⟩ := ofLen_split hs ls.length hs (Nat.le_refl _)
  unfold symAt
  rw [hr]
  have hl := ofLen_length ls ls[s] s (by omega)
  rw [List.getD, List.getElem?_append_right (by omega), hl]; simp
theorem getD_get {ls : List Nat} {s : Nat} (hs : s < ls.length) : ls.getD s 0 = ls[s] := by simp [List.getD, hs]
theorem val_eq {ls : List Nat} {s : Nat} (hs : s < ls.length) (h0 : ls[s] ≠ 0) : val ls s = fst ls ls[s] + (ls.take s).count ls[s] := by
  unfold val
  rw [getD_get hs, if_neg h0]
theorem takeC_put {ls : List Nat} (hok : lensOK ls) {s : Nat} (hs : s < ls.length) (h0 : ls[s] ≠ 0) (r : List Bool) : takeC ls (codeBits (val ls s) ls[s] ++ r) = (s, ls[s], 0) := by
  obtain ⟨hv2, hv1⟩ := val_lt hok hs h0
  have hn15 := hok.2.2.1 ls[s] (List.getElem_mem hs)
  have hbd := fst_le hok hn15
  have hve := val_eq hs h0
  have hsy := symAt_val hs
  generalize ls[s] = n at *
  generalize val ls s = v at *
  have htk : ∀ k, k ≤ n → tval ((codeBits v n ++ r).take k) = v / 2 ^ (n - k) := by
    intro k hk
    rw [List.take_append_of_le_length (by rw [codeBits_length]; exact hk), codeBits_take n k v hk, tval_codeBits]
    refine Nat.mod_eq_of_lt ((Nat.div_lt_iff_lt_mul (Nat.pow_pos (by omega))).2 ?_)
    rw [← Nat.pow_add, show k + (n - k) = n by omega]; omega
  have hgo : ∀ j f k, j + k = n → j < f → 1 ≤ k → takeGo ls (codeBits v n ++ r) (min (codeBits v n ++ r).length 15) f k = (s, n, 0) := by
    intro j
    induction j with
    | zero =>
      intro f k hk hf h1
      obtain rfl : k = n := by omega
      obtain ⟨f, rfl⟩ : ∃ g, f = g + 1 := ⟨f - 1, by omega⟩
      rw [takeGo, if_neg (by rw [List.length_append, codeBits_length]; omega), htk k (Nat.le_refl _), Nat.sub_self, Nat.pow_zero, Nat.div_one, if_pos ⟨hv1, hv2⟩, show v - fst ls k = (ls.take s).count k by omega, hsy]
    | succ j ih =>
      intro f k hk hf h1
      obtain ⟨f, rfl⟩ : ∃ g, f = g + 1 := ⟨f - 1, by omega⟩
      have hp : 0 < 2 ^ (n - k) := Nat.pow_pos (by omega)
      have hnx := fst_next (ls := ls) (n := k) (m := n - 1) (by omega)
      rw [show n - 1 + 1 = n by omega] at hnx
      have h2 : fst ls k + cn ls k ≤ v / 2 ^ (n - k) := (Nat.le_div_iff_mul_le hp).2 (by omega)
      rw [takeGo, if_neg (by rw [List.length_append, codeBits_length]; omega), htk k (by omega), if_neg (fun hh => by have := hh.2; omega), if_neg ?_]
      · exact ih f (k + 1) (by omega) (by omega) (by omega)
      · rw [overB_iff]
        intro ho
        refine ho n (by omega) (by omega) ⟨by omega, ?_, ?_⟩
        · exact Nat.lt_of_le_of_lt hv1 (by have := Nat.lt_div_mul_add (a := v) hp; rw [Nat.add_mul]; omega)
        · have := Nat.div_mul_le_self v (2 ^ (n - k)); omega
  exact hgo (n - 1) 16 1 (by omega) (by omega) (by omega)

/-! No code begins another one's. -/
theorem val_apart {ls : List Nat} (hok : lensOK ls) {i k : Nat} (hi : i < ls.length) (hk : k < ls.length) (hne : i ≠ k) (h1 : ls[i] ≠ 0) (h2 : ls[k] ≠ 0) (hle : ls[i] ≤ ls[k]) : val ls i ≠ val ls k / 2 ^ (ls[k] - ls[i]) := by
  obtain ⟨hv2, hv1⟩ := val_lt hok hi h1
  obtain ⟨hw2, hw1⟩ := val_lt hok hk h2
  rcases Nat.eq_or_lt_of_le hle with h | h
  · rw [h, Nat.sub_self, Nat.pow_zero, Nat.div_one, val_eq hi h1, val_eq hk h2, h]
    have key : ∀ a b : Nat, a < b → (ha : a < ls.length) → (ls.take a).count ls[a] + 1 ≤ (ls.take b).count ls[a] := by
      intro a b hab ha
      have h1 := count_take_succ ha ls[a]
      rw [if_pos rfl] at h1
      rw [← h1]
      exact (List.take_sublist_take_left (by omega)).count_le _
    rcases Nat.lt_or_ge i k with h3 | h3
    · have := key i k h3 hi; rw [h] at this; omega
    · have := key k i (by omega) hk; omega
  · have hp : 0 < 2 ^ (ls[k] - ls[i]) := Nat.pow_pos (by omega)
    have hnx := fst_next (ls := ls) (n := ls[i]) (m := ls[k] - 1) (by omega)
    rw [show ls[k] - 1 + 1 = ls[k] by omega] at hnx
    have h2 : fst ls ls[i] + cn ls ls[i] ≤ val ls k / 2 ^ (ls[k] - ls[i]) := (Nat.le_div_iff_mul_le hp).2 (by omega)
    omega

/-! Lengths that leave nothing over. -/
theorem takeC_full {ls : List Nat} (hok : lensOK ls) (hf : kraft ls = 32768) (bs : List Bool) (hb : 15 ≤ bs.length) : (takeC ls bs).2.2 = 0 := by
  have h15 : fst ls 15 + cn ls 15 = 32768 := by
    have := part_fst ls 15 (Nat.le_refl _)
    rw [part_kraft ls hok.2.2.1, hf] at this
    simpa using this
  have hlt := tval_lt bs
  have over : ∀ n, 1 ≤ n → n ≤ 15 → fst ls n + cn ls n ≤ tval (bs.take n) → ¬ overC ls (tval (bs.take n)) n := by
    intro n h1 h2 h3 ho
    have hl := hlt n
    generalize tval (bs.take n) = v at *
    have key : ∀ d, n + d ≤ 15 → fst ls (n + d) + cn ls (n + d) ≤ v * 2 ^ d := by
      intro d
      induction d with
      | zero => intro _; simpa using h3
      | succ d ih =>
        intro hd
        have ih := ih (by omega)
        have hfs : fst ls (n + (d + 1)) = (fst ls (n + d) + cn ls (n + d)) * 2 := rfl
        have hb := ho (n + (d + 1)) (by omega) (by omega)
        rw [beginC, show n + (d + 1) - n = d + 1 by omega, Nat.add_mul] at hb
        have hp : 0 < 2 ^ d := Nat.pow_pos (by omega)
        rw [Nat.pow_succ, ← Nat.mul_assoc] at hb ⊢
        rcases Nat.eq_zero_or_pos (cn ls (n + (d + 1))) with h0 | h0
        · omega
        · by_cases hx : v * 2 ^ d * 2 < fst ls (n + (d + 1)) + cn ls (n + (d + 1))
          · exact absurd ⟨h0, by omega, hx⟩ hb
          · omega
    have := key (15 - n) (by omega)
    rw [show n + (15 - n) = 15 by omega, h15] at this
    have h4 : v * 2 ^ (15 - n) < 2 ^ n * 2 ^ (15 - n) := Nat.mul_lt_mul_of_pos_right hl (Nat.pow_pos (by omega))
    rw [← Nat.pow_add, show n + (15 - n) = 15 by omega] at h4
    omega
  have go : ∀ j f n, j + n = 15 → j < f → 1 ≤ n → fst ls n ≤ tval (bs.take n) → (takeGo ls bs (min bs.length 15) f n).2.2 = 0 := by
    intro j
    induction j with
    | zero =>
      intro f n hn hf h1 hv
      obtain rfl : n = 15 := by omega
      obtain ⟨f, rfl⟩ : ∃ g, f = g + 1 := ⟨f - 1, by omega⟩
      have := hlt 15
      rw [takeGo, if_neg (by omega), if_pos ⟨hv, by omega⟩]
    | succ j ih =>
      intro f n hn hf h1 hv
      obtain ⟨f, rfl⟩ : ∃ g, f = g + 1 := ⟨f - 1, by omega⟩
      rw [takeGo, if_neg (by omega)]
      by_cases hh : hitC ls (tval (bs.take n)) n
      · rw [if_pos hh]
      · have h3 : fst ls n + cn ls n ≤ tval (bs.take n) := by
          rcases Nat.lt_or_ge (tval (bs.take n)) (fst ls n + cn ls n) with h | h
          · exact absurd ⟨hv, h⟩ hh
          · exact h
        rw [if_neg hh, if_neg (by rw [overB_iff]; exact over n h1 (by omega) h3)]
        refine ih f (n + 1) (by omega) (by omega) (by omega) ?_
        rw [tval_take_succ bs (by omega), fst]; omega
  refine go 14 16 1 rfl (by omega) (by omega) ?_
  show (fst ls 0 + cn ls 0) * 2 ≤ _
  simp [fst, cn]
end Go.Bn
