/- Plain: what stands at the beginning of bits, by a code. -/
import Derived.Test.YtdiglnhhmbhhjaaPQuick
set_option linter.unusedVariables false
set_option linter.unusedSimpArgs false
namespace Go.Bn
def beginQ (left x : Nat) (c : QC) : Bool := decide (left < c.2.2) && (c.2.1 % 2 ^ left == x % 2 ^ left)
def shortB (Q : List QC) (left x : Nat) : Bool := Q.any (beginQ left x)
theorem beginQ_iff {left x : Nat} {c : QC} : beginQ left x c = true ↔ left < c.2.2 ∧ c.2.1 % 2 ^ left = x % 2 ^ left := by unfold beginQ; simp
theorem shortB_true {Q : List QC} {left x : Nat} {c : QC} (hc : c ∈ Q) (h : beginQ left x c = true) : shortB Q left x = true := List.any_eq_true.2 ⟨c, hc, h⟩
theorem shortB_false {Q : List QC} {left x : Nat} (h : ∀ c ∈ Q, beginQ left x c = false) : shortB Q left x = false := by
  unfold shortB
  rw [List.any_eq_false]
  intro c hc; rw [h c hc]; simp

/-- The whole code stands there. -/
def matchQ (bs : List Bool) (c : QC) : Bool := decide (c.2.2 ≤ bs.length) && hitQ (valB (bs.take 15)) c
def takeS (Q : List QC) (bs : List Bool) : Nat × Nat × Nat := match Q.find? (matchQ bs) with
  | some c => (c.1, c.2.2, 0)
  | none => if shortB Q bs.length (valB (bs.take 15)) = true then (0, 0, 2) else (0, 0, 13)
theorem matchQ_iff {bs : List Bool} {c : QC} : matchQ bs c = true ↔ c.2.2 ≤ bs.length ∧ hitQ (valB (bs.take 15)) c = true := by unfold matchQ; simp
/-! The code's own way. -/
theorem ofLen_at {ls : List Nat} {n : Nat} : ∀ (t j s : Nat), t ≤ ls.length → (ofLen ls n t)[j]? = some s → ∃ h : s < ls.length, ls[s] = n ∧ (ls.take s).count n = j
  | 0, j, s, _, h => by simp [ofLen] at h
  | t + 1, j, s, ht, h => by
    rw [ofLen_succ (by omega)] at h
    have hlen := ofLen_length ls n t (by omega)
    rcases Nat.lt_or_ge j (ofLen ls n t).length with h1 | h1
    · rw [List.getElem?_append_left h1] at h
      exact ofLen_at t j s (by omega) h
    · rw [List.getElem?_append_right h1] at h
      split at h
      · rename_i he
        have hj : j - (ofLen ls n t).length = 0 := by
          have := (List.getElem?_eq_some_iff.1 h).1
          simp at this; omega
        rw [hj] at h
        obtain rfl : t = s := by simpa using h
        exact ⟨by omega, he, by omega⟩
      · simp at h
theorem symAt_spec {ls : List Nat} {n j : Nat} (hn : n ≠ 0) (hj : j < cn ls n) : ∃ h : symAt ls n j < ls.length, ls[symAt ls n j] = n ∧ (ls.take (symAt ls n j)).count n = j := by
  have hlen : (ofLen ls n ls.length).length = cn ls n := by rw [ofLen_length ls n _ (Nat.le_refl _), List.take_length, cn_pos ls hn]
  have hg : (ofLen ls n ls.length)[j]? = some (symAt ls n j) := by
    unfold symAt
    rw [List.getD, List.getElem?_eq_getElem (by omega)]; rfl
  exact ofLen_at ls.length j _ (Nat.le_refl _) hg
/-- A number of bits, of the symbol it is. -/
theorem hitC_sym {ls : List Nat} {v n : Nat} (hn : n ≠ 0) (h : hitC ls v n) : ∃ hs : symAt ls n (v - fst ls n) < ls.length, ls[symAt ls n (v - fst ls n)] = n ∧ val ls (symAt ls n (v - fst ls n)) = v := by
  obtain ⟨h1, h2⟩ := h
  obtain ⟨hs, e1, e2⟩ := symAt_spec (ls := ls) (n := n) (j := v - fst ls n) hn (by omega)
  refine ⟨hs, e1, ?_⟩
  rw [val_eq hs (by rw [e1]; exact hn), e1, e2]; omega
theorem bits_take15 (bs : List Bool) {n : Nat} (hn : n ≤ 15) (hl : n ≤ bs.length) : bitsN n (valB (bs.take 15)) = bs.take n := by
  have h1 := bitsN_valB (bs.take 15)
  have h2 := bitsN_take n (bs.take 15).length (valB (bs.take 15)) (by rw [List.length_take]; omega)
  rw [← h2, h1, List.take_take, Nat.min_eq_left hn]
theorem tval_inj : ∀ {n : Nat} {a b : List Bool}, a.length = n → b.length = n → tval a = tval b → a = b := by
  intro n a b ha hb h
  have h1 := tval_reverse a.reverse
  have h2 := tval_reverse b.reverse
  rw [List.reverse_reverse] at h1 h2
  have e : valB a.reverse = valB b.reverse := by rw [← h1, ← h2, h]
  have h3 := bitsN_valB a.reverse
  have h4 := bitsN_valB b.reverse
  rw [List.length_reverse, ha] at h3
  rw [List.length_reverse, hb] at h4
  rw [← List.reverse_inj, ← h3, ← h4, e]
/-- A code, by its symbol, stands at the beginning of bits. -/
theorem hit_sym {ls : List Nat} (hok : lensOK ls) {s : Nat} (hs : s < ls.length) (h0 : ls[s] ≠ 0) (bs : List Bool) (hl : ls[s] ≤ bs.length) :
    hitQ (valB (bs.take 15)) (s, turnV (val ls s) ls[s], ls[s]) = true ↔ tval (bs.take ls[s]) = val ls s := by
  have h15 := hok.2.2.1 ls[s] (List.getElem_mem hs)
  have hv := val_lt hok hs h0
  have hb := fst_le hok h15
  rw [hitQ_iff]
  simp only
  rw [match_iff, bits_take15 bs h15 hl]
  constructor
  · intro e; rw [e, tval_codeBits, Nat.mod_eq_of_lt (by omega)]
  · intro e
    refine tval_inj (n := ls[s]) (by rw [List.length_take]; omega) (codeBits_length _ _) ?_
    rw [tval_codeBits, Nat.mod_eq_of_lt (by omega), e]
/-- Bits, fewer than a code has, are what it begins with. -/
theorem begin_sym {ls : List Nat} (hok : lensOK ls) {s n : Nat} (hs : s < ls.length) (h0 : ls[s] ≠ 0) (hn : n < ls[s]) (bs : List Bool) (hl : n ≤ bs.length) :
    (turnV (val ls s) ls[s]) % 2 ^ n = valB (bs.take 15) % 2 ^ n ↔ tval (bs.take n) = val ls s / 2 ^ (ls[s] - n) := by
  have h15 := hok.2.2.1 ls[s] (List.getElem_mem hs)
  have hv := val_lt hok hs h0
  have hb := fst_le hok h15
  have hp : 0 < 2 ^ n := Nat.pow_pos (by omega)
  have hd : val ls s / 2 ^ (ls[s] - n) < 2 ^ n := by
    refine (Nat.div_lt_iff_lt_mul (Nat.pow_pos (by omega))).2 ?_
    rw [← Nat.pow_add, show n + (ls[s] - n) = ls[s] by omega]; omega
  have e1 : bitsN n (turnV (val ls s) ls[s]) = codeBits (val ls s / 2 ^ (ls[s] - n)) n := by
    rw [← bitsN_take n ls[s] _ (by omega), bits_turnV, codeBits_take _ _ _ (by omega)]
  constructor
  · intro e
    have e2 : bitsN n (turnV (val ls s) ls[s]) = bitsN n (valB (bs.take 15)) := by rw [← bitsN_mod, e, bitsN_mod]
    rw [e1, bits_take15 bs (by omega) hl] at e2
    rw [← e2, tval_codeBits, Nat.mod_eq_of_lt hd]
  · intro e
    refine bitsN_inj (n := n) (Nat.mod_lt _ hp) (Nat.mod_lt _ hp) ?_
    rw [bitsN_mod, bitsN_mod, e1, bits_take15 bs (by omega) hl]
    refine tval_inj (n := n) (codeBits_length _ _) (by rw [List.length_take]; omega) ?_
    rw [tval_codeBits, Nat.mod_eq_of_lt hd, e]
/-- No code goes on from these bits. -/
theorem over_iff {ls : List Nat} (hok : lensOK ls) {n : Nat} (v : Nat) : overC ls v n ↔ ∀ s, (hs : s < ls.length) → ls[s] ≠ 0 → n < ls[s] → val ls s / 2 ^ (ls[s] - n) ≠ v := by
  constructor
  · intro ho s hs h0 hn e
    have h15 := hok.2.2.1 ls[s] (List.getElem_mem hs)
    obtain ⟨hv2, hv1⟩ := val_lt hok hs h0
    have hp : 0 < 2 ^ (ls[s] - n) := Nat.pow_pos (by omega)
    refine ho ls[s] hn (by omega) ⟨by omega, ?_, ?_⟩
    · have := Nat.lt_div_mul_add (a := val ls s) hp
      rw [e] at this
      rw [Nat.add_mul]; omega
    · have := Nat.div_mul_le_self (val ls s) (2 ^ (ls[s] - n))
      rw [e] at this; omega
  · intro ha k hk hk2 hb
    obtain ⟨b1, b2, b3⟩ := hb
    have hp : 0 < 2 ^ (k - n) := Nat.pow_pos (by omega)
    -- a number in both rows
    obtain ⟨u, hu1, hu2, hu3, hu4⟩ : ∃ u, fst ls k ≤ u ∧ u < fst ls k + cn ls k ∧ v * 2 ^ (k - n) ≤ u ∧ u < (v + 1) * 2 ^ (k - n) := by
      rcases Nat.le_total (fst ls k) (v * 2 ^ (k - n)) with h1 | h1
      · exact ⟨v * 2 ^ (k - n), h1, b3, Nat.le_refl _, by rw [Nat.add_mul]; omega⟩
      · exact ⟨fst ls k, Nat.le_refl _, by omega, h1, b2⟩
    obtain ⟨hs, e1, e2⟩ := hitC_sym (ls := ls) (v := u) (n := k) (by omega) ⟨hu1, hu2⟩
    refine ha _ hs (by rw [e1]; omega) (by rw [e1]; exact hk) ?_
    rw [e1, e2]
    refine Nat.le_antisymm ?_ ?_
    · have : u / 2 ^ (k - n) < v + 1 := (Nat.div_lt_iff_lt_mul hp).2 hu4
      omega
    · exact (Nat.le_div_iff_mul_le hp).2 hu3
theorem some_code {ls : List Nat} (hok : lensOK ls) : ∃ s, ∃ hs : s < ls.length, ls[s] ≠ 0 := by
  refine Classical.byContradiction fun hn => ?_
  have hz : ls.sum = 0 := by
    rw [List.sum_eq_zero_iff_forall_eq_nat]
    intro x hx
    obtain ⟨s, hs, rfl⟩ := List.getElem_of_mem hx
    exact Classical.byContradiction fun h0 => hn ⟨s, hs, h0⟩
  have hk := kraft_zero ls hz
  rcases hok.2.2.2 with h | h <;> omega
theorem short_nil {ls : List Nat} (hok : lensOK ls) (x : Nat) : shortB (qcodes ls) 0 x = true := by
  obtain ⟨s, hs, h0⟩ := some_code hok
  exact shortB_true (mem_qcodes.2 ⟨s, hs, h0, rfl⟩) (beginQ_iff.2 ⟨by simp only; omega, by rw [Nat.pow_zero, Nat.mod_one, Nat.mod_one]⟩)
theorem takeC_S {ls : List Nat} (hok : lensOK ls) (bs : List Bool) : takeC ls bs = takeS (qcodes ls) bs := by
  have hQ := qcodes_ok hok
  unfold takeC
  obtain ⟨lf, hlf⟩ : ∃ lf, min bs.length 15 = lf := ⟨_, rfl⟩
  rw [hlf]
  -- somebody has a code
  have hany := some_code hok
  -- a hit is the code that stands there
  have hhit : ∀ n, 1 ≤ n → n ≤ lf → hitC ls (tval (bs.take n)) n → takeS (qcodes ls) bs = (symAt ls n (tval (bs.take n) - fst ls n), n, 0) := by
    intro n h1 h2 hh
    obtain ⟨hs, e1, e2⟩ := hitC_sym (by omega) hh
    obtain ⟨s, hse⟩ : ∃ s, symAt ls n (tval (bs.take n) - fst ls n) = s := ⟨_, rfl⟩
    simp only [hse] at hs e1 e2 ⊢
    have h0 : ls[s] ≠ 0 := by omega
    have hm := (hit_sym hok hs h0 bs (by omega)).2 (by rw [e1, e2])
    have hf : (qcodes ls).find? (matchQ bs) = some (s, turnV (val ls s) ls[s], ls[s]) :=
      find_some_of (mem_qcodes.2 ⟨s, hs, h0, rfl⟩) (matchQ_iff.2 ⟨by simp only; omega, hm⟩) fun d hd hh => hitQ_one hQ hd (mem_qcodes.2 ⟨s, hs, h0, rfl⟩) (matchQ_iff.1 hh).2 hm
    unfold takeS
    rw [hf]
    simp only [e1]
  have hgo : ∀ f n, lf + 1 < n + f → 1 ≤ n → n ≤ lf + 1 → (∀ k, 1 ≤ k → k < n → ¬ hitC ls (tval (bs.take k)) k ∧ ¬ overC ls (tval (bs.take k)) k) → takeGo ls bs lf f n = takeS (qcodes ls) bs := by
    intro f
    induction f with
    | zero => intro n h1 h2 h3; omega
    | succ f ih =>
      intro n h1 h2 h3 hno
      rw [takeGo]
      by_cases hl : lf < n
      · rw [if_pos hl]
        have hnm : (qcodes ls).find? (matchQ bs) = none := find_none_of fun c hc => by
          cases hh : matchQ bs c with
          | false => rfl
          | true =>
            obtain ⟨s, hs, h0, rfl⟩ := mem_qcodes.1 hc
            obtain ⟨h4, h5⟩ := matchQ_iff.1 hh
            simp only at h4
            have h15 := hok.2.2.1 ls[s] (List.getElem_mem hs)
            have hv := val_lt hok hs h0
            have e := (hit_sym hok hs h0 bs h4).1 h5
            exact absurd ⟨by rw [e]; exact hv.2, by rw [e]; exact hv.1⟩ (hno ls[s] (by omega) (by omega)).1
        have hsb : shortB (qcodes ls) bs.length (valB (bs.take 15)) = true := by
          rcases Nat.eq_zero_or_pos lf with h0 | h0
          · obtain ⟨s, hs, hs0⟩ := hany
            have hb0 : bs.length = 0 := by omega
            refine shortB_true (mem_qcodes.2 ⟨s, hs, hs0, rfl⟩) (beginQ_iff.2 ⟨by simp only; omega, ?_⟩)
            rw [hb0, Nat.pow_zero, Nat.mod_one, Nat.mod_one]
          · have hov := (hno lf h0 (by omega)).2
            rw [over_iff hok] at hov
            simp only [Classical.not_forall, Classical.not_not] at hov
            obtain ⟨s, hs, hs0, hn, e⟩ := hov
            have h15 := hok.2.2.1 ls[s] (List.getElem_mem hs)
            have hbl : bs.length = lf := by omega
            refine shortB_true (mem_qcodes.2 ⟨s, hs, hs0, rfl⟩) (beginQ_iff.2 ⟨by simp only; omega, ?_⟩)
            simp only
            rw [hbl]
            exact (begin_sym hok hs hs0 hn bs (by omega)).2 e.symm
        unfold takeS
        rw [hnm]
        simp only
        rw [if_pos hsb]
      · rw [if_neg hl]
        by_cases hh : hitC ls (tval (bs.take n)) n
        · rw [if_pos hh, hhit n h2 (by omega) hh]
        · rw [if_neg hh]
          by_cases ho : overB ls (tval (bs.take n)) n = true
          · rw [if_pos ho]
            have ho := (over_iff hok _).1 (overB_iff.1 ho)
            have hnm : (qcodes ls).find? (matchQ bs) = none := find_none_of fun c hc => by
              cases hm : matchQ bs c with
              | false => rfl
              | true =>
                exfalso
                obtain ⟨s, hs, h0, rfl⟩ := mem_qcodes.1 hc
                obtain ⟨h4, h5⟩ := matchQ_iff.1 hm
                simp only at h4
                have h15 := hok.2.2.1 ls[s] (List.getElem_mem hs)
                have hv := val_lt hok hs h0
                have e := (hit_sym hok hs h0 bs h4).1 h5
                rcases Nat.lt_trichotomy ls[s] n with h6 | h6 | h6
                · exact (hno ls[s] (by omega) h6).1 ⟨by rw [e]; exact hv.2, by rw [e]; exact hv.1⟩
                · rw [← h6] at hh
                  exact hh ⟨by rw [e]; exact hv.2, by rw [e]; exact hv.1⟩
                · refine ho s hs h0 h6 ?_
                  refine ((begin_sym hok hs h0 h6 bs (by omega)).1 ?_).symm
                  have h7 := hitQ_iff.1 h5
                  simp only at h7
                  rw [← h7, mod_mod_pow _ (by omega)]
            have hsb : shortB (qcodes ls) bs.length (valB (bs.take 15)) = false := shortB_false fun c hc => by
              cases hb : beginQ bs.length (valB (bs.take 15)) c with
              | false => rfl
              | true =>
                exfalso
                obtain ⟨s, hs, h0, rfl⟩ := mem_qcodes.1 hc
                obtain ⟨h4, h5⟩ := beginQ_iff.1 hb
                simp only at h4 h5
                refine ho s hs h0 (by omega) ?_
                refine ((begin_sym hok hs h0 (by omega) bs (by omega)).1 ?_).symm
                have h6 := congrArg (· % 2 ^ n) h5
                rwa [mod_mod_pow _ (by omega), mod_mod_pow _ (by omega)] at h6
            unfold takeS
            rw [hnm]
            simp only
            rw [hsb]; rfl
          · rw [if_neg ho]
            refine ih (n + 1) (by omega) (by omega) (by omega) fun k hk1 hk2 => ?_
            rcases Nat.lt_or_ge k n with h6 | h6
            · exact hno k hk1 h6
            · obtain rfl : k = n := by omega
              exact ⟨hh, fun h7 => ho (overB_iff.2 h7)⟩
  exact hgo 16 1 (by omega) (by omega) (by omega) fun k h1 h2 => by omega
end Go.Bn
