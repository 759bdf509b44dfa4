/- Plain: lengths of codes, and the codes. -/
import Derived.Test.YtpkhilbgkkjebaaPBits
set_option linter.unusedVariables false
set_option linter.unusedSimpArgs false
namespace Go.Bn
/-- How many have a length; nobody has 0. -/
def cn (ls : List Nat) (n : Nat) : Nat := if n = 0 then 0 else ls.count n
/-- The first code of a length. -/
def fst (ls : List Nat) : Nat → Nat
  | 0 => 0
  | n + 1 => (fst ls n + cn ls n) * 2
def val (ls : List Nat) (s : Nat) : Nat := if ls.getD s 0 = 0 then 0 else fst ls (ls.getD s 0) + (ls.take s).count (ls.getD s 0)
def vals (ls : List Nat) : List Nat := (List.range ls.length).map (val ls)
theorem vals_length (ls : List Nat) : (vals ls).length = ls.length := by simp [vals]
def unitK (k : Nat) : Nat := if k = 0 then 0 else 2 ^ (15 - k)
def kraft (ls : List Nat) : Nat := (ls.map unitK).sum
/-- Whether lengths may be a code. -/
def lensOK (ls : List Nat) : Prop := 1 ≤ ls.length ∧ ls.length ≤ 320 ∧ (∀ x ∈ ls, x ≤ 15) ∧ (kraft ls = 32768 ∨ ls.sum = 1)
def part (ls : List Nat) : Nat → Nat
  | 0 => 0
  | n + 1 => part ls n + cn ls (n + 1) * 2 ^ (15 - (n + 1))
theorem part_fst (ls : List Nat) : ∀ n, n ≤ 15 → (fst ls n + cn ls n) * 2 ^ (15 - n) = part ls n
  | 0, _ => by simp [fst, cn, part]
  | n + 1, h => by
    have ih := part_fst ls n (by omega)
    have e : 15 - n = (15 - (n + 1)) + 1 := by omega
    rw [e, Nat.pow_succ] at ih
    rw [part, ← ih, fst, Nat.add_mul, Nat.mul_assoc, Nat.mul_comm 2]
theorem part_nil : ∀ n, part [] n = 0
  | 0 => rfl
  | n + 1 => by simp [part, part_nil n, cn]
theorem part_cons (x : Nat) (ls : List Nat) : ∀ n, part (x :: ls) n = part ls n + if 1 ≤ x ∧ x ≤ n then 2 ^ (15 - x) else 0
  | 0 => by rw [if_neg (by omega)]; rfl
  | n + 1 => by
    have ih := part_cons x ls n
    rw [part, part, ih]
    have hc : cn (x :: ls) (n + 1) = cn ls (n + 1) + if x = n + 1 then 1 else 0 := by
      unfold cn
      rw [if_neg (by omega), if_neg (by omega), List.count_cons]
      congr 1
      simp
    rw [hc]
    by_cases h1 : x = n + 1
    · subst h1
      rw [if_pos rfl, if_neg (by omega), if_pos ⟨by omega, by omega⟩, Nat.add_mul]; omega
    · rw [if_neg h1, Nat.add_zero]
      by_cases h2 : 1 ≤ x ∧ x ≤ n
      · rw [if_pos h2, if_pos ⟨h2.1, by omega⟩]; omega
      · rw [if_neg h2, if_neg (by omega)]; omega
theorem part_kraft : ∀ (ls : List Nat), (∀ x ∈ ls, x ≤ 15) → part ls 15 = kraft ls
  | [], _ => by simp [part_nil, kraft]
  | x :: ls, h => by
    have ih := part_kraft ls fun y hy => h y (List.mem_cons_of_mem _ hy)
    have hx := h x List.mem_cons_self
    rw [part_cons, ih]
    simp only [kraft, List.map_cons, List.sum_cons, unitK]
    by_cases h0 : x = 0
    · rw [if_neg (by omega), if_pos h0]; omega
    · rw [if_pos (by omega), if_neg h0]; omega
theorem part_mono (ls : List Nat) {a b : Nat} (h : a ≤ b) : part ls a ≤ part ls b := by
  induction b with
  | zero => obtain rfl : a = 0 := by omega
            exact Nat.le_refl _
  | succ b ih =>
    rcases Nat.lt_or_ge b a with h1 | h1
    · obtain rfl : a = b + 1 := by omega
      exact Nat.le_refl _
    · have := ih h1; rw [part]; omega
theorem kraft_zero : ∀ (ls : List Nat), ls.sum = 0 → kraft ls = 0
  | [], _ => rfl
  | x :: ls, h => by
    simp only [List.sum_cons] at h
    have ih := kraft_zero ls (by omega)
    obtain rfl : x = 0 := by omega
    simp only [kraft, List.map_cons, List.sum_cons, unitK] at ih ⊢
    rw [ih]; rfl
theorem kraft_one : ∀ (ls : List Nat), ls.sum = 1 → kraft ls = 16384
  | [], h => by simp at h
  | x :: ls, h => by
    simp only [List.sum_cons] at h
    have e : kraft (x :: ls) = unitK x + kraft ls := rfl
    rcases (by omega : x = 0 ∧ ls.sum = 1 ∨ x = 1 ∧ ls.sum = 0) with ⟨rfl, h1⟩ | ⟨rfl, h1⟩
    · rw [e, kraft_one ls h1]; rfl
    · rw [e, kraft_zero ls h1]; rfl
theorem lensOK.kraft_le {ls : List Nat} (h : lensOK ls) : kraft ls ≤ 32768 := by
  rcases h.2.2.2 with h | h
  · omega
  · rw [kraft_one ls h]; omega
/-- Codes of a length are no more than there are numbers. -/
theorem fst_le {ls : List Nat} (h : lensOK ls) {n : Nat} (hn : n ≤ 15) : fst ls n + cn ls n ≤ 2 ^ n := by
  have h1 := part_fst ls n hn
  have h2 := part_mono ls hn
  rw [part_kraft ls h.2.2.1] at h2
  have h3 := h.kraft_le
  have e : 2 ^ n * 2 ^ (15 - n) = 32768 := by rw [← Nat.pow_add, show n + (15 - n) = 15 by omega]
  exact Nat.le_of_mul_le_mul_right (by omega : (fst ls n + cn ls n) * 2 ^ (15 - n) ≤ 2 ^ n * 2 ^ (15 - n)) (Nat.pow_pos (by omega))
theorem fst_bd {ls : List Nat} (h : lensOK ls) {n : Nat} (hn : n ≤ 15) : fst ls n + cn ls n ≤ 32768 :=
  Nat.le_trans (fst_le h hn) (Nat.pow_le_pow_right (by omega) hn)
theorem cn_pos {n : Nat} (ls : List Nat) (h : n ≠ 0) : cn ls n = ls.count n := by unfold cn; rw [if_neg h]
theorem fst_zero {ls : List Nat} : ∀ {n : Nat}, (∀ m, 0 < m → m < n → cn ls m = 0) → fst ls n = 0
  | 0, _ => rfl
  | n + 1, h => by
    rw [fst, fst_zero fun m h1 h2 => h m h1 (by omega)]
    rcases Nat.eq_zero_or_pos n with rfl | h0
    · simp [cn]
    · rw [h n h0 (by omega)]
theorem count_take_succ {ls : List Nat} {s : Nat} (h : s < ls.length) (n : Nat) : (ls.take (s + 1)).count n = (ls.take s).count n + if ls[s] = n then 1 else 0 := by
  rw [List.take_succ_eq_append_getElem h, List.count_append]
  congr 1
  rw [List.count_cons, List.count_nil]; simp
theorem count_take_lt {ls : List Nat} {s : Nat} (h : s < ls.length) : (ls.take s).count ls[s] < ls.count ls[s] := by
  have h1 := count_take_succ h ls[s]
  rw [if_pos rfl] at h1
  have h2 : (ls.take (s + 1)).count ls[s] ≤ ls.count ls[s] := (List.take_sublist _ _).count_le _
  omega
theorem val_lt {ls : List Nat} (h : lensOK ls) {s : Nat} (hs : s < ls.length) (h0 : ls[s] ≠ 0) : val ls s < fst ls ls[s] + cn ls ls[s] ∧ fst ls ls[s] ≤ val ls s := by
  have e : ls.getD s 0 = ls[s] := by simp [List.getD, hs]
  unfold val
  rw [e, if_neg h0, cn_pos ls h0]
  have := count_take_lt hs
  omega
/-! The reference's way. -/
/-- What stands where codes of the lengths below n, and of n up to symbol s, are told. -/
def valAt (ls : List Nat) (n s : Nat) (j : Nat) : Nat := if (0 < ls.getD j 0 ∧ ls.getD j 0 < n) ∨ (ls.getD j 0 = n ∧ j < s) then val ls j else 0
theorem valAt_full (ls : List Nat) (h : ∀ x ∈ ls, x ≤ 15) : (List.range ls.length).map (valAt ls 16 0) = vals ls := by
  refine List.map_congr_left fun j hj => ?_
  have hj : j < ls.length := List.mem_range.1 hj
  have e : ls.getD j 0 = ls[j] := by simp [List.getD, hj]
  have := h ls[j] (List.getElem_mem hj)
  unfold valAt
  rw [e]
  by_cases h0 : ls[j] = 0
  · rw [if_neg (by omega)]; unfold val; rw [e, if_pos h0]
  · rw [if_pos (by omega)]
theorem valAt_next (ls : List Nat) (n : Nat) (hn : 0 < n) : (List.range ls.length).map (valAt ls n ls.length) = (List.range ls.length).map (valAt ls (n + 1) 0) := by
  refine List.map_congr_left fun j hj => ?_
  have hj : j < ls.length := List.mem_range.1 hj
  unfold valAt
  generalize ls.getD j 0 = x
  by_cases h : (0 < x ∧ x < n) ∨ (x = n ∧ j < ls.length)
  · rw [if_pos h, if_pos (by omega)]
  · rw [if_neg h, if_neg (by omega)]
theorem valAt_skip {ls : List Nat} {n s : Nat} (hs : s < ls.length) (h : ls[s] ≠ n) : (List.range ls.length).map (valAt ls n s) = (List.range ls.length).map (valAt ls n (s + 1)) := by
  refine List.map_congr_left fun j hj => ?_
  have hj : j < ls.length := List.mem_range.1 hj
  have e : ls.getD j 0 = ls[j] := by simp [List.getD, hj]
  unfold valAt
  rw [e]
  have hne : j = s → ls[j] ≠ n := by rintro rfl; exact h
  by_cases h1 : (0 < ls[j] ∧ ls[j] < n) ∨ (ls[j] = n ∧ j < s)
  · rw [if_pos h1, if_pos (by omega)]
  · rw [if_neg h1, if_neg (by
      rintro (h2 | ⟨h2, h3⟩)
      · exact h1 (.inl h2)
      · rcases Nat.lt_or_ge j s with h4 | h4
        · exact h1 (.inr ⟨h2, h4⟩)
        · exact hne (by omega) h2)]
theorem valAt_set {ls : List Nat} {n s : Nat} (hs : s < ls.length) (h : ls[s] = n) (h0 : n ≠ 0) : ((List.range ls.length).map (valAt ls n s)).set s (fst ls n + (ls.take s).count n) = (List.range ls.length).map (valAt ls n (s + 1)) := by
  apply List.ext_getElem
  · simp
  · intro j h1 h2
    have hj : j < ls.length := by simpa using h2
    have e : ls.getD j 0 = ls[j] := by simp [List.getD, hj]
    rw [List.getElem_set]
    by_cases hjs : s = j
    · subst hjs
      rw [if_pos rfl]
      simp only [List.getElem_map, List.getElem_range, valAt, e]
      rw [if_pos (.inr ⟨h, by omega⟩)]
      unfold val
      rw [e, h, if_neg h0]
    · rw [if_neg hjs]
      simp only [List.getElem_map, List.getElem_range, valAt, e]
      by_cases h1 : (0 < ls[j] ∧ ls[j] < n) ∨ (ls[j] = n ∧ j < s)
      · rw [if_pos h1, if_pos (by omega)]
      · rw [if_neg h1, if_neg (by omega)]
/-- The next code, and the last length, where so much is told. -/
def refAt (ls : List Nat) (n s next last : Nat) : Prop :=
  (last = 0 ∧ next = 0 ∧ (∀ m, 0 < m → m < n → cn ls m = 0) ∧ (ls.take s).count n = 0) ∨
  (0 < last ∧ last < n ∧ next * 2 ^ (n - last) = fst ls n ∧ (ls.take s).count n = 0) ∨
  (0 < last ∧ last = n ∧ next = fst ls n + (ls.take s).count n)
theorem refAt_next {ls : List Nat} {n next last : Nat} (hn : 0 < n) (h : refAt ls n ls.length next last) : refAt ls (n + 1) 0 next last := by
  unfold refAt at *
  rw [List.take_length, ← cn_pos ls (by omega)] at h
  rcases h with ⟨h1, h2, h3, h4⟩ | ⟨h1, h2, h3, h4⟩ | ⟨h1, h2, h3⟩
  · refine .inl ⟨h1, h2, fun m m1 m2 => ?_, by simp⟩
    rcases Nat.lt_or_ge m n with h | h
    · exact h3 m m1 h
    · obtain rfl : m = n := by omega
      exact h4
  · refine .inr (.inl ⟨h1, by omega, ?_, by simp⟩)
    rw [fst, h4, ← h3, show n + 1 - last = (n - last) + 1 by omega, Nat.pow_succ, ← Nat.mul_assoc]; simp
  · refine .inr (.inl ⟨h1, by omega, ?_, by simp⟩)
    rw [fst, h3, h2, show n + 1 - n = 1 by omega]
theorem refAt_skip {ls : List Nat} {n s next last : Nat} (hs : s < ls.length) (hx : ls[s] ≠ n) (h : refAt ls n s next last) : refAt ls n (s + 1) next last := by
  unfold refAt at *
  rw [count_take_succ hs, if_neg hx, Nat.add_zero]; exact h
theorem refAt_hit {ls : List Nat} {n s next last : Nat} (hn : 0 < n) (hs : s < ls.length) (hx : ls[s] = n) (hle : last = 0 ∨ n ≤ last) (h : refAt ls n s next last) : next = fst ls n + (ls.take s).count n ∧ refAt ls n (s + 1) (next + 1) n := by
  have e : next = fst ls n + (ls.take s).count n := by
    unfold refAt at h
    rcases h with ⟨h1, h2, h3, h4⟩ | ⟨h1, h2, h3, h4⟩ | ⟨h1, h2, h3⟩
    · rw [fst_zero h3, h4, h2]
    · omega
    · exact h3
  refine ⟨e, .inr (.inr ⟨hn, rfl, ?_⟩)⟩
  rw [count_take_succ hs, if_pos hx, e]; omega
theorem refAt_double {ls : List Nat} {n s next last : Nat} (h0 : 0 < last) (hlt : last < n) (h : refAt ls n s next last) : refAt ls n s (next * 2) (last + 1) ∧ next * 2 ≤ fst ls n := by
  unfold refAt at *
  rcases h with ⟨h1, h2, h3, h4⟩ | ⟨h1, h2, h3, h4⟩ | ⟨h1, h2, h3⟩
  · omega
  · have e : next * 2 * 2 ^ (n - (last + 1)) = fst ls n := by
      rw [← h3, show n - last = (n - (last + 1)) + 1 by omega, Nat.pow_succ, Nat.mul_comm (2 ^ _) 2, Nat.mul_assoc]
    have hp : 0 < 2 ^ (n - (last + 1)) := Nat.pow_pos (by omega)
    refine ⟨?_, by rw [← e]; exact Nat.le_mul_of_pos_right _ hp⟩
    rcases Nat.lt_or_ge (last + 1) n with h5 | h5
    · exact .inr (.inl ⟨by omega, h5, e, h4⟩)
    · obtain rfl : n = last + 1 := by omega
      refine .inr (.inr ⟨by omega, rfl, ?_⟩)
      rw [h4, ← e]; simp
  · omega
/-- The symbols that have a code, by length, then number. -/
def ofLen (ls : List Nat) (n s : Nat) : List Nat := (List.range s).filter fun j => ls.getD j 0 == n
def orderTo (ls : List Nat) (n : Nat) : List Nat := (List.range' 1 (n - 1)).flatMap fun m => ofLen ls m ls.length
theorem orderTo_succ (ls : List Nat) {n : Nat} (h : 1 ≤ n) : orderTo ls (n + 1) = orderTo ls n ++ ofLen ls n ls.length := by
  unfold orderTo
  obtain ⟨k, rfl⟩ : ∃ k, n = k + 1 := ⟨n - 1, by omega⟩
  simp only [Nat.add_sub_cancel]
  rw [List.range'_1_concat, List.flatMap_append]
  simp [Nat.add_comm]
theorem ofLen_succ {ls : List Nat} {n s : Nat} (hs : s < ls.length) : ofLen ls n (s + 1) = ofLen ls n s ++ if ls[s] = n then [s] else [] := by
  unfold ofLen
  rw [List.range_succ, List.filter_append]
  congr 1
  have e : ls.getD s 0 = ls[s] := by simp [List.getD, hs]
  simp only [List.filter_cons, List.filter_nil, e, beq_iff_eq]
theorem ofLen_length (ls : List Nat) (n : Nat) : ∀ s, s ≤ ls.length → (ofLen ls n s).length = (ls.take s).count n
  | 0, _ => by simp [ofLen]
  | s + 1, h => by
    rw [ofLen_succ (by omega), List.length_append, ofLen_length ls n s (by omega), count_take_succ (by omega)]
    congr 1
    split <;> rfl
theorem orderTo_length (ls : List Nat) : ∀ n, (orderTo ls (n + 1)).length = ((List.range' 1 n).map fun m => ls.count m).sum := by
  intro n
  unfold orderTo
  simp only [Nat.add_sub_cancel, List.length_flatMap]
  congr 1
  refine List.map_congr_left fun m _ => ?_
  rw [ofLen_length ls m _ (Nat.le_refl _), List.take_length]
theorem valAt_zero (ls : List Nat) : (List.range ls.length).map (valAt ls 1 0) = List.replicate ls.length 0 := by
  apply List.ext_getElem
  · simp
  · intro j h1 h2
    simp only [List.getElem_map, List.getElem_range, List.getElem_replicate, valAt]
    rw [if_neg (by omega)]
def cntTo (ls : List Nat) (i : Nat) : List Nat := (List.range 16).map fun x => (ls.take i).count x
theorem cntTo_set {ls : List Nat} {i x : Nat} (hi : i < ls.length) (hx : ls[i] = x) : (cntTo ls i).set x ((ls.take i).count x + 1) = cntTo ls (i + 1) := by
  apply List.ext_getElem
  · simp [cntTo]
  · intro j h1 h2
    rw [List.getElem_set]
    simp only [cntTo, List.getElem_map, List.getElem_range]
    rw [count_take_succ hi]
    by_cases h : x = j
    · subst h; rw [if_pos rfl, if_pos hx]
    · rw [if_neg h, if_neg (by omega)]; rfl
def cnts (ls : List Nat) : List Nat := (List.range 16).map (cn ls)
theorem cntTo_full (ls : List Nat) : (cntTo ls ls.length).set 0 0 = cnts ls := by
  apply List.ext_getElem
  · simp [cntTo, cnts]
  · intro j h1 h2
    rw [List.getElem_set]
    simp only [cntTo, cnts, List.getElem_map, List.getElem_range, List.take_length, cn]
    by_cases h : 0 = j
    · subst h; simp
    · rw [if_neg h, if_neg (fun e => h e.symm)]
def fstTo (ls : List Nat) (n : Nat) : List Nat := (List.range 16).map fun x => if x < n then fst ls x else 0
theorem fstTo_set {ls : List Nat} {n : Nat} (h : n < 16) : (fstTo ls n).set n (fst ls n) = fstTo ls (n + 1) := by
  apply List.ext_getElem
  · simp [fstTo]
  · intro j h1 h2
    rw [List.getElem_set]
    simp only [fstTo, List.getElem_map, List.getElem_range]
    by_cases h : n = j
    · subst h; rw [if_pos rfl, if_pos (by omega)]
    · rw [if_neg h]
      by_cases h3 : j < n
      · rw [if_pos h3, if_pos (by omega)]
      · rw [if_neg h3, if_neg (by omega)]
theorem fstTo_one (ls : List Nat) : fstTo ls 1 = List.replicate 16 0 := by
  apply List.ext_getElem
  · simp [fstTo]
  · intro j h1 h2
    simp only [fstTo, List.getElem_map, List.getElem_range, List.getElem_replicate]
    split
    · obtain rfl : j = 0 := by omega
      rfl
    · rfl
theorem cntTo_zero (ls : List Nat) : cntTo ls 0 = List.replicate 16 0 := by
  apply List.ext_getElem
  · simp [cntTo]
  · intro j h1 h2; simp [cntTo, -List.reduceReplicate]
theorem orderTo_le (ls : List Nat) : ∀ n, (orderTo ls (n + 1)).length ≤ n * ls.length
  | 0 => by simp [orderTo]
  | n + 1 => by
    rw [orderTo_succ ls (by omega), List.length_append, ofLen_length ls _ _ (Nat.le_refl _), List.take_length]
    have := orderTo_le ls n
    have := List.count_le_length (a := n + 1) (l := ls)
    rw [Nat.add_mul]; omega
end Go.Bn
