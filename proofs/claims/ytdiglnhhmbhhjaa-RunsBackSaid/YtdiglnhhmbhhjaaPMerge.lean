/- Plain: the package-merge: rows of elements, how many items are in each row's first ones, and what follows for lengths. -/
import Derived.Test.YtdiglnhhmbhhjaaPCanon
set_option linter.unusedVariables false
set_option linter.unusedSimpArgs false
namespace Go.Bn
abbrev PE := Nat × List Nat
def lePE (a b : PE) : Bool := decide (a.1 ≤ b.1)
theorem lePE_iff {a b : PE} : lePE a b = true ↔ a.1 ≤ b.1 := by unfold lePE; simp
def pairsE : List PE → List PE
  | a :: b :: r => (a.1 + b.1, a.2 ++ b.2) :: pairsE r
  | _ => []
def itemsE (ws : List Nat) : List PE := (List.range ws.length).map fun i => (ws.getD i 0, [i])
def rowE (ws : List Nat) : Nat → List PE
  | 0 => []
  | j + 1 => (itemsE ws).merge (pairsE (rowE ws j)) lePE
def sumW (l : List PE) : Nat := (l.map (·.1)).sum
abbrev Asc (l : List PE) : Prop := l.Pairwise fun a b => a.1 ≤ b.1
theorem sumW_cons (x : PE) (l : List PE) : sumW (x :: l) = x.1 + sumW l := by simp [sumW]
theorem sumW_append (l m : List PE) : sumW (l ++ m) = sumW l + sumW m := by simp [sumW]
theorem sumW_take_succ {l : List PE} {b : Nat} (h : b < l.length) : sumW (l.take (b + 1)) = sumW (l.take b) + l[b].1 := by
  rw [List.take_succ_eq_append_getElem h, sumW_append]; simp [sumW]
theorem asc_head {x : PE} {l : List PE} (h : Asc (x :: l)) {b : Nat} (hb : b < (x :: l).length) : x.1 ≤ (x :: l)[b].1 := by
  cases b with
  | zero => exact Nat.le_refl _
  | succ b => exact (List.pairwise_cons.1 h).1 _ (List.getElem_mem _)

theorem merge_take : ∀ (xs ys : List PE) (t : Nat), t ≤ xs.length + ys.length → Asc xs → ∃ a b, a ≤ xs.length ∧ b ≤ ys.length ∧ a + b = t ∧ ((xs.merge ys lePE).take t).Perm (xs.take a ++ ys.take b) ∧
    ∀ i k, (hi : i < xs.length) → (hk : k < ys.length) → k < b → xs[i].1 ≤ ys[k].1 → i < a
  | [], ys, t, ht, _ => ⟨0, t, Nat.le_refl _, by simpa using ht, by omega, by simp, fun i k hi => by simp at hi⟩
  | x :: xs, [], t, ht, _ => ⟨t, 0, by simpa using ht, Nat.le_refl _, by omega, by simp, fun i k _ hk => by simp at hk⟩
  | x :: xs, y :: ys, 0, ht, _ => ⟨0, 0, Nat.zero_le _, Nat.zero_le _, rfl, by simp, fun i k _ _ hk => by omega⟩
  | x :: xs, y :: ys, t + 1, ht, hs => by
    by_cases h : lePE x y = true
    · obtain ⟨a, b, h1, h2, h3, h4, h5⟩ := merge_take xs (y :: ys) t (by simp at ht ⊢; omega) (List.pairwise_cons.1 hs).2
      refine ⟨a + 1, b, by simp; omega, h2, by omega, ?_, ?_⟩
      · rw [List.cons_merge_cons_pos _ _ _ h, List.take_succ_cons, List.take_succ_cons, List.cons_append]
        exact h4.cons _
      · intro i k hi hk hkb hle
        cases i with
        | zero => omega
        | succ i => have := h5 i k (by simpa using hi) hk hkb hle; omega
    · obtain ⟨a, b, h1, h2, h3, h4, h5⟩ := merge_take (x :: xs) ys t (by simp at ht ⊢; omega) hs
      refine ⟨a, b + 1, h1, by simp; omega, by omega, ?_, ?_⟩
      · rw [List.cons_merge_cons_neg _ _ _ h, List.take_succ_cons, List.take_succ_cons]
        exact (h4.cons _).trans List.perm_middle.symm
      · intro i k hi hk hkb hle
        cases k with
        | zero =>
          have h6 := asc_head hs hi
          rw [lePE_iff] at h
          simp only [List.getElem_cons_zero] at hle
          omega
        | succ k => exact h5 i k hi (by simpa using hk) (by omega) hle
  termination_by xs ys => xs.length + ys.length

theorem merge_best : ∀ (xs ys : List PE) (a b : Nat), a ≤ xs.length → b ≤ ys.length → Asc xs → Asc ys → sumW ((xs.merge ys lePE).take (a + b)) ≤ sumW (xs.take a) + sumW (ys.take b)
  | [], ys, a, b, ha, _, _, _ => by
    obtain rfl : a = 0 := by simpa using ha
    simp [sumW]
  | x :: xs, [], a, b, _, hb, _, _ => by
    obtain rfl : b = 0 := by simpa using hb
    simp [sumW]
  | x :: xs, y :: ys, a, b, ha, hb, hx, hy => by
    by_cases h : lePE x y = true
    · rw [List.cons_merge_cons_pos _ _ _ h]
      have hle := lePE_iff.1 h
      have hx' := (List.pairwise_cons.1 hx).2
      cases a with
      | succ a =>
        have ih := merge_best xs (y :: ys) a b (by simpa using ha) hb hx' hy
        rw [show a + 1 + b = (a + b) + 1 by omega, List.take_succ_cons, List.take_succ_cons, sumW_cons, sumW_cons]; omega
      | zero =>
        cases b with
        | zero => simp [sumW]
        | succ b =>
          have ih := merge_best xs (y :: ys) 0 b (Nat.zero_le _) (by omega) hx' hy
          have h1 := sumW_take_succ (l := y :: ys) (b := b) (by omega)
          have h2 := asc_head hy (b := b) (by omega)
          rw [Nat.zero_add, List.take_succ_cons, sumW_cons, h1]
          rw [Nat.zero_add, List.take_zero] at ih
          have e : sumW [] = 0 := rfl
          rw [List.take_zero]; omega
    · rw [List.cons_merge_cons_neg _ _ _ h]
      have hle : y.1 < x.1 := by rw [lePE_iff] at h; omega
      have hy' := (List.pairwise_cons.1 hy).2
      cases b with
      | succ b =>
        have ih := merge_best (x :: xs) ys a b ha (by simpa using hb) hx hy'
        rw [show a + (b + 1) = (a + b) + 1 by omega, List.take_succ_cons, List.take_succ_cons, sumW_cons, sumW_cons]; omega
      | zero =>
        cases a with
        | zero => simp [sumW]
        | succ a =>
          have ih := merge_best (x :: xs) ys a 0 (by omega) (Nat.zero_le _) hx hy'
          have h1 := sumW_take_succ (l := x :: xs) (b := a) (by omega)
          have h2 := asc_head hx (b := a) (by omega)
          rw [Nat.add_zero, List.take_succ_cons, sumW_cons, h1]
          rw [Nat.add_zero, List.take_zero] at ih
          have e : sumW [] = 0 := rfl
          rw [List.take_zero]; omega
  termination_by xs ys => xs.length + ys.length

theorem itemsE_length (ws : List Nat) : (itemsE ws).length = ws.length := by simp [itemsE]
theorem itemsE_get {ws : List Nat} {i : Nat} (h : i < ws.length) : (itemsE ws)[i]'(by rw [itemsE_length]; exact h) = (ws[i], [i]) := by
  simp [itemsE, List.getD, h]
theorem pairsE_length : ∀ l : List PE, (pairsE l).length = l.length / 2
  | [] => rfl
  | [_] => by simp [pairsE]
  | a :: b :: r => by
    rw [pairsE, List.length_cons, pairsE_length r, List.length_cons, List.length_cons]; omega
theorem pairsE_has : ∀ (b : Nat) (l : List PE), 2 * b ≤ l.length → ((pairsE l).take b).flatMap (·.2) = (l.take (2 * b)).flatMap (·.2)
  | 0, l, _ => by simp
  | b + 1, [], h => by simp at h
  | b + 1, [_], h => by simp at h; omega
  | b + 1, x :: y :: r, h => by
    have ih := pairsE_has b r (by simp at h; omega)
    rw [show 2 * (b + 1) = (2 * b + 1) + 1 by omega, pairsE, List.take_succ_cons, List.take_succ_cons, List.take_succ_cons]
    simp only [List.flatMap_cons, List.append_assoc] at ih ⊢
    rw [ih]
theorem pairsE_sum : ∀ (b : Nat) (l : List PE), 2 * b ≤ l.length → sumW ((pairsE l).take b) = sumW (l.take (2 * b))
  | 0, l, _ => by simp
  | b + 1, [], h => by simp at h
  | b + 1, [_], h => by simp at h; omega
  | b + 1, x :: y :: r, h => by
    have ih := pairsE_sum b r (by simp at h; omega)
    rw [show 2 * (b + 1) = (2 * b + 1) + 1 by omega, pairsE, List.take_succ_cons, List.take_succ_cons, List.take_succ_cons, sumW_cons, sumW_cons, sumW_cons, ih]
    simp only; omega
theorem pairsE_get : ∀ (k : Nat) (l : List PE) (h : k < (pairsE l).length) (h1 : 2 * k + 1 < l.length), (pairsE l)[k].1 = (l[2 * k]'(by omega)).1 + l[2 * k + 1].1
  | _, [], h, _ => by simp [pairsE] at h
  | _, [_], h, _ => by simp [pairsE] at h
  | 0, x :: y :: r, h, _ => by simp [pairsE]
  | k + 1, x :: y :: r, h, h1 => by
    have ih := pairsE_get k r (by simp [pairsE] at h; exact h) (by simp at h1; omega)
    simp only [pairsE, List.getElem_cons_succ, ih, show 2 * (k + 1) = 2 * k + 1 + 1 by omega]
theorem pairsE_mem : ∀ {l : List PE} {p : PE}, p ∈ pairsE l → ∃ u v, u ∈ l ∧ v ∈ l ∧ p = (u.1 + v.1, u.2 ++ v.2)
  | [], p, h => by simp [pairsE] at h
  | [_], p, h => by simp [pairsE] at h
  | x :: y :: r, p, h => by
    rw [pairsE, List.mem_cons] at h
    rcases h with rfl | h
    · exact ⟨x, y, by simp, by simp, rfl⟩
    · obtain ⟨u, v, h1, h2, h3⟩ := pairsE_mem h
      exact ⟨u, v, by simp [h1], by simp [h2], h3⟩
theorem pairsE_asc : ∀ {l : List PE}, Asc l → Asc (pairsE l)
  | [], _ => by simp [pairsE]
  | [_], _ => by simp [pairsE]
  | x :: y :: r, h => by
    rw [pairsE, Asc, List.pairwise_cons]
    obtain ⟨h1, h2⟩ := List.pairwise_cons.1 h
    obtain ⟨h3, h4⟩ := List.pairwise_cons.1 h2
    refine ⟨fun p hp => ?_, pairsE_asc h4⟩
    obtain ⟨u, v, hu, hv, rfl⟩ := pairsE_mem hp
    have := h1 u (by simp [hu])
    have := h3 v hv
    simp only; omega
theorem itemsE_asc {ws : List Nat} (h : ws.Pairwise (· ≤ ·)) : Asc (itemsE ws) := by
  rw [Asc, List.pairwise_iff_getElem]
  intro i j hi hj hij
  rw [itemsE_length] at hi hj
  rw [itemsE_get hi, itemsE_get hj]
  exact List.pairwise_iff_getElem.1 h i j hi hj hij
theorem merge_asc {xs ys : List PE} (hx : Asc xs) (hy : Asc ys) : Asc (xs.merge ys lePE) := by
  have h := List.pairwise_merge (le := lePE) (fun a b c h1 h2 => by rw [lePE_iff] at *; omega) (fun a b => by simp [lePE]; omega) xs ys
    (hx.imp fun h => lePE_iff.2 h) (hy.imp fun h => lePE_iff.2 h)
  exact h.imp fun h => lePE_iff.1 h
theorem rowE_asc {ws : List Nat} (h : ws.Pairwise (· ≤ ·)) : ∀ j, Asc (rowE ws j)
  | 0 => List.Pairwise.nil
  | j + 1 => merge_asc (itemsE_asc h) (pairsE_asc (rowE_asc h j))
theorem rowE_len (ws : List Nat) (j : Nat) : (rowE ws (j + 1)).length = ws.length + (rowE ws j).length / 2 := by
  rw [rowE, List.length_merge, itemsE_length, pairsE_length]
theorem rowE_lack (ws : List Nat) (h : 1 ≤ ws.length) : ∀ j, ∃ d, (rowE ws (j + 1)).length + d = 2 * ws.length ∧ 1 ≤ d ∧ d ≤ ws.length / 2 ^ j + 1
  | 0 => ⟨ws.length, by rw [rowE_len]; simp [rowE]; omega, h, by rw [Nat.pow_zero, Nat.div_one]; omega⟩
  | j + 1 => by
    obtain ⟨d, h1, h2, h3⟩ := rowE_lack ws h j
    have e := rowE_len ws (j + 1)
    have e2 : ws.length / 2 ^ (j + 1) = ws.length / 2 ^ j / 2 := by rw [Nat.pow_succ, Nat.div_div_eq_div_mul]
    rw [e2]
    generalize ws.length / 2 ^ j = q at *
    exact ⟨(d + 1) / 2, by omega, by omega, by omega⟩
theorem rowE_len15 (ws : List Nat) (h : 1 ≤ ws.length) (h2 : ws.length ≤ 16000) : (rowE ws 15).length = 2 * ws.length - 1 := by
  obtain ⟨d, h3, h4, h5⟩ := rowE_lack ws h 14
  have e : ws.length / 2 ^ 14 = 0 := Nat.div_eq_of_lt (Nat.lt_of_le_of_lt h2 (by decide))
  rw [e] at h5
  have e3 : rowE ws (14 + 1) = rowE ws 15 := rfl
  rw [e3] at h3
  omega
theorem rowE_bd (ws : List Nat) : ∀ j, (rowE ws j).length ≤ 2 * ws.length
  | 0 => Nat.zero_le _
  | j + 1 => by have := rowE_bd ws j; rw [rowE_len]; omega
theorem rowE_has {ws : List Nat} : ∀ j, ∀ e ∈ rowE ws j, 1 ≤ e.2.length
  | 0, e, h => by simp [rowE] at h
  | j + 1, e, h => by
    rw [rowE, List.mem_merge] at h
    rcases h with h | h
    · simp only [itemsE, List.mem_map] at h
      obtain ⟨i, _, rfl⟩ := h; simp
    · obtain ⟨u, v, hu, hv, rfl⟩ := pairsE_mem h
      have := rowE_has j u hu
      simp only [List.length_append]; omega
theorem pairsE_has2 {ws : List Nat} {j : Nat} : ∀ e ∈ pairsE (rowE ws j), 2 ≤ e.2.length := by
  intro e h
  obtain ⟨u, v, hu, hv, rfl⟩ := pairsE_mem h
  have := rowE_has j u hu
  have := rowE_has j v hv
  simp only [List.length_append]; omega
/-- How many items are among a row's first ones. -/
def isItem (e : PE) : Bool := e.2.length == 1
def numI (ws : List Nat) (j t : Nat) : Nat := ((rowE ws j).take t).countP isItem
def lev (ws : List Nat) : Nat → Nat → List Nat
  | 0, _ => []
  | j + 1, t => numI ws (j + 1) t :: lev ws j (2 * (t - numI ws (j + 1) t))
theorem lev_length (ws : List Nat) : ∀ j t, (lev ws j t).length = j
  | 0, _ => rfl
  | j + 1, t => by rw [lev, List.length_cons, lev_length ws j]
theorem row_take {ws : List Nat} (h : ws.Pairwise (· ≤ ·)) (j t : Nat) (ht : t ≤ (rowE ws (j + 1)).length) :
    numI ws (j + 1) t ≤ t ∧ numI ws (j + 1) t ≤ ws.length ∧ 2 * (t - numI ws (j + 1) t) ≤ (rowE ws j).length ∧
    ((rowE ws (j + 1)).take t).Perm ((itemsE ws).take (numI ws (j + 1) t) ++ (pairsE (rowE ws j)).take (t - numI ws (j + 1) t)) ∧
    ∀ i k, (hi : i < ws.length) → (hk : k < (pairsE (rowE ws j)).length) → k < t - numI ws (j + 1) t → ws[i] ≤ (pairsE (rowE ws j))[k].1 → i < numI ws (j + 1) t := by
  rw [rowE, List.length_merge] at ht
  obtain ⟨a, b, h1, h2, h3, h4, h5⟩ := merge_take (itemsE ws) (pairsE (rowE ws j)) t ht (itemsE_asc h)
  have hn : numI ws (j + 1) t = a := by
    unfold numI
    rw [rowE, h4.countP_eq, List.countP_append]
    have e1 : ((itemsE ws).take a).countP isItem = a := by
      rw [List.countP_eq_length.2, List.length_take, Nat.min_eq_left h1]
      intro e he
      have := List.mem_of_mem_take he
      simp only [itemsE, List.mem_map] at this
      obtain ⟨i, _, rfl⟩ := this; rfl
    have e2 : ((pairsE (rowE ws j)).take b).countP isItem = 0 := by
      rw [List.countP_eq_zero]
      intro e he
      have := pairsE_has2 e (List.mem_of_mem_take he)
      unfold isItem
      rw [beq_iff_eq]; omega
    rw [e1, e2]; rfl
  rw [hn]
  obtain rfl : b = t - a := by omega
  rw [itemsE_length] at h1
  rw [pairsE_length] at h2
  refine ⟨by omega, h1, by omega, h4, fun i k hi hk hkb hle => h5 i k (by rw [itemsE_length]; exact hi) hk hkb ?_⟩
  rw [itemsE_get hi]; exact hle
theorem items_has {ws : List Nat} {a : Nat} (ha : a ≤ ws.length) : ((itemsE ws).take a).flatMap (·.2) = List.range a := by
  unfold itemsE
  rw [← List.map_take, List.take_range, Nat.min_eq_left ha]
  induction a with
  | zero => rfl
  | succ a ih => rw [List.range_succ, List.map_append, List.flatMap_append, ih (by omega)]; simp
theorem count_range (a i : Nat) : (List.range a).count i = if i < a then 1 else 0 := by
  induction a with
  | zero => simp
  | succ a ih =>
    rw [List.range_succ, List.count_append, ih, List.count_singleton]
    by_cases h1 : i < a
    · have : (a == i) = false := by simp; omega
      rw [this, if_pos h1, if_pos (by omega : i < a + 1)]; rfl
    · by_cases h2 : a = i
      · subst h2
        rw [if_neg h1, if_pos (by omega : a < a + 1)]; simp
      · have : (a == i) = false := by simp [h2]
        rw [this, if_neg h1, if_neg (by omega : ¬ i < a + 1)]; rfl
theorem count_lev {ws : List Nat} (h : ws.Pairwise (· ≤ ·)) : ∀ (j t : Nat), t ≤ (rowE ws j).length → ∀ i, (((rowE ws j).take t).flatMap (·.2)).count i = (lev ws j t).countP (fun a => decide (i < a))
  | 0, t, _, i => by simp [rowE, lev]
  | j + 1, t, ht, i => by
    obtain ⟨h1, h2, h3, h4, _⟩ := row_take h j t ht
    have ih := count_lev h j _ h3 i
    rw [(h4.flatMap_right _).count_eq, List.flatMap_append, List.count_append, items_has h2, count_range, pairsE_has _ _ h3, ih, lev, List.countP_cons, Nat.add_comm]
    simp
theorem lev_le {ws : List Nat} (h : ws.Pairwise (· ≤ ·)) : ∀ (j t : Nat), t ≤ (rowE ws j).length → ∀ a ∈ lev ws j t, a ≤ ws.length
  | 0, t, _, a, ha => by simp [lev] at ha
  | j + 1, t, ht, a, ha => by
    obtain ⟨h1, h2, h3, h4, _⟩ := row_take h j t ht
    rw [lev, List.mem_cons] at ha
    rcases ha with rfl | ha
    · exact h2
    · exact lev_le h j _ h3 a ha
/-- Which lie deeper are no more. -/
theorem lev_next {ws : List Nat} (h : ws.Pairwise (· ≤ ·)) (j t : Nat) (ht : t ≤ (rowE ws (j + 1 + 1)).length) :
    numI ws (j + 1) (2 * (t - numI ws (j + 1 + 1) t)) ≤ numI ws (j + 1 + 1) t := by
  obtain ⟨h1, h2, h3, h4, h5⟩ := row_take h (j + 1) t ht
  obtain ⟨b, hb⟩ : ∃ b, t - numI ws (j + 1 + 1) t = b := ⟨_, rfl⟩
  obtain ⟨a, ha⟩ : ∃ a, numI ws (j + 1 + 1) t = a := ⟨_, rfl⟩
  rw [hb] at h3 h5 ⊢
  rw [ha] at h5 h2 ⊢
  obtain ⟨k1, k2, k3, k4, _⟩ := row_take h j (2 * b) h3
  obtain ⟨a', ha'⟩ : ∃ a', numI ws (j + 1) (2 * b) = a' := ⟨_, rfl⟩
  rw [ha'] at k1 k2 k4 ⊢
  rcases Nat.eq_zero_or_pos a' with h0 | h0
  · omega
  have hi : a' - 1 < ws.length := by omega
  have hmem : (ws[a' - 1], [a' - 1]) ∈ (rowE ws (j + 1)).take (2 * b) := by
    rw [k4.mem_iff, List.mem_append]
    left
    rw [List.mem_take_iff_getElem]
    exact ⟨a' - 1, by rw [itemsE_length]; omega, itemsE_get hi⟩
  obtain ⟨q, hq, he⟩ := List.mem_take_iff_getElem.1 hmem
  have hqb : q < 2 * b := by omega
  have hlen := pairsE_length (rowE ws (j + 1))
  have := h5 (a' - 1) (q / 2) hi (by omega) (by omega) (by
    rw [pairsE_get (q / 2) _ (by omega) (by omega)]
    rcases Nat.mod_two_eq_zero_or_one q with hm | hm
    · have e : 2 * (q / 2) = q := by omega
      simp only [e, he]; omega
    · have e : 2 * (q / 2) + 1 = q := by omega
      simp only [e, he]; omega)
  omega
theorem lev_desc {ws : List Nat} (h : ws.Pairwise (· ≤ ·)) : ∀ (j t : Nat), t ≤ (rowE ws j).length → (lev ws j t).Pairwise (· ≥ ·)
  | 0, t, _ => List.Pairwise.nil
  | 1, t, _ => by simp [lev]
  | j + 1 + 1, t, ht => by
    obtain ⟨h1, h2, h3, h4, _⟩ := row_take h (j + 1) t ht
    have ih := lev_desc h (j + 1) _ h3
    have hn := lev_next h j t ht
    rw [lev]
    rw [lev] at ih ⊢
    refine List.pairwise_cons.2 ⟨fun a ha => ?_, ih⟩
    rcases List.mem_cons.1 ha with rfl | ha
    · exact hn
    · exact Nat.le_trans ((List.pairwise_cons.1 ih).1 a ha) hn
/-- The width of so many items in each row. -/
def widL : List Nat → Nat
  | [] => 0
  | a :: as => a * 2 ^ as.length + widL as
theorem wid_lev {ws : List Nat} (h : ws.Pairwise (· ≤ ·)) : ∀ (j t : Nat), t ≤ (rowE ws j).length → 2 * widL (lev ws j t) = t * 2 ^ j
  | 0, t, ht => by
    obtain rfl : t = 0 := by simpa [rowE] using ht
    rfl
  | j + 1, t, ht => by
    obtain ⟨h1, h2, h3, h4, _⟩ := row_take h j t ht
    have ih := wid_lev h j _ h3
    rw [lev, widL, lev_length, Nat.mul_add, ih]
    obtain ⟨d, hd⟩ : ∃ d, t = numI ws (j + 1) t + d := ⟨t - numI ws (j + 1) t, by omega⟩
    generalize numI ws (j + 1) t = a at *
    subst hd
    rw [show a + d - a = d by omega, Nat.pow_succ, Nat.add_mul, Nat.mul_assoc 2 d, Nat.mul_comm (2 ^ j) 2, Nat.mul_left_comm 2 a, Nat.mul_left_comm 2 d]
def cutW (ws : List Nat) (a : Nat) : Nat := (ws.take a).sum
theorem items_sum (ws : List Nat) (a : Nat) : sumW ((itemsE ws).take a) = cutW ws a := by
  have e : (itemsE ws).map (·.1) = ws := by
    refine List.ext_getElem (by simp [itemsE]) fun i h1 h2 => ?_
    rw [List.getElem_map, itemsE_get h2]
  unfold sumW cutW
  rw [List.map_take, e]
theorem sum_lev {ws : List Nat} (h : ws.Pairwise (· ≤ ·)) : ∀ (j t : Nat), t ≤ (rowE ws j).length → sumW ((rowE ws j).take t) = ((lev ws j t).map (cutW ws)).sum
  | 0, t, ht => by simp [rowE, lev, sumW]
  | j + 1, t, ht => by
    obtain ⟨h1, h2, h3, h4, _⟩ := row_take h j t ht
    have ih := sum_lev h j _ h3
    have e : sumW ((rowE ws (j + 1)).take t) = sumW ((itemsE ws).take (numI ws (j + 1) t) ++ (pairsE (rowE ws j)).take (t - numI ws (j + 1) t)) := (h4.map _).sum_nat
    rw [e, sumW_append, items_sum, pairsE_sum _ _ h3, ih, lev, List.map_cons, List.sum_cons]
/-- The first ones of a row weigh no more than any items of the same width. -/
theorem row_best {ws : List Nat} (h : ws.Pairwise (· ≤ ·)) : ∀ (j : Nat) (as : List Nat) (t : Nat), as.length = j + 1 → (∀ a ∈ as, a ≤ ws.length) → widL as = t * 2 ^ j →
    t ≤ (rowE ws (j + 1)).length ∧ sumW ((rowE ws (j + 1)).take t) ≤ (as.map (cutW ws)).sum
  | 0, as, t, hl, hb, hw => by
    match as, hl with
    | [a], _ =>
      have ha := hb a (by simp)
      simp only [widL, List.length_nil, Nat.pow_zero, Nat.mul_one, Nat.add_zero] at hw
      subst hw
      have e : rowE ws (0 + 1) = itemsE ws := by rw [rowE, rowE, pairsE, List.merge_right]; simp
      rw [e, itemsE_length, items_sum]
      exact ⟨ha, by simp⟩
  | j + 1, as, t, hl, hb, hw => by
    match as, hl with
    | a :: as, hl =>
      have hl' : as.length = j + 1 := by simpa using hl
      have ha := hb a (by simp)
      rw [widL, hl'] at hw
      have hp : 0 < 2 ^ (j + 1) := Nat.pow_pos (by omega)
      have hat : a ≤ t := by
        refine Nat.le_of_mul_le_mul_right ?_ hp
        omega
      obtain ⟨b, rfl⟩ : ∃ b, t = a + b := ⟨t - a, by omega⟩
      have hw' : widL as = (2 * b) * 2 ^ j := by
        rw [Nat.add_mul] at hw
        have : b * 2 ^ (j + 1) = 2 * b * 2 ^ j := by rw [Nat.pow_succ, Nat.mul_comm (2 ^ j) 2, Nat.mul_left_comm, Nat.mul_assoc]
        omega
      obtain ⟨h1, h2⟩ := row_best h j as (2 * b) hl' (fun x hx => hb x (by simp [hx])) hw'
      have hpl := pairsE_length (rowE ws (j + 1))
      have hm := merge_best (itemsE ws) (pairsE (rowE ws (j + 1))) a b (by rw [itemsE_length]; exact ha) (by omega) (itemsE_asc h) (pairsE_asc (rowE_asc h _))
      rw [items_sum, pairsE_sum _ _ h1] at hm
      refine ⟨by rw [rowE_len]; omega, ?_⟩
      rw [List.map_cons, List.sum_cons, rowE]
      omega
end Go.Bn
