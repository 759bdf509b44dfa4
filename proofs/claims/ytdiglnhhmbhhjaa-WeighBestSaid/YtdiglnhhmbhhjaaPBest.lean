/- Plain: no other lengths that leave nothing over cost less. -/
import Derived.Test.YtdiglnhhmbhhjaaPMerge2
set_option linter.unusedVariables false
set_option linter.unusedSimpArgs false
namespace Go.Bn
theorem sum_range_cons (f : Nat → Nat) (n : Nat) : ((List.range (n + 1)).map f).sum = f 0 + ((List.range n).map fun i => f (i + 1)).sum := by
  rw [List.range_succ_eq_map, List.map_cons, List.sum_cons, List.map_map]; rfl
theorem sum_zero (n : Nat) : ((List.range n).map fun _ => 0).sum = 0 := by rw [sum_const]; omega
theorem sum_comm (f : Nat → Nat → Nat) (n m : Nat) : ((List.range n).map fun i => ((List.range m).map fun t => f i t).sum).sum = ((List.range m).map fun t => ((List.range n).map fun i => f i t).sum).sum := by
  induction n with
  | zero => exact (sum_zero m).symm
  | succ n ih =>
    rw [sum_range_succ, ih, ← sum_add]
    refine sum_congr fun t _ => ?_
    rw [sum_range_succ]
theorem sum_le {f g : Nat → Nat} {n : Nat} (h : ∀ i, i < n → f i ≤ g i) : ((List.range n).map f).sum ≤ ((List.range n).map g).sum := by
  induction n with
  | zero => simp
  | succ n ih =>
    rw [sum_range_succ, sum_range_succ]
    have := ih fun i hi => h i (by omega)
    have := h n (by omega)
    omega
theorem sum_cut (W : List Nat) (a : Nat) : ∀ m, m ≤ W.length → ((List.range m).map fun i => if i < a then W.getD i 0 else 0).sum = ((W.take m).take a).sum
  | 0, _ => by simp
  | m + 1, h => by
    have ih := sum_cut W a m (by omega)
    rw [sum_range_succ, ih, take_snoc (by omega)]
    by_cases ha : m < a
    · rw [if_pos ha, List.take_of_length_le (i := a) (l := W.take m) (by rw [List.length_take]; omega), List.take_of_length_le (i := a) (by simp; omega), List.sum_append]; simp
    · rw [if_neg ha, Nat.add_zero, List.take_append_of_le_length (by rw [List.length_take]; omega)]
/-- Costs, level by level. -/
theorem cost_levels {W : List Nat} : ∀ (L : List Nat), (∀ a ∈ L, a ≤ W.length) → ((List.range W.length).map fun i => W.getD i 0 * lvl L i).sum = (L.map (cutW W)).sum
  | [], _ => by
    have : ((List.range W.length).map fun i => W.getD i 0 * lvl [] i).sum = ((List.range W.length).map fun _ => 0).sum := sum_congr fun i _ => by simp [lvl]
    rw [this, sum_zero]; rfl
  | a :: L, h => by
    have ih := cost_levels L fun x hx => h x (by simp [hx])
    have e : ((List.range W.length).map fun i => W.getD i 0 * lvl (a :: L) i).sum = ((List.range W.length).map fun i => W.getD i 0 * lvl L i + if i < a then W.getD i 0 else 0).sum := by
      refine sum_congr fun i _ => ?_
      rw [lvl_cons, Nat.mul_add]
      by_cases hi : i < a
      · rw [if_pos hi, if_pos hi, Nat.mul_one]
      · rw [if_neg hi, if_neg hi, Nat.mul_zero]
    rw [e, sum_add, ih, sum_cut W a W.length (Nat.le_refl _), List.take_length, List.map_cons, List.sum_cons, Nat.add_comm]; rfl
theorem cut_shift {w : Nat} {W : List Nat} (h : (w :: W).Pairwise (· ≤ ·)) : ∀ c, c ≤ W.length → ((w :: W).take c).sum ≤ (W.take c).sum
  | 0, _ => by simp
  | c + 1, hc => by
    have ih := cut_shift h c (by omega)
    rw [List.take_succ_eq_append_getElem (l := w :: W) (i := c) (by simp; omega), List.take_succ_eq_append_getElem (l := W) (i := c) (by omega), List.sum_append, List.sum_append]
    have h1 : (w :: W)[c]'(by simp; omega) ≤ W[c] := by
      have := List.pairwise_iff_getElem.1 h c (c + 1) (by simp; omega) (by simp; omega) (by omega)
      simpa using this
    simp; omega
theorem cut_least : ∀ (W : List Nat) (p : Nat → Bool), W.Pairwise (· ≤ ·) → cutW W ((List.range W.length).countP p) ≤ ((List.range W.length).map fun i => if p i = true then W.getD i 0 else 0).sum
  | [], p, _ => by simp [cutW]
  | w :: W, p, h => by
    have ih := cut_least W (fun i => p (i + 1)) (List.pairwise_cons.1 h).2
    have hc : (List.range (w :: W).length).countP p = (if p 0 = true then 1 else 0) + (List.range W.length).countP fun i => p (i + 1) := by
      rw [List.length_cons, List.range_succ_eq_map, List.countP_cons, List.countP_map, Nat.add_comm]; rfl
    rw [hc, List.length_cons, sum_range_cons]
    have e : ((List.range W.length).map fun i => if p (i + 1) = true then (w :: W).getD (i + 1) 0 else 0) = (List.range W.length).map fun i => if p (i + 1) = true then W.getD i 0 else 0 := by
      refine List.map_congr_left fun i _ => ?_
      rw [List.getD_cons_succ]
    rw [e]
    obtain ⟨c, hcc⟩ : ∃ c, (List.range W.length).countP (fun i => p (i + 1)) = c := ⟨_, rfl⟩
    have hcl : c ≤ W.length := by
      have := List.countP_le_length (p := fun i => p (i + 1)) (l := List.range W.length)
      rw [List.length_range] at this; omega
    rw [hcc] at ih ⊢
    by_cases hp : p 0 = true
    · rw [if_pos hp, if_pos hp]
      unfold cutW at ih ⊢
      rw [Nat.add_comm 1 c, List.take_succ_cons, List.sum_cons, List.getD_cons_zero]; omega
    · rw [if_neg hp, if_neg hp, Nat.zero_add, Nat.zero_add]
      have := cut_shift h c hcl
      unfold cutW at ih ⊢
      omega
theorem widL_range : ∀ (m : Nat) (f : Nat → Nat), widL ((List.range m).map f) = ((List.range m).map fun t => f t * 2 ^ (m - 1 - t)).sum
  | 0, f => rfl
  | m + 1, f => by
    rw [List.range_succ_eq_map, List.map_cons, List.map_map, widL, List.length_map, List.length_range]
    have ih := widL_range m (f ∘ Nat.succ)
    rw [ih, ← List.range_succ_eq_map, sum_range_cons]
    congr 1
    refine sum_congr fun t _ => ?_
    simp only [Function.comp, Nat.succ_eq_add_one]
    rw [show m + 1 - 1 - (t + 1) = m - 1 - t by omega]
theorem level_sum (o : Nat) : ∀ m, m ≤ 15 → ((List.range m).map fun t => if t < o then 2 ^ (14 - t) else 0).sum + 2 ^ (15 - min o m) = 2 ^ 15
  | 0, _ => by simp
  | m + 1, h => by
    have ih := level_sum o m (by omega)
    rw [sum_range_succ]
    by_cases hm : m < o
    · rw [if_pos hm, Nat.min_eq_right (by omega)]
      rw [Nat.min_eq_right (by omega), show 15 - m = (14 - m) + 1 by omega, Nat.pow_succ] at ih
      rw [show 15 - (m + 1) = 14 - m by omega]; omega
    · rw [if_neg hm, Nat.min_eq_left (by omega)]
      rw [Nat.min_eq_left (by omega)] at ih
      omega
/-- What lengths cost by weights. -/
def costN (ws ls : List Nat) : Nat := ((List.range ws.length).map fun s => ws.getD s 0 * ls.getD s 0).sum
theorem sum_items {ws : List Nat} (f : Nat → Nat) : ((List.range ws.length).map fun s => wkey ws s * f s).sum = ((List.range (syms ws).length).map fun i => (sws ws).getD i 0 * f ((syms ws).getD i 0)).sum := by
  rw [sum_syms (fun s => wkey ws s * f s) fun s hs => ?_]
  · refine sum_congr fun i hi => ?_
    congr 1
    unfold sws
    rw [getD_eq hi, getD_eq (by simpa using hi), List.getElem_map]
  · show wkey ws s * f s = 0
    have : wkey ws s = 0 := by
      rcases Nat.lt_or_ge s ws.length with h1 | h1
      · exact Classical.byContradiction fun h => hs (mem_syms.2 ⟨h1, by omega⟩)
      · unfold wkey; simp [List.getD, h1]
    rw [this, Nat.zero_mul]
theorem cost_lensW {ws : List Nat} (h2 : ws.length ≤ 16000) (h : 2 ≤ (syms ws).length) : costN ws (lensW ws) = sumW ((rowE (sws ws) 15).take (2 * (syms ws).length - 2)) := by
  have e : costN ws (lensW ws) = ((List.range ws.length).map fun s => wkey ws s * lenW ws s).sum := by
    refine sum_congr fun s hs => ?_
    rw [lensW_get hs]; rfl
  rw [e, sum_items, sum_lev (sws_asc ws) 15 _ (rowW_len h h2), ← levW_two h, ← cost_levels _ (by rw [sws_length]; exact levW_le h2), sws_length]
  refine sum_congr fun i hi => ?_
  unfold lenW
  rw [idxOf_getD hi]
theorem lensW_best {ws os : List Nat} (h2 : ws.length ≤ 16000) (hl : os.length = ws.length) (hb : ∀ x ∈ os, x ≤ 15) (hk : kraft os = 32768) (hs : ∀ s, s < ws.length → (0 < wkey ws s ↔ 0 < os.getD s 0)) : costN ws (lensW ws) ≤ costN ws os := by
  have hob : ∀ s, os.getD s 0 ≤ 15 := fun s => by
    rcases Nat.lt_or_ge s os.length with h1 | h1
    · rw [getD_eq h1]; exact hb _ (List.getElem_mem h1)
    · simp [List.getD, h1]
  have hz : ∀ s, s ∉ syms ws → os.getD s 0 = 0 := fun s h => by
    rcases Nat.lt_or_ge s ws.length with h1 | h1
    · refine Classical.byContradiction fun h3 => h (mem_syms.2 ⟨h1, (hs s h1).2 (by omega)⟩)
    · simp [List.getD, hl, h1]
  obtain ⟨o, ho⟩ : ∃ o : Nat → Nat, o = fun i => os.getD ((syms ws).getD i 0) 0 := ⟨_, rfl⟩
  have hop : ∀ i, i < (syms ws).length → 1 ≤ o i ∧ o i ≤ 15 := fun i hi => by
    have hm := mem_syms.1 (getD_mem hi)
    have := (hs _ hm.1).1 hm.2
    rw [ho]; exact ⟨this, hob _⟩
  have hkr : ((List.range (syms ws).length).map fun i => 2 ^ (15 - o i)).sum = 32768 := by
    rw [← hk]
    have e1 : kraft os = ((List.range ws.length).map fun s => unitK (os.getD s 0)).sum := by
      rw [← kraft_map]
      congr 1
      refine List.ext_getElem (by simp [hl]) fun i h1 h2 => ?_
      rw [List.getElem_map, List.getElem_range, getD_eq h1]
    rw [e1, sum_syms (fun s => unitK (os.getD s 0)) fun s hs => by rw [hz s hs]; rfl]
    refine sum_congr fun i hi => ?_
    have := hop i hi
    rw [ho] at this ⊢
    simp only at this ⊢
    unfold unitK
    rw [if_neg (by omega)]
  have hn : 2 ≤ (syms ws).length := by
    refine Classical.byContradiction fun h => ?_
    rcases Nat.eq_zero_or_pos (syms ws).length with h0 | h0
    · rw [h0] at hkr; simp at hkr
    · have h1 : (syms ws).length = 1 := by omega
      rw [h1] at hkr
      have hp := hop 0 (by omega)
      have : 2 ^ (15 - o 0) ≤ 2 ^ 14 := Nat.pow_le_pow_right (by omega) (by omega)
      rw [sum_range_succ] at hkr
      simp only [List.range_zero, List.map_nil, List.sum_nil, Nat.zero_add] at hkr
      omega
  have hcost : costN ws os = ((List.range (syms ws).length).map fun i => (sws ws).getD i 0 * o i).sum := by
    unfold costN
    have := sum_items (ws := ws) fun s => os.getD s 0
    rw [ho]
    exact this
  -- The row of how many items each level has.
  obtain ⟨a, ha⟩ : ∃ a : Nat → Nat, a = fun t => (List.range (syms ws).length).countP fun i => decide (t < o i) := ⟨_, rfl⟩
  have hcount : ∀ t, a t = ((List.range (syms ws).length).map fun i => if t < o i then 1 else 0).sum := fun t => by
    rw [ha]
    simp only
    generalize (syms ws).length = n
    induction n with
    | zero => rfl
    | succ n ih => rw [sum_range_succ, ← ih, List.range_succ, List.countP_append, List.countP_singleton]; simp
  have hwid : widL ((List.range 15).map a) = (2 * (syms ws).length - 2) * 2 ^ 14 := by
    have e1 : widL ((List.range 15).map a) = ((List.range (syms ws).length).map fun i => ((List.range 15).map fun t => if t < o i then 2 ^ (14 - t) else 0).sum).sum := by
      rw [widL_range, sum_comm (fun i t => if t < o i then 2 ^ (14 - t) else 0)]
      refine sum_congr fun t _ => ?_
      rw [hcount t, Nat.mul_comm, show 15 - 1 - t = 14 - t by omega]
      generalize (syms ws).length = n
      induction n with
      | zero => simp
      | succ n ih =>
        rw [sum_range_succ, sum_range_succ, Nat.mul_add, ih]
        by_cases h : t < o n
        · rw [if_pos h, if_pos h, Nat.mul_one]
        · rw [if_neg h, if_neg h, Nat.mul_zero]
    have e2 : ((List.range (syms ws).length).map fun i => ((List.range 15).map fun t => if t < o i then 2 ^ (14 - t) else 0).sum + 2 ^ (15 - o i)).sum = (syms ws).length * 2 ^ 15 := by
      rw [← sum_const]
      refine sum_congr fun i hi => ?_
      have := level_sum (o i) 15 (Nat.le_refl _)
      rwa [Nat.min_eq_left (hop i hi).2] at this
    rw [sum_add, hkr] at e2
    rw [e1, Nat.sub_mul]
    omega
  have hbest := row_best (sws_asc ws) 14 ((List.range 15).map a) (2 * (syms ws).length - 2) (by simp) (fun x hx => by
    obtain ⟨t, _, rfl⟩ := List.mem_map.1 hx
    rw [sws_length, ha]
    have := List.countP_le_length (p := fun i => decide (t < o i)) (l := List.range (syms ws).length)
    rwa [List.length_range] at this) hwid
  rw [cost_lensW h2 hn, hcost]
  refine Nat.le_trans hbest.2 ?_
  have e3 : ((List.range (syms ws).length).map fun i => (sws ws).getD i 0 * o i).sum = ((List.range 15).map fun t => ((List.range (syms ws).length).map fun i => if t < o i then (sws ws).getD i 0 else 0).sum).sum := by
    rw [← sum_comm (fun i t => if t < o i then (sws ws).getD i 0 else 0)]
    refine sum_congr fun i hi => ?_
    rw [sum_below, Nat.min_eq_left (hop i hi).2, Nat.mul_comm]
  rw [e3, List.map_map]
  refine sum_le fun t _ => ?_
  have := cut_least (sws ws) (fun i => decide (t < o i)) (sws_asc ws)
  rw [sws_length] at this
  simp only [Function.comp, ha]
  simpa using this
end Go.Bn
