/- Plain: the lengths that the package-merge gives to weights. -/
import Derived.Test.YtdiglnhhmbhhjaaPMerge
import Derived.Test.YtdiglnhhmbhhjaaPSort
set_option linter.unusedVariables false
set_option linter.unusedSimpArgs false
namespace Go.Bn
def wkey (ws : List Nat) (s : Nat) : Nat := ws.getD s 0
def flt (ws : List Nat) : List Nat := (List.range ws.length).filter fun s => decide (0 < wkey ws s)
theorem exists_spot {key : Nat → Nat} {S : List Nat} {x : Nat} : ∀ p, p ≤ S.length → (S.length ≤ p ∨ key x < key (S.getD p 0)) → ∃ q, q ≤ S.length ∧ (q = 0 ∨ key (S.getD (q - 1) 0) ≤ key x) ∧ (S.length ≤ q ∨ key x < key (S.getD q 0))
  | 0, h, h2 => ⟨0, h, .inl rfl, h2⟩
  | p + 1, h, h2 => by
    by_cases hk : key (S.getD p 0) ≤ key x
    · exact ⟨p + 1, h, .inr hk, h2⟩
    · exact exists_spot p (by omega) (.inr (by omega))
theorem exists_sorted (key : Nat → Nat) : ∀ (n : Nat) (M : List Nat), M.length = n → M.Pairwise (· < ·) → ∃ l, l.Perm M ∧ RkS key l
  | 0, M, h, _ => ⟨[], by rw [List.eq_nil_of_length_eq_zero h], List.Pairwise.nil⟩
  | n + 1, M, h, hM => by
    obtain ⟨x, M', rfl⟩ : ∃ x M', M = M' ++ [x] := by
      rcases List.eq_nil_or_concat M with rfl | ⟨M', x, rfl⟩
      · simp at h
      · exact ⟨x, M', by simp⟩
    obtain ⟨h1, _, h3⟩ := List.pairwise_append.1 hM
    obtain ⟨S, hS, hs⟩ := exists_sorted key n M' (by simpa using h) h1
    have hpre : PreM key S [x] := ⟨hs, by simp, fun u hu v hv _ => h3 u (hS.mem_iff.1 hu) v hv⟩
    obtain ⟨q, q1, q2, q3⟩ := exists_spot (key := key) (S := S) (x := x) S.length (Nat.le_refl _) (.inl (Nat.le_refl _))
    obtain ⟨m1, m2⟩ := mrg_right hpre q1 q2 q3
    exact ⟨_, m1.trans (hS.append_right _), m2⟩
theorem flt_asc (ws : List Nat) : (flt ws).Pairwise (· < ·) := List.Pairwise.sublist List.filter_sublist List.pairwise_lt_range
/-- The symbols that weigh something, by rising weight. -/
noncomputable def syms (ws : List Nat) : List Nat := Classical.choose (exists_sorted (wkey ws) _ (flt ws) rfl (flt_asc ws))
theorem syms_spec (ws : List Nat) : (syms ws).Perm (flt ws) ∧ RkS (wkey ws) (syms ws) := Classical.choose_spec (exists_sorted (wkey ws) _ (flt ws) rfl (flt_asc ws))
theorem syms_eq {ws l : List Nat} (h : l.Perm (flt ws)) (h2 : RkS (wkey ws) l) : l = syms ws := rk_unique h2 (syms_spec ws).2 (h.trans (syms_spec ws).1.symm)
theorem mem_syms {ws : List Nat} {s : Nat} : s ∈ syms ws ↔ s < ws.length ∧ 0 < wkey ws s := by
  rw [(syms_spec ws).1.mem_iff]; simp [flt]
theorem syms_len (ws : List Nat) : (syms ws).length ≤ ws.length := by
  rw [(syms_spec ws).1.length_eq]
  have := List.length_filter_le (fun s => decide (0 < wkey ws s)) (List.range ws.length)
  rwa [List.length_range] at this
theorem syms_nodup (ws : List Nat) : (syms ws).Nodup := by
  refine (syms_spec ws).2.imp fun {a b} h e => ?_
  subst e
  unfold Rk at h; omega
noncomputable def sws (ws : List Nat) : List Nat := (syms ws).map (wkey ws)
theorem sws_length (ws : List Nat) : (sws ws).length = (syms ws).length := by simp [sws]
theorem sws_asc (ws : List Nat) : (sws ws).Pairwise (· ≤ ·) := by
  unfold sws
  rw [List.pairwise_map]
  exact (syms_spec ws).2.imp fun h => h.le
/-- How many levels an item has, by the rows' numbers. -/
def lvl (L : List Nat) (i : Nat) : Nat := L.countP fun a => decide (i < a)
noncomputable def levW (ws : List Nat) : List Nat := match (syms ws).length with
  | 0 => []
  | 1 => [1]
  | n => lev (sws ws) 15 (2 * n - 2)
noncomputable def lenW (ws : List Nat) (s : Nat) : Nat := lvl (levW ws) ((syms ws).idxOf s)
noncomputable def lensW (ws : List Nat) : List Nat := (List.range ws.length).map (lenW ws)
theorem lensW_length (ws : List Nat) : (lensW ws).length = ws.length := by simp [lensW]
theorem levW_two {ws : List Nat} (h : 2 ≤ (syms ws).length) : levW ws = lev (sws ws) 15 (2 * (syms ws).length - 2) := by
  unfold levW
  match hn : (syms ws).length, h with
  | n + 2, _ => rfl
theorem rowW_len {ws : List Nat} (h : 2 ≤ (syms ws).length) (h2 : ws.length ≤ 16000) : 2 * (syms ws).length - 2 ≤ (rowE (sws ws) 15).length := by
  have := syms_len ws
  have hl := sws_length ws
  rw [rowE_len15 _ (by omega) (by omega)]; omega
theorem levW_le {ws : List Nat} (h2 : ws.length ≤ 16000) : ∀ a ∈ levW ws, a ≤ (syms ws).length := by
  intro a ha
  rcases Nat.lt_or_ge (syms ws).length 2 with h | h
  · unfold levW at ha
    match hn : (syms ws).length, h with
    | 0, _ => rw [hn] at ha; simp at ha
    | 1, _ => rw [hn] at ha; simp at ha; omega
  · rw [levW_two h] at ha
    have := lev_le (sws_asc ws) 15 _ (rowW_len h h2) a ha
    rwa [sws_length] at this
theorem levW_desc {ws : List Nat} (h2 : ws.length ≤ 16000) : (levW ws).Pairwise (· ≥ ·) := by
  rcases Nat.lt_or_ge (syms ws).length 2 with h | h
  · unfold levW
    match hn : (syms ws).length, h with
    | 0, _ => simp
    | 1, _ => simp
  · rw [levW_two h]; exact lev_desc (sws_asc ws) 15 _ (rowW_len h h2)
theorem levW_length {ws : List Nat} : (levW ws).length ≤ 15 := by
  rcases Nat.lt_or_ge (syms ws).length 2 with h | h
  · unfold levW
    match hn : (syms ws).length, h with
    | 0, _ => simp
    | 1, _ => simp
  · rw [levW_two h, lev_length]; exact Nat.le_refl _
theorem lenW_le (ws : List Nat) (s : Nat) : lenW ws s ≤ 15 := by
  have := List.countP_le_length (p := fun a => decide ((syms ws).idxOf s < a)) (l := levW ws)
  have := levW_length (ws := ws)
  unfold lenW lvl; omega
theorem lenW_none {ws : List Nat} {s : Nat} (h2 : ws.length ≤ 16000) (h : s ∉ syms ws) : lenW ws s = 0 := by
  unfold lenW lvl
  rw [List.countP_eq_zero]
  intro a ha
  have := levW_le h2 a ha
  have h3 : (syms ws).idxOf s = (syms ws).length := List.idxOf_eq_length h
  simp only [decide_eq_true_eq]; omega

/-! What they come to. -/
def units (L : List Nat) (n len : Nat) : Nat := ((List.range n).map fun i => 2 ^ (len - lvl L i)).sum
theorem sum_range_succ (f : Nat → Nat) (n : Nat) : ((List.range (n + 1)).map f).sum = ((List.range n).map f).sum + f n := by
  rw [List.range_succ, List.map_append, List.sum_append]; simp
theorem sum_add (f g : Nat → Nat) (n : Nat) : ((List.range n).map fun i => f i + g i).sum = ((List.range n).map f).sum + ((List.range n).map g).sum := by
  induction n with
  | zero => rfl
  | succ n ih => rw [sum_range_succ, sum_range_succ, sum_range_succ, ih]; omega
theorem sum_congr {f g : Nat → Nat} {n : Nat} (h : ∀ i, i < n → f i = g i) : ((List.range n).map f).sum = ((List.range n).map g).sum := by
  congr 1
  exact List.map_congr_left fun i hi => h i (List.mem_range.1 hi)
theorem sum_below (a c : Nat) : ∀ n, ((List.range n).map fun i => if i < a then c else 0).sum = min a n * c
  | 0 => by simp
  | n + 1 => by
    rw [sum_range_succ, sum_below a c n]
    by_cases h : n < a
    · rw [if_pos h, Nat.min_eq_right (by omega), Nat.min_eq_right (by omega), Nat.add_mul, Nat.one_mul]
    · rw [if_neg h, Nat.min_eq_left (by omega), Nat.min_eq_left (by omega)]; rfl
theorem lvl_le (L : List Nat) (i : Nat) : lvl L i ≤ L.length := List.countP_le_length
theorem lvl_cons (a : Nat) (L : List Nat) (i : Nat) : lvl (a :: L) i = lvl L i + if i < a then 1 else 0 := by
  unfold lvl
  rw [List.countP_cons]; simp
theorem sum_const (c : Nat) : ∀ n, ((List.range n).map fun _ => c).sum = n * c
  | 0 => by simp
  | n + 1 => by rw [sum_range_succ (fun _ => c), sum_const c n, Nat.add_mul, Nat.one_mul]
/-- Levels that fall: their width is what the lengths leave. -/
theorem wid_units {n : Nat} : ∀ (L : List Nat), L.Pairwise (· ≥ ·) → (∀ a ∈ L, a ≤ n) → widL L + units L n L.length = n * 2 ^ L.length
  | [], _, _ => by
    simp only [widL, units, lvl, List.length_nil, List.countP_nil, Nat.sub_zero, Nat.pow_zero]
    rw [sum_const]; omega
  | a :: L, hd, hb => by
    obtain ⟨h1, h2⟩ := List.pairwise_cons.1 hd
    have ih := wid_units L h2 fun x hx => hb x (by simp [hx])
    have ha := hb a (by simp)
    have hz : ∀ i, ¬ i < a → lvl L i = 0 := fun i hi => by
      unfold lvl
      rw [List.countP_eq_zero]
      intro x hx
      have := h1 x hx
      simp only [decide_eq_true_eq]; omega
    have e : units (a :: L) n (a :: L).length + min a n * 2 ^ L.length = units L n L.length + n * 2 ^ L.length := by
      unfold units
      rw [← sum_below a (2 ^ L.length) n, ← sum_add]
      have e2 : n * 2 ^ L.length = ((List.range n).map fun _ => 2 ^ L.length).sum := (sum_const _ _).symm
      rw [e2, ← sum_add]
      refine sum_congr fun i _ => ?_
      have hle := lvl_le L i
      rw [lvl_cons, List.length_cons]
      by_cases hi : i < a
      · rw [if_pos hi, if_pos hi, show L.length + 1 - (lvl L i + 1) = L.length - lvl L i by omega]
      · rw [if_neg hi, if_neg hi, hz i hi, Nat.add_zero, Nat.sub_zero, Nat.sub_zero, Nat.pow_succ]; omega
    rw [Nat.min_eq_left ha] at e
    rw [widL, List.length_cons, Nat.pow_succ, ← Nat.mul_assoc]
    rw [List.length_cons] at e
    omega
/-- Two items or more leave nothing over. -/
theorem units_full {ws : List Nat} (h : 2 ≤ (syms ws).length) (h2 : ws.length ≤ 16000) : units (levW ws) (syms ws).length 15 = 32768 := by
  have hw := wid_units (levW ws) (levW_desc h2) (levW_le h2)
  have hl : (levW ws).length = 15 := by rw [levW_two h, lev_length]
  have hv := wid_lev (sws_asc ws) 15 _ (rowW_len h h2)
  rw [← levW_two h] at hv
  rw [hl] at hw
  have e : (2 * (syms ws).length - 2) * 2 ^ 15 = 2 * ((syms ws).length * 2 ^ 15) - 2 * 2 ^ 15 := by rw [Nat.sub_mul, Nat.mul_assoc]
  have : 2 * 2 ^ 15 ≤ (syms ws).length * 2 ^ 15 := Nat.mul_le_mul_right _ h
  omega
theorem sum_ge (f : Nat → Nat) {n i : Nat} (hi : i < n) : f i ≤ ((List.range n).map f).sum := by
  induction n with
  | zero => omega
  | succ n ih =>
    rw [sum_range_succ]
    rcases Nat.lt_or_ge i n with h | h
    · have := ih h; omega
    · obtain rfl : i = n := by omega
      omega
theorem sum_ge2 (f : Nat → Nat) {n i j : Nat} (hij : i < j) (hj : j < n) : f i + f j ≤ ((List.range n).map f).sum := by
  induction n with
  | zero => omega
  | succ n ih =>
    rw [sum_range_succ]
    rcases Nat.lt_or_ge j n with h | h
    · have := ih h; omega
    · obtain rfl : j = n := by omega
      have := sum_ge f hij; omega
theorem lvl_pos {ws : List Nat} (h2 : ws.length ≤ 16000) {i : Nat} (hi : i < (syms ws).length) : 1 ≤ lvl (levW ws) i := by
  rcases Nat.lt_or_ge (syms ws).length 2 with h | h
  · unfold levW
    match hn : (syms ws).length, h with
    | 0, _ => omega
    | 1, _ =>
      obtain rfl : i = 0 := by omega
      simp [lvl]
  · have hu := units_full h h2
    refine Classical.byContradiction fun hno => ?_
    have h0 : lvl (levW ws) i = 0 := by omega
    obtain ⟨j, hj, hij⟩ : ∃ j, j < (syms ws).length ∧ j ≠ i := by
      rcases Nat.eq_zero_or_pos i with h3 | h3
      · exact ⟨1, by omega, by omega⟩
      · exact ⟨0, by omega, by omega⟩
    have hp : 0 < 2 ^ (15 - lvl (levW ws) j) := Nat.pow_pos (by omega)
    have hs : 2 ^ (15 - lvl (levW ws) i) + 2 ^ (15 - lvl (levW ws) j) ≤ units (levW ws) (syms ws).length 15 := by
      unfold units
      rcases Nat.lt_or_ge i j with h4 | h4
      · exact sum_ge2 (fun i => 2 ^ (15 - lvl (levW ws) i)) h4 hj
      · have := sum_ge2 (fun i => 2 ^ (15 - lvl (levW ws) i)) (show j < i by omega) hi
        omega
    rw [h0] at hs
    omega
theorem lenW_pos {ws : List Nat} (h2 : ws.length ≤ 16000) {s : Nat} (h : s ∈ syms ws) : 1 ≤ lenW ws s := lvl_pos h2 (List.idxOf_lt_length_of_mem h)
theorem lvl_anti (L : List Nat) {i j : Nat} (h : i ≤ j) : lvl L j ≤ lvl L i := by
  unfold lvl
  refine List.countP_mono_left fun a _ ha => ?_
  simp only [decide_eq_true_eq] at *; omega
/-- A heavier symbol has no longer code. -/
theorem lenW_mono {ws : List Nat} {s t : Nat} (hs : s ∈ syms ws) (ht : t ∈ syms ws) (h : wkey ws s < wkey ws t) : lenW ws t ≤ lenW ws s := by
  refine lvl_anti _ ?_
  rcases Nat.lt_or_ge ((syms ws).idxOf t) ((syms ws).idxOf s) with h1 | h1
  · have h2 := (syms_spec ws).2.get h1 (List.idxOf_lt_length_of_mem hs)
    rw [getD_eq (List.idxOf_lt_length_of_mem ht), getD_eq (List.idxOf_lt_length_of_mem hs), List.getElem_idxOf, List.getElem_idxOf] at h2
    have := h2.le; omega
  · exact h1
/-- A sum over all symbols is one over those that weigh something. -/
theorem sum_syms {ws : List Nat} (f : Nat → Nat) (hf : ∀ s, s ∉ syms ws → f s = 0) : ((List.range ws.length).map f).sum = ((List.range (syms ws).length).map fun i => f ((syms ws).getD i 0)).sum := by
  have e1 : ((List.range ws.length).map f).sum = ((flt ws).map f).sum := by
    have key : ∀ l : List Nat, (∀ s ∈ l, s < ws.length) → (l.map f).sum = ((l.filter fun s => decide (0 < wkey ws s)).map f).sum := by
      intro l
      induction l with
      | nil => intro _; rfl
      | cons x l ih =>
        intro hl
        have ih := ih fun s hs => hl s (by simp [hs])
        by_cases hx : 0 < wkey ws x
        · rw [List.filter_cons_of_pos (by simpa using hx), List.map_cons, List.map_cons, List.sum_cons, List.sum_cons, ih]
        · rw [List.filter_cons_of_neg (by simpa using hx), List.map_cons, List.sum_cons, ih, hf x (fun h => hx (mem_syms.1 h).2), Nat.zero_add]
    exact key _ fun s hs => List.mem_range.1 hs
  rw [e1, ← ((syms_spec ws).1.map f).sum_nat]
  congr 1
  refine List.ext_getElem (by simp) fun i h1 h2 => ?_
  have hi : i < (syms ws).length := by simpa using h1
  rw [List.getElem_map, List.getElem_map, List.getElem_range, getD_eq hi]
theorem idxOf_getD {ws : List Nat} {i : Nat} (hi : i < (syms ws).length) : (syms ws).idxOf ((syms ws).getD i 0) = i := by
  rw [getD_eq hi]
  exact (syms_nodup ws).idxOf_getElem _ hi
theorem kraft_map (f : Nat → Nat) (n : Nat) : kraft ((List.range n).map f) = ((List.range n).map fun s => unitK (f s)).sum := by
  unfold kraft; rw [List.map_map]; rfl
theorem lensW_kraft {ws : List Nat} (h : 2 ≤ (syms ws).length) (h2 : ws.length ≤ 16000) : kraft (lensW ws) = 32768 := by
  rw [← units_full h h2]
  unfold lensW units
  rw [kraft_map, sum_syms (fun s => unitK (lenW ws s)) fun s hs => by rw [lenW_none h2 hs]; rfl]
  refine sum_congr fun i hi => ?_
  have hp := lvl_pos h2 hi
  show unitK (lvl (levW ws) ((syms ws).idxOf ((syms ws).getD i 0))) = _
  rw [idxOf_getD hi]
  unfold unitK
  rw [if_neg (by omega)]
theorem lensW_one {ws : List Nat} (h : (syms ws).length = 1) (h2 : ws.length ≤ 16000) : (lensW ws).sum = 1 := by
  unfold lensW
  rw [sum_syms (lenW ws) fun s hs => lenW_none h2 hs, h]
  show lenW ws ((syms ws).getD 0 0) + 0 = 1
  unfold lenW
  rw [idxOf_getD (by omega)]
  unfold levW
  rw [h]; rfl
theorem lensW_le (ws : List Nat) : ∀ x ∈ lensW ws, x ≤ 15 := by
  intro x hx
  obtain ⟨s, _, rfl⟩ := List.mem_map.1 hx
  exact lenW_le ws s
theorem lensW_get {ws : List Nat} {s : Nat} (h : s < ws.length) : (lensW ws).getD s 0 = lenW ws s := by simp [lensW, List.getD, h]
end Go.Bn
