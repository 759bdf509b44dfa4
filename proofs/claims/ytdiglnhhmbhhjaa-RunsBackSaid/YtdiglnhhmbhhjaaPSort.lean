/- Plain: rows that rise by a key, then by their numbers; what merges two of them; blocks of a row. -/
import Derived.Test.YtdiglnhhmbhhjaaPBits
set_option linter.unusedVariables false
set_option linter.unusedSimpArgs false
namespace Go.Bn
def Rk (key : Nat → Nat) (a b : Nat) : Prop := key a < key b ∨ (key a = key b ∧ a < b)
def cmpI (a b : Nat) : Int := if a < b then -1 else if b < a then 1 else 0
theorem cmpI_neg {a b : Nat} : cmpI a b < 0 ↔ a < b := by unfold cmpI; split <;> (try split) <;> omega
abbrev RkS (key : Nat → Nat) (l : List Nat) : Prop := l.Pairwise (Rk key)
def PreM (key : Nat → Nat) (U V : List Nat) : Prop := RkS key U ∧ RkS key V ∧ ∀ u ∈ U, ∀ v ∈ V, key u = key v → u < v
def Mrg (key : Nat → Nat) (U V W : List Nat) : Prop := W.Perm (U ++ V) ∧ RkS key W
variable {key : Nat → Nat}
theorem Rk.le {a b : Nat} (h : Rk key a b) : key a ≤ key b := by rcases h with h | h <;> omega
theorem Rk.trans {a b c : Nat} (h : Rk key a b) (k : Rk key b c) : Rk key a c := by unfold Rk at *; omega
theorem getD_eq {l : List Nat} {i : Nat} (h : i < l.length) : l.getD i 0 = l[i] := by simp [List.getD, h]
theorem getD_mem {l : List Nat} {i : Nat} (h : i < l.length) : l.getD i 0 ∈ l := by rw [getD_eq h]; exact List.getElem_mem h
theorem RkS.get {l : List Nat} (h : RkS key l) {i j : Nat} (hij : i < j) (hj : j < l.length) : Rk key (l.getD i 0) (l.getD j 0) := by
  rw [getD_eq (by omega), getD_eq hj]
  exact List.pairwise_iff_getElem.1 h i j (by omega) hj hij
theorem RkS.get_le {l : List Nat} (h : RkS key l) {i j : Nat} (hij : i ≤ j) (hj : j < l.length) : key (l.getD i 0) ≤ key (l.getD j 0) := by
  rcases Nat.lt_or_eq_of_le hij with h1 | rfl
  · exact (h.get h1 hj).le
  · exact Nat.le_refl _
theorem mem_take_get {l : List Nat} {i x : Nat} (h : x ∈ l.take i) : ∃ j, j < i ∧ j < l.length ∧ x = l.getD j 0 := by
  obtain ⟨j, hj, he⟩ := List.mem_take_iff_getElem.1 h
  exact ⟨j, by omega, by omega, by rw [getD_eq (by omega)]; exact he.symm⟩
theorem mem_drop_get {l : List Nat} {i x : Nat} (h : x ∈ l.drop i) : ∃ j, i ≤ j ∧ j < l.length ∧ x = l.getD j 0 := by
  obtain ⟨j, hj, he⟩ := List.mem_drop_iff_getElem.1 h
  exact ⟨i + j, by omega, by omega, by rw [getD_eq (by omega), ← he]⟩
theorem RkS.take {l : List Nat} (h : RkS key l) (i : Nat) : RkS key (l.take i) := h.sublist (List.take_sublist _ _)
theorem RkS.drop {l : List Nat} (h : RkS key l) (i : Nat) : RkS key (l.drop i) := h.sublist (List.drop_sublist _ _)
theorem PreM.part {U V : List Nat} (h : PreM key U V) (i j : Nat) : PreM key (U.take i) (V.take j) ∧ PreM key (U.drop i) (V.drop j) :=
  ⟨⟨h.1.take i, h.2.1.take j, fun u hu v hv => h.2.2 u (List.mem_of_mem_take hu) v (List.mem_of_mem_take hv)⟩,
   ⟨h.1.drop i, h.2.1.drop j, fun u hu v hv => h.2.2 u (List.mem_of_mem_drop hu) v (List.mem_of_mem_drop hv)⟩⟩
/-- Two parts, of which the first one lies ahead. -/
theorem mrg_split {U V W1 W2 : List Nat} (h : PreM key U V) {i j : Nat} (h1 : i = 0 ∨ V.length ≤ j ∨ key (U.getD (i - 1) 0) ≤ key (V.getD j 0)) (h2 : U.length ≤ i ∨ j = 0 ∨ key (V.getD (j - 1) 0) < key (U.getD i 0))
    (hi : i ≤ U.length) (hj : j ≤ V.length) (m1 : Mrg key (U.take i) (V.take j) W1) (m2 : Mrg key (U.drop i) (V.drop j) W2) : Mrg key U V (W1 ++ W2) := by
  refine ⟨?_, ?_⟩
  · refine (m1.1.append m2.1).trans ?_
    have e1 : U ++ V = (U.take i ++ U.drop i) ++ (V.take j ++ V.drop j) := by rw [List.take_append_drop, List.take_append_drop]
    rw [e1, List.append_assoc, List.append_assoc]
    refine List.Perm.append_left _ ?_
    rw [← List.append_assoc, ← List.append_assoc]
    exact List.Perm.append_right _ List.perm_append_comm
  · refine List.pairwise_append.2 ⟨m1.2, m2.2, fun a ha b hb => ?_⟩
    rw [m1.1.mem_iff, List.mem_append] at ha
    rw [m2.1.mem_iff, List.mem_append] at hb
    rcases ha with ha | ha <;> rcases hb with hb | hb <;> obtain ⟨x, hx, hxl, rfl⟩ := mem_take_get ha <;> obtain ⟨y, hy, hyl, rfl⟩ := mem_drop_get hb
    · exact h.1.get (by omega) hyl
    · have k1 := h.1.get_le (i := x) (j := i - 1) (by omega) (by omega)
      have k2 := h.2.1.get_le (i := j) (j := y) hy hyl
      have k3 : key (U.getD (i - 1) 0) ≤ key (V.getD j 0) := by
        rcases h1 with h1 | h1 | h1
        · omega
        · omega
        · exact h1
      rcases Nat.lt_or_ge (key (U.getD x 0)) (key (V.getD y 0)) with k4 | k4
      · exact .inl k4
      · exact .inr ⟨by omega, h.2.2 _ (getD_mem hxl) _ (getD_mem hyl) (by omega)⟩
    · have k1 := h.2.1.get_le (i := x) (j := j - 1) (by omega) (by omega)
      have k2 := h.1.get_le (i := i) (j := y) hy hyl
      have k3 : key (V.getD (j - 1) 0) < key (U.getD i 0) := by
        rcases h2 with h2 | h2 | h2
        · omega
        · omega
        · exact h2
      exact .inl (by omega)
    · exact h.2.1.get (by omega) hyl
theorem mrg_nil_left {V : List Nat} (h : RkS key V) : Mrg key [] V V := ⟨List.Perm.refl _, h⟩
theorem mrg_nil_right {U : List Nat} (h : RkS key U) : Mrg key U [] U := ⟨by simp, h⟩
theorem mrg_left {u : Nat} {V : List Nat} (h : PreM key [u] V) {i : Nat} (hi : i ≤ V.length) (h1 : i = 0 ∨ key (V.getD (i - 1) 0) < key u) (h2 : V.length ≤ i ∨ key u ≤ key (V.getD i 0)) : Mrg key [u] V (V.take i ++ u :: V.drop i) := by
  have m1 : Mrg key ([u].take 0) (V.take i) (V.take i) := mrg_nil_left (h.2.1.take i)
  have m2 : Mrg key ([u].drop 0) (V.drop i) (u :: V.drop i) := by
    refine ⟨List.Perm.refl _, List.pairwise_cons.2 ⟨fun b hb => ?_, h.2.1.drop i⟩⟩
    obtain ⟨y, hy, hyl, rfl⟩ := mem_drop_get hb
    have k2 := h.2.1.get_le (i := i) (j := y) hy hyl
    have k3 : key u ≤ key (V.getD i 0) := by
      rcases h2 with h2 | h2
      · omega
      · exact h2
    rcases Nat.lt_or_ge (key u) (key (V.getD y 0)) with k4 | k4
    · exact .inl k4
    · exact .inr ⟨by omega, h.2.2 u (by simp) _ (getD_mem hyl) (by omega)⟩
  refine mrg_split h (i := 0) (j := i) (.inl rfl) ?_ (Nat.zero_le _) hi m1 m2
  rcases h1 with h1 | h1
  · exact .inr (.inl h1)
  · exact .inr (.inr h1)
theorem mrg_right {v : Nat} {U : List Nat} (h : PreM key U [v]) {i : Nat} (hi : i ≤ U.length) (h1 : i = 0 ∨ key (U.getD (i - 1) 0) ≤ key v) (h2 : U.length ≤ i ∨ key v < key (U.getD i 0)) : Mrg key U [v] (U.take i ++ v :: U.drop i) := by
  have m1 : Mrg key (U.take i) ([v].take 0) (U.take i) := ⟨by simp, h.1.take i⟩
  have m2 : Mrg key (U.drop i) ([v].drop 0) (v :: U.drop i) := by
    refine ⟨(List.perm_append_comm (l₁ := [v]) (l₂ := U.drop i)), List.pairwise_cons.2 ⟨fun b hb => ?_, h.1.drop i⟩⟩
    obtain ⟨y, hy, hyl, rfl⟩ := mem_drop_get hb
    have k2 := h.1.get_le (i := i) (j := y) hy hyl
    have k3 : key v < key (U.getD i 0) := by
      rcases h2 with h2 | h2
      · omega
      · exact h2
    exact .inl (by omega)
  refine mrg_split h (i := i) (j := 0) ?_ (.inr (.inl rfl)) hi (Nat.zero_le _) m1 m2
  rcases h1 with h1 | h1
  · exact .inl h1
  · exact .inr (.inr h1)

/-! Lists in parts. -/
theorem get_mid {α : Type} (A C : List α) (x : α) {i : Nat} (hi : i = A.length) : (A ++ x :: C)[i]? = some x := by subst hi; simp
theorem get_mid2 {α : Type} (A M C : List α) (x y : α) {i : Nat} (hi : i = A.length + 1 + M.length) : (A ++ x :: (M ++ y :: C))[i]? = some y := by
  subst hi
  rw [List.getElem?_append_right (by omega), show A.length + 1 + M.length - A.length = M.length + 1 by omega, List.getElem?_cons_succ, List.getElem?_append_right (Nat.le_refl _), Nat.sub_self]; rfl
theorem set_mid {α : Type} (A C : List α) (x y : α) {i : Nat} (hi : i = A.length) : (A ++ x :: C).set i y = A ++ y :: C := by
  subst hi; rw [List.set_append_right _ _ (Nat.le_refl _), Nat.sub_self]; rfl
theorem set_mid2 {α : Type} (A M C : List α) (x y z : α) {i : Nat} (hi : i = A.length + 1 + M.length) : (A ++ x :: (M ++ y :: C)).set i z = A ++ x :: (M ++ z :: C) := by
  have := set_mid (A ++ x :: M) C y z (i := i) (by simp; omega)
  simpa using this
theorem get_part {X U R : List Nat} {i a : Nat} (ha : X.length = a) (hi : i < U.length) : (X ++ (U ++ R))[a + i]? = some (U.getD i 0) := by
  subst ha
  rw [List.getElem?_append_right (by omega), Nat.add_sub_cancel_left, List.getElem?_append_left hi, getD_eq hi]; simp [hi]
theorem get_part2 {X U V R : List Nat} {i a : Nat} (ha : X.length + U.length = a) (hi : i < V.length) : (X ++ (U ++ (V ++ R)))[a + i]? = some (V.getD i 0) := by
  have := get_part (X := X ++ U) (U := V) (R := R) (i := i) (a := a) (by simpa using ha) hi
  rwa [List.append_assoc] at this
theorem split_at {l : List Nat} {i : Nat} (hi : i < l.length) : l = l.take i ++ l.getD i 0 :: l.drop (i + 1) := by
  rw [getD_eq hi, ← List.drop_eq_getElem_cons hi, List.take_append_drop]
theorem take_snoc {l : List Nat} {i : Nat} (hi : i < l.length) : l.take (i + 1) = l.take i ++ [l.getD i 0] := by rw [getD_eq hi]; exact List.take_succ_eq_append_getElem hi
theorem drop_cons {l : List Nat} {i : Nat} (hi : i < l.length) : l.drop i = l.getD i 0 :: l.drop (i + 1) := by rw [getD_eq hi]; exact List.drop_eq_getElem_cons hi

/-! Blocks. -/
def blk (B k : Nat) (l : List Nat) : List Nat := (l.drop (k * B)).take B
theorem blk_double (B k : Nat) (l : List Nat) : blk (2 * B) k l = blk B (2 * k) l ++ blk B (2 * k + 1) l := by
  unfold blk
  rw [Nat.two_mul B, List.take_add, List.drop_drop, show k * (B + B) = 2 * k * B by rw [Nat.mul_add, Nat.mul_comm 2 k, Nat.mul_assoc, Nat.two_mul, Nat.mul_add], show 2 * k * B + B = (2 * k + 1) * B by rw [Nat.add_mul, Nat.one_mul]]
theorem blk_here {B k : Nat} {X M Y : List Nat} (hX : X.length = k * B) (hM : M.length ≤ B) (hY : M.length = B ∨ Y = []) : blk B k (X ++ (M ++ Y)) = M := by
  unfold blk
  rw [← hX, List.drop_append_of_le_length (Nat.le_refl _), List.drop_length, List.nil_append]
  rcases hY with h | rfl
  · rw [List.take_append_of_le_length (by omega), List.take_of_length_le (by omega)]
  · rw [List.append_nil, List.take_of_length_le hM]
theorem blk_other {B k k' : Nat} {X M M' Y : List Nat} (hX : X.length = k * B) (hl : M'.length = M.length) (hM : M.length ≤ B) (hY : M.length = B ∨ Y = []) (hk : k' ≠ k) : blk B k' (X ++ (M' ++ Y)) = blk B k' (X ++ (M ++ Y)) := by
  unfold blk
  rcases Nat.lt_or_ge k' k with h | h
  · have h1 : (k' + 1) * B ≤ k * B := Nat.mul_le_mul_right _ h
    rw [Nat.add_mul, Nat.one_mul] at h1
    rw [List.drop_append_of_le_length (by omega), List.drop_append_of_le_length (by omega), List.take_append_of_le_length (by rw [List.length_drop]; omega), List.take_append_of_le_length (by rw [List.length_drop]; omega)]
  · have h1 : (k + 1) * B ≤ k' * B := Nat.mul_le_mul_right _ (by omega)
    rw [Nat.add_mul, Nat.one_mul] at h1
    have e : ∀ Z : List Nat, Z.length = M.length → (X ++ (Z ++ Y)).drop (k' * B) = Y.drop (k' * B - X.length - M.length) := fun Z hZ => by
      rcases hY with h2 | rfl
      · rw [List.drop_append, List.drop_of_length_le (by omega), List.nil_append, List.drop_append, List.drop_of_length_le (by omega), List.nil_append, hZ]
      · rw [List.append_nil, List.drop_of_length_le (by simp; omega), List.drop_nil]
    rw [e M' hl, e M rfl]
theorem blk_out {B k : Nat} {l : List Nat} (h : l.length ≤ k * B) : blk B k l = [] := by unfold blk; rw [List.drop_of_length_le h, List.take_nil]
theorem blk_all {B : Nat} {l : List Nat} (h : l.length ≤ B) : blk B 0 l = l := by unfold blk; rw [Nat.zero_mul, List.drop_zero, List.take_of_length_le h]
/-- A block is of the same numbers, and rises. -/
def BOK (key : Nat → Nat) (B : Nat) (l l0 : List Nat) (k : Nat) : Prop := (blk B k l).Perm (blk B k l0) ∧ RkS key (blk B k l)
theorem cut3 (l : List Nat) (a s : Nat) : l = l.take a ++ ((l.drop a).take s ++ l.drop (a + s)) := by
  rw [← List.drop_drop, List.take_append_drop, List.take_append_drop]
theorem blk_away {B k : Nat} {X M M' Y : List Nat} (hl : M'.length = M.length) (h : X.length + M.length ≤ k * B ∨ (k + 1) * B ≤ X.length) : blk B k (X ++ (M' ++ Y)) = blk B k (X ++ (M ++ Y)) := by
  unfold blk
  rcases h with h | h
  · have e : ∀ Z : List Nat, Z.length = M.length → (X ++ (Z ++ Y)).drop (k * B) = Y.drop (k * B - X.length - M.length) := fun Z hZ => by
      rw [List.drop_append, List.drop_of_length_le (by omega), List.nil_append, List.drop_append, List.drop_of_length_le (by omega), List.nil_append, hZ]
    rw [e M' hl, e M rfl]
  · rw [Nat.add_mul, Nat.one_mul] at h
    rw [List.drop_append_of_le_length (by omega), List.drop_append_of_le_length (by omega), List.take_append_of_le_length (by rw [List.length_drop]; omega), List.take_append_of_le_length (by rw [List.length_drop]; omega)]
theorem mem_blk {B k x : Nat} {l : List Nat} (h : x ∈ blk B k l) : x ∈ l := List.mem_of_mem_drop (List.mem_of_mem_take h)
theorem blk_length {B k : Nat} {l : List Nat} : (blk B k l).length = min B (l.length - k * B) := by unfold blk; rw [List.length_take, List.length_drop]
theorem BOK.out {B k : Nat} {l l0 : List Nat} (hl : l.length = l0.length) (h : l.length ≤ k * B) : BOK key B l l0 k := by
  unfold BOK
  rw [blk_out h, blk_out (by omega)]
  exact ⟨List.Perm.refl _, List.Pairwise.nil⟩
/-- A block is put in its place. -/
theorem BOK.put {B k : Nat} {X M M' Y l0 : List Nat} (hX : X.length = k * B) (hM : M.length ≤ B) (hY : M.length = B ∨ Y = []) (hp : M'.Perm (blk B k l0)) (hl : M'.length = M.length) (hs : RkS key M') : BOK key B (X ++ (M' ++ Y)) l0 k := by
  unfold BOK
  rw [blk_here hX (by omega) (hY.imp (fun h => by omega) id)]
  exact ⟨hp, hs⟩
theorem BOK.keep {B k : Nat} {X M M' Y l0 : List Nat} (hl : M'.length = M.length) (h : X.length + M.length ≤ k * B ∨ (k + 1) * B ≤ X.length) (hk : BOK key B (X ++ (M ++ Y)) l0 k) : BOK key B (X ++ (M' ++ Y)) l0 k := by
  unfold BOK at *
  rwa [blk_away hl h]
theorem BOK.double {B k : Nat} {l l0 : List Nat} (hl : l.length = l0.length) (h : l.length ≤ (2 * k + 1) * B) (h1 : BOK key B l l0 (2 * k)) : BOK key (2 * B) l l0 k := by
  unfold BOK at *
  rw [blk_double, blk_double, blk_out (k := 2 * k + 1) h, blk_out (k := 2 * k + 1) (by omega), List.append_nil, List.append_nil]
  exact h1
/-- Two blocks of a row that rose by its numbers can be merged. -/
theorem preM_blk {B k : Nat} {l l0 : List Nat} (hlt : l0.Pairwise (· < ·)) (h1 : BOK key B l l0 (2 * k)) (h2 : BOK key B l l0 (2 * k + 1)) : PreM key (blk B (2 * k) l) (blk B (2 * k + 1) l) := by
  refine ⟨h1.2, h2.2, fun u hu v hv _ => ?_⟩
  rw [h1.1.mem_iff] at hu
  rw [h2.1.mem_iff] at hv
  have h3 : (blk (2 * B) k l0).Pairwise (· < ·) := hlt.sublist ((List.take_sublist _ _).trans (List.drop_sublist _ _))
  rw [blk_double] at h3
  exact (List.pairwise_append.1 h3).2.2 u hu v hv
/-- Rows of the same numbers that rise are one. -/
theorem rk_unique : ∀ {l m : List Nat}, RkS key l → RkS key m → l.Perm m → l = m
  | [], m, _, _, hp => hp.nil_eq
  | a :: l, [], _, _, hp => by have := hp.length_eq; simp at this
  | a :: l, b :: m, hl, hm, hp => by
    obtain ⟨h1, h2⟩ := List.pairwise_cons.1 hl
    obtain ⟨h3, h4⟩ := List.pairwise_cons.1 hm
    have hab : a = b := by
      have ha : a ∈ b :: m := hp.mem_iff.1 (by simp)
      have hb : b ∈ a :: l := hp.mem_iff.2 (by simp)
      rcases List.mem_cons.1 ha with rfl | ha
      · rfl
      · rcases List.mem_cons.1 hb with rfl | hb
        · rfl
        · have k1 := h1 b hb
          have k2 := h3 a ha
          unfold Rk at k1 k2; omega
    subst hab
    rw [rk_unique h2 h4 (List.Perm.cons_inv hp)]
end Go.Bn
