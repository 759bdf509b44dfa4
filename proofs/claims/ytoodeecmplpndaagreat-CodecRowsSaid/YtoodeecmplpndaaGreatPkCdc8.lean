/- Packed texts of a claim: what its theorem uses, joined. -/
import Derived.Test.YtoodeecmplpndaaGreatPkCdc3
section
set_option linter.unusedVariables false
set_option linter.unusedSimpArgs false
namespace Go.Bn
def Rk (key : Nat → Nat) (a b : Nat) : Prop := key a < key b ∨ (key a = key b ∧ a < b)
def cmpI (a b : Nat) : Int := if a < b then -1 else if b < a then 1 else 0
theorem cmpI_neg {a b : Nat} : cmpI a b < 0 ↔ a < b := by unfold cmpI; split <;> (try split) <;> omega
abbrev RkS (key : Nat → Nat) (l : List Nat) : Prop := l.Pairwise (Rk key)
def PreM (key : Nat → Nat) (U V : List Nat) : Prop := RkS key U ∧ RkS key V ∧ ∀ u ∈ U, ∀ v ∈ V, key u = key v → u < v
def Mrg (key : Nat → Nat) (U V W : List Nat) : Prop := W.Perm (U ++ V) ∧ RkS key W
variable {key : Nat → Nat}
theorem Rk.le {a b : Nat} (h : Rk key a b) : key a ≤ key b := by rcases h with h | h <;> omega
theorem getD_eq {l : List Nat} {i : Nat} (h : i < l.length) : l.getD i 0 = l[i] := by simp [List.getD, h]
theorem getD_mem {l : List Nat} {i : Nat} (h : i < l.length) : l.getD i 0 ∈ l := by rw [getD_eq h]; exact List.getElem_mem h
theorem RkS.get {l : List Nat} (h : RkS key l) {i j : Nat} (hij : i < j) (hj : j < l.length) : Rk key (l.getD i 0) (l.getD j 0) := by
 rw [getD_eq (by omega), getD_eq hj]
 exact List.pairwise_iff_getElem.1 h i j (by omega) hj hij
theorem RkS.get_le {l : List Nat} (h : RkS key l) {i j : Nat} (hij : i ≤ j) (hj : j < l.length) : key (l.getD i 0) ≤ key (l.getD j 0) := by
 rcases Nat.lt_or_eq_of_le hij with h1 | rfl
 ·exact (h.get h1 hj).le
 ·exact Nat.le_refl _
theorem mem_take_get {l : List Nat} {i x : Nat} (h : x ∈ l.take i) : ∃ j, j < i ∧ j < l.length ∧ x = l.getD j 0 := by
 obtain ⟨j, hj, he⟩ := List.mem_take_iff_getElem.1 h
 exact ⟨j, by omega, by omega, by rw [getD_eq (by omega)]; exact he.symm⟩
theorem mem_drop_get {l : List Nat} {i x : Nat} (h : x ∈ l.drop i) : ∃ j, i ≤ j ∧ j < l.length ∧ x = l.getD j 0 := by
 obtain ⟨j, hj, he⟩ := List.mem_drop_iff_getElem.1 h
 exact ⟨i + j, by omega, by omega, by rw [getD_eq (by omega), ← he]⟩
theorem RkS.take {l : List Nat} (h : RkS key l) (i : Nat) : RkS key (l.take i) := h.sublist (List.take_sublist _ _)
theorem RkS.drop {l : List Nat} (h : RkS key l) (i : Nat) : RkS key (l.drop i) := h.sublist (List.drop_sublist _ _)
theorem PreM.part {U V : List Nat} (h : PreM key U V) (i j : Nat) : PreM key (U.take i) (V.take j) ∧ PreM key (U.drop i) (V.drop j) :=
  ⟨⟨h.1.take i, h.2.1.take j, fun u hu v hv => h.2.2 u (List.mem_of_mem_take hu) v (List.mem_of_mem_take hv)⟩,
   ⟨h.1.drop i, h.2.1.drop j, fun u hu v hv => h.2.2 u (List.mem_of_mem_drop hu) v (List.mem_of_mem_drop hv)⟩⟩
theorem mrg_split {U V W1 W2 : List Nat} (h : PreM key U V) {i j : Nat} (h1 : i = 0 ∨ V.length ≤ j ∨ key (U.getD (i - 1) 0) ≤ key (V.getD j 0)) (h2 : U.length ≤ i ∨ j = 0 ∨ key (V.getD (j - 1) 0) < key (U.getD i 0))
  (hi : i ≤ U.length) (hj : j ≤ V.length) (m1 : Mrg key (U.take i) (V.take j) W1) (m2 : Mrg key (U.drop i) (V.drop j) W2) : Mrg key U V (W1 ++ W2) := by
 refine ⟨?_, ?_⟩
 ·refine (m1.1.append m2.1).trans ?_
  have e1 : U ++ V = (U.take i ++ U.drop i) ++ (V.take j ++ V.drop j) := by rw [List.take_append_drop, List.take_append_drop]
  rw [e1, List.append_assoc, List.append_assoc]
  refine List.Perm.append_left _ ?_
  rw [← List.append_assoc, ← List.append_assoc]
  exact List.Perm.append_right _ List.perm_append_comm
 ·refine List.pairwise_append.2 ⟨m1.2, m2.2, fun a ha b hb => ?_⟩
  rw [m1.1.mem_iff, List.mem_append] at ha
  rw [m2.1.mem_iff, List.mem_append] at hb
  rcases ha with ha | ha <;> rcases hb with hb | hb <;> obtain ⟨x, hx, hxl, rfl⟩ := mem_take_get ha <;> obtain ⟨y, hy, hyl, rfl⟩ := mem_drop_get hb
  ·exact h.1.get (by omega) hyl
  ·have k1 := h.1.get_le (i := x) (j := i - 1) (by omega) (by omega)
   have k2 := h.2.1.get_le (i := j) (j := y) hy hyl
   have k3 : key (U.getD (i - 1) 0) ≤ key (V.getD j 0) := by
    rcases h1 with h1 | h1 | h1
    ·omega
    ·omega
    ·exact h1
   rcases Nat.lt_or_ge (key (U.getD x 0)) (key (V.getD y 0)) with k4 | k4
   ·exact .inl k4
   ·exact .inr ⟨by omega, h.2.2 _ (getD_mem hxl) _ (getD_mem hyl) (by omega)⟩
  ·have k1 := h.2.1.get_le (i := x) (j := j - 1) (by omega) (by omega)
   have k2 := h.1.get_le (i := i) (j := y) hy hyl
   have k3 : key (V.getD (j - 1) 0) < key (U.getD i 0) := by
    rcases h2 with h2 | h2 | h2
    ·omega
    ·omega
    ·exact h2
   exact .inl (by omega)
  ·exact h.2.1.get (by omega) hyl
theorem mrg_nil_left {V : List Nat} (h : RkS key V) : Mrg key [] V V := ⟨List.Perm.refl _, h⟩
theorem mrg_nil_right {U : List Nat} (h : RkS key U) : Mrg key U [] U := ⟨by simp, h⟩
theorem mrg_left {u : Nat} {V : List Nat} (h : PreM key [u] V) {i : Nat} (hi : i ≤ V.length) (h1 : i = 0 ∨ key (V.getD (i - 1) 0) < key u) (h2 : V.length ≤ i ∨ key u ≤ key (V.getD i 0)) : Mrg key [u] V (V.take i ++ u :: V.drop i) := by
 have m1 : Mrg key ([u].take 0) (V.take i) (V.take i) := mrg_nil_left (h.2.1.take i)
 have m2 : Mrg key ([u].drop 0) (V.drop i) (u :: V.drop i) := by
  refine ⟨List.Perm.refl _, List.pairwise_cons.2 ⟨fun b hb => ?_, h.2.1.drop i⟩⟩
  obtain ⟨y, hy, hyl, rfl⟩ := mem_drop_get hb
  have k2 := h.2.1.get_le (i := i) (j := y) hy hyl
  have k3 : key u ≤ key (V.getD i 0) := by
   rcases h2 with h2 | h2
   ·omega
   ·exact h2
  rcases Nat.lt_or_ge (key u) (key (V.getD y 0)) with k4 | k4
  ·exact .inl k4
  ·exact .inr ⟨by omega, h.2.2 u (by simp) _ (getD_mem hyl) (by omega)⟩
 refine mrg_split h (i := 0) (j := i) (.inl rfl) ?_ (Nat.zero_le _) hi m1 m2
 rcases h1 with h1 | h1
 ·exact .inr (.inl h1)
 ·exact .inr (.inr h1)
theorem mrg_right {v : Nat} {U : List Nat} (h : PreM key U [v]) {i : Nat} (hi : i ≤ U.length) (h1 : i = 0 ∨ key (U.getD (i - 1) 0) ≤ key v) (h2 : U.length ≤ i ∨ key v < key (U.getD i 0)) : Mrg key U [v] (U.take i ++ v :: U.drop i) := by
 have m1 : Mrg key (U.take i) ([v].take 0) (U.take i) := ⟨by simp, h.1.take i⟩
 have m2 : Mrg key (U.drop i) ([v].drop 0) (v :: U.drop i) := by
  refine ⟨(List.perm_append_comm (l₁ := [v]) (l₂ := U.drop i)), List.pairwise_cons.2 ⟨fun b hb => ?_, h.1.drop i⟩⟩
  obtain ⟨y, hy, hyl, rfl⟩ := mem_drop_get hb
  have k2 := h.1.get_le (i := i) (j := y) hy hyl
  have k3 : key v < key (U.getD i 0) := by
   rcases h2 with h2 | h2
   ·omega
   ·exact h2
  exact .inl (by omega)
 refine mrg_split h (i := i) (j := 0) ?_ (.inr (.inl rfl)) hi (Nat.zero_le _) m1 m2
 rcases h1 with h1 | h1
 ·exact .inl h1
 ·exact .inr (.inr h1)
theorem get_mid {α : Type} (A C : List α) (x : α) {i : Nat} (hi : i = A.length) : (A ++ x :: C)[i]? = some x := by subst hi; simp
theorem get_mid2 {α : Type} (A M C : List α) (x y : α) {i : Nat} (hi : i = A.length + 1 + M.length) : (A ++ x :: (M ++ y :: C))[i]? = some y := by
 subst hi
 rw [List.getElem?_append_right (by omega), show A.length + 1 + M.length - A.length = M.length + 1 by omega, List.getElem?_cons_succ, List.getElem?_append_right (Nat.le_refl _), Nat.sub_self]; rfl
theorem set_mid {α : Type} (A C : List α) (x y : α) {i : Nat} (hi : i = A.length) : (A ++ x :: C).set i y = A ++ y :: C := by
 subst hi; rw [List.set_append_right _ _ (Nat.le_refl _), Nat.sub_self]; rfl
theorem set_mid2 {α : Type} (A M C : List α) (x y z : α) {i : Nat} (hi : i = A.length + 1 + M.length) : (A ++ x :: (M ++ y :: C)).set i z = A ++ x :: (M ++ z :: C) := by
 have := set_mid (A ++ x :: M) C y z (i := i) (by simp; omega)
 simpa using this
theorem get_part {X U R : List Nat} {i a : Nat} (ha : X.length = a) (hi : i < U.length) : (X ++ (U ++ R))[a + i]? = some (U.getD i 0) := by
 subst ha
 rw [List.getElem?_append_right (by omega), Nat.add_sub_cancel_left, List.getElem?_append_left hi, getD_eq hi]; simp [hi]
theorem get_part2 {X U V R : List Nat} {i a : Nat} (ha : X.length + U.length = a) (hi : i < V.length) : (X ++ (U ++ (V ++ R)))[a + i]? = some (V.getD i 0) := by
 have := get_part (X := X ++ U) (U := V) (R := R) (i := i) (a := a) (by simpa using ha) hi
 rwa [List.append_assoc] at this
theorem take_snoc {l : List Nat} {i : Nat} (hi : i < l.length) : l.take (i + 1) = l.take i ++ [l.getD i 0] := by rw [getD_eq hi]; exact List.take_succ_eq_append_getElem hi
theorem drop_cons {l : List Nat} {i : Nat} (hi : i < l.length) : l.drop i = l.getD i 0 :: l.drop (i + 1) := by rw [getD_eq hi]; exact List.drop_eq_getElem_cons hi
def blk (B k : Nat) (l : List Nat) : List Nat := (l.drop (k * B)).take B
theorem blk_double (B k : Nat) (l : List Nat) : blk (2 * B) k l = blk B (2 * k) l ++ blk B (2 * k + 1) l := by
 unfold blk
 rw [Nat.two_mul B, List.take_add, List.drop_drop, show k * (B + B) = 2 * k * B by rw [Nat.mul_add, Nat.mul_comm 2 k, Nat.mul_assoc, Nat.two_mul, Nat.mul_add], show 2 * k * B + B = (2 * k + 1) * B by rw [Nat.add_mul, Nat.one_mul]]
theorem blk_here {B k : Nat} {X M Y : List Nat} (hX : X.length = k * B) (hM : M.length ≤ B) (hY : M.length = B ∨ Y = []) : blk B k (X ++ (M ++ Y)) = M := by
 unfold blk
 rw [← hX, List.drop_append_of_le_length (Nat.le_refl _), List.drop_length, List.nil_append]
 rcases hY with h | rfl
 ·rw [List.take_append_of_le_length (by omega), List.take_of_length_le (by omega)]
 ·rw [List.append_nil, List.take_of_length_le hM]
theorem blk_other {B k k' : Nat} {X M M' Y : List Nat} (hX : X.length = k * B) (hl : M'.length = M.length) (hM : M.length ≤ B) (hY : M.length = B ∨ Y = []) (hk : k' ≠ k) : blk B k' (X ++ (M' ++ Y)) = blk B k' (X ++ (M ++ Y)) := by
 unfold blk
 rcases Nat.lt_or_ge k' k with h | h
 ·have h1 : (k' + 1) * B ≤ k * B := Nat.mul_le_mul_right _ h
  rw [Nat.add_mul, Nat.one_mul] at h1
  rw [List.drop_append_of_le_length (by omega), List.drop_append_of_le_length (by omega), List.take_append_of_le_length (by rw [List.length_drop]; omega), List.take_append_of_le_length (by rw [List.length_drop]; omega)]
 ·have h1 : (k + 1) * B ≤ k' * B := Nat.mul_le_mul_right _ (by omega)
  rw [Nat.add_mul, Nat.one_mul] at h1
  have e : ∀ Z : List Nat, Z.length = M.length → (X ++ (Z ++ Y)).drop (k' * B) = Y.drop (k' * B - X.length - M.length) := fun Z hZ => by
   rcases hY with h2 | rfl
   ·rw [List.drop_append, List.drop_of_length_le (by omega), List.nil_append, List.drop_append, List.drop_of_length_le (by omega), List.nil_append, hZ]
   ·rw [List.append_nil, List.drop_of_length_le (by simp; omega), List.drop_nil]
  rw [e M' hl, e M rfl]
theorem blk_out {B k : Nat} {l : List Nat} (h : l.length ≤ k * B) : blk B k l = [] := by unfold blk; rw [List.drop_of_length_le h, List.take_nil]
theorem blk_all {B : Nat} {l : List Nat} (h : l.length ≤ B) : blk B 0 l = l := by unfold blk; rw [Nat.zero_mul, List.drop_zero, List.take_of_length_le h]
def BOK (key : Nat → Nat) (B : Nat) (l l0 : List Nat) (k : Nat) : Prop := (blk B k l).Perm (blk B k l0) ∧ RkS key (blk B k l)
theorem cut3 (l : List Nat) (a s : Nat) : l = l.take a ++ ((l.drop a).take s ++ l.drop (a + s)) := by
 rw [← List.drop_drop, List.take_append_drop, List.take_append_drop]
theorem blk_away {B k : Nat} {X M M' Y : List Nat} (hl : M'.length = M.length) (h : X.length + M.length ≤ k * B ∨ (k + 1) * B ≤ X.length) : blk B k (X ++ (M' ++ Y)) = blk B k (X ++ (M ++ Y)) := by
 unfold blk
 rcases h with h | h
 ·have e : ∀ Z : List Nat, Z.length = M.length → (X ++ (Z ++ Y)).drop (k * B) = Y.drop (k * B - X.length - M.length) := fun Z hZ => by
   rw [List.drop_append, List.drop_of_length_le (by omega), List.nil_append, List.drop_append, List.drop_of_length_le (by omega), List.nil_append, hZ]
  rw [e M' hl, e M rfl]
 ·rw [Nat.add_mul, Nat.one_mul] at h
  rw [List.drop_append_of_le_length (by omega), List.drop_append_of_le_length (by omega), List.take_append_of_le_length (by rw [List.length_drop]; omega), List.take_append_of_le_length (by rw [List.length_drop]; omega)]
theorem mem_blk {B k x : Nat} {l : List Nat} (h : x ∈ blk B k l) : x ∈ l := List.mem_of_mem_drop (List.mem_of_mem_take h)
theorem blk_length {B k : Nat} {l : List Nat} : (blk B k l).length = min B (l.length - k * B) := by unfold blk; rw [List.length_take, List.length_drop]
theorem BOK.out {B k : Nat} {l l0 : List Nat} (hl : l.length = l0.length) (h : l.length ≤ k * B) : BOK key B l l0 k := by
 unfold BOK
 rw [blk_out h, blk_out (by omega)]
 exact ⟨List.Perm.refl _, List.Pairwise.nil⟩
theorem BOK.put {B k : Nat} {X M M' Y l0 : List Nat} (hX : X.length = k * B) (hM : M.length ≤ B) (hY : M.length = B ∨ Y = []) (hp : M'.Perm (blk B k l0)) (hl : M'.length = M.length) (hs : RkS key M') : BOK key B (X ++ (M' ++ Y)) l0 k := by
 unfold BOK
 rw [blk_here hX (by omega) (hY.imp (fun h => by omega) id)]
 exact ⟨hp, hs⟩
theorem BOK.keep {B k : Nat} {X M M' Y l0 : List Nat} (hl : M'.length = M.length) (h : X.length + M.length ≤ k * B ∨ (k + 1) * B ≤ X.length) (hk : BOK key B (X ++ (M ++ Y)) l0 k) : BOK key B (X ++ (M' ++ Y)) l0 k := by
 unfold BOK at *
 rwa [blk_away hl h]
theorem BOK.double {B k : Nat} {l l0 : List Nat} (hl : l.length = l0.length) (h : l.length ≤ (2 * k + 1) * B) (h1 : BOK key B l l0 (2 * k)) : BOK key (2 * B) l l0 k := by
 unfold BOK at *
 rw [blk_double, blk_double, blk_out (k := 2 * k + 1) h, blk_out (k := 2 * k + 1) (by omega), List.append_nil, List.append_nil]
 exact h1
theorem preM_blk {B k : Nat} {l l0 : List Nat} (hlt : l0.Pairwise (· < ·)) (h1 : BOK key B l l0 (2 * k)) (h2 : BOK key B l l0 (2 * k + 1)) : PreM key (blk B (2 * k) l) (blk B (2 * k + 1) l) := by
 refine ⟨h1.2, h2.2, fun u hu v hv _ => ?_⟩
 rw [h1.1.mem_iff] at hu
 rw [h2.1.mem_iff] at hv
 have h3 : (blk (2 * B) k l0).Pairwise (· < ·) := hlt.sublist ((List.take_sublist _ _).trans (List.drop_sublist _ _))
 rw [blk_double] at h3
 exact (List.pairwise_append.1 h3).2.2 u hu v hv
theorem rk_unique : ∀ {l m : List Nat}, RkS key l → RkS key m → l.Perm m → l = m
 | [], m, _, _, hp => hp.nil_eq
 | a :: l, [], _, _, hp => by have := hp.length_eq; simp at this
 | a :: l, b :: m, hl, hm, hp => by
  obtain ⟨h1, h2⟩ := List.pairwise_cons.1 hl
  obtain ⟨h3, h4⟩ := List.pairwise_cons.1 hm
  have hab : a = b := by
   have ha : a ∈ b :: m := hp.mem_iff.1 (by simp)
   have hb : b ∈ a :: l := hp.mem_iff.2 (by simp)
   rcases List.mem_cons.1 ha with rfl | ha
   ·rfl
   ·rcases List.mem_cons.1 hb with rfl | hb
    ·rfl
    ·have k1 := h1 b hb
     have k2 := h3 a ha
     unfold Rk at k1 k2; omega
  subst hab
  rw [rk_unique h2 h4 (List.Perm.cons_inv hp)]
end Go.Bn
end

section
set_option linter.unusedVariables false
set_option linter.unusedSimpArgs false
set_option maxHeartbeats 4000000
set_option maxRecDepth 20000
namespace Go.Bn
open Go Proofs
@[reducible] def rowN (g n c : Nat) (l : List Nat) : Res := Bn.row 3 1 (.slice (some ⟨g, 0, none⟩) n c) (l.map nV)
theorem St.natAt {B g n c i x : Nat} {l : List Nat} {F : List Res} {hb h0 : Heap} (st : St B hb h0 (rowN g n c l :: F)) (h : l[i]? = some x) : cellH h0 ⟨g, 0 + i, none⟩ = some (nV x) := by
 obtain ⟨A, n', c', he, _, _, _, hrd⟩ := st.row 0 rfl
 cases he
 have hi := (List.getElem?_eq_some_iff.1 h).1
 obtain ⟨b, o, he2, hc⟩ := hrd.at_ (by rw [List.length_map]; omega)
 cases he2
 exact hc i (nV x) (by rw [List.getElem?_map, h]; rfl)
theorem St.natLen {B g n c : Nat} {l : List Nat} {F : List Res} {hb h0 : Heap} (st : St B hb h0 (rowN g n c l :: F)) : l.length = n := by
 obtain ⟨A, n', c', he, hl, _⟩ := st.row 0 rfl
 cases he
 simpa using hl
theorem swap_map {A M C : List Nat} {p q i j : Nat} (hi : i = A.length) (hj : j = A.length + 1 + M.length) : (((A ++ p :: (M ++ q :: C)).map nV).set i (nV q)).set j (nV p) = (A ++ q :: (M ++ p :: C)).map nV := by
 rw [← List.map_set, ← List.map_set, set_mid _ _ _ _ hi, set_mid2 _ _ _ _ _ _ hj]
theorem swap_map' {A M C : List Nat} {p q i j : Nat} (hi : i = A.length) (hj : j = A.length + 1 + M.length) : (((A ++ p :: (M ++ q :: C)).map nV).set j (nV p)).set i (nV q) = (A ++ q :: (M ++ p :: C)).map nV := by
 rw [← List.map_set, ← List.map_set, set_mid2 _ _ _ _ _ _ hj, set_mid _ _ _ _ hi]
theorem swapRange_spec {B g n c a b s : Nat} {X P M Q Y : List Nat} {fn : Value} {F : List Res} {h0 : Heap} (st0 : St B h0 h0 (rowN g n c (X ++ (P ++ (M ++ (Q ++ Y)))) :: F)) (ha : X.length = a) (hb : X.length + P.length + M.length = b) (hp : P.length = s) (hq : Q.length = s) (hn : n ≤ 1099511627776) :
  Ret Tryz.prog 180 [.slice (some ⟨g, 0, none⟩) n c, nV a, nV b, nV s, fn] h0 fun _ h' => St B h0 h' (rowN g n c (X ++ (Q ++ (M ++ (P ++ Y)))) :: F) := by
 have hln := st0.natLen
 simp only [List.length_append] at hln
 refine ret_of_X Tryz.func180 rfl rfl fun w0 hw0 => ?_
 simp only [argE, Nat.zero_add, Nat.reduceAdd]
 refine X_seq (X_reg (XA rfl rfl rfl (XR_nil (X_block ?_))))
 refine X_loop (fun i => s - i) (fun i => [(0, .slice (some ⟨g, 0, none⟩) n c), (1, nV a), (2, nV b), (3, nV s), (10, nV i)])
  (fun (i : Nat) hp => St B h0 hp (rowN g n c (X ++ ((Q.take i ++ P.drop i) ++ (M ++ ((P.take i ++ Q.drop i) ++ Y)))) :: F) ∧ i ≤ s)
  0 (.cons rfl (.cons rfl (.cons rfl (.cons rfl (.cons rfl (.nil _)))))) ⟨by simpa using st0, by omega⟩ ?_
 rintro i hp ⟨st, hi⟩
 refine X_seq (X_seq (X_reg (XV rfl rfl rfl (XV rfl rfl rfl ?_))))
 refine XR_a (op_lss rfl rfl) rfl rfl ?_
 refine XR_nil ?_
 refine X_if rfl (fun h => ?_) (fun h => ?_)
 ·have hiP : i < P.length := by omega
  have hiQ : i < Q.length := by omega
  have e1 : X ++ ((Q.take i ++ P.drop i) ++ (M ++ ((P.take i ++ Q.drop i) ++ Y))) = (X ++ Q.take i) ++ P.getD i 0 :: ((P.drop (i + 1) ++ (M ++ P.take i)) ++ Q.getD i 0 :: (Q.drop (i + 1) ++ Y)) := by
   rw [drop_cons hiP, drop_cons hiQ]; simp
  have e2 : X ++ ((Q.take (i + 1) ++ P.drop (i + 1)) ++ (M ++ ((P.take (i + 1) ++ Q.drop (i + 1)) ++ Y))) = (X ++ Q.take i) ++ Q.getD i 0 :: ((P.drop (i + 1) ++ (M ++ P.take i)) ++ P.getD i 0 :: (Q.drop (i + 1) ++ Y)) := by
   rw [take_snoc hiP, take_snoc hiQ]; simp
  have hia : a + i = (X ++ Q.take i).length := by rw [List.length_append, List.length_take]; omega
  have hib : b + i = (X ++ Q.take i).length + 1 + (P.drop (i + 1) ++ (M ++ P.take i)).length := by simp only [List.length_append, List.length_take, List.length_drop]; omega
  rw [e1] at st
  refine X_skip (X_seq (X_block ?_))
  refine X_draw (butAt [(7, .pure)]) (by kernel_rfl) (by kernel_rfl) ?_
  refine XV rfl rfl rfl (XV rfl rfl rfl (XV rfl rfl rfl ?_))
  first | refine XR_a (op_addN rfl rfl (by simp only [inK]; omega)) rfl rfl ?_ | refine XR_a (op_addI rfl rfl (by simp only [inK]; omega)) rfl rfl ?_ | refine XR_a (op_add rfl rfl) rfl rfl ?_
  refine XV rfl rfl rfl (XV rfl rfl rfl (XV rfl rfl rfl ?_))
  first | refine XR_a (op_addN rfl rfl (by simp only [inK]; omega)) rfl rfl ?_ | refine XR_a (op_addI rfl rfl (by simp only [inK]; omega)) rfl rfl ?_ | refine XR_a (op_add rfl rfl) rfl rfl ?_
  refine XV rfl rfl rfl (XV rfl rfl rfl (XV rfl rfl rfl ?_))
  first | refine XR_a (op_addN rfl rfl (by simp only [inK]; omega)) rfl rfl ?_ | refine XR_a (op_addI rfl rfl (by simp only [inK]; omega)) rfl rfl ?_ | refine XR_a (op_add rfl rfl) rfl rfl ?_
  first | refine XR_a (op_index1 rfl rfl rfl (by omega)) rfl rfl ?_ | refine XR_a (op_index rfl rfl rfl (by omega)) rfl rfl ?_
  refine XR_a (op_ld (st.natAt (get_mid2 _ _ _ _ _ hib)) rfl rfl rfl) rfl rfl ?_
  refine XV rfl rfl rfl (XV rfl rfl rfl (XV rfl rfl rfl ?_))
  first | refine XR_a (op_addN rfl rfl (by simp only [inK]; omega)) rfl rfl ?_ | refine XR_a (op_addI rfl rfl (by simp only [inK]; omega)) rfl rfl ?_ | refine XR_a (op_add rfl rfl) rfl rfl ?_
  first | refine XR_a (op_index1 rfl rfl rfl (by omega)) rfl rfl ?_ | refine XR_a (op_index rfl rfl rfl (by omega)) rfl rfl ?_
  refine XR_a (op_ld (st.natAt (get_mid _ _ _ hia)) rfl rfl rfl) rfl rfl ?_
  first | refine XR_a (op_index1 rfl rfl rfl (by omega)) rfl rfl ?_ | refine XR_a (op_index rfl rfl rfl (by omega)) rfl rfl ?_
  refine XR_wn (opl_store_row (i := a + i) st 0 rfl rfl rfl (by simp only [List.length_map, List.length_append, List.length_cons, List.length_take, List.length_drop]; omega) rfl rfl) rfl rfl fun _ hp st => ?_
  simp only [List.set_cons_zero] at st
  first | refine XR_a (op_index1 rfl rfl rfl (by omega)) rfl rfl ?_ | refine XR_a (op_index rfl rfl rfl (by omega)) rfl rfl ?_
  refine XR_wn (opl_store_row (i := b + i) st 0 rfl rfl rfl (by simp only [List.length_set, List.length_map, List.length_append, List.length_cons, List.length_take, List.length_drop]; omega) rfl rfl) rfl rfl fun _ hp st => ?_
  simp only [List.set_cons_zero] at st
  rw [swap_map hia hib, ← e2] at st
  refine XR_nil (X_blk (X_reg (XV rfl rfl rfl ?_)))
  first | refine XR_a (op_addN (n := 1) rfl rfl (by simp only [inK]; omega)) rfl rfl ?_ | refine XR_a (op_addI rfl rfl (by simp only [inK]; omega)) rfl rfl ?_ | refine XR_a (op_add rfl rfl) rfl rfl ?_
  refine XA rfl rfl rfl (XR_nil ?_)
  exact X_again (i + 1) (.cons rfl (.cons rfl (.cons rfl (.cons rfl (.cons rfl (.nil _)))))) ⟨st, by omega⟩ (by omega)
 ·refine X_exit rfl ?_
  refine X_end .nil ?_
  obtain rfl : i = s := by omega
  rw [List.take_of_length_le (by omega), List.take_of_length_le (by omega), List.drop_of_length_le (by omega), List.drop_of_length_le (by omega), List.append_nil, List.append_nil] at st
  exact st
theorem rotate_spec {B g n c a m b : Nat} {X U V Y : List Nat} {fn : Value} {F : List Res} {h0 : Heap} (st0 : St B h0 h0 (rowN g n c (X ++ (U ++ (V ++ Y))) :: F)) (ha : X.length = a) (hm : X.length + U.length = m) (hb : m + V.length = b) (hu : 1 ≤ U.length) (hv : 1 ≤ V.length) (hn : n ≤ 1099511627776) :
  Ret Tryz.prog 178 [.slice (some ⟨g, 0, none⟩) n c, nV a, nV m, nV b, fn] h0 fun _ h' => St B h0 h' (rowN g n c (X ++ (V ++ (U ++ Y))) :: F) := by
 have hln := st0.natLen
 simp only [List.length_append] at hln
 refine ret_of_X Tryz.func178 rfl rfl fun w0 hw0 => ?_
 simp only [argE, Nat.zero_add, Nat.reduceAdd]
 refine X_seq (X_reg (XV rfl rfl rfl (XV rfl rfl rfl ?_)))
 first | refine XR_a (op_subN rfl rfl (by omega) (by simp only [inK]; omega)) rfl rfl ?_ | refine XR_a (op_subI rfl rfl (by simp only [inK]; omega)) rfl rfl ?_ | refine XR_a (op_sub rfl rfl) rfl rfl ?_
 refine XA rfl rfl rfl (XR_nil (X_seq (X_reg (XV rfl rfl rfl (XV rfl rfl rfl ?_)))))
 first | refine XR_a (op_subN rfl rfl (by omega) (by simp only [inK]; omega)) rfl rfl ?_ | refine XR_a (op_subI rfl rfl (by simp only [inK]; omega)) rfl rfl ?_ | refine XR_a (op_sub rfl rfl) rfl rfl ?_
 refine XA rfl rfl rfl (XR_nil (X_seq (X_block ?_)))
 refine X_loop (fun s => s.2.1.length + s.2.2.1.length) (fun s => [(0, .slice (some ⟨g, 0, none⟩) n c), (2, nV m), (4, fn), (10, nV s.2.1.length), (11, nV s.2.2.1.length)])
  (fun (s : List Nat × List Nat × List Nat × List Nat) hp => St B h0 hp (rowN g n c (s.1 ++ (s.2.1 ++ (s.2.2.1 ++ s.2.2.2))) :: F) ∧ s.1.length + s.2.1.length = m ∧ 1 ≤ s.2.1.length ∧ 1 ≤ s.2.2.1.length ∧ m + s.2.2.1.length ≤ n ∧ s.1 ++ (s.2.2.1 ++ (s.2.1 ++ s.2.2.2)) = X ++ (V ++ (U ++ Y)))
  (X, U, V, Y) (.cons rfl (.cons rfl (.cons rfl (.cons (by simp only; rw [show m - a = U.length by omega]; rfl) (.cons (by simp only; rw [show b - m = V.length by omega]; rfl) (.nil _)))))) ⟨st0, hm, hu, hv, by simp only; omega, rfl⟩ ?_
 rintro ⟨x, u, v, y⟩ hp ⟨st, hxm, hu1, hv1, hvn, hT⟩
 simp only at st hxm hu1 hv1 hvn hT ⊢
 refine X_seq (X_seq (X_reg (XV rfl rfl rfl (XV rfl rfl rfl ?_))))
 refine XR_a (op_neq rfl rfl) rfl rfl ?_
 refine XR_nil ?_
 refine X_if rfl (fun h => ?_) (fun h => ?_)
 ·refine X_skip (X_block (X_seq (X_reg (XV rfl rfl rfl (XV rfl rfl rfl ?_)))))
  refine XR_a (op_gtr rfl rfl) rfl rfl ?_
  refine XR_nil ?_
  refine X_if rfl (fun h => ?_) (fun h => ?_)
  ·refine X_seq (X_reg (XV rfl rfl rfl (XV rfl rfl rfl (XV rfl rfl rfl ?_))))
   first | refine XR_a (op_subN rfl rfl (by omega) (by simp only [inK]; omega)) rfl rfl ?_ | refine XR_a (op_subI rfl rfl (by simp only [inK]; omega)) rfl rfl ?_ | refine XR_a (op_sub rfl rfl) rfl rfl ?_
   refine XV rfl rfl rfl (XV rfl rfl rfl (XV rfl rfl rfl ?_))
   refine XR_wa (opl_call (swapRange_spec (X := x) (P := u.take v.length) (M := u.drop v.length) (Q := v) (Y := y) (a := m - u.length) (b := m) (s := v.length) (by have h1 := st.here; rw [← List.append_assoc (u.take _), List.take_append_drop]; exact h1) (by omega) (by rw [List.length_take, List.length_drop]; omega) (by rw [List.length_take]; omega) rfl (by omega)) rfl (by kernel_rfl)) rfl rfl rfl ?_
   rintro _ hp st2
   replace st := st.trans st2
   refine XR_nil (X_reg (XV rfl rfl rfl (XV rfl rfl rfl ?_)))
   first | refine XR_a (op_subN rfl rfl (by omega) (by simp only [inK]; omega)) rfl rfl ?_ | refine XR_a (op_subI rfl rfl (by simp only [inK]; omega)) rfl rfl ?_ | refine XR_a (op_sub rfl rfl) rfl rfl ?_
   refine XA rfl rfl rfl (XR_nil (X_blk ?_))
   refine X_again (x ++ v, u.drop v.length, u.take v.length, y) (.cons rfl (.cons rfl (.cons rfl (.cons (by simp only [List.length_drop]; rfl) (.cons (by simp only [List.length_take]; rw [Nat.min_eq_left (by omega)]; rfl) (.nil _)))))) ⟨by simpa using st, ?_, ?_, ?_, ?_, ?_⟩ ?_
   ·simp only [List.length_append, List.length_drop]; omega
   ·simp only [List.length_drop]; omega
   ·simp only [List.length_take]; omega
   ·simp only [List.length_take]; omega
   ·simp only
    rw [← List.append_assoc (u.take _), List.take_append_drop, List.append_assoc]; exact hT
   ·simp only [List.length_take, List.length_drop]; omega
  ·refine X_seq (X_reg (XV rfl rfl rfl (XV rfl rfl rfl (XV rfl rfl rfl ?_))))
   first | refine XR_a (op_subN rfl rfl (by omega) (by simp only [inK]; omega)) rfl rfl ?_ | refine XR_a (op_subI rfl rfl (by simp only [inK]; omega)) rfl rfl ?_ | refine XR_a (op_sub rfl rfl) rfl rfl ?_
   refine XV rfl rfl rfl (XV rfl rfl rfl ?_)
   first | refine XR_a (op_addN rfl rfl (by simp only [inK]; omega)) rfl rfl ?_ | refine XR_a (op_addI rfl rfl (by simp only [inK]; omega)) rfl rfl ?_ | refine XR_a (op_add rfl rfl) rfl rfl ?_
   refine XV rfl rfl rfl ?_
   first | refine XR_a (op_subN rfl rfl (by omega) (by simp only [inK]; omega)) rfl rfl ?_ | refine XR_a (op_subI rfl rfl (by simp only [inK]; omega)) rfl rfl ?_ | refine XR_a (op_sub rfl rfl) rfl rfl ?_
   refine XV rfl rfl rfl (XV rfl rfl rfl ?_)
   refine XR_wa (opl_call (swapRange_spec (X := x) (P := u) (M := v.take (v.length - u.length)) (Q := v.drop (v.length - u.length)) (Y := y) (a := m - u.length) (b := m + v.length - u.length) (s := u.length) (by have h1 := st.here; rw [← List.append_assoc (v.take _), List.take_append_drop]; exact h1) (by omega) (by rw [List.length_take]; omega) rfl (by rw [List.length_drop]; omega) (by omega)) rfl (by kernel_rfl)) rfl rfl rfl ?_
   rintro _ hp st2
   replace st := st.trans st2
   refine XR_nil (X_reg (XV rfl rfl rfl (XV rfl rfl rfl ?_)))
   first | refine XR_a (op_subN rfl rfl (by omega) (by simp only [inK]; omega)) rfl rfl ?_ | refine XR_a (op_subI rfl rfl (by simp only [inK]; omega)) rfl rfl ?_ | refine XR_a (op_sub rfl rfl) rfl rfl ?_
   refine XA rfl rfl rfl (XR_nil (X_blk ?_))
   refine X_again (x, v.drop (v.length - u.length), v.take (v.length - u.length), u ++ y) (.cons rfl (.cons rfl (.cons rfl (.cons (by simp only [List.length_drop]; rw [show v.length - (v.length - u.length) = u.length by omega]; rfl) (.cons (by simp only [List.length_take]; rw [Nat.min_eq_left (by omega)]; rfl) (.nil _)))))) ⟨st, ?_, ?_, ?_, ?_, ?_⟩ ?_
   ·simp only [List.length_drop]; omega
   ·simp only [List.length_drop]; omega
   ·simp only [List.length_take]; omega
   ·simp only [List.length_take]; omega
   ·simp only
    rw [← List.append_assoc (v.take _), List.take_append_drop]; exact hT
   ·simp only [List.length_take, List.length_drop]; omega
 ·refine X_exit rfl (X_reg (XV rfl rfl rfl (XV rfl rfl rfl (XV rfl rfl rfl ?_))))
  first | refine XR_a (op_subN rfl rfl (by omega) (by simp only [inK]; omega)) rfl rfl ?_ | refine XR_a (op_subI rfl rfl (by simp only [inK]; omega)) rfl rfl ?_ | refine XR_a (op_sub rfl rfl) rfl rfl ?_
  refine XV rfl rfl rfl (XV rfl rfl rfl (XV rfl rfl rfl ?_))
  refine XR_wa (opl_call (swapRange_spec (X := x) (P := u) (M := []) (Q := v) (Y := y) (a := m - u.length) (b := m) (s := u.length) st.here (by omega) (by simp; omega) rfl (by omega) (by omega)) rfl (by kernel_rfl)) rfl rfl rfl ?_
  rintro _ hp st2
  replace st := st.trans st2
  refine XR_nil ?_
  refine X_end .nil ?_
  rw [← hT]; exact st
def CmpOK (B : Nat) (h0 : Heap) (F : List Res) (k : Nat) (caps : Array Value) (key : Nat → Nat) (good : Nat → Prop) : Prop :=
  callOk Tryz.prog k = true ∧ ∀ (r : Res) (h' : Heap), St B h0 h' (r :: F) → ∀ x y, good x → good y → Ret Tryz.prog k (nV x :: nV y :: caps.toList) h' fun v h'' => v = .int .i64 (cmpI (key x) (key y)) ∧ h' = h''
theorem CmpOK.here {B k : Nat} {h0 hp : Heap} {r : Res} {F : List Res} {caps : Array Value} {key : Nat → Nat} {good : Nat → Prop} (h : CmpOK B h0 F k caps key good) (st : St B h0 hp (r :: F)) : CmpOK B hp F k caps key good :=
 ⟨h.1, fun r' h' s => h.2 r' h' (st.trans s)⟩
theorem insertion_spec {B g n c a b k : Nat} {X M Y : List Nat} {caps : Array Value} {key : Nat → Nat} {good : Nat → Prop} {F : List Res} {h0 : Heap} (st0 : St B h0 h0 (rowN g n c (X ++ (M ++ Y)) :: F)) (hcmp : CmpOK B h0 F k caps key good)
  (ha : X.length = a) (hb : X.length + M.length = b) (hM : M.Pairwise (· < ·)) (hg : ∀ x ∈ M, good x) (hn : n ≤ 1099511627776) :
  Ret Tryz.prog 173 [.slice (some ⟨g, 0, none⟩) n c, nV a, nV b, .func (.func k) #[] caps] h0 fun _ h' => ∃ M', M'.Perm M ∧ RkS key M' ∧ St B h0 h' (rowN g n c (X ++ (M' ++ Y)) :: F) := by
 have hln := st0.natLen
 simp only [List.length_append] at hln
 refine ret_of_X Tryz.func173 rfl rfl fun w0 hw0 => ?_
 simp only [argE, Nat.zero_add, Nat.reduceAdd]
 refine X_seq (X_reg (XV rfl rfl rfl ?_))
 first | refine XR_a (op_addN (n := 1) rfl rfl (by simp only [inK]; omega)) rfl rfl ?_ | refine XR_a (op_addI rfl rfl (by simp only [inK]; omega)) rfl rfl ?_ | refine XR_a (op_add rfl rfl) rfl rfl ?_
 refine XA rfl rfl rfl (XR_nil (X_block ?_))
 refine X_loop (fun s => M.length - s.1) (fun s => [(0, .slice (some ⟨g, 0, none⟩) n c), (1, nV a), (2, nV b), (3, .func (.func k) #[] caps), (8, nV (a + s.1))])
  (fun (s : Nat × List Nat) hp => 1 ≤ s.1 ∧ s.2.Perm (M.take s.1) ∧ RkS key s.2 ∧ St B h0 hp (rowN g n c (X ++ (s.2 ++ (M.drop s.1 ++ Y))) :: F))
  (1, M.take 1) (.cons rfl (.cons rfl (.cons rfl (.cons rfl (.cons rfl (.nil _)))))) ⟨Nat.le_refl _, List.Perm.refl _, ?_, by simp only; rw [← List.append_assoc (M.take _), List.take_append_drop]; exact st0⟩ ?_
 ·cases M with
  | nil => simp
  | cons x M => simp
 rintro ⟨i, S⟩ hp ⟨hi1, hS, hSs, st⟩
 simp only at hi1 hS hSs st ⊢
 refine X_seq (X_seq (X_reg (XV rfl rfl rfl (XV rfl rfl rfl ?_))))
 refine XR_a (op_lss rfl rfl) rfl rfl ?_
 refine XR_nil ?_
 refine X_if rfl (fun h => ?_) (fun h => ?_)
 ·refine X_skip (X_seq (X_block (X_seq (X_reg (XV rfl rfl rfl (XA rfl rfl rfl (XR_nil (X_block ?_))))))))
  have hiM : i < M.length := by omega
  have hSl : S.length = i := by rw [hS.length_eq, List.length_take]; omega
  have htk := take_snoc hiM
  rw [drop_cons hiM] at st
  have hgx := hg _ (getD_mem hiM)
  have hpre : PreM key S [M.getD i 0] := by
   refine ⟨hSs, by simp, fun u hu v hv _ => ?_⟩
   obtain rfl : v = M.getD i 0 := by simpa using hv
   rw [hS.mem_iff] at hu
   obtain ⟨j, hj, hjl, rfl⟩ := mem_take_get hu
   rw [getD_eq hjl, getD_eq hiM]
   exact List.pairwise_iff_getElem.1 hM j i hjl hiM hj
  have hgS : ∀ p, p < S.length → good (S.getD p 0) := fun p hp => hg _ (List.mem_of_mem_take (hS.mem_iff.1 (getD_mem hp)))
  obtain ⟨x, hx⟩ : ∃ x, M.getD i 0 = x := ⟨_, rfl⟩
  rw [hx] at st hgx hpre htk
  refine X_loop (fun p => p) (fun p => [(0, .slice (some ⟨g, 0, none⟩) n c), (1, nV a), (2, nV b), (3, .func (.func k) #[] caps), (8, nV (a + i)), (9, nV (a + p))])
   (fun (p : Nat) hp => p ≤ S.length ∧ (S.length ≤ p ∨ key x < key (S.getD p 0)) ∧ St B h0 hp (rowN g n c (X ++ (S.take p ++ x :: (S.drop p ++ (M.drop (i + 1) ++ Y)))) :: F))
   S.length (.cons rfl (.cons rfl (.cons rfl (.cons rfl (.cons rfl (.cons (by rw [hSl]; rfl) (.nil _))))))) ⟨Nat.le_refl _, .inl (Nat.le_refl _), by rw [List.take_of_length_le (Nat.le_refl _), List.drop_of_length_le (Nat.le_refl _)]; exact st⟩ ?_
  clear st
  rintro p hp ⟨hpS, hpk, st⟩
  have hfin : (p = 0 ∨ key (S.getD (p - 1) 0) ≤ key x) → 1 ≤ i + 1 ∧ (S.take p ++ x :: S.drop p).Perm (M.take (i + 1)) ∧ RkS key (S.take p ++ x :: S.drop p) ∧ St B h0 hp (rowN g n c (X ++ ((S.take p ++ x :: S.drop p) ++ (M.drop (i + 1) ++ Y))) :: F) := fun h1 => by
   obtain ⟨m1, m2⟩ := mrg_right hpre hpS h1 hpk
   refine ⟨by omega, m1.trans ?_, m2, by simpa using st⟩
   rw [htk]; exact hS.append_right _
  refine X_seq (X_seq ?_)
  refine X_draw byKind (by kernel_rfl) (by kernel_rfl) ?_
  refine XV rfl rfl rfl (XV rfl rfl rfl ?_)
  refine XR_a (op_gtr rfl rfl) rfl rfl ?_
  refine XV rfl rfl rfl ?_
  refine XR_if 21 rfl (fun h => ?_) (fun h => ?_)
  ·have hp1 : p - 1 < S.length := by omega
   have e1 : X ++ (S.take p ++ x :: (S.drop p ++ (M.drop (i + 1) ++ Y))) = (X ++ S.take (p - 1)) ++ S.getD (p - 1) 0 :: ([] ++ x :: (S.drop p ++ (M.drop (i + 1) ++ Y))) := by
    have := take_snoc hp1
    rw [show p - 1 + 1 = p by omega] at this
    rw [this]; simp
   have e2 : X ++ (S.take (p - 1) ++ x :: (S.drop (p - 1) ++ (M.drop (i + 1) ++ Y))) = (X ++ S.take (p - 1)) ++ x :: ([] ++ S.getD (p - 1) 0 :: (S.drop p ++ (M.drop (i + 1) ++ Y))) := by
    have := drop_cons hp1
    rw [show p - 1 + 1 = p by omega] at this
    rw [this]; simp
   have hia : a + p - 1 = (X ++ S.take (p - 1)).length := by rw [List.length_append, List.length_take]; omega
   have hib : a + p = (X ++ S.take (p - 1)).length + 1 + ([] : List Nat).length := by rw [List.length_append, List.length_take, List.length_nil]; omega
   rw [e1] at st
   refine XV rfl rfl rfl (XV rfl rfl rfl (XV rfl rfl rfl ?_))
   first | refine XR_a (op_index1 rfl rfl rfl (by omega)) rfl rfl ?_ | refine XR_a (op_index rfl rfl rfl (by omega)) rfl rfl ?_
   refine XR_a (op_ld (st.natAt (get_mid2 _ _ _ _ _ hib)) rfl rfl rfl) rfl rfl ?_
   refine XV rfl rfl rfl (XV rfl rfl rfl ?_)
   first | refine XR_a (op_subN (n := 1) rfl rfl (by omega) (by simp only [inK]; omega)) rfl rfl ?_ | refine XR_a (op_subI rfl rfl (by simp only [inK]; omega)) rfl rfl ?_ | refine XR_a (op_sub rfl rfl) rfl rfl ?_
   first | refine XR_a (op_index1 rfl rfl rfl (by omega)) rfl rfl ?_ | refine XR_a (op_index rfl rfl rfl (by omega)) rfl rfl ?_
   refine XR_a (op_ld (st.natAt (get_mid _ _ _ hia)) rfl rfl rfl) rfl rfl ?_
   refine XR_wa (opl_callV rfl (hcmp.2 _ _ st x (S.getD (p - 1) 0) hgx (hgS _ hp1)) rfl (hcmp.1)) rfl rfl rfl ?_
   rintro _ _ ⟨rfl, rfl⟩
   refine XR_a (op_lss rfl rfl) rfl rfl ?_
   refine XR_a (op_pick_t rfl rfl) rfl rfl (XR_nil ?_)
   refine X_if rfl (fun h => ?_) (fun h => ?_)
   ·refine X_skip (X_seq (X_block ?_))
    refine X_draw (butAt [(4, .pure)]) (by kernel_rfl) (by kernel_rfl) ?_
    refine XV rfl rfl rfl (XV rfl rfl rfl (XV rfl rfl rfl (XV rfl rfl rfl ?_)))
    first | refine XR_a (op_subN (n := 1) rfl rfl (by omega) (by simp only [inK]; omega)) rfl rfl ?_ | refine XR_a (op_subI rfl rfl (by simp only [inK]; omega)) rfl rfl ?_ | refine XR_a (op_sub rfl rfl) rfl rfl ?_
    refine XV rfl rfl rfl (XV rfl rfl rfl ?_)
    first | refine XR_a (op_subN (n := 1) rfl rfl (by omega) (by simp only [inK]; omega)) rfl rfl ?_ | refine XR_a (op_subI rfl rfl (by simp only [inK]; omega)) rfl rfl ?_ | refine XR_a (op_sub rfl rfl) rfl rfl ?_
    first | refine XR_a (op_index1 rfl rfl rfl (by omega)) rfl rfl ?_ | refine XR_a (op_index rfl rfl rfl (by omega)) rfl rfl ?_
    refine XR_a (op_ld (st.natAt (get_mid _ _ _ hia)) rfl rfl rfl) rfl rfl ?_
    refine XV rfl rfl rfl (XV rfl rfl rfl ?_)
    first | refine XR_a (op_index1 rfl rfl rfl (by omega)) rfl rfl ?_ | refine XR_a (op_index rfl rfl rfl (by omega)) rfl rfl ?_
    refine XR_a (op_ld (st.natAt (get_mid2 _ _ _ _ _ hib)) rfl rfl rfl) rfl rfl ?_
    first | refine XR_a (op_index1 rfl rfl rfl (by omega)) rfl rfl ?_ | refine XR_a (op_index rfl rfl rfl (by omega)) rfl rfl ?_
    refine XR_wn (opl_store_row (i := a + p) st 0 rfl rfl rfl (by simp only [List.length_map, List.length_append, List.length_cons, List.length_take, List.length_drop, List.length_nil]; omega) rfl rfl) rfl rfl fun _ hp st => ?_
    simp only [List.set_cons_zero] at st
    first | refine XR_a (op_index1 rfl rfl rfl (by omega)) rfl rfl ?_ | refine XR_a (op_index rfl rfl rfl (by omega)) rfl rfl ?_
    refine XR_wn (opl_store_row (i := a + p - 1) st 0 rfl rfl rfl (by simp only [List.length_set, List.length_map, List.length_append, List.length_cons, List.length_take, List.length_drop, List.length_nil]; omega) rfl rfl) rfl rfl fun _ hp st => ?_
    simp only [List.set_cons_zero] at st
    rw [swap_map' hia hib, ← e2] at st
    refine XR_nil (X_blk (X_reg (XV rfl rfl rfl ?_)))
    first | refine XR_a (op_subN (n := 1) rfl rfl (by omega) (by simp only [inK]; omega)) rfl rfl ?_ | refine XR_a (op_subI rfl rfl (by simp only [inK]; omega)) rfl rfl ?_ | refine XR_a (op_sub rfl rfl) rfl rfl ?_
    refine XA rfl rfl rfl (XR_nil ?_)
    exact X_again (p - 1) (.cons rfl (.cons rfl (.cons rfl (.cons rfl (.cons rfl (.cons (by rw [show a + p - 1 = a + (p - 1) by omega]; rfl) (.nil _))))))) ⟨by omega, .inr (cmpI_neg.1 h), st⟩ (by omega)
   ·refine X_exit rfl (X_blk (X_reg (XV rfl rfl rfl ?_)))
    first | refine XR_a (op_addN (n := 1) rfl rfl (by simp only [inK]; omega)) rfl rfl ?_ | refine XR_a (op_addI rfl rfl (by simp only [inK]; omega)) rfl rfl ?_ | refine XR_a (op_add rfl rfl) rfl rfl ?_
    refine XA rfl rfl rfl (XR_nil ?_)
    exact X_again (i + 1, S.take p ++ x :: S.drop p) (.cons rfl (.cons rfl (.cons rfl (.cons rfl (.cons rfl (.nil _)))))) (hfin (.inr (Nat.le_of_not_lt fun h2 => h (cmpI_neg.2 h2)))) (by simp only; omega)
  ·refine XR_no rfl rfl (XR_no rfl rfl (XR_no rfl rfl (XR_no rfl rfl (XR_no rfl rfl (XR_no rfl rfl (XR_no rfl rfl (XR_no rfl rfl (XR_no rfl rfl (XR_no rfl rfl ?_)))))))))
   refine XR_no rfl rfl (XR_no rfl rfl (XR_a (op_pick_f rfl rfl) rfl rfl (XR_nil (X_else rfl (X_exit rfl (X_blk (X_reg (XV rfl rfl rfl ?_))))))))
   first | refine XR_a (op_addN (n := 1) rfl rfl (by simp only [inK]; omega)) rfl rfl ?_ | refine XR_a (op_addI rfl rfl (by simp only [inK]; omega)) rfl rfl ?_ | refine XR_a (op_add rfl rfl) rfl rfl ?_
   refine XA rfl rfl rfl (XR_nil ?_)
   exact X_again (i + 1, S.take p ++ x :: S.drop p) (.cons rfl (.cons rfl (.cons rfl (.cons rfl (.cons rfl (.nil _)))))) (hfin (.inl (by omega))) (by simp only; omega)
 ·refine X_exit rfl ?_
  refine X_end .nil ?_
  rw [List.take_of_length_le (by omega)] at hS
  rw [List.drop_of_length_le (by omega)] at st
  exact ⟨S, hS, hSs, st⟩
end Go.Bn
end

section
set_option linter.unusedVariables false
set_option linter.unusedSimpArgs false
set_option maxHeartbeats 4000000
set_option maxRecDepth 20000
namespace Go.Bn
open Go Proofs
def SymOK (B k : Nat) (F : List Res) (caps : Array Value) (key : Nat → Nat) (good : Nat → Prop) (N : Nat) : Prop :=
  ∀ (g n c a m b : Nat) (X U V Y : List Nat) (h0 : Heap), St B h0 h0 (rowN g n c (X ++ (U ++ (V ++ Y))) :: F) → CmpOK B h0 F k caps key good → X.length = a → X.length + U.length = m → m + V.length = b → 1 ≤ U.length → 1 ≤ V.length →
    U.length + V.length ≤ N → PreM key U V → (∀ x ∈ U, good x) → (∀ x ∈ V, good x) → n ≤ 1099511627776 →
    Ret Tryz.prog 174 [.slice (some ⟨g, 0, none⟩) n c, nV a, nV m, nV b, .func (.func k) #[] caps] h0 fun _ h' => ∃ W, Mrg key U V W ∧ St B h0 h' (rowN g n c (X ++ (W ++ Y)) :: F)
theorem symMerge_step {B k N : Nat} {F : List Res} {caps : Array Value} {key : Nat → Nat} {good : Nat → Prop} (ih : SymOK B k F caps key good N)
  {g n c a m b : Nat} {X U V Y : List Nat} {h0 : Heap} (st0 : St B h0 h0 (rowN g n c (X ++ (U ++ (V ++ Y))) :: F)) (hcmp : CmpOK B h0 F k caps key good) (ha : X.length = a) (hm : X.length + U.length = m) (hb : m + V.length = b) (hu : 1 ≤ U.length) (hv : 1 ≤ V.length)
  (hN : U.length + V.length ≤ N + 1) (hpre : PreM key U V) (hgU : ∀ x ∈ U, good x) (hgV : ∀ x ∈ V, good x) (hn : n ≤ 1099511627776) :
  Ret Tryz.prog 174 [.slice (some ⟨g, 0, none⟩) n c, nV a, nV m, nV b, .func (.func k) #[] caps] h0 fun _ h' => ∃ W, Mrg key U V W ∧ St B h0 h' (rowN g n c (X ++ (W ++ Y)) :: F) := by
 have hln := st0.natLen
 simp only [List.length_append] at hln
 refine ret_of_X Tryz.func174 rfl rfl fun w0 hw0 => ?_
 simp only [argE, Nat.zero_add, Nat.reduceAdd]
 refine X_seq (X_seq (X_reg (XV rfl rfl rfl (XV rfl rfl rfl ?_))))
 first | refine XR_a (op_subN rfl rfl (by omega) (by simp only [inK]; omega)) rfl rfl ?_ | refine XR_a (op_subI rfl rfl (by simp only [inK]; omega)) rfl rfl ?_ | refine XR_a (op_sub rfl rfl) rfl rfl ?_
 refine XR_a (op_eql rfl rfl) rfl rfl ?_
 refine XR_nil ?_
 refine X_if rfl (fun h => ?_) (fun h => ?_)
 ·obtain ⟨u, rfl⟩ : ∃ u, U = [u] := List.length_eq_one_iff.1 (by omega)
  have hul : [u].length = 1 := rfl
  have hgu := hgU u (by simp)
  refine X_seq (X_reg (XV rfl rfl rfl (XA rfl rfl rfl (XR_nil (X_seq (X_reg (XV rfl rfl rfl (XA rfl rfl rfl (XR_nil ?_)))))))))
  refine X_seq (X_block ?_)
  refine X_loop (fun s => s.2 - s.1) (fun s => [(0, .slice (some ⟨g, 0, none⟩) n c), (1, nV a), (2, nV m), (3, nV b), (4, .func (.func k) #[] caps), (10, nV s.1), (11, nV s.2)])
   (fun (s : Nat × Nat) hp => hp = h0 ∧ m ≤ s.1 ∧ s.1 ≤ s.2 ∧ s.2 ≤ b ∧ (s.1 = m ∨ key (V.getD (s.1 - m - 1) 0) < key u) ∧ (s.2 = b ∨ key u ≤ key (V.getD (s.2 - m) 0)))
   (m, b) (.cons rfl (.cons rfl (.cons rfl (.cons rfl (.cons rfl (.cons rfl (.cons rfl (.nil _)))))))) ⟨rfl, Nat.le_refl _, by simp only; omega, Nat.le_refl _, .inl rfl, .inl rfl⟩ ?_
  rintro ⟨i, j⟩ hp ⟨rfl, hi1, hi2, hi3, hi4, hi5⟩
  simp only at hi1 hi2 hi3 hi4 hi5 ⊢
  refine X_seq (X_seq (X_reg (XV rfl rfl rfl (XV rfl rfl rfl ?_))))
  refine XR_a (op_lss rfl rfl) rfl rfl ?_
  refine XR_nil ?_
  refine X_if rfl (fun h => ?_) (fun h => ?_)
  ·refine X_skip (X_block (X_seq (X_reg (XV rfl rfl rfl (XV rfl rfl rfl ?_)))))
   first | refine XR_a (op_addN rfl rfl (by simp only [inK]; omega)) rfl rfl ?_ | refine XR_a (op_addI rfl rfl (by simp only [inK]; omega)) rfl rfl ?_ | refine XR_a (op_add rfl rfl) rfl rfl ?_
   first | refine XR_a (op_convI rfl rfl (by simp only [inK]; omega)) rfl rfl ?_ | refine XR_a (op_convU rfl rfl rfl) rfl rfl ?_ | refine XR_a (op_conv rfl rfl) rfl rfl ?_
   first | refine XR_a (op_shrC 1 rfl rfl (by decide)) rfl rfl ?_ | refine XR_a (op_shrN 1 rfl rfl (by decide)) rfl rfl ?_
   first | refine XR_a (op_convI rfl rfl (by simp only [inK]; omega)) rfl rfl ?_ | refine XR_a (op_conv rfl rfl) rfl rfl ?_
   refine XR_as (nV ((i + j) / 2)) rfl ?_
   obtain ⟨q, hq⟩ : ∃ q, (i + j) / 2 = q := ⟨_, rfl⟩
   rw [hq]
   have hgq : (X ++ ([u] ++ (V ++ Y)))[q]? = some (V.getD (q - m) 0) := by
    have := get_part2 (X := X) (U := [u]) (V := V) (R := Y) (a := m) (i := q - m) hm (by omega)
    rwa [show m + (q - m) = q by omega] at this
   have hga : (X ++ ([u] ++ (V ++ Y)))[a]? = some u := get_mid _ _ _ ha.symm
   refine XA rfl rfl rfl (XR_nil (X_seq ?_))
   refine X_draw byKind (by kernel_rfl) (by kernel_rfl) ?_
   refine XV rfl rfl rfl (XV rfl rfl rfl (XV rfl rfl rfl ?_))
   first | refine XR_a (op_index1 rfl rfl rfl (by omega)) rfl rfl ?_ | refine XR_a (op_index rfl rfl rfl (by omega)) rfl rfl ?_
   refine XR_a (op_ld (st0.natAt hgq) rfl rfl rfl) rfl rfl ?_
   refine XV rfl rfl rfl (XV rfl rfl rfl ?_)
   first | refine XR_a (op_index1 rfl rfl rfl (by omega)) rfl rfl ?_ | refine XR_a (op_index rfl rfl rfl (by omega)) rfl rfl ?_
   refine XR_a (op_ld (st0.natAt hga) rfl rfl rfl) rfl rfl ?_
   refine XR_wa (opl_callV rfl (hcmp.2 _ _ st0 (V.getD (q - m) 0) u (hgV _ (getD_mem (by omega))) hgu) rfl (hcmp.1)) rfl rfl rfl ?_
   rintro _ _ ⟨rfl, rfl⟩
   refine XR_a (op_lss rfl rfl) rfl rfl ?_
   refine XR_nil ?_
   refine X_if rfl (fun h => ?_) (fun h => ?_)
   ·refine X_reg (XV rfl rfl rfl ?_)
    first | refine XR_a (op_addN (n := 1) rfl rfl (by simp only [inK]; omega)) rfl rfl ?_ | refine XR_a (op_addI rfl rfl (by simp only [inK]; omega)) rfl rfl ?_ | refine XR_a (op_add rfl rfl) rfl rfl ?_
    refine XA rfl rfl rfl (XR_nil (X_blk ?_))
    rw [cmpI_neg] at h
    exact X_again (q + 1, j) (.cons rfl (.cons rfl (.cons rfl (.cons rfl (.cons rfl (.cons rfl (.cons rfl (.nil _)))))))) ⟨rfl, by simp only; omega, by simp only; omega, hi3, .inr (by rw [show q + 1 - m - 1 = q - m by omega]; exact h), hi5⟩ (by simp only; omega)
   ·refine X_reg (XV rfl rfl rfl (XA rfl rfl rfl (XR_nil (X_blk ?_))))
    rw [cmpI_neg] at h
    exact X_again (i, q) (.cons rfl (.cons rfl (.cons rfl (.cons rfl (.cons rfl (.cons rfl (.cons rfl (.nil _)))))))) ⟨rfl, hi1, by simp only; omega, by simp only; omega, hi4, .inr (by simp only; omega)⟩ (by simp only; omega)
  ·refine X_exit rfl (X_seq (X_seq (X_reg (XV rfl rfl rfl (XA rfl rfl rfl (XR_nil (X_block ?_)))))))
   obtain rfl : i = j := by omega
   have hmg : Mrg key [u] V (V.take (i - m) ++ u :: V.drop (i - m)) := mrg_left hpre (by omega) (hi4.imp (fun h => by omega) id) (hi5.imp (fun h => by omega) id)
   refine X_loop (fun d => i - m - d) (fun d => [(0, .slice (some ⟨g, 0, none⟩) n c), (10, nV i), (13, nV (a + d))])
    (fun (d : Nat) hp' => d ≤ i - m ∧ St B hp hp' (rowN g n c (X ++ (V.take d ++ u :: (V.drop d ++ Y))) :: F))
    0 (.cons rfl (.cons rfl (.cons rfl (.nil _)))) ⟨Nat.zero_le _, by simpa using st0⟩ ?_
   rintro d hp2 ⟨hd, st⟩
   refine X_seq (X_seq (X_reg (XV rfl rfl rfl (XV rfl rfl rfl ?_))))
   first | refine XR_a (op_subN (n := 1) rfl rfl (by omega) (by simp only [inK]; omega)) rfl rfl ?_ | refine XR_a (op_subI rfl rfl (by simp only [inK]; omega)) rfl rfl ?_ | refine XR_a (op_sub rfl rfl) rfl rfl ?_
   refine XR_a (op_lss rfl rfl) rfl rfl ?_
   refine XR_nil ?_
   refine X_if rfl (fun h => ?_) (fun h => ?_)
   ·have hdV : d < V.length := by omega
    have e1 : X ++ (V.take d ++ u :: (V.drop d ++ Y)) = (X ++ V.take d) ++ u :: ([] ++ V.getD d 0 :: (V.drop (d + 1) ++ Y)) := by rw [drop_cons hdV]; simp
    have e2 : X ++ (V.take (d + 1) ++ u :: (V.drop (d + 1) ++ Y)) = (X ++ V.take d) ++ V.getD d 0 :: ([] ++ u :: (V.drop (d + 1) ++ Y)) := by rw [take_snoc hdV]; simp
    have hia : a + d = (X ++ V.take d).length := by rw [List.length_append, List.length_take]; omega
    have hib : a + d + 1 = (X ++ V.take d).length + 1 + ([] : List Nat).length := by rw [List.length_nil]; omega
    rw [e1] at st
    refine X_skip (X_seq (X_block ?_))
    refine X_draw (butAt [(4, .pure)]) (by kernel_rfl) (by kernel_rfl) ?_
    refine XV rfl rfl rfl (XV rfl rfl rfl (XV rfl rfl rfl (XV rfl rfl rfl ?_)))
    first | refine XR_a (op_addN (n := 1) rfl rfl (by simp only [inK]; omega)) rfl rfl ?_ | refine XR_a (op_addI rfl rfl (by simp only [inK]; omega)) rfl rfl ?_ | refine XR_a (op_add rfl rfl) rfl rfl ?_
    refine XV rfl rfl rfl (XV rfl rfl rfl ?_)
    first | refine XR_a (op_addN (n := 1) rfl rfl (by simp only [inK]; omega)) rfl rfl ?_ | refine XR_a (op_addI rfl rfl (by simp only [inK]; omega)) rfl rfl ?_ | refine XR_a (op_add rfl rfl) rfl rfl ?_
    first | refine XR_a (op_index1 rfl rfl rfl (by omega)) rfl rfl ?_ | refine XR_a (op_index rfl rfl rfl (by omega)) rfl rfl ?_
    refine XR_a (op_ld (st.natAt (get_mid2 _ _ _ _ _ hib)) rfl rfl rfl) rfl rfl ?_
    refine XV rfl rfl rfl (XV rfl rfl rfl ?_)
    first | refine XR_a (op_index1 rfl rfl rfl (by omega)) rfl rfl ?_ | refine XR_a (op_index rfl rfl rfl (by omega)) rfl rfl ?_
    refine XR_a (op_ld (st.natAt (get_mid _ _ _ hia)) rfl rfl rfl) rfl rfl ?_
    first | refine XR_a (op_index1 rfl rfl rfl (by omega)) rfl rfl ?_ | refine XR_a (op_index rfl rfl rfl (by omega)) rfl rfl ?_
    refine XR_wn (opl_store_row (i := a + d) st 0 rfl rfl rfl (by simp only [List.length_map, List.length_append, List.length_cons, List.length_take, List.length_drop, List.length_nil]; omega) rfl rfl) rfl rfl fun _ hp st => ?_
    simp only [List.set_cons_zero] at st
    first | refine XR_a (op_index1 rfl rfl rfl (by omega)) rfl rfl ?_ | refine XR_a (op_index rfl rfl rfl (by omega)) rfl rfl ?_
    refine XR_wn (opl_store_row (i := a + d + 1) st 0 rfl rfl rfl (by simp only [List.length_set, List.length_map, List.length_append, List.length_cons, List.length_take, List.length_drop, List.length_nil]; omega) rfl rfl) rfl rfl fun _ hp st => ?_
    simp only [List.set_cons_zero] at st
    rw [swap_map hia hib, ← e2] at st
    refine XR_nil (X_blk (X_reg (XV rfl rfl rfl ?_)))
    first | refine XR_a (op_addN (n := 1) rfl rfl (by simp only [inK]; omega)) rfl rfl ?_ | refine XR_a (op_addI rfl rfl (by simp only [inK]; omega)) rfl rfl ?_ | refine XR_a (op_add rfl rfl) rfl rfl ?_
    refine XA rfl rfl rfl (XR_nil ?_)
    exact X_again (d + 1) (.cons rfl (.cons rfl (.cons rfl (.nil _)))) ⟨by omega, st⟩ (by omega)
   ·refine X_exit rfl ?_
    refine X_ret .nil ?_
    obtain rfl : d = i - m := by omega
    exact ⟨_, hmg, by simpa using st⟩
 ·refine X_skip (X_seq (X_seq (X_reg (XV rfl rfl rfl (XV rfl rfl rfl ?_)))))
  first | refine XR_a (op_subN rfl rfl (by omega) (by simp only [inK]; omega)) rfl rfl ?_ | refine XR_a (op_subI rfl rfl (by simp only [inK]; omega)) rfl rfl ?_ | refine XR_a (op_sub rfl rfl) rfl rfl ?_
  refine XR_a (op_eql rfl rfl) rfl rfl ?_
  refine XR_nil ?_
  refine X_if rfl (fun h => ?_) (fun h => ?_)
  ·obtain ⟨v, rfl⟩ : ∃ v, V = [v] := List.length_eq_one_iff.1 (by omega)
   have hvl : [v].length = 1 := rfl
   have hgv := hgV v (by simp)
   refine X_seq (X_reg (XV rfl rfl rfl (XA rfl rfl rfl (XR_nil (X_seq (X_reg (XV rfl rfl rfl (XA rfl rfl rfl (XR_nil ?_)))))))))
   refine X_seq (X_block ?_)
   refine X_loop (fun s => s.2 - s.1) (fun s => [(0, .slice (some ⟨g, 0, none⟩) n c), (1, nV a), (2, nV m), (3, nV b), (4, .func (.func k) #[] caps), (14, nV s.1), (15, nV s.2)])
    (fun (s : Nat × Nat) hp => hp = h0 ∧ a ≤ s.1 ∧ s.1 ≤ s.2 ∧ s.2 ≤ m ∧ (s.1 = a ∨ key (U.getD (s.1 - a - 1) 0) ≤ key v) ∧ (s.2 = m ∨ key v < key (U.getD (s.2 - a) 0)))
    (a, m) (.cons rfl (.cons rfl (.cons rfl (.cons rfl (.cons rfl (.cons rfl (.cons rfl (.nil _)))))))) ⟨rfl, Nat.le_refl _, by simp only; omega, Nat.le_refl _, .inl rfl, .inl rfl⟩ ?_
   rintro ⟨i, j⟩ hp ⟨rfl, hi1, hi2, hi3, hi4, hi5⟩
   simp only at hi1 hi2 hi3 hi4 hi5 ⊢
   refine X_seq (X_seq (X_reg (XV rfl rfl rfl (XV rfl rfl rfl ?_))))
   refine XR_a (op_lss rfl rfl) rfl rfl ?_
   refine XR_nil ?_
   refine X_if rfl (fun h => ?_) (fun h => ?_)
   ·refine X_skip (X_block (X_seq (X_reg (XV rfl rfl rfl (XV rfl rfl rfl ?_)))))
    first | refine XR_a (op_addN rfl rfl (by simp only [inK]; omega)) rfl rfl ?_ | refine XR_a (op_addI rfl rfl (by simp only [inK]; omega)) rfl rfl ?_ | refine XR_a (op_add rfl rfl) rfl rfl ?_
    first | refine XR_a (op_convI rfl rfl (by simp only [inK]; omega)) rfl rfl ?_ | refine XR_a (op_convU rfl rfl rfl) rfl rfl ?_ | refine XR_a (op_conv rfl rfl) rfl rfl ?_
    first | refine XR_a (op_shrC 1 rfl rfl (by decide)) rfl rfl ?_ | refine XR_a (op_shrN 1 rfl rfl (by decide)) rfl rfl ?_
    first | refine XR_a (op_convI rfl rfl (by simp only [inK]; omega)) rfl rfl ?_ | refine XR_a (op_conv rfl rfl) rfl rfl ?_
    refine XR_as (nV ((i + j) / 2)) rfl ?_
    obtain ⟨q, hq⟩ : ∃ q, (i + j) / 2 = q := ⟨_, rfl⟩
    rw [hq]
    have hgq : (X ++ (U ++ ([v] ++ Y)))[q]? = some (U.getD (q - a) 0) := by
     have := get_part (X := X) (U := U) (R := [v] ++ Y) (a := a) (i := q - a) ha (by omega)
     rwa [show a + (q - a) = q by omega] at this
    have hga : (X ++ (U ++ ([v] ++ Y)))[m]? = some v := by
     have := get_part2 (X := X) (U := U) (V := [v]) (R := Y) (a := m) (i := 0) hm (by omega)
     exact this
    refine XA rfl rfl rfl (XR_nil (X_seq ?_))
    refine X_draw byKind (by kernel_rfl) (by kernel_rfl) ?_
    refine XV rfl rfl rfl (XV rfl rfl rfl (XV rfl rfl rfl ?_))
    first | refine XR_a (op_index1 rfl rfl rfl (by omega)) rfl rfl ?_ | refine XR_a (op_index rfl rfl rfl (by omega)) rfl rfl ?_
    refine XR_a (op_ld (st0.natAt hga) rfl rfl rfl) rfl rfl ?_
    refine XV rfl rfl rfl (XV rfl rfl rfl ?_)
    first | refine XR_a (op_index1 rfl rfl rfl (by omega)) rfl rfl ?_ | refine XR_a (op_index rfl rfl rfl (by omega)) rfl rfl ?_
    refine XR_a (op_ld (st0.natAt hgq) rfl rfl rfl) rfl rfl ?_
    refine XR_wa (opl_callV rfl (hcmp.2 _ _ st0 v (U.getD (q - a) 0) hgv (hgU _ (getD_mem (by omega)))) rfl (hcmp.1)) rfl rfl rfl ?_
    rintro _ _ ⟨rfl, rfl⟩
    refine XR_a (op_lss rfl rfl) rfl rfl ?_
    first | refine XR_a (op_notd rfl) rfl rfl ?_ | refine XR_a (op_not rfl) rfl rfl ?_
    refine XR_nil ?_
    refine X_if rfl (fun h => ?_) (fun h => ?_)
    ·refine X_reg (XV rfl rfl rfl ?_)
     first | refine XR_a (op_addN (n := 1) rfl rfl (by simp only [inK]; omega)) rfl rfl ?_ | refine XR_a (op_addI rfl rfl (by simp only [inK]; omega)) rfl rfl ?_ | refine XR_a (op_add rfl rfl) rfl rfl ?_
     refine XA rfl rfl rfl (XR_nil (X_blk ?_))
     rw [cmpI_neg] at h
     exact X_again (q + 1, j) (.cons rfl (.cons rfl (.cons rfl (.cons rfl (.cons rfl (.cons rfl (.cons rfl (.nil _)))))))) ⟨rfl, by simp only; omega, by simp only; omega, hi3, .inr (by rw [show q + 1 - a - 1 = q - a by omega]; omega), hi5⟩ (by simp only; omega)
    ·refine X_reg (XV rfl rfl rfl (XA rfl rfl rfl (XR_nil (X_blk ?_))))
     rw [cmpI_neg] at h
     exact X_again (i, q) (.cons rfl (.cons rfl (.cons rfl (.cons rfl (.cons rfl (.cons rfl (.cons rfl (.nil _)))))))) ⟨rfl, hi1, by simp only; omega, by simp only; omega, hi4, .inr (by simp only; omega)⟩ (by simp only; omega)
   ·refine X_exit rfl (X_seq (X_seq (X_reg (XV rfl rfl rfl (XA rfl rfl rfl (XR_nil (X_block ?_)))))))
    obtain rfl : i = j := by omega
    have hmg : Mrg key U [v] (U.take (i - a) ++ v :: U.drop (i - a)) := mrg_right hpre (by omega) (hi4.imp (fun h => by omega) id) (hi5.imp (fun h => by omega) id)
    refine X_loop (fun d => d) (fun d => [(0, .slice (some ⟨g, 0, none⟩) n c), (14, nV i), (17, nV (a + d))])
     (fun (d : Nat) hp' => i - a ≤ d ∧ d ≤ U.length ∧ St B hp hp' (rowN g n c (X ++ (U.take d ++ v :: (U.drop d ++ Y))) :: F))
     U.length (.cons rfl (.cons rfl (.cons (by rw [show a + U.length = m by omega]; rfl) (.nil _)))) ⟨by omega, Nat.le_refl _, by simpa using st0⟩ ?_
    rintro d hp2 ⟨hd, hdU, st⟩
    refine X_seq (X_seq (X_reg (XV rfl rfl rfl (XV rfl rfl rfl ?_))))
    refine XR_a (op_gtr rfl rfl) rfl rfl ?_
    refine XR_nil ?_
    refine X_if rfl (fun h => ?_) (fun h => ?_)
    ·have hd1 : d - 1 < U.length := by omega
     have e1 : X ++ (U.take d ++ v :: (U.drop d ++ Y)) = (X ++ U.take (d - 1)) ++ U.getD (d - 1) 0 :: ([] ++ v :: (U.drop d ++ Y)) := by
      have := take_snoc hd1
      rw [show d - 1 + 1 = d by omega] at this
      rw [this]; simp
     have e2 : X ++ (U.take (d - 1) ++ v :: (U.drop (d - 1) ++ Y)) = (X ++ U.take (d - 1)) ++ v :: ([] ++ U.getD (d - 1) 0 :: (U.drop d ++ Y)) := by
      have := drop_cons hd1
      rw [show d - 1 + 1 = d by omega] at this
      rw [this]; simp
     have hia : a + d - 1 = (X ++ U.take (d - 1)).length := by rw [List.length_append, List.length_take]; omega
     have hib : a + d = (X ++ U.take (d - 1)).length + 1 + ([] : List Nat).length := by rw [List.length_append, List.length_take, List.length_nil]; omega
     rw [e1] at st
     refine X_skip (X_seq (X_block ?_))
     refine X_draw (butAt [(4, .pure)]) (by kernel_rfl) (by kernel_rfl) ?_
     refine XV rfl rfl rfl (XV rfl rfl rfl (XV rfl rfl rfl (XV rfl rfl rfl ?_)))
     first | refine XR_a (op_subN (n := 1) rfl rfl (by omega) (by simp only [inK]; omega)) rfl rfl ?_ | refine XR_a (op_subI rfl rfl (by simp only [inK]; omega)) rfl rfl ?_ | refine XR_a (op_sub rfl rfl) rfl rfl ?_
     refine XV rfl rfl rfl (XV rfl rfl rfl ?_)
     first | refine XR_a (op_subN (n := 1) rfl rfl (by omega) (by simp only [inK]; omega)) rfl rfl ?_ | refine XR_a (op_subI rfl rfl (by simp only [inK]; omega)) rfl rfl ?_ | refine XR_a (op_sub rfl rfl) rfl rfl ?_
     first | refine XR_a (op_index1 rfl rfl rfl (by omega)) rfl rfl ?_ | refine XR_a (op_index rfl rfl rfl (by omega)) rfl rfl ?_
     refine XR_a (op_ld (st.natAt (get_mid _ _ _ hia)) rfl rfl rfl) rfl rfl ?_
     refine XV rfl rfl rfl (XV rfl rfl rfl ?_)
     first | refine XR_a (op_index1 rfl rfl rfl (by omega)) rfl rfl ?_ | refine XR_a (op_index rfl rfl rfl (by omega)) rfl rfl ?_
     refine XR_a (op_ld (st.natAt (get_mid2 _ _ _ _ _ hib)) rfl rfl rfl) rfl rfl ?_
     first | refine XR_a (op_index1 rfl rfl rfl (by omega)) rfl rfl ?_ | refine XR_a (op_index rfl rfl rfl (by omega)) rfl rfl ?_
     refine XR_wn (opl_store_row (i := a + d) st 0 rfl rfl rfl (by simp only [List.length_map, List.length_append, List.length_cons, List.length_take, List.length_drop, List.length_nil]; omega) rfl rfl) rfl rfl fun _ hp st => ?_
     simp only [List.set_cons_zero] at st
     first | refine XR_a (op_index1 rfl rfl rfl (by omega)) rfl rfl ?_ | refine XR_a (op_index rfl rfl rfl (by omega)) rfl rfl ?_
     refine XR_wn (opl_store_row (i := a + d - 1) st 0 rfl rfl rfl (by simp only [List.length_set, List.length_map, List.length_append, List.length_cons, List.length_take, List.length_drop, List.length_nil]; omega) rfl rfl) rfl rfl fun _ hp st => ?_
     simp only [List.set_cons_zero] at st
     rw [swap_map' hia hib, ← e2] at st
     refine XR_nil (X_blk (X_reg (XV rfl rfl rfl ?_)))
     first | refine XR_a (op_subN (n := 1) rfl rfl (by omega) (by simp only [inK]; omega)) rfl rfl ?_ | refine XR_a (op_subI rfl rfl (by simp only [inK]; omega)) rfl rfl ?_ | refine XR_a (op_sub rfl rfl) rfl rfl ?_
     refine XA rfl rfl rfl (XR_nil ?_)
     exact X_again (d - 1) (.cons rfl (.cons rfl (.cons (by rw [show a + d - 1 = a + (d - 1) by omega]; rfl) (.nil _)))) ⟨by omega, by omega, st⟩ (by omega)
    ·refine X_exit rfl ?_
     refine X_ret .nil ?_
     obtain rfl : d = i - a := by omega
     exact ⟨_, hmg, by simpa using st⟩
  ·refine X_skip (X_seq (X_reg (XV rfl rfl rfl (XV rfl rfl rfl ?_))))
   first | refine XR_a (op_addN rfl rfl (by simp only [inK]; omega)) rfl rfl ?_ | refine XR_a (op_addI rfl rfl (by simp only [inK]; omega)) rfl rfl ?_ | refine XR_a (op_add rfl rfl) rfl rfl ?_
   first | refine XR_a (op_convI rfl rfl (by simp only [inK]; omega)) rfl rfl ?_ | refine XR_a (op_convU rfl rfl rfl) rfl rfl ?_ | refine XR_a (op_conv rfl rfl) rfl rfl ?_
   first | refine XR_a (op_shrC 1 rfl rfl (by decide)) rfl rfl ?_ | refine XR_a (op_shrN 1 rfl rfl (by decide)) rfl rfl ?_
   first | refine XR_a (op_convI rfl rfl (by simp only [inK]; omega)) rfl rfl ?_ | refine XR_a (op_conv rfl rfl) rfl rfl ?_
   refine XR_as (nV ((a + b) / 2)) rfl ?_
   obtain ⟨mid, hmid⟩ : ∃ mid, (a + b) / 2 = mid := ⟨_, rfl⟩
   rw [hmid]
   refine XA rfl rfl rfl (XR_nil (X_seq (X_reg (XV rfl rfl rfl (XV rfl rfl rfl ?_)))))
   first | refine XR_a (op_addN rfl rfl (by simp only [inK]; omega)) rfl rfl ?_ | refine XR_a (op_addI rfl rfl (by simp only [inK]; omega)) rfl rfl ?_ | refine XR_a (op_add rfl rfl) rfl rfl ?_
   refine XA rfl rfl rfl (XR_nil (X_seq (X_reg (XA rfl rfl rfl (XA rfl rfl rfl (XR_nil (X_seq ?_)))))))
   refine X_cut (fun s => [(0, .slice (some ⟨g, 0, none⟩) n c), (1, nV a), (2, nV m), (3, nV b), (4, .func (.func k) #[] caps), (18, nV mid), (19, nV (mid + m)), (20, nV s.1), (21, nV s.2)])
    (fun (s : Nat × Nat) hp => hp = h0 ∧ a ≤ s.1 ∧ s.1 ≤ s.2 ∧ s.2 ≤ m ∧ mid + m ≤ b + s.1 ∧ m + s.2 ≤ mid + m ∧ (s.1 = a ∨ mid + m = b + s.1) ∧ (s.2 = m ∨ mid + m = m + s.2)) ?_ ?_
   ·refine X_seq (X_reg (XV rfl rfl rfl (XV rfl rfl rfl ?_)))
    refine XR_a (op_gtr rfl rfl) rfl rfl ?_
    refine XR_nil ?_
    refine X_if rfl (fun h => ?_) (fun h => ?_)
    ·refine X_seq (X_reg (XV rfl rfl rfl (XV rfl rfl rfl ?_)))
     first | refine XR_a (op_subN rfl rfl (by omega) (by simp only [inK]; omega)) rfl rfl ?_ | refine XR_a (op_subI rfl rfl (by simp only [inK]; omega)) rfl rfl ?_ | refine XR_a (op_sub rfl rfl) rfl rfl ?_
     refine XA rfl rfl rfl (XR_nil (X_reg (XV rfl rfl rfl (XA rfl rfl rfl (XR_nil ?_)))))
     exact X_meet (mid + m - b, mid) (.cons rfl (.cons rfl (.cons rfl (.cons rfl (.cons rfl (.cons rfl (.cons rfl (.cons rfl (.cons rfl (.nil _)))))))))) ⟨rfl, by simp only; omega, by simp only; omega, by simp only; omega, by simp only; omega, by simp only; omega, by simp only; omega, by simp only; omega⟩
    ·refine X_seq (X_reg (XV rfl rfl rfl (XA rfl rfl rfl (XR_nil (X_reg (XV rfl rfl rfl (XA rfl rfl rfl (XR_nil ?_))))))))
     exact X_meet (a, m) (.cons rfl (.cons rfl (.cons rfl (.cons rfl (.cons rfl (.cons rfl (.cons rfl (.cons rfl (.cons rfl (.nil _)))))))))) ⟨rfl, Nat.le_refl _, by simp only; omega, Nat.le_refl _, by simp only; omega, by simp only; omega, .inl rfl, .inl rfl⟩
   rintro ⟨s0, r0⟩ hp ⟨rfl, hA, hB, hC, hD, hE, hF, hG⟩
   simp only at hA hB hC hD hE hF hG ⊢
   refine X_seq (X_reg (XV rfl rfl rfl ?_))
   first | refine XR_a (op_subN (n := 1) rfl rfl (by omega) (by simp only [inK]; omega)) rfl rfl ?_ | refine XR_a (op_subI rfl rfl (by simp only [inK]; omega)) rfl rfl ?_ | refine XR_a (op_sub rfl rfl) rfl rfl ?_
   refine XA rfl rfl rfl (XR_nil (X_seq (X_block ?_)))
   refine X_loop (fun s => s.2 - s.1) (fun s => [(0, .slice (some ⟨g, 0, none⟩) n c), (1, nV a), (2, nV m), (3, nV b), (4, .func (.func k) #[] caps), (18, nV mid), (19, nV (mid + m)), (20, nV s.1), (21, nV s.2), (22, nV (mid + m - 1))])
    (fun (s : Nat × Nat) hp' => hp' = hp ∧ s0 ≤ s.1 ∧ s.1 ≤ s.2 ∧ s.2 ≤ r0 ∧ (s.1 = s0 ∨ key (U.getD (s.1 - a - 1) 0) ≤ key (V.getD (mid - s.1) 0)) ∧ (s.2 = r0 ∨ key (V.getD (mid - s.2 - 1) 0) < key (U.getD (s.2 - a) 0)))
    (s0, r0) (.cons rfl (.cons rfl (.cons rfl (.cons rfl (.cons rfl (.cons rfl (.cons rfl (.cons rfl (.cons rfl (.cons rfl (.nil _))))))))))) ⟨rfl, Nat.le_refl _, hB, Nat.le_refl _, .inl rfl, .inl rfl⟩ ?_
   rintro ⟨s, r⟩ hp2 ⟨rfl, hs1, hs2, hs3, hs4, hs5⟩
   simp only at hs1 hs2 hs3 hs4 hs5 ⊢
   refine X_seq (X_seq (X_reg (XV rfl rfl rfl (XV rfl rfl rfl ?_))))
   refine XR_a (op_lss rfl rfl) rfl rfl ?_
   refine XR_nil ?_
   refine X_if rfl (fun h => ?_) (fun h => ?_)
   ·refine X_skip (X_block (X_seq (X_reg (XV rfl rfl rfl (XV rfl rfl rfl ?_)))))
    first | refine XR_a (op_addN rfl rfl (by simp only [inK]; omega)) rfl rfl ?_ | refine XR_a (op_addI rfl rfl (by simp only [inK]; omega)) rfl rfl ?_ | refine XR_a (op_add rfl rfl) rfl rfl ?_
    first | refine XR_a (op_convI rfl rfl (by simp only [inK]; omega)) rfl rfl ?_ | refine XR_a (op_convU rfl rfl rfl) rfl rfl ?_ | refine XR_a (op_conv rfl rfl) rfl rfl ?_
    first | refine XR_a (op_shrC 1 rfl rfl (by decide)) rfl rfl ?_ | refine XR_a (op_shrN 1 rfl rfl (by decide)) rfl rfl ?_
    first | refine XR_a (op_convI rfl rfl (by simp only [inK]; omega)) rfl rfl ?_ | refine XR_a (op_conv rfl rfl) rfl rfl ?_
    refine XR_as (nV ((s + r) / 2)) rfl ?_
    obtain ⟨q, hq⟩ : ∃ q, (s + r) / 2 = q := ⟨_, rfl⟩
    rw [hq]
    have hgq : (X ++ (U ++ (V ++ Y)))[q]? = some (U.getD (q - a) 0) := by
     have := get_part (X := X) (U := U) (R := V ++ Y) (a := a) (i := q - a) ha (by omega)
     rwa [show a + (q - a) = q by omega] at this
    have hgp : (X ++ (U ++ (V ++ Y)))[mid + m - 1 - q]? = some (V.getD (mid - q - 1) 0) := by
     have := get_part2 (X := X) (U := U) (V := V) (R := Y) (a := m) (i := mid - q - 1) hm (by omega)
     rwa [show m + (mid - q - 1) = mid + m - 1 - q by omega] at this
    refine XA rfl rfl rfl (XR_nil (X_seq ?_))
    refine X_draw byKind (by kernel_rfl) (by kernel_rfl) ?_
    refine XV rfl rfl rfl (XV rfl rfl rfl (XV rfl rfl rfl (XV rfl rfl rfl ?_)))
    first | refine XR_a (op_subN rfl rfl (by omega) (by simp only [inK]; omega)) rfl rfl ?_ | refine XR_a (op_subI rfl rfl (by simp only [inK]; omega)) rfl rfl ?_ | refine XR_a (op_sub rfl rfl) rfl rfl ?_
    first | refine XR_a (op_index1 rfl rfl rfl (by omega)) rfl rfl ?_ | refine XR_a (op_index rfl rfl rfl (by omega)) rfl rfl ?_
    refine XR_a (op_ld (st0.natAt hgp) rfl rfl rfl) rfl rfl ?_
    refine XV rfl rfl rfl (XV rfl rfl rfl ?_)
    first | refine XR_a (op_index1 rfl rfl rfl (by omega)) rfl rfl ?_ | refine XR_a (op_index rfl rfl rfl (by omega)) rfl rfl ?_
    refine XR_a (op_ld (st0.natAt hgq) rfl rfl rfl) rfl rfl ?_
    refine XR_wa (opl_callV rfl (hcmp.2 _ _ st0 (V.getD (mid - q - 1) 0) (U.getD (q - a) 0) (hgV _ (getD_mem (by omega))) (hgU _ (getD_mem (by omega)))) rfl (hcmp.1)) rfl rfl rfl ?_
    rintro _ _ ⟨rfl, rfl⟩
    refine XR_a (op_lss rfl rfl) rfl rfl ?_
    first | refine XR_a (op_notd rfl) rfl rfl ?_ | refine XR_a (op_not rfl) rfl rfl ?_
    refine XR_nil ?_
    refine X_if rfl (fun h => ?_) (fun h => ?_)
    ·refine X_reg (XV rfl rfl rfl ?_)
     first | refine XR_a (op_addN (n := 1) rfl rfl (by simp only [inK]; omega)) rfl rfl ?_ | refine XR_a (op_addI rfl rfl (by simp only [inK]; omega)) rfl rfl ?_ | refine XR_a (op_add rfl rfl) rfl rfl ?_
     refine XA rfl rfl rfl (XR_nil (X_blk ?_))
     rw [cmpI_neg] at h
     exact X_again (q + 1, r) (.cons rfl (.cons rfl (.cons rfl (.cons rfl (.cons rfl (.cons rfl (.cons rfl (.cons rfl (.cons rfl (.cons rfl (.nil _))))))))))) ⟨rfl, by simp only; omega, by simp only; omega, hs3, .inr (by rw [show q + 1 - a - 1 = q - a by omega, show mid - (q + 1) = mid - q - 1 by omega]; omega), hs5⟩ (by simp only; omega)
    ·refine X_reg (XV rfl rfl rfl (XA rfl rfl rfl (XR_nil (X_blk ?_))))
     rw [cmpI_neg] at h
     exact X_again (s, q) (.cons rfl (.cons rfl (.cons rfl (.cons rfl (.cons rfl (.cons rfl (.cons rfl (.cons rfl (.cons rfl (.cons rfl (.nil _))))))))))) ⟨rfl, hs1, by simp only; omega, by simp only; omega, hs4, .inr (by simp only; omega)⟩ (by simp only; omega)
   ·refine X_exit rfl (X_seq ?_)
    obtain rfl : s = r := by omega
    have hi : s - a ≤ U.length := by omega
    have hj : mid - s ≤ V.length := by omega
    have hc1 : s - a = 0 ∨ V.length ≤ mid - s ∨ key (U.getD (s - a - 1) 0) ≤ key (V.getD (mid - s) 0) := by
     rcases hs4 with h1 | h1
     ·omega
     ·exact .inr (.inr h1)
    have hc2 : U.length ≤ s - a ∨ mid - s = 0 ∨ key (V.getD (mid - s - 1) 0) < key (U.getD (s - a) 0) := by
     rcases hs5 with h1 | h1
     ·omega
     ·exact .inr (.inr h1)
    have hsplit := fun W1 W2 m1 m2 => mrg_split (W1 := W1) (W2 := W2) hpre hc1 hc2 hi hj m1 m2
    obtain ⟨hq1, hq2⟩ := hpre.part (s - a) (mid - s)
    have e0 : X ++ (U ++ (V ++ Y)) = X ++ (U.take (s - a) ++ (U.drop (s - a) ++ (V.take (mid - s) ++ (V.drop (mid - s) ++ Y)))) := by
     rw [← List.append_assoc (V.take _), List.take_append_drop, ← List.append_assoc (U.take _), List.take_append_drop]
    obtain ⟨U1, hU1⟩ : ∃ U1, U.take (s - a) = U1 := ⟨_, rfl⟩
    obtain ⟨U2, hU2⟩ : ∃ U2, U.drop (s - a) = U2 := ⟨_, rfl⟩
    obtain ⟨V1, hV1⟩ : ∃ V1, V.take (mid - s) = V1 := ⟨_, rfl⟩
    obtain ⟨V2, hV2⟩ : ∃ V2, V.drop (mid - s) = V2 := ⟨_, rfl⟩
    have hlU1 : U1.length = s - a := by rw [← hU1, List.length_take]; omega
    have hlU2 : U2.length = m - s := by rw [← hU2, List.length_drop]; omega
    have hlV1 : V1.length = mid - s := by rw [← hV1, List.length_take]; omega
    have hlV2 : V2.length = b + s - (mid + m) := by rw [← hV2, List.length_drop]; omega
    have hgU1 : ∀ x ∈ U1, good x := fun x hx => hgU x (List.mem_of_mem_take (by rw [hU1]; exact hx))
    have hgU2 : ∀ x ∈ U2, good x := fun x hx => hgU x (List.mem_of_mem_drop (by rw [hU2]; exact hx))
    have hgV1 : ∀ x ∈ V1, good x := fun x hx => hgV x (List.mem_of_mem_take (by rw [hV1]; exact hx))
    have hgV2 : ∀ x ∈ V2, good x := fun x hx => hgV x (List.mem_of_mem_drop (by rw [hV2]; exact hx))
    rw [hU1, hU2, hV1, hV2] at e0
    rw [hU1, hV1] at hq1
    rw [hU2, hV2] at hq2
    rw [hU1, hU2, hV1, hV2] at hsplit
    rw [e0] at st0
    refine X_reg (XV rfl rfl rfl (XV rfl rfl rfl ?_))
    first | refine XR_a (op_subN rfl rfl (by omega) (by simp only [inK]; omega)) rfl rfl ?_ | refine XR_a (op_subI rfl rfl (by simp only [inK]; omega)) rfl rfl ?_ | refine XR_a (op_sub rfl rfl) rfl rfl ?_
    refine XA rfl rfl rfl (XR_nil (X_seq ?_))
    refine X_cut (fun (_ : Unit) => [(0, .slice (some ⟨g, 0, none⟩) n c), (1, nV a), (2, nV m), (3, nV b), (4, .func (.func k) #[] caps), (18, nV mid), (20, nV s), (24, nV (mid + m - s))])
     (fun (_ : Unit) hp' => St B hp2 hp' (rowN g n c (X ++ (U1 ++ (V1 ++ (U2 ++ (V2 ++ Y))))) :: F)) ?_ ?_
    ·refine X_seq (X_reg (XV rfl rfl rfl (XV rfl rfl rfl ?_)))
     refine XR_a (op_lss rfl rfl) rfl rfl ?_
     refine XV rfl rfl rfl ?_
     refine XR_if 181 rfl (fun h => ?_) (fun h => ?_)
     ·refine XV rfl rfl rfl (XV rfl rfl rfl ?_)
      refine XR_a (op_lss rfl rfl) rfl rfl ?_
      refine XR_a (op_pick_t rfl rfl) rfl rfl (XR_nil ?_)
      refine X_if rfl (fun h => ?_) (fun h => ?_)
      ·refine X_reg (XV rfl rfl rfl (XV rfl rfl rfl (XV rfl rfl rfl (XV rfl rfl rfl (XV rfl rfl rfl ?_)))))
       refine XR_wa (opl_call (rotate_spec (X := X ++ U1) (U := U2) (V := V1) (Y := V2 ++ Y) (by rw [List.append_assoc]; exact st0) (by rw [List.length_append]; omega) (by rw [List.length_append]; omega) (by omega) (by omega) (by omega) hn) rfl (by kernel_rfl)) rfl rfl rfl ?_
       rintro _ hp3 st
       rw [List.append_assoc] at st
       refine XR_nil ?_
       exact X_meet () (.cons rfl (.cons rfl (.cons rfl (.cons rfl (.cons rfl (.cons rfl (.cons rfl (.cons rfl (.nil _))))))))) st
      ·refine X_skip ?_
       refine X_meet () (.cons rfl (.cons rfl (.cons rfl (.cons rfl (.cons rfl (.cons rfl (.cons rfl (.cons rfl (.nil _))))))))) ?_
       obtain rfl : V1 = [] := List.eq_nil_of_length_eq_zero (by omega)
       exact st0
     ·refine XR_no rfl rfl (XR_no rfl rfl (XR_no rfl rfl (XR_a (op_pick_f rfl rfl) rfl rfl (XR_nil (X_else rfl (X_skip ?_))))))
      refine X_meet () (.cons rfl (.cons rfl (.cons rfl (.cons rfl (.cons rfl (.cons rfl (.cons rfl (.cons rfl (.nil _))))))))) ?_
      obtain rfl : U2 = [] := List.eq_nil_of_length_eq_zero (by omega)
      exact st0
    rintro ⟨⟩ hp3 st
    refine X_seq ?_
    refine X_cut (fun (_ : List Nat) => [(0, .slice (some ⟨g, 0, none⟩) n c), (1, nV a), (2, nV m), (3, nV b), (4, .func (.func k) #[] caps), (18, nV mid), (20, nV s), (24, nV (mid + m - s))])
     (fun W1 hp' => Mrg key U1 V1 W1 ∧ St B hp2 hp' (rowN g n c (X ++ (W1 ++ (U2 ++ (V2 ++ Y)))) :: F)) ?_ ?_
    ·refine X_seq (X_reg (XV rfl rfl rfl (XV rfl rfl rfl ?_)))
     refine XR_a (op_lss rfl rfl) rfl rfl ?_
     refine XV rfl rfl rfl ?_
     refine XR_if 195 rfl (fun h => ?_) (fun h => ?_)
     ·refine XV rfl rfl rfl (XV rfl rfl rfl ?_)
      refine XR_a (op_lss rfl rfl) rfl rfl ?_
      refine XR_a (op_pick_t rfl rfl) rfl rfl (XR_nil ?_)
      refine X_if rfl (fun h => ?_) (fun h => ?_)
      ·refine X_reg (XV rfl rfl rfl (XV rfl rfl rfl (XV rfl rfl rfl (XV rfl rfl rfl (XV rfl rfl rfl ?_)))))
       refine XR_wa (opl_call (ih g n c a s mid X U1 V1 (U2 ++ (V2 ++ Y)) _ st.here (hcmp.here st) ha (by omega) (by omega) (by omega) (by omega) (by omega) hq1 hgU1 hgV1 hn) rfl (by kernel_rfl)) rfl rfl rfl ?_
       rintro _ hp4 ⟨W1, hW1, st3⟩
       replace st := st.trans st3
       refine XR_nil ?_
       exact X_meet W1 (.cons rfl (.cons rfl (.cons rfl (.cons rfl (.cons rfl (.cons rfl (.cons rfl (.cons rfl (.nil _))))))))) ⟨hW1, st⟩
      ·refine X_skip ?_
       refine X_meet U1 (.cons rfl (.cons rfl (.cons rfl (.cons rfl (.cons rfl (.cons rfl (.cons rfl (.cons rfl (.nil _))))))))) ?_
       obtain rfl : V1 = [] := List.eq_nil_of_length_eq_zero (by omega)
       exact ⟨mrg_nil_right hq1.1, st⟩
     ·refine XR_no rfl rfl (XR_no rfl rfl (XR_no rfl rfl (XR_a (op_pick_f rfl rfl) rfl rfl (XR_nil (X_else rfl (X_skip ?_))))))
      refine X_meet V1 (.cons rfl (.cons rfl (.cons rfl (.cons rfl (.cons rfl (.cons rfl (.cons rfl (.cons rfl (.nil _))))))))) ?_
      obtain rfl : U1 = [] := List.eq_nil_of_length_eq_zero (by omega)
      exact ⟨mrg_nil_left hq1.2.1, st⟩
    rintro W1 hp4 ⟨hW1, st⟩
    have hlW1 : W1.length = mid - a := by rw [hW1.1.length_eq, List.length_append]; omega
    refine X_seq (X_reg (XV rfl rfl rfl (XV rfl rfl rfl ?_)))
    refine XR_a (op_lss rfl rfl) rfl rfl ?_
    refine XV rfl rfl rfl ?_
    refine XR_if 209 rfl (fun h => ?_) (fun h => ?_)
    ·refine XV rfl rfl rfl (XV rfl rfl rfl ?_)
     refine XR_a (op_lss rfl rfl) rfl rfl ?_
     refine XR_a (op_pick_t rfl rfl) rfl rfl (XR_nil ?_)
     refine X_if rfl (fun h => ?_) (fun h => ?_)
     ·refine X_reg (XV rfl rfl rfl (XV rfl rfl rfl (XV rfl rfl rfl (XV rfl rfl rfl (XV rfl rfl rfl ?_)))))
      refine XR_wa (opl_call (ih g n c mid (mid + m - s) b (X ++ W1) U2 V2 Y _ (by rw [List.append_assoc]; exact st.here) (hcmp.here st) (by rw [List.length_append]; omega) (by rw [List.length_append]; omega) (by omega) (by omega) (by omega) (by omega) hq2 hgU2 hgV2 hn) rfl (by kernel_rfl)) rfl rfl rfl ?_
      rintro _ hp5 ⟨W2, hW2, st4⟩
      rw [List.append_assoc] at st4
      replace st := st.trans st4
      refine XR_nil ?_
      refine X_end .nil ?_
      exact ⟨_, hsplit W1 W2 hW1 hW2, by simpa using st⟩
     ·refine X_skip ?_
      refine X_end .nil ?_
      obtain rfl : V2 = [] := List.eq_nil_of_length_eq_zero (by omega)
      exact ⟨_, hsplit W1 U2 hW1 (mrg_nil_right hq2.1), by simpa using st⟩
    ·refine XR_no rfl rfl (XR_no rfl rfl (XR_no rfl rfl (XR_a (op_pick_f rfl rfl) rfl rfl (XR_nil (X_else rfl (X_skip ?_))))))
     refine X_end .nil ?_
     obtain rfl : U2 = [] := List.eq_nil_of_length_eq_zero (by omega)
     exact ⟨_, hsplit W1 V2 hW1 (mrg_nil_left hq2.2.1), by simpa using st⟩
theorem symMerge_spec {B k : Nat} {F : List Res} {caps : Array Value} {key : Nat → Nat} {good : Nat → Prop} : ∀ N, SymOK B k F caps key good N
 | 0 => fun g n c a m b X U V Y h0 _ _ _ _ _ h1 h2 h3 => by omega
 | N + 1 => fun g n c a m b X U V Y h0 h1 h2 h3 h4 h5 h6 h7 h8 h9 h10 h11 h12 => symMerge_step (symMerge_spec N) h1 h2 h3 h4 h5 h6 h7 h8 h9 h10 h11 h12
end Go.Bn
end
