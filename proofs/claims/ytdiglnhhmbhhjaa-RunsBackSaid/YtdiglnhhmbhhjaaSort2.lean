/- The contract of the library's symMerge. -/
import Derived.Test.YtdiglnhhmbhhjaaSort
import Derived.Test.YtdiglnhhmbhhjaaAlt
set_option linter.unusedVariables false
set_option linter.unusedSimpArgs false
set_option maxHeartbeats 4000000
set_option maxRecDepth 20000
namespace Go.Bn
open Go Proofs

def SymOK (B k : Nat) (F : List Res) (caps : Array Value) (key : Nat → Nat) (good : Nat → Prop) (N : Nat) : Prop :=
  ∀ (g n c a m b : Nat) (X U V Y : List Nat) (h0 : Heap), St B h0 h0 (rowN g n c (X ++ (U ++ (V ++ Y))) :: F) → CmpOK B h0 F k caps key good → X.length = a → X.length + U.length = m → m + V.length = b → 1 ≤ U.length → 1 ≤ V.length →
    U.length + V.length ≤ N → PreM key U V → (∀ x ∈ U, good x) → (∀ x ∈ V, good x) → n ≤ 1099511627776 →
    Ret Try.prog 140 [.slice (some ⟨g, 0, none⟩) n c, nV a, nV m, nV b, .func (.func k) #[] caps] h0 fun _ h' => ∃ W, Mrg key U V W ∧ St B h0 h' (rowN g n c (X ++ (W ++ Y)) :: F)

theorem symMerge_step {B k N : Nat} {F : List Res} {caps : Array Value} {key : Nat → Nat} {good : Nat → Prop} (ih : SymOK B k F caps key good N)
    {g n c a m b : Nat} {X U V Y : List Nat} {h0 : Heap} (st0 : St B h0 h0 (rowN g n c (X ++ (U ++ (V ++ Y))) :: F)) (hcmp : CmpOK B h0 F k caps key good) (ha : X.length = a) (hm : X.length + U.length = m) (hb : m + V.length = b) (hu : 1 ≤ U.length) (hv : 1 ≤ V.length)
    (hN : U.length + V.length ≤ N + 1) (hpre : PreM key U V) (hgU : ∀ x ∈ U, good x) (hgV : ∀ x ∈ V, good x) (hn : n ≤ 1099511627776) :
    Ret Try.prog 140 [.slice (some ⟨g, 0, none⟩) n c, nV a, nV m, nV b, .func (.func k) #[] caps] h0 fun _ h' => ∃ W, Mrg key U V W ∧ St B h0 h' (rowN g n c (X ++ (W ++ Y)) :: F) := by
  have hln := st0.natLen
  simp only [List.length_append] at hln
  refine ret_of_X Try.func140 rfl rfl fun w0 hw0 => ?_
  simp only [argE, Nat.zero_add, Nat.reduceAdd]
  refine X_seq ?_
  refine X_seq ?_
  refine X_reg ?_
  refine XR_a (op_move rfl) rfl rfl ?_
  refine XR_a (op_move rfl) rfl rfl ?_
  first | refine XR_a (op_subN rfl rfl (by omega) (by simp only [inK]; omega)) rfl rfl ?_ | refine XR_a (op_subI rfl rfl (by simp only [inK]; omega)) rfl rfl ?_ | refine XR_a (op_sub rfl rfl) rfl rfl ?_
  refine XR_a (op_eql rfl rfl) rfl rfl ?_
  refine XR_nil ?_
  refine X_if rfl (fun h => ?_) (fun h => ?_)
  · obtain ⟨u, rfl⟩ : ∃ u, U = [u] := List.length_eq_one_iff.1 (by omega)
    have hul : [u].length = 1 := rfl
    have hgu := hgU u (by simp)
    refine X_seq ?_
    refine X_reg ?_
    refine XR_a (op_move rfl) rfl rfl ?_
    refine XR_a (op_assign rfl) rfl rfl ?_
    refine XR_nil ?_
    refine X_seq ?_
    refine X_reg ?_
    refine XR_a (op_move rfl) rfl rfl ?_
    refine XR_a (op_assign rfl) rfl rfl ?_
    refine XR_nil ?_
    refine X_seq ?_
    refine X_block ?_
    refine X_loop (fun s => s.2 - s.1) (fun s => [(0, .slice (some ⟨g, 0, none⟩) n c), (1, nV a), (2, nV m), (3, nV b), (4, .func (.func k) #[] caps), (10, nV s.1), (11, nV s.2)])
      (fun (s : Nat × Nat) hp => hp = h0 ∧ m ≤ s.1 ∧ s.1 ≤ s.2 ∧ s.2 ≤ b ∧ (s.1 = m ∨ key (V.getD (s.1 - m - 1) 0) < key u) ∧ (s.2 = b ∨ key u ≤ key (V.getD (s.2 - m) 0)))
      (m, b) (.cons rfl (.cons rfl (.cons rfl (.cons rfl (.cons rfl (.cons rfl (.cons rfl (.nil _)))))))) ⟨rfl, Nat.le_refl _, by simp only; omega, Nat.le_refl _, .inl rfl, .inl rfl⟩ ?_
    rintro ⟨i, j⟩ hp ⟨rfl, hi1, hi2, hi3, hi4, hi5⟩
    simp only at hi1 hi2 hi3 hi4 hi5 ⊢
    refine X_seq ?_
    refine X_seq ?_
    refine X_reg ?_
    refine XR_a (op_move rfl) rfl rfl ?_
    refine XR_a (op_move rfl) rfl rfl ?_
    refine XR_a (op_lss rfl rfl) rfl rfl ?_
    refine XR_nil ?_
    refine X_if rfl (fun h => ?_) (fun h => ?_)
    · refine X_skip ?_
      refine X_block ?_
      refine X_seq ?_
      refine X_reg ?_
      refine XR_a (op_move rfl) rfl rfl ?_
      refine XR_a (op_move rfl) rfl rfl ?_
      first | refine XR_a (op_addN rfl rfl (by simp only [inK]; omega)) rfl rfl ?_ | refine XR_a (op_addI rfl rfl (by simp only [inK]; omega)) rfl rfl ?_ | refine XR_a (op_add rfl rfl) rfl rfl ?_
      first | refine XR_a (op_convI rfl rfl (by simp only [inK]; omega)) rfl rfl ?_ | refine XR_a (op_convU rfl rfl rfl) rfl rfl ?_ | refine XR_a (op_conv rfl rfl) rfl rfl ?_
      first | refine XR_a (op_shrC 1 rfl rfl (by decide)) rfl rfl ?_ | refine XR_a (op_shrN 1 rfl rfl (by decide)) rfl rfl ?_
      first | refine XR_a (op_convI rfl rfl (by simp only [inK]; omega)) rfl rfl ?_ | refine XR_a (op_conv rfl rfl) rfl rfl ?_
      refine XR_as (nV ((i + j) / 2)) rfl ?_
      obtain ⟨q, hq⟩ : ∃ q, (i + j) / 2 = q := ⟨_, rfl⟩
      rw [hq]
      have hgq : (X ++ ([u] ++ (V ++ Y)))[q]? = some (V.getD (q - m) 0) := by
        have := get_part2 (X := X) (U := [u]) (V := V) (R := Y) (a := m) (i := q - m) hm (by omega)
        rwa [show m + (q - m) = q by omega] at this
      have hga : (X ++ ([u] ++ (V ++ Y)))[a]? = some u := get_mid _ _ _ ha.symm
      refine XR_a (op_assign rfl) rfl rfl ?_
      refine XR_nil ?_
      refine X_seq ?_
      refine X_draw byKind (by kernel_rfl) (by kernel_rfl) ?_
      refine XR_a (op_move rfl) rfl rfl ?_
      refine XR_a (op_move rfl) rfl rfl ?_
      refine XR_a (op_move rfl) rfl rfl ?_
      first | refine XR_a (op_index1 rfl rfl rfl (by omega)) rfl rfl ?_ | refine XR_a (op_index rfl rfl rfl (by omega)) rfl rfl ?_
      refine XR_a (op_ld (st0.natAt hgq) rfl rfl rfl) rfl rfl ?_
      refine XR_a (op_move rfl) rfl rfl ?_
      refine XR_a (op_move rfl) rfl rfl ?_
      first | refine XR_a (op_index1 rfl rfl rfl (by omega)) rfl rfl ?_ | refine XR_a (op_index rfl rfl rfl (by omega)) rfl rfl ?_
      refine XR_a (op_ld (st0.natAt hga) rfl rfl rfl) rfl rfl ?_
      refine XR_wa (opl_callV rfl (hcmp.2 _ _ st0 (V.getD (q - m) 0) u (hgV _ (getD_mem (by omega))) hgu) rfl (hcmp.1)) rfl rfl rfl ?_
      rintro _ _ ⟨rfl, rfl⟩
      refine XR_a (op_lss rfl rfl) rfl rfl ?_
      refine XR_nil ?_
      refine X_if rfl (fun h => ?_) (fun h => ?_)
      · refine X_reg ?_
        refine XR_a (op_move rfl) rfl rfl ?_
        first | refine XR_a (op_addN (n := 1) rfl rfl (by simp only [inK]; omega)) rfl rfl ?_ | refine XR_a (op_addI rfl rfl (by simp only [inK]; omega)) rfl rfl ?_ | refine XR_a (op_add rfl rfl) rfl rfl ?_
        refine XR_a (op_assign rfl) rfl rfl ?_
        refine XR_nil ?_
        refine X_blk ?_
        rw [cmpI_neg] at h
        exact X_again (q + 1, j) (.cons rfl (.cons rfl (.cons rfl (.cons rfl (.cons rfl (.cons rfl (.cons rfl (.nil _)))))))) ⟨rfl, by simp only; omega, by simp only; omega, hi3, .inr (by rw [show q + 1 - m - 1 = q - m by omega]; exact h), hi5⟩ (by simp only; omega)
      · refine X_reg ?_
        refine XR_a (op_move rfl) rfl rfl ?_
        refine XR_a (op_assign rfl) rfl rfl ?_
        refine XR_nil ?_
        refine X_blk ?_
        rw [cmpI_neg] at h
        exact X_again (i, q) (.cons rfl (.cons rfl (.cons rfl (.cons rfl (.cons rfl (.cons rfl (.cons rfl (.nil _)))))))) ⟨rfl, hi1, by simp only; omega, by simp only; omega, hi4, .inr (by simp only; omega)⟩ (by simp only; omega)
    · refine X_exit rfl ?_
      refine X_seq ?_
      refine X_seq ?_
      refine X_reg ?_
      refine XR_a (op_move rfl) rfl rfl ?_
      refine XR_a (op_assign rfl) rfl rfl ?_
      refine XR_nil ?_
      refine X_block ?_
      obtain rfl : i = j := by omega
      have hmg : Mrg key [u] V (V.take (i - m) ++ u :: V.drop (i - m)) := mrg_left hpre (by omega) (hi4.imp (fun h => by omega) id) (hi5.imp (fun h => by omega) id)
      refine X_loop (fun d => i - m - d) (fun d => [(0, .slice (some ⟨g, 0, none⟩) n c), (10, nV i), (13, nV (a + d))])
        (fun (d : Nat) hp' => d ≤ i - m ∧ St B hp hp' (rowN g n c (X ++ (V.take d ++ u :: (V.drop d ++ Y))) :: F))
        0 (.cons rfl (.cons rfl (.cons rfl (.nil _)))) ⟨Nat.zero_le _, by simpa using st0⟩ ?_
      rintro d hp2 ⟨hd, st⟩
      refine X_seq ?_
      refine X_seq ?_
      refine X_reg ?_
      refine XR_a (op_move rfl) rfl rfl ?_
      refine XR_a (op_move rfl) rfl rfl ?_
      first | refine XR_a (op_subN (n := 1) rfl rfl (by omega) (by simp only [inK]; omega)) rfl rfl ?_ | refine XR_a (op_subI rfl rfl (by simp only [inK]; omega)) rfl rfl ?_ | refine XR_a (op_sub rfl rfl) rfl rfl ?_
      refine XR_a (op_lss rfl rfl) rfl rfl ?_
      refine XR_nil ?_
      refine X_if rfl (fun h => ?_) (fun h => ?_)
      · have hdV : d < V.length := by omega
        have e1 : X ++ (V.take d ++ u :: (V.drop d ++ Y)) = (X ++ V.take d) ++ u :: ([] ++ V.getD d 0 :: (V.drop (d + 1) ++ Y)) := by rw [drop_cons hdV]; simp
        have e2 : X ++ (V.take (d + 1) ++ u :: (V.drop (d + 1) ++ Y)) = (X ++ V.take d) ++ V.getD d 0 :: ([] ++ u :: (V.drop (d + 1) ++ Y)) := by rw [take_snoc hdV]; simp
        have hia : a + d = (X ++ V.take d).length := by rw [List.length_append, List.length_take]; omega
        have hib : a + d + 1 = (X ++ V.take d).length + 1 + ([] : List Nat).length := by rw [List.length_nil]; omega
        rw [e1] at st
        refine X_skip ?_
        refine X_seq ?_
        refine X_block ?_
        refine X_draw (butAt [(4, .pure)]) (by kernel_rfl) (by kernel_rfl) ?_
        refine XR_a (op_move rfl) rfl rfl ?_
        refine XR_a (op_move rfl) rfl rfl ?_
        refine XR_a (op_move rfl) rfl rfl ?_
        refine XR_a (op_move rfl) rfl rfl ?_
        first | refine XR_a (op_addN (n := 1) rfl rfl (by simp only [inK]; omega)) rfl rfl ?_ | refine XR_a (op_addI rfl rfl (by simp only [inK]; omega)) rfl rfl ?_ | refine XR_a (op_add rfl rfl) rfl rfl ?_
        refine XR_a (op_move rfl) rfl rfl ?_
        refine XR_a (op_move rfl) rfl rfl ?_
        first | refine XR_a (op_addN (n := 1) rfl rfl (by simp only [inK]; omega)) rfl rfl ?_ | refine XR_a (op_addI rfl rfl (by simp only [inK]; omega)) rfl rfl ?_ | refine XR_a (op_add rfl rfl) rfl rfl ?_
        first | refine XR_a (op_index1 rfl rfl rfl (by omega)) rfl rfl ?_ | refine XR_a (op_index rfl rfl rfl (by omega)) rfl rfl ?_
        refine XR_a (op_ld (st.natAt (get_mid2 _ _ _ _ _ hib)) rfl rfl rfl) rfl rfl ?_
        refine XR_a (op_move rfl) rfl rfl ?_
        refine XR_a (op_move rfl) rfl rfl ?_
        first | refine XR_a (op_index1 rfl rfl rfl (by omega)) rfl rfl ?_ | refine XR_a (op_index rfl rfl rfl (by omega)) rfl rfl ?_
        refine XR_a (op_ld (st.natAt (get_mid _ _ _ hia)) rfl rfl rfl) rfl rfl ?_
        first | refine XR_a (op_index1 rfl rfl rfl (by omega)) rfl rfl ?_ | refine XR_a (op_index rfl rfl rfl (by omega)) rfl rfl ?_
        refine XR_wn (opl_store_row (i := a + d) st 0 rfl rfl rfl (by simp only [List.length_map, List.length_append, List.length_cons, List.length_take, List.length_drop, List.length_nil]; omega) rfl rfl) rfl rfl fun _ hp st => ?_
        simp only [List.set_cons_zero] at st
        first | refine XR_a (op_index1 rfl rfl rfl (by omega)) rfl rfl ?_ | refine XR_a (op_index rfl rfl rfl (by omega)) rfl rfl ?_
        refine XR_wn (opl_store_row (i := a + d + 1) st 0 rfl rfl rfl (by simp only [List.length_set, List.length_map, List.length_append, List.length_cons, List.length_take, List.length_drop, List.length_nil]; omega) rfl rfl) rfl rfl fun _ hp st => ?_
        simp only [List.set_cons_zero] at st
        rw [swap_map hia hib, ← e2] at st
        refine XR_nil ?_
        refine X_blk ?_
        refine X_reg ?_
        refine XR_a (op_move rfl) rfl rfl ?_
        first | refine XR_a (op_addN (n := 1) rfl rfl (by simp only [inK]; omega)) rfl rfl ?_ | refine XR_a (op_addI rfl rfl (by simp only [inK]; omega)) rfl rfl ?_ | refine XR_a (op_add rfl rfl) rfl rfl ?_
        refine XR_a (op_assign rfl) rfl rfl ?_
        refine XR_nil ?_
        exact X_again (d + 1) (.cons rfl (.cons rfl (.cons rfl (.nil _)))) ⟨by omega, st⟩ (by omega)
      · refine X_exit rfl ?_
        refine X_ret .nil ?_
        obtain rfl : d = i - m := by omega
        exact ⟨_, hmg, by simpa using st⟩
  · refine X_skip ?_
    refine X_seq ?_
    refine X_seq ?_
    refine X_reg ?_
    refine XR_a (op_move rfl) rfl rfl ?_
    refine XR_a (op_move rfl) rfl rfl ?_
    first | refine XR_a (op_subN rfl rfl (by omega) (by simp only [inK]; omega)) rfl rfl ?_ | refine XR_a (op_subI rfl rfl (by simp only [inK]; omega)) rfl rfl ?_ | refine XR_a (op_sub rfl rfl) rfl rfl ?_
    refine XR_a (op_eql rfl rfl) rfl rfl ?_
    refine XR_nil ?_
    refine X_if rfl (fun h => ?_) (fun h => ?_)
    · obtain ⟨v, rfl⟩ : ∃ v, V = [v] := List.length_eq_one_iff.1 (by omega)
      have hvl : [v].length = 1 := rfl
      have hgv := hgV v (by simp)
      refine X_seq ?_
      refine X_reg ?_
      refine XR_a (op_move rfl) rfl rfl ?_
      refine XR_a (op_assign rfl) rfl rfl ?_
      refine XR_nil ?_
      refine X_seq ?_
      refine X_reg ?_
      refine XR_a (op_move rfl) rfl rfl ?_
      refine XR_a (op_assign rfl) rfl rfl ?_
      refine XR_nil ?_
      refine X_seq ?_
      refine X_block ?_
      refine X_loop (fun s => s.2 - s.1) (fun s => [(0, .slice (some ⟨g, 0, none⟩) n c), (1, nV a), (2, nV m), (3, nV b), (4, .func (.func k) #[] caps), (14, nV s.1), (15, nV s.2)])
        (fun (s : Nat × Nat) hp => hp = h0 ∧ a ≤ s.1 ∧ s.1 ≤ s.2 ∧ s.2 ≤ m ∧ (s.1 = a ∨ key (U.getD (s.1 - a - 1) 0) ≤ key v) ∧ (s.2 = m ∨ key v < key (U.getD (s.2 - a) 0)))
        (a, m) (.cons rfl (.cons rfl (.cons rfl (.cons rfl (.cons rfl (.cons rfl (.cons rfl (.nil _)))))))) ⟨rfl, Nat.le_refl _, by simp only; omega, Nat.le_refl _, .inl rfl, .inl rfl⟩ ?_
      rintro ⟨i, j⟩ hp ⟨rfl, hi1, hi2, hi3, hi4, hi5⟩
      simp only at hi1 hi2 hi3 hi4 hi5 ⊢
      refine X_seq ?_
      refine X_seq ?_
      refine X_reg ?_
      refine XR_a (op_move rfl) rfl rfl ?_
      refine XR_a (op_move rfl) rfl rfl ?_
      refine XR_a (op_lss rfl rfl) rfl rfl ?_
      refine XR_nil ?_
      refine X_if rfl (fun h => ?_) (fun h => ?_)
      · refine X_skip ?_
        refine X_block ?_
        refine X_seq ?_
        refine X_reg ?_
        refine XR_a (op_move rfl) rfl rfl ?_
        refine XR_a (op_move rfl) rfl rfl ?_
        first | refine XR_a (op_addN rfl rfl (by simp only [inK]; omega)) rfl rfl ?_ | refine XR_a (op_addI rfl rfl (by simp only [inK]; omega)) rfl rfl ?_ | refine XR_a (op_add rfl rfl) rfl rfl ?_
        first | refine XR_a (op_convI rfl rfl (by simp only [inK]; omega)) rfl rfl ?_ | refine XR_a (op_convU rfl rfl rfl) rfl rfl ?_ | refine XR_a (op_conv rfl rfl) rfl rfl ?_
        first | refine XR_a (op_shrC 1 rfl rfl (by decide)) rfl rfl ?_ | refine XR_a (op_shrN 1 rfl rfl (by decide)) rfl rfl ?_
        first | refine XR_a (op_convI rfl rfl (by simp only [inK]; omega)) rfl rfl ?_ | refine XR_a (op_conv rfl rfl) rfl rfl ?_
        refine XR_as (nV ((i + j) / 2)) rfl ?_
        obtain ⟨q, hq⟩ : ∃ q, (i + j) / 2 = q := ⟨_, rfl⟩
        rw [hq]
        have hgq : (X ++ (U ++ ([v] ++ Y)))[q]? = some (U.getD (q - a) 0) := by
          have := get_part (X := X) (U := U) (R := [v] ++ Y) (a := a) (i := q - a) ha (by omega)
          rwa [show a + (q - a) = q by omega] at this
        have hga : (X ++ (U ++ ([v] ++ Y)))[m]? = some v := by
          have := get_part2 (X := X) (U := U) (V := [v]) (R := Y) (a := m) (i := 0) hm (by omega)
          exact this
        refine XR_a (op_assign rfl) rfl rfl ?_
        refine XR_nil ?_
        refine X_seq ?_
        refine X_draw byKind (by kernel_rfl) (by kernel_rfl) ?_
        refine XR_a (op_move rfl) rfl rfl ?_
        refine XR_a (op_move rfl) rfl rfl ?_
        refine XR_a (op_move rfl) rfl rfl ?_
        first | refine XR_a (op_index1 rfl rfl rfl (by omega)) rfl rfl ?_ | refine XR_a (op_index rfl rfl rfl (by omega)) rfl rfl ?_
        refine XR_a (op_ld (st0.natAt hga) rfl rfl rfl) rfl rfl ?_
        refine XR_a (op_move rfl) rfl rfl ?_
        refine XR_a (op_move rfl) rfl rfl ?_
        first | refine XR_a (op_index1 rfl rfl rfl (by omega)) rfl rfl ?_ | refine XR_a (op_index rfl rfl rfl (by omega)) rfl rfl ?_
        refine XR_a (op_ld (st0.natAt hgq) rfl rfl rfl) rfl rfl ?_
        refine XR_wa (opl_callV rfl (hcmp.2 _ _ st0 v (U.getD (q - a) 0) hgv (hgU _ (getD_mem (by omega)))) rfl (hcmp.1)) rfl rfl rfl ?_
        rintro _ _ ⟨rfl, rfl⟩
        refine XR_a (op_lss rfl rfl) rfl rfl ?_
        first | refine XR_a (op_notd rfl) rfl rfl ?_ | refine XR_a (op_not rfl) rfl rfl ?_
        refine XR_nil ?_
        refine X_if rfl (fun h => ?_) (fun h => ?_)
        · refine X_reg ?_
          refine XR_a (op_move rfl) rfl rfl ?_
          first | refine XR_a (op_addN (n := 1) rfl rfl (by simp only [inK]; omega)) rfl rfl ?_ | refine XR_a (op_addI rfl rfl (by simp only [inK]; omega)) rfl rfl ?_ | refine XR_a (op_add rfl rfl) rfl rfl ?_
          refine XR_a (op_assign rfl) rfl rfl ?_
          refine XR_nil ?_
          refine X_blk ?_
          rw [cmpI_neg] at h
          exact X_again (q + 1, j) (.cons rfl (.cons rfl (.cons rfl (.cons rfl (.cons rfl (.cons rfl (.cons rfl (.nil _)))))))) ⟨rfl, by simp only; omega, by simp only; omega, hi3, .inr (by rw [show q + 1 - a - 1 = q - a by omega]; omega), hi5⟩ (by simp only; omega)
        · refine X_reg ?_
          refine XR_a (op_move rfl) rfl rfl ?_
          refine XR_a (op_assign rfl) rfl rfl ?_
          refine XR_nil ?_
          refine X_blk ?_
          rw [cmpI_neg] at h
          exact X_again (i, q) (.cons rfl (.cons rfl (.cons rfl (.cons rfl (.cons rfl (.cons rfl (.cons rfl (.nil _)))))))) ⟨rfl, hi1, by simp only; omega, by simp only; omega, hi4, .inr (by simp only; omega)⟩ (by simp only; omega)
      · refine X_exit rfl ?_
        refine X_seq ?_
        refine X_seq ?_
        refine X_reg ?_
        refine XR_a (op_move rfl) rfl rfl ?_
        refine XR_a (op_assign rfl) rfl rfl ?_
        refine XR_nil ?_
        refine X_block ?_
        obtain rfl : i = j := by omega
        have hmg : Mrg key U [v] (U.take (i - a) ++ v :: U.drop (i - a)) := mrg_right hpre (by omega) (hi4.imp (fun h => by omega) id) (hi5.imp (fun h => by omega) id)
        refine X_loop (fun d => d) (fun d => [(0, .slice (some ⟨g, 0, none⟩) n c), (14, nV i), (17, nV (a + d))])
          (fun (d : Nat) hp' => i - a ≤ d ∧ d ≤ U.length ∧ St B hp hp' (rowN g n c (X ++ (U.take d ++ v :: (U.drop d ++ Y))) :: F))
          U.length (.cons rfl (.cons rfl (.cons (by rw [show a + U.length = m by omega]; rfl) (.nil _)))) ⟨by omega, Nat.le_refl _, by simpa using st0⟩ ?_
        rintro d hp2 ⟨hd, hdU, st⟩
        refine X_seq ?_
        refine X_seq ?_
        refine X_reg ?_
        refine XR_a (op_move rfl) rfl rfl ?_
        refine XR_a (op_move rfl) rfl rfl ?_
        refine XR_a (op_gtr rfl rfl) rfl rfl ?_
        refine XR_nil ?_
        refine X_if rfl (fun h => ?_) (fun h => ?_)
        · have hd1 : d - 1 < U.length := by omega
          have e1 : X ++ (U.take d ++ v :: (U.drop d ++ Y)) = (X ++ U.take (d - 1)) ++ U.getD (d - 1) 0 :: ([] ++ v :: (U.drop d ++ Y)) := by
            have := take_snoc hd1
            rw [show d - 1 + 1 = d by omega] at this
            rw [this]; simp
          have e2 : X ++ (U.take (d - 1) ++ v :: (U.drop (d - 1) ++ Y)) = (X ++ U.take (d - 1)) ++ v :: ([] ++ U.getD (d - 1) 0 :: (U.drop d ++ Y)) := by
            have := drop_cons hd1
            rw [show d - 1 + 1 = d by omega] at this
            rw [this]; simp
          have hia : a + d - 1 = (X ++ U.take (d - 1)).length := by rw [List.length_append, List.length_take]; omega
          have hib : a + d = (X ++ U.take (d - 1)).length + 1 + ([] : List Nat).length := by rw [List.length_append, List.length_take, List.length_nil]; omega
          rw [e1] at st
          refine X_skip ?_
          refine X_seq ?_
          refine X_block ?_
          refine X_draw (butAt [(4, .pure)]) (by kernel_rfl) (by kernel_rfl) ?_
          refine XR_a (op_move rfl) rfl rfl ?_
          refine XR_a (op_move rfl) rfl rfl ?_
          refine XR_a (op_move rfl) rfl rfl ?_
          refine XR_a (op_move rfl) rfl rfl ?_
          first | refine XR_a (op_subN (n := 1) rfl rfl (by omega) (by simp only [inK]; omega)) rfl rfl ?_ | refine XR_a (op_subI rfl rfl (by simp only [inK]; omega)) rfl rfl ?_ | refine XR_a (op_sub rfl rfl) rfl rfl ?_
          refine XR_a (op_move rfl) rfl rfl ?_
          refine XR_a (op_move rfl) rfl rfl ?_
          first | refine XR_a (op_subN (n := 1) rfl rfl (by omega) (by simp only [inK]; omega)) rfl rfl ?_ | refine XR_a (op_subI rfl rfl (by simp only [inK]; omega)) rfl rfl ?_ | refine XR_a (op_sub rfl rfl) rfl rfl ?_
          first | refine XR_a (op_index1 rfl rfl rfl (by omega)) rfl rfl ?_ | refine XR_a (op_index rfl rfl rfl (by omega)) rfl rfl ?_
          refine XR_a (op_ld (st.natAt (get_mid _ _ _ hia)) rfl rfl rfl) rfl rfl ?_
          refine XR_a (op_move rfl) rfl rfl ?_
          refine XR_a (op_move rfl) rfl rfl ?_
          first | refine XR_a (op_index1 rfl rfl rfl (by omega)) rfl rfl ?_ | refine XR_a (op_index rfl rfl rfl (by omega)) rfl rfl ?_
          refine XR_a (op_ld (st.natAt (get_mid2 _ _ _ _ _ hib)) rfl rfl rfl) rfl rfl ?_
          first | refine XR_a (op_index1 rfl rfl rfl (by omega)) rfl rfl ?_ | refine XR_a (op_index rfl rfl rfl (by omega)) rfl rfl ?_
          refine XR_wn (opl_store_row (i := a + d) st 0 rfl rfl rfl (by simp only [List.length_map, List.length_append, List.length_cons, List.length_take, List.length_drop, List.length_nil]; omega) rfl rfl) rfl rfl fun _ hp st => ?_
          simp only [List.set_cons_zero] at st
          first | refine XR_a (op_index1 rfl rfl rfl (by omega)) rfl rfl ?_ | refine XR_a (op_index rfl rfl rfl (by omega)) rfl rfl ?_
          refine XR_wn (opl_store_row (i := a + d - 1) st 0 rfl rfl rfl (by simp only [List.length_set, List.length_map, List.length_append, List.length_cons, List.length_take, List.length_drop, List.length_nil]; omega) rfl rfl) rfl rfl fun _ hp st => ?_
          simp only [List.set_cons_zero] at st
          rw [swap_map' hia hib, ← e2] at st
          refine XR_nil ?_
          refine X_blk ?_
          refine X_reg ?_
          refine XR_a (op_move rfl) rfl rfl ?_
          first | refine XR_a (op_subN (n := 1) rfl rfl (by omega) (by simp only [inK]; omega)) rfl rfl ?_ | refine XR_a (op_subI rfl rfl (by simp only [inK]; omega)) rfl rfl ?_ | refine XR_a (op_sub rfl rfl) rfl rfl ?_
          refine XR_a (op_assign rfl) rfl rfl ?_
          refine XR_nil ?_
          exact X_again (d - 1) (.cons rfl (.cons rfl (.cons (by rw [show a + d - 1 = a + (d - 1) by omega]; rfl) (.nil _)))) ⟨by omega, by omega, st⟩ (by omega)
        · refine X_exit rfl ?_
          refine X_ret .nil ?_
          obtain rfl : d = i - a := by omega
          exact ⟨_, hmg, by simpa using st⟩
    · refine X_skip ?_
      refine X_seq ?_
      refine X_reg ?_
      refine XR_a (op_move rfl) rfl rfl ?_
      refine XR_a (op_move rfl) rfl rfl ?_
      first | refine XR_a (op_addN rfl rfl (by simp only [inK]; omega)) rfl rfl ?_ | refine XR_a (op_addI rfl rfl (by simp only [inK]; omega)) rfl rfl ?_ | refine XR_a (op_add rfl rfl) rfl rfl ?_
      first | refine XR_a (op_convI rfl rfl (by simp only [inK]; omega)) rfl rfl ?_ | refine XR_a (op_convU rfl rfl rfl) rfl rfl ?_ | refine XR_a (op_conv rfl rfl) rfl rfl ?_
      first | refine XR_a (op_shrC 1 rfl rfl (by decide)) rfl rfl ?_ | refine XR_a (op_shrN 1 rfl rfl (by decide)) rfl rfl ?_
      first | refine XR_a (op_convI rfl rfl (by simp only [inK]; omega)) rfl rfl ?_ | refine XR_a (op_conv rfl rfl) rfl rfl ?_
      refine XR_as (nV ((a + b) / 2)) rfl ?_
      obtain ⟨mid, hmid⟩ : ∃ mid, (a + b) / 2 = mid := ⟨_, rfl⟩
      rw [hmid]
      refine XR_a (op_assign rfl) rfl rfl ?_
      refine XR_nil ?_
      refine X_seq ?_
      refine X_reg ?_
      refine XR_a (op_move rfl) rfl rfl ?_
      refine XR_a (op_move rfl) rfl rfl ?_
      first | refine XR_a (op_addN rfl rfl (by simp only [inK]; omega)) rfl rfl ?_ | refine XR_a (op_addI rfl rfl (by simp only [inK]; omega)) rfl rfl ?_ | refine XR_a (op_add rfl rfl) rfl rfl ?_
      refine XR_a (op_assign rfl) rfl rfl ?_
      refine XR_nil ?_
      refine X_seq ?_
      refine X_reg ?_
      refine XR_a (op_assign rfl) rfl rfl ?_
      refine XR_a (op_assign rfl) rfl rfl ?_
      refine XR_nil ?_
      refine X_seq ?_
      refine X_cut (fun s => [(0, .slice (some ⟨g, 0, none⟩) n c), (1, nV a), (2, nV m), (3, nV b), (4, .func (.func k) #[] caps), (18, nV mid), (19, nV (mid + m)), (20, nV s.1), (21, nV s.2)])
        (fun (s : Nat × Nat) hp => hp = h0 ∧ a ≤ s.1 ∧ s.1 ≤ s.2 ∧ s.2 ≤ m ∧ mid + m ≤ b + s.1 ∧ m + s.2 ≤ mid + m ∧ (s.1 = a ∨ mid + m = b + s.1) ∧ (s.2 = m ∨ mid + m = m + s.2)) ?_ ?_
      · refine X_seq ?_
        refine X_reg ?_
        refine XR_a (op_move rfl) rfl rfl ?_
        refine XR_a (op_move rfl) rfl rfl ?_
        refine XR_a (op_gtr rfl rfl) rfl rfl ?_
        refine XR_nil ?_
        refine X_if rfl (fun h => ?_) (fun h => ?_)
        · refine X_seq ?_
          refine X_reg ?_
          refine XR_a (op_move rfl) rfl rfl ?_
          refine XR_a (op_move rfl) rfl rfl ?_
          first | refine XR_a (op_subN rfl rfl (by omega) (by simp only [inK]; omega)) rfl rfl ?_ | refine XR_a (op_subI rfl rfl (by simp only [inK]; omega)) rfl rfl ?_ | refine XR_a (op_sub rfl rfl) rfl rfl ?_
          refine XR_a (op_assign rfl) rfl rfl ?_
          refine XR_nil ?_
          refine X_reg ?_
          refine XR_a (op_move rfl) rfl rfl ?_
          refine XR_a (op_assign rfl) rfl rfl ?_
          refine XR_nil ?_
          exact X_meet (mid + m - b, mid) (.cons rfl (.cons rfl (.cons rfl (.cons rfl (.cons rfl (.cons rfl (.cons rfl (.cons rfl (.cons rfl (.nil _)))))))))) ⟨rfl, by simp only; omega, by simp only; omega, by simp only; omega, by simp only; omega, by simp only; omega, by simp only; omega, by simp only; omega⟩
        · refine X_seq ?_
          refine X_reg ?_
          refine XR_a (op_move rfl) rfl rfl ?_
          refine XR_a (op_assign rfl) rfl rfl ?_
          refine XR_nil ?_
          refine X_reg ?_
          refine XR_a (op_move rfl) rfl rfl ?_
          refine XR_a (op_assign rfl) rfl rfl ?_
          refine XR_nil ?_
          exact X_meet (a, m) (.cons rfl (.cons rfl (.cons rfl (.cons rfl (.cons rfl (.cons rfl (.cons rfl (.cons rfl (.cons rfl (.nil _)))))))))) ⟨rfl, Nat.le_refl _, by simp only; omega, Nat.le_refl _, by simp only; omega, by simp only; omega, .inl rfl, .inl rfl⟩
      rintro ⟨s0, r0⟩ hp ⟨rfl, hA, hB, hC, hD, hE, hF, hG⟩
      simp only at hA hB hC hD hE hF hG ⊢
      refine X_seq ?_
      refine X_reg ?_
      refine XR_a (op_move rfl) rfl rfl ?_
      first | refine XR_a (op_subN (n := 1) rfl rfl (by omega) (by simp only [inK]; omega)) rfl rfl ?_ | refine XR_a (op_subI rfl rfl (by simp only [inK]; omega)) rfl rfl ?_ | refine XR_a (op_sub rfl rfl) rfl rfl ?_
      refine XR_a (op_assign rfl) rfl rfl ?_
      refine XR_nil ?_
      refine X_seq ?_
      refine X_block ?_
      refine X_loop (fun s => s.2 - s.1) (fun s => [(0, .slice (some ⟨g, 0, none⟩) n c), (1, nV a), (2, nV m), (3, nV b), (4, .func (.func k) #[] caps), (18, nV mid), (19, nV (mid + m)), (20, nV s.1), (21, nV s.2), (22, nV (mid + m - 1))])
        (fun (s : Nat × Nat) hp' => hp' = hp ∧ s0 ≤ s.1 ∧ s.1 ≤ s.2 ∧ s.2 ≤ r0 ∧ (s.1 = s0 ∨ key (U.getD (s.1 - a - 1) 0) ≤ key (V.getD (mid - s.1) 0)) ∧ (s.2 = r0 ∨ key (V.getD (mid - s.2 - 1) 0) < key (U.getD (s.2 - a) 0)))
        (s0, r0) (.cons rfl (.cons rfl (.cons rfl (.cons rfl (.cons rfl (.cons rfl (.cons rfl (.cons rfl (.cons rfl (.cons rfl (.nil _))))))))))) ⟨rfl, Nat.le_refl _, hB, Nat.le_refl _, .inl rfl, .inl rfl⟩ ?_
      rintro ⟨s, r⟩ hp2 ⟨rfl, hs1, hs2, hs3, hs4, hs5⟩
      simp only at hs1 hs2 hs3 hs4 hs5 ⊢
      refine X_seq ?_
      refine X_seq ?_
      refine X_reg ?_
      refine XR_a (op_move rfl) rfl rfl ?_
      refine XR_a (op_move rfl) rfl rfl ?_
      refine XR_a (op_lss rfl rfl) rfl rfl ?_
      refine XR_nil ?_
      refine X_if rfl (fun h => ?_) (fun h => ?_)
      · refine X_skip ?_
        refine X_block ?_
        refine X_seq ?_
        refine X_reg ?_
        refine XR_a (op_move rfl) rfl rfl ?_
        refine XR_a (op_move rfl) rfl rfl ?_
        first | refine XR_a (op_addN rfl rfl (by simp only [inK]; omega)) rfl rfl ?_ | refine XR_a (op_addI rfl rfl (by simp only [inK]; omega)) rfl rfl ?_ | refine XR_a (op_add rfl rfl) rfl rfl ?_
        first | refine XR_a (op_convI rfl rfl (by simp only [inK]; omega)) rfl rfl ?_ | refine XR_a (op_convU rfl rfl rfl) rfl rfl ?_ | refine XR_a (op_conv rfl rfl) rfl rfl ?_
        first | refine XR_a (op_shrC 1 rfl rfl (by decide)) rfl rfl ?_ | refine XR_a (op_shrN 1 rfl rfl (by decide)) rfl rfl ?_
        first | refine XR_a (op_convI rfl rfl (by simp only [inK]; omega)) rfl rfl ?_ | refine XR_a (op_conv rfl rfl) rfl rfl ?_
        refine XR_as (nV ((s + r) / 2)) rfl ?_
        obtain ⟨q, hq⟩ : ∃ q, (s + r) / 2 = q := ⟨_, rfl⟩
        rw [hq]
        have hgq : (X ++ (U ++ (V ++ Y)))[q]? = some (U.getD (q - a) 0) := by
          have := get_part (X := X) (U := U) (R := V ++ Y) (a := a) (i := q - a) ha (by omega)
          rwa [show a + (q - a) = q by omega] at this
        have hgp : (X ++ (U ++ (V ++ Y)))[mid + m - 1 - q]? = some (V.getD (mid - q - 1) 0) := by
          have := get_part2 (X := X) (U := U) (V := V) (R := Y) (a := m) (i := mid - q - 1) hm (by omega)
          rwa [show m + (mid - q - 1) = mid + m - 1 - q by omega] at this
        refine XR_a (op_assign rfl) rfl rfl ?_
        refine XR_nil ?_
        refine X_seq ?_
        refine X_draw byKind (by kernel_rfl) (by kernel_rfl) ?_
        refine XR_a (op_move rfl) rfl rfl ?_
        refine XR_a (op_move rfl) rfl rfl ?_
        refine XR_a (op_move rfl) rfl rfl ?_
        refine XR_a (op_move rfl) rfl rfl ?_
        first | refine XR_a (op_subN rfl rfl (by omega) (by simp only [inK]; omega)) rfl rfl ?_ | refine XR_a (op_subI rfl rfl (by simp only [inK]; omega)) rfl rfl ?_ | refine XR_a (op_sub rfl rfl) rfl rfl ?_
        first | refine XR_a (op_index1 rfl rfl rfl (by omega)) rfl rfl ?_ | refine XR_a (op_index rfl rfl rfl (by omega)) rfl rfl ?_
        refine XR_a (op_ld (st0.natAt hgp) rfl rfl rfl) rfl rfl ?_
        refine XR_a (op_move rfl) rfl rfl ?_
        refine XR_a (op_move rfl) rfl rfl ?_
        first | refine XR_a (op_index1 rfl rfl rfl (by omega)) rfl rfl ?_ | refine XR_a (op_index rfl rfl rfl (by omega)) rfl rfl ?_
        refine XR_a (op_ld (st0.natAt hgq) rfl rfl rfl) rfl rfl ?_
        refine XR_wa (opl_callV rfl (hcmp.2 _ _ st0 (V.getD (mid - q - 1) 0) (U.getD (q - a) 0) (hgV _ (getD_mem (by omega))) (hgU _ (getD_mem (by omega)))) rfl (hcmp.1)) rfl rfl rfl ?_
        rintro _ _ ⟨rfl, rfl⟩
        refine XR_a (op_lss rfl rfl) rfl rfl ?_
        first | refine XR_a (op_notd rfl) rfl rfl ?_ | refine XR_a (op_not rfl) rfl rfl ?_
        refine XR_nil ?_
        refine X_if rfl (fun h => ?_) (fun h => ?_)
        · refine X_reg ?_
          refine XR_a (op_move rfl) rfl rfl ?_
          first | refine XR_a (op_addN (n := 1) rfl rfl (by simp only [inK]; omega)) rfl rfl ?_ | refine XR_a (op_addI rfl rfl (by simp only [inK]; omega)) rfl rfl ?_ | refine XR_a (op_add rfl rfl) rfl rfl ?_
          refine XR_a (op_assign rfl) rfl rfl ?_
          refine XR_nil ?_
          refine X_blk ?_
          rw [cmpI_neg] at h
          exact X_again (q + 1, r) (.cons rfl (.cons rfl (.cons rfl (.cons rfl (.cons rfl (.cons rfl (.cons rfl (.cons rfl (.cons rfl (.cons rfl (.nil _))))))))))) ⟨rfl, by simp only; omega, by simp only; omega, hs3, .inr (by rw [show q + 1 - a - 1 = q - a by omega, show mid - (q + 1) = mid - q - 1 by omega]; omega), hs5⟩ (by simp only; omega)
        · refine X_reg ?_
          refine XR_a (op_move rfl) rfl rfl ?_
          refine XR_a (op_assign rfl) rfl rfl ?_
          refine XR_nil ?_
          refine X_blk ?_
          rw [cmpI_neg] at h
          exact X_again (s, q) (.cons rfl (.cons rfl (.cons rfl (.cons rfl (.cons rfl (.cons rfl (.cons rfl (.cons rfl (.cons rfl (.cons rfl (.nil _))))))))))) ⟨rfl, hs1, by simp only; omega, by simp only; omega, hs4, .inr (by simp only; omega)⟩ (by simp only; omega)
      · refine X_exit rfl ?_
        refine X_seq ?_
        obtain rfl : s = r := by omega
        have hi : s - a ≤ U.length := by omega
        have hj : mid - s ≤ V.length := by omega
        have hc1 : s - a = 0 ∨ V.length ≤ mid - s ∨ key (U.getD (s - a - 1) 0) ≤ key (V.getD (mid - s) 0) := by
          rcases hs4 with h1 | h1
          · omega
          · exact .inr (.inr h1)
        have hc2 : U.length ≤ s - a ∨ mid - s = 0 ∨ key (V.getD (mid - s - 1) 0) < key (U.getD (s - a) 0) := by
          rcases hs5 with h1 | h1
          · omega
          · exact .inr (.inr h1)
        have hsplit := fun W1 W2 m1 m2 => mrg_split (W1 := W1) (W2 := W2) hpre hc1 hc2 hi hj m1 m2
        obtain ⟨hq1, hq2⟩ := hpre.part (s - a) (mid - s)
        have e0 : X ++ (U ++ (V ++ Y)) = X ++ (U.take (s - a) ++ (U.drop (s - a) ++ (V.take (mid - s) ++ (V.drop (mid - s) ++ Y)))) := by
          rw [← List.append_assoc (V.take _), List.take_append_drop, ← List.append_assoc (U.take _), List.take_append_drop]
        obtain ⟨U1, hU1⟩ : ∃ U1, U.take (s - a) = U1 := ⟨_, rfl⟩
        obtain ⟨U2, hU2⟩ : ∃ U2, U.drop (s - a) = U2 := ⟨_, rfl⟩
        obtain ⟨V1, hV1⟩ : ∃ V1, V.take (mid - s) = V1 := ⟨_, rfl⟩
        obtain ⟨V2, hV2⟩ : ∃ V2, V.drop (mid - s) = V2 := ⟨_, rfl⟩
        have hlU1 : U1.length = s - a := by rw [← hU1, List.length_take]; omega
        have hlU2 : U2.length = m - s := by rw [← hU2, List.length_drop]; omega
        have hlV1 : V1.length = mid - s := by rw [← hV1, List.length_take]; omega
        have hlV2 : V2.length = b + s - (mid + m) := by rw [← hV2, List.length_drop]; omega
        have hgU1 : ∀ x ∈ U1, good x := fun x hx => hgU x (List.mem_of_mem_take (by rw [hU1]; exact hx))
        have hgU2 : ∀ x ∈ U2, good x := fun x hx => hgU x (List.mem_of_mem_drop (by rw [hU2]; exact hx))
        have hgV1 : ∀ x ∈ V1, good x := fun x hx => hgV x (List.mem_of_mem_take (by rw [hV1]; exact hx))
        have hgV2 : ∀ x ∈ V2, good x := fun x hx => hgV x (List.mem_of_mem_drop (by rw [hV2]; exact hx))
        rw [hU1, hU2, hV1, hV2] at e0
        rw [hU1, hV1] at hq1
        rw [hU2, hV2] at hq2
        rw [hU1, hU2, hV1, hV2] at hsplit
        rw [e0] at st0
        refine X_reg ?_
        refine XR_a (op_move rfl) rfl rfl ?_
        refine XR_a (op_move rfl) rfl rfl ?_
        first | refine XR_a (op_subN rfl rfl (by omega) (by simp only [inK]; omega)) rfl rfl ?_ | refine XR_a (op_subI rfl rfl (by simp only [inK]; omega)) rfl rfl ?_ | refine XR_a (op_sub rfl rfl) rfl rfl ?_
        refine XR_a (op_assign rfl) rfl rfl ?_
        refine XR_nil ?_
        refine X_seq ?_
        refine X_cut (fun (_ : Unit) => [(0, .slice (some ⟨g, 0, none⟩) n c), (1, nV a), (2, nV m), (3, nV b), (4, .func (.func k) #[] caps), (18, nV mid), (20, nV s), (24, nV (mid + m - s))])
          (fun (_ : Unit) hp' => St B hp2 hp' (rowN g n c (X ++ (U1 ++ (V1 ++ (U2 ++ (V2 ++ Y))))) :: F)) ?_ ?_
        · refine X_seq ?_
          refine X_reg ?_
          refine XR_a (op_move rfl) rfl rfl ?_
          refine XR_a (op_move rfl) rfl rfl ?_
          refine XR_a (op_lss rfl rfl) rfl rfl ?_
          refine XR_a (op_move rfl) rfl rfl ?_
          refine XR_if 181 rfl (fun h => ?_) (fun h => ?_)
          · refine XR_a (op_move rfl) rfl rfl ?_
            refine XR_a (op_move rfl) rfl rfl ?_
            refine XR_a (op_lss rfl rfl) rfl rfl ?_
            refine XR_a (op_pick_t rfl rfl) rfl rfl ?_
            refine XR_nil ?_
            refine X_if rfl (fun h => ?_) (fun h => ?_)
            · refine X_reg ?_
              refine XR_a (op_move rfl) rfl rfl ?_
              refine XR_a (op_move rfl) rfl rfl ?_
              refine XR_a (op_move rfl) rfl rfl ?_
              refine XR_a (op_move rfl) rfl rfl ?_
              refine XR_a (op_move rfl) rfl rfl ?_
              refine XR_wa (opl_call (rotate_spec (X := X ++ U1) (U := U2) (V := V1) (Y := V2 ++ Y) (by rw [List.append_assoc]; exact st0) (by rw [List.length_append]; omega) (by rw [List.length_append]; omega) (by omega) (by omega) (by omega) hn) rfl (by kernel_rfl)) rfl rfl rfl ?_
              rintro _ hp3 st
              rw [List.append_assoc] at st
              refine XR_nil ?_
              exact X_meet () (.cons rfl (.cons rfl (.cons rfl (.cons rfl (.cons rfl (.cons rfl (.cons rfl (.cons rfl (.nil _))))))))) st
            · refine X_skip ?_
              refine X_meet () (.cons rfl (.cons rfl (.cons rfl (.cons rfl (.cons rfl (.cons rfl (.cons rfl (.cons rfl (.nil _))))))))) ?_
              obtain rfl : V1 = [] := List.eq_nil_of_length_eq_zero (by omega)
              exact st0
          · refine XR_no rfl rfl ?_
            refine XR_no rfl rfl ?_
            refine XR_no rfl rfl ?_
            refine XR_a (op_pick_f rfl rfl) rfl rfl ?_
            refine XR_nil ?_
            refine X_else rfl ?_
            refine X_skip ?_
            refine X_meet () (.cons rfl (.cons rfl (.cons rfl (.cons rfl (.cons rfl (.cons rfl (.cons rfl (.cons rfl (.nil _))))))))) ?_
            obtain rfl : U2 = [] := List.eq_nil_of_length_eq_zero (by omega)
            exact st0
        rintro ⟨⟩ hp3 st
        refine X_seq ?_
        refine X_cut (fun (_ : List Nat) => [(0, .slice (some ⟨g, 0, none⟩) n c), (1, nV a), (2, nV m), (3, nV b), (4, .func (.func k) #[] caps), (18, nV mid), (20, nV s), (24, nV (mid + m - s))])
          (fun W1 hp' => Mrg key U1 V1 W1 ∧ St B hp2 hp' (rowN g n c (X ++ (W1 ++ (U2 ++ (V2 ++ Y)))) :: F)) ?_ ?_
        · refine X_seq ?_
          refine X_reg ?_
          refine XR_a (op_move rfl) rfl rfl ?_
          refine XR_a (op_move rfl) rfl rfl ?_
          refine XR_a (op_lss rfl rfl) rfl rfl ?_
          refine XR_a (op_move rfl) rfl rfl ?_
          refine XR_if 195 rfl (fun h => ?_) (fun h => ?_)
          · refine XR_a (op_move rfl) rfl rfl ?_
            refine XR_a (op_move rfl) rfl rfl ?_
            refine XR_a (op_lss rfl rfl) rfl rfl ?_
            refine XR_a (op_pick_t rfl rfl) rfl rfl ?_
            refine XR_nil ?_
            refine X_if rfl (fun h => ?_) (fun h => ?_)
            · refine X_reg ?_
              refine XR_a (op_move rfl) rfl rfl ?_
              refine XR_a (op_move rfl) rfl rfl ?_
              refine XR_a (op_move rfl) rfl rfl ?_
              refine XR_a (op_move rfl) rfl rfl ?_
              refine XR_a (op_move rfl) rfl rfl ?_
              refine XR_wa (opl_call (ih g n c a s mid X U1 V1 (U2 ++ (V2 ++ Y)) _ st.here (hcmp.here st) ha (by omega) (by omega) (by omega) (by omega) (by omega) hq1 hgU1 hgV1 hn) rfl (by kernel_rfl)) rfl rfl rfl ?_
              rintro _ hp4 ⟨W1, hW1, st3⟩
              replace st := st.trans st3
              refine XR_nil ?_
              exact X_meet W1 (.cons rfl (.cons rfl (.cons rfl (.cons rfl (.cons rfl (.cons rfl (.cons rfl (.cons rfl (.nil _))))))))) ⟨hW1, st⟩
            · refine X_skip ?_
              refine X_meet U1 (.cons rfl (.cons rfl (.cons rfl (.cons rfl (.cons rfl (.cons rfl (.cons rfl (.cons rfl (.nil _))))))))) ?_
              obtain rfl : V1 = [] := List.eq_nil_of_length_eq_zero (by omega)
              exact ⟨mrg_nil_right hq1.1, st⟩
          · refine XR_no rfl rfl ?_
            refine XR_no rfl rfl ?_
            refine XR_no rfl rfl ?_
            refine XR_a (op_pick_f rfl rfl) rfl rfl ?_
            refine XR_nil ?_
            refine X_else rfl ?_
            refine X_skip ?_
            refine X_meet V1 (.cons rfl (.cons rfl (.cons rfl (.cons rfl (.cons rfl (.cons rfl (.cons rfl (.cons rfl (.nil _))))))))) ?_
            obtain rfl : U1 = [] := List.eq_nil_of_length_eq_zero (by omega)
            exact ⟨mrg_nil_left hq1.2.1, st⟩
        rintro W1 hp4 ⟨hW1, st⟩
        have hlW1 : W1.length = mid - a := by rw [hW1.1.length_eq, List.length_append]; omega
        refine X_seq ?_
        refine X_reg ?_
        refine XR_a (op_move rfl) rfl rfl ?_
        refine XR_a (op_move rfl) rfl rfl ?_
        refine XR_a (op_lss rfl rfl) rfl rfl ?_
        refine XR_a (op_move rfl) rfl rfl ?_
        refine XR_if 209 rfl (fun h => ?_) (fun h => ?_)
        · refine XR_a (op_move rfl) rfl rfl ?_
          refine XR_a (op_move rfl) rfl rfl ?_
          refine XR_a (op_lss rfl rfl) rfl rfl ?_
          refine XR_a (op_pick_t rfl rfl) rfl rfl ?_
          refine XR_nil ?_
          refine X_if rfl (fun h => ?_) (fun h => ?_)
          · refine X_reg ?_
            refine XR_a (op_move rfl) rfl rfl ?_
            refine XR_a (op_move rfl) rfl rfl ?_
            refine XR_a (op_move rfl) rfl rfl ?_
            refine XR_a (op_move rfl) rfl rfl ?_
            refine XR_a (op_move rfl) rfl rfl ?_
            refine XR_wa (opl_call (ih g n c mid (mid + m - s) b (X ++ W1) U2 V2 Y _ (by rw [List.append_assoc]; exact st.here) (hcmp.here st) (by rw [List.length_append]; omega) (by rw [List.length_append]; omega) (by omega) (by omega) (by omega) (by omega) hq2 hgU2 hgV2 hn) rfl (by kernel_rfl)) rfl rfl rfl ?_
            rintro _ hp5 ⟨W2, hW2, st4⟩
            rw [List.append_assoc] at st4
            replace st := st.trans st4
            refine XR_nil ?_
            refine X_end .nil ?_
            exact ⟨_, hsplit W1 W2 hW1 hW2, by simpa using st⟩
          · refine X_skip ?_
            refine X_end .nil ?_
            obtain rfl : V2 = [] := List.eq_nil_of_length_eq_zero (by omega)
            exact ⟨_, hsplit W1 U2 hW1 (mrg_nil_right hq2.1), by simpa using st⟩
        · refine XR_no rfl rfl ?_
          refine XR_no rfl rfl ?_
          refine XR_no rfl rfl ?_
          refine XR_a (op_pick_f rfl rfl) rfl rfl ?_
          refine XR_nil ?_
          refine X_else rfl ?_
          refine X_skip ?_
          refine X_end .nil ?_
          obtain rfl : U2 = [] := List.eq_nil_of_length_eq_zero (by omega)
          exact ⟨_, hsplit W1 V2 hW1 (mrg_nil_left hq2.2.1), by simpa using st⟩

theorem symMerge_spec {B k : Nat} {F : List Res} {caps : Array Value} {key : Nat → Nat} {good : Nat → Prop} : ∀ N, SymOK B k F caps key good N
  | 0 => fun g n c a m b X U V Y h0 _ _ _ _ _ h1 h2 h3 => by omega
  | N + 1 => fun g n c a m b X U V Y h0 h1 h2 h3 h4 h5 h6 h7 h8 h9 h10 h11 h12 => symMerge_step (symMerge_spec N) h1 h2 h3 h4 h5 h6 h7 h8 h9 h10 h11 h12
end Go.Bn
