/- The laws QuickTurns, QuickRows and QuickSizes. -/
import Derived.Test.YtnphdfaihpljlaaQuickR2
import Derived.Test.YtnphdfaihpljlaaLaw08
set_option linter.unusedVariables false
set_option linter.unusedSimpArgs false
set_option maxHeartbeats 4000000
set_option maxRecDepth 20000
namespace Go.Bn
open Go Proofs

theorem tmod_pos (n m : Int) (hm : 0 < m) : n.tmod m = if 0 ≤ n ∨ n % m = 0 then n % m else n % m - m := by
  rw [Int.tmod_eq_emod]
  by_cases h : 0 ≤ n ∨ n % m = 0
  · rw [if_pos h, if_pos (by rcases h with h | h; exact .inl h; exact .inr (Int.dvd_of_emod_eq_zero h))]; omega
  · rw [if_neg h, if_neg (by rintro (h1 | h1); exact h (.inl h1); exact h (.inr (Int.emod_eq_zero_of_dvd h1)))]
    have : (m.natAbs : Int) = m := by omega
    omega

theorem quickTurns_ret {n many : Int} (hn : inK .i64 n) (h0 : Heap) : Ret Try.prog 6 [.int .i64 n, .int .i64 many] h0 fun v h' => v = .bool true ∧ Ext h0 h' := by
  have hw := wd_le 15 many
  refine ret_of_X Try.func6 rfl rfl fun w0 hw0 => ?_
  simp only [argE, Nat.zero_add, Nat.reduceAdd]
  refine X_seq ?_
  refine X_reg ?_
  refine XR_a (op_assign rfl) rfl rfl ?_
  refine XR_nil ?_
  refine X_seq ?_
  refine X_reg ?_
  refine XR_a (op_move rfl) rfl rfl ?_
  refine XR_a (op_move rfl) rfl rfl ?_
  refine XR_wa (opl_call (turn_spec n many _ hn) rfl (by kernel_rfl)) rfl rfl rfl ?_
  rintro _ _ ⟨rfl, rfl⟩
  refine XR_a (op_assign rfl) rfl rfl ?_
  refine XR_nil ?_
  refine X_seq ?_
  refine X_reg ?_
  refine XR_a (op_move rfl) rfl rfl ?_
  refine XR_a (op_assign rfl) rfl rfl ?_
  refine XR_nil ?_
  refine X_seq ?_
  refine X_seq ?_
  refine X_reg ?_
  refine XR_a (op_move rfl) rfl rfl ?_
  refine XR_a (op_lss rfl rfl) rfl rfl ?_
  refine XR_nil ?_
  refine X_if rfl (fun h => ?_) (fun h => ?_)
  · refine X_reg ?_
    refine XR_a (op_assign rfl) rfl rfl ?_
    refine XR_nil ?_
    refine X_seq ?_
    refine X_seq ?_
    refine X_reg ?_
    refine XR_a (op_move rfl) rfl rfl ?_
    refine XR_a (op_gtr rfl rfl) rfl rfl ?_
    refine XR_nil ?_
    refine X_if rfl (fun h => ?_) (fun h => ?_)
    · refine X_reg ?_
      refine XR_a (op_assign rfl) rfl rfl ?_
      refine XR_nil ?_
      refine X_seq ?_
      refine X_reg ?_
      refine XR_a (op_assign rfl) rfl rfl ?_
      refine XR_nil ?_
      refine X_seq ?_
      refine X_seq ?_
      refine X_reg ?_
      refine XR_a (op_assign rfl) rfl rfl ?_
      refine XR_nil ?_
      refine X_block ?_
      obtain ⟨K, hK⟩ : ∃ K, wd 15 many = K := ⟨_, rfl⟩
      have hKw := hK
      unfold wd at hKw
      rw [hK] at hw ⊢
      refine X_loop (fun i => K - i) (fun i => [(0, .int .i64 n), (1, .int .i64 many), (5, .int .i64 (turnI n K : Nat)), (6, .int .i64 (K : Nat)), (7, .int .i64 (2 ^ i : Nat)), (8, .int .i64 (i : Nat))])
        (fun (i : Nat) hp => hp = h0 ∧ i ≤ K)
        0 (.cons rfl (.cons rfl (.cons rfl (.cons (congrArg (fun x : Int => some (Value.int .i64 x)) (by omega)) (.cons rfl (.cons rfl (.nil _))))))) ⟨rfl, by omega⟩ ?_
      rintro i hp ⟨rfl, hi⟩
      have hpw : 2 ^ i ≤ 32768 := Nat.pow_le_pow_right (n := 2) (by omega) (show i ≤ 15 by omega)
      refine X_seq ?_
      refine X_seq ?_
      refine X_reg ?_
      refine XR_a (op_move rfl) rfl rfl ?_
      refine XR_a (op_move rfl) rfl rfl ?_
      refine XR_a (op_lss rfl rfl) rfl rfl ?_
      refine XR_nil ?_
      refine X_if rfl (fun h => ?_) (fun h => ?_)
      · refine X_skip ?_
        refine X_seq ?_
        refine X_block ?_
        refine X_reg ?_
        refine XR_a (op_move rfl) rfl rfl ?_
        refine XR_a (op_mulN (m := 2) (n := 2 ^ i) rfl rfl (by simp only [inK]; omega)) rfl rfl ?_
        refine XR_a (op_assign rfl) rfl rfl ?_
        refine XR_nil ?_
        refine X_blk ?_
        refine X_reg ?_
        refine XR_a (op_move rfl) rfl rfl ?_
        first | refine XR_a (op_addN (n := 1) rfl rfl (by simp only [inK]; omega)) rfl rfl ?_ | refine XR_a (op_addI rfl rfl (by simp only [inK]; omega)) rfl rfl ?_ | refine XR_a (op_add rfl rfl) rfl rfl ?_
        refine XR_a (op_assign rfl) rfl rfl ?_
        refine XR_nil ?_
        exact X_again (i + 1) (.cons rfl (.cons rfl (.cons rfl (.cons rfl (.cons (by rw [Nat.pow_succ, Nat.mul_comm]; rfl) (.cons rfl (.nil _))))))) ⟨rfl, by omega⟩ (by omega)
      · obtain rfl : i = K := by omega
        have hp0 : 0 < 2 ^ i := Nat.pow_pos (by omega)
        have hcp : ((2 ^ i : Nat) : Int) = (2 : Int) ^ i := by rw [Int.natCast_pow]; rfl
        have htw := turn_twice n i
        rw [← hcp] at htw
        obtain ⟨S, hS⟩ : ∃ S, 2 ^ i = S := ⟨_, rfl⟩
        rw [hS] at hpw hp0 htw ⊢
        have htm := tmod_pos n S (by omega)
        have hm0 := Int.emod_nonneg n (show (S : Int) ≠ 0 by omega)
        have hm1 := Int.emod_lt_of_pos n (show (0 : Int) < S by omega)
        obtain ⟨low, hlow⟩ : ∃ low, n % (S : Int) = low := ⟨_, rfl⟩
        rw [hlow] at htw htm hm0 hm1
        have htI := turnI_lt n i
        refine X_exit rfl ?_
        refine X_seq ?_
        refine X_reg ?_
        refine XR_a (op_move rfl) rfl rfl ?_
        refine XR_a (op_move rfl) rfl rfl ?_
        refine XR_a (op_rem rfl rfl (by omega)) rfl rfl ?_
        refine XR_as (.int .i64 (if 0 ≤ n ∨ low = 0 then low else low - S)) (by rw [← htm]) ?_
        refine XR_a (op_assign rfl) rfl rfl ?_
        refine XR_nil ?_
        refine X_seq ?_
        refine X_seq ?_
        refine X_reg ?_
        refine XR_a (op_move rfl) rfl rfl ?_
        refine XR_a (op_lss rfl rfl) rfl rfl ?_
        refine XR_nil ?_
        refine X_if rfl (fun h => ?_) (fun h => ?_)
        · refine X_reg ?_
          refine XR_a (op_move rfl) rfl rfl ?_
          refine XR_a (op_move rfl) rfl rfl ?_
          refine XR_a (op_addI rfl rfl (by simp only [inK]; split <;> omega)) rfl rfl ?_
          refine XR_as (.int .i64 low) (congrArg (Value.int .i64) (by
            have h1 : (if 0 ≤ n ∨ low = 0 then low else low - S) < 0 := h
            split at h1 <;> rename_i h2
            · omega
            · rw [if_neg h2]; omega)) ?_
          refine XR_a (op_assign rfl) rfl rfl ?_
          refine XR_nil ?_
          refine X_seq ?_
          refine X_reg ?_
          refine XR_a (op_move rfl) rfl rfl ?_
          refine XR_a (op_move rfl) rfl rfl ?_
          refine XR_a (op_move rfl) rfl rfl ?_
          refine XR_wa (opl_call (turn_ref n many _ hn) rfl (by kernel_rfl)) rfl rfl rfl ?_
          rintro _ _ ⟨rfl, rfl⟩
          rw [hK]
          refine XR_a (op_eql rfl rfl) rfl rfl ?_
          refine XR_as (.bool true) (by rw [decide_eq_true rfl]) ?_
          refine XR_a (op_move rfl) rfl rfl ?_
          refine XR_a (op_move rfl) rfl rfl ?_
          refine XR_a (op_move rfl) rfl rfl ?_
          refine XR_wa (opl_call (turn_spec (turnI n i : Nat) many _ (by simp only [inK]; rw [hS] at htI; omega)) rfl (by kernel_rfl)) rfl rfl rfl ?_
          rintro _ _ ⟨rfl, rfl⟩
          rw [hK, htw]
          refine XR_a (op_move rfl) rfl rfl ?_
          refine XR_a (op_eql rfl rfl) rfl rfl ?_
          refine XR_as (.bool true) (by rw [decide_eq_true rfl]) ?_
          refine XR_a (op_pick_t rfl rfl) rfl rfl ?_
          refine XR_a (op_move rfl) rfl rfl ?_
          refine XR_wa (opl_call (lives34 _) rfl (by kernel_rfl)) rfl rfl rfl ?_
          rintro _ hp ⟨rfl, hx⟩
          refine XR_a (op_pick_t rfl rfl) rfl rfl ?_
          refine XR_a (op_assign rfl) rfl rfl ?_
          refine XR_nil ?_
          refine X_ret (.cons (.tmp rfl) .nil) ?_
          exact ⟨rfl, hx⟩
        · refine X_skip ?_
          refine X_seq ?_
          refine X_reg ?_
          refine XR_a (op_move rfl) rfl rfl ?_
          refine XR_a (op_move rfl) rfl rfl ?_
          refine XR_a (op_move rfl) rfl rfl ?_
          refine XR_wa (opl_call (turn_ref n many _ hn) rfl (by kernel_rfl)) rfl rfl rfl ?_
          rintro _ _ ⟨rfl, rfl⟩
          rw [hK]
          refine XR_a (op_eql rfl rfl) rfl rfl ?_
          refine XR_as (.bool true) (by rw [decide_eq_true rfl]) ?_
          refine XR_a (op_move rfl) rfl rfl ?_
          refine XR_a (op_move rfl) rfl rfl ?_
          refine XR_a (op_move rfl) rfl rfl ?_
          refine XR_wa (opl_call (turn_spec (turnI n i : Nat) many _ (by simp only [inK]; rw [hS] at htI; omega)) rfl (by kernel_rfl)) rfl rfl rfl ?_
          rintro _ _ ⟨rfl, rfl⟩
          rw [hK, htw]
          refine XR_a (op_move rfl) rfl rfl ?_
          refine XR_as (.int .i64 low) (congrArg (Value.int .i64) (by
            have h1 : ¬ (if 0 ≤ n ∨ low = 0 then low else low - S) < 0 := h
            split at h1 <;> rename_i h2
            · rw [if_pos h2]
            · omega)) ?_
          refine XR_a (op_eql rfl rfl) rfl rfl ?_
          refine XR_as (.bool true) (by rw [decide_eq_true rfl]) ?_
          refine XR_a (op_pick_t rfl rfl) rfl rfl ?_
          refine XR_a (op_move rfl) rfl rfl ?_
          refine XR_wa (opl_call (lives34 _) rfl (by kernel_rfl)) rfl rfl rfl ?_
          rintro _ hp ⟨rfl, hx⟩
          refine XR_a (op_pick_t rfl rfl) rfl rfl ?_
          refine XR_a (op_assign rfl) rfl rfl ?_
          refine XR_nil ?_
          refine X_ret (.cons (.tmp rfl) .nil) ?_
          exact ⟨rfl, hx⟩
    · refine X_skip ?_
      refine X_seq ?_
      refine X_reg ?_
      refine XR_a (op_assign rfl) rfl rfl ?_
      refine XR_nil ?_
      refine X_seq ?_
      refine X_seq ?_
      refine X_reg ?_
      refine XR_a (op_assign rfl) rfl rfl ?_
      refine XR_nil ?_
      refine X_block ?_
      obtain ⟨K, hK⟩ : ∃ K, wd 15 many = K := ⟨_, rfl⟩
      have hKw := hK
      unfold wd at hKw
      rw [hK] at hw ⊢
      refine X_loop (fun i => K - i) (fun i => [(0, .int .i64 n), (1, .int .i64 many), (5, .int .i64 (turnI n K : Nat)), (6, .int .i64 (K : Nat)), (7, .int .i64 (2 ^ i : Nat)), (8, .int .i64 (i : Nat))])
        (fun (i : Nat) hp => hp = h0 ∧ i ≤ K)
        0 (.cons rfl (.cons rfl (.cons rfl (.cons (congrArg (fun x : Int => some (Value.int .i64 x)) (by omega)) (.cons rfl (.cons rfl (.nil _))))))) ⟨rfl, by omega⟩ ?_
      rintro i hp ⟨rfl, hi⟩
      have hpw : 2 ^ i ≤ 32768 := Nat.pow_le_pow_right (n := 2) (by omega) (show i ≤ 15 by omega)
      refine X_seq ?_
      refine X_seq ?_
      refine X_reg ?_
      refine XR_a (op_move rfl) rfl rfl ?_
      refine XR_a (op_move rfl) rfl rfl ?_
      refine XR_a (op_lss rfl rfl) rfl rfl ?_
      refine XR_nil ?_
      refine X_if rfl (fun h => ?_) (fun h => ?_)
      · refine X_skip ?_
        refine X_seq ?_
        refine X_block ?_
        refine X_reg ?_
        refine XR_a (op_move rfl) rfl rfl ?_
        refine XR_a (op_mulN (m := 2) (n := 2 ^ i) rfl rfl (by simp only [inK]; omega)) rfl rfl ?_
        refine XR_a (op_assign rfl) rfl rfl ?_
        refine XR_nil ?_
        refine X_blk ?_
        refine X_reg ?_
        refine XR_a (op_move rfl) rfl rfl ?_
        first | refine XR_a (op_addN (n := 1) rfl rfl (by simp only [inK]; omega)) rfl rfl ?_ | refine XR_a (op_addI rfl rfl (by simp only [inK]; omega)) rfl rfl ?_ | refine XR_a (op_add rfl rfl) rfl rfl ?_
        refine XR_a (op_assign rfl) rfl rfl ?_
        refine XR_nil ?_
        exact X_again (i + 1) (.cons rfl (.cons rfl (.cons rfl (.cons rfl (.cons (by rw [Nat.pow_succ, Nat.mul_comm]; rfl) (.cons rfl (.nil _))))))) ⟨rfl, by omega⟩ (by omega)
      · obtain rfl : i = K := by omega
        have hp0 : 0 < 2 ^ i := Nat.pow_pos (by omega)
        have hcp : ((2 ^ i : Nat) : Int) = (2 : Int) ^ i := by rw [Int.natCast_pow]; rfl
        have htw := turn_twice n i
        rw [← hcp] at htw
        obtain ⟨S, hS⟩ : ∃ S, 2 ^ i = S := ⟨_, rfl⟩
        rw [hS] at hpw hp0 htw ⊢
        have htm := tmod_pos n S (by omega)
        have hm0 := Int.emod_nonneg n (show (S : Int) ≠ 0 by omega)
        have hm1 := Int.emod_lt_of_pos n (show (0 : Int) < S by omega)
        obtain ⟨low, hlow⟩ : ∃ low, n % (S : Int) = low := ⟨_, rfl⟩
        rw [hlow] at htw htm hm0 hm1
        have htI := turnI_lt n i
        refine X_exit rfl ?_
        refine X_seq ?_
        refine X_reg ?_
        refine XR_a (op_move rfl) rfl rfl ?_
        refine XR_a (op_move rfl) rfl rfl ?_
        refine XR_a (op_rem rfl rfl (by omega)) rfl rfl ?_
        refine XR_as (.int .i64 (if 0 ≤ n ∨ low = 0 then low else low - S)) (by rw [← htm]) ?_
        refine XR_a (op_assign rfl) rfl rfl ?_
        refine XR_nil ?_
        refine X_seq ?_
        refine X_seq ?_
        refine X_reg ?_
        refine XR_a (op_move rfl) rfl rfl ?_
        refine XR_a (op_lss rfl rfl) rfl rfl ?_
        refine XR_nil ?_
        refine X_if rfl (fun h => ?_) (fun h => ?_)
        · refine X_reg ?_
          refine XR_a (op_move rfl) rfl rfl ?_
          refine XR_a (op_move rfl) rfl rfl ?_
          refine XR_a (op_addI rfl rfl (by simp only [inK]; split <;> omega)) rfl rfl ?_
          refine XR_as (.int .i64 low) (congrArg (Value.int .i64) (by
            have h1 : (if 0 ≤ n ∨ low = 0 then low else low - S) < 0 := h
            split at h1 <;> rename_i h2
            · omega
            · rw [if_neg h2]; omega)) ?_
          refine XR_a (op_assign rfl) rfl rfl ?_
          refine XR_nil ?_
          refine X_seq ?_
          refine X_reg ?_
          refine XR_a (op_move rfl) rfl rfl ?_
          refine XR_a (op_move rfl) rfl rfl ?_
          refine XR_a (op_move rfl) rfl rfl ?_
          refine XR_wa (opl_call (turn_ref n many _ hn) rfl (by kernel_rfl)) rfl rfl rfl ?_
          rintro _ _ ⟨rfl, rfl⟩
          rw [hK]
          refine XR_a (op_eql rfl rfl) rfl rfl ?_
          refine XR_as (.bool true) (by rw [decide_eq_true rfl]) ?_
          refine XR_a (op_move rfl) rfl rfl ?_
          refine XR_a (op_move rfl) rfl rfl ?_
          refine XR_a (op_move rfl) rfl rfl ?_
          refine XR_wa (opl_call (turn_spec (turnI n i : Nat) many _ (by simp only [inK]; rw [hS] at htI; omega)) rfl (by kernel_rfl)) rfl rfl rfl ?_
          rintro _ _ ⟨rfl, rfl⟩
          rw [hK, htw]
          refine XR_a (op_move rfl) rfl rfl ?_
          refine XR_a (op_eql rfl rfl) rfl rfl ?_
          refine XR_as (.bool true) (by rw [decide_eq_true rfl]) ?_
          refine XR_a (op_pick_t rfl rfl) rfl rfl ?_
          refine XR_a (op_move rfl) rfl rfl ?_
          refine XR_wa (opl_call (lives34 _) rfl (by kernel_rfl)) rfl rfl rfl ?_
          rintro _ hp ⟨rfl, hx⟩
          refine XR_a (op_pick_t rfl rfl) rfl rfl ?_
          refine XR_a (op_assign rfl) rfl rfl ?_
          refine XR_nil ?_
          refine X_ret (.cons (.tmp rfl) .nil) ?_
          exact ⟨rfl, hx⟩
        · refine X_skip ?_
          refine X_seq ?_
          refine X_reg ?_
          refine XR_a (op_move rfl) rfl rfl ?_
          refine XR_a (op_move rfl) rfl rfl ?_
          refine XR_a (op_move rfl) rfl rfl ?_
          refine XR_wa (opl_call (turn_ref n many _ hn) rfl (by kernel_rfl)) rfl rfl rfl ?_
          rintro _ _ ⟨rfl, rfl⟩
          rw [hK]
          refine XR_a (op_eql rfl rfl) rfl rfl ?_
          refine XR_as (.bool true) (by rw [decide_eq_true rfl]) ?_
          refine XR_a (op_move rfl) rfl rfl ?_
          refine XR_a (op_move rfl) rfl rfl ?_
          refine XR_a (op_move rfl) rfl rfl ?_
          refine XR_wa (opl_call (turn_spec (turnI n i : Nat) many _ (by simp only [inK]; rw [hS] at htI; omega)) rfl (by kernel_rfl)) rfl rfl rfl ?_
          rintro _ _ ⟨rfl, rfl⟩
          rw [hK, htw]
          refine XR_a (op_move rfl) rfl rfl ?_
          refine XR_as (.int .i64 low) (congrArg (Value.int .i64) (by
            have h1 : ¬ (if 0 ≤ n ∨ low = 0 then low else low - S) < 0 := h
            split at h1 <;> rename_i h2
            · rw [if_pos h2]
            · omega)) ?_
          refine XR_a (op_eql rfl rfl) rfl rfl ?_
          refine XR_as (.bool true) (by rw [decide_eq_true rfl]) ?_
          refine XR_a (op_pick_t rfl rfl) rfl rfl ?_
          refine XR_a (op_move rfl) rfl rfl ?_
          refine XR_wa (opl_call (lives34 _) rfl (by kernel_rfl)) rfl rfl rfl ?_
          rintro _ hp ⟨rfl, hx⟩
          refine XR_a (op_pick_t rfl rfl) rfl rfl ?_
          refine XR_a (op_assign rfl) rfl rfl ?_
          refine XR_nil ?_
          refine X_ret (.cons (.tmp rfl) .nil) ?_
          exact ⟨rfl, hx⟩
  · refine X_skip ?_
    refine X_seq ?_
    refine X_seq ?_
    refine X_reg ?_
    refine XR_a (op_move rfl) rfl rfl ?_
    refine XR_a (op_gtr rfl rfl) rfl rfl ?_
    refine XR_nil ?_
    refine X_if rfl (fun h => ?_) (fun h => ?_)
    · refine X_reg ?_
      refine XR_a (op_assign rfl) rfl rfl ?_
      refine XR_nil ?_
      refine X_seq ?_
      refine X_reg ?_
      refine XR_a (op_assign rfl) rfl rfl ?_
      refine XR_nil ?_
      refine X_seq ?_
      refine X_seq ?_
      refine X_reg ?_
      refine XR_a (op_assign rfl) rfl rfl ?_
      refine XR_nil ?_
      refine X_block ?_
      obtain ⟨K, hK⟩ : ∃ K, wd 15 many = K := ⟨_, rfl⟩
      have hKw := hK
      unfold wd at hKw
      rw [hK] at hw ⊢
      refine X_loop (fun i => K - i) (fun i => [(0, .int .i64 n), (1, .int .i64 many), (5, .int .i64 (turnI n K : Nat)), (6, .int .i64 (K : Nat)), (7, .int .i64 (2 ^ i : Nat)), (8, .int .i64 (i : Nat))])
        (fun (i : Nat) hp => hp = h0 ∧ i ≤ K)
        0 (.cons rfl (.cons rfl (.cons rfl (.cons (congrArg (fun x : Int => some (Value.int .i64 x)) (by omega)) (.cons rfl (.cons rfl (.nil _))))))) ⟨rfl, by omega⟩ ?_
      rintro i hp ⟨rfl, hi⟩
      have hpw : 2 ^ i ≤ 32768 := Nat.pow_le_pow_right (n := 2) (by omega) (show i ≤ 15 by omega)
      refine X_seq ?_
      refine X_seq ?_
      refine X_reg ?_
      refine XR_a (op_move rfl) rfl rfl ?_
      refine XR_a (op_move rfl) rfl rfl ?_
      refine XR_a (op_lss rfl rfl) rfl rfl ?_
      refine XR_nil ?_
      refine X_if rfl (fun h => ?_) (fun h => ?_)
      · refine X_skip ?_
        refine X_seq ?_
        refine X_block ?_
        refine X_reg ?_
        refine XR_a (op_move rfl) rfl rfl ?_
        refine XR_a (op_mulN (m := 2) (n := 2 ^ i) rfl rfl (by simp only [inK]; omega)) rfl rfl ?_
        refine XR_a (op_assign rfl) rfl rfl ?_
        refine XR_nil ?_
        refine X_blk ?_
        refine X_reg ?_
        refine XR_a (op_move rfl) rfl rfl ?_
        first | refine XR_a (op_addN (n := 1) rfl rfl (by simp only [inK]; omega)) rfl rfl ?_ | refine XR_a (op_addI rfl rfl (by simp only [inK]; omega)) rfl rfl ?_ | refine XR_a (op_add rfl rfl) rfl rfl ?_
        refine XR_a (op_assign rfl) rfl rfl ?_
        refine XR_nil ?_
        exact X_again (i + 1) (.cons rfl (.cons rfl (.cons rfl (.cons rfl (.cons (by rw [Nat.pow_succ, Nat.mul_comm]; rfl) (.cons rfl (.nil _))))))) ⟨rfl, by omega⟩ (by omega)
      · obtain rfl : i = K := by omega
        have hp0 : 0 < 2 ^ i := Nat.pow_pos (by omega)
        have hcp : ((2 ^ i : Nat) : Int) = (2 : Int) ^ i := by rw [Int.natCast_pow]; rfl
        have htw := turn_twice n i
        rw [← hcp] at htw
        obtain ⟨S, hS⟩ : ∃ S, 2 ^ i = S := ⟨_, rfl⟩
        rw [hS] at hpw hp0 htw ⊢
        have htm := tmod_pos n S (by omega)
        have hm0 := Int.emod_nonneg n (show (S : Int) ≠ 0 by omega)
        have hm1 := Int.emod_lt_of_pos n (show (0 : Int) < S by omega)
        obtain ⟨low, hlow⟩ : ∃ low, n % (S : Int) = low := ⟨_, rfl⟩
        rw [hlow] at htw htm hm0 hm1
        have htI := turnI_lt n i
        refine X_exit rfl ?_
        refine X_seq ?_
        refine X_reg ?_
        refine XR_a (op_move rfl) rfl rfl ?_
        refine XR_a (op_move rfl) rfl rfl ?_
        refine XR_a (op_rem rfl rfl (by omega)) rfl rfl ?_
        refine XR_as (.int .i64 (if 0 ≤ n ∨ low = 0 then low else low - S)) (by rw [← htm]) ?_
        refine XR_a (op_assign rfl) rfl rfl ?_
        refine XR_nil ?_
        refine X_seq ?_
        refine X_seq ?_
        refine X_reg ?_
        refine XR_a (op_move rfl) rfl rfl ?_
        refine XR_a (op_lss rfl rfl) rfl rfl ?_
        refine XR_nil ?_
        refine X_if rfl (fun h => ?_) (fun h => ?_)
        · refine X_reg ?_
          refine XR_a (op_move rfl) rfl rfl ?_
          refine XR_a (op_move rfl) rfl rfl ?_
          refine XR_a (op_addI rfl rfl (by simp only [inK]; split <;> omega)) rfl rfl ?_
          refine XR_as (.int .i64 low) (congrArg (Value.int .i64) (by
            have h1 : (if 0 ≤ n ∨ low = 0 then low else low - S) < 0 := h
            split at h1 <;> rename_i h2
            · omega
            · rw [if_neg h2]; omega)) ?_
          refine XR_a (op_assign rfl) rfl rfl ?_
          refine XR_nil ?_
          refine X_seq ?_
          refine X_reg ?_
          refine XR_a (op_move rfl) rfl rfl ?_
          refine XR_a (op_move rfl) rfl rfl ?_
          refine XR_a (op_move rfl) rfl rfl ?_
          refine XR_wa (opl_call (turn_ref n many _ hn) rfl (by kernel_rfl)) rfl rfl rfl ?_
          rintro _ _ ⟨rfl, rfl⟩
          rw [hK]
          refine XR_a (op_eql rfl rfl) rfl rfl ?_
          refine XR_as (.bool true) (by rw [decide_eq_true rfl]) ?_
          refine XR_a (op_move rfl) rfl rfl ?_
          refine XR_a (op_move rfl) rfl rfl ?_
          refine XR_a (op_move rfl) rfl rfl ?_
          refine XR_wa (opl_call (turn_spec (turnI n i : Nat) many _ (by simp only [inK]; rw [hS] at htI; omega)) rfl (by kernel_rfl)) rfl rfl rfl ?_
          rintro _ _ ⟨rfl, rfl⟩
          rw [hK, htw]
          refine XR_a (op_move rfl) rfl rfl ?_
          refine XR_a (op_eql rfl rfl) rfl rfl ?_
          refine XR_as (.bool true) (by rw [decide_eq_true rfl]) ?_
          refine XR_a (op_pick_t rfl rfl) rfl rfl ?_
          refine XR_a (op_move rfl) rfl rfl ?_
          refine XR_wa (opl_call (lives34 _) rfl (by kernel_rfl)) rfl rfl rfl ?_
          rintro _ hp ⟨rfl, hx⟩
          refine XR_a (op_pick_t rfl rfl) rfl rfl ?_
          refine XR_a (op_assign rfl) rfl rfl ?_
          refine XR_nil ?_
          refine X_ret (.cons (.tmp rfl) .nil) ?_
          exact ⟨rfl, hx⟩
        · refine X_skip ?_
          refine X_seq ?_
          refine X_reg ?_
          refine XR_a (op_move rfl) rfl rfl ?_
          refine XR_a (op_move rfl) rfl rfl ?_
          refine XR_a (op_move rfl) rfl rfl ?_
          refine XR_wa (opl_call (turn_ref n many _ hn) rfl (by kernel_rfl)) rfl rfl rfl ?_
          rintro _ _ ⟨rfl, rfl⟩
          rw [hK]
          refine XR_a (op_eql rfl rfl) rfl rfl ?_
          refine XR_as (.bool true) (by rw [decide_eq_true rfl]) ?_
          refine XR_a (op_move rfl) rfl rfl ?_
          refine XR_a (op_move rfl) rfl rfl ?_
          refine XR_a (op_move rfl) rfl rfl ?_
          refine XR_wa (opl_call (turn_spec (turnI n i : Nat) many _ (by simp only [inK]; rw [hS] at htI; omega)) rfl (by kernel_rfl)) rfl rfl rfl ?_
          rintro _ _ ⟨rfl, rfl⟩
          rw [hK, htw]
          refine XR_a (op_move rfl) rfl rfl ?_
          refine XR_as (.int .i64 low) (congrArg (Value.int .i64) (by
            have h1 : ¬ (if 0 ≤ n ∨ low = 0 then low else low - S) < 0 := h
            split at h1 <;> rename_i h2
            · rw [if_pos h2]
            · omega)) ?_
          refine XR_a (op_eql rfl rfl) rfl rfl ?_
          refine XR_as (.bool true) (by rw [decide_eq_true rfl]) ?_
          refine XR_a (op_pick_t rfl rfl) rfl rfl ?_
          refine XR_a (op_move rfl) rfl rfl ?_
          refine XR_wa (opl_call (lives34 _) rfl (by kernel_rfl)) rfl rfl rfl ?_
          rintro _ hp ⟨rfl, hx⟩
          refine XR_a (op_pick_t rfl rfl) rfl rfl ?_
          refine XR_a (op_assign rfl) rfl rfl ?_
          refine XR_nil ?_
          refine X_ret (.cons (.tmp rfl) .nil) ?_
          exact ⟨rfl, hx⟩
    · refine X_skip ?_
      refine X_seq ?_
      refine X_reg ?_
      refine XR_a (op_assign rfl) rfl rfl ?_
      refine XR_nil ?_
      refine X_seq ?_
      refine X_seq ?_
      refine X_reg ?_
      refine XR_a (op_assign rfl) rfl rfl ?_
      refine XR_nil ?_
      refine X_block ?_
      obtain ⟨K, hK⟩ : ∃ K, wd 15 many = K := ⟨_, rfl⟩
      have hKw := hK
      unfold wd at hKw
      rw [hK] at hw ⊢
      refine X_loop (fun i => K - i) (fun i => [(0, .int .i64 n), (1, .int .i64 many), (5, .int .i64 (turnI n K : Nat)), (6, .int .i64 (K : Nat)), (7, .int .i64 (2 ^ i : Nat)), (8, .int .i64 (i : Nat))])
        (fun (i : Nat) hp => hp = h0 ∧ i ≤ K)
        0 (.cons rfl (.cons rfl (.cons rfl (.cons (congrArg (fun x : Int => some (Value.int .i64 x)) (by omega)) (.cons rfl (.cons rfl (.nil _))))))) ⟨rfl, by omega⟩ ?_
      rintro i hp ⟨rfl, hi⟩
      have hpw : 2 ^ i ≤ 32768 := Nat.pow_le_pow_right (n := 2) (by omega) (show i ≤ 15 by omega)
      refine X_seq ?_
      refine X_seq ?_
      refine X_reg ?_
      refine XR_a (op_move rfl) rfl rfl ?_
      refine XR_a (op_move rfl) rfl rfl ?_
      refine XR_a (op_lss rfl rfl) rfl rfl ?_
      refine XR_nil ?_
      refine X_if rfl (fun h => ?_) (fun h => ?_)
      · refine X_skip ?_
        refine X_seq ?_
        refine X_block ?_
        refine X_reg ?_
        refine XR_a (op_move rfl) rfl rfl ?_
        refine XR_a (op_mulN (m := 2) (n := 2 ^ i) rfl rfl (by simp only [inK]; omega)) rfl rfl ?_
        refine XR_a (op_assign rfl) rfl rfl ?_
        refine XR_nil ?_
        refine X_blk ?_
        refine X_reg ?_
        refine XR_a (op_move rfl) rfl rfl ?_
        first | refine XR_a (op_addN (n := 1) rfl rfl (by simp only [inK]; omega)) rfl rfl ?_ | refine XR_a (op_addI rfl rfl (by simp only [inK]; omega)) rfl rfl ?_ | refine XR_a (op_add rfl rfl) rfl rfl ?_
        refine XR_a (op_assign rfl) rfl rfl ?_
        refine XR_nil ?_
        exact X_again (i + 1) (.cons rfl (.cons rfl (.cons rfl (.cons rfl (.cons (by rw [Nat.pow_succ, Nat.mul_comm]; rfl) (.cons rfl (.nil _))))))) ⟨rfl, by omega⟩ (by omega)
      · obtain rfl : i = K := by omega
        have hp0 : 0 < 2 ^ i := Nat.pow_pos (by omega)
        have hcp : ((2 ^ i : Nat) : Int) = (2 : Int) ^ i := by rw [Int.natCast_pow]; rfl
        have htw := turn_twice n i
        rw [← hcp] at htw
        obtain ⟨S, hS⟩ : ∃ S, 2 ^ i = S := ⟨_, rfl⟩
        rw [hS] at hpw hp0 htw ⊢
        have htm := tmod_pos n S (by omega)
        have hm0 := Int.emod_nonneg n (show (S : Int) ≠ 0 by omega)
        have hm1 := Int.emod_lt_of_pos n (show (0 : Int) < S by omega)
        obtain ⟨low, hlow⟩ : ∃ low, n % (S : Int) = low := ⟨_, rfl⟩
        rw [hlow] at htw htm hm0 hm1
        have htI := turnI_lt n i
        refine X_exit rfl ?_
        refine X_seq ?_
        refine X_reg ?_
        refine XR_a (op_move rfl) rfl rfl ?_
        refine XR_a (op_move rfl) rfl rfl ?_
        refine XR_a (op_rem rfl rfl (by omega)) rfl rfl ?_
        refine XR_as (.int .i64 (if 0 ≤ n ∨ low = 0 then low else low - S)) (by rw [← htm]) ?_
        refine XR_a (op_assign rfl) rfl rfl ?_
        refine XR_nil ?_
        refine X_seq ?_
        refine X_seq ?_
        refine X_reg ?_
        refine XR_a (op_move rfl) rfl rfl ?_
        refine XR_a (op_lss rfl rfl) rfl rfl ?_
        refine XR_nil ?_
        refine X_if rfl (fun h => ?_) (fun h => ?_)
        · refine X_reg ?_
          refine XR_a (op_move rfl) rfl rfl ?_
          refine XR_a (op_move rfl) rfl rfl ?_
          refine XR_a (op_addI rfl rfl (by simp only [inK]; split <;> omega)) rfl rfl ?_
          refine XR_as (.int .i64 low) (congrArg (Value.int .i64) (by
            have h1 : (if 0 ≤ n ∨ low = 0 then low else low - S) < 0 := h
            split at h1 <;> rename_i h2
            · omega
            · rw [if_neg h2]; omega)) ?_
          refine XR_a (op_assign rfl) rfl rfl ?_
          refine XR_nil ?_
          refine X_seq ?_
          refine X_reg ?_
          refine XR_a (op_move rfl) rfl rfl ?_
          refine XR_a (op_move rfl) rfl rfl ?_
          refine XR_a (op_move rfl) rfl rfl ?_
          refine XR_wa (opl_call (turn_ref n many _ hn) rfl (by kernel_rfl)) rfl rfl rfl ?_
          rintro _ _ ⟨rfl, rfl⟩
          rw [hK]
          refine XR_a (op_eql rfl rfl) rfl rfl ?_
          refine XR_as (.bool true) (by rw [decide_eq_true rfl]) ?_
          refine XR_a (op_move rfl) rfl rfl ?_
          refine XR_a (op_move rfl) rfl rfl ?_
          refine XR_a (op_move rfl) rfl rfl ?_
          refine XR_wa (opl_call (turn_spec (turnI n i : Nat) many _ (by simp only [inK]; rw [hS] at htI; omega)) rfl (by kernel_rfl)) rfl rfl rfl ?_
          rintro _ _ ⟨rfl, rfl⟩
          rw [hK, htw]
          refine XR_a (op_move rfl) rfl rfl ?_
          refine XR_a (op_eql rfl rfl) rfl rfl ?_
          refine XR_as (.bool true) (by rw [decide_eq_true rfl]) ?_
          refine XR_a (op_pick_t rfl rfl) rfl rfl ?_
          refine XR_a (op_move rfl) rfl rfl ?_
          refine XR_wa (opl_call (lives34 _) rfl (by kernel_rfl)) rfl rfl rfl ?_
          rintro _ hp ⟨rfl, hx⟩
          refine XR_a (op_pick_t rfl rfl) rfl rfl ?_
          refine XR_a (op_assign rfl) rfl rfl ?_
          refine XR_nil ?_
          refine X_ret (.cons (.tmp rfl) .nil) ?_
          exact ⟨rfl, hx⟩
        · refine X_skip ?_
          refine X_seq ?_
          refine X_reg ?_
          refine XR_a (op_move rfl) rfl rfl ?_
          refine XR_a (op_move rfl) rfl rfl ?_
          refine XR_a (op_move rfl) rfl rfl ?_
          refine XR_wa (opl_call (turn_ref n many _ hn) rfl (by kernel_rfl)) rfl rfl rfl ?_
          rintro _ _ ⟨rfl, rfl⟩
          rw [hK]
          refine XR_a (op_eql rfl rfl) rfl rfl ?_
          refine XR_as (.bool true) (by rw [decide_eq_true rfl]) ?_
          refine XR_a (op_move rfl) rfl rfl ?_
          refine XR_a (op_move rfl) rfl rfl ?_
          refine XR_a (op_move rfl) rfl rfl ?_
          refine XR_wa (opl_call (turn_spec (turnI n i : Nat) many _ (by simp only [inK]; rw [hS] at htI; omega)) rfl (by kernel_rfl)) rfl rfl rfl ?_
          rintro _ _ ⟨rfl, rfl⟩
          rw [hK, htw]
          refine XR_a (op_move rfl) rfl rfl ?_
          refine XR_as (.int .i64 low) (congrArg (Value.int .i64) (by
            have h1 : ¬ (if 0 ≤ n ∨ low = 0 then low else low - S) < 0 := h
            split at h1 <;> rename_i h2
            · rw [if_pos h2]
            · omega)) ?_
          refine XR_a (op_eql rfl rfl) rfl rfl ?_
          refine XR_as (.bool true) (by rw [decide_eq_true rfl]) ?_
          refine XR_a (op_pick_t rfl rfl) rfl rfl ?_
          refine XR_a (op_move rfl) rfl rfl ?_
          refine XR_wa (opl_call (lives34 _) rfl (by kernel_rfl)) rfl rfl rfl ?_
          rintro _ hp ⟨rfl, hx⟩
          refine XR_a (op_pick_t rfl rfl) rfl rfl ?_
          refine XR_a (op_assign rfl) rfl rfl ?_
          refine XR_nil ?_
          refine X_ret (.cons (.tmp rfl) .nil) ?_
          exact ⟨rfl, hx⟩

theorem quickRows_ret {n c : Nat} {A : Option Addr} {li : List Int} {width x : Int} {h0 : Heap} (hr : Rd h0 A (li.map iV)) (hl : li.length = n) (hn : n ≤ 17592186044416) :
    Ret Try.prog 7 [.slice A n c, .int .i64 width, .int .i64 x] h0 fun v h' => v = .bool true ∧ Ext h0 h' := by
  refine ret_of_X Try.func7 rfl rfl fun w0 hw0 => ?_
  simp only [argE, Nat.zero_add, Nat.reduceAdd]
  refine X_seq ?_
  refine X_reg ?_
  refine XR_a (op_assign rfl) rfl rfl ?_
  by_cases hR : rightC li
  · refine XR_nil ?_
    refine X_seq ?_
    refine X_seq ?_
    refine X_reg ?_
    refine XR_a (op_move rfl) rfl rfl ?_
    refine XR_a (op_len rfl rfl rfl) rfl rfl ?_
    refine XR_a (op_gtr rfl rfl) rfl rfl ?_
    refine XR_nil ?_
    refine X_if rfl (fun h => ?_) (fun h => ?_)
    · refine X_seq ?_
      refine X_reg ?_
      refine XR_wa (opl_call (lives34 h0) rfl (by kernel_rfl)) rfl rfl rfl ?_
      rintro _ hp ⟨rfl, hx⟩
      refine XR_a (op_assign rfl) rfl rfl ?_
      refine XR_nil ?_
      refine X_ret (.cons (.tmp rfl) .nil) ?_
      exact ⟨rfl, hx⟩
    · refine X_skip ?_
      refine X_seq ?_
      refine X_reg ?_
      refine XR_a (op_move rfl) rfl rfl ?_
      refine XR_a (op_move rfl) rfl rfl ?_
      refine XR_wa (opl_call (qnew_spec width hr hl hn) rfl (by kernel_rfl)) rfl rfl rfl ?_
      rintro _ hp2 ⟨w2, rfl, hx2, hy2, _⟩
      obtain ⟨p, rfl, st⟩ := hy2 hR
      rw [errC_pos hR]
      refine XR_a (op_move rfl) rfl rfl ?_
      refine XR_a (op_extract rfl rfl) rfl rfl ?_
      refine XR_a (op_extract rfl rfl) rfl rfl ?_
      refine XR_a (op_assign rfl) rfl rfl ?_
      refine XR_a (op_assign rfl) rfl rfl ?_
      refine XR_nil ?_
      refine X_seq ?_
      refine X_seq ?_
      refine X_reg ?_
      refine XR_a (op_move rfl) rfl rfl ?_
      refine XR_wa (opl_call (right08_ref (hr.ext hx2) hl hn) rfl (by kernel_rfl)) rfl rfl rfl ?_
      rintro _ hp ⟨rfl, rfl⟩
      rw [decide_eq_true hR]
      refine XR_a (op_not rfl) rfl rfl ?_
      refine XR_nil ?_
      refine X_else rfl ?_
      refine X_skip ?_
      refine X_seq ?_
      refine X_seq ?_
      refine X_reg ?_
      refine XR_a (op_move rfl) rfl rfl ?_
      refine XR_a (op_neq rfl rfl) rfl rfl ?_
      refine XR_a (op_move rfl) rfl rfl ?_
      refine XR_a (op_move rfl) rfl rfl ?_
      refine XR_a (op_ptr_nil rfl rfl rfl) rfl rfl ?_
      refine XR_a (op_pick_f rfl rfl) rfl rfl ?_
      refine XR_nil ?_
      refine X_else rfl ?_
      refine X_skip ?_
      refine X_seq ?_
      refine X_reg ?_
      refine XR_a (op_move rfl) rfl rfl ?_
      refine XR_wa (opl_call (width_ref width _) rfl (by kernel_rfl)) rfl rfl rfl ?_
      rintro _ _ ⟨rfl, rfl⟩
      have hok := hR.ok
      have hr2 : Rd h0 A ((li.map Int.toNat).map nV) := by rw [← bounded_nat hR.2.1]; exact hr
      have hl2 : (li.map Int.toNat).length = n := by rw [List.length_map]; exact hl
      obtain ⟨ls, hl3⟩ : ∃ ls, li.map Int.toNat = ls := ⟨_, rfl⟩
      rw [hl3] at hok hr2 hl2 st
      have h320 := hok.2.1
      have h1n := hok.1
      have hQ := qcodes_ok hok
      obtain ⟨_, hw⟩ := widthN_int width
      obtain ⟨w, hwe⟩ : ∃ w, widthN width = w := ⟨_, rfl⟩
      rw [hwe] at hw st ⊢
      have hpw : 2 ^ w ≤ 32768 := Nat.pow_le_pow_right (n := 2) (by omega) hw.2
      refine XR_a (op_assign rfl) rfl rfl ?_
      refine XR_nil ?_
      refine X_seq ?_
      refine X_reg ?_
      refine XR_a (op_move rfl) rfl rfl ?_
      refine XR_wa (opl_call (values08_ref (hr2.ext st.low) hl2 hok) rfl (by kernel_rfl)) rfl rfl rfl ?_
      rintro vv hp3 st2
      replace st := st.join st2
      simp only [List.cons_append, List.nil_append] at st
      obtain ⟨A7, n7, c7, rfl, hlen7, _, _, hrd7⟩ := st.row 0 rfl
      rw [List.length_map, vals_length] at hlen7
      obtain rfl : n7 = n := by omega
      refine XR_a (op_assign rfl) rfl rfl ?_
      refine XR_nil ?_
      refine X_seq ?_
      refine X_reg ?_
      refine XR_a (op_assign rfl) rfl rfl ?_
      refine XR_nil ?_
      refine X_seq ?_
      refine X_seq ?_
      refine X_reg ?_
      refine XR_a (op_assign rfl) rfl rfl ?_
      refine XR_nil ?_
      refine X_block ?_
      refine X_loop (fun i => w - i) (fun i => [(0, .slice A n7 c), (1, .int .i64 width), (2, .int .i64 x), (7, .pointer (some ⟨p, 0, none⟩)), (9, nV w), (10, .slice A7 n7 c7), (11, .int .i64 (2 ^ i : Nat)), (12, .int .i64 (i : Nat))])
        (fun (i : Nat) hp => hp = hp3 ∧ i ≤ w)
        0 (.cons rfl (.cons rfl (.cons rfl (.cons rfl (.cons rfl (.cons rfl (.cons rfl (.cons rfl (.nil _))))))))) ⟨rfl, by omega⟩ ?_
      rintro i hp ⟨rfl, hi⟩
      have hpi : 2 ^ i ≤ 32768 := Nat.pow_le_pow_right (n := 2) (by omega) (show i ≤ 15 by omega)
      refine X_seq ?_
      refine X_seq ?_
      refine X_reg ?_
      refine XR_a (op_move rfl) rfl rfl ?_
      refine XR_a (op_move rfl) rfl rfl ?_
      refine XR_a (op_lss rfl rfl) rfl rfl ?_
      refine XR_nil ?_
      refine X_if rfl (fun h => ?_) (fun h => ?_)
      · refine X_skip ?_
        refine X_seq ?_
        refine X_block ?_
        refine X_reg ?_
        refine XR_a (op_move rfl) rfl rfl ?_
        refine XR_a (op_mulN (m := 2) (n := 2 ^ i) rfl rfl (by simp only [inK]; omega)) rfl rfl ?_
        refine XR_a (op_assign rfl) rfl rfl ?_
        refine XR_nil ?_
        refine X_blk ?_
        refine X_reg ?_
        refine XR_a (op_move rfl) rfl rfl ?_
        first | refine XR_a (op_addN (n := 1) rfl rfl (by simp only [inK]; omega)) rfl rfl ?_ | refine XR_a (op_addI rfl rfl (by simp only [inK]; omega)) rfl rfl ?_ | refine XR_a (op_add rfl rfl) rfl rfl ?_
        refine XR_a (op_assign rfl) rfl rfl ?_
        refine XR_nil ?_
        exact X_again (i + 1) (.cons rfl (.cons rfl (.cons rfl (.cons rfl (.cons rfl (.cons rfl (.cons (by rw [Nat.pow_succ, Nat.mul_comm]; rfl) (.cons rfl (.nil _))))))))) ⟨rfl, by omega⟩ (by omega)
      · obtain rfl : i = w := by omega
        have sq := st.tail
        refine X_exit rfl ?_
        refine X_seq ?_
        refine X_seq ?_
        refine X_reg ?_
        refine XR_a (op_move rfl) rfl rfl ?_
        refine XR_wa (opl_call (qwidth_spec sq) rfl (by kernel_rfl)) rfl rfl rfl ?_
        rintro _ _ ⟨rfl, rfl⟩
        refine XR_a (op_move rfl) rfl rfl ?_
        refine XR_a (op_neq rfl rfl) rfl rfl ?_
        refine XR_as (.bool false) (by simp) ?_
        refine XR_nil ?_
        refine X_else rfl ?_
        refine X_skip ?_
        refine X_seq ?_
        refine X_seq ?_
        refine X_reg ?_
        refine XR_a (op_move rfl) rfl rfl ?_
        refine XR_a (op_lss rfl rfl) rfl rfl ?_
        refine XR_a (op_move rfl) rfl rfl ?_
        refine XR_if 61 rfl (fun h => ?_) (fun h => ?_)
        · refine XR_no rfl rfl ?_
          refine XR_no rfl rfl ?_
          refine XR_no rfl rfl ?_
          refine XR_a (op_pick_t rfl rfl) rfl rfl ?_
          refine XR_nil ?_
          refine X_then rfl ?_
          refine X_seq ?_
          refine X_reg ?_
          refine XR_a (op_move rfl) rfl rfl ?_
          refine XR_a (op_move rfl) rfl rfl ?_
          refine XR_wa (opl_call (qrow_spec x sq hw.2) rfl (by kernel_rfl)) rfl rfl rfl ?_
          rintro _ hp4 ⟨rfl, hx4⟩
          refine XR_a (op_build (ps := []) (cs := (rC zeroQ).toArray) rfl rfl) rfl rfl ?_
          refine XR_a (op_eqlH rfl rfl (eq_flat (ks := [.i .i64, .i .i64, .b]) (by kernel_rfl) (by kernel_rfl) rfl rfl) (by kernel_rfl)) rfl rfl ?_
          have hz : rowAt (qcodes ls) i x = zeroQ := by unfold rowAt; rw [if_pos (by omega)]
          refine XR_as (.bool true) (congrArg Value.bool (by rw [eqL_rC, hz]; simp)) ?_
          refine XR_a (op_move rfl) rfl rfl ?_
          refine XR_wa (opl_call (lives34 _) rfl (by kernel_rfl)) rfl rfl rfl ?_
          rintro _ hp ⟨rfl, hx⟩
          refine XR_a (op_pick_t rfl rfl) rfl rfl ?_
          refine XR_a (op_assign rfl) rfl rfl ?_
          refine XR_nil ?_
          refine X_ret (.cons (.tmp rfl) .nil) ?_
          exact ⟨rfl, (Ext.trans st.low hx4).trans hx⟩
        · refine XR_a (op_move rfl) rfl rfl ?_
          refine XR_a (op_move rfl) rfl rfl ?_
          refine XR_a (op_geq rfl rfl) rfl rfl ?_
          refine XR_a (op_pick_f rfl rfl) rfl rfl ?_
          refine XR_nil ?_
          refine X_if rfl (fun h => ?_) (fun h => ?_)
          · refine X_seq ?_
            refine X_reg ?_
            refine XR_a (op_move rfl) rfl rfl ?_
            refine XR_a (op_move rfl) rfl rfl ?_
            refine XR_wa (opl_call (qrow_spec x sq hw.2) rfl (by kernel_rfl)) rfl rfl rfl ?_
            rintro _ hp4 ⟨rfl, hx4⟩
            refine XR_a (op_build (ps := []) (cs := (rC zeroQ).toArray) rfl rfl) rfl rfl ?_
            refine XR_a (op_eqlH rfl rfl (eq_flat (ks := [.i .i64, .i .i64, .b]) (by kernel_rfl) (by kernel_rfl) rfl rfl) (by kernel_rfl)) rfl rfl ?_
            have hz : rowAt (qcodes ls) i x = zeroQ := by unfold rowAt; rw [if_pos (by omega)]
            refine XR_as (.bool true) (congrArg Value.bool (by rw [eqL_rC, hz]; simp)) ?_
            refine XR_a (op_move rfl) rfl rfl ?_
            refine XR_wa (opl_call (lives34 _) rfl (by kernel_rfl)) rfl rfl rfl ?_
            rintro _ hp ⟨rfl, hx⟩
            refine XR_a (op_pick_t rfl rfl) rfl rfl ?_
            refine XR_a (op_assign rfl) rfl rfl ?_
            refine XR_nil ?_
            refine X_ret (.cons (.tmp rfl) .nil) ?_
            exact ⟨rfl, (Ext.trans st.low hx4).trans hx⟩
          · refine X_skip ?_
            refine X_seq ?_
            obtain ⟨m, rfl⟩ : ∃ m : Nat, x = m := ⟨x.toNat, by omega⟩
            have hrow : rowAt (qcodes ls) i (m : Int) = rowQ (qcodes ls) i m := by unfold rowAt; rw [if_neg (by omega), Int.toNat_natCast]
            refine X_reg ?_
            refine XR_a (op_move rfl) rfl rfl ?_
            refine XR_a (op_move rfl) rfl rfl ?_
            refine XR_a (op_move rfl) rfl rfl ?_
            refine XR_a (op_move rfl) rfl rfl ?_
            refine XR_wa (opl_call (find_ref (x := m) (w := i) (hr2.ext st.low) hl2 hrd7 hok hw.2 (by omega)) rfl (by kernel_rfl)) rfl rfl rfl ?_
            rintro _ hp4 ⟨rfl, hx4⟩
            refine XR_a (op_move rfl) rfl rfl ?_
            refine XR_a (op_extract rfl rfl) rfl rfl ?_
            refine XR_a (op_extract rfl rfl) rfl rfl ?_
            refine XR_a (op_extract rfl rfl) rfl rfl ?_
            refine XR_a (op_assign rfl) rfl rfl ?_
            refine XR_a (op_assign rfl) rfl rfl ?_
            refine XR_a (op_assign rfl) rfl rfl ?_
            refine XR_nil ?_
            refine X_seq ?_
            refine X_reg ?_
            refine XR_a (op_move rfl) rfl rfl ?_
            refine XR_a (op_move rfl) rfl rfl ?_
            refine XR_wa (opl_call (qrow_spec (m : Int) (sq.ext hx4) hw.2) rfl (by kernel_rfl)) rfl rfl rfl ?_
            rintro _ hp5 ⟨rfl, hx5⟩
            rw [hrow]
            refine XR_a (op_move rfl) rfl rfl ?_
            refine XR_a (op_move rfl) rfl rfl ?_
            refine XR_a (op_move rfl) rfl rfl ?_
            refine XR_a (op_build (ps := [(0, nV (rowQ (qcodes ls) i m).1), (1, nV (rowQ (qcodes ls) i m).2.1), (2, .bool (rowQ (qcodes ls) i m).2.2)]) (cs := (rC (rowQ (qcodes ls) i m)).toArray) rfl rfl) rfl rfl ?_
            refine XR_a (op_eqlH rfl rfl (eq_flat (ks := [.i .i64, .i .i64, .b]) (by kernel_rfl) (by kernel_rfl) rfl rfl) (by kernel_rfl)) rfl rfl ?_
            refine XR_as (.bool true) (congrArg Value.bool (by rw [eqL_rC]; simp)) ?_
            refine XR_a (op_move rfl) rfl rfl ?_
            refine XR_wa (opl_call (lives34 _) rfl (by kernel_rfl)) rfl rfl rfl ?_
            rintro _ hp ⟨rfl, hx⟩
            refine XR_a (op_pick_t rfl rfl) rfl rfl ?_
            refine XR_a (op_assign rfl) rfl rfl ?_
            refine XR_nil ?_
            refine X_ret (.cons (.tmp rfl) .nil) ?_
            exact ⟨rfl, ((Ext.trans st.low hx4).trans hx5).trans hx⟩
  · refine XR_nil ?_
    refine X_seq ?_
    refine X_seq ?_
    refine X_reg ?_
    refine XR_a (op_move rfl) rfl rfl ?_
    refine XR_a (op_len rfl rfl rfl) rfl rfl ?_
    refine XR_a (op_gtr rfl rfl) rfl rfl ?_
    refine XR_nil ?_
    refine X_if rfl (fun h => ?_) (fun h => ?_)
    · refine X_seq ?_
      refine X_reg ?_
      refine XR_wa (opl_call (lives34 h0) rfl (by kernel_rfl)) rfl rfl rfl ?_
      rintro _ hp ⟨rfl, hx⟩
      refine XR_a (op_assign rfl) rfl rfl ?_
      refine XR_nil ?_
      refine X_ret (.cons (.tmp rfl) .nil) ?_
      exact ⟨rfl, hx⟩
    · refine X_skip ?_
      refine X_seq ?_
      refine X_reg ?_
      refine XR_a (op_move rfl) rfl rfl ?_
      refine XR_a (op_move rfl) rfl rfl ?_
      refine XR_wa (opl_call (qnew_spec width hr hl hn) rfl (by kernel_rfl)) rfl rfl rfl ?_
      rintro _ hp2 ⟨w2, rfl, hx2, _, hz2⟩
      obtain rfl := hz2 hR
      rw [errC_neg hR]
      refine XR_a (op_move rfl) rfl rfl ?_
      refine XR_a (op_extract rfl rfl) rfl rfl ?_
      refine XR_a (op_extract rfl rfl) rfl rfl ?_
      refine XR_a (op_assign rfl) rfl rfl ?_
      refine XR_a (op_assign rfl) rfl rfl ?_
      refine XR_nil ?_
      refine X_seq ?_
      refine X_seq ?_
      refine X_reg ?_
      refine XR_a (op_move rfl) rfl rfl ?_
      refine XR_wa (opl_call (right08_ref (hr.ext hx2) hl hn) rfl (by kernel_rfl)) rfl rfl rfl ?_
      rintro _ hp ⟨rfl, rfl⟩
      rw [decide_eq_false hR]
      refine XR_a (op_not rfl) rfl rfl ?_
      refine XR_nil ?_
      refine X_then rfl ?_
      refine X_seq ?_
      refine X_reg ?_
      refine XR_a (op_move rfl) rfl rfl ?_
      refine XR_a (op_eql rfl rfl) rfl rfl ?_
      refine XR_a (op_move rfl) rfl rfl ?_
      refine XR_a (op_move rfl) rfl rfl ?_
      refine XR_a (op_ptr_nil rfl rfl rfl) rfl rfl ?_
      refine XR_a (op_pick_t rfl rfl) rfl rfl ?_
      refine XR_a (op_move rfl) rfl rfl ?_
      refine XR_wa (opl_call (lives34 _) rfl (by kernel_rfl)) rfl rfl rfl ?_
      rintro _ hp ⟨rfl, hx⟩
      refine XR_a (op_pick_t rfl rfl) rfl rfl ?_
      refine XR_a (op_assign rfl) rfl rfl ?_
      refine XR_nil ?_
      refine X_ret (.cons (.tmp rfl) .nil) ?_
      exact ⟨rfl, hx2.trans hx⟩

theorem quickSizes_ret {n c : Nat} {A : Option Addr} {li : List Int} {width : Int} {h0 : Heap} (hr : Rd h0 A (li.map iV)) (hl : li.length = n) (hn : n ≤ 17592186044416) :
    Ret Try.prog 8 [.slice A n c, .int .i64 width] h0 fun v h' => v = .bool true ∧ Ext h0 h' := by
  refine ret_of_X Try.func8 rfl rfl fun w0 hw0 => ?_
  simp only [argE, Nat.zero_add, Nat.reduceAdd]
  refine X_seq ?_
  refine X_reg ?_
  refine XR_a (op_assign rfl) rfl rfl ?_
  by_cases hR : rightC li
  · refine XR_nil ?_
    refine X_seq ?_
    refine X_reg ?_
    refine XR_a (op_move rfl) rfl rfl ?_
    refine XR_wa (opl_call (width_ref width _) rfl (by kernel_rfl)) rfl rfl rfl ?_
    rintro _ _ ⟨rfl, rfl⟩
    obtain ⟨_, hw⟩ := widthN_int width
    obtain ⟨w, hwe⟩ : ∃ w, widthN width = w := ⟨_, rfl⟩
    rw [hwe] at hw ⊢
    have hpw : 2 ^ w ≤ 32768 := Nat.pow_le_pow_right (n := 2) (by omega) hw.2
    refine XR_a (op_assign rfl) rfl rfl ?_
    refine XR_nil ?_
    refine X_seq ?_
    refine X_seq ?_
    refine X_reg ?_
    refine XR_a (op_move rfl) rfl rfl ?_
    refine XR_a (op_len rfl rfl rfl) rfl rfl ?_
    refine XR_a (op_gtr rfl rfl) rfl rfl ?_
    refine XR_a (op_move rfl) rfl rfl ?_
    refine XR_if 23 rfl (fun h => ?_) (fun h => ?_)
    · refine XR_no rfl rfl ?_
      refine XR_no rfl rfl ?_
      refine XR_a (op_pick_t rfl rfl) rfl rfl ?_
      refine XR_a (op_move rfl) rfl rfl ?_
      refine XR_no rfl rfl ?_
      refine XR_no rfl rfl ?_
      refine XR_no rfl rfl ?_
      refine XR_a (op_pick_t rfl rfl) rfl rfl ?_
      refine XR_nil ?_
      refine X_then rfl ?_
      refine X_seq ?_
      refine X_reg ?_
      refine XR_wa (opl_call (lives34 _) rfl (by kernel_rfl)) rfl rfl rfl ?_
      rintro _ hp ⟨rfl, hx⟩
      refine XR_a (op_assign rfl) rfl rfl ?_
      refine XR_nil ?_
      refine X_ret (.cons (.tmp rfl) .nil) ?_
      exact ⟨rfl, hx⟩
    · refine XR_a (op_move rfl) rfl rfl ?_
      refine XR_a (op_gtr rfl rfl) rfl rfl ?_
      refine XR_a (op_pick_f rfl rfl) rfl rfl ?_
      refine XR_a (op_move rfl) rfl rfl ?_
      refine XR_if 27 rfl (fun h => ?_) (fun h => ?_)
      · refine XR_no rfl rfl ?_
        refine XR_no rfl rfl ?_
        refine XR_no rfl rfl ?_
        refine XR_a (op_pick_t rfl rfl) rfl rfl ?_
        refine XR_nil ?_
        refine X_then rfl ?_
        refine X_seq ?_
        refine X_reg ?_
        refine XR_wa (opl_call (lives34 _) rfl (by kernel_rfl)) rfl rfl rfl ?_
        rintro _ hp ⟨rfl, hx⟩
        refine XR_a (op_assign rfl) rfl rfl ?_
        refine XR_nil ?_
        refine X_ret (.cons (.tmp rfl) .nil) ?_
        exact ⟨rfl, hx⟩
      · refine XR_a (op_move rfl) rfl rfl ?_
        refine XR_wa (opl_call (right08_ref hr hl hn) rfl (by kernel_rfl)) rfl rfl rfl ?_
        rintro _ hp ⟨rfl, rfl⟩
        rw [decide_eq_true hR]
        refine XR_a (op_not rfl) rfl rfl ?_
        refine XR_a (op_pick_f rfl rfl) rfl rfl ?_
        refine XR_nil ?_
        refine X_else rfl ?_
        refine X_skip ?_
        refine X_seq ?_
        refine X_reg ?_
        refine XR_a (op_move rfl) rfl rfl ?_
        refine XR_a (op_move rfl) rfl rfl ?_
        refine XR_wa (opl_call (qnew_spec width hr hl hn) rfl (by kernel_rfl)) rfl rfl rfl ?_
        rintro _ hp2 ⟨w2, rfl, hx2, hy2, _⟩
        obtain ⟨p, rfl, st⟩ := hy2 hR
        rw [errC_pos hR]
        have hok := hR.ok
        have hr2 : Rd h0 A ((li.map Int.toNat).map nV) := by rw [← bounded_nat hR.2.1]; exact hr
        have hl2 : (li.map Int.toNat).length = n := by rw [List.length_map]; exact hl
        obtain ⟨ls, hl3⟩ : ∃ ls, li.map Int.toNat = ls := ⟨_, rfl⟩
        rw [hl3, hwe] at st
        rw [hl3] at hok hr2 hl2
        have h320 := hok.2.1
        have h1n := hok.1
        have hQ := qcodes_ok hok
        refine XR_a (op_move rfl) rfl rfl ?_
        refine XR_a (op_extract rfl rfl) rfl rfl ?_
        refine XR_a (op_extract rfl rfl) rfl rfl ?_
        refine XR_a (op_assign rfl) rfl rfl ?_
        refine XR_a (op_assign rfl) rfl rfl ?_
        refine XR_nil ?_
        refine X_seq ?_
        refine X_seq ?_
        refine X_reg ?_
        refine XR_a (op_move rfl) rfl rfl ?_
        refine XR_a (op_neq rfl rfl) rfl rfl ?_
        refine XR_a (op_move rfl) rfl rfl ?_
        refine XR_a (op_move rfl) rfl rfl ?_
        refine XR_a (op_ptr_nil rfl rfl rfl) rfl rfl ?_
        refine XR_a (op_pick_f rfl rfl) rfl rfl ?_
        refine XR_nil ?_
        refine X_else rfl ?_
        refine X_skip ?_
        refine X_seq ?_
        refine X_reg ?_
        refine XR_a (op_move rfl) rfl rfl ?_
        refine XR_wa (opl_call (values08_ref (hr2.ext st.low) hl2 hok) rfl (by kernel_rfl)) rfl rfl rfl ?_
        rintro vv hp3 st2
        replace st := st.join st2
        simp only [List.cons_append, List.nil_append] at st
        obtain ⟨A7, n7, c7, rfl, hlen7, _, _, hrd7⟩ := st.row 0 rfl
        rw [List.length_map, vals_length] at hlen7
        obtain rfl : n7 = n := by omega
        refine XR_a (op_assign rfl) rfl rfl ?_
        refine XR_nil ?_
        refine X_seq ?_
        refine X_reg ?_
        refine XR_a (op_assign rfl) rfl rfl ?_
        refine XR_nil ?_
        refine X_seq ?_
        refine X_seq ?_
        refine X_reg ?_
        refine XR_a (op_assign rfl) rfl rfl ?_
        refine XR_nil ?_
        refine X_block ?_
        refine X_loop (fun i => w - i) (fun i => [(0, .slice A n7 c), (5, nV w), (6, .pointer (some ⟨p, 0, none⟩)), (8, .slice A7 n7 c7), (9, .int .i64 (2 ^ i : Nat)), (10, .int .i64 (i : Nat))])
          (fun (i : Nat) hp => hp = hp3 ∧ i ≤ w)
          0 (.cons rfl (.cons rfl (.cons rfl (.cons rfl (.cons rfl (.cons rfl (.nil _))))))) ⟨rfl, by omega⟩ ?_
        rintro i hp ⟨rfl, hi⟩
        have hpi : 2 ^ i ≤ 32768 := Nat.pow_le_pow_right (n := 2) (by omega) (show i ≤ 15 by omega)
        refine X_seq ?_
        refine X_seq ?_
        refine X_reg ?_
        refine XR_a (op_move rfl) rfl rfl ?_
        refine XR_a (op_move rfl) rfl rfl ?_
        refine XR_a (op_lss rfl rfl) rfl rfl ?_
        refine XR_nil ?_
        refine X_if rfl (fun h => ?_) (fun h => ?_)
        · refine X_skip ?_
          refine X_seq ?_
          refine X_block ?_
          refine X_reg ?_
          refine XR_a (op_move rfl) rfl rfl ?_
          refine XR_a (op_mulN (m := 2) (n := 2 ^ i) rfl rfl (by simp only [inK]; omega)) rfl rfl ?_
          refine XR_a (op_assign rfl) rfl rfl ?_
          refine XR_nil ?_
          refine X_blk ?_
          refine X_reg ?_
          refine XR_a (op_move rfl) rfl rfl ?_
          first | refine XR_a (op_addN (n := 1) rfl rfl (by simp only [inK]; omega)) rfl rfl ?_ | refine XR_a (op_addI rfl rfl (by simp only [inK]; omega)) rfl rfl ?_ | refine XR_a (op_add rfl rfl) rfl rfl ?_
          refine XR_a (op_assign rfl) rfl rfl ?_
          refine XR_nil ?_
          exact X_again (i + 1) (.cons rfl (.cons rfl (.cons rfl (.cons rfl (.cons (by rw [Nat.pow_succ, Nat.mul_comm]; rfl) (.cons rfl (.nil _))))))) ⟨rfl, by omega⟩ (by omega)
        · refine X_exit rfl ?_
          refine X_seq ?_
          refine X_reg ?_
          refine XR_a (op_move rfl) rfl rfl ?_
          refine XR_a (op_assign rfl) rfl rfl ?_
          refine XR_nil ?_
          refine X_seq ?_
          refine X_seq ?_
          refine X_reg ?_
          refine XR_a (op_assign rfl) rfl rfl ?_
          refine XR_nil ?_
          refine X_block ?_
          obtain rfl : i = w := by omega
          have sq := st.tail
          refine X_loop (fun m => 2 ^ i - m) (fun m => [(0, .slice A n7 c), (5, nV i), (6, .pointer (some ⟨p, 0, none⟩)), (8, .slice A7 n7 c7), (9, .int .i64 (2 ^ i : Nat)), (11, .int .i64 (sizeTo (qcodes ls) i m : Nat)), (12, .int .i64 (m : Nat))])
            (fun (m : Nat) hp' => Ext hp hp' ∧ m ≤ 2 ^ i)
            0 (.cons rfl (.cons rfl (.cons rfl (.cons rfl (.cons rfl (.cons (by rw [sizeTo_zero]; rfl) (.cons rfl (.nil _)))))))) ⟨Ext.refl _, Nat.zero_le _⟩ ?_
          rintro m hp5 ⟨hx5, hm⟩
          refine X_seq ?_
          refine X_seq ?_
          refine X_reg ?_
          refine XR_a (op_move rfl) rfl rfl ?_
          refine XR_a (op_move rfl) rfl rfl ?_
          refine XR_a (op_lss rfl rfl) rfl rfl ?_
          refine XR_nil ?_
          refine X_if rfl (fun h => ?_) (fun h => ?_)
          · have hmlt : m < 2 ^ i := by omega
            have hsz := sizeTo_succ (qcodes ls) i m
            have hszl := sizeTo_le hQ hw.2 m
            have hrl := rowQ_len hQ i m
            refine X_skip ?_
            refine X_seq ?_
            refine X_block ?_
            refine X_seq ?_
            refine X_reg ?_
            refine XR_a (op_move rfl) rfl rfl ?_
            refine XR_a (op_move rfl) rfl rfl ?_
            refine XR_a (op_move rfl) rfl rfl ?_
            refine XR_a (op_move rfl) rfl rfl ?_
            refine XR_wa (opl_call (find_ref (x := m) (w := i) ((hr2.ext st.low).ext hx5) hl2 (hrd7.ext hx5) hok hw.2 hmlt) rfl (by kernel_rfl)) rfl rfl rfl ?_
            rintro _ hp6 ⟨rfl, hx6⟩
            refine XR_a (op_move rfl) rfl rfl ?_
            refine XR_a (op_extract rfl rfl) rfl rfl ?_
            refine XR_a (op_extract rfl rfl) rfl rfl ?_
            refine XR_a (op_extract rfl rfl) rfl rfl ?_
            refine XR_a (op_assign rfl) rfl rfl ?_
            refine XR_a (op_assign rfl) rfl rfl ?_
            refine XR_a (op_assign rfl) rfl rfl ?_
            refine XR_nil ?_
            refine X_seq ?_
            refine X_seq ?_
            refine X_reg ?_
            refine XR_a (op_move rfl) rfl rfl ?_
            first | refine XR_a (op_notd rfl) rfl rfl ?_ | refine XR_a (op_not rfl) rfl rfl ?_
            refine XR_nil ?_
            refine X_cond rfl (fun h => ?_) (fun h => ?_)
            · refine X_exit rfl ?_
              refine X_reg ?_
              refine XR_a (op_move rfl) rfl rfl ?_
              first | refine XR_a (op_addN (n := 1) rfl rfl (by simp only [inK]; omega)) rfl rfl ?_ | refine XR_a (op_addI rfl rfl (by simp only [inK]; omega)) rfl rfl ?_ | refine XR_a (op_add rfl rfl) rfl rfl ?_
              refine XR_a (op_assign rfl) rfl rfl ?_
              refine XR_nil ?_
              have hd : (rowQ (qcodes ls) i m).2.2 = false := by simpa using h
              rw [hd] at hsz
              exact X_again (m + 1) (.cons rfl (.cons rfl (.cons rfl (.cons rfl (.cons rfl (.cons (by rw [hsz]; rfl) (.cons rfl (.nil _)))))))) ⟨hx5.trans hx6, by omega⟩ (by omega)
            · refine X_skip ?_
              refine X_seq ?_
              refine X_reg ?_
              refine XR_a (op_assign rfl) rfl rfl ?_
              refine XR_nil ?_
              refine X_seq ?_
              refine X_seq ?_
              refine X_reg ?_
              refine XR_a (op_move rfl) rfl rfl ?_
              refine XR_a (op_assign rfl) rfl rfl ?_
              refine XR_nil ?_
              refine X_block ?_
              have hd : (rowQ (qcodes ls) i m).2.2 = true := by simpa using h
              rw [hd, if_pos rfl] at hsz
              obtain ⟨hre, hL0⟩ := rowQ_deep hd
              obtain ⟨c0, hc0, hcl0, hLe⟩ := longest_in hL0
              have hL1 := (longQ_iff.1 hcl0).1
              have hLr : (rowQ (qcodes ls) i m).2.1 = longest (qcodes ls) i m := by rw [hre]
              obtain ⟨L, hL⟩ : ∃ L, (rowQ (qcodes ls) i m).2.1 = L := ⟨_, rfl⟩
              rw [hL] at hsz hrl hLr
              refine X_loop (fun k => L - k) (fun k => [(0, .slice A n7 c), (5, nV i), (6, .pointer (some ⟨p, 0, none⟩)), (8, .slice A7 n7 c7), (9, .int .i64 (2 ^ i : Nat)), (11, .int .i64 (sizeTo (qcodes ls) i m : Nat)), (12, .int .i64 (m : Nat)), (14, nV L), (16, .int .i64 (2 ^ (k - i) : Nat)), (17, .int .i64 (k : Nat))])
                (fun (k : Nat) hp' => hp' = hp6 ∧ i ≤ k ∧ k ≤ L)
                i (.cons rfl (.cons rfl (.cons rfl (.cons rfl (.cons rfl (.cons rfl (.cons rfl (.cons (by rw [← hL]; rfl) (.cons (by rw [Nat.sub_self]; rfl) (.cons rfl (.nil _))))))))))) ⟨rfl, by omega, by omega⟩ ?_
              rintro k hp7 ⟨rfl, hk1, hk2⟩
              have hpk : 2 ^ (k - i) ≤ 32768 := Nat.pow_le_pow_right (n := 2) (by omega) (show k - i ≤ 15 by omega)
              refine X_seq ?_
              refine X_seq ?_
              refine X_reg ?_
              refine XR_a (op_move rfl) rfl rfl ?_
              refine XR_a (op_move rfl) rfl rfl ?_
              refine XR_a (op_lss rfl rfl) rfl rfl ?_
              refine XR_nil ?_
              refine X_if rfl (fun h => ?_) (fun h => ?_)
              · refine X_skip ?_
                refine X_seq ?_
                refine X_block ?_
                refine X_reg ?_
                refine XR_a (op_move rfl) rfl rfl ?_
                refine XR_a (op_mulN (m := 2) (n := 2 ^ (k - i)) rfl rfl (by simp only [inK]; omega)) rfl rfl ?_
                refine XR_a (op_assign rfl) rfl rfl ?_
                refine XR_nil ?_
                refine X_blk ?_
                refine X_reg ?_
                refine XR_a (op_move rfl) rfl rfl ?_
                first | refine XR_a (op_addN (n := 1) rfl rfl (by simp only [inK]; omega)) rfl rfl ?_ | refine XR_a (op_addI rfl rfl (by simp only [inK]; omega)) rfl rfl ?_ | refine XR_a (op_add rfl rfl) rfl rfl ?_
                refine XR_a (op_assign rfl) rfl rfl ?_
                refine XR_nil ?_
                exact X_again (k + 1) (.cons rfl (.cons rfl (.cons rfl (.cons rfl (.cons rfl (.cons rfl (.cons rfl (.cons rfl (.cons (by rw [show k + 1 - i = (k - i) + 1 by omega, Nat.pow_succ, Nat.mul_comm]; rfl) (.cons rfl (.nil _))))))))))) ⟨rfl, by omega, by omega⟩ (by omega)
              · obtain rfl : k = L := by omega
                refine X_exit rfl ?_
                refine X_reg ?_
                refine XR_a (op_move rfl) rfl rfl ?_
                refine XR_a (op_move rfl) rfl rfl ?_
                refine XR_a (op_addN (m := sizeTo (qcodes ls) i m) (n := 2 ^ (k - i)) rfl rfl (by simp only [inK]; omega)) rfl rfl ?_
                refine XR_a (op_assign rfl) rfl rfl ?_
                refine XR_nil ?_
                refine X_blk ?_
                refine X_reg ?_
                refine XR_a (op_move rfl) rfl rfl ?_
                first | refine XR_a (op_addN (n := 1) rfl rfl (by simp only [inK]; omega)) rfl rfl ?_ | refine XR_a (op_addI rfl rfl (by simp only [inK]; omega)) rfl rfl ?_ | refine XR_a (op_add rfl rfl) rfl rfl ?_
                refine XR_a (op_assign rfl) rfl rfl ?_
                refine XR_nil ?_
                exact X_again (m + 1) (.cons rfl (.cons rfl (.cons rfl (.cons rfl (.cons rfl (.cons (by rw [hsz]; rfl) (.cons rfl (.nil _)))))))) ⟨hx5.trans hx6, by omega⟩ (by omega)
          · obtain rfl : m = 2 ^ i := by omega
            refine X_exit rfl ?_
            refine X_seq ?_
            refine X_reg ?_
            refine XR_a (op_move rfl) rfl rfl ?_
            refine XR_wa (opl_call (qsize_spec (sq.ext hx5)) rfl (by kernel_rfl)) rfl rfl rfl ?_
            rintro _ _ ⟨rfl, rfl⟩
            refine XR_a (op_move rfl) rfl rfl ?_
            refine XR_a (op_eql rfl rfl) rfl rfl ?_
            refine XR_as (.bool true) (by rw [decide_eq_true rfl]) ?_
            refine XR_a (op_move rfl) rfl rfl ?_
            refine XR_wa (opl_call (lives34 _) rfl (by kernel_rfl)) rfl rfl rfl ?_
            rintro _ hp ⟨rfl, hx⟩
            refine XR_a (op_pick_t rfl rfl) rfl rfl ?_
            refine XR_a (op_assign rfl) rfl rfl ?_
            refine XR_nil ?_
            refine X_ret (.cons (.tmp rfl) .nil) ?_
            exact ⟨rfl, (Ext.trans st.low hx5).trans hx⟩
  · refine XR_nil ?_
    refine X_seq ?_
    refine X_reg ?_
    refine XR_a (op_move rfl) rfl rfl ?_
    refine XR_wa (opl_call (width_ref width _) rfl (by kernel_rfl)) rfl rfl rfl ?_
    rintro _ _ ⟨rfl, rfl⟩
    obtain ⟨_, hw⟩ := widthN_int width
    obtain ⟨w, hwe⟩ : ∃ w, widthN width = w := ⟨_, rfl⟩
    rw [hwe] at hw ⊢
    have hpw : 2 ^ w ≤ 32768 := Nat.pow_le_pow_right (n := 2) (by omega) hw.2
    refine XR_a (op_assign rfl) rfl rfl ?_
    refine XR_nil ?_
    refine X_seq ?_
    refine X_seq ?_
    refine X_reg ?_
    refine XR_a (op_move rfl) rfl rfl ?_
    refine XR_a (op_len rfl rfl rfl) rfl rfl ?_
    refine XR_a (op_gtr rfl rfl) rfl rfl ?_
    refine XR_a (op_move rfl) rfl rfl ?_
    refine XR_if 23 rfl (fun h => ?_) (fun h => ?_)
    · refine XR_no rfl rfl ?_
      refine XR_no rfl rfl ?_
      refine XR_a (op_pick_t rfl rfl) rfl rfl ?_
      refine XR_a (op_move rfl) rfl rfl ?_
      refine XR_no rfl rfl ?_
      refine XR_no rfl rfl ?_
      refine XR_no rfl rfl ?_
      refine XR_a (op_pick_t rfl rfl) rfl rfl ?_
      refine XR_nil ?_
      refine X_then rfl ?_
      refine X_seq ?_
      refine X_reg ?_
      refine XR_wa (opl_call (lives34 _) rfl (by kernel_rfl)) rfl rfl rfl ?_
      rintro _ hp ⟨rfl, hx⟩
      refine XR_a (op_assign rfl) rfl rfl ?_
      refine XR_nil ?_
      refine X_ret (.cons (.tmp rfl) .nil) ?_
      exact ⟨rfl, hx⟩
    · refine XR_a (op_move rfl) rfl rfl ?_
      refine XR_a (op_gtr rfl rfl) rfl rfl ?_
      refine XR_a (op_pick_f rfl rfl) rfl rfl ?_
      refine XR_a (op_move rfl) rfl rfl ?_
      refine XR_if 27 rfl (fun h => ?_) (fun h => ?_)
      · refine XR_no rfl rfl ?_
        refine XR_no rfl rfl ?_
        refine XR_no rfl rfl ?_
        refine XR_a (op_pick_t rfl rfl) rfl rfl ?_
        refine XR_nil ?_
        refine X_then rfl ?_
        refine X_seq ?_
        refine X_reg ?_
        refine XR_wa (opl_call (lives34 _) rfl (by kernel_rfl)) rfl rfl rfl ?_
        rintro _ hp ⟨rfl, hx⟩
        refine XR_a (op_assign rfl) rfl rfl ?_
        refine XR_nil ?_
        refine X_ret (.cons (.tmp rfl) .nil) ?_
        exact ⟨rfl, hx⟩
      · refine XR_a (op_move rfl) rfl rfl ?_
        refine XR_wa (opl_call (right08_ref hr hl hn) rfl (by kernel_rfl)) rfl rfl rfl ?_
        rintro _ hp ⟨rfl, rfl⟩
        rw [decide_eq_false hR]
        refine XR_a (op_not rfl) rfl rfl ?_
        refine XR_a (op_pick_f rfl rfl) rfl rfl ?_
        refine XR_nil ?_
        refine X_then rfl ?_
        refine X_seq ?_
        refine X_reg ?_
        refine XR_wa (opl_call (lives34 _) rfl (by kernel_rfl)) rfl rfl rfl ?_
        rintro _ hp ⟨rfl, hx⟩
        refine XR_a (op_assign rfl) rfl rfl ?_
        refine XR_nil ?_
        refine X_ret (.cons (.tmp rfl) .nil) ?_
        exact ⟨rfl, hx⟩
end Go.Bn
